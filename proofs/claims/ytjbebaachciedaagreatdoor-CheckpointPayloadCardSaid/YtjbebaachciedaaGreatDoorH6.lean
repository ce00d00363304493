/- Contracts of functions, by their numbers, and the laws that walk them. Conditions: as each states. -/
import Derived.Test.YtjbebaachciedaaGreatDoorH4
import Derived.Test.YtjbebaachciedaaGreatDoorH5
set_option linter.all false
section
set_option linter.all false
namespace Go.Dc
open Go Go.Hw Go.Proofs
set_option maxRecDepth 100000
def checkpoint_Valid_L1 (fuelN : Nat) : List Frame -> Nat -> Option (Unit ⊕ Bool)
 | [], k51 => some (.inl ())
 | x70 :: q66, k51 => Option.bind (checkpoint_validFrame fuelN x70) (fun y73 => cond (!y73) (some (.inr false)) (checkpoint_Valid_L1 fuelN q66 (k51 + 1)))
def checkpoint_Valid (fuelN : Nat) (a0 : Snapshot) : Option Bool :=
 cond (orB (orB (orB (orB (ltI a0.Count 0) (ltI 1048576 a0.Count)) (ltI a0.Blocked 0)) (ltI 1048576 a0.Blocked)) (ltI 512 ((a0.Frames.length : Nat) : Int))) (some false) (cond (andB (ltI 0 ((a0.Frames.length : Nat) : Int)) (orB a0.Done (eqI a0.Count 0))) (some false) (Option.bind (α := Unit ⊕ Bool) (Option.bind (checkpoint_Valid_L1 fuelN a0.Frames 0) (fun o => match o with | .inl _ => some (.inl ()) | .inr r76 => some (.inr r76))) (fun o => match o with | .inl _ => some true | .inr r77 => some r77)))
set_option maxHeartbeats 2000000 in
theorem at_checkpoint_Valid {fuelN : Nat} {a0 : Snapshot} {r : Bool} (hs : checkpoint_Valid fuelN a0 = some r) : At Tryz.prog 12 [.agg (eA a0)] (bV r) := by
 refine at_bound (by kernel_rfl) fun hb => ?_
 have hb1 : LenOk (.sl a0.Frames.length (encL a0.Frames)) := lkc hb
 refine at_code mixed Tryz.func12 (by kernel_rfl) rfl (by kernel_rfl) rfl fun Q hQ => ?_
 rw [checkpoint_Valid] at hs
 refine goG f0 f0 ?_
 revert hs; refine cS f0 ?_ ?_ <;> intro h1 hs
 ·refine goG f0 f0 ?_
  obtain rfl := sj hs
  exact hQ _ _ (rg f0 (Gh.refl _))
 ·refine goG f0 f0 ?_
  revert hs; refine cS f0 ?_ ?_ <;> intro h2 hs
  ·refine goG f0 f0 ?_
   obtain rfl := sj hs
   exact hQ _ _ (rg f0 (Gh.refl _))
  ·refine goG2 f0 f0 ?_
   revert hs; refine bK fun o39 e38 hs => ?_
   refine awp_cutK (fun (v : Unit) (σ : St) => some (.inl v) = some o39 /\ 4 <= σ.gen) (by rfl) (fun Q hK40 hX41 => ?_) (fun v σ3 hp => ?_)
   ·refine goG f0 f0 ?_
    revert e38; refine bK fun o61 e60 e38 => ?_
    refine awp_loopW (fun (v : (List Frame) × Nat) (σ : St) => checkpoint_Valid_L1 fuelN v.1 v.2 = some o61 /\ v.1 = a0.Frames.drop v.2 /\ σ.env 43 = .cell (sC a0.Frames) /\ σ.env 44 = iV .i64 ((a0.Frames.length : Nat) : Int) /\ σ.env 45 = iV .i64 ((v.2 : Nat) : Int) /\ 4 <= σ.gen) (fun v => v.1.length) _ (Gh.refl _) (a0.Frames, 0) ⟨e60, by simp, pv f0, pv f0, pv f0, pg⟩ fun v σ6 hp L62 hL63 => ?_
    obtain ⟨q65, k51⟩ := v
    dsimp only at hp hL63
    obtain ⟨e60, hd64, h5_43, h5_44, h5_45, n5_g⟩ := hp
    rcases q65 with _ | ⟨x70, q66⟩
    ·have hlt67 := drop_end hd64
     rw [checkpoint_Valid_L1] at e60; try dsimp only at e60
     have F1 := an h5_43 (an h5_44 h5_45)
     refine goR F1 ?_
     refine condK_f (by simp [ltI]; omega) ?_
     obtain rfl := sj e60
     try dsimp only at e38
     exact hK40 () _ _ (Gh.refl _) ⟨e38, pg⟩
    ·obtain ⟨hx69, hlt67, hd71⟩ := drop_next hd64
     have ew68 := wrap_succ hlt67 (hb1).len
     rw [checkpoint_Valid_L1] at e60; try dsimp only at e60
     have F2 := an h5_43 (an h5_44 (an h5_45 (an hlt67 ew68)))
     refine goR F2 ?_
     refine condK_t (by simp [ltI]; omega) ?_
     have f72 : partCV Tryz.prog 59 (encL a0.Frames) (k51 * 4) = some (.agg (eA x70)) := partCV_enc hx69 (f := 0) (by simp)
     have F3 := an F2 f72
     refine goR F3 ?_
     revert e60; refine bK fun y73 hx74 e60 => ?_
     refine cP F3 (at_checkpoint_validFrame hx74) ?_
     refine goR F3 ?_
     revert e60; refine cS F3 ?_ ?_ <;> intro h75 e60
     ·refine goR F3 ?_
      obtain rfl := sj e60
      try dsimp only at e38
      obtain rfl := sj e38
      try dsimp only at hs
      refine hX41 _ _ (by simp) ?_
      refine goR F3 ?_
      obtain rfl := sj hs
      exact hQ _ _ (rg F3 (Gh.refl _))
     ·refine goR F3 ?_
      exact hL63 (q66, (k51 + 1)) _ _ (Gh.refl _) ⟨e60, hd71, pv F3, pv F3, pv F3, pg⟩ (by simp)
   ·obtain ⟨e38, n4_g⟩ := hp
    obtain rfl := sj e38
    try dsimp only at hs
    refine goG f0 f0 ?_
    obtain rfl := sj hs
    exact hQ _ _ (rg f0 (Gh.refl _))
end Go.Dc
end
section
set_option linter.all false
namespace Go.Dc.Pl
open Go Go.Hw Go.Dc
def agentOk (n : Int) : Bool := andB (!(ltI n (-2147483648))) (!(ltI 2147483647 n))
theorem own_agent (n : Int) : checkpoint_agent n = some (agentOk n) := rfl
def shal : Nat -> List Tree -> Bool
 | 0, l => decide (l.length = 0)
 | m + 1, l => l.all fun k => agentOk k.Agent && shal m k.Kids
def nodupA (l : List Tree) (k : Nat) (x : Tree) : Bool := (l.take k).any fun y => eqI y.Agent x.Agent
def dist : Nat -> List Tree -> Bool
 | 0, _ => true
 | m + 1, l => !((l.zipIdx 0).any fun x => nodupA l x.2 x.1 || !dist m x.1.Kids)
def wid (B : Nat) : Nat -> List Tree -> Prop
 | 0, _ => True
 | m + 1, l => l.length <= B /\ ∀ k ∈ l, wid B m k.Kids
theorem any_not_all {α : Type} (p : α -> Bool) (l : List α) : (l.any fun x => !p x) = !l.all p := by induction l with
 | nil => rfl
 | cons x l ih => rw [List.any_cons, List.all_cons, ih]; cases p x <;> rfl
theorem own_shal : ∀ (m f : Nat) (t : Tree), m <= 1000 -> m < f -> checkpoint_shallow f t (m : Int) = some (shal m t.Kids) := by
 intro m
 induction m with
 | zero =>
  intro f t _ hf
  obtain ⟨f, rfl⟩ : ∃ k, f = k + 1 := ⟨f - 1, by omega⟩
  show checkpoint_shallow_B (checkpoint_shallow f) t ((0 : Nat) : Int) = _
  unfold checkpoint_shallow_B
  rw [shal]
  cases hk : t.Kids with
  | nil => rfl
  | cons x l => rw [show eqI ((0 : Nat) : Int) 0 = true from rfl, ltI_d, decide_eq_true (by simp), decide_eq_false (by simp)]; rfl
 | succ m ih =>
  intro f t hm hf
  obtain ⟨f, rfl⟩ : ∃ k, f = k + 1 := ⟨f - 1, by omega⟩
  show checkpoint_shallow_B (checkpoint_shallow f) t ((m + 1 : Nat) : Int) = _
  unfold checkpoint_shallow_B
  have h := srch (L := checkpoint_shallow_L1 ((m + 1 : Nat) : Int) (checkpoint_shallow f)) (fun _ (k : Tree) => onlyIf (!(agentOk k.Agent && shal m k.Kids)) false) (fun _ => rfl) t.Kids 0 fun j x hx q => by
   rw [checkpoint_shallow_L1, own_agent, Option.bind_some, show ((m + 1 : Nat) : Int) - 1 = (m : Int) by omega, wrapN (by omega), ih f x (by omega) (by omega), show (some (shal m x.Kids)).isSome = true from rfl, orB_t, guardO_t]
   rw [show orB (!agentOk x.Agent) (!((some (shal m x.Kids)).getD default)) = !(agentOk x.Agent && shal m x.Kids) by cases agentOk x.Agent <;> rfl]
   exact step_only _ _ _
  rw [first_onlyC, any_not_all] at h
  rw [show eqI ((m + 1 : Nat) : Int) 0 = false by rw [eqI_d, decide_eq_false (by omega)], andB_d, Bool.and_false, cond_false, h, shal]
  cases t.Kids.all fun k => agentOk k.Agent && shal m k.Kids <;> rfl
theorem own_dist {B : Nat} (hB : B <= 1000000000) : ∀ (m f : Nat) (l : List Tree), B + m + 5 <= f -> shal m l = true -> wid B m l -> wakeup_Valid_1_wakeup_Valid_1 f l = some (dist m l) := by
 intro m
 induction m with
 | zero =>
  intro f l hf hs _
  obtain ⟨f, rfl⟩ : ∃ k, f = k + 2 := ⟨f - 2, by omega⟩
  simp only [shal, decide_eq_true_eq, List.length_eq_zero_iff] at hs
  subst hs; rfl
 | succ m ih =>
  intro f l hf hs hw
  obtain ⟨f, rfl⟩ : ∃ k, f = k + 1 := ⟨f - 1, by omega⟩
  rw [shal, List.all_eq_true] at hs
  show wakeup_Valid_1_wakeup_Valid_1_B (wakeup_Valid_1_wakeup_Valid_1 f) f l = _
  unfold wakeup_Valid_1_wakeup_Valid_1_B
  have h := srchI (L := fun q i => wakeup_Valid_1_wakeup_Valid_1_L1 l (wakeup_Valid_1_wakeup_Valid_1 f) q i) l (fun k x => onlyIf (nodupA l k x || !dist m x.Kids) false) (fun q => by
    show wakeup_Valid_1_wakeup_Valid_1_L1 _ _ (q + 1) _ = _
    rw [wakeup_Valid_1_wakeup_Valid_1_L1, ltI_d, decide_eq_false (by omega)]; rfl) (fun q k x hx => by
    have hk := getN_some hx
    have hm := List.mem_of_getElem? hx
    have h1 := hs x hm
    rw [Bool.and_eq_true] at h1
    show wakeup_Valid_1_wakeup_Valid_1_L1 _ _ (q + 1) _ = stepS _ (wakeup_Valid_1_wakeup_Valid_1_L1 _ _ q _)
    have h2 := srch (L := wakeup_Valid_1_wakeup_Valid_1_L2 x) (fun _ (y : Tree) => onlyIf (eqI y.Agent x.Agent) false) (fun _ => rfl) (l.take k) 0 fun j y hy q => by
     rw [wakeup_Valid_1_wakeup_Valid_1_L2]; exact step_only _ _ _
    rw [first_onlyC] at h2
    rw [wakeup_Valid_1_wakeup_Valid_1_L1, ltI_d, decide_eq_true (by omega), cond_true, getI_nat, hx]
    simp only [Option.bind_some]
    have hlen : l.length <= B := hw.1
    rw [show slB 0 (k : Int) l.length = true by simp [slB]; omega, guardO_t, show subL l 0 (k : Int) = l.take k by simp [subL], h2, ih f x.Kids (by omega) h1.2 (hw.2 x hm), wrapS (by omega)]
    show _ = stepS (onlyIf (nodupA l k x || !dist m x.Kids) false) _
    rw [show (List.take k l).any (fun y => eqI y.Agent x.Agent) = nodupA l k x from rfl]
    cases nodupA l k x <;> cases dist m x.Kids <;> rfl) f 0 (by omega) (by have := hw.1; omega)
  rw [List.drop_zero, first_only] at h
  simp only [show ((0 : Nat) : Int) = 0 from rfl] at h
  rw [h, dist]
  cases (l.zipIdx 0).any fun x => nodupA l x.2 x.1 || !dist m x.1.Kids <;> rfl
def wakeOk (t : Tree) : Bool := eqI t.Agent 0 && dist 512 t.Kids
theorem own_wake {B f : Nat} (hB : B <= 1000000000) {t : Tree} (hf : B + 600 <= f) (hs : shal 512 t.Kids = true) (hw : wid B 512 t.Kids) : wakeup_Valid f t = some (wakeOk t) := by
 rw [wakeup_Valid, own_dist hB 512 f t.Kids (by omega) hs hw, wakeOk]
 cases eqI t.Agent 0 <;> rfl
def badS (l : List Int) (g : Int) (k : Nat) (x : Int) : Bool := orB (orB (!agentOk x) (eqI x g)) (andB (ltI 0 (k : Int)) (!(ltI (gd l (k - 1)) x)))
def sleepBad (f : Frame) : Bool := (f.Sleep.zipIdx 0).any fun x => badS f.Sleep f.Agent x.2 x.1
def headOk (g : Int) : List Tree -> Bool
 | x :: _ => andB (eqI x.Agent g) (eqI ((x.Kids.length : Nat) : Int) 0)
 | [] => false
def treeOk (f : Frame) : Bool := shal 512 f.Tree.Kids && (wakeOk f.Tree && headOk f.Agent f.Tree.Kids)
def validF (f : Frame) : Bool := agentOk f.Agent && (decide (f.Sleep.length <= 2048) && (!sleepBad f && treeOk f))
theorem own_validF {B n : Nat} (hB : B <= 1000000000) {f : Frame} (hn : B + 600 <= n) (hw : wid B 512 f.Tree.Kids) : checkpoint_validFrame n f = some (validF f) := by
 rw [checkpoint_validFrame, own_agent, Option.bind_some, validF]
 cases ha : agentOk f.Agent with
 | false => rfl
 | true =>
  rw [Bool.not_true, orB_d, Bool.false_or, ltI_d]
  by_cases hl : f.Sleep.length <= 2048
  ·rw [decide_eq_false (by omega), cond_false, decide_eq_true hl, Bool.true_and, Bool.true_and]
   have h := srch (L := checkpoint_validFrame_L1 f) (fun k x => onlyIf (badS f.Sleep f.Agent k x) false) (fun _ => rfl) f.Sleep 0 fun j x hx q => by
    have hj := getN_some hx
    rw [Nat.zero_add, checkpoint_validFrame_L1, own_agent, Option.bind_some]
    have e1 : (IntKind.i64.wrap ((j : Int) - 1)).toNat = j - 1 := by rw [wrap_i64 (by omega) (by omega)]; omega
    have e2 : orB (!(andB (!(orB (!agentOk x) (eqI x f.Agent))) (ltI 0 ((j : Nat) : Int)))) (inB (IntKind.i64.wrap (((j : Nat) : Int) - 1)) f.Sleep.length) = true := by
     rw [wrap_i64 (by omega) (by omega), orB_d, inB_d, andB_d, ltI_d]
     by_cases h0 : 0 < j
     ·rw [decide_eq_true (p := 0 <= (j : Int) - 1 /\ (j : Int) - 1 < (f.Sleep.length : Int)) (by omega), Bool.or_true]
     ·rw [decide_eq_false (p := 0 < ((j : Nat) : Int)) (by omega), Bool.and_false]; rfl
    rw [e2, guardO_t, e1]
    exact step_only _ _ _
   rw [first_only] at h
   rw [h]
   show Option.bind (Option.bind (some (toS (onlyIf (sleepBad f) false))) _) _ = _
   cases sleepBad f with
   | true => rfl
   | false =>
    simp only [onlyIf_f, toS_none, Option.bind_some]
    rw [show (512 : Int) = ((512 : Nat) : Int) from rfl, own_shal 512 n f.Tree (by omega) (by omega), Option.bind_some, treeOk]
    cases hs : shal 512 f.Tree.Kids with
    | false => rfl
    | true =>
     rw [own_wake hB hn hs hw]
     simp only [Option.isSome_some, Option.getD_some, orB_t, guardO_t, Bool.not_true]
     cases hk : wakeOk f.Tree with
     | false => rfl
     | true =>
      cases hK : f.Tree.Kids with
      | nil => rfl
      | cons x l =>
       have : eqI (((x :: l).length : Nat) : Int) 0 = false := by rw [eqI_d, decide_eq_false (by simp; omega)]
       rw [this]; rfl
  ·rw [decide_eq_true (by omega), decide_eq_false hl]; rfl
def validS (s : Snapshot) : Bool :=
 !(orB (orB (orB (orB (ltI s.Count 0) (ltI 1048576 s.Count)) (ltI s.Blocked 0)) (ltI 1048576 s.Blocked)) (ltI 512 ((s.Frames.length : Nat) : Int))) &&
  (!(andB (ltI 0 ((s.Frames.length : Nat) : Int)) (orB s.Done (eqI s.Count 0))) && s.Frames.all validF)
theorem own_valid {B n : Nat} (hB : B <= 1000000000) {s : Snapshot} (hn : B + 600 <= n) (hw : ∀ f ∈ s.Frames, wid B 512 f.Tree.Kids) : checkpoint_Valid n s = some (validS s) := by
 have h := srch (L := checkpoint_Valid_L1 n) (fun _ (f : Frame) => onlyIf (!validF f) false) (fun _ => rfl) s.Frames 0 fun j x hx q => by
  rw [checkpoint_Valid_L1, own_validF hB hn (hw x (List.mem_of_getElem? hx)), Option.bind_some]; exact step_only _ _ _
 rw [first_onlyC, any_not_all] at h
 rw [checkpoint_Valid, h, validS]
 cases orB (orB (orB (orB (ltI s.Count 0) (ltI 1048576 s.Count)) (ltI s.Blocked 0)) (ltI 1048576 s.Blocked)) (ltI 512 ((s.Frames.length : Nat) : Int)) <;> cases andB (ltI 0 ((s.Frames.length : Nat) : Int)) (orB s.Done (eqI s.Count 0)) <;> cases s.Frames.all validF <;> rfl
end Go.Dc.Pl
end
section
set_option linter.all false
namespace Go.Dc
open Go Go.Hw Go.Proofs
set_option maxRecDepth 100000
def r49_value (a0 : Int) : Option Bool :=
 some (andB (!(ltI a0 (-2147483648))) (!(ltI 2147483647 a0)))
set_option maxHeartbeats 2000000 in
theorem at_r49_value {a0 : Int} {r : Bool} (hs : r49_value a0 = some r) : At Tryz.prog 63 [iV .i64 a0] (bV r) := by
 refine at_bound (by kernel_rfl) fun hb => ?_
 refine at_code mixed Tryz.func63 (by kernel_rfl) rfl (by kernel_rfl) rfl fun Q hQ => ?_
 rw [r49_value] at hs
 refine goG f0 f0 ?_
 obtain rfl := sj hs
 exact hQ _ _ (rg f0 (Gh.refl _))
end Go.Dc
end
section
set_option linter.all false
namespace Go.Dc
open Go Go.Hw Go.Proofs
set_option maxRecDepth 100000
def r02_Valid_L1 (a0 : List Int) : List Int -> Nat -> Option (Unit ⊕ Bool)
 | [], k75 => some (.inl ())
 | x101 :: q97, k75 => Option.bind (getI a0 (IntKind.i64.wrap (((k75 : Nat) : Int) - 1))) (fun x107 => cond (!(ltI x107 x101)) (some (.inr false)) (r02_Valid_L1 a0 q97 (k75 + 1)))
def r02_Valid (a0 : List Int) : Option Bool :=
 Option.bind (α := Unit ⊕ Bool) (Option.bind (r02_Valid_L1 a0 (a0.drop 1) 1) (fun o => match o with | .inl _ => some (.inl ()) | .inr r112 => some (.inr r112))) (fun o => match o with | .inl _ => some true | .inr r113 => some r113)
set_option maxHeartbeats 2000000 in
theorem at_r02_Valid {a0 : List Int} {r : Bool} (hs : r02_Valid a0 = some r) : At Tryz.prog 64 [.cell (sC a0)] (bV r) := by
 refine at_bound (by kernel_rfl) fun hb => ?_
 have hb1 : LenOk (.sl a0.length (encL a0)) := lkc hb
 refine at_code mixed Tryz.func64 (by kernel_rfl) rfl (by kernel_rfl) rfl fun Q hQ => ?_
 rw [r02_Valid] at hs
 refine goR2 f0 ?_
 revert hs; refine bK fun o56 e55 hs => ?_
 refine awp_cutK (fun (v : Unit) (σ : St) => some (.inl v) = some o56 /\ 2 <= σ.gen) (by rfl) (fun Q hK57 hX58 => ?_) (fun v σ3 hp => ?_)
 ·refine goR f0 ?_
  revert e55; refine bK fun o92 e91 e55 => ?_
  refine awp_loopW (fun (v : (List Int) × Nat) (σ : St) => r02_Valid_L1 a0 v.1 v.2 = some o92 /\ v.1 = a0.drop v.2 /\ σ.env 0 = .cell (sC a0) /\ σ.env 3 = iV .i64 ((v.2 : Nat) : Int) /\ 2 <= σ.gen) (fun v => v.1.length) _ (Gh.refl _) (a0.drop 1, 1) ⟨e91, by simp, pv f0, pv f0, pg⟩ fun v σ6 hp L93 hL94 => ?_
  obtain ⟨q96, k75⟩ := v
  dsimp only at hp hL94
  obtain ⟨e91, hd95, h5_0, h5_3, n5_g⟩ := hp
  rcases q96 with _ | ⟨x101, q97⟩
  ·have hlt98 := drop_end hd95
   rw [r02_Valid_L1] at e91; try dsimp only at e91
   have F1 := an h5_0 h5_3
   refine goR F1 ?_
   refine condK_f (by simp [ltI]; omega) ?_
   obtain rfl := sj e91
   try dsimp only at e55
   exact hK57 () _ _ (Gh.refl _) ⟨e55, pg⟩
  ·obtain ⟨hx100, hlt98, hd102⟩ := drop_next hd95
   have ew99 := wrap_succ hlt98 (hb1).len
   rw [r02_Valid_L1] at e91; try dsimp only at e91
   have F2 := an h5_0 (an h5_3 (an hlt98 ew99))
   refine goR F2 ?_
   refine condK_t (by simp [ltI]; omega) ?_
   revert e91; refine bK fun x107 hx108 e91 => ?_
   obtain ⟨hx108a, hx108b, hx108c, hx108d⟩ := getI_some hx108
   have f109 : partCV Tryz.prog 3 (encL a0) ((IntKind.i64.wrap (((k75 : Nat) : Int) - 1)).toNat) = some (iV .i64 x107) := partCV_enc1 hx108d (by simp)
   have f110 : partCV Tryz.prog 3 (encL a0) (k75) = some (iV .i64 x101) := partCV_enc1 hx100 (by simp)
   have F3 := an F2 (an f109 f110)
   refine goD F3 ?_
   revert e91; refine cS F3 ?_ ?_ <;> intro h111 e91
   ·refine goD F3 ?_
    obtain rfl := sj e91
    try dsimp only at e55
    obtain rfl := sj e55
    try dsimp only at hs
    refine hX58 _ _ (by simp) ?_
    refine goD F3 ?_
    obtain rfl := sj hs
    exact hQ _ _ (rg F3 (Gh.refl _))
   ·refine goD F3 ?_
    exact hL94 (q97, (k75 + 1)) _ _ (Gh.refl _) ⟨e91, hd102, pv F3, pv F3, pg⟩ (by simp)
 ·obtain ⟨e55, n4_g⟩ := hp
  obtain rfl := sj e55
  try dsimp only at hs
  refine goR f0 ?_
  obtain rfl := sj hs
  exact hQ _ _ (rg f0 (Gh.refl _))
end Go.Dc
end
section
set_option linter.all false
namespace Go.Dc
open Go Go.Hw Go.Proofs
set_option maxRecDepth 100000
def r02_Has_L1 (a1 : Int) : List Int -> Nat -> Option (Unit ⊕ Bool)
 | [], k41 => some (.inl ())
 | x58 :: q54, k41 => cond (eqI x58 a1) (some (.inr true)) (r02_Has_L1 a1 q54 (k41 + 1))
def r02_Has (a0 : List Int) (a1 : Int) : Option Bool :=
 Option.bind (α := Unit ⊕ Bool) (Option.bind (r02_Has_L1 a1 a0 0) (fun o => match o with | .inl _ => some (.inl ()) | .inr r62 => some (.inr r62))) (fun o => match o with | .inl _ => some false | .inr r63 => some r63)
set_option maxHeartbeats 2000000 in
theorem at_r02_Has {a0 : List Int} {a1 : Int} {r : Bool} (hs : r02_Has a0 a1 = some r) : At Tryz.prog 65 [.cell (sC a0), iV .i64 a1] (bV r) := by
 refine at_bound (by kernel_rfl) fun hb => ?_
 have hb1 : LenOk (.sl a0.length (encL a0)) := lkc hb
 refine at_code mixed Tryz.func65 (by kernel_rfl) rfl (by kernel_rfl) rfl fun Q hQ => ?_
 rw [r02_Has] at hs
 refine goR2 f0 ?_
 revert hs; refine bK fun o31 e30 hs => ?_
 refine awp_cutK (fun (v : Unit) (σ : St) => some (.inl v) = some o31 /\ 2 <= σ.gen) (by rfl) (fun Q hK32 hX33 => ?_) (fun v σ3 hp => ?_)
 ·refine goR f0 ?_
  revert e30; refine bK fun o49 e48 e30 => ?_
  refine awp_loopW (fun (v : (List Int) × Nat) (σ : St) => r02_Has_L1 a1 v.1 v.2 = some o49 /\ v.1 = a0.drop v.2 /\ σ.env 0 = .cell (sC a0) /\ σ.env 1 = iV .i64 a1 /\ σ.env 5 = iV .i64 ((v.2 : Nat) : Int) /\ 2 <= σ.gen) (fun v => v.1.length) _ (Gh.refl _) (a0, 0) ⟨e48, by simp, pv f0, pv f0, pv f0, pg⟩ fun v σ6 hp L50 hL51 => ?_
  obtain ⟨q53, k41⟩ := v
  dsimp only at hp hL51
  obtain ⟨e48, hd52, h5_0, h5_1, h5_5, n5_g⟩ := hp
  rcases q53 with _ | ⟨x58, q54⟩
  ·have hlt55 := drop_end hd52
   rw [r02_Has_L1] at e48; try dsimp only at e48
   have F1 := an h5_0 (an h5_1 h5_5)
   refine goR F1 ?_
   refine condK_f (by simp [ltI]; omega) ?_
   obtain rfl := sj e48
   try dsimp only at e30
   exact hK32 () _ _ (Gh.refl _) ⟨e30, pg⟩
  ·obtain ⟨hx57, hlt55, hd59⟩ := drop_next hd52
   have ew56 := wrap_succ hlt55 (hb1).len
   rw [r02_Has_L1] at e48; try dsimp only at e48
   have F2 := an h5_0 (an h5_1 (an h5_5 (an hlt55 ew56)))
   refine goR F2 ?_
   refine condK_t (by simp [ltI]; omega) ?_
   have f60 : partCV Tryz.prog 3 (encL a0) (k41) = some (iV .i64 x58) := partCV_enc1 hx57 (by simp)
   have F3 := an F2 f60
   refine goR F3 ?_
   revert e48; refine cS F3 ?_ ?_ <;> intro h61 e48
   ·refine goR F3 ?_
    obtain rfl := sj e48
    try dsimp only at e30
    obtain rfl := sj e30
    try dsimp only at hs
    refine hX33 _ _ (by simp) ?_
    refine goR F3 ?_
    obtain rfl := sj hs
    exact hQ _ _ (rg F3 (Gh.refl _))
   ·refine goR F3 ?_
    exact hL51 (q54, (k41 + 1)) _ _ (Gh.refl _) ⟨e48, hd59, pv F3, pv F3, pv F3, pg⟩ (by simp)
 ·obtain ⟨e30, n4_g⟩ := hp
  obtain rfl := sj e30
  try dsimp only at hs
  refine goR f0 ?_
  obtain rfl := sj hs
  exact hQ _ _ (rg f0 (Gh.refl _))
end Go.Dc
end
section
set_option linter.all false
namespace Go.Dc
open Go Go.Hw Go.Proofs
set_option maxRecDepth 100000
def r49_depth_L1 (a1 : Int) (rF66z : Tree -> Int -> Option Bool) : List Tree -> Nat -> Option (Unit ⊕ Bool)
 | [], k51 => some (.inl ())
 | x70 :: q66, k51 => Option.bind (rF66z x70 (IntKind.i64.wrap (a1 - 1))) (fun y73 => cond (!y73) (some (.inr false)) (r49_depth_L1 a1 rF66z q66 (k51 + 1)))
def r49_depth_B (rF66z : Tree -> Int -> Option Bool) (a0 : Tree) (a1 : Int) : Option Bool :=
 guardO (orB (!(!(ltI a1 0))) ((r49_value a0.Agent).isSome)) (cond (orB (ltI a1 0) (!((r49_value a0.Agent).getD default))) (some false) (Option.bind (α := Unit ⊕ Bool) (Option.bind (r49_depth_L1 a1 rF66z a0.Kids 0) (fun o => match o with | .inl _ => some (.inl ()) | .inr r76 => some (.inr r76))) (fun o => match o with | .inl _ => some true | .inr r77 => some r77)))
def r49_depth : Nat -> Tree -> Int -> Option Bool
 | 0 => fun _ _ => none
 | fuelN + 1 => fun a0 a1 => r49_depth_B (r49_depth fuelN) a0 a1
set_option maxHeartbeats 2000000 in
theorem at_r49_depth_B {rF66z : Tree -> Int -> Option Bool} (ihrF66z : ∀ (a0 : Tree) (a1 : Int) (r : Bool), rF66z a0 a1 = some r -> At Tryz.prog 66 [.agg (eA a0), iV .i64 a1] (bV r)) {a0 : Tree} {a1 : Int} {r : Bool} (hs : r49_depth_B rF66z a0 a1 = some r) : At Tryz.prog 66 [.agg (eA a0), iV .i64 a1] (bV r) := by
 refine at_bound (by kernel_rfl) fun hb => ?_
 have hb1 : LenOk (.sl a0.Kids.length (encL a0.Kids)) := lkc hb
 refine at_code mixed Tryz.func66 (by kernel_rfl) rfl (by kernel_rfl) rfl fun Q hQ => ?_
 rw [r49_depth_B] at hs
 refine goG f0 f0 ?_
 obtain ⟨g1, hs⟩ := guardO_some hs
 refine gsel_call (fun hg => at_r49_value (under_call g1 hg)) (fun hg => by (try simp at hg); (first | simp [hg, id]); try rfl) (fun hg => by (try simp at hg); simp [hg, id]) (by simp) ?_
 refine goG f0 f0 ?_
 revert hs; refine cS f0 ?_ ?_ <;> intro h2 hs
 ·refine goG f0 f0 ?_
  obtain rfl := sj hs
  exact hQ _ _ (rg f0 (Gh.refl _))
 ·refine goG2 f0 f0 ?_
  revert hs; refine bK fun o39 e38 hs => ?_
  refine awp_cutK (fun (v : Unit) (σ : St) => some (.inl v) = some o39 /\ 3 <= σ.gen) (by rfl) (fun Q hK40 hX41 => ?_) (fun v σ3 hp => ?_)
  ·refine goG f0 f0 ?_
   revert e38; refine bK fun o61 e60 e38 => ?_
   refine awp_loopW (fun (v : (List Tree) × Nat) (σ : St) => r49_depth_L1 a1 rF66z v.1 v.2 = some o61 /\ v.1 = a0.Kids.drop v.2 /\ σ.env 1 = iV .i64 a1 /\ σ.env 2 = .cell (.ref (.o 1 0 0) 0) /\ σ.env 5 = iV .i64 ((v.2 : Nat) : Int) /\ σ.hp (.o 1 0 0) = some (.cells (eA a0)) /\ 3 <= σ.gen) (fun v => v.1.length) _ (Gh.refl _) (a0.Kids, 0) ⟨e60, by simp, pv f0, pv f0, pv f0, pv f0, pg⟩ fun v σ6 hp L62 hL63 => ?_
   obtain ⟨q65, k51⟩ := v
   dsimp only at hp hL63
   obtain ⟨e60, hd64, h5_1, h5_2, h5_5, g5_0, n5_g⟩ := hp
   have n5_0 : ¬ (σ6.gen = 0) := by omega
   rcases q65 with _ | ⟨x70, q66⟩
   ·have hlt67 := drop_end hd64
    rw [r49_depth_L1] at e60; try dsimp only at e60
    have F1 := an h5_1 (an h5_2 (an h5_5 (an g5_0 n5_0)))
    refine goR F1 ?_
    refine condK_f (by simp [ltI]; omega) ?_
    obtain rfl := sj e60
    try dsimp only at e38
    exact hK40 () _ _ (Gh.refl _) ⟨e38, pg⟩
   ·obtain ⟨hx69, hlt67, hd71⟩ := drop_next hd64
    have ew68 := wrap_succ hlt67 (hb1).len
    rw [r49_depth_L1] at e60; try dsimp only at e60
    have F2 := an h5_1 (an h5_2 (an h5_5 (an g5_0 (an n5_0 (an hlt67 ew68)))))
    refine goR F2 ?_
    refine condK_t (by simp [ltI]; omega) ?_
    have f72 : partCV Tryz.prog 57 (encL a0.Kids) (k51 * 2) = some (.agg (eA x70)) := partCV_enc hx69 (f := 0) (by simp)
    have F3 := an F2 f72
    refine goR F3 ?_
    revert e60; refine bK fun y73 hx74 e60 => ?_
    refine cP F3 (ihrF66z _ _ _ hx74) ?_
    refine goR F3 ?_
    revert e60; refine cS F3 ?_ ?_ <;> intro h75 e60
    ·refine goR F3 ?_
     obtain rfl := sj e60
     try dsimp only at e38
     obtain rfl := sj e38
     try dsimp only at hs
     refine hX41 _ _ (by simp) ?_
     refine goR F3 ?_
     obtain rfl := sj hs
     exact hQ _ _ (rg F3 (Gh.refl _))
    ·refine goR F3 ?_
     exact hL63 (q66, (k51 + 1)) _ _ (Gh.refl _) ⟨e60, hd71, pv F3, pv F3, pv F3, pv F3, pg⟩ (by simp)
  ·obtain ⟨e38, n4_g⟩ := hp
   obtain rfl := sj e38
   try dsimp only at hs
   refine goG f0 f0 ?_
   obtain rfl := sj hs
   exact hQ _ _ (rg f0 (Gh.refl _))
theorem at_r49_depth : ∀ {fuelN : Nat} {a0 : Tree} {a1 : Int} {r : Bool} (hs : r49_depth fuelN a0 a1 = some r), At Tryz.prog 66 [.agg (eA a0), iV .i64 a1] (bV r)
 | 0, _, _, _, hs => by rw [r49_depth] at hs; cases hs
 | n + 1, _, _, _, hs => by
  rw [r49_depth] at hs
  exact at_r49_depth_B (fun _ _ _ h => at_r49_depth h) hs
end Go.Dc
end
section
set_option linter.all false
namespace Go.Dc
open Go Go.Hw Go.Proofs
set_option maxRecDepth 100000
def r33_find_L1 (a1 : Int) : List Tree -> Nat -> Option (Unit ⊕ Int)
 | [], k41 => some (.inl ())
 | x58 :: q54, k41 => cond (eqI x58.Agent a1) (some (.inr ((k41 : Nat) : Int))) (r33_find_L1 a1 q54 (k41 + 1))
def r33_find (a0 : List Tree) (a1 : Int) : Option Int :=
 Option.bind (α := Unit ⊕ Int) (Option.bind (r33_find_L1 a1 a0 0) (fun o => match o with | .inl _ => some (.inl ()) | .inr r62 => some (.inr r62))) (fun o => match o with | .inl _ => some (-1) | .inr r63 => some r63)
set_option maxHeartbeats 2000000 in
theorem at_r33_find {a0 : List Tree} {a1 : Int} {r : Int} (hs : r33_find a0 a1 = some r) : At Tryz.prog 99 [.cell (sC a0), iV .i64 a1] (iV .i64 r) := by
 refine at_bound (by kernel_rfl) fun hb => ?_
 have hb1 : LenOk (.sl a0.length (encL a0)) := lkc hb
 refine at_code mixed Tryz.func99 (by kernel_rfl) rfl (by kernel_rfl) rfl fun Q hQ => ?_
 rw [r33_find] at hs
 refine goR2 f0 ?_
 revert hs; refine bK fun o31 e30 hs => ?_
 refine awp_cutK (fun (v : Unit) (σ : St) => some (.inl v) = some o31 /\ 2 <= σ.gen) (by rfl) (fun Q hK32 hX33 => ?_) (fun v σ3 hp => ?_)
 ·refine goR f0 ?_
  revert e30; refine bK fun o49 e48 e30 => ?_
  refine awp_loopW (fun (v : (List Tree) × Nat) (σ : St) => r33_find_L1 a1 v.1 v.2 = some o49 /\ v.1 = a0.drop v.2 /\ σ.env 0 = .cell (sC a0) /\ σ.env 1 = iV .i64 a1 /\ σ.env 5 = iV .i64 ((v.2 : Nat) : Int) /\ 2 <= σ.gen) (fun v => v.1.length) _ (Gh.refl _) (a0, 0) ⟨e48, by simp, pv f0, pv f0, pv f0, pg⟩ fun v σ6 hp L50 hL51 => ?_
  obtain ⟨q53, k41⟩ := v
  dsimp only at hp hL51
  obtain ⟨e48, hd52, h5_0, h5_1, h5_5, n5_g⟩ := hp
  rcases q53 with _ | ⟨x58, q54⟩
  ·have hlt55 := drop_end hd52
   rw [r33_find_L1] at e48; try dsimp only at e48
   have F1 := an h5_0 (an h5_1 h5_5)
   refine goR F1 ?_
   refine condK_f (by simp [ltI]; omega) ?_
   obtain rfl := sj e48
   try dsimp only at e30
   exact hK32 () _ _ (Gh.refl _) ⟨e30, pg⟩
  ·obtain ⟨hx57, hlt55, hd59⟩ := drop_next hd52
   have ew56 := wrap_succ hlt55 (hb1).len
   rw [r33_find_L1] at e48; try dsimp only at e48
   have F2 := an h5_0 (an h5_1 (an h5_5 (an hlt55 ew56)))
   refine goR F2 ?_
   refine condK_t (by simp [ltI]; omega) ?_
   have f60 : partCV Tryz.prog 3 (encL a0) (k41 * 2) = some (iV .i64 x58.Agent) := partCV_enc hx57 (f := 0) (by simp)
   have F3 := an F2 f60
   refine goR F3 ?_
   revert e48; refine cS F3 ?_ ?_ <;> intro h61 e48
   ·refine goR F3 ?_
    obtain rfl := sj e48
    try dsimp only at e30
    obtain rfl := sj e30
    try dsimp only at hs
    refine hX33 _ _ (by simp) ?_
    refine goR F3 ?_
    obtain rfl := sj hs
    exact hQ _ _ (rg F3 (Gh.refl _))
   ·refine goR F3 ?_
    exact hL51 (q54, (k41 + 1)) _ _ (Gh.refl _) ⟨e48, hd59, pv F3, pv F3, pv F3, pg⟩ (by simp)
 ·obtain ⟨e30, n4_g⟩ := hp
  obtain rfl := sj e30
  try dsimp only at hs
  refine goR f0 ?_
  obtain rfl := sj hs
  exact hQ _ _ (rg f0 (Gh.refl _))
end Go.Dc
end
section
set_option linter.all false
namespace Go.Dc
open Go Go.Hw Go.Proofs
set_option maxRecDepth 100000
def r33_distinct_L1 (a0 : List Tree) (rF87z : (List Tree) -> Option Bool) : List Tree -> Nat -> Option (Unit ⊕ Bool)
 | [], k57 => some (.inl ())
 | x78 :: q74, k57 => Option.bind (r33_find a0 x78.Agent) (fun y81 => guardO (orB (!(eqI y81 ((k57 : Nat) : Int))) ((rF87z x78.Kids).isSome)) (cond (orB (!(eqI y81 ((k57 : Nat) : Int))) (!((rF87z x78.Kids).getD default))) (some (.inr false)) (r33_distinct_L1 a0 rF87z q74 (k57 + 1))))
def r33_distinct_B (rF87z : (List Tree) -> Option Bool) (a0 : List Tree) : Option Bool :=
 Option.bind (α := Unit ⊕ Bool) (Option.bind (r33_distinct_L1 a0 rF87z a0 0) (fun o => match o with | .inl _ => some (.inl ()) | .inr r86 => some (.inr r86))) (fun o => match o with | .inl _ => some true | .inr r87 => some r87)
def r33_distinct : Nat -> (List Tree) -> Option Bool
 | 0 => fun _ => none
 | fuelN + 1 => fun a0 => r33_distinct_B (r33_distinct fuelN) a0
set_option maxHeartbeats 2000000 in
theorem at_r33_distinct_B {rF87z : (List Tree) -> Option Bool} (ihrF87z : ∀ (a0 : List Tree) (r : Bool), rF87z a0 = some r -> At Tryz.prog 87 [.cell (sC a0)] (bV r)) {a0 : List Tree} {r : Bool} (hs : r33_distinct_B rF87z a0 = some r) : At Tryz.prog 87 [.cell (sC a0)] (bV r) := by
 refine at_bound (by kernel_rfl) fun hb => ?_
 have hb1 : LenOk (.sl a0.length (encL a0)) := lkc hb
 refine at_code mixed Tryz.func87 (by kernel_rfl) rfl (by kernel_rfl) rfl fun Q hQ => ?_
 rw [r33_distinct_B] at hs
 refine goR2 f0 ?_
 revert hs; refine bK fun o43 e42 hs => ?_
 refine awp_cutK (fun (v : Unit) (σ : St) => some (.inl v) = some o43 /\ 2 <= σ.gen) (by rfl) (fun Q hK44 hX45 => ?_) (fun v σ3 hp => ?_)
 ·refine goR f0 ?_
  revert e42; refine bK fun o69 e68 e42 => ?_
  refine awp_loopW (fun (v : (List Tree) × Nat) (σ : St) => r33_distinct_L1 a0 rF87z v.1 v.2 = some o69 /\ v.1 = a0.drop v.2 /\ σ.env 0 = .cell (sC a0) /\ σ.env 3 = iV .i64 ((v.2 : Nat) : Int) /\ 2 <= σ.gen) (fun v => v.1.length) _ (Gh.refl _) (a0, 0) ⟨e68, by simp, pv f0, pv f0, pg⟩ fun v σ6 hp L70 hL71 => ?_
  obtain ⟨q73, k57⟩ := v
  dsimp only at hp hL71
  obtain ⟨e68, hd72, h5_0, h5_3, n5_g⟩ := hp
  rcases q73 with _ | ⟨x78, q74⟩
  ·have hlt75 := drop_end hd72
   rw [r33_distinct_L1] at e68; try dsimp only at e68
   have F1 := an h5_0 h5_3
   refine goR F1 ?_
   refine condK_f (by simp [ltI]; omega) ?_
   obtain rfl := sj e68
   try dsimp only at e42
   exact hK44 () _ _ (Gh.refl _) ⟨e42, pg⟩
  ·obtain ⟨hx77, hlt75, hd79⟩ := drop_next hd72
   have ew76 := wrap_succ hlt75 (hb1).len
   rw [r33_distinct_L1] at e68; try dsimp only at e68
   have F2 := an h5_0 (an h5_3 (an hlt75 ew76))
   refine goR F2 ?_
   refine condK_t (by simp [ltI]; omega) ?_
   have f80 : partCV Tryz.prog 3 (encL a0) (k57 * 2) = some (iV .i64 x78.Agent) := partCV_enc hx77 (f := 0) (by simp)
   have F3 := an F2 f80
   refine goR F3 ?_
   revert e68; refine bK fun y81 hx82 e68 => ?_
   refine cP F3 (at_r33_find hx82) ?_
   have f83 : partCV Tryz.prog 55 (encL a0) (k57 * 2 + 1) = some (.cell (sC x78.Kids)) := partCV_enc hx77 (f := 1) (by simp)
   have F4 := an F3 f83
   refine goG F4 F4 ?_
   obtain ⟨g84, e68⟩ := guardO_some e68
   refine gsel_call (fun hg => ihrF87z _ _ (under_call g84 hg)) (fun hg => by (try simp at hg); (first | simp [hg, F4]); try rfl) (fun hg => by (try simp at hg); simp [hg, F4]) (by simp) ?_
   refine goG F4 F4 ?_
   revert e68; refine cS F4 ?_ ?_ <;> intro h85 e68
   ·refine goG F4 F4 ?_
    obtain rfl := sj e68
    try dsimp only at e42
    obtain rfl := sj e42
    try dsimp only at hs
    refine hX45 _ _ (by simp) ?_
    refine goG F4 F4 ?_
    obtain rfl := sj hs
    exact hQ _ _ (rg F4 (Gh.refl _))
   ·refine goG F4 F4 ?_
    exact hL71 (q74, (k57 + 1)) _ _ (Gh.refl _) ⟨e68, hd79, pv F4, pv F4, pg⟩ (by simp)
 ·obtain ⟨e42, n4_g⟩ := hp
  obtain rfl := sj e42
  try dsimp only at hs
  refine goR f0 ?_
  obtain rfl := sj hs
  exact hQ _ _ (rg f0 (Gh.refl _))
theorem at_r33_distinct : ∀ {fuelN : Nat} {a0 : List Tree} {r : Bool} (hs : r33_distinct fuelN a0 = some r), At Tryz.prog 87 [.cell (sC a0)] (bV r)
 | 0, _, _, hs => by rw [r33_distinct] at hs; cases hs
 | n + 1, _, _, hs => by
  rw [r33_distinct] at hs
  exact at_r33_distinct_B (fun _ _ h => at_r33_distinct h) hs
end Go.Dc
end
section
set_option linter.all false
namespace Go.Dc
open Go Go.Hw Go.Proofs
set_option maxRecDepth 100000
def r33_Valid (fuelN : Nat) (a0 : Tree) : Option Bool :=
 guardO (orB (!(eqI a0.Agent 0)) ((r33_distinct fuelN a0.Kids).isSome)) (some (andB (eqI a0.Agent 0) ((r33_distinct fuelN a0.Kids).getD default)))
set_option maxHeartbeats 2000000 in
theorem at_r33_Valid {fuelN : Nat} {a0 : Tree} {r : Bool} (hs : r33_Valid fuelN a0 = some r) : At Tryz.prog 67 [.agg (eA a0)] (bV r) := by
 refine at_bound (by kernel_rfl) fun hb => ?_
 have hb1 : LenOk (.sl a0.Kids.length (encL a0.Kids)) := lkc hb
 refine at_code mixed Tryz.func67 (by kernel_rfl) rfl (by kernel_rfl) rfl fun Q hQ => ?_
 rw [r33_Valid] at hs
 refine goG f0 f0 ?_
 obtain ⟨g1, hs⟩ := guardO_some hs
 refine gsel_call (fun hg => at_r33_distinct (under_call g1 hg)) (fun hg => by (try simp at hg); (first | simp [hg, id]); try rfl) (fun hg => by (try simp at hg); simp [hg, id]) (by simp) ?_
 refine goG f0 f0 ?_
 obtain rfl := sj hs
 exact hQ _ _ (rg f0 (Gh.refl _))
end Go.Dc
end
section
set_option linter.all false
namespace Go.Dc
open Go Go.Hw Go.Proofs
set_option maxRecDepth 100000
def r49_frame_L1 : List Int -> Nat -> Option (Unit ⊕ Bool)
 | [], k54 => some (.inl ())
 | x73 :: q69, k54 => Option.bind (r49_value x73) (fun y76 => cond (!y76) (some (.inr false)) (r49_frame_L1 q69 (k54 + 1)))
def r49_frame (fuelN : Nat) (a0 : Frame) : Option Bool :=
 Option.bind (r49_value a0.Agent) (fun y1 => guardO (orB (!y1) ((r02_Valid a0.Sleep).isSome)) (guardO (orB (!(!(orB (orB (!y1) (!((r02_Valid a0.Sleep).getD default))) (ltI 2048 ((a0.Sleep.length : Nat) : Int))))) ((r02_Has a0.Sleep a0.Agent).isSome)) (cond (orB (orB (orB (!y1) (!((r02_Valid a0.Sleep).getD default))) (ltI 2048 ((a0.Sleep.length : Nat) : Int))) ((r02_Has a0.Sleep a0.Agent).getD default)) (some false) (Option.bind (α := Unit ⊕ Bool) (Option.bind (r49_frame_L1 a0.Sleep 0) (fun o => match o with | .inl _ => some (.inl ()) | .inr r79 => some (.inr r79))) (fun o => match o with | .inl _ => Option.bind (r49_depth fuelN a0.Tree 512) (fun y80 => guardO (orB (!y80) ((r33_Valid fuelN a0.Tree).isSome)) (cond (orB (orB (!y80) (!((r33_Valid fuelN a0.Tree).getD default))) (eqI ((a0.Tree.Kids.length : Nat) : Int) 0)) (some false) (Option.bind (a0.Tree.Kids[0]?) (fun x88 => some (andB (eqI x88.Agent a0.Agent) (eqI ((x88.Kids.length : Nat) : Int) 0)))))) | .inr r92 => some r92)))))
set_option maxHeartbeats 2000000 in
theorem at_r49_frame {fuelN : Nat} {a0 : Frame} {r : Bool} (hs : r49_frame fuelN a0 = some r) : At Tryz.prog 33 [.agg (eA a0)] (bV r) := by
 refine at_bound (by kernel_rfl) fun hb => ?_
 have hb1 : LenOk (.sl a0.Sleep.length (encL a0.Sleep)) := lkc hb
 have hb2 : LenOk (.sl a0.Tree.Kids.length (encL a0.Tree.Kids)) := lkc hb
 refine at_code mixed Tryz.func33 (by kernel_rfl) rfl (by kernel_rfl) rfl fun Q hQ => ?_
 rw [r49_frame] at hs
 refine goR f0 ?_
 revert hs; refine bK fun y1 hx2 hs => ?_
 refine cP f0 (at_r49_value hx2) ?_
 refine goG f0 f0 ?_
 obtain ⟨g3, hs⟩ := guardO_some hs
 refine gsel_call (fun hg => at_r02_Valid (under_call g3 hg)) (fun hg => by (try simp at hg); (first | simp [hg, id]); try rfl) (fun hg => by (try simp at hg); simp [hg, id]) (by simp) ?_
 refine goG f0 f0 ?_
 obtain ⟨g4, hs⟩ := guardO_some hs
 refine gsel_call (fun hg => at_r02_Has (under_call g4 hg)) (fun hg => by (try simp at hg); (first | simp [hg, id]); try rfl) (fun hg => by (try simp at hg); simp [hg, id]) (by simp) ?_
 refine goG f0 f0 ?_
 revert hs; refine cS f0 ?_ ?_ <;> intro h5 hs
 ·refine goG f0 f0 ?_
  obtain rfl := sj hs
  exact hQ _ _ (rg f0 (Gh.refl _))
 ·refine goG2 f0 f0 ?_
  revert hs; refine bK fun o42 e41 hs => ?_
  refine awp_cutK (fun (v : Unit) (σ : St) => some (.inl v) = some o42 /\ σ.env 1 = .cell (.ref (.o 1 0 0) 0) /\ σ.hp (.o 1 0 0) = some (.cells (eA a0)) /\ 3 <= σ.gen) (by rfl) (fun Q hK43 hX44 => ?_) (fun v σ3 hp => ?_)
  ·refine goG f0 f0 ?_
   revert e41; refine bK fun o64 e63 e41 => ?_
   refine awp_loopW (fun (v : (List Int) × Nat) (σ : St) => r49_frame_L1 v.1 v.2 = some o64 /\ v.1 = a0.Sleep.drop v.2 /\ σ.env 1 = .cell (.ref (.o 1 0 0) 0) /\ σ.env 3 = iV .i64 ((v.2 : Nat) : Int) /\ σ.hp (.o 1 0 0) = some (.cells (eA a0)) /\ 3 <= σ.gen) (fun v => v.1.length) _ (Gh.refl _) (a0.Sleep, 0) ⟨e63, by simp, pv f0, pv f0, pv f0, pg⟩ fun v σ6 hp L65 hL66 => ?_
   obtain ⟨q68, k54⟩ := v
   dsimp only at hp hL66
   obtain ⟨e63, hd67, h5_1, h5_3, g5_0, n5_g⟩ := hp
   have n5_0 : ¬ (σ6.gen = 0) := by omega
   rcases q68 with _ | ⟨x73, q69⟩
   ·have hlt70 := drop_end hd67
    rw [r49_frame_L1] at e63; try dsimp only at e63
    have F1 := an h5_1 (an h5_3 (an g5_0 n5_0))
    refine goR F1 ?_
    refine condK_f (by simp [ltI]; omega) ?_
    obtain rfl := sj e63
    try dsimp only at e41
    exact hK43 () _ _ (Gh.refl _) ⟨e41, pv F1, pv F1, pg⟩
   ·obtain ⟨hx72, hlt70, hd74⟩ := drop_next hd67
    have ew71 := wrap_succ hlt70 (hb1).len
    rw [r49_frame_L1] at e63; try dsimp only at e63
    have F2 := an h5_1 (an h5_3 (an g5_0 (an n5_0 (an hlt70 ew71))))
    refine goR F2 ?_
    refine condK_t (by simp [ltI]; omega) ?_
    have f75 : partCV Tryz.prog 3 (encL a0.Sleep) (k54) = some (iV .i64 x73) := partCV_enc1 hx72 (by simp)
    have F3 := an F2 f75
    refine goR F3 ?_
    revert e63; refine bK fun y76 hx77 e63 => ?_
    refine cP F3 (at_r49_value hx77) ?_
    refine goR F3 ?_
    revert e63; refine cS F3 ?_ ?_ <;> intro h78 e63
    ·refine goR F3 ?_
     obtain rfl := sj e63
     try dsimp only at e41
     obtain rfl := sj e41
     try dsimp only at hs
     refine hX44 _ _ (by simp) ?_
     refine goR F3 ?_
     obtain rfl := sj hs
     exact hQ _ _ (rg F3 (Gh.refl _))
    ·refine goR F3 ?_
     exact hL66 (q69, (k54 + 1)) _ _ (Gh.refl _) ⟨e63, hd74, pv F3, pv F3, pv F3, pg⟩ (by simp)
  ·obtain ⟨e41, h4_1, g4_0, n4_g⟩ := hp
   obtain rfl := sj e41
   try dsimp only at hs
   have n4_0 : ¬ (σ3.gen = 0) := by omega
   have F4 := an h4_1 (an g4_0 n4_0)
   refine goG F4 F4 ?_
   revert hs; refine bK fun y80 hx81 hs => ?_
   refine cP F4 (at_r49_depth hx81) ?_
   refine goG F4 F4 ?_
   obtain ⟨g82, hs⟩ := guardO_some hs
   refine gsel_call (fun hg => at_r33_Valid (under_call g82 hg)) (fun hg => by (try simp at hg); (first | simp [hg, F4]); try rfl) (fun hg => by (try simp at hg); simp [hg, F4]) (by simp) ?_
   refine goG F4 F4 ?_
   revert hs; refine cS F4 ?_ ?_ <;> intro h83 hs
   ·refine goG F4 F4 ?_
    obtain rfl := sj hs
    exact hQ _ _ (rg F4 (Gh.refl _))
   ·revert hs; refine bK fun x88 hx89 hs => ?_
    have hx89b := getN_some hx89
    have f90 : partCV Tryz.prog 3 (encL a0.Tree.Kids) (0 * 2) = some (iV .i64 x88.Agent) := partCV_enc hx89 (f := 0) (by simp)
    have f91 : partCV Tryz.prog 55 (encL a0.Tree.Kids) (0 * 2 + 1) = some (.cell (sC x88.Kids)) := partCV_enc hx89 (f := 1) (by simp)
    have F5 := an F4 (an f90 f91)
    have F6 := an F5 hx89b
    refine goE F5 F6 ?_
    obtain rfl := sj hs
    exact hQ _ _ (rg F5 (Gh.refl _))
end Go.Dc
end
section
set_option linter.all false
namespace Go.Dc
open Go Go.Hw Go.Proofs
set_option maxRecDepth 100000
def r49_Valid_L1 (fuelN : Nat) : List Frame -> Nat -> Option (Unit ⊕ Bool)
 | [], k50 => some (.inl ())
 | x69 :: q65, k50 => Option.bind (r49_frame fuelN x69) (fun y72 => cond (!y72) (some (.inr false)) (r49_Valid_L1 fuelN q65 (k50 + 1)))
def r49_Valid (fuelN : Nat) (a0 : Snapshot) : Option Bool :=
 cond (orB (orB (orB (orB (orB (ltI a0.Count 0) (ltI 1048576 a0.Count)) (ltI a0.Blocked 0)) (ltI 1048576 a0.Blocked)) (ltI 512 ((a0.Frames.length : Nat) : Int))) (andB (ltI 0 ((a0.Frames.length : Nat) : Int)) (orB a0.Done (eqI a0.Count 0)))) (some false) (Option.bind (α := Unit ⊕ Bool) (Option.bind (r49_Valid_L1 fuelN a0.Frames 0) (fun o => match o with | .inl _ => some (.inl ()) | .inr r75 => some (.inr r75))) (fun o => match o with | .inl _ => some true | .inr r76 => some r76))
set_option maxHeartbeats 2000000 in
theorem at_r49_Valid {fuelN : Nat} {a0 : Snapshot} {r : Bool} (hs : r49_Valid fuelN a0 = some r) : At Tryz.prog 13 [.agg (eA a0)] (bV r) := by
 refine at_bound (by kernel_rfl) fun hb => ?_
 have hb1 : LenOk (.sl a0.Frames.length (encL a0.Frames)) := lkc hb
 refine at_code mixed Tryz.func13 (by kernel_rfl) rfl (by kernel_rfl) rfl fun Q hQ => ?_
 rw [r49_Valid] at hs
 refine goG f0 f0 ?_
 revert hs; refine cS f0 ?_ ?_ <;> intro h1 hs
 ·refine goG f0 f0 ?_
  obtain rfl := sj hs
  exact hQ _ _ (rg f0 (Gh.refl _))
 ·refine goG2 f0 f0 ?_
  revert hs; refine bK fun o38 e37 hs => ?_
  refine awp_cutK (fun (v : Unit) (σ : St) => some (.inl v) = some o38 /\ 3 <= σ.gen) (by rfl) (fun Q hK39 hX40 => ?_) (fun v σ3 hp => ?_)
  ·refine goG f0 f0 ?_
   revert e37; refine bK fun o60 e59 e37 => ?_
   refine awp_loopW (fun (v : (List Frame) × Nat) (σ : St) => r49_Valid_L1 fuelN v.1 v.2 = some o60 /\ v.1 = a0.Frames.drop v.2 /\ σ.env 1 = .cell (.ref (.o 1 0 0) 0) /\ σ.env 3 = iV .i64 ((v.2 : Nat) : Int) /\ σ.hp (.o 1 0 0) = some (.cells (eA a0)) /\ 3 <= σ.gen) (fun v => v.1.length) _ (Gh.refl _) (a0.Frames, 0) ⟨e59, by simp, pv f0, pv f0, pv f0, pg⟩ fun v σ6 hp L61 hL62 => ?_
   obtain ⟨q64, k50⟩ := v
   dsimp only at hp hL62
   obtain ⟨e59, hd63, h5_1, h5_3, g5_0, n5_g⟩ := hp
   have n5_0 : ¬ (σ6.gen = 0) := by omega
   rcases q64 with _ | ⟨x69, q65⟩
   ·have hlt66 := drop_end hd63
    rw [r49_Valid_L1] at e59; try dsimp only at e59
    have F1 := an h5_1 (an h5_3 (an g5_0 n5_0))
    refine goR F1 ?_
    refine condK_f (by simp [ltI]; omega) ?_
    obtain rfl := sj e59
    try dsimp only at e37
    exact hK39 () _ _ (Gh.refl _) ⟨e37, pg⟩
   ·obtain ⟨hx68, hlt66, hd70⟩ := drop_next hd63
    have ew67 := wrap_succ hlt66 (hb1).len
    rw [r49_Valid_L1] at e59; try dsimp only at e59
    have F2 := an h5_1 (an h5_3 (an g5_0 (an n5_0 (an hlt66 ew67))))
    refine goR F2 ?_
    refine condK_t (by simp [ltI]; omega) ?_
    have f71 : partCV Tryz.prog 59 (encL a0.Frames) (k50 * 4) = some (.agg (eA x69)) := partCV_enc hx68 (f := 0) (by simp)
    have F3 := an F2 f71
    refine goR F3 ?_
    revert e59; refine bK fun y72 hx73 e59 => ?_
    refine cP F3 (at_r49_frame hx73) ?_
    refine goR F3 ?_
    revert e59; refine cS F3 ?_ ?_ <;> intro h74 e59
    ·refine goR F3 ?_
     obtain rfl := sj e59
     try dsimp only at e37
     obtain rfl := sj e37
     try dsimp only at hs
     refine hX40 _ _ (by simp) ?_
     refine goR F3 ?_
     obtain rfl := sj hs
     exact hQ _ _ (rg F3 (Gh.refl _))
    ·refine goR F3 ?_
     exact hL62 (q65, (k50 + 1)) _ _ (Gh.refl _) ⟨e59, hd70, pv F3, pv F3, pv F3, pg⟩ (by simp)
  ·obtain ⟨e37, n4_g⟩ := hp
   obtain rfl := sj e37
   try dsimp only at hs
   refine goG f0 f0 ?_
   obtain rfl := sj hs
   exact hQ _ _ (rg f0 (Gh.refl _))
end Go.Dc
end
section
set_option linter.all false
namespace Go.Dc.Pl
open Go Go.Hw Go.Dc
theorem ref_value (n : Int) : r49_value n = some (agentOk n) := rfl
theorem depth_neg {f : Nat} {x : Tree} : r49_depth (f + 1) x (-1) = some false := by
 show r49_depth_B (r49_depth f) x (-1) = _
 unfold r49_depth_B; rfl
theorem ref_depth : ∀ (m f : Nat) (t : Tree), m <= 1000 -> m + 1 < f -> r49_depth f t (m : Int) = some (agentOk t.Agent && shal m t.Kids) := by
 intro m
 induction m with
 | zero =>
  intro f t _ hf
  obtain ⟨f, rfl⟩ : ∃ k, f = k + 2 := ⟨f - 2, by omega⟩
  show r49_depth_B (r49_depth (f + 1)) t ((0 : Nat) : Int) = _
  unfold r49_depth_B
  rw [ref_value, show (some (agentOk t.Agent)).isSome = true from rfl, orB_t, guardO_t, show ltI ((0 : Nat) : Int) 0 = false from rfl, orB_d, Bool.false_or, shal]
  cases agentOk t.Agent with
  | false => rfl
  | true =>
   cases hk : t.Kids with
   | nil => rfl
   | cons x l =>
    simp only [Option.getD_some, Bool.not_true, cond_false]
    rw [r49_depth_L1, show IntKind.i64.wrap (((0 : Nat) : Int) - 1) = -1 from by rw [wrap_i64 (by omega) (by omega)]; rfl, depth_neg]
    simp
 | succ m ih =>
  intro f t hm hf
  obtain ⟨f, rfl⟩ : ∃ k, f = k + 1 := ⟨f - 1, by omega⟩
  show r49_depth_B (r49_depth f) t ((m + 1 : Nat) : Int) = _
  unfold r49_depth_B
  have h := srch (L := r49_depth_L1 ((m + 1 : Nat) : Int) (r49_depth f)) (fun _ (k : Tree) => onlyIf (!(agentOk k.Agent && shal m k.Kids)) false) (fun _ => rfl) t.Kids 0 fun j x hx q => by
   rw [r49_depth_L1, show ((m + 1 : Nat) : Int) - 1 = (m : Int) by omega, wrapN (by omega), ih f x (by omega) (by omega), Option.bind_some]
   exact step_only _ _ _
  rw [first_onlyC, any_not_all] at h
  rw [ref_value, show (some (agentOk t.Agent)).isSome = true from rfl, orB_t, guardO_t, show ltI ((m + 1 : Nat) : Int) 0 = false by rw [ltI_d, decide_eq_false (by omega)], orB_d, Bool.false_or, h, shal]
  cases agentOk t.Agent <;> cases t.Kids.all fun k => agentOk k.Agent && shal m k.Kids <;> rfl
theorem first_app {α β : Type} (f : Nat -> α -> Option β) : ∀ (a b : List α) (k : Nat), first f (a ++ b) k = match first f a k with | some r => some r | none => first f b (k + a.length)
 | [], b, k => by simp
 | x :: a, b, k => by
  rw [List.cons_append, first_cons, first_cons, first_app f a b (k + 1)]
  cases f k x with
  | some r => rfl
  | none => simp only [List.length_cons]; rw [show k + 1 + a.length = k + (a.length + 1) by omega]
theorem ref_find (l : List Tree) (a : Int) : r33_find l a = some ((first (fun k (y : Tree) => onlyIf (eqI y.Agent a) (k : Int)) l 0).getD (-1)) := by
 have h := srch (L := r33_find_L1 a) (fun k (y : Tree) => onlyIf (eqI y.Agent a) (k : Int)) (fun _ => rfl) l 0 fun j x hx q => by
  rw [r33_find_L1]; exact step_only _ _ _
 rw [r33_find, h]
 cases first (fun k (y : Tree) => onlyIf (eqI y.Agent a) (k : Int)) l 0 <;> rfl
theorem find_at {l : List Tree} {j : Nat} {x : Tree} (hx : l[j]? = some x) : eqI ((first (fun k (y : Tree) => onlyIf (eqI y.Agent x.Agent) (k : Int)) l 0).getD (-1)) (j : Int) = !nodupA l j x := by
 have hj := getN_some hx
 have hd := drop_at hx
 have hsplit := first_app (fun k (y : Tree) => onlyIf (eqI y.Agent x.Agent) (k : Int)) (l.take j) (l.drop j) 0
 rw [List.take_append_drop, hd, first_cons, show eqI x.Agent x.Agent = true by rw [eqI_d, decide_eq_true rfl]] at hsplit
 have hs := first_isSome (fun y : Tree => eqI y.Agent x.Agent) (fun k _ => (k : Int)) (l.take j) 0
 rw [hsplit]
 unfold nodupA
 cases hf : first (fun k (y : Tree) => onlyIf (eqI y.Agent x.Agent) (k : Int)) (l.take j) 0 with
 | none => rw [hf] at hs; rw [<- hs]; simp [eqI_d]; omega
 | some r =>
  rw [hf] at hs
  rw [<- hs]
  obtain ⟨i, y, hy, he⟩ := first_some hf
  have hi := getN_some hy
  cases hc : eqI y.Agent x.Agent with
  | false => rw [hc] at he; cases he
  | true =>
   rw [hc] at he
   have : r = ((0 + i : Nat) : Int) := (Option.some.inj he).symm
   simp at hi
   simp [eqI_d]; omega
theorem ref_dist : ∀ (m f : Nat) (l : List Tree), m + 2 <= f -> shal m l = true -> r33_distinct f l = some (dist m l) := by
 intro m
 induction m with
 | zero =>
  intro f l hf hs
  obtain ⟨f, rfl⟩ : ∃ k, f = k + 2 := ⟨f - 2, by omega⟩
  simp only [shal, decide_eq_true_eq, List.length_eq_zero_iff] at hs
  subst hs; rfl
 | succ m ih =>
  intro f l hf hs
  obtain ⟨f, rfl⟩ : ∃ k, f = k + 1 := ⟨f - 1, by omega⟩
  rw [shal, List.all_eq_true] at hs
  show r33_distinct_B (r33_distinct f) l = _
  unfold r33_distinct_B
  have h := srch (L := r33_distinct_L1 l (r33_distinct f)) (fun k x => onlyIf (nodupA l k x || !dist m x.Kids) false) (fun _ => rfl) l 0 fun j x hx q => by
   have h1 := hs x (List.mem_of_getElem? hx)
   rw [Bool.and_eq_true] at h1
   rw [Nat.zero_add, r33_distinct_L1, ref_find, Option.bind_some, find_at hx, ih f x.Kids (by omega) h1.2]
   simp only [Option.isSome_some, Option.getD_some, orB_t, guardO_t, Bool.not_not]
   exact step_only _ _ _
  rw [first_only] at h
  rw [h, dist]
  cases (l.zipIdx 0).any fun x => nodupA l x.2 x.1 || !dist m x.1.Kids <;> rfl
theorem any_or {α : Type} (p q : α -> Bool) (l : List α) : (l.any fun x => p x || q x) = (l.any p || l.any q) := by induction l with
 | nil => rfl
 | cons x l ih => simp only [List.any_cons, ih]; cases p x <;> cases q x <;> cases l.any p <;> rfl
theorem any_zip {α : Type} (p : α -> Bool) : ∀ (l : List α) (k : Nat), ((l.zipIdx k).any fun x => p x.1) = l.any p
 | [], _ => rfl
 | x :: l, k => by rw [List.zipIdx_cons, List.any_cons, List.any_cons, any_zip p l]
theorem any_pos {α : Type} (P : α × Nat -> Bool) : ∀ (l : List α) (k : Nat), 1 <= k -> ((l.zipIdx k).any fun x => andB (ltI 0 ((x.2 : Nat) : Int)) (P x)) = (l.zipIdx k).any P
 | [], _, _ => rfl
 | x :: l, k, h => by
  rw [List.zipIdx_cons, List.any_cons, List.any_cons, any_pos P l (k + 1) (by omega), show ltI 0 ((k : Nat) : Int) = true by rw [ltI_d, decide_eq_true (by omega)], andB_d, Bool.true_and]
def unsorted (l : List Int) : Bool := ((l.drop 1).zipIdx 1).any fun x => !(ltI (gd l (x.2 - 1)) x.1)
theorem sleep_split (f : Frame) : sleepBad f = ((f.Sleep.any fun x => !agentOk x) || (f.Sleep.any fun x => eqI x f.Agent) || unsorted f.Sleep) := by
 unfold sleepBad badS
 simp only [orB_d]
 rw [any_or (fun x : Int × Nat => (!agentOk x.1) || eqI x.1 f.Agent) (fun x => andB (ltI 0 ((x.2 : Nat) : Int)) (!(ltI (gd f.Sleep (x.2 - 1)) x.1))), any_or (fun x : Int × Nat => !agentOk x.1) (fun x => eqI x.1 f.Agent), any_zip (fun x => !agentOk x), any_zip (fun x => eqI x f.Agent)]
 congr 1
 unfold unsorted
 cases hs : f.Sleep with
 | nil => rfl
 | cons y q =>
  rw [List.zipIdx_cons, List.any_cons, show ltI 0 ((0 : Nat) : Int) = false from rfl, andB_d, Bool.false_and, Bool.false_or]
  exact any_pos (fun x => !(ltI (gd (y :: q) (x.2 - 1)) x.1)) q 1 (by omega)
theorem ref_sorted (l : List Int) (hl : l.length <= 1000000000000) : r02_Valid l = some (!unsorted l) := by
 have h := srch (L := r02_Valid_L1 l) (fun k x => onlyIf (!(ltI (gd l (k - 1)) x)) false) (fun _ => rfl) (l.drop 1) 1 fun j x hx q => by
  have hj := getN_some hx
  rw [List.length_drop] at hj
  have hg : l[j]? = some (gd l j) := by simp [gd]; rw [List.getElem?_eq_getElem (by omega)]; rfl
  rw [r02_Valid_L1, show ((1 + j : Nat) : Int) - 1 = (j : Int) by omega, wrapN (by omega), getI_nat, hg, Option.bind_some, show 1 + j - 1 = j by omega]
  exact step_only _ _ _
 rw [first_only] at h
 rw [r02_Valid, h]
 show Option.bind (Option.bind (some (toS (onlyIf (unsorted l) false))) _) _ = _
 cases unsorted l <;> rfl
theorem ref_has (l : List Int) (a : Int) : r02_Has l a = some (l.any fun x => eqI x a) := by
 have h := srch (L := r02_Has_L1 a) (fun _ (x : Int) => onlyIf (eqI x a) true) (fun _ => rfl) l 0 fun j x hx q => by
  rw [r02_Has_L1]; exact step_only _ _ _
 rw [first_onlyC] at h
 rw [r02_Has, h]
 cases l.any fun x => eqI x a <;> rfl
theorem ref_validF {n : Nat} {f : Frame} (hn : 600 <= n) (hl : f.Sleep.length <= 1000000000000) : r49_frame n f = some (validF f) := by
 have h := srch (L := r49_frame_L1) (fun _ (x : Int) => onlyIf (!agentOk x) false) (fun _ => rfl) f.Sleep 0 fun j x hx q => by
  rw [r49_frame_L1, ref_value, Option.bind_some]; exact step_only _ _ _
 rw [first_onlyC] at h
 rw [r49_frame, ref_value, Option.bind_some, ref_sorted _ hl, ref_has, h, validF, sleep_split]
 simp only [Option.isSome_some, Option.getD_some, orB_t, guardO_t, ltI_d]
 cases ha : agentOk f.Agent with
 | false => rfl
 | true =>
  rw [Bool.true_and]
  by_cases h2 : f.Sleep.length <= 2048
  ·rw [decide_eq_false (p := (2048 : Int) < ((f.Sleep.length : Nat) : Int)) (by omega), decide_eq_true h2, Bool.true_and]
   cases hu : unsorted f.Sleep with
   | true => simp [orB_d]
   | false =>
    cases hh : f.Sleep.any fun x => eqI x f.Agent with
    | true => simp [orB_d]
    | false =>
     cases hb : f.Sleep.any fun x => !agentOk x with
     | true => simp [orB_d]
     | false =>
      simp only [Bool.not_true, Bool.not_false, Bool.or_false, Bool.true_and, orB_d, cond_false, onlyIf_f, toS_none, Option.bind_some]
      rw [show (512 : Int) = ((512 : Nat) : Int) from rfl, ref_depth 512 n f.Tree (by omega) (by omega), Option.bind_some, treeOk]
      cases hs : shal 512 f.Tree.Kids with
      | false => rw [Bool.and_false]; rfl
      | true =>
       rw [r33_Valid, ref_dist 512 n f.Tree.Kids (by omega) hs, wakeOk, Bool.and_true, Bool.true_and]
       simp only [Option.isSome_some, Option.getD_some, orB_t, guardO_t]
       cases h0 : eqI f.Tree.Agent 0 with
       | false => cases agentOk f.Tree.Agent <;> rfl
       | true =>
        have e0 : f.Tree.Agent = 0 := by rw [eqI_d] at h0; exact of_decide_eq_true h0
        rw [e0, show agentOk 0 = true from rfl]
        cases hd : dist 512 f.Tree.Kids with
        | false => rfl
        | true =>
         cases hK : f.Tree.Kids with
         | nil => rfl
         | cons x l =>
          have : eqI (((x :: l).length : Nat) : Int) 0 = false := by rw [eqI_d, decide_eq_false (by simp; omega)]
          rw [this]; rfl
  ·rw [decide_eq_true (p := (2048 : Int) < ((f.Sleep.length : Nat) : Int)) (by omega), decide_eq_false h2]
   simp [orB_d]
theorem ref_valid {n : Nat} {s : Snapshot} (hn : 600 <= n) (hl : ∀ f ∈ s.Frames, f.Sleep.length <= 1000000000000) : r49_Valid n s = some (validS s) := by
 have h := srch (L := r49_Valid_L1 n) (fun _ (f : Frame) => onlyIf (!validF f) false) (fun _ => rfl) s.Frames 0 fun j x hx q => by
  rw [r49_Valid_L1, ref_validF hn (hl x (List.mem_of_getElem? hx)), Option.bind_some]; exact step_only _ _ _
 rw [first_onlyC, any_not_all] at h
 rw [r49_Valid, h, validS]
 cases orB (orB (orB (orB (ltI s.Count 0) (ltI 1048576 s.Count)) (ltI s.Blocked 0)) (ltI 1048576 s.Blocked)) (ltI 512 ((s.Frames.length : Nat) : Int)) <;> cases andB (ltI 0 ((s.Frames.length : Nat) : Int)) (orB s.Done (eqI s.Count 0)) <;> cases s.Frames.all validF <;> rfl
end Go.Dc.Pl
end
section
set_option linter.all false
namespace Go.Dc
open Go Go.Hw Go.Proofs
set_option maxRecDepth 100000
def program_CheckConfig (a0 : Config) : Option Int :=
 cond (andB (andB (!(eqI a0.Model 1)) (!(eqI a0.Model 2))) (!(eqI a0.Model 3))) (some 18) (cond (orB (ltI a0.Bound 1) (ltI 32 a0.Bound)) (some 2) (some 0))
set_option maxHeartbeats 2000000 in
theorem at_program_CheckConfig {a0 : Config} {r : Int} (hs : program_CheckConfig a0 = some r) : At Tryz.prog 81 [.agg (eA a0)] (iV .i64 r) := by
 refine at_bound (by kernel_rfl) fun hb => ?_
 refine at_code mixed Tryz.func81 (by kernel_rfl) rfl (by kernel_rfl) rfl fun Q hQ => ?_
 rw [program_CheckConfig] at hs
 refine goG f0 f0 ?_
 revert hs; refine cS f0 ?_ ?_ <;> intro h1 hs
 ·refine goG f0 f0 ?_
  obtain rfl := sj hs
  exact hQ _ _ (rg f0 (Gh.refl _))
 ·refine goG f0 f0 ?_
  revert hs; refine cS f0 ?_ ?_ <;> intro h2 hs
  ·refine goG f0 f0 ?_
   obtain rfl := sj hs
   exact hQ _ _ (rg f0 (Gh.refl _))
  ·refine goG f0 f0 ?_
   obtain rfl := sj hs
   exact hQ _ _ (rg f0 (Gh.refl _))
end Go.Dc
end
section
set_option linter.all false
namespace Go.Dc
open Go Go.Hw Go.Proofs
set_option maxRecDepth 100000
def checkpoint_standard (fuelN : Nat) (a0 : Program) (a1 : Config) : Option Int :=
 Option.bind (program_Check fuelN a0) (fun y1 => cond (!(eqI y1.1 0)) (some y1.1) (Option.bind (program_CheckConfig a1) (fun y4 => cond (!(eqI y4 0)) (some y4) (cond (eqI a1.Model 3) (some 18) (some 0)))))
set_option maxHeartbeats 2000000 in
theorem at_checkpoint_standard {fuelN : Nat} {a0 : Program} {a1 : Config} {r : Int} (hs : checkpoint_standard fuelN a0 a1 = some r) : At Tryz.prog 54 [.agg (eA a0), .agg (eA a1)] (iV .i64 r) := by
 refine at_bound (by kernel_rfl) fun hb => ?_
 have hb1 : LenOk (.sl a0.Vars.length (encL a0.Vars)) := lkc hb
 have hb2 : LenOk (.sl a0.Mutexes.length (encL a0.Mutexes)) := lkc hb
 have hb3 : LenOk (.sl a0.Conds.length (encL a0.Conds)) := lkc hb
 have hb4 : LenOk (.sl a0.Funcs.length (encL a0.Funcs)) := lkc hb
 have hb5 : LenOk (.sl a0.Threads.length (encL a0.Threads)) := lkc hb
 refine at_code mixed Tryz.func54 (by kernel_rfl) rfl (by kernel_rfl) rfl fun Q hQ => ?_
 rw [checkpoint_standard] at hs
 refine goR f0 ?_
 revert hs; refine bK fun y1 hx2 hs => ?_
 refine cP f0 (at_program_Check hx2) ?_
 refine goR f0 ?_
 revert hs; refine cS f0 ?_ ?_ <;> intro h3 hs
 ·refine goR f0 ?_
  obtain rfl := sj hs
  exact hQ _ _ (rg f0 (Gh.refl _))
 ·refine goR f0 ?_
  revert hs; refine bK fun y4 hx5 hs => ?_
  refine cP f0 (at_program_CheckConfig hx5) ?_
  refine goR f0 ?_
  revert hs; refine cS f0 ?_ ?_ <;> intro h6 hs
  ·refine goR f0 ?_
   obtain rfl := sj hs
   exact hQ _ _ (rg f0 (Gh.refl _))
  ·refine goR f0 ?_
   revert hs; refine cS f0 ?_ ?_ <;> intro h7 hs
   ·refine goR f0 ?_
    obtain rfl := sj hs
    exact hQ _ _ (rg f0 (Gh.refl _))
   ·refine goR f0 ?_
    obtain rfl := sj hs
    exact hQ _ _ (rg f0 (Gh.refl _))
end Go.Dc
end
section
set_option linter.all false
namespace Go.Dc
open Go Go.Hw Go.Proofs
set_option maxRecDepth 100000
def checkpoint_text_2 (fuelN : Nat) (a0 : Int) (a1 : List UInt8) : Option (List UInt8) :=
 Option.bind (frame_AppendUint fuelN a1 a0) (fun y1 => some y1)
set_option maxHeartbeats 2000000 in
theorem at_checkpoint_text_2 {fuelN : Nat} {a0 : Int} {a1 : List UInt8} {r : (List UInt8)} (hs : checkpoint_text_2 fuelN a0 a1 = some r) : CAt Tryz.prog 83 [iV .i64 a0, .cell (.ref (.a 0) 0)] [.cells [.own (.sp 1 a1.length (encL a1))]] (.ret (.tup [])) [(.a 0, .cells [.own (.sp 1 r.length (encL r))])] := by
 refine at_bound (by kernel_rfl) fun hb => ?_
 refine at_code mixed Tryz.func83 (by kernel_rfl) rfl (by kernel_rfl) rfl fun Q hQ => ?_
 rw [checkpoint_text_2] at hs
 refine goR f0 ?_
 revert hs; refine bK fun y1 hx2 hs => ?_
 refine cA f0 (at_frame_AppendUint hx2) ?_
 refine goR f0 ?_
 obtain rfl := sj hs
 refine hQ _ _ (ret2g _ (Gh.close _ (.a 0) 0) (by simp [St.frz, St.pur]; rfl) (by first | rfl | (simp [St.frz, St.pur]; done) | (rw [if_pos (by first | omega | (simp; omega))]; simp [St.frz, St.pur]; first | omega | exact List.take_of_length_le (by simp; omega) | skip)) (pv f0))
end Go.Dc
end
section
set_option linter.all false
namespace Go.Dc
open Go Go.Hw Go.Proofs
set_option maxRecDepth 100000
def checkpoint_text_3_checkpoint_text_2_L1 (fuelN : Nat) : List ByteArray -> Nat -> (List UInt8) -> Option (List UInt8)
 | [], k12, l13 => some (l13)
 | x32 :: q28, k12, l13 => Option.bind (frame_AppendString fuelN l13 x32) (fun y35 => checkpoint_text_3_checkpoint_text_2_L1 fuelN q28 (k12 + 1) y35)
def checkpoint_text_3_checkpoint_text_2 (fuelN : Nat) (a0 : List ByteArray) (a2 : List UInt8) : Option (List UInt8) :=
 Option.bind (checkpoint_text_2 fuelN ((a0.length : Nat) : Int) a2) (fun y1 => Option.bind (checkpoint_text_3_checkpoint_text_2_L1 fuelN a0 0 y1) (fun l21 => some l21))
set_option maxHeartbeats 2000000 in
theorem at_checkpoint_text_3_checkpoint_text_2 {fuelN : Nat} {a0 : List ByteArray} {a2 : List UInt8} {r : (List UInt8)} (hs : checkpoint_text_3_checkpoint_text_2 fuelN a0 a2 = some r) : CAt Tryz.prog 84 [.cell (sC a0), .cell (.ref (.a 0) 0), .cell (.ref (.a 1) 0)] [.cells [.fn 83 [.inl (.a 1)]], .cells [.own (.sp 1 a2.length (encL a2))]] (.ret (.tup [])) [(.a 1, .cells [.own (.sp 1 r.length (encL r))]), (.a 0, .cells [.fn 83 [.inl (.a 1)]])] := by
 refine at_bound (by kernel_rfl) fun hb => ?_
 have hb1 : LenOk (.sl a0.length (encL a0)) := lkc hb
 refine at_code mixed Tryz.func84 (by kernel_rfl) rfl (by kernel_rfl) rfl fun Q hQ => ?_
 rw [checkpoint_text_3_checkpoint_text_2] at hs
 refine goR f0 ?_
 revert hs; refine bK fun y1 hx2 hs => ?_
 refine cB f0 (at_checkpoint_text_2 hx2) [.a 1] ?_
 refine goR f0 ?_
 revert hs; refine bK fun o23 e22 hs => ?_
 refine awp_loopW (fun (v : (List ByteArray) × Nat × (List UInt8)) (σ : St) => checkpoint_text_3_checkpoint_text_2_L1 fuelN v.1 v.2.1 v.2.2 = some o23 /\ v.1 = a0.drop v.2.1 /\ σ.env 2 = .cell (.ref (.a 1) 0) /\ σ.env 10 = .cell (sC a0) /\ σ.env 11 = iV .i64 ((a0.length : Nat) : Int) /\ σ.env 12 = iV .i64 ((v.2.1 : Nat) : Int) /\ σ.hp (.a 1) = some (.cells [.own (.sp 1 v.2.2.length (encL v.2.2))]) /\ σ.hp (.a 0) = some (.cells [.fn 83 [.inl (.a 1)]]) /\ 2 <= σ.gen) (fun v => v.1.length) _ (Gh.refl _) (a0, 0, y1) ⟨e22, by simp, pv f0, pv f0, pv f0, pv f0, pv f0, pv f0, pg⟩ fun v σ2 hp L24 hL25 => ?_
 obtain ⟨q27, k12, l13⟩ := v
 dsimp only at hp hL25
 obtain ⟨e22, hd26, h1_2, h1_10, h1_11, h1_12, g1_0, g1_1, n1_g⟩ := hp
 rcases q27 with _ | ⟨x32, q28⟩
 ·have hlt29 := drop_end hd26
  rw [checkpoint_text_3_checkpoint_text_2_L1] at e22; try dsimp only at e22
  have F1 := an h1_2 (an h1_10 (an h1_11 (an h1_12 (an g1_0 g1_1))))
  refine goR F1 ?_
  refine condK_f (by simp [ltI]; omega) ?_
  obtain rfl := sj e22
  try dsimp only at hs
  obtain rfl := sj hs
  refine hQ _ _ (ret2g _ (Gh.refl _) (by simp [St.frz, St.pur, F1]; rfl) (by first | rfl | (simp [St.frz, St.pur, F1]; done) | (rw [if_pos (by first | omega | (simp; omega))]; simp [St.frz, St.pur, F1]; first | omega | exact List.take_of_length_le (by simp; omega) | skip)) (pv F1))
 ·obtain ⟨hx31, hlt29, hd33⟩ := drop_next hd26
  have ew30 := wrap_succ hlt29 (hb1).len
  rw [checkpoint_text_3_checkpoint_text_2_L1] at e22; try dsimp only at e22
  have F2 := an h1_2 (an h1_10 (an h1_11 (an h1_12 (an g1_0 (an g1_1 (an hlt29 ew30))))))
  refine goR F2 ?_
  refine condK_t (by simp [ltI]; omega) ?_
  have f34 : partCV Tryz.prog 9 (encL a0) (k12) = some (sV x32) := partCV_enc1 hx31 (by simp)
  have F3 := an F2 f34
  refine goR F3 ?_
  revert e22; refine bK fun y35 hx36 e22 => ?_
  refine cA F3 (at_frame_AppendString hx36) ?_
  refine goR F3 ?_
  exact hL25 (q28, (k12 + 1), y35) _ _ (Gh.close _ (.a 1) 0) ⟨e22, hd33, pv F3, pv F3, pv F3, pv F3, pv F3, pv F3, pg⟩ (by simp)
end Go.Dc
end
section
set_option linter.all false
namespace Go.Dc
open Go Go.Hw Go.Proofs
set_option maxRecDepth 100000
def checkpoint_text_1_L1 (fuelN : Nat) : List Int -> Nat -> (List UInt8) -> Option (List UInt8)
 | [], k10, l11 => some (l11)
 | x30 :: q26, k10, l11 => Option.bind (frame_AppendInt fuelN l11 x30) (fun y33 => checkpoint_text_1_L1 fuelN q26 (k10 + 1) y33)
def checkpoint_text_1 (fuelN : Nat) (a0 : List Int) (a1 : List UInt8) : Option (List UInt8) :=
 Option.bind (checkpoint_text_1_L1 fuelN a0 0 a1) (fun l19 => some l19)
set_option maxHeartbeats 2000000 in
theorem at_checkpoint_text_1 {fuelN : Nat} {a0 : List Int} {a1 : List UInt8} {r : (List UInt8)} (hs : checkpoint_text_1 fuelN a0 a1 = some r) : CAt Tryz.prog 82 [.cell (sC a0), .cell (.ref (.a 0) 0)] [.cells [.own (.sp 1 a1.length (encL a1))]] (.ret (.tup [])) [(.a 0, .cells [.own (.sp 1 r.length (encL r))])] := by
 refine at_bound (by kernel_rfl) fun hb => ?_
 have hb1 : LenOk (.sl a0.length (encL a0)) := lkc hb
 refine at_code mixed Tryz.func82 (by kernel_rfl) rfl (by kernel_rfl) rfl fun Q hQ => ?_
 rw [checkpoint_text_1] at hs
 refine goR f0 ?_
 revert hs; refine bK fun o21 e20 hs => ?_
 refine awp_loopW (fun (v : (List Int) × Nat × (List UInt8)) (σ : St) => checkpoint_text_1_L1 fuelN v.1 v.2.1 v.2.2 = some o21 /\ v.1 = a0.drop v.2.1 /\ σ.env 1 = .cell (.ref (.a 0) 0) /\ σ.env 5 = .cell (sC a0) /\ σ.env 6 = iV .i64 ((a0.length : Nat) : Int) /\ σ.env 7 = iV .i64 ((v.2.1 : Nat) : Int) /\ σ.hp (.a 0) = some (.cells [.own (.sp 1 v.2.2.length (encL v.2.2))]) /\ 1 <= σ.gen) (fun v => v.1.length) _ (Gh.refl _) (a0, 0, a1) ⟨e20, by simp, pv f0, pv f0, pv f0, pv f0, pv f0, pg⟩ fun v σ2 hp L22 hL23 => ?_
 obtain ⟨q25, k10, l11⟩ := v
 dsimp only at hp hL23
 obtain ⟨e20, hd24, h1_1, h1_5, h1_6, h1_7, g1_0, n1_g⟩ := hp
 rcases q25 with _ | ⟨x30, q26⟩
 ·have hlt27 := drop_end hd24
  rw [checkpoint_text_1_L1] at e20; try dsimp only at e20
  have F1 := an h1_1 (an h1_5 (an h1_6 (an h1_7 g1_0)))
  refine goR F1 ?_
  refine condK_f (by simp [ltI]; omega) ?_
  obtain rfl := sj e20
  try dsimp only at hs
  obtain rfl := sj hs
  refine hQ _ _ (ret2g _ (Gh.refl _) (by simp [St.frz, St.pur, F1]; rfl) (by first | rfl | (simp [St.frz, St.pur, F1]; done) | (rw [if_pos (by first | omega | (simp; omega))]; simp [St.frz, St.pur, F1]; first | omega | exact List.take_of_length_le (by simp; omega) | skip)) (pv F1))
 ·obtain ⟨hx29, hlt27, hd31⟩ := drop_next hd24
  have ew28 := wrap_succ hlt27 (hb1).len
  rw [checkpoint_text_1_L1] at e20; try dsimp only at e20
  have F2 := an h1_1 (an h1_5 (an h1_6 (an h1_7 (an g1_0 (an hlt27 ew28)))))
  refine goR F2 ?_
  refine condK_t (by simp [ltI]; omega) ?_
  have f32 : partCV Tryz.prog 3 (encL a0) (k10) = some (iV .i64 x30) := partCV_enc1 hx29 (by simp)
  have F3 := an F2 f32
  refine goR F3 ?_
  revert e20; refine bK fun y33 hx34 e20 => ?_
  refine cA F3 (at_frame_AppendInt hx34) ?_
  refine goR F3 ?_
  exact hL23 (q26, (k10 + 1), y33) _ _ (Gh.close _ (.a 0) 0) ⟨e20, hd31, pv F3, pv F3, pv F3, pv F3, pv F3, pg⟩ (by simp)
end Go.Dc
end
section
set_option linter.all false
namespace Go.Dc
open Go Go.Hw Go.Proofs
set_option maxRecDepth 100000
def checkpoint_text_L1 (fuelN : Nat) : List Var -> Nat -> (List UInt8) -> Option (List UInt8)
 | [], k71, l72 => some (l72)
 | x95 :: q91, k71, l72 => Option.bind (frame_AppendString fuelN l72 x95.Name) (fun y98 => Option.bind (some ([x95.Init])) (fun l100 => Option.bind (checkpoint_text_1 fuelN l100 y98) (fun y102 => checkpoint_text_L1 fuelN q91 (k71 + 1) y102)))
def checkpoint_text_L3 (fuelN : Nat) : List Inst -> Nat -> (List UInt8) -> Option (List UInt8)
 | [], k968, l969 => some (l969)
 | x990 :: q986, k968, l969 => Option.bind (some ([x990.Op, x990.A, x990.B, x990.C, x990.Obj, x990.N, x990.Fn, x990.Order])) (fun l993 => Option.bind (checkpoint_text_1 fuelN l993 l969) (fun y995 => checkpoint_text_L3 fuelN q986 (k968 + 1) y995))
def checkpoint_text_L2 (fuelN : Nat) (a0 : Program) : Nat -> Int -> (List UInt8) -> Option (List UInt8)
 | 0, _, _ => none
 | q893 + 1, i776, l777 => cond (ltI i776 ((a0.Funcs.length : Nat) : Int)) (Option.bind (α := (List UInt8)) (Option.bind (getI a0.Funcs i776) (fun x950 => Option.bind (frame_AppendString fuelN l777 x950.Name) (fun y953 => Option.bind (checkpoint_text_2 fuelN ((x950.Code.length : Nat) : Int) y953) (fun y955 => Option.bind (checkpoint_text_L3 fuelN x950.Code 0 y955) (fun l979 => some (l979)))))) (fun l945 => checkpoint_text_L2 fuelN a0 q893 (IntKind.i64.wrap (i776 + 1)) l945)) (some (l777))
def checkpoint_text_L4 (fuelN : Nat) : List Start -> Nat -> (List UInt8) -> Option (List UInt8)
 | [], k1055, l1056 => some (l1056)
 | x1077 :: q1073, k1055, l1056 => Option.bind (some ([x1077.Func, x1077.Arg])) (fun l1080 => Option.bind (checkpoint_text_1 fuelN l1080 l1056) (fun y1082 => checkpoint_text_L4 fuelN q1073 (k1055 + 1) y1082))
def checkpoint_text (fuelN : Nat) (a0 : Program) (a1 : Config) : Option (List UInt8) :=
 Option.bind (some ([a1.Model, a1.Bound])) (fun l1 => Option.bind (checkpoint_text_1 fuelN l1 ([] : List UInt8)) (fun y3 => Option.bind (checkpoint_text_2 fuelN ((a0.Vars.length : Nat) : Int) y3) (fun y5 => Option.bind (α := (List UInt8)) (Option.bind (checkpoint_text_L1 fuelN a0.Vars 0 y5) (fun l84 => some (l84))) (fun l53 => Option.bind (checkpoint_text_3_checkpoint_text_2 fuelN a0.Mutexes l53) (fun y104 => Option.bind (checkpoint_text_3_checkpoint_text_2 fuelN a0.Conds y104) (fun y106 => Option.bind (checkpoint_text_2 fuelN ((a0.Funcs.length : Nat) : Int) y106) (fun y108 => Option.bind (α := (List UInt8)) (Option.bind (checkpoint_text_L2 fuelN a0 fuelN 0 y108) (fun l886 => some (l886))) (fun l551 => Option.bind (checkpoint_text_2 fuelN ((a0.Threads.length : Nat) : Int) l551) (fun y997 => Option.bind (α := (List UInt8)) (Option.bind (checkpoint_text_L4 fuelN a0.Threads 0 y997) (fun l1066 => some (l1066))) (fun l1039 => some l1039))))))))))
set_option maxHeartbeats 2000000 in
theorem at_checkpoint_text {fuelN : Nat} {a0 : Program} {a1 : Config} {r : (List UInt8)} (hs : checkpoint_text fuelN a0 a1 = some r) : CAt Tryz.prog 55 [.agg (eA a0), .agg (eA a1)] [] (.ret (.cell (.sl (.r 0) 0 1 r.length))) [(.r 0, .pure (encL r))] := by
 refine at_bound (by kernel_rfl) fun hb => ?_
 have hb1 : LenOk (.sl a0.Vars.length (encL a0.Vars)) := lkc hb
 have hb2 : LenOk (.sl a0.Mutexes.length (encL a0.Mutexes)) := lkc hb
 have hb3 : LenOk (.sl a0.Conds.length (encL a0.Conds)) := lkc hb
 have hb4 : LenOk (.sl a0.Funcs.length (encL a0.Funcs)) := lkc hb
 have hb5 : LenOk (.sl a0.Threads.length (encL a0.Threads)) := lkc hb
 refine at_code mixed Tryz.func55 (by kernel_rfl) rfl (by kernel_rfl) rfl fun Q hQ => ?_
 rw [checkpoint_text] at hs
 refine goN f0 ?_
 refine awp_reg ?_
 refine goN f0 ?_
 refine awp_reg ?_
 refine goN f0 ?_
 refine awp_reg ?_
 refine goN f0 ?_
 refine awp_reg ?_
 refine goN f0 ?_
 refine awp_reg ?_
 refine goN f0 ?_
 refine awp_gh (by rfl) ((Gh.voidB _ (.l 1) (.o 2 0 0) 0 1 rfl (by simp; rfl) (by first | rfl | simp) (by simp)).trans (Gh.close _ (.o 2 0 0) 0)) ?_
 try simp only [St.frz, St.pur]
 revert hs; refine lK fun l1 hx2 hs => ?_
 have hx2n : l1.length = 2 := by rw [hx2]; rfl
 refine goR hx2 ?_
 revert hs; refine bK fun y3 hx4 hs => ?_
 refine cB hx2 (at_checkpoint_text_1 hx4) [.o 2 0 0] ?_
 refine goR hx2 ?_
 revert hs; refine bK fun y5 hx6 hs => ?_
 refine cB hx2 (at_checkpoint_text_2 hx6) [.o 2 0 0] ?_
 refine goR2 hx2 ?_
 revert hs; refine bK fun o55 e54 hs => ?_
 refine awp_cutK (fun (v : (List UInt8)) (σ : St) => some (v) = some o55 /\ σ.env 2 = .cell (.ref (.o 1 0 0) 0) /\ σ.env 5 = .cell (.ref (.o 2 0 0) 0) /\ σ.env 6 = .cell (.fn 82 [.inl (.o 2 0 0)]) /\ σ.env 7 = .cell (.ref (.o 4 1 0) 0) /\ σ.env 8 = .cell (.fn 84 [.inl (.o 4 1 0), .inl (.o 2 0 0)]) /\ σ.hp (.o 1 0 0) = some (.cells (eA a0)) /\ σ.hp (.o 2 0 0) = some (.cells [.own (.sp 1 v.length (encL v))]) /\ σ.hp (.o 4 1 0) = some (.cells [.fn 83 [.inl (.o 2 0 0)]]) /\ 8 <= σ.gen) (by rfl) (fun Q hK56 hX57 => ?_) (fun l53 σ3 hp => ?_)
 ·refine goR hx2 ?_
  revert e54; refine bK fun o86 e85 e54 => ?_
  refine awp_loopW (fun (v : (List Var) × Nat × (List UInt8)) (σ : St) => checkpoint_text_L1 fuelN v.1 v.2.1 v.2.2 = some o86 /\ v.1 = a0.Vars.drop v.2.1 /\ σ.env 2 = .cell (.ref (.o 1 0 0) 0) /\ σ.env 5 = .cell (.ref (.o 2 0 0) 0) /\ σ.env 6 = .cell (.fn 82 [.inl (.o 2 0 0)]) /\ σ.env 7 = .cell (.ref (.o 4 1 0) 0) /\ σ.env 8 = .cell (.fn 84 [.inl (.o 4 1 0), .inl (.o 2 0 0)]) /\ σ.env 33 = .cell (sC a0.Vars) /\ σ.env 34 = iV .i64 ((a0.Vars.length : Nat) : Int) /\ σ.env 35 = iV .i64 ((v.2.1 : Nat) : Int) /\ σ.hp (.o 1 0 0) = some (.cells (eA a0)) /\ σ.hp (.o 2 0 0) = some (.cells [.own (.sp 1 v.2.2.length (encL v.2.2))]) /\ σ.hp (.o 4 1 0) = some (.cells [.fn 83 [.inl (.o 2 0 0)]]) /\ 8 <= σ.gen) (fun v => v.1.length) _ (Gh.refl _) (a0.Vars, 0, y5) ⟨e85, by simp, pv hx2, pv hx2, pv hx2, pv hx2, pv hx2, pv hx2, pv hx2, pv hx2, pv hx2, pv hx2, pv hx2, pg⟩ fun v σ6 hp L87 hL88 => ?_
  obtain ⟨q90, k71, l72⟩ := v
  dsimp only at hp hL88
  obtain ⟨e85, hd89, h5_2, h5_5, h5_6, h5_7, h5_8, h5_33, h5_34, h5_35, g5_0, g5_1, g5_2, n5_g⟩ := hp
  have n5_0 : ¬ (σ6.gen = 0) := by omega
  have n5_1 : ¬ (σ6.gen = 1) := by omega
  have n5_2 : ¬ (σ6.gen = 2) := by omega
  have n5_3 : ¬ (σ6.gen = 3) := by omega
  rcases q90 with _ | ⟨x95, q91⟩
  ·have hlt92 := drop_end hd89
   rw [checkpoint_text_L1] at e85; try dsimp only at e85
   have F1 := an h5_2 (an h5_5 (an h5_6 (an h5_7 (an h5_8 (an h5_33 (an h5_34 (an h5_35 (an g5_0 (an g5_1 (an g5_2 (an n5_0 (an n5_1 (an n5_2 n5_3)))))))))))))
   refine goR F1 ?_
   refine condK_f (by simp [ltI]; omega) ?_
   obtain rfl := sj e85
   try dsimp only at e54
   exact hK56 l72 _ _ (Gh.refl _) ⟨e54, pv F1, pv F1, pv F1, pv F1, pv F1, pv F1, pv F1, pv F1, pg⟩
  ·obtain ⟨hx94, hlt92, hd96⟩ := drop_next hd89
   have ew93 := wrap_succ hlt92 (hb1).len
   rw [checkpoint_text_L1] at e85; try dsimp only at e85
   have F2 := an h5_2 (an h5_5 (an h5_6 (an h5_7 (an h5_8 (an h5_33 (an h5_34 (an h5_35 (an g5_0 (an g5_1 (an g5_2 (an n5_0 (an n5_1 (an n5_2 (an n5_3 (an hlt92 ew93)))))))))))))))
   refine goR F2 ?_
   refine condK_t (by simp [ltI]; omega) ?_
   have f97 : partCV Tryz.prog 83 (encL a0.Vars) (k71 * 2) = some (.agg (eA x95)) := partCV_enc hx94 (f := 0) (by simp)
   have F3 := an F2 f97
   refine goR F3 ?_
   revert e85; refine bK fun y98 hx99 e85 => ?_
   refine cA F3 (at_frame_AppendString hx99) ?_
   refine goN F3 ?_
   refine awp_gh (by rfl) (Gh.close _ (.o 2 0 0) 0) ?_
   try simp only [St.frz, St.pur]
   revert e85; refine lK fun l100 hx101 e85 => ?_
   have hx101n : l100.length = 1 := by rw [hx101]; rfl
   have F4 := an F3 hx101
   refine goR F4 ?_
   revert e85; refine bK fun y102 hx103 e85 => ?_
   refine cB F4 (at_checkpoint_text_1 hx103) [.o 2 0 0] ?_
   refine goR F4 ?_
   exact hL88 (q91, (k71 + 1), y102) _ _ (Gh.refl _) ⟨e85, hd96, pv F4, pv F4, pv F4, pv F4, pv F4, pv F4, pv F4, pv F4, pv F4, pv F4, pv F4, pg⟩ (by simp)
 ·obtain ⟨e54, h4_2, h4_5, h4_6, h4_7, h4_8, g4_0, g4_1, g4_2, n4_g⟩ := hp
  obtain rfl := sj e54
  try dsimp only at hs
  have n4_0 : ¬ (σ3.gen = 0) := by omega
  have n4_1 : ¬ (σ3.gen = 1) := by omega
  have n4_2 : ¬ (σ3.gen = 2) := by omega
  have n4_3 : ¬ (σ3.gen = 3) := by omega
  have F5 := an h4_2 (an h4_5 (an h4_6 (an h4_7 (an h4_8 (an g4_0 (an g4_1 (an g4_2 (an n4_0 (an n4_1 (an n4_2 n4_3))))))))))
  refine goR F5 ?_
  revert hs; refine bK fun y104 hx105 hs => ?_
  refine cB F5 (at_checkpoint_text_3_checkpoint_text_2 hx105) [.o 4 1 0, .o 2 0 0] ?_
  refine goR F5 ?_
  revert hs; refine bK fun y106 hx107 hs => ?_
  refine cB F5 (at_checkpoint_text_3_checkpoint_text_2 hx107) [.o 4 1 0, .o 2 0 0] ?_
  refine goR F5 ?_
  revert hs; refine bK fun y108 hx109 hs => ?_
  refine cB F5 (at_checkpoint_text_2 hx109) [.o 2 0 0] ?_
  refine goR2 F5 ?_
  revert hs; refine bK fun o553 e552 hs => ?_
  refine awp_cutK (fun (v : (List UInt8)) (σ : St) => some (v) = some o553 /\ σ.env 2 = .cell (.ref (.o 1 0 0) 0) /\ σ.env 5 = .cell (.ref (.o 2 0 0) 0) /\ σ.env 6 = .cell (.fn 82 [.inl (.o 2 0 0)]) /\ σ.env 7 = .cell (.ref (.o 4 1 0) 0) /\ σ.hp (.o 1 0 0) = some (.cells (eA a0)) /\ σ.hp (.o 2 0 0) = some (.cells [.own (.sp 1 v.length (encL v))]) /\ σ.hp (.o 4 1 0) = some (.cells [.fn 83 [.inl (.o 2 0 0)]]) /\ (σ3.gen + 4) <= σ.gen) (by rfl) (fun Q hK554 hX555 => ?_) (fun l551 σ33 hp => ?_)
  ·refine goR F5 ?_
   revert e552; refine bK fun o888 e887 e552 => ?_
   refine awp_loopW (fun (v : Nat × Int × (List UInt8)) (σ : St) => checkpoint_text_L2 fuelN a0 v.1 v.2.1 v.2.2 = some o888 /\ σ.env 2 = .cell (.ref (.o 1 0 0) 0) /\ σ.env 5 = .cell (.ref (.o 2 0 0) 0) /\ σ.env 6 = .cell (.fn 82 [.inl (.o 2 0 0)]) /\ σ.env 7 = .cell (.ref (.o 4 1 0) 0) /\ σ.env 63 = .cell (sC a0.Funcs) /\ σ.env 64 = iV .i64 ((a0.Funcs.length : Nat) : Int) /\ σ.env 65 = iV .i64 v.2.1 /\ σ.hp (.o 1 0 0) = some (.cells (eA a0)) /\ σ.hp (.o 2 0 0) = some (.cells [.own (.sp 1 v.2.2.length (encL v.2.2))]) /\ σ.hp (.o 4 1 0) = some (.cells [.fn 83 [.inl (.o 2 0 0)]]) /\ (σ3.gen + 4) <= σ.gen) (fun v => v.1) _ (Gh.refl _) (fuelN, 0, y108) ⟨e887, pv F5, pv F5, pv F5, pv F5, pv F5, pv F5, pv F5, pv F5, pv F5, pv F5, pg⟩ fun v σ54 hp L889 hL890 => ?_
   obtain ⟨q892, i776, l777⟩ := v
   dsimp only at hp hL890
   obtain ⟨e887, h53_2, h53_5, h53_6, h53_7, h53_63, h53_64, h53_65, g53_0, g53_1, g53_2, n53_g⟩ := hp
   have n53_0 : ¬ (σ54.gen = 0) := by omega
   have n53_1 : ¬ (σ54.gen = 1) := by omega
   have n53_2 : ¬ (σ54.gen = 2) := by omega
   have n53_3 : ¬ (σ54.gen = 3) := by omega
   rcases q892 with _ | q893
   ·rw [checkpoint_text_L2] at e887; cases e887
   ·rw [checkpoint_text_L2] at e887; try dsimp only at e887
    have F6 := an h53_2 (an h53_5 (an h53_6 (an h53_7 (an h53_63 (an h53_64 (an h53_65 (an g53_0 (an g53_1 (an g53_2 (an n53_0 (an n53_1 (an n53_2 n53_3))))))))))))
    refine goR F6 ?_
    revert e887; refine cS F6 ?_ ?_ <;> intro h897 e887
    ·refine goR2 F6 ?_
     revert e887; refine bK fun o947 e946 e887 => ?_
     refine awp_cutK (fun (v : (List UInt8)) (σ : St) => some (v) = some o947 /\ σ.env 2 = .cell (.ref (.o 1 0 0) 0) /\ σ.env 5 = .cell (.ref (.o 2 0 0) 0) /\ σ.env 6 = .cell (.fn 82 [.inl (.o 2 0 0)]) /\ σ.env 7 = .cell (.ref (.o 4 1 0) 0) /\ σ.env 63 = .cell (sC a0.Funcs) /\ σ.env 64 = iV .i64 ((a0.Funcs.length : Nat) : Int) /\ σ.env 65 = iV .i64 i776 /\ σ.hp (.o 1 0 0) = some (.cells (eA a0)) /\ σ.hp (.o 2 0 0) = some (.cells [.own (.sp 1 v.length (encL v))]) /\ σ.hp (.o 4 1 0) = some (.cells [.fn 83 [.inl (.o 2 0 0)]]) /\ (σ54.gen + 1) <= σ.gen) (by rfl) (fun Q hK948 hX949 => ?_) (fun l945 σ57 hp => ?_)
     ·revert e946; refine bK fun x950 hx951 e946 => ?_
      obtain ⟨hx951a, hx951b, hx951c, hx951d⟩ := getI_some hx951
      have f952 : partCV Tryz.prog 53 (encL a0.Funcs) (((i776).toNat) * 2) = some (.agg (eA x950)) := partCV_enc hx951d (f := 0) (by simp)
      have F7 := an F6 f952
      refine goR F7 ?_
      revert e946; refine bK fun y953 hx954 e946 => ?_
      refine cA F7 (at_frame_AppendString hx954) ?_
      refine goN F7 ?_
      refine awp_gh (by rfl) (Gh.close _ (.o 2 0 0) 0) ?_
      try simp only [St.frz, St.pur]
      refine goR F7 ?_
      revert e946; refine bK fun y955 hx956 e946 => ?_
      refine cB F7 (at_checkpoint_text_2 hx956) [.o 2 0 0] ?_
      refine goR F7 ?_
      revert e946; refine bK fun o981 e980 e946 => ?_
      refine awp_loopW (fun (v : (List Inst) × Nat × (List UInt8)) (σ : St) => checkpoint_text_L3 fuelN v.1 v.2.1 v.2.2 = some o981 /\ v.1 = x950.Code.drop v.2.1 /\ σ.env 2 = .cell (.ref (.o 1 0 0) 0) /\ σ.env 5 = .cell (.ref (.o 2 0 0) 0) /\ σ.env 6 = .cell (.fn 82 [.inl (.o 2 0 0)]) /\ σ.env 7 = .cell (.ref (.o 4 1 0) 0) /\ σ.env 63 = .cell (sC a0.Funcs) /\ σ.env 64 = iV .i64 ((a0.Funcs.length : Nat) : Int) /\ σ.env 65 = iV .i64 i776 /\ σ.env 79 = .cell (sC x950.Code) /\ σ.env 80 = iV .i64 ((x950.Code.length : Nat) : Int) /\ σ.env 81 = iV .i64 ((v.2.1 : Nat) : Int) /\ σ.hp (.o 1 0 0) = some (.cells (eA a0)) /\ σ.hp (.o 2 0 0) = some (.cells [.own (.sp 1 v.2.2.length (encL v.2.2))]) /\ σ.hp (.o 4 1 0) = some (.cells [.fn 83 [.inl (.o 2 0 0)]]) /\ (σ54.gen + 5) <= σ.gen) (fun v => v.1.length) _ (Gh.refl _) (x950.Code, 0, y955) ⟨e980, by simp, pv F7, pv F7, pv F7, pv F7, pv F7, pv F7, pv F7, pv F7, pv F7, pv F7, pv F7, pv F7, pv F7, pg⟩ fun v σ60 hp L982 hL983 => ?_
      obtain ⟨q985, k968, l969⟩ := v
      dsimp only at hp hL983
      obtain ⟨e980, hd984, h59_2, h59_5, h59_6, h59_7, h59_63, h59_64, h59_65, h59_79, h59_80, h59_81, g59_0, g59_1, g59_2, n59_g⟩ := hp
      have n59_0 : ¬ (σ60.gen = 0) := by omega
      have n59_1 : ¬ (σ60.gen = 1) := by omega
      have n59_2 : ¬ (σ60.gen = 2) := by omega
      have n59_3 : ¬ (σ60.gen = 3) := by omega
      rcases q985 with _ | ⟨x990, q986⟩
      ·have hlt987 := drop_end hd984
       rw [checkpoint_text_L3] at e980; try dsimp only at e980
       have F8 := an h59_2 (an h59_5 (an h59_6 (an h59_7 (an h59_63 (an h59_64 (an h59_65 (an h59_79 (an h59_80 (an h59_81 (an g59_0 (an g59_1 (an g59_2 (an n59_0 (an n59_1 (an n59_2 (an n59_3 f952))))))))))))))))
       refine goR F8 ?_
       refine condK_f (by simp [ltI]; omega) ?_
       obtain rfl := sj e980
       try dsimp only at e946
       exact hK948 l969 _ _ (Gh.refl _) ⟨e946, pv F8, pv F8, pv F8, pv F8, pv F8, pv F8, pv F8, pv F8, pv F8, pv F8, pg⟩
      ·obtain ⟨hx989, hlt987, hd991⟩ := drop_next hd984
       have ew988 := wrap_succ hlt987 ((LenOk.elem hb4 hx951d (c := .sl x950.Code.length (encL x950.Code)) (by simp))).len
       rw [checkpoint_text_L3] at e980; try dsimp only at e980
       have F9 := an h59_2 (an h59_5 (an h59_6 (an h59_7 (an h59_63 (an h59_64 (an h59_65 (an h59_79 (an h59_80 (an h59_81 (an g59_0 (an g59_1 (an g59_2 (an n59_0 (an n59_1 (an n59_2 (an n59_3 (an f952 (an hlt987 ew988))))))))))))))))))
       refine goR F9 ?_
       refine condK_t (by simp [ltI]; omega) ?_
       have f992 : partCV Tryz.prog 89 (encL x950.Code) (k968 * 8) = some (.agg (eA x990)) := partCV_enc hx989 (f := 0) (by simp)
       revert e980; refine lK fun l993 hx994 e980 => ?_
       have hx994n : l993.length = 8 := by rw [hx994]; rfl
       have F10 := an F9 (an f992 hx994)
       refine goR F10 ?_
       revert e980; refine bK fun y995 hx996 e980 => ?_
       refine cB F10 (at_checkpoint_text_1 hx996) [.o 2 0 0] ?_
       refine goR F10 ?_
       exact hL983 (q986, (k968 + 1), y995) _ _ (Gh.refl _) ⟨e980, hd991, pv F10, pv F10, pv F10, pv F10, pv F10, pv F10, pv F10, pv F10, pv F10, pv F10, pv F10, pv F10, pv F10, pg⟩ (by simp)
     ·obtain ⟨e946, h58_2, h58_5, h58_6, h58_7, h58_63, h58_64, h58_65, g58_0, g58_1, g58_2, n58_g⟩ := hp
      obtain rfl := sj e946
      try dsimp only at e887
      have n58_0 : ¬ (σ57.gen = 0) := by omega
      have n58_1 : ¬ (σ57.gen = 1) := by omega
      have n58_2 : ¬ (σ57.gen = 2) := by omega
      have n58_3 : ¬ (σ57.gen = 3) := by omega
      have F11 := an h58_2 (an h58_5 (an h58_6 (an h58_7 (an h58_63 (an h58_64 (an h58_65 (an g58_0 (an g58_1 (an g58_2 (an n58_0 (an n58_1 (an n58_2 n58_3))))))))))))
      refine goR F11 ?_
      exact hL890 (q893, IntKind.i64.wrap (i776 + 1), l945) _ _ (Gh.refl _) ⟨e887, pv F11, pv F11, pv F11, pv F11, pv F11, pv F11, pv F11, pv F11, pv F11, pv F11, pg⟩ (by omega)
    ·refine goR F6 ?_
     obtain rfl := sj e887
     try dsimp only at e552
     exact hK554 l777 _ _ (Gh.refl _) ⟨e552, pv F6, pv F6, pv F6, pv F6, pv F6, pv F6, pv F6, pg⟩
  ·obtain ⟨e552, h34_2, h34_5, h34_6, h34_7, g34_0, g34_1, g34_2, n34_g⟩ := hp
   obtain rfl := sj e552
   try dsimp only at hs
   have n34_0 : ¬ (σ33.gen = 0) := by omega
   have n34_1 : ¬ (σ33.gen = 1) := by omega
   have n34_2 : ¬ (σ33.gen = 2) := by omega
   have n34_3 : ¬ (σ33.gen = 3) := by omega
   have F12 := an h34_2 (an h34_5 (an h34_6 (an h34_7 (an g34_0 (an g34_1 (an g34_2 (an n34_0 (an n34_1 (an n34_2 n34_3)))))))))
   refine goR F12 ?_
   revert hs; refine bK fun y997 hx998 hs => ?_
   refine cB F12 (at_checkpoint_text_2 hx998) [.o 2 0 0] ?_
   refine goR2 F12 ?_
   revert hs; refine bK fun o1041 e1040 hs => ?_
   refine awp_cutK (fun (v : (List UInt8)) (σ : St) => some (v) = some o1041 /\ σ.env 5 = .cell (.ref (.o 2 0 0) 0) /\ σ.hp (.o 2 0 0) = some (.cells [.own (.sp 1 v.length (encL v))]) /\ (σ33.gen + 2) <= σ.gen) (by rfl) (fun Q hK1042 hX1043 => ?_) (fun l1039 σ63 hp => ?_)
   ·refine goR F12 ?_
    revert e1040; refine bK fun o1068 e1067 e1040 => ?_
    refine awp_loopW (fun (v : (List Start) × Nat × (List UInt8)) (σ : St) => checkpoint_text_L4 fuelN v.1 v.2.1 v.2.2 = some o1068 /\ v.1 = a0.Threads.drop v.2.1 /\ σ.env 5 = .cell (.ref (.o 2 0 0) 0) /\ σ.env 6 = .cell (.fn 82 [.inl (.o 2 0 0)]) /\ σ.env 112 = .cell (sC a0.Threads) /\ σ.env 113 = iV .i64 ((a0.Threads.length : Nat) : Int) /\ σ.env 114 = iV .i64 ((v.2.1 : Nat) : Int) /\ σ.hp (.o 2 0 0) = some (.cells [.own (.sp 1 v.2.2.length (encL v.2.2))]) /\ (σ33.gen + 2) <= σ.gen) (fun v => v.1.length) _ (Gh.refl _) (a0.Threads, 0, y997) ⟨e1067, by simp, pv F12, pv F12, pv F12, pv F12, pv F12, pv F12, pg⟩ fun v σ66 hp L1069 hL1070 => ?_
    obtain ⟨q1072, k1055, l1056⟩ := v
    dsimp only at hp hL1070
    obtain ⟨e1067, hd1071, h65_5, h65_6, h65_112, h65_113, h65_114, g65_0, n65_g⟩ := hp
    have n65_0 : ¬ (σ66.gen = 0) := by omega
    have n65_1 : ¬ (σ66.gen = 1) := by omega
    rcases q1072 with _ | ⟨x1077, q1073⟩
    ·have hlt1074 := drop_end hd1071
     rw [checkpoint_text_L4] at e1067; try dsimp only at e1067
     have F13 := an h65_5 (an h65_6 (an h65_112 (an h65_113 (an h65_114 (an g65_0 (an n65_0 n65_1))))))
     refine goR F13 ?_
     refine condK_f (by simp [ltI]; omega) ?_
     obtain rfl := sj e1067
     try dsimp only at e1040
     exact hK1042 l1056 _ _ (Gh.refl _) ⟨e1040, pv F13, pv F13, pg⟩
    ·obtain ⟨hx1076, hlt1074, hd1078⟩ := drop_next hd1071
     have ew1075 := wrap_succ hlt1074 (hb5).len
     rw [checkpoint_text_L4] at e1067; try dsimp only at e1067
     have F14 := an h65_5 (an h65_6 (an h65_112 (an h65_113 (an h65_114 (an g65_0 (an n65_0 (an n65_1 (an hlt1074 ew1075))))))))
     refine goR F14 ?_
     refine condK_t (by simp [ltI]; omega) ?_
     have f1079 : partCV Tryz.prog 91 (encL a0.Threads) (k1055 * 2) = some (.agg (eA x1077)) := partCV_enc hx1076 (f := 0) (by simp)
     revert e1067; refine lK fun l1080 hx1081 e1067 => ?_
     have hx1081n : l1080.length = 2 := by rw [hx1081]; rfl
     have F15 := an F14 (an f1079 hx1081)
     refine goR F15 ?_
     revert e1067; refine bK fun y1082 hx1083 e1067 => ?_
     refine cB F15 (at_checkpoint_text_1 hx1083) [.o 2 0 0] ?_
     refine goR F15 ?_
     exact hL1070 (q1073, (k1055 + 1), y1082) _ _ (Gh.refl _) ⟨e1067, hd1078, pv F15, pv F15, pv F15, pv F15, pv F15, pv F15, pg⟩ (by simp)
   ·obtain ⟨e1040, h64_5, g64_0, n64_g⟩ := hp
    obtain rfl := sj e1040
    try dsimp only at hs
    have n64_0 : ¬ (σ63.gen = 0) := by omega
    have n64_1 : ¬ (σ63.gen = 1) := by omega
    have F16 := an h64_5 (an g64_0 (an n64_0 n64_1))
    refine goR F16 ?_
    obtain rfl := sj hs
    refine hQ _ _ (ret2g _ (Gh.ren _ (.o (σ63.gen + 1) 0 0) (.r 0) (by simp) rfl rfl) (by simp [St.frz, St.pur, F16]; rfl) (by first | rfl | (simp [St.frz, St.pur, F16]; done) | (rw [if_pos (by first | omega | (simp; omega))]; simp [St.frz, St.pur, F16]; first | omega | exact List.take_of_length_le (by simp; omega) | skip)) (pv F16))
end Go.Dc
end
section
set_option linter.all false
namespace Go.Dc
open Go Go.Hw Go.Proofs
set_option maxRecDepth 100000
def checkpoint_Digest (fuelN : Nat) (a0 : Program) (a1 : Config) : Option (Int × Int) :=
 Option.bind (checkpoint_standard fuelN a0 a1) (fun y1 => cond (!(eqI y1 0)) (some (0, y1)) (Option.bind (checkpoint_text fuelN a0 a1) (fun y4 => Option.bind (frame_Checksum fuelN y4) (fun y6 => some (IntKind.i64.wrap y6, 0)))))
set_option maxHeartbeats 2000000 in
theorem at_checkpoint_Digest {fuelN : Nat} {a0 : Program} {a1 : Config} {r : Int × Int} (hs : checkpoint_Digest fuelN a0 a1 = some r) : At Tryz.prog 22 [.agg (eA a0), .agg (eA a1)] (.tup [iV .i64 r.1, iV .i64 r.2]) := by
 refine at_bound (by kernel_rfl) fun hb => ?_
 have hb1 : LenOk (.sl a0.Vars.length (encL a0.Vars)) := lkc hb
 have hb2 : LenOk (.sl a0.Mutexes.length (encL a0.Mutexes)) := lkc hb
 have hb3 : LenOk (.sl a0.Conds.length (encL a0.Conds)) := lkc hb
 have hb4 : LenOk (.sl a0.Funcs.length (encL a0.Funcs)) := lkc hb
 have hb5 : LenOk (.sl a0.Threads.length (encL a0.Threads)) := lkc hb
 refine at_code mixed Tryz.func22 (by kernel_rfl) rfl (by kernel_rfl) rfl fun Q hQ => ?_
 rw [checkpoint_Digest] at hs
 refine goR f0 ?_
 revert hs; refine bK fun y1 hx2 hs => ?_
 refine cP f0 (at_checkpoint_standard hx2) ?_
 refine goR f0 ?_
 revert hs; refine cS f0 ?_ ?_ <;> intro h3 hs
 ·refine goR f0 ?_
  obtain rfl := sj hs
  exact hQ _ _ (rg f0 (Gh.refl _))
 ·refine goR f0 ?_
  revert hs; refine bK fun y4 hx5 hs => ?_
  refine cA f0 (at_checkpoint_text hx5) ?_
  refine goR f0 ?_
  revert hs; refine bK fun y6 hx7 hs => ?_
  refine cA f0 (at_frame_Checksum hx7) ?_
  refine goR f0 ?_
  obtain rfl := sj hs
  exact hQ _ _ (rg f0 (Gh.refl _))
end Go.Dc
end
section
set_option linter.all false
namespace Go.Dc
open Go Go.Hw Go.Proofs
set_option maxRecDepth 100000
def r08_CheckConfig (a0 : Config) : Option Int :=
 cond (andB (andB (!(eqI a0.Model 1)) (!(eqI a0.Model 2))) (!(eqI a0.Model 3))) (some 18) (cond (orB (ltI a0.Bound 1) (ltI 32 a0.Bound)) (some 2) (some 0))
set_option maxHeartbeats 2000000 in
theorem at_r08_CheckConfig {a0 : Config} {r : Int} (hs : r08_CheckConfig a0 = some r) : At Tryz.prog 78 [.agg (eA a0)] (iV .i64 r) := by
 refine at_bound (by kernel_rfl) fun hb => ?_
 refine at_code mixed Tryz.func78 (by kernel_rfl) rfl (by kernel_rfl) rfl fun Q hQ => ?_
 rw [r08_CheckConfig] at hs
 refine goG f0 f0 ?_
 revert hs; refine cS f0 ?_ ?_ <;> intro h1 hs
 ·refine goG f0 f0 ?_
  obtain rfl := sj hs
  exact hQ _ _ (rg f0 (Gh.refl _))
 ·refine goG f0 f0 ?_
  revert hs; refine cS f0 ?_ ?_ <;> intro h2 hs
  ·refine goG f0 f0 ?_
   obtain rfl := sj hs
   exact hQ _ _ (rg f0 (Gh.refl _))
  ·refine goG f0 f0 ?_
   obtain rfl := sj hs
   exact hQ _ _ (rg f0 (Gh.refl _))
end Go.Dc
end
section
set_option linter.all false
namespace Go.Dc
open Go Go.Hw Go.Proofs
set_option maxRecDepth 100000
def r49_standard (fuelN : Nat) (a0 : Program) (a1 : Config) : Option Int :=
 Option.bind (r08_Check fuelN a0) (fun y1 => cond (!(eqI y1.1 0)) (some y1.1) (Option.bind (r08_CheckConfig a1) (fun y4 => cond (!(eqI y4 0)) (some y4) (cond (eqI a1.Model 3) (some 18) (some 0)))))
set_option maxHeartbeats 2000000 in
theorem at_r49_standard {fuelN : Nat} {a0 : Program} {a1 : Config} {r : Int} (hs : r49_standard fuelN a0 a1 = some r) : At Tryz.prog 44 [.agg (eA a0), .agg (eA a1)] (iV .i64 r) := by
 refine at_bound (by kernel_rfl) fun hb => ?_
 have hb1 : LenOk (.sl a0.Vars.length (encL a0.Vars)) := lkc hb
 have hb2 : LenOk (.sl a0.Mutexes.length (encL a0.Mutexes)) := lkc hb
 have hb3 : LenOk (.sl a0.Conds.length (encL a0.Conds)) := lkc hb
 have hb4 : LenOk (.sl a0.Funcs.length (encL a0.Funcs)) := lkc hb
 have hb5 : LenOk (.sl a0.Threads.length (encL a0.Threads)) := lkc hb
 refine at_code mixed Tryz.func44 (by kernel_rfl) rfl (by kernel_rfl) rfl fun Q hQ => ?_
 rw [r49_standard] at hs
 refine goR f0 ?_
 revert hs; refine bK fun y1 hx2 hs => ?_
 refine cP f0 (at_r08_Check hx2) ?_
 refine goR f0 ?_
 revert hs; refine cS f0 ?_ ?_ <;> intro h3 hs
 ·refine goR f0 ?_
  obtain rfl := sj hs
  exact hQ _ _ (rg f0 (Gh.refl _))
 ·refine goR f0 ?_
  revert hs; refine bK fun y4 hx5 hs => ?_
  refine cP f0 (at_r08_CheckConfig hx5) ?_
  refine goR f0 ?_
  revert hs; refine cS f0 ?_ ?_ <;> intro h6 hs
  ·refine goR f0 ?_
   obtain rfl := sj hs
   exact hQ _ _ (rg f0 (Gh.refl _))
  ·refine goR f0 ?_
   revert hs; refine cS f0 ?_ ?_ <;> intro h7 hs
   ·refine goR f0 ?_
    obtain rfl := sj hs
    exact hQ _ _ (rg f0 (Gh.refl _))
   ·refine goR f0 ?_
    obtain rfl := sj hs
    exact hQ _ _ (rg f0 (Gh.refl _))
end Go.Dc
end
section
set_option linter.all false
namespace Go.Dc
open Go Go.Hw Go.Proofs
set_option maxRecDepth 100000
def r49_numbers_L1 (fuelN : Nat) : List Int -> (List UInt8) -> Nat -> Option (List UInt8)
 | [], l49, k50 => some (l49)
 | x69 :: q65, l49, k50 => Option.bind (r06_AppendInt fuelN l49 x69) (fun y72 => r49_numbers_L1 fuelN q65 y72 (k50 + 1))
def r49_numbers (fuelN : Nat) (a0 : List UInt8) (a1 : List Int) : Option (List UInt8) :=
 Option.bind (α := (List UInt8)) (Option.bind (r49_numbers_L1 fuelN a1 a0 0) (fun l58 => some (l58))) (fun l35 => some l35)
set_option maxHeartbeats 2000000 in
theorem at_r49_numbers {fuelN : Nat} {a0 : List UInt8} {a1 : List Int} {r : (List UInt8)} (hs : r49_numbers fuelN a0 a1 = some r) : At Tryz.prog 45 [.cell (sC a0), .cell (sC a1)] (.cell (sC r)) := by
 refine at_bound (by kernel_rfl) fun hb => ?_
 have hb1 : LenOk (.sl a0.length (encL a0)) := lkc hb
 have hb2 : LenOk (.sl a1.length (encL a1)) := lkc hb
 refine at_code mixed Tryz.func45 (by kernel_rfl) rfl (by kernel_rfl) rfl fun Q hQ => ?_
 rw [r49_numbers] at hs
 refine goR2 f0 ?_
 revert hs; refine bK fun o37 e36 hs => ?_
 refine awp_cutK (fun (v : (List UInt8)) (σ : St) => some (v) = some o37 /\ σ.env 0 = .cell (sC v) /\ 2 <= σ.gen) (by rfl) (fun Q hK38 hX39 => ?_) (fun l35 σ3 hp => ?_)
 ·refine goR f0 ?_
  revert e36; refine bK fun o60 e59 e36 => ?_
  refine awp_loopW (fun (v : (List Int) × (List UInt8) × Nat) (σ : St) => r49_numbers_L1 fuelN v.1 v.2.1 v.2.2 = some o60 /\ v.1 = a1.drop v.2.2 /\ σ.env 0 = .cell (sC v.2.1) /\ σ.env 1 = .cell (sC a1) /\ σ.env 5 = iV .i64 ((v.2.2 : Nat) : Int) /\ 2 <= σ.gen) (fun v => v.1.length) _ (Gh.refl _) (a1, a0, 0) ⟨e59, by simp, pv f0, pv f0, pv f0, pg⟩ fun v σ6 hp L61 hL62 => ?_
  obtain ⟨q64, l49, k50⟩ := v
  dsimp only at hp hL62
  obtain ⟨e59, hd63, h5_0, h5_1, h5_5, n5_g⟩ := hp
  rcases q64 with _ | ⟨x69, q65⟩
  ·have hlt66 := drop_end hd63
   rw [r49_numbers_L1] at e59; try dsimp only at e59
   have F1 := an h5_0 (an h5_1 h5_5)
   refine goR F1 ?_
   refine condK_f (by simp [ltI]; omega) ?_
   obtain rfl := sj e59
   try dsimp only at e36
   exact hK38 l49 _ _ (Gh.refl _) ⟨e36, pv F1, pg⟩
  ·obtain ⟨hx68, hlt66, hd70⟩ := drop_next hd63
   have ew67 := wrap_succ hlt66 (hb2).len
   rw [r49_numbers_L1] at e59; try dsimp only at e59
   have F2 := an h5_0 (an h5_1 (an h5_5 (an hlt66 ew67)))
   refine goR F2 ?_
   refine condK_t (by simp [ltI]; omega) ?_
   have f71 : partCV Tryz.prog 3 (encL a1) (k50) = some (iV .i64 x69) := partCV_enc1 hx68 (by simp)
   have F3 := an F2 f71
   refine goR F3 ?_
   revert e59; refine bK fun y72 hx73 e59 => ?_
   refine cA F3 (at_r06_AppendInt hx73) ?_
   refine goR F3 ?_
   exact hL62 (q65, y72, (k50 + 1)) _ _ (Gh.frz _ (.o (σ6.gen + 2) 5 0)) ⟨e59, hd70, pv F3, pv F3, pv F3, pg⟩ (by simp)
 ·obtain ⟨e36, h4_0, n4_g⟩ := hp
  obtain rfl := sj e36
  try dsimp only at hs
  refine goR h4_0 ?_
  obtain rfl := sj hs
  exact hQ _ _ (rg h4_0 (Gh.refl _))
end Go.Dc
end
section
set_option linter.all false
namespace Go.Dc
open Go Go.Hw Go.Proofs
set_option maxRecDepth 100000
def r49_names_L1 (fuelN : Nat) : List ByteArray -> (List UInt8) -> Nat -> Option (List UInt8)
 | [], l51, k52 => some (l51)
 | x71 :: q67, l51, k52 => Option.bind (r06_AppendString fuelN l51 x71) (fun y74 => r49_names_L1 fuelN q67 y74 (k52 + 1))
def r49_names (fuelN : Nat) (a0 : List UInt8) (a1 : List ByteArray) : Option (List UInt8) :=
 Option.bind (r06_AppendUint fuelN a0 ((a1.length : Nat) : Int)) (fun y1 => Option.bind (α := (List UInt8)) (Option.bind (r49_names_L1 fuelN a1 y1 0) (fun l60 => some (l60))) (fun l37 => some l37))
set_option maxHeartbeats 2000000 in
theorem at_r49_names {fuelN : Nat} {a0 : List UInt8} {a1 : List ByteArray} {r : (List UInt8)} (hs : r49_names fuelN a0 a1 = some r) : At Tryz.prog 47 [.cell (sC a0), .cell (sC a1)] (.cell (sC r)) := by
 refine at_bound (by kernel_rfl) fun hb => ?_
 have hb1 : LenOk (.sl a0.length (encL a0)) := lkc hb
 have hb2 : LenOk (.sl a1.length (encL a1)) := lkc hb
 refine at_code mixed Tryz.func47 (by kernel_rfl) rfl (by kernel_rfl) rfl fun Q hQ => ?_
 rw [r49_names] at hs
 refine goR f0 ?_
 revert hs; refine bK fun y1 hx2 hs => ?_
 refine cA f0 (at_r06_AppendUint hx2) ?_
 refine goR2 f0 ?_
 revert hs; refine bK fun o39 e38 hs => ?_
 refine awp_cutK (fun (v : (List UInt8)) (σ : St) => some (v) = some o39 /\ σ.env 0 = .cell (.sl (.l 2) 0 1 v.length) /\ σ.hp (.l 2) = some (.pure (encL v)) /\ 3 <= σ.gen) (by rfl) (fun Q hK40 hX41 => ?_) (fun l37 σ3 hp => ?_)
 ·refine goR f0 ?_
  revert e38; refine bK fun o62 e61 e38 => ?_
  refine awp_loopW (fun (v : (List ByteArray) × (List UInt8) × Nat) (σ : St) => r49_names_L1 fuelN v.1 v.2.1 v.2.2 = some o62 /\ v.1 = a1.drop v.2.2 /\ σ.env 0 = .cell (.sl (.l 6) 0 1 v.2.1.length) /\ σ.env 1 = .cell (sC a1) /\ σ.env 5 = iV .i64 ((v.2.2 : Nat) : Int) /\ σ.hp (.l 6) = some (.pure (encL v.2.1)) /\ 3 <= σ.gen) (fun v => v.1.length) _ (Gh.ren _ (.o 2 3 0) (.l 6) (by simp) rfl rfl) (a1, y1, 0) ⟨e61, by simp, pv f0, pv f0, pv f0, pv f0, pg⟩ fun v σ6 hp L63 hL64 => ?_
  obtain ⟨q66, l51, k52⟩ := v
  dsimp only at hp hL64
  obtain ⟨e61, hd65, h5_0, h5_1, h5_5, g5_0, n5_g⟩ := hp
  rcases q66 with _ | ⟨x71, q67⟩
  ·have hlt68 := drop_end hd65
   rw [r49_names_L1] at e61; try dsimp only at e61
   have F1 := an h5_0 (an h5_1 (an h5_5 g5_0))
   refine goR F1 ?_
   refine condK_f (by simp [ltI]; omega) ?_
   obtain rfl := sj e61
   try dsimp only at e38
   exact hK40 l51 _ _ (Gh.ren _ (.l 6) (.l 2) (by simp) rfl rfl) ⟨e38, pv F1, pv F1, pg⟩
  ·obtain ⟨hx70, hlt68, hd72⟩ := drop_next hd65
   have ew69 := wrap_succ hlt68 (hb2).len
   rw [r49_names_L1] at e61; try dsimp only at e61
   have F2 := an h5_0 (an h5_1 (an h5_5 (an g5_0 (an hlt68 ew69))))
   refine goR F2 ?_
   refine condK_t (by simp [ltI]; omega) ?_
   have f73 : partCV Tryz.prog 9 (encL a1) (k52) = some (sV x71) := partCV_enc1 hx70 (by simp)
   have F3 := an F2 f73
   refine goR F3 ?_
   revert e61; refine bK fun y74 hx75 e61 => ?_
   refine cA F3 (at_r06_AppendString hx75) ?_
   refine goR F3 ?_
   exact hL64 (q67, y74, (k52 + 1)) _ _ (Gh.ren _ (.o (σ6.gen + 2) 5 0) (.l 6) (by simp) rfl rfl) ⟨e61, hd72, pv F3, pv F3, pv F3, pv F3, pg⟩ (by simp)
 ·obtain ⟨e38, h4_0, g4_0, n4_g⟩ := hp
  obtain rfl := sj e38
  try dsimp only at hs
  have F4 := an h4_0 g4_0
  refine goR F4 ?_
  obtain rfl := sj hs
  exact hQ _ _ (rg F4 (Gh.frz _ (.l 2)))
end Go.Dc
end
section
set_option linter.all false
namespace Go.Dc
open Go Go.Hw Go.Proofs
set_option maxRecDepth 100000
def r49_Digest_L1 (fuelN : Nat) : List Var -> (List UInt8) -> Nat -> Option (List UInt8)
 | [], l70, k71 => some (l70)
 | x93 :: q89, l70, k71 => Option.bind (r06_AppendString fuelN l70 x93.Name) (fun y96 => Option.bind (r06_AppendInt fuelN y96 x93.Init) (fun y99 => r49_Digest_L1 fuelN q89 y99 (k71 + 1)))
def r49_Digest_L3 (fuelN : Nat) : List Inst -> (List UInt8) -> Nat -> Option (List UInt8)
 | [], l1145, k1146 => some (l1145)
 | x1167 :: q1163, l1145, k1146 => Option.bind (some ([x1167.Op, x1167.A, x1167.B, x1167.C, x1167.Obj, x1167.N, x1167.Fn, x1167.Order])) (fun l1170 => Option.bind (r49_numbers fuelN l1145 l1170) (fun y1172 => r49_Digest_L3 fuelN q1163 y1172 (k1146 + 1)))
def r49_Digest_L2 (fuelN : Nat) (a0 : Program) : Nat -> (List UInt8) -> Int -> Option (List UInt8)
 | 0, _, _ => none
 | q1046 + 1, l907, i908 => cond (ltI i908 ((a0.Funcs.length : Nat) : Int)) (Option.bind (α := (List UInt8)) (Option.bind (getI a0.Funcs i908) (fun x1115 => Option.bind (r06_AppendString fuelN l907 x1115.Name) (fun y1118 => Option.bind (r06_AppendUint fuelN y1118 ((x1115.Code.length : Nat) : Int)) (fun y1121 => Option.bind (r49_Digest_L3 fuelN x1115.Code y1121 0) (fun l1156 => some (l1156)))))) (fun l1110 => r49_Digest_L2 fuelN a0 q1046 l1110 (IntKind.i64.wrap (i908 + 1)))) (some (l907))
def r49_Digest_L4 (fuelN : Nat) : List Start -> (List UInt8) -> Nat -> Option (List UInt8)
 | [], l1306, k1307 => some (l1306)
 | x1337 :: q1333, l1306, k1307 => Option.bind (some ([x1337.Func, x1337.Arg])) (fun l1347 => Option.bind (r49_numbers fuelN l1306 l1347) (fun y1349 => r49_Digest_L4 fuelN q1333 y1349 (k1307 + 1)))
def r49_Digest (fuelN : Nat) (a0 : Program) (a1 : Config) : Option (Int × Int) :=
 Option.bind (r49_standard fuelN a0 a1) (fun y1 => cond (!(eqI y1 0)) (some (0, y1)) (Option.bind (some ([a1.Model, a1.Bound])) (fun l4 => Option.bind (r49_numbers fuelN [] l4) (fun y6 => Option.bind (r06_AppendUint fuelN y6 ((a0.Vars.length : Nat) : Int)) (fun y8 => Option.bind (α := (List UInt8)) (Option.bind (r49_Digest_L1 fuelN a0.Vars y8 0) (fun l82 => some (l82))) (fun l53 => Option.bind (r49_names fuelN l53 a0.Mutexes) (fun y101 => Option.bind (r49_names fuelN y101 a0.Conds) (fun y103 => Option.bind (r06_AppendUint fuelN y103 ((a0.Funcs.length : Nat) : Int)) (fun y105 => Option.bind (α := (List UInt8)) (Option.bind (r49_Digest_L2 fuelN a0 fuelN y105 0) (fun l1039 => some (l1039))) (fun l638 => Option.bind (r06_AppendUint fuelN l638 ((a0.Threads.length : Nat) : Int)) (fun y1174 => Option.bind (α := (List UInt8)) (Option.bind (r49_Digest_L4 fuelN a0.Threads y1174 0) (fun l1326 => some (l1326))) (fun l1261 => Option.bind (r06_Checksum fuelN l1261) (fun y1351 => some (IntKind.i64.wrap y1351, 0))))))))))))))
set_option maxHeartbeats 2000000 in
theorem at_r49_Digest {fuelN : Nat} {a0 : Program} {a1 : Config} {r : Int × Int} (hs : r49_Digest fuelN a0 a1 = some r) : At Tryz.prog 17 [.agg (eA a0), .agg (eA a1)] (.tup [iV .i64 r.1, iV .i64 r.2]) := by
 refine at_bound (by kernel_rfl) fun hb => ?_
 have hb1 : LenOk (.sl a0.Vars.length (encL a0.Vars)) := lkc hb
 have hb2 : LenOk (.sl a0.Mutexes.length (encL a0.Mutexes)) := lkc hb
 have hb3 : LenOk (.sl a0.Conds.length (encL a0.Conds)) := lkc hb
 have hb4 : LenOk (.sl a0.Funcs.length (encL a0.Funcs)) := lkc hb
 have hb5 : LenOk (.sl a0.Threads.length (encL a0.Threads)) := lkc hb
 refine at_code mixed Tryz.func17 (by kernel_rfl) rfl (by kernel_rfl) rfl fun Q hQ => ?_
 rw [r49_Digest] at hs
 refine goR f0 ?_
 revert hs; refine bK fun y1 hx2 hs => ?_
 refine cP f0 (at_r49_standard hx2) ?_
 refine goR f0 ?_
 revert hs; refine cS f0 ?_ ?_ <;> intro h3 hs
 ·refine goR f0 ?_
  obtain rfl := sj hs
  exact hQ _ _ (rg f0 (Gh.refl _))
 ·revert hs; refine lK fun l4 hx5 hs => ?_
  have hx5n : l4.length = 2 := by rw [hx5]; rfl
  refine goR hx5 ?_
  revert hs; refine bK fun y6 hx7 hs => ?_
  refine cA hx5 (at_unz (args := [.cell (.z), .cell (sC l4)]) (by simp) (at_r49_numbers hx7)) ?_
  refine goR hx5 ?_
  revert hs; refine bK fun y8 hx9 hs => ?_
  refine cA hx5 (at_r06_AppendUint hx9) ?_
  refine goR2 hx5 ?_
  revert hs; refine bK fun o55 e54 hs => ?_
  refine awp_cutK (fun (v : (List UInt8)) (σ : St) => some (v) = some o55 /\ σ.env 2 = .cell (.ref (.o 1 0 0) 0) /\ σ.env 7 = .cell (.sl (.l 2) 0 1 v.length) /\ σ.hp (.l 2) = some (.pure (encL v)) /\ σ.hp (.o 1 0 0) = some (.cells (eA a0)) /\ 6 <= σ.gen) (by rfl) (fun Q hK56 hX57 => ?_) (fun l53 σ3 hp => ?_)
  ·refine goR hx5 ?_
   revert e54; refine bK fun o84 e83 e54 => ?_
   refine awp_loopW (fun (v : (List Var) × (List UInt8) × Nat) (σ : St) => r49_Digest_L1 fuelN v.1 v.2.1 v.2.2 = some o84 /\ v.1 = a0.Vars.drop v.2.2 /\ σ.env 2 = .cell (.ref (.o 1 0 0) 0) /\ σ.env 7 = .cell (.sl (.l 6) 0 1 v.2.1.length) /\ σ.env 8 = iV .i64 ((v.2.2 : Nat) : Int) /\ σ.hp (.l 6) = some (.pure (encL v.2.1)) /\ σ.hp (.o 1 0 0) = some (.cells (eA a0)) /\ 6 <= σ.gen) (fun v => v.1.length) _ (Gh.ren _ (.o 5 4 0) (.l 6) (by simp) rfl rfl) (a0.Vars, y8, 0) ⟨e83, by simp, pv hx5, pv hx5, pv hx5, pv hx5, pv hx5, pg⟩ fun v σ6 hp L85 hL86 => ?_
   obtain ⟨q88, l70, k71⟩ := v
   dsimp only at hp hL86
   obtain ⟨e83, hd87, h5_2, h5_7, h5_8, g5_0, g5_1, n5_g⟩ := hp
   have n5_0 : ¬ (σ6.gen = 0) := by omega
   rcases q88 with _ | ⟨x93, q89⟩
   ·have hlt90 := drop_end hd87
    rw [r49_Digest_L1] at e83; try dsimp only at e83
    have F1 := an h5_2 (an h5_7 (an h5_8 (an g5_0 (an g5_1 n5_0))))
    refine goR F1 ?_
    refine condK_f (by simp [ltI]; omega) ?_
    obtain rfl := sj e83
    try dsimp only at e54
    exact hK56 l70 _ _ (Gh.ren _ (.l 6) (.l 2) (by simp) rfl rfl) ⟨e54, pv F1, pv F1, pv F1, pv F1, pg⟩
   ·obtain ⟨hx92, hlt90, hd94⟩ := drop_next hd87
    have ew91 := wrap_succ hlt90 (hb1).len
    rw [r49_Digest_L1] at e83; try dsimp only at e83
    have F2 := an h5_2 (an h5_7 (an h5_8 (an g5_0 (an g5_1 (an n5_0 (an hlt90 ew91))))))
    refine goR F2 ?_
    refine condK_t (by simp [ltI]; omega) ?_
    have f95 : partCV Tryz.prog 9 (encL a0.Vars) (k71 * 2) = some (sV x93.Name) := partCV_enc hx92 (f := 0) (by simp)
    have F3 := an F2 f95
    refine goR F3 ?_
    revert e83; refine bK fun y96 hx97 e83 => ?_
    refine cA F3 (at_r06_AppendString hx97) ?_
    have f98 : partCV Tryz.prog 3 (encL a0.Vars) (k71 * 2 + 1) = some (iV .i64 x93.Init) := partCV_enc hx92 (f := 1) (by simp)
    have F4 := an F3 f98
    refine goR F4 ?_
    revert e83; refine bK fun y99 hx100 e83 => ?_
    refine cA F4 (at_r06_AppendInt hx100) ?_
    refine goR F4 ?_
    exact hL86 (q89, y99, (k71 + 1)) _ _ (Gh.ren _ (.o (σ6.gen + 3) 7 0) (.l 6) (by simp) rfl rfl) ⟨e83, hd94, pv F4, pv F4, pv F4, pv F4, pv F4, pg⟩ (by simp)
  ·obtain ⟨e54, h4_2, h4_7, g4_0, g4_1, n4_g⟩ := hp
   obtain rfl := sj e54
   try dsimp only at hs
   have n4_0 : ¬ (σ3.gen = 0) := by omega
   have F5 := an h4_2 (an h4_7 (an g4_0 (an g4_1 n4_0)))
   refine goR F5 ?_
   revert hs; refine bK fun y101 hx102 hs => ?_
   refine cA F5 (at_r49_names hx102) ?_
   refine goR F5 ?_
   revert hs; refine bK fun y103 hx104 hs => ?_
   refine cP F5 (at_r49_names hx104) ?_
   refine goR F5 ?_
   revert hs; refine bK fun y105 hx106 hs => ?_
   refine cA F5 (at_r06_AppendUint hx106) ?_
   refine goR2 F5 ?_
   revert hs; refine bK fun o640 e639 hs => ?_
   refine awp_cutK (fun (v : (List UInt8)) (σ : St) => some (v) = some o640 /\ σ.env 2 = .cell (.ref (.o 1 0 0) 0) /\ σ.env 7 = .cell (sC v) /\ σ.hp (.o 1 0 0) = some (.cells (eA a0)) /\ (σ3.gen + 4) <= σ.gen) (by rfl) (fun Q hK641 hX642 => ?_) (fun l638 σ33 hp => ?_)
   ·refine goR F5 ?_
    revert e639; refine bK fun o1041 e1040 e639 => ?_
    refine awp_loopW (fun (v : Nat × (List UInt8) × Int) (σ : St) => r49_Digest_L2 fuelN a0 v.1 v.2.1 v.2.2 = some o1041 /\ σ.env 2 = .cell (.ref (.o 1 0 0) 0) /\ σ.env 7 = .cell (sC v.2.1) /\ σ.env 9 = iV .i64 v.2.2 /\ σ.hp (.o 1 0 0) = some (.cells (eA a0)) /\ (σ3.gen + 4) <= σ.gen) (fun v => v.1) _ (Gh.frz _ (.o (σ3.gen + 3) 4 0)) (fuelN, y105, 0) ⟨e1040, pv F5, pv F5, pv F5, pv F5, pg⟩ fun v σ54 hp L1042 hL1043 => ?_
    obtain ⟨q1045, l907, i908⟩ := v
    dsimp only at hp hL1043
    obtain ⟨e1040, h53_2, h53_7, h53_9, g53_0, n53_g⟩ := hp
    have n53_0 : ¬ (σ54.gen = 0) := by omega
    rcases q1045 with _ | q1046
    ·rw [r49_Digest_L2] at e1040; cases e1040
    ·rw [r49_Digest_L2] at e1040; try dsimp only at e1040
     have F6 := an h53_2 (an h53_7 (an h53_9 (an g53_0 n53_0)))
     refine goR F6 ?_
     revert e1040; refine cS F6 ?_ ?_ <;> intro h1050 e1040
     ·refine goR2 F6 ?_
      revert e1040; refine bK fun o1112 e1111 e1040 => ?_
      refine awp_cutK (fun (v : (List UInt8)) (σ : St) => some (v) = some o1112 /\ σ.env 2 = .cell (.ref (.o 1 0 0) 0) /\ σ.env 7 = .cell (sC v) /\ σ.env 9 = iV .i64 i908 /\ σ.hp (.o 1 0 0) = some (.cells (eA a0)) /\ (σ54.gen + 1) <= σ.gen) (by rfl) (fun Q hK1113 hX1114 => ?_) (fun l1110 σ57 hp => ?_)
      ·revert e1111; refine bK fun x1115 hx1116 e1111 => ?_
       obtain ⟨hx1116a, hx1116b, hx1116c, hx1116d⟩ := getI_some hx1116
       have f1117 : partCV Tryz.prog 9 (encL a0.Funcs) (((i908).toNat) * 2) = some (sV x1115.Name) := partCV_enc hx1116d (f := 0) (by simp)
       have F7 := an F6 f1117
       refine goR F7 ?_
       revert e1111; refine bK fun y1118 hx1119 e1111 => ?_
       refine cA F7 (at_r06_AppendString hx1119) ?_
       have f1120 : partCV Tryz.prog 51 (encL a0.Funcs) (((i908).toNat) * 2 + 1) = some (.cell (sC x1115.Code)) := partCV_enc hx1116d (f := 1) (by simp)
       have F8 := an F7 f1120
       refine goR F8 ?_
       revert e1111; refine bK fun y1121 hx1122 e1111 => ?_
       refine cA F8 (at_r06_AppendUint hx1122) ?_
       refine goR F8 ?_
       revert e1111; refine bK fun o1158 e1157 e1111 => ?_
       refine awp_loopW (fun (v : (List Inst) × (List UInt8) × Nat) (σ : St) => r49_Digest_L3 fuelN v.1 v.2.1 v.2.2 = some o1158 /\ v.1 = x1115.Code.drop v.2.2 /\ σ.env 2 = .cell (.ref (.o 1 0 0) 0) /\ σ.env 7 = .cell (sC v.2.1) /\ σ.env 9 = iV .i64 i908 /\ σ.env 10 = iV .i64 ((v.2.2 : Nat) : Int) /\ σ.hp (.o 1 0 0) = some (.cells (eA a0)) /\ (σ54.gen + 4) <= σ.gen) (fun v => v.1.length) _ (Gh.frz _ (.o (σ54.gen + 3) 8 0)) (x1115.Code, y1121, 0) ⟨e1157, by simp, pv F8, pv F8, pv F8, pv F8, pv F8, pg⟩ fun v σ60 hp L1159 hL1160 => ?_
       obtain ⟨q1162, l1145, k1146⟩ := v
       dsimp only at hp hL1160
       obtain ⟨e1157, hd1161, h59_2, h59_7, h59_9, h59_10, g59_0, n59_g⟩ := hp
       have n59_0 : ¬ (σ60.gen = 0) := by omega
       rcases q1162 with _ | ⟨x1167, q1163⟩
       ·have hlt1164 := drop_end hd1161
        rw [r49_Digest_L3] at e1157; try dsimp only at e1157
        have F9 := an h59_2 (an h59_7 (an h59_9 (an h59_10 (an g59_0 (an n59_0 (an f1117 f1120))))))
        refine goR F9 ?_
        refine condK_f (by simp [ltI]; omega) ?_
        obtain rfl := sj e1157
        try dsimp only at e1111
        exact hK1113 l1145 _ _ (Gh.refl _) ⟨e1111, pv F9, pv F9, pv F9, pv F9, pg⟩
       ·obtain ⟨hx1166, hlt1164, hd1168⟩ := drop_next hd1161
        have ew1165 := wrap_succ hlt1164 ((LenOk.elem hb4 hx1116d (c := .sl x1115.Code.length (encL x1115.Code)) (by simp))).len
        rw [r49_Digest_L3] at e1157; try dsimp only at e1157
        have F10 := an h59_2 (an h59_7 (an h59_9 (an h59_10 (an g59_0 (an n59_0 (an f1117 (an f1120 (an hlt1164 ew1165))))))))
        refine goR F10 ?_
        refine condK_t (by simp [ltI]; omega) ?_
        have f1169 : partCV Tryz.prog 89 (encL x1115.Code) (k1146 * 8) = some (.agg (eA x1167)) := partCV_enc hx1166 (f := 0) (by simp)
        revert e1157; refine lK fun l1170 hx1171 e1157 => ?_
        have hx1171n : l1170.length = 8 := by rw [hx1171]; rfl
        have F11 := an F10 (an f1169 hx1171)
        refine goR F11 ?_
        revert e1157; refine bK fun y1172 hx1173 e1157 => ?_
        refine cA F11 (at_r49_numbers hx1173) ?_
        refine goR F11 ?_
        exact hL1160 (q1163, y1172, (k1146 + 1)) _ _ (Gh.refl _) ⟨e1157, hd1168, pv F11, pv F11, pv F11, pv F11, pv F11, pg⟩ (by simp)
      ·obtain ⟨e1111, h58_2, h58_7, h58_9, g58_0, n58_g⟩ := hp
       obtain rfl := sj e1111
       try dsimp only at e1040
       have n58_0 : ¬ (σ57.gen = 0) := by omega
       have F12 := an h58_2 (an h58_7 (an h58_9 (an g58_0 n58_0)))
       refine goR F12 ?_
       exact hL1043 (q1046, l1110, IntKind.i64.wrap (i908 + 1)) _ _ (Gh.refl _) ⟨e1040, pv F12, pv F12, pv F12, pv F12, pg⟩ (by omega)
     ·refine goR F6 ?_
      obtain rfl := sj e1040
      try dsimp only at e639
      exact hK641 l907 _ _ (Gh.refl _) ⟨e639, pv F6, pv F6, pv F6, pg⟩
   ·obtain ⟨e639, h34_2, h34_7, g34_0, n34_g⟩ := hp
    obtain rfl := sj e639
    try dsimp only at hs
    have n34_0 : ¬ (σ33.gen = 0) := by omega
    have F13 := an h34_2 (an h34_7 (an g34_0 n34_0))
    refine goR F13 ?_
    revert hs; refine bK fun y1174 hx1175 hs => ?_
    refine cA F13 (at_r06_AppendUint hx1175) ?_
    refine goR2 F13 ?_
    revert hs; refine bK fun o1263 e1262 hs => ?_
    refine awp_cutK (fun (v : (List UInt8)) (σ : St) => some (v) = some o1263 /\ σ.env 7 = .cell (sC v) /\ (σ33.gen + 2) <= σ.gen) (by rfl) (fun Q hK1264 hX1265 => ?_) (fun l1261 σ63 hp => ?_)
    ·refine goR F13 ?_
     revert e1262; refine bK fun o1328 e1327 e1262 => ?_
     refine awp_loopW (fun (v : (List Start) × (List UInt8) × Nat) (σ : St) => r49_Digest_L4 fuelN v.1 v.2.1 v.2.2 = some o1328 /\ v.1 = a0.Threads.drop v.2.2 /\ σ.env 2 = .cell (.ref (.o 1 0 0) 0) /\ σ.env 7 = .cell (sC v.2.1) /\ σ.env 12 = iV .i64 ((v.2.2 : Nat) : Int) /\ σ.hp (.o 1 0 0) = some (.cells (eA a0)) /\ (σ33.gen + 2) <= σ.gen) (fun v => v.1.length) _ (Gh.frz _ (.o (σ33.gen + 1) 4 0)) (a0.Threads, y1174, 0) ⟨e1327, by simp, pv F13, pv F13, pv F13, pv F13, pg⟩ fun v σ66 hp L1329 hL1330 => ?_
     obtain ⟨q1332, l1306, k1307⟩ := v
     dsimp only at hp hL1330
     obtain ⟨e1327, hd1331, h65_2, h65_7, h65_12, g65_0, n65_g⟩ := hp
     have n65_0 : ¬ (σ66.gen = 0) := by omega
     rcases q1332 with _ | ⟨x1337, q1333⟩
     ·have hlt1334 := drop_end hd1331
      rw [r49_Digest_L4] at e1327; try dsimp only at e1327
      have F14 := an h65_2 (an h65_7 (an h65_12 (an g65_0 n65_0)))
      refine goR F14 ?_
      refine condK_f (by simp [ltI]; omega) ?_
      obtain rfl := sj e1327
      try dsimp only at e1262
      exact hK1264 l1306 _ _ (Gh.refl _) ⟨e1262, pv F14, pg⟩
     ·obtain ⟨hx1336, hlt1334, hd1338⟩ := drop_next hd1331
      have ew1335 := wrap_succ hlt1334 (hb5).len
      rw [r49_Digest_L4] at e1327; try dsimp only at e1327
      have F15 := an h65_2 (an h65_7 (an h65_12 (an g65_0 (an n65_0 (an hlt1334 ew1335)))))
      refine goR F15 ?_
      refine condK_t (by simp [ltI]; omega) ?_
      have f1345 : partCV Tryz.prog 3 (encL a0.Threads) (k1307 * 2) = some (iV .i64 x1337.Func) := partCV_enc hx1336 (f := 0) (by simp)
      have f1346 : partCV Tryz.prog 3 (encL a0.Threads) (k1307 * 2 + 1) = some (iV .i64 x1337.Arg) := partCV_enc hx1336 (f := 1) (by simp)
      revert e1327; refine lK fun l1347 hx1348 e1327 => ?_
      have hx1348n : l1347.length = 2 := by rw [hx1348]; rfl
      have F16 := an F15 (an f1345 (an f1346 hx1348))
      refine goD F16 ?_
      revert e1327; refine bK fun y1349 hx1350 e1327 => ?_
      refine cA F16 (at_r49_numbers hx1350) ?_
      refine goD F16 ?_
      exact hL1330 (q1333, y1349, (k1307 + 1)) _ _ (Gh.refl _) ⟨e1327, hd1338, pv F16, pv F16, pv F16, pv F16, pg⟩ (by simp)
    ·obtain ⟨e1262, h64_7, n64_g⟩ := hp
     obtain rfl := sj e1262
     try dsimp only at hs
     refine goR h64_7 ?_
     revert hs; refine bK fun y1351 hx1352 hs => ?_
     refine cP h64_7 (at_r06_Checksum hx1352) ?_
     refine goR h64_7 ?_
     obtain rfl := sj hs
     exact hQ _ _ (rg h64_7 (Gh.refl _))
end Go.Dc
end
section
set_option linter.all false
namespace Go.Dc
open Go Go.Hw Go.Proofs
set_option maxRecDepth 100000
def r26_back_L1 : List Inst -> Nat -> Option (Unit ⊕ Bool)
 | [], k45 => some (.inl ())
 | x63 :: q59, k45 => cond (andB (orB (eqI x63.Op 4) (eqI x63.Op 5)) (!(ltI ((k45 : Nat) : Int) x63.N))) (some (.inr true)) (r26_back_L1 q59 (k45 + 1))
def r26_back (a0 : Func) : Option Bool :=
 Option.bind (α := Unit ⊕ Bool) (Option.bind (r26_back_L1 a0.Code 0) (fun o => match o with | .inl _ => some (.inl ()) | .inr r68 => some (.inr r68))) (fun o => match o with | .inl _ => some false | .inr r69 => some r69)
set_option maxHeartbeats 2000000 in
theorem at_r26_back {a0 : Func} {r : Bool} (hs : r26_back a0 = some r) : At Tryz.prog 79 [.agg (eA a0)] (bV r) := by
 refine at_bound (by kernel_rfl) fun hb => ?_
 have hb1 : LenOk (.sl a0.Code.length (encL a0.Code)) := lkc hb
 refine at_code mixed Tryz.func79 (by kernel_rfl) rfl (by kernel_rfl) rfl fun Q hQ => ?_
 rw [r26_back] at hs
 refine goR2 f0 ?_
 revert hs; refine bK fun o34 e33 hs => ?_
 refine awp_cutK (fun (v : Unit) (σ : St) => some (.inl v) = some o34 /\ 2 <= σ.gen) (by rfl) (fun Q hK35 hX36 => ?_) (fun v σ3 hp => ?_)
 ·refine goR f0 ?_
  revert e33; refine bK fun o54 e53 e33 => ?_
  refine awp_loopW (fun (v : (List Inst) × Nat) (σ : St) => r26_back_L1 v.1 v.2 = some o54 /\ v.1 = a0.Code.drop v.2 /\ σ.env 1 = .cell (.ref (.o 1 0 0) 0) /\ σ.env 3 = iV .i64 ((v.2 : Nat) : Int) /\ σ.hp (.o 1 0 0) = some (.cells (eA a0)) /\ 2 <= σ.gen) (fun v => v.1.length) _ (Gh.refl _) (a0.Code, 0) ⟨e53, by simp, pv f0, pv f0, pv f0, pg⟩ fun v σ6 hp L55 hL56 => ?_
  obtain ⟨q58, k45⟩ := v
  dsimp only at hp hL56
  obtain ⟨e53, hd57, h5_1, h5_3, g5_0, n5_g⟩ := hp
  have n5_0 : ¬ (σ6.gen = 0) := by omega
  rcases q58 with _ | ⟨x63, q59⟩
  ·have hlt60 := drop_end hd57
   rw [r26_back_L1] at e53; try dsimp only at e53
   have F1 := an h5_1 (an h5_3 (an g5_0 n5_0))
   refine goR F1 ?_
   refine condK_f (by simp [ltI]; omega) ?_
   obtain rfl := sj e53
   try dsimp only at e33
   exact hK35 () _ _ (Gh.refl _) ⟨e33, pg⟩
  ·obtain ⟨hx62, hlt60, hd64⟩ := drop_next hd57
   have ew61 := wrap_succ hlt60 (hb1).len
   rw [r26_back_L1] at e53; try dsimp only at e53
   have F2 := an h5_1 (an h5_3 (an g5_0 (an n5_0 (an hlt60 ew61))))
   refine goR F2 ?_
   refine condK_t (by simp [ltI]; omega) ?_
   have f65 : partCV Tryz.prog 85 (encL a0.Code) (k45 * 8) = some (iV .i64 x63.Op) := partCV_enc hx62 (f := 0) (by simp)
   have f66 : partCV Tryz.prog 3 (encL a0.Code) (k45 * 8 + 5) = some (iV .i64 x63.N) := partCV_enc hx62 (f := 5) (by simp)
   have F3 := an F2 (an f65 f66)
   refine goG F3 F3 ?_
   revert e53; refine cS F3 ?_ ?_ <;> intro h67 e53
   ·refine goG F3 F3 ?_
    obtain rfl := sj e53
    try dsimp only at e33
    obtain rfl := sj e33
    try dsimp only at hs
    refine hX36 _ _ (by simp) ?_
    refine goG F3 F3 ?_
    obtain rfl := sj hs
    exact hQ _ _ (rg F3 (Gh.refl _))
   ·refine goG F3 F3 ?_
    exact hL56 (q59, (k45 + 1)) _ _ (Gh.refl _) ⟨e53, hd64, pv F3, pv F3, pv F3, pg⟩ (by simp)
 ·obtain ⟨e33, n4_g⟩ := hp
  obtain rfl := sj e33
  try dsimp only at hs
  refine goR f0 ?_
  obtain rfl := sj hs
  exact hQ _ _ (rg f0 (Gh.refl _))
end Go.Dc
end
section
set_option linter.all false
namespace Go.Dc
open Go Go.Hw Go.Proofs
set_option maxRecDepth 100000
def r26_spawned_L1 : List Inst -> Int -> Nat -> Option Int
 | [], i61, k62 => some (i61)
 | x80 :: q76, i61, k62 => cond (eqI x80.Op 21) (r26_spawned_L1 q76 (IntKind.i64.wrap (i61 + 1)) (k62 + 1)) (r26_spawned_L1 q76 i61 (k62 + 1))
def r26_spawned (a0 : Func) (a1 : Int) : Option Int :=
 Option.bind (α := Int) (Option.bind (r26_spawned_L1 a0.Code 0 0) (fun i69 => some (i69))) (fun i40 => guardO (orB (!(ltI 0 i40)) ((r26_back a0).isSome)) (cond (andB (ltI 0 i40) ((r26_back a0).getD default)) (some (if a1 > i40 then a1 else i40)) (some i40)))
set_option maxHeartbeats 2000000 in
theorem at_r26_spawned {a0 : Func} {a1 : Int} {r : Int} (hs : r26_spawned a0 a1 = some r) : At Tryz.prog 53 [.agg (eA a0), iV .i64 a1] (iV .i64 r) := by
 refine at_bound (by kernel_rfl) fun hb => ?_
 have hb1 : LenOk (.sl a0.Code.length (encL a0.Code)) := lkc hb
 refine at_code mixed Tryz.func53 (by kernel_rfl) rfl (by kernel_rfl) rfl fun Q hQ => ?_
 rw [r26_spawned] at hs
 refine goR2 f0 ?_
 revert hs; refine bK fun o42 e41 hs => ?_
 refine awp_cutK (fun (v : Int) (σ : St) => some (v) = some o42 /\ σ.env 1 = iV .i64 a1 /\ σ.env 2 = .cell (.ref (.o 1 0 0) 0) /\ σ.env 5 = iV .i64 v /\ σ.hp (.o 1 0 0) = some (.cells (eA a0)) /\ 3 <= σ.gen) (by rfl) (fun Q hK43 hX44 => ?_) (fun i40 σ3 hp => ?_)
 ·refine goR f0 ?_
  revert e41; refine bK fun o71 e70 e41 => ?_
  refine awp_loopW (fun (v : (List Inst) × Int × Nat) (σ : St) => r26_spawned_L1 v.1 v.2.1 v.2.2 = some o71 /\ v.1 = a0.Code.drop v.2.2 /\ σ.env 1 = iV .i64 a1 /\ σ.env 2 = .cell (.ref (.o 1 0 0) 0) /\ σ.env 5 = iV .i64 v.2.1 /\ σ.env 6 = iV .i64 ((v.2.2 : Nat) : Int) /\ σ.hp (.o 1 0 0) = some (.cells (eA a0)) /\ 3 <= σ.gen) (fun v => v.1.length) _ (Gh.refl _) (a0.Code, 0, 0) ⟨e70, by simp, pv f0, pv f0, pv f0, pv f0, pv f0, pg⟩ fun v σ6 hp L72 hL73 => ?_
  obtain ⟨q75, i61, k62⟩ := v
  dsimp only at hp hL73
  obtain ⟨e70, hd74, h5_1, h5_2, h5_5, h5_6, g5_0, n5_g⟩ := hp
  have n5_0 : ¬ (σ6.gen = 0) := by omega
  rcases q75 with _ | ⟨x80, q76⟩
  ·have hlt77 := drop_end hd74
   rw [r26_spawned_L1] at e70; try dsimp only at e70
   have F1 := an h5_1 (an h5_2 (an h5_5 (an h5_6 (an g5_0 n5_0))))
   refine goR F1 ?_
   refine condK_f (by simp [ltI]; omega) ?_
   obtain rfl := sj e70
   try dsimp only at e41
   exact hK43 i61 _ _ (Gh.refl _) ⟨e41, pv F1, pv F1, pv F1, pv F1, pg⟩
  ·obtain ⟨hx79, hlt77, hd81⟩ := drop_next hd74
   have ew78 := wrap_succ hlt77 (hb1).len
   rw [r26_spawned_L1] at e70; try dsimp only at e70
   have F2 := an h5_1 (an h5_2 (an h5_5 (an h5_6 (an g5_0 (an n5_0 (an hlt77 ew78))))))
   refine goR F2 ?_
   refine condK_t (by simp [ltI]; omega) ?_
   have f82 : partCV Tryz.prog 85 (encL a0.Code) (k62 * 8) = some (iV .i64 x80.Op) := partCV_enc hx79 (f := 0) (by simp)
   have F3 := an F2 f82
   refine goR F3 ?_
   revert e70; refine cS F3 ?_ ?_ <;> intro h83 e70
   ·refine goR F3 ?_
    exact hL73 (q76, IntKind.i64.wrap (i61 + 1), (k62 + 1)) _ _ (Gh.refl _) ⟨e70, hd81, pv F3, pv F3, pv F3, pv F3, pv F3, pg⟩ (by simp)
   ·refine goR F3 ?_
    exact hL73 (q76, i61, (k62 + 1)) _ _ (Gh.refl _) ⟨e70, hd81, pv F3, pv F3, pv F3, pv F3, pv F3, pg⟩ (by simp)
 ·obtain ⟨e41, h4_1, h4_2, h4_5, g4_0, n4_g⟩ := hp
  obtain rfl := sj e41
  try dsimp only at hs
  have n4_0 : ¬ (σ3.gen = 0) := by omega
  have F4 := an h4_1 (an h4_2 (an h4_5 (an g4_0 n4_0)))
  refine goG F4 F4 ?_
  obtain ⟨g84, hs⟩ := guardO_some hs
  refine gsel_call (fun hg => at_r26_back (under_call g84 hg)) (fun hg => by (try simp at hg); (first | simp [hg, F4]); try rfl) (fun hg => by (try simp at hg); simp [hg, F4]) (by simp) ?_
  refine goG F4 F4 ?_
  revert hs; refine cS F4 ?_ ?_ <;> intro h85 hs
  ·refine goG F4 F4 ?_
   obtain rfl := sj hs
   exact hQ _ _ (rg F4 (Gh.refl _))
  ·refine goG F4 F4 ?_
   obtain rfl := sj hs
   exact hQ _ _ (rg F4 (Gh.refl _))
end Go.Dc
end
section
set_option linter.all false
namespace Go.Dc
open Go Go.Hw Go.Proofs
set_option maxRecDepth 100000
def r26_lone_L1 (a0 : Program) (a1 : Int) : List Start -> Int -> Nat -> Option Int
 | [], i91, k92 => some (i91)
 | x115 :: q111, i91, k92 => cond (andB (!(ltI x115.Func 0)) (ltI x115.Func ((a0.Funcs.length : Nat) : Int))) (Option.bind (getI a0.Funcs x115.Func) (fun x119 => Option.bind (r26_spawned x119 a1) (fun y122 => r26_lone_L1 a0 a1 q111 (IntKind.i64.wrap (i91 + y122)) (k92 + 1)))) (r26_lone_L1 a0 a1 q111 i91 (k92 + 1))
def r26_lone_L3 (a0 : Program) (a1 : Int) (i796 : Int) : Nat -> Int -> Option (Unit ⊕ Bool)
 | 0, _ => none
 | q1002 + 1, i983 => Option.bind (getI a0.Funcs i796) (fun x1006 => cond (ltI i983 ((x1006.Code.length : Nat) : Int)) (Option.bind (getI x1006.Code i983) (fun x1010 => guardO (orB (!(andB (andB (eqI x1010.Op 21) (!(ltI x1010.Obj 0))) (ltI x1010.Obj ((a0.Funcs.length : Nat) : Int)))) (inB x1010.Obj a0.Funcs.length)) (guardO (orB (!(andB (andB (eqI x1010.Op 21) (!(ltI x1010.Obj 0))) (ltI x1010.Obj ((a0.Funcs.length : Nat) : Int)))) ((r26_spawned (gd a0.Funcs ((x1010.Obj).toNat)) a1).isSome)) (cond (andB (andB (andB (eqI x1010.Op 21) (!(ltI x1010.Obj 0))) (ltI x1010.Obj ((a0.Funcs.length : Nat) : Int))) (ltI 0 ((r26_spawned (gd a0.Funcs ((x1010.Obj).toNat)) a1).getD default))) (some (.inr false)) (r26_lone_L3 a0 a1 i796 q1002 (IntKind.i64.wrap (i983 + 1))))))) (some (.inl ())))
def r26_lone_L2 (fuelN : Nat) (a0 : Program) (a1 : Int) : Nat -> Int -> Option (Unit ⊕ Bool)
 | 0, _ => none
 | q913 + 1, i796 => cond (ltI i796 ((a0.Funcs.length : Nat) : Int)) (Option.bind (α := Unit ⊕ Bool) (Option.bind (r26_lone_L3 a0 a1 i796 fuelN 0) (fun o => match o with | .inl _ => some (.inl ()) | .inr r1017 => some (.inr r1017))) (fun o => match o with | .inl _ => r26_lone_L2 fuelN a0 a1 q913 (IntKind.i64.wrap (i796 + 1)) | .inr r1018 => some (.inr r1018))) (some (.inl ()))
def r26_lone (fuelN : Nat) (a0 : Program) (a1 : Int) : Option Bool :=
 Option.bind (α := Int) (Option.bind (r26_lone_L1 a0 a1 a0.Threads ((a0.Threads.length : Nat) : Int) 0) (fun i104 => some (i104))) (fun i60 => Option.bind (α := Unit ⊕ Bool) (Option.bind (r26_lone_L2 fuelN a0 a1 fuelN 0) (fun o => match o with | .inl _ => some (.inl ()) | .inr r1019 => some (.inr r1019))) (fun o => match o with | .inl _ => some (!(ltI 5 i60)) | .inr r1020 => some r1020))
set_option maxHeartbeats 2000000 in
theorem at_r26_lone {fuelN : Nat} {a0 : Program} {a1 : Int} {r : Bool} (hs : r26_lone fuelN a0 a1 = some r) : At Tryz.prog 20 [.agg (eA a0), iV .i64 a1] (bV r) := by
 refine at_bound (by kernel_rfl) fun hb => ?_
 have hb1 : LenOk (.sl a0.Vars.length (encL a0.Vars)) := lkc hb
 have hb2 : LenOk (.sl a0.Mutexes.length (encL a0.Mutexes)) := lkc hb
 have hb3 : LenOk (.sl a0.Conds.length (encL a0.Conds)) := lkc hb
 have hb4 : LenOk (.sl a0.Funcs.length (encL a0.Funcs)) := lkc hb
 have hb5 : LenOk (.sl a0.Threads.length (encL a0.Threads)) := lkc hb
 refine at_code mixed Tryz.func20 (by kernel_rfl) rfl (by kernel_rfl) rfl fun Q hQ => ?_
 rw [r26_lone] at hs
 refine goR2 f0 ?_
 revert hs; refine bK fun o62 e61 hs => ?_
 refine awp_cutK (fun (v : Int) (σ : St) => some (v) = some o62 /\ σ.env 1 = iV .i64 a1 /\ σ.env 2 = .cell (.ref (.o 1 0 0) 0) /\ σ.env 5 = iV .i64 v /\ σ.hp (.o 1 0 0) = some (.cells (eA a0)) /\ 3 <= σ.gen) (by rfl) (fun Q hK63 hX64 => ?_) (fun i60 σ3 hp => ?_)
 ·refine goR f0 ?_
  revert e61; refine bK fun o106 e105 e61 => ?_
  refine awp_loopW (fun (v : (List Start) × Int × Nat) (σ : St) => r26_lone_L1 a0 a1 v.1 v.2.1 v.2.2 = some o106 /\ v.1 = a0.Threads.drop v.2.2 /\ σ.env 1 = iV .i64 a1 /\ σ.env 2 = .cell (.ref (.o 1 0 0) 0) /\ σ.env 5 = iV .i64 v.2.1 /\ σ.env 6 = iV .i64 ((v.2.2 : Nat) : Int) /\ σ.hp (.o 1 0 0) = some (.cells (eA a0)) /\ 3 <= σ.gen) (fun v => v.1.length) _ (Gh.refl _) (a0.Threads, ((a0.Threads.length : Nat) : Int), 0) ⟨e105, by simp, pv f0, pv f0, pv f0, pv f0, pv f0, pg⟩ fun v σ6 hp L107 hL108 => ?_
  obtain ⟨q110, i91, k92⟩ := v
  dsimp only at hp hL108
  obtain ⟨e105, hd109, h5_1, h5_2, h5_5, h5_6, g5_0, n5_g⟩ := hp
  have n5_0 : ¬ (σ6.gen = 0) := by omega
  rcases q110 with _ | ⟨x115, q111⟩
  ·have hlt112 := drop_end hd109
   rw [r26_lone_L1] at e105; try dsimp only at e105
   have F1 := an h5_1 (an h5_2 (an h5_5 (an h5_6 (an g5_0 n5_0))))
   refine goR F1 ?_
   refine condK_f (by simp [ltI]; omega) ?_
   obtain rfl := sj e105
   try dsimp only at e61
   exact hK63 i91 _ _ (Gh.refl _) ⟨e61, pv F1, pv F1, pv F1, pv F1, pg⟩
  ·obtain ⟨hx114, hlt112, hd116⟩ := drop_next hd109
   have ew113 := wrap_succ hlt112 (hb5).len
   rw [r26_lone_L1] at e105; try dsimp only at e105
   have F2 := an h5_1 (an h5_2 (an h5_5 (an h5_6 (an g5_0 (an n5_0 (an hlt112 ew113))))))
   refine goR F2 ?_
   refine condK_t (by simp [ltI]; omega) ?_
   have f117 : partCV Tryz.prog 3 (encL a0.Threads) (k92 * 2) = some (iV .i64 x115.Func) := partCV_enc hx114 (f := 0) (by simp)
   have F3 := an F2 f117
   refine goG F3 F3 ?_
   revert e105; refine cS F3 ?_ ?_ <;> intro h118 e105
   ·revert e105; refine bK fun x119 hx120 e105 => ?_
    obtain ⟨hx120a, hx120b, hx120c, hx120d⟩ := getI_some hx120
    have f121 : partCV Tryz.prog 53 (encL a0.Funcs) (((x115.Func).toNat) * 2) = some (.agg (eA x119)) := partCV_enc hx120d (f := 0) (by simp)
    have F4 := an F3 f121
    have F5 := an F4 (an hx120a hx120b)
    refine goG F4 F5 ?_
    revert e105; refine bK fun y122 hx123 e105 => ?_
    refine cP F4 (at_r26_spawned hx123) ?_
    refine goG F4 F5 ?_
    exact hL108 (q111, IntKind.i64.wrap (i91 + y122), (k92 + 1)) _ _ (Gh.refl _) ⟨e105, hd116, pv F4, pv F4, pv F4, pv F4, pv F4, pg⟩ (by simp)
   ·refine goG F3 F3 ?_
    exact hL108 (q111, i91, (k92 + 1)) _ _ (Gh.refl _) ⟨e105, hd116, pv F3, pv F3, pv F3, pv F3, pv F3, pg⟩ (by simp)
 ·obtain ⟨e61, h4_1, h4_2, h4_5, g4_0, n4_g⟩ := hp
  obtain rfl := sj e61
  try dsimp only at hs
  have n4_0 : ¬ (σ3.gen = 0) := by omega
  have F6 := an h4_1 (an h4_2 (an h4_5 (an g4_0 n4_0)))
  refine goR2 F6 ?_
  revert hs; refine bK fun o571 e570 hs => ?_
  refine awp_cutK (fun (v : Unit) (σ : St) => some (.inl v) = some o571 /\ σ.env 5 = iV .i64 i60 /\ (σ3.gen + 1) <= σ.gen) (by rfl) (fun Q hK572 hX573 => ?_) (fun v σ33 hp => ?_)
  ·refine goR F6 ?_
   revert e570; refine bK fun o908 e907 e570 => ?_
   refine awp_loopW (fun (v : Nat × Int) (σ : St) => r26_lone_L2 fuelN a0 a1 v.1 v.2 = some o908 /\ σ.env 1 = iV .i64 a1 /\ σ.env 2 = .cell (.ref (.o 1 0 0) 0) /\ σ.env 5 = iV .i64 i60 /\ σ.env 8 = iV .i64 v.2 /\ σ.hp (.o 1 0 0) = some (.cells (eA a0)) /\ (σ3.gen + 1) <= σ.gen) (fun v => v.1) _ (Gh.refl _) (fuelN, 0) ⟨e907, pv F6, pv F6, pv F6, pv F6, pv F6, pg⟩ fun v σ54 hp L909 hL910 => ?_
   obtain ⟨q912, i796⟩ := v
   dsimp only at hp hL910
   obtain ⟨e907, h53_1, h53_2, h53_5, h53_8, g53_0, n53_g⟩ := hp
   have n53_0 : ¬ (σ54.gen = 0) := by omega
   rcases q912 with _ | q913
   ·rw [r26_lone_L2] at e907; cases e907
   ·rw [r26_lone_L2] at e907; try dsimp only at e907
    have F7 := an h53_1 (an h53_2 (an h53_5 (an h53_8 (an g53_0 n53_0))))
    refine goR F7 ?_
    revert e907; refine cS F7 ?_ ?_ <;> intro h917 e907
    ·refine goR2 F7 ?_
     revert e907; refine bK fun o967 e966 e907 => ?_
     refine awp_cutK (fun (v : Unit) (σ : St) => some (.inl v) = some o967 /\ σ.env 1 = iV .i64 a1 /\ σ.env 2 = .cell (.ref (.o 1 0 0) 0) /\ σ.env 5 = iV .i64 i60 /\ σ.env 8 = iV .i64 i796 /\ σ.hp (.o 1 0 0) = some (.cells (eA a0)) /\ (σ54.gen + 1) <= σ.gen) (by rfl) (fun Q hK968 hX969 => ?_) (fun v σ57 hp => ?_)
     ·refine goR F7 ?_
      revert e966; refine bK fun o997 e996 e966 => ?_
      refine awp_loopW (fun (v : Nat × Int) (σ : St) => r26_lone_L3 a0 a1 i796 v.1 v.2 = some o997 /\ σ.env 1 = iV .i64 a1 /\ σ.env 2 = .cell (.ref (.o 1 0 0) 0) /\ σ.env 5 = iV .i64 i60 /\ σ.env 8 = iV .i64 i796 /\ σ.env 9 = iV .i64 v.2 /\ σ.hp (.o 1 0 0) = some (.cells (eA a0)) /\ (σ54.gen + 2) <= σ.gen) (fun v => v.1) _ (Gh.refl _) (fuelN, 0) ⟨e996, pv F7, pv F7, pv F7, pv F7, pv F7, pv F7, pg⟩ fun v σ60 hp L998 hL999 => ?_
      obtain ⟨q1001, i983⟩ := v
      dsimp only at hp hL999
      obtain ⟨e996, h59_1, h59_2, h59_5, h59_8, h59_9, g59_0, n59_g⟩ := hp
      have n59_0 : ¬ (σ60.gen = 0) := by omega
      rcases q1001 with _ | q1002
      ·rw [r26_lone_L3] at e996; cases e996
      ·rw [r26_lone_L3] at e996; try dsimp only at e996
       revert e996; refine bK fun x1006 hx1007 e996 => ?_
       obtain ⟨hx1007a, hx1007b, hx1007c, hx1007d⟩ := getI_some hx1007
       have f1008 : partCV Tryz.prog 51 (encL a0.Funcs) (((i796).toNat) * 2 + 1) = some (.cell (sC x1006.Code)) := partCV_enc hx1007d (f := 1) (by simp)
       have F8 := an h59_1 (an h59_2 (an h59_5 (an h59_8 (an h59_9 (an g59_0 (an n59_0 f1008))))))
       refine goR F8 ?_
       revert e996; refine cS F8 ?_ ?_ <;> intro h1009 e996
       ·revert e996; refine bK fun x1010 hx1011 e996 => ?_
        obtain ⟨hx1011a, hx1011b, hx1011c, hx1011d⟩ := getI_some hx1011
        have f1012 : partCV Tryz.prog 89 (encL x1006.Code) (((i983).toNat) * 8) = some (.agg (eA x1010)) := partCV_enc hx1011d (f := 0) (by simp)
        obtain ⟨g1013, e996⟩ := guardO_some e996
        have g1013a : (andB (andB (eqI x1010.Op 21) (!(ltI x1010.Obj 0))) (ltI x1010.Obj ((a0.Funcs.length : Nat) : Int))) = true -> 0 <= x1010.Obj := fun hg => (under_elem g1013 hg).1
        have g1013b : (andB (andB (eqI x1010.Op 21) (!(ltI x1010.Obj 0))) (ltI x1010.Obj ((a0.Funcs.length : Nat) : Int))) = true -> x1010.Obj < (a0.Funcs.length : Int) := fun hg => (under_elem g1013 hg).2.1
        have g1013n : (andB (andB (eqI x1010.Op 21) (!(ltI x1010.Obj 0))) (ltI x1010.Obj ((a0.Funcs.length : Nat) : Int))) = true -> (x1010.Obj).toNat < a0.Funcs.length := fun hg => by simpa using (under_elem g1013 hg).2.2.1
        have g1013c : (andB (andB (eqI x1010.Op 21) (!(ltI x1010.Obj 0))) (ltI x1010.Obj ((a0.Funcs.length : Nat) : Int))) = true -> a0.Funcs[(x1010.Obj).toNat]? = some (gd a0.Funcs ((x1010.Obj).toNat)) := fun hg => by simpa using (under_elem g1013 hg).2.2.2
        have f1014 : (andB (andB (eqI x1010.Op 21) (!(ltI x1010.Obj 0))) (ltI x1010.Obj ((a0.Funcs.length : Nat) : Int))) = true -> partCV Tryz.prog 53 (encL a0.Funcs) (((x1010.Obj).toNat) * 2) = some (.agg [tC ((gd a0.Funcs ((x1010.Obj).toNat)).Name), sC ((gd a0.Funcs ((x1010.Obj).toNat)).Code)]) := fun hg => partCV_enc (g1013c hg) (f := 0) (by simp)
        have F9 := an F8 (an f1012 (an g1013a (an g1013b (an g1013n f1014))))
        have F10 := an F9 (an hx1007a (an hx1007b (an hx1011a hx1011b)))
        refine goG F9 F10 ?_
        obtain ⟨g1015, e996⟩ := guardO_some e996
        refine gsel_call (fun hg => at_r26_spawned (under_call g1015 hg)) (fun hg => by (try simp at hg); (first | simp [hg, F9]); try rfl) (fun hg => by (try simp at hg); simp [hg, F9]) (by simp) ?_
        refine goG F9 F10 ?_
        revert e996; refine cS F9 ?_ ?_ <;> intro h1016 e996
        ·refine goG F9 F10 ?_
         obtain rfl := sj e996
         try dsimp only at e966
         obtain rfl := sj e966
         try dsimp only at e907
         refine hX969 _ _ (by simp) ?_
         refine goG F9 F10 ?_
         obtain rfl := sj e907
         try dsimp only at e570
         obtain rfl := sj e570
         try dsimp only at hs
         refine hX573 _ _ (by simp) ?_
         refine goG F9 F10 ?_
         obtain rfl := sj hs
         exact hQ _ _ (rg F9 (Gh.refl _))
        ·refine goG F9 F10 ?_
         exact hL999 (q1002, IntKind.i64.wrap (i983 + 1)) _ _ (Gh.refl _) ⟨e996, pv F9, pv F9, pv F9, pv F9, pv F9, pv F9, pg⟩ (by omega)
       ·refine goR F8 ?_
        obtain rfl := sj e996
        try dsimp only at e966
        exact hK968 () _ _ (Gh.refl _) ⟨e966, pv F8, pv F8, pv F8, pv F8, pv F8, pg⟩
     ·obtain ⟨e966, h58_1, h58_2, h58_5, h58_8, g58_0, n58_g⟩ := hp
      obtain rfl := sj e966
      try dsimp only at e907
      have n58_0 : ¬ (σ57.gen = 0) := by omega
      have F11 := an h58_1 (an h58_2 (an h58_5 (an h58_8 (an g58_0 n58_0))))
      refine goR F11 ?_
      exact hL910 (q913, IntKind.i64.wrap (i796 + 1)) _ _ (Gh.refl _) ⟨e907, pv F11, pv F11, pv F11, pv F11, pv F11, pg⟩ (by omega)
    ·refine goR F7 ?_
     obtain rfl := sj e907
     try dsimp only at e570
     exact hK572 () _ _ (Gh.refl _) ⟨e570, pv F7, pg⟩
  ·obtain ⟨e570, h34_5, n34_g⟩ := hp
   obtain rfl := sj e570
   try dsimp only at hs
   refine goR h34_5 ?_
   obtain rfl := sj hs
   exact hQ _ _ (rg h34_5 (Gh.refl _))
end Go.Dc
end
section
set_option linter.all false
namespace Go.Dc
open Go Go.Hw Go.Proofs
set_option maxRecDepth 100000
def r26_Small_L1 : List Func -> Nat -> Option (Unit ⊕ Bool)
 | [], k42 => some (.inl ())
 | x59 :: q55, k42 => cond (ltI 12 ((x59.Code.length : Nat) : Int)) (some (.inr false)) (r26_Small_L1 q55 (k42 + 1))
def r26_Small (fuelN : Nat) (a0 : Program) (a1 : Int) : Option Bool :=
 cond (orB (orB (orB (orB (orB (ltI 4 ((a0.Funcs.length : Nat) : Int)) (ltI 4 ((a0.Threads.length : Nat) : Int))) (ltI 8 a1)) (ltI 8 ((a0.Vars.length : Nat) : Int))) (ltI 4 ((a0.Mutexes.length : Nat) : Int))) (ltI 4 ((a0.Conds.length : Nat) : Int))) (some false) (Option.bind (α := Unit ⊕ Bool) (Option.bind (r26_Small_L1 a0.Funcs 0) (fun o => match o with | .inl _ => some (.inl ()) | .inr r63 => some (.inr r63))) (fun o => match o with | .inl _ => Option.bind (r26_lone fuelN a0 a1) (fun y64 => some y64) | .inr r66 => some r66))
set_option maxHeartbeats 2000000 in
theorem at_r26_Small {fuelN : Nat} {a0 : Program} {a1 : Int} {r : Bool} (hs : r26_Small fuelN a0 a1 = some r) : At Tryz.prog 6 [.agg (eA a0), iV .i64 a1] (bV r) := by
 refine at_bound (by kernel_rfl) fun hb => ?_
 have hb1 : LenOk (.sl a0.Vars.length (encL a0.Vars)) := lkc hb
 have hb2 : LenOk (.sl a0.Mutexes.length (encL a0.Mutexes)) := lkc hb
 have hb3 : LenOk (.sl a0.Conds.length (encL a0.Conds)) := lkc hb
 have hb4 : LenOk (.sl a0.Funcs.length (encL a0.Funcs)) := lkc hb
 have hb5 : LenOk (.sl a0.Threads.length (encL a0.Threads)) := lkc hb
 refine at_code mixed Tryz.func6 (by kernel_rfl) rfl (by kernel_rfl) rfl fun Q hQ => ?_
 rw [r26_Small] at hs
 refine goG f0 f0 ?_
 revert hs; refine cS f0 ?_ ?_ <;> intro h1 hs
 ·refine goG f0 f0 ?_
  obtain rfl := sj hs
  exact hQ _ _ (rg f0 (Gh.refl _))
 ·refine goG2 f0 f0 ?_
  revert hs; refine bK fun o32 e31 hs => ?_
  refine awp_cutK (fun (v : Unit) (σ : St) => some (.inl v) = some o32 /\ σ.env 1 = iV .i64 a1 /\ σ.env 2 = .cell (.ref (.o 1 0 0) 0) /\ σ.hp (.o 1 0 0) = some (.cells (eA a0)) /\ 3 <= σ.gen) (by rfl) (fun Q hK33 hX34 => ?_) (fun v σ3 hp => ?_)
  ·refine goG f0 f0 ?_
   revert e31; refine bK fun o50 e49 e31 => ?_
   refine awp_loopW (fun (v : (List Func) × Nat) (σ : St) => r26_Small_L1 v.1 v.2 = some o50 /\ v.1 = a0.Funcs.drop v.2 /\ σ.env 1 = iV .i64 a1 /\ σ.env 2 = .cell (.ref (.o 1 0 0) 0) /\ σ.env 5 = iV .i64 ((v.2 : Nat) : Int) /\ σ.hp (.o 1 0 0) = some (.cells (eA a0)) /\ 3 <= σ.gen) (fun v => v.1.length) _ (Gh.refl _) (a0.Funcs, 0) ⟨e49, by simp, pv f0, pv f0, pv f0, pv f0, pg⟩ fun v σ6 hp L51 hL52 => ?_
   obtain ⟨q54, k42⟩ := v
   dsimp only at hp hL52
   obtain ⟨e49, hd53, h5_1, h5_2, h5_5, g5_0, n5_g⟩ := hp
   have n5_0 : ¬ (σ6.gen = 0) := by omega
   rcases q54 with _ | ⟨x59, q55⟩
   ·have hlt56 := drop_end hd53
    rw [r26_Small_L1] at e49; try dsimp only at e49
    have F1 := an h5_1 (an h5_2 (an h5_5 (an g5_0 n5_0)))
    refine goR F1 ?_
    refine condK_f (by simp [ltI]; omega) ?_
    obtain rfl := sj e49
    try dsimp only at e31
    exact hK33 () _ _ (Gh.refl _) ⟨e31, pv F1, pv F1, pv F1, pg⟩
   ·obtain ⟨hx58, hlt56, hd60⟩ := drop_next hd53
    have ew57 := wrap_succ hlt56 (hb4).len
    rw [r26_Small_L1] at e49; try dsimp only at e49
    have F2 := an h5_1 (an h5_2 (an h5_5 (an g5_0 (an n5_0 (an hlt56 ew57)))))
    refine goR F2 ?_
    refine condK_t (by simp [ltI]; omega) ?_
    have f61 : partCV Tryz.prog 51 (encL a0.Funcs) (k42 * 2 + 1) = some (.cell (sC x59.Code)) := partCV_enc hx58 (f := 1) (by simp)
    have F3 := an F2 f61
    refine goR F3 ?_
    revert e49; refine cS F3 ?_ ?_ <;> intro h62 e49
    ·refine goR F3 ?_
     obtain rfl := sj e49
     try dsimp only at e31
     obtain rfl := sj e31
     try dsimp only at hs
     refine hX34 _ _ (by simp) ?_
     refine goR F3 ?_
     obtain rfl := sj hs
     exact hQ _ _ (rg F3 (Gh.refl _))
    ·refine goR F3 ?_
     exact hL52 (q55, (k42 + 1)) _ _ (Gh.refl _) ⟨e49, hd60, pv F3, pv F3, pv F3, pv F3, pg⟩ (by simp)
  ·obtain ⟨e31, h4_1, h4_2, g4_0, n4_g⟩ := hp
   obtain rfl := sj e31
   try dsimp only at hs
   have n4_0 : ¬ (σ3.gen = 0) := by omega
   have F4 := an h4_1 (an h4_2 (an g4_0 n4_0))
   refine goG F4 F4 ?_
   revert hs; refine bK fun y64 hx65 hs => ?_
   refine cP F4 (at_r26_lone hx65) ?_
   refine goG F4 F4 ?_
   obtain rfl := sj hs
   exact hQ _ _ (rg F4 (Gh.refl _))
end Go.Dc
end
section
set_option linter.all false
namespace Go.Dc.Pl
open Go Go.Hw Go.Dc
/-! The size of what is checked. -/
theorem lone1 (p : Program) (a : Int) : ∀ (l : List Start) (i : Int) (k : Nat), ∃ r, r26_lone_L1 p a l i k = some r
 | [], i, k => ⟨i, rfl⟩
 | x :: q, i, k => by
  rw [r26_lone_L1]
  cases h : andB (!(ltI x.Func 0)) (ltI x.Func ((p.Funcs.length : Nat) : Int)) with
  | false => exact lone1 p a q i (k + 1)
  | true =>
   simp only [andB_d, ltI_d, Bool.and_eq_true, Bool.not_eq_true', decide_eq_false_iff_not, decide_eq_true_eq] at h
   obtain ⟨n, hn⟩ : ∃ n : Nat, x.Func = n := ⟨x.Func.toNat, by omega⟩
   rw [cond_true, hn, getI_nat, List.getElem?_eq_getElem (by omega), Option.bind_some]
   obtain ⟨y, hy⟩ : ∃ y, r26_spawned (p.Funcs[n]'(by omega)) a = some y := spawned_ex _ _
   rw [hy]; exact lone1 p a q _ (k + 1)
where
 spawnedL : ∀ (l : List Inst) (i : Int) (k : Nat), ∃ r, r26_spawned_L1 l i k = some r
  | [], i, k => ⟨i, rfl⟩
  | x :: q, i, k => by rw [r26_spawned_L1]; cases eqI x.Op 21 <;> exact spawnedL q _ _
 backL : ∀ (l : List Inst) (k : Nat), ∃ r, r26_back_L1 l k = some r
  | [], k => ⟨_, rfl⟩
  | x :: q, k => by rw [r26_back_L1]; cases andB (orB (eqI x.Op 4) (eqI x.Op 5)) (!(ltI ((k : Nat) : Int) x.N)) <;> first | exact backL q _ | exact ⟨_, rfl⟩
 back_ex (f : Func) : ∃ b, r26_back f = some b := by
  obtain ⟨r, hr⟩ := backL f.Code 0
  rw [r26_back, hr]; cases r <;> exact ⟨_, rfl⟩
 spawned_ex (f : Func) (a : Int) : ∃ y, r26_spawned f a = some y := by
  obtain ⟨r, hr⟩ := spawnedL f.Code 0 0
  obtain ⟨b, hb⟩ := back_ex f
  rw [r26_spawned, hr, hb]
  simp only [Option.bind_some, Option.isSome_some]
  rw [show orB (!ltI 0 r) true = true from orB_t _]
  cases andB (ltI 0 r) ((some b).getD default) <;> exact ⟨_, rfl⟩
theorem lone3 (p : Program) (a : Int) (k : Nat) (f : Func) (hf : p.Funcs[k]? = some f) (hc : f.Code.length <= 100) : ∀ (q j : Nat), j <= f.Code.length -> f.Code.length < j + q -> ∃ r, r26_lone_L3 p a (k : Int) q (j : Int) = some r
 | 0, j, h1, h2 => by omega
 | q + 1, j, h1, h2 => by
  rw [r26_lone_L3, getI_nat, hf, Option.bind_some]
  rcases Nat.lt_or_ge j f.Code.length with h | h
  ·rw [ltI_d, decide_eq_true (by omega), cond_true, getI_nat, List.getElem?_eq_getElem h, Option.bind_some]
   generalize f.Code[j] = x
   obtain ⟨y, hy⟩ := lone1.spawned_ex (gd p.Funcs x.Obj.toNat) a
   rw [hy]
   have e1 : orB (!(andB (andB (eqI x.Op 21) (!(ltI x.Obj 0))) (ltI x.Obj ((p.Funcs.length : Nat) : Int)))) (inB x.Obj p.Funcs.length) = true := by
    simp only [orB_d, andB_d, ltI_d, inB_d]
    by_cases a : 0 <= x.Obj /\ x.Obj < (p.Funcs.length : Int)
    ·simp [a]
    ·rw [decide_eq_false a]
     by_cases b : x.Obj < 0
     ·simp [b]
     ·simp [b]; right; omega
   rw [e1, guardO_t, show (some y).isSome = true from rfl, orB_t, guardO_t, wrapS (by omega)]
   cases andB (andB (andB (eqI x.Op 21) (!(ltI x.Obj 0))) (ltI x.Obj ((p.Funcs.length : Nat) : Int))) (ltI 0 ((some y).getD default)) with
   | true => exact ⟨_, rfl⟩
   | false => exact lone3 p a k f hf hc q (j + 1) (by omega) (by omega)
  ·rw [ltI_d, decide_eq_false (by omega)]; exact ⟨_, rfl⟩
theorem lone2 (p : Program) (a : Int) (f : Nat) (hp : p.Funcs.length <= 20) (hc : ∀ g ∈ p.Funcs, g.Code.length <= 100) (hf : 200 <= f) : ∀ (q k : Nat), k <= p.Funcs.length -> p.Funcs.length < k + q -> ∃ r, r26_lone_L2 f p a q (k : Int) = some r
 | 0, k, h1, h2 => by omega
 | q + 1, k, h1, h2 => by
  rw [r26_lone_L2]
  rcases Nat.lt_or_ge k p.Funcs.length with h | h
  ·obtain ⟨r, hr⟩ := lone3 p a k _ (List.getElem?_eq_getElem h) (hc _ (List.getElem_mem h)) f 0 (by omega) (by have := hc _ (List.getElem_mem h); omega)
   rw [ltI_d, decide_eq_true (by omega), cond_true, show (0 : Int) = ((0 : Nat) : Int) from rfl, hr, wrapS (by omega)]
   cases r with
   | inl u => exact lone2 p a f hp hc hf q (k + 1) (by omega) (by omega)
   | inr u => exact ⟨_, rfl⟩
  ·rw [ltI_d, decide_eq_false (by omega)]; exact ⟨_, rfl⟩
theorem lone_ex (p : Program) (a : Int) {f : Nat} (hp : p.Funcs.length <= 20) (hc : ∀ g ∈ p.Funcs, g.Code.length <= 100) (hf : 200 <= f) : ∃ b, r26_lone f p a = some b := by
 obtain ⟨r, hr⟩ := lone1 p a p.Threads ((p.Threads.length : Nat) : Int) 0
 obtain ⟨s, hs⟩ := lone2 p a f hp hc hf f 0 (by omega) (by omega)
 rw [r26_lone, hr, show (0 : Int) = ((0 : Nat) : Int) from rfl, hs]
 cases s <;> exact ⟨_, rfl⟩
/-- Whether a job is small is answered; and what that says. -/
theorem small26 (p : Program) (a : Int) {f : Nat} (hf : 200 <= f) : ∃ b, r26_Small f p a = some b /\ (b = true -> small p = true) := by
 rw [r26_Small]
 cases h : orB (orB (orB (orB (orB (ltI 4 ((p.Funcs.length : Nat) : Int)) (ltI 4 ((p.Threads.length : Nat) : Int))) (ltI 8 a)) (ltI 8 ((p.Vars.length : Nat) : Int))) (ltI 4 ((p.Mutexes.length : Nat) : Int))) (ltI 4 ((p.Conds.length : Nat) : Int)) with
 | true => exact ⟨false, rfl, fun h => by cases h⟩
 | false =>
  simp only [orB_d, ltI_d, Bool.or_eq_false_iff, decide_eq_false_iff_not] at h
  have hs := srch (L := r26_Small_L1) (fun _ (g : Func) => onlyIf (ltI 12 ((g.Code.length : Nat) : Int)) false) (fun _ => rfl) p.Funcs 0 fun j x hx q => by
   rw [r26_Small_L1]; exact step_only _ _ _
  rw [first_onlyC] at hs
  rw [cond_false, hs]
  cases hc : p.Funcs.any fun g => ltI 12 ((g.Code.length : Nat) : Int) with
  | true => exact ⟨false, rfl, fun h => by cases h⟩
  | false =>
   have hc' : ∀ g ∈ p.Funcs, g.Code.length <= 12 := fun g hg => by
    have := (List.any_eq_false.1 hc) g hg
    simp [ltI_d] at this; omega
   obtain ⟨b, hb⟩ := lone_ex p a (f := f) (by omega) (fun g hg => by have := hc' g hg; omega) hf
   refine ⟨b, ?_, fun _ => ?_⟩
   ·show Option.bind (r26_lone f p a) some = _
    rw [hb]; rfl
   ·simp only [small, Bool.and_eq_true, decide_eq_true_eq, Bool.not_eq_true']
    refine ⟨by omega, List.any_eq_false.2 fun g hg => ?_⟩
    have := hc' g hg; simp; omega
/-! Whether a program and a configuration are in order. -/
def cfgE (c : Config) : Int := (program_CheckConfig c).getD 0
theorem own_cfg (c : Config) : program_CheckConfig c = some (cfgE c) := by
 have : (program_CheckConfig c).isSome = true := by
  unfold program_CheckConfig
  cases andB (andB (!(eqI c.Model 1)) (!(eqI c.Model 2))) (!(eqI c.Model 3)) with
  | true => rfl
  | false => cases orB (ltI c.Bound 1) (ltI 32 c.Bound) <;> rfl
 obtain ⟨x, hx⟩ := Option.isSome_iff_exists.1 this
 rw [cfgE, hx]; rfl
theorem ref_cfg (c : Config) : r08_CheckConfig c = some (cfgE c) := own_cfg c
def stdE (p : Program) (c : Config) : Int := cond (!(eqI (chk p).1 0)) (chk p).1 (cond (!(eqI (cfgE c) 0)) (cfgE c) (cond (eqI c.Model 3) 18 0))
theorem own_std {f : Nat} {p : Program} (c : Config) (h : small p = true) : checkpoint_standard (f + 8) p c = some (stdE p c) := by
 rw [checkpoint_standard, own_check h, own_cfg]
 simp only [Option.bind_some, stdE]
 cases eqI (chk p).1 0 <;> cases eqI (cfgE c) 0 <;> cases eqI c.Model 3 <;> rfl
theorem ref_std {f : Nat} {p : Program} (c : Config) (h : small p = true) (hf : 21 <= f) : r49_standard f p c = some (stdE p c) := by
 rw [r49_standard, ref_check h hf, ref_cfg]
 simp only [Option.bind_some, stdE]
 cases eqI (chk p).1 0 <;> cases eqI (cfgE c) 0 <;> cases eqI c.Model 3 <;> rfl
theorem std_chk {p : Program} {c : Config} (h : eqI (stdE p c) 0 = true) : eqI (chk p).1 0 = true := by
 unfold stdE at h
 cases h1 : eqI (chk p).1 0 with
 | true => rfl
 | false => rw [h1] at h; simp at h; rw [h] at h1; cases h1
/-! Names of a program that is in order are short. -/
theorem first_none {α β : Type} {f : Nat -> α -> Option β} : ∀ {l : List α} {k : Nat}, first f l k = none -> ∀ j x, l[j]? = some x -> f (k + j) x = none
 | [], _, _, j, x, hx => by simp at hx
 | y :: q, k, h, j, x, hx => by
  rw [first_cons] at h
  cases hy : f k y with
  | some r => rw [hy] at h; cases h
  | none =>
   rw [hy] at h
   cases j with
   | zero => simp at hx; subst hx; exact hy
   | succ j => have := first_none h j x (by simpa using hx); rwa [show k + (j + 1) = k + 1 + j by omega]
theorem badName_none {l : List ByteArray} (h : badName l = none) : ∀ x ∈ l, x.size <= 16 := fun x hx => by
 obtain ⟨j, hj⟩ := List.getElem?_of_mem hx
 have := first_none h j x hj
 rw [nmF] at this
 split at this
 ·cases this
 ·rename_i hk
  have : okName x = true := by simpa using hk
  simp only [okName, Bool.and_eq_true, decide_eq_true_eq] at this
  exact this.1.2
theorem names16 {p : Program} (h : eqI (chk p).1 0 = true) : (∀ v ∈ p.Vars, v.Name.size <= 16) /\ (∀ x ∈ p.Mutexes, x.size <= 16) /\ (∀ x ∈ p.Conds, x.size <= 16) /\ ∀ g ∈ p.Funcs, g.Name.size <= 16 := by
 have hn : ckN p = none := by
  unfold chk at h
  cases hn : ckN p with
  | none => rfl
  | some r =>
   rw [hn] at h
   have : eqI r.1 0 = false := by
    rw [ckN] at hn
    split at hn
    ·rename_i hb; obtain rfl := Option.some.inj hn; have := badName_ne hb; exact this
    ·split at hn
     ·rename_i hb; obtain rfl := Option.some.inj hn; have := badName_ne hb; exact this
     ·split at hn
      ·rename_i hb; obtain rfl := Option.some.inj hn; have := badName_ne hb; exact this
      ·exact badName_ne hn
   simp [this] at h
 rw [ckN] at hn
 split at hn
 ·cases hn
 ·rename_i h1
  split at hn
  ·cases hn
  ·rename_i h2
   split at hn
   ·cases hn
   ·rename_i h3
    exact ⟨fun v hv => badName_none h1 _ (List.mem_map_of_mem hv), badName_none h2, badName_none h3, fun g hg => badName_none hn _ (List.mem_map_of_mem hg)⟩
end Go.Dc.Pl
end
section
set_option linter.all false
namespace Go.Dc.Pl
open Go Go.Hw Go.Dc
theorem appU_le (b : List UInt8) (n : Int) : (appU b n).length <= b.length + 9 := by
 unfold appU; split
 ·omega
 ·have := uintB_le9 (n := n.toNat) (by omega); simp; omega
theorem appI_le (b : List UInt8) (n : Int) : (appI b n).length <= b.length + 9 := by
 unfold appI; split
 ·rename_i h; have := uintB_le9 (intCode_le h); simp; omega
 ·omega
theorem appS_le (b : List UInt8) {s : ByteArray} (h : s.size <= 16) : (appS b s).length <= b.length + 25 := by
 have h9 := uintB_le9 (n := s.size) (by omega); have := str_len s
 unfold appS; simp; omega
/-- Bytes appended element by element. -/
theorem foldA {α : Type} {L : List α -> List UInt8 -> Nat -> Option (List UInt8)} (g : List UInt8 -> α -> List UInt8) (c B : Nat) (ok : α -> Prop) (h0 : ∀ b k, L [] b k = some b)
  (h1 : ∀ x q b k, ok x -> b.length <= B -> L (x :: q) b k = L q (g b x) (k + 1)) (hl : ∀ x b, ok x -> (g b x).length <= b.length + c) :
  ∀ (l : List α) (b : List UInt8) (k : Nat), (∀ x ∈ l, ok x) -> b.length + c * l.length <= B -> L l b k = some (l.foldl g b) /\ (l.foldl g b).length <= b.length + c * l.length
 | [], b, k, _, _ => ⟨h0 b k, by simp⟩
 | x :: q, b, k, ho, hb => by
  have hx := ho x (by simp)
  have hg := hl x b hx
  rw [List.length_cons, Nat.mul_succ] at hb ⊢
  obtain ⟨e1, e2⟩ := foldA g c B ok h0 h1 hl q (g b x) (k + 1) (fun y hy => ho y (by simp [hy])) (by omega)
  refine ⟨by rw [h1 x q b k hx (by omega)]; exact e1, ?_⟩
  show (List.foldl g (g b x) q).length <= _
  omega
def numsB (b : List UInt8) (l : List Int) : List UInt8 := l.foldl appI b
theorem own_nums {f : Nat} {b : List UInt8} {l : List Int} (hf : 9 <= f) (h : b.length + 9 * l.length <= 1000000) : checkpoint_text_1 f l b = some (numsB b l) /\ (numsB b l).length <= b.length + 9 * l.length := by
 have := foldA (L := fun l b k => checkpoint_text_1_L1 f l k b) appI 9 1000000 (fun _ => True) (fun b k => rfl) (fun x q b k _ hb => by
  show checkpoint_text_1_L1 f (x :: q) k b = _
  rw [checkpoint_text_1_L1, own_appI hf (by omega)]; rfl) (fun x b _ => appI_le b x) l b 0 (fun _ _ => trivial) h
 exact ⟨by rw [checkpoint_text_1, this.1]; rfl, this.2⟩
theorem ref_nums {f : Nat} {b : List UInt8} {l : List Int} (hf : 9 <= f) (h : b.length + 9 * l.length <= 1000000) : r49_numbers f b l = some (numsB b l) := by
 have := foldA (L := r49_numbers_L1 f) appI 9 1000000 (fun _ => True) (fun b k => rfl) (fun x q b k _ hb => by
  rw [r49_numbers_L1, ref_appI hf (by omega)]; rfl) (fun x b _ => appI_le b x) l b 0 (fun _ _ => trivial) h
 rw [r49_numbers, this.1]; rfl
theorem nums_le (b : List UInt8) (l : List Int) : (numsB b l).length <= b.length + 9 * l.length := by
 induction l generalizing b with
 | nil => simp [numsB]
 | cons x l ih => have h1 := ih (appI b x); have h2 := appI_le b x; simp only [numsB, List.foldl_cons, List.length_cons] at h1 ⊢; omega
def namesB (b : List UInt8) (l : List ByteArray) : List UInt8 := l.foldl appS (appU b (l.length : Int))
theorem own_namesB {f : Nat} {b : List UInt8} {l : List ByteArray} (hf : 9 <= f) (hl : ∀ x ∈ l, x.size <= 16) (h : b.length + 9 + 25 * l.length <= 1000000) :
  checkpoint_text_3_checkpoint_text_2 f l b = some (namesB b l) /\ (namesB b l).length <= b.length + 9 + 25 * l.length := by
 have hu := appU_le b (l.length : Int)
 have := foldA (L := fun l b k => checkpoint_text_3_checkpoint_text_2_L1 f l k b) appS 25 1000000 (fun x => x.size <= 16) (fun b k => rfl) (fun x q b k hx hb => by
  show checkpoint_text_3_checkpoint_text_2_L1 f (x :: q) k b = _
  rw [checkpoint_text_3_checkpoint_text_2_L1, own_appS hf (by omega) (by omega)]; rfl) (fun x b hx => appS_le b hx) l (appU b (l.length : Int)) 0 hl (by omega)
 refine ⟨?_, by have := this.2; unfold namesB; omega⟩
 rw [checkpoint_text_3_checkpoint_text_2, checkpoint_text_2, own_appU hf (by omega)]
 simp only [Option.bind_some, this.1]; rfl
theorem ref_namesB {f : Nat} {b : List UInt8} {l : List ByteArray} (hf : 9 <= f) (hl : ∀ x ∈ l, x.size <= 16) (h : b.length + 9 + 25 * l.length <= 1000000) : r49_names f b l = some (namesB b l) := by
 have hu := appU_le b (l.length : Int)
 have := foldA (L := r49_names_L1 f) appS 25 1000000 (fun x => x.size <= 16) (fun b k => rfl) (fun x q b k hx hb => by
  rw [r49_names_L1, ref_appS hf (by omega) (by omega)]; rfl) (fun x b hx => appS_le b hx) l (appU b (l.length : Int)) 0 hl (by omega)
 rw [r49_names, ref_appU hf (by omega)]
 simp only [Option.bind_some, this.1]; rfl
def varB (b : List UInt8) (v : Var) : List UInt8 := numsB (appS b v.Name) [v.Init]
def fieldsI (x : Inst) : List Int := [x.Op, x.A, x.B, x.C, x.Obj, x.N, x.Fn, x.Order]
def instB (b : List UInt8) (x : Inst) : List UInt8 := numsB b (fieldsI x)
def funcB (b : List UInt8) (g : Func) : List UInt8 := g.Code.foldl instB (appU (appS b g.Name) (g.Code.length : Int))
def startB (b : List UInt8) (t : Start) : List UInt8 := numsB b [t.Func, t.Arg]
def textB (p : Program) (c : Config) : List UInt8 :=
 p.Threads.foldl startB (appU (p.Funcs.foldl funcB (appU (namesB (namesB (p.Vars.foldl varB (appU (numsB [] [c.Model, c.Bound]) (p.Vars.length : Int))) p.Mutexes) p.Conds) (p.Funcs.length : Int))) (p.Threads.length : Int))
theorem code_own {f : Nat} (hf : 9 <= f) (l : List Inst) (b : List UInt8) (h : b.length + 72 * l.length <= 900000) : checkpoint_text_L3 f l 0 b = some (l.foldl instB b) /\ (l.foldl instB b).length <= b.length + 72 * l.length :=
 foldA (L := fun l b k => checkpoint_text_L3 f l k b) instB 72 900000 (fun _ => True) (fun b k => rfl) (fun x q b k _ hb => by
  show checkpoint_text_L3 f (x :: q) k b = _
  rw [checkpoint_text_L3]
  simp only [Option.bind_some]
  rw [(own_nums (l := [x.Op, x.A, x.B, x.C, x.Obj, x.N, x.Fn, x.Order]) hf (by simp; omega)).1]; rfl) (fun x b _ => by have := nums_le b (fieldsI x); simpa [instB, fieldsI] using this) l b 0 (fun _ _ => trivial) h
theorem code_ref {f : Nat} (hf : 9 <= f) (l : List Inst) (b : List UInt8) (h : b.length + 72 * l.length <= 900000) : r49_Digest_L3 f l b 0 = some (l.foldl instB b) :=
 (foldA (L := r49_Digest_L3 f) instB 72 900000 (fun _ => True) (fun b k => rfl) (fun x q b k _ hb => by
  rw [r49_Digest_L3]
  simp only [Option.bind_some]
  rw [ref_nums (l := [x.Op, x.A, x.B, x.C, x.Obj, x.N, x.Fn, x.Order]) hf (by simp; omega)]; rfl) (fun x b _ => by have := nums_le b (fieldsI x); simpa [instB, fieldsI] using this) l b 0 (fun _ _ => trivial) h).1
theorem funcB_le {b : List UInt8} {g : Func} (h : g.Name.size <= 16) : (funcB b g).length <= b.length + 34 + 72 * g.Code.length := by
 have h1 := appS_le b h
 have h2 := appU_le (appS b g.Name) (g.Code.length : Int)
 have : ∀ (l : List Inst) (b : List UInt8), (l.foldl instB b).length <= b.length + 72 * l.length := fun l => by
  induction l with
  | nil => intro b; simp
  | cons x l ih => intro b; have h3 := ih (instB b x); have h4 := nums_le b (fieldsI x); simp only [List.foldl_cons, List.length_cons]; simp only [instB, fieldsI, List.length_cons, List.length_nil] at h3 h4 ⊢; omega
 have h3 := this g.Code (appU (appS b g.Name) (g.Code.length : Int))
 unfold funcB; omega
theorem zip_foldl {α σ : Type} (g : σ -> α -> σ) : ∀ (l : List α) (k : Nat) (s : σ), (l.zipIdx k).foldl (fun s x => g s x.1) s = l.foldl g s
 | [], _, _ => rfl
 | x :: l, k, s => by rw [List.zipIdx_cons, List.foldl_cons, List.foldl_cons, zip_foldl g l]
theorem funcs_own {f : Nat} (hf : 200 <= f) (p : Program) (hp : p.Funcs.length <= 20) (hc : ∀ g ∈ p.Funcs, g.Code.length <= 100 /\ g.Name.size <= 16) (b : List UInt8) (hb : b.length <= 10000) :
  checkpoint_text_L2 f p f 0 b = some (p.Funcs.foldl funcB b) /\ (p.Funcs.foldl funcB b).length <= 10000 + 7234 * 20 := by
 have h := foldI (L := fun q s i => checkpoint_text_L2 f p q i s) p.Funcs (fun _ g s => funcB s g) (fun k s => s.length <= 10000 + 7234 * k) (fun q s _ => by
   show checkpoint_text_L2 f p (q + 1) _ s = _
   rw [checkpoint_text_L2, ltI_d, decide_eq_false (by omega)]; rfl) (fun q k s x hx hs => by
   have hk := getN_some hx
   obtain ⟨c1, c2⟩ := hc x (List.mem_of_getElem? hx)
   have hl := funcB_le (b := s) c2
   have ha := appS_le s c2
   have hu := appU_le (appS s x.Name) (x.Code.length : Int)
   refine ⟨?_, by omega⟩
   show checkpoint_text_L2 f p (q + 1) _ s = checkpoint_text_L2 f p q _ _
   rw [checkpoint_text_L2, ltI_d, decide_eq_true (by omega), cond_true, getI_nat, hx, Option.bind_some, own_appS (by omega) (by omega) (by omega), Option.bind_some, checkpoint_text_2, own_appU (by omega) (by omega)]
   simp only [Option.bind_some]
   rw [(code_own (by omega) x.Code _ (by omega)).1, wrapS (by omega)]; rfl) f 0 b (by omega) (by omega) (by omega)
 rw [List.drop_zero, zip_foldl (fun s g => funcB s g)] at h
 refine ⟨h, ?_⟩
 have : ∀ (l : List Func) (b : List UInt8), (∀ g ∈ l, g.Code.length <= 100 /\ g.Name.size <= 16) -> (l.foldl funcB b).length <= b.length + 7234 * l.length := fun l => by
  induction l with
  | nil => intro b _; simp
  | cons x l ih => intro b hl; have h3 := ih (funcB b x) (fun g hg => hl g (by simp [hg])); have h4 := funcB_le (b := b) (hl x (by simp)).2; have h5 := (hl x (by simp)).1; simp only [List.foldl_cons, List.length_cons]; omega
 have := this p.Funcs b hc
 have e : 7234 * p.Funcs.length <= 7234 * 20 := Nat.mul_le_mul_left _ hp
 omega
theorem funcs_ref {f : Nat} (hf : 200 <= f) (p : Program) (hp : p.Funcs.length <= 20) (hc : ∀ g ∈ p.Funcs, g.Code.length <= 100 /\ g.Name.size <= 16) (b : List UInt8) (hb : b.length <= 10000) :
  r49_Digest_L2 f p f b 0 = some (p.Funcs.foldl funcB b) := by
 have h := foldI (L := fun q s i => r49_Digest_L2 f p q s i) p.Funcs (fun _ g s => funcB s g) (fun k s => s.length <= 10000 + 7234 * k) (fun q s _ => by
   show r49_Digest_L2 f p (q + 1) s _ = _
   rw [r49_Digest_L2, ltI_d, decide_eq_false (by omega)]; rfl) (fun q k s x hx hs => by
   have hk := getN_some hx
   obtain ⟨c1, c2⟩ := hc x (List.mem_of_getElem? hx)
   have hl := funcB_le (b := s) c2
   have ha := appS_le s c2
   have hu := appU_le (appS s x.Name) (x.Code.length : Int)
   refine ⟨?_, by omega⟩
   show r49_Digest_L2 f p (q + 1) s _ = r49_Digest_L2 f p q _ _
   rw [r49_Digest_L2, ltI_d, decide_eq_true (by omega), cond_true, getI_nat, hx, Option.bind_some, ref_appS (by omega) (by omega) (by omega), Option.bind_some, ref_appU (by omega) (by omega)]
   simp only [Option.bind_some]
   rw [code_ref (by omega) x.Code _ (by omega), wrapS (by omega)]; rfl) f 0 b (by omega) (by omega) (by omega)
 rw [List.drop_zero, zip_foldl (fun s g => funcB s g)] at h
 exact h
/-- The text, by both; and its length. -/
theorem text_eq {f : Nat} (hf : 200 <= f) {p : Program} (c : Config) (h : small p = true) (hk : eqI (chk p).1 0 = true) :
  checkpoint_text f p c = some (textB p c) /\ (textB p c).length <= 200000 /\
  (∀ K : List UInt8 -> Option (Int × Int), (Option.bind (r49_numbers f [] [c.Model, c.Bound]) fun y6 => Option.bind (r06_AppendUint f y6 ((p.Vars.length : Nat) : Int)) fun y8 => Option.bind (Option.bind (r49_Digest_L1 f p.Vars y8 0) fun l82 => some l82) fun l53 => Option.bind (r49_names f l53 p.Mutexes) fun y101 => Option.bind (r49_names f y101 p.Conds) fun y103 => Option.bind (r06_AppendUint f y103 ((p.Funcs.length : Nat) : Int)) fun y105 => Option.bind (Option.bind (r49_Digest_L2 f p f y105 0) fun l1039 => some l1039) fun l638 => Option.bind (r06_AppendUint f l638 ((p.Threads.length : Nat) : Int)) fun y1174 => Option.bind (Option.bind (r49_Digest_L4 f p.Threads y1174 0) fun l1326 => some l1326) K) = K (textB p c)) := by
 obtain ⟨s1, s2, s3, s4, s5, s6⟩ := small_t h
 obtain ⟨n1, n2, n3, n4⟩ := names16 hk
 have a1 := nums_le [] [c.Model, c.Bound]
 simp only [List.length_nil, List.length_cons] at a1
 have a2 := appU_le (numsB [] [c.Model, c.Bound]) (p.Vars.length : Int)
 have hv := foldA (L := fun l b k => checkpoint_text_L1 f l k b) varB 34 100000 (fun v => v.Name.size <= 16) (fun b k => rfl) (fun x q b k hx hb => by
  show checkpoint_text_L1 f (x :: q) k b = _
  have := appS_le b hx
  rw [checkpoint_text_L1, own_appS (by omega) (by omega) (by omega)]
  simp only [Option.bind_some]
  rw [(own_nums (l := [x.Init]) (by omega) (by simp; omega)).1]; rfl) (fun x b hx => by have h1 := appS_le b hx; have h2 := nums_le (appS b x.Name) [x.Init]; simp only [List.length_cons, List.length_nil] at h2; unfold varB; omega)
  p.Vars (appU (numsB [] [c.Model, c.Bound]) (p.Vars.length : Int)) 0 n1 (by omega)
 have hv' := foldA (L := r49_Digest_L1 f) varB 34 100000 (fun v => v.Name.size <= 16) (fun b k => rfl) (fun x q b k hx hb => by
  have := appS_le b hx
  rw [r49_Digest_L1, ref_appS (by omega) (by omega) (by omega), Option.bind_some, ref_appI (by omega) (by omega)]; rfl) (fun x b hx => by have h1 := appS_le b hx; have h2 := nums_le (appS b x.Name) [x.Init]; simp only [List.length_cons, List.length_nil] at h2; unfold varB; omega)
  p.Vars (appU (numsB [] [c.Model, c.Bound]) (p.Vars.length : Int)) 0 n1 (by omega)
 obtain ⟨hv1, hv2⟩ := hv
 generalize hV : p.Vars.foldl varB (appU (numsB [] [c.Model, c.Bound]) (p.Vars.length : Int)) = V at hv1 hv2 hv'
 obtain ⟨m1, m2⟩ := own_namesB (f := f) (b := V) (by omega) n2 (by omega)
 have m3 := ref_namesB (f := f) (b := V) (by omega) n2 (by omega)
 obtain ⟨c1, c2⟩ := own_namesB (f := f) (b := namesB V p.Mutexes) (by omega) n3 (by omega)
 have c3 := ref_namesB (f := f) (b := namesB V p.Mutexes) (by omega) n3 (by omega)
 have u1 := appU_le (namesB (namesB V p.Mutexes) p.Conds) (p.Funcs.length : Int)
 obtain ⟨f1, f2⟩ := funcs_own hf p s4 (fun g hg => ⟨s6 g hg, n4 g hg⟩) (appU (namesB (namesB V p.Mutexes) p.Conds) (p.Funcs.length : Int)) (by omega)
 have f3 := funcs_ref hf p s4 (fun g hg => ⟨s6 g hg, n4 g hg⟩) (appU (namesB (namesB V p.Mutexes) p.Conds) (p.Funcs.length : Int)) (by omega)
 generalize hF : p.Funcs.foldl funcB (appU (namesB (namesB V p.Mutexes) p.Conds) (p.Funcs.length : Int)) = F at f1 f2 f3
 have u2 := appU_le F (p.Threads.length : Int)
 have ht := foldA (L := fun l b k => checkpoint_text_L4 f l k b) startB 18 900000 (fun _ => True) (fun b k => rfl) (fun x q b k _ hb => by
  show checkpoint_text_L4 f (x :: q) k b = _
  rw [checkpoint_text_L4]
  simp only [Option.bind_some]
  rw [(own_nums (l := [x.Func, x.Arg]) (by omega) (by simp; omega)).1]; rfl) (fun x b _ => by have := nums_le b [x.Func, x.Arg]; simpa [startB] using this) p.Threads (appU F (p.Threads.length : Int)) 0 (fun _ _ => trivial) (by omega)
 have ht' := foldA (L := r49_Digest_L4 f) startB 18 900000 (fun _ => True) (fun b k => rfl) (fun x q b k _ hb => by
  rw [r49_Digest_L4]
  simp only [Option.bind_some]
  rw [ref_nums (l := [x.Func, x.Arg]) (by omega) (by simp; omega)]; rfl) (fun x b _ => by have := nums_le b [x.Func, x.Arg]; simpa [startB] using this) p.Threads (appU F (p.Threads.length : Int)) 0 (fun _ _ => trivial) (by omega)
 have eT : textB p c = p.Threads.foldl startB (appU F (p.Threads.length : Int)) := by unfold textB; rw [hV, hF]
 refine ⟨?_, by rw [eT]; have := ht.2; omega, fun K => ?_⟩
 ·rw [checkpoint_text]
  simp only [Option.bind_some]
  rw [(own_nums (l := [c.Model, c.Bound]) (by omega) (by simp)).1]
  simp only [Option.bind_some, checkpoint_text_2]
  rw [own_appU (by omega) (by omega)]
  simp only [Option.bind_some]
  rw [hv1]
  simp only [Option.bind_some]
  rw [m1]
  simp only [Option.bind_some]
  rw [c1]
  simp only [Option.bind_some]
  rw [own_appU (by omega) (by omega)]
  simp only [Option.bind_some]
  rw [f1]
  simp only [Option.bind_some]
  rw [own_appU (by omega) (by omega)]
  simp only [Option.bind_some]
  rw [ht.1, eT]; rfl
 ·rw [ref_nums (by omega) (by simp)]
  simp only [Option.bind_some]
  rw [ref_appU (by omega) (by omega)]
  simp only [Option.bind_some]
  rw [hv'.1]
  simp only [Option.bind_some]
  rw [m3]
  simp only [Option.bind_some]
  rw [c3]
  simp only [Option.bind_some]
  rw [ref_appU (by omega) (by omega)]
  simp only [Option.bind_some]
  rw [f3]
  simp only [Option.bind_some]
  rw [ref_appU (by omega) (by omega)]
  simp only [Option.bind_some]
  rw [ht'.1, eT]; rfl
/-- The digest. -/
def digest (p : Program) (c : Config) : Int × Int := cond (!(eqI (stdE p c) 0)) (0, stdE p c) (((crc (textB p c) : Nat) : Int), 0)
theorem own_digest {f : Nat} (hf : 300000 <= f) {p : Program} (c : Config) (h : small p = true) : checkpoint_Digest f p c = some (digest p c) := by
 obtain ⟨f, rfl⟩ : ∃ g, f = g + 8 := ⟨f - 8, by omega⟩
 rw [checkpoint_Digest, own_std c h, Option.bind_some, digest]
 cases hs : eqI (stdE p c) 0 with
 | false => rfl
 | true =>
  obtain ⟨h1, h2, h3⟩ := text_eq (f := f + 8) (by omega) c h (std_chk hs)
  have hc := crc_lt (textB p c)
  rw [Bool.not_true, cond_false, h1, Option.bind_some, own_crc (by omega) (by omega) (by omega), Option.bind_some, wrap_i64 (by omega) (by omega)]; rfl
theorem ref_digest {f : Nat} (hf : 300000 <= f) {p : Program} (c : Config) (h : small p = true) : r49_Digest f p c = some (digest p c) := by
 rw [r49_Digest, ref_std c h (by omega), Option.bind_some, digest]
 cases hs : eqI (stdE p c) 0 with
 | false => rfl
 | true =>
  obtain ⟨h1, h2, h3⟩ := text_eq (f := f) (by omega) c h (std_chk hs)
  have hc := crc_lt (textB p c)
  rw [Bool.not_true, cond_false]
  simp only [Option.bind_some]
  rw [h3, ref_crc (by omega) (by omega) (by omega), Option.bind_some, wrap_i64 (by omega) (by omega)]; rfl
end Go.Dc.Pl
end
section
set_option linter.all false
namespace Go.Dc
open Go Go.Hw Go.Proofs
set_option maxRecDepth 100000
def checkpoint_Decode (fuelN : Nat) (a0 : Program) (a1 : Config) (a2 : List UInt8) : Option (Snapshot × Int) :=
 Option.bind (checkpoint_Digest fuelN a0 a1) (fun y1 => cond (!(eqI y1.2 0)) (some (({ Frames := [], Done := false, Count := 0, Blocked := 0 } : Snapshot), y1.2)) (Option.bind (frame_Open fuelN a2) (fun y4 => cond (!(eqI y4.2.2 0)) (some (({ Frames := [], Done := false, Count := 0, Blocked := 0 } : Snapshot), y4.2.2)) (cond (ltI 0 ((y4.2.1.length : Nat) : Int)) (some (({ Frames := [], Done := false, Count := 0, Blocked := 0 } : Snapshot), 3)) (Option.bind (checkpoint_rest_uint_CheckpointDecoder fuelN ({ rest := ({ bytes := y4.1, err := 0 } : CheckpointRest), done := 0, out := ({ Frames := ([] : List Frame), Done := false, Count := 0, Blocked := 0 } : Snapshot) } : CheckpointDecoder)) (fun y8 => cond (!(eqI y8.2.rest.err 0)) (some (({ Frames := [], Done := false, Count := 0, Blocked := 0 } : Snapshot), y8.2.rest.err)) (cond (!(eqI y8.1 y1.1)) (some (({ Frames := [], Done := false, Count := 0, Blocked := 0 } : Snapshot), 30)) (Option.bind (checkpoint_decoder_snapshot fuelN y8.2) (fun y12 => cond (!(eqI y12.rest.err 0)) (some (({ Frames := [], Done := false, Count := 0, Blocked := 0 } : Snapshot), y12.rest.err)) (cond (!(orB (ltI 1 y12.done) (ltI 0 ((y12.rest.bytes.length : Nat) : Int)))) (Option.bind (checkpoint_Valid fuelN y12.out) (fun y16 => cond (!y16) (some (({ Frames := [], Done := false, Count := 0, Blocked := 0 } : Snapshot), 3)) (some (y12.out, 0)))) (some (({ Frames := [], Done := false, Count := 0, Blocked := 0 } : Snapshot), 3))))))))))))
set_option maxHeartbeats 2000000 in
theorem at_checkpoint_Decode {fuelN : Nat} {a0 : Program} {a1 : Config} {a2 : List UInt8} {r : Snapshot × Int} (hs : checkpoint_Decode fuelN a0 a1 a2 = some r) : At Tryz.prog 14 [.agg (eA a0), .agg (eA a1), .cell (sC a2)] (.tup [.agg (eA r.1), iV .i64 r.2]) := by
 refine at_bound (by kernel_rfl) fun hb => ?_
 have hb1 : LenOk (.sl a0.Vars.length (encL a0.Vars)) := lkc hb
 have hb2 : LenOk (.sl a0.Mutexes.length (encL a0.Mutexes)) := lkc hb
 have hb3 : LenOk (.sl a0.Conds.length (encL a0.Conds)) := lkc hb
 have hb4 : LenOk (.sl a0.Funcs.length (encL a0.Funcs)) := lkc hb
 have hb5 : LenOk (.sl a0.Threads.length (encL a0.Threads)) := lkc hb
 have hb6 : LenOk (.sl a2.length (encL a2)) := lkc hb
 refine at_code mixed Tryz.func14 (by kernel_rfl) rfl (by kernel_rfl) rfl fun Q hQ => ?_
 rw [checkpoint_Decode] at hs
 refine goR f0 ?_
 revert hs; refine bK fun y1 hx2 hs => ?_
 refine cP f0 (at_checkpoint_Digest hx2) ?_
 refine goR f0 ?_
 revert hs; refine cS f0 ?_ ?_ <;> intro h3 hs
 ·refine goR f0 ?_
  obtain rfl := sj hs
  exact hQ _ _ (rg f0 (Gh.unz _))
 ·refine goR f0 ?_
  revert hs; refine bK fun y4 hx5 hs => ?_
  refine cP f0 (at_frame_Open hx5) ?_
  refine goR f0 ?_
  revert hs; refine cS f0 ?_ ?_ <;> intro h6 hs
  ·refine goR f0 ?_
   obtain rfl := sj hs
   exact hQ _ _ (rg f0 (Gh.unz _))
  ·refine goR f0 ?_
   revert hs; refine cS f0 ?_ ?_ <;> intro h7 hs
   ·refine goR f0 ?_
    obtain rfl := sj hs
    exact hQ _ _ (rg f0 (Gh.unz _))
   ·refine goN f0 ?_
    refine awp_reg ?_
    refine goN f0 ?_
    refine awp_gh (by rfl) ((Gh.voidB _ (.l 1) (.o 7 3 0) 3 4 rfl (by simp; rfl) (by first | rfl | simp) (by simp)).trans (Gh.close _ (.o 7 3 0) 3)) ?_
    try simp only [St.frz, St.pur]
    refine goR f0 ?_
    revert hs; refine bK fun y8 hx9 hs => ?_
    refine cB f0 (at_checkpoint_rest_uint_CheckpointDecoder hx9) [.o 7 3 0] ?_
    refine goR f0 ?_
    revert hs; refine cS f0 ?_ ?_ <;> intro h10 hs
    ·refine goD f0 ?_
     obtain rfl := sj hs
     exact hQ _ _ (rg f0 (Gh.unz _))
    ·refine goR f0 ?_
     revert hs; refine cS f0 ?_ ?_ <;> intro h11 hs
     ·refine goR f0 ?_
      obtain rfl := sj hs
      exact hQ _ _ (rg f0 (Gh.unz _))
     ·refine goR f0 ?_
      revert hs; refine bK fun y12 hx13 hs => ?_
      refine cB f0 (at_checkpoint_decoder_snapshot hx13) [.o 7 3 0] ?_
      refine goR f0 ?_
      revert hs; refine cS f0 ?_ ?_ <;> intro h14 hs
      ·refine goD f0 ?_
       obtain rfl := sj hs
       exact hQ _ _ (rg f0 (Gh.unz _))
      ·refine goG f0 f0 ?_
       refine gsel_split (fun h15 => ?_) (fun h15 => ?_)
       ·replace hs := condT h15 hs
        simp only [Bool.not_eq_true', Bool.not_eq_false', Bool.not_not] at h15
        refine goG h15 h15 ?_
        revert hs; refine bK fun y16 hx17 hs => ?_
        refine cA h15 (at_checkpoint_Valid hx17) ?_
        refine goG h15 h15 ?_
        revert hs; refine cS h15 ?_ ?_ <;> intro h18 hs
        ·refine goG h15 h15 ?_
         obtain rfl := sj hs
         exact hQ _ _ (rg h15 (Gh.unz _))
        ·refine goG h15 h15 ?_
         obtain rfl := sj hs
         exact hQ _ _ (rg h15 (Gh.frz _ (.o 13 18 3)))
       ·replace hs := condF h15 hs
        simp only [Bool.not_eq_true', Bool.not_eq_false', Bool.not_not] at h15
        refine goG h15 h15 ?_
        obtain rfl := sj hs
        exact hQ _ _ (rg h15 (Gh.unz _))
end Go.Dc
end
section
set_option linter.all false
namespace Go.Dc.Pl
open Go Go.Hw Go.Dc
theorem trL_wid {F : Rd -> List Tree × Rd} {B m : Nat} (hF : ∀ r, meas (F r).2 <= meas r /\ (F r).2.1.length <= r.1.length) (hW : ∀ r, meas r <= B -> wid B m (F r).1) :
  ∀ (rem : Nat) (r : Rd) (acc : List Tree), meas r <= B -> (∀ k ∈ acc, wid B m k.Kids) -> (trL F rem r acc).1.length <= acc.length + meas r /\ ∀ k ∈ (trL F rem r acc).1, wid B m k.Kids
 | 0, r, acc, _, h => ⟨by simp [trL], h⟩
 | rem + 1, r, acc, hm, h => by
  rw [trL]; split
  ·rename_i h0
   have h1 := rdI_meas r
   have h1' := h1.2.2 h0
   have h2 := hF (rdI r).2
   have h3 := trL_wid hF hW rem (F (rdI r).2).2 (acc ++ [⟨(rdI r).1, (F (rdI r).2).1⟩]) (by omega) (fun k hk => by
    rcases List.mem_append.1 hk with hk | hk
    ·exact h k hk
    ·rw [List.mem_singleton.1 hk]; exact hW _ (by omega))
   refine ⟨?_, h3.2⟩
   have := h3.1
   rw [List.length_append, List.length_singleton] at this
   omega
  ·exact ⟨by simp, h⟩
theorem tr_wid {B : Nat} : ∀ (m : Nat) (r : Rd), meas r <= B -> wid B m (tr m r).1
 | 0, r, h => trivial
 | m + 1, r, h => by
  rw [tr]
  have h1 := rdU_meas r; have h2 := deep_meas (m + 1) (rdU r)
  have := trL_wid (tr_meas m) (tr_wid (B := B) m) (rdU r).1.toNat (deep (m + 1) (rdU r)) [] (by omega) (fun k hk => by cases hk)
  refine ⟨?_, this.2⟩
  have := this.1; simp at this; omega
theorem frL_wid {B : Nat} : ∀ (rem : Nat) (r : Rd) (acc : List Frame), meas r <= B -> (∀ f ∈ acc, wid B 512 f.Tree.Kids) -> ∀ f ∈ (frL rem r acc).1, wid B 512 f.Tree.Kids
 | 0, r, acc, _, h => h
 | rem + 1, r, acc, hm, h => by
  rw [frL]; split
  ·have h1 := rdI_meas r
   have h2 := rdL_meas (rdI r).2
   have h3 := tr_meas 512 (rdL (rdI r).2).2
   exact frL_wid rem _ _ (by omega) (fun k hk => by
    rcases List.mem_append.1 hk with hk | hk
    ·exact h k hk
    ·rw [List.mem_singleton.1 hk]; exact tr_wid 512 _ (by omega))
  ·exact h
theorem many_meas (x : Int × Rd) : meas (many x) <= meas x.2 := by
 unfold many; split
 ·simp [meas]
 ·exact Nat.le_refl _
theorem snapR_wid {B : Nat} {r : Rd} (h : meas r <= B) : ∀ f ∈ (snapR r).2.1.Frames, wid B 512 f.Tree.Kids := by
 have h1 := rdU_meas r
 have h2 := rdU_meas (rdU r).2
 have h3 := rdU_meas (rdU (rdU r).2).2
 have h4 := rdU_meas (rdU (rdU (rdU r).2).2).2
 have h5 := many_meas (rdU (rdU (rdU (rdU r).2).2).2)
 exact frL_wid _ _ [] (by omega) (fun f hf => by cases hf)
def snap0 : Snapshot := ⟨[], false, 0, 0⟩
/-- What Decode comes to, behind a digest. -/
def decodeB (dg : Int × Int) (b : List UInt8) : Snapshot × Int :=
 if dg.2 ≠ 0 then (snap0, dg.2)
 else if (openB b).2.2 ≠ 0 then (snap0, (openB b).2.2)
 else if 0 < (openB b).2.1.length then (snap0, 3)
 else if (rdU ((openB b).1, 0)).2.2 ≠ 0 then (snap0, (rdU ((openB b).1, 0)).2.2)
 else if (rdU ((openB b).1, 0)).1 ≠ dg.1 then (snap0, 30)
 else if (snapR (rdU ((openB b).1, 0)).2).2.2.2 ≠ 0 then (snap0, (snapR (rdU ((openB b).1, 0)).2).2.2.2)
 else if 1 < (snapR (rdU ((openB b).1, 0)).2).1 \/ 0 < (snapR (rdU ((openB b).1, 0)).2).2.2.1.length \/ validS (snapR (rdU ((openB b).1, 0)).2).2.1 = false then (snap0, 3)
 else ((snapR (rdU ((openB b).1, 0)).2).2.1, 0)
theorem openB_len (b : List UInt8) : (openB b).1.length <= b.length := by
 unfold openB; split
 ·simp
 ·split
  ·simp
  ·split
   ·simp; omega
   ·simp
theorem own_decode {f : Nat} {p : Program} {c : Config} {b : List UInt8} (hp : small p = true) (hb : b.length <= 100000000) (hf : b.length + 1100000 <= f) :
  checkpoint_Decode f p c b = some (decodeB (digest p c) b) := by
 unfold checkpoint_Decode decodeB
 rw [own_digest (by omega) c hp, Option.bind_some, eqI_d]
 by_cases h1 : (digest p c).2 = 0
 ·rw [decide_eq_true h1, Bool.not_true, cond_false, if_neg (fun h : (digest p c).2 ≠ 0 => h h1), own_open (by omega) (by omega), Option.bind_some, eqI_d]
  by_cases h2 : (openB b).2.2 = 0
  ·rw [decide_eq_true h2, Bool.not_true, cond_false, if_neg (fun h : (openB b).2.2 ≠ 0 => h h2), ltI_d]
   by_cases h3 : 0 < (openB b).2.1.length
   ·rw [if_pos h3, decide_eq_true (by omega)]; rfl
   ·have hl := openB_len b
    rw [if_neg h3, decide_eq_false (by omega), cond_false]
    have e1 := own_rdU (f := f) (d := mkD ((openB b).1, 0) 0 [] false 0 0) (by omega) (by show (openB b).1.length <= _; omega)
    rw [show rst (mkD ((openB b).1, 0) 0 [] false 0 0) = ((openB b).1, 0) from rfl] at e1
    have hm := rdU_meas ((openB b).1, 0)
    have hm0 : meas ((openB b).1, 0) = (openB b).1.length + 1 := meas_pos rfl
    refine (congrArg (fun o => Option.bind o _) e1).trans ?_
    generalize rdU ((openB b).1, 0) = x at hm ⊢
    simp only [Option.bind_some]
    show cond (!(eqI x.2.2 0)) (some (_, x.2.2)) (cond (!(eqI x.1 _)) _ _) = _
    rw [eqI_d, eqI_d]
    by_cases h4 : x.2.2 = 0
    ·rw [decide_eq_true h4, Bool.not_true, cond_false, if_neg (fun h : x.2.2 ≠ 0 => h h4)]
     by_cases h5 : x.1 = (digest p c).1
     ·rw [decide_eq_true h5, Bool.not_true, cond_false, if_neg (fun h : x.1 ≠ (digest p c).1 => h h5)]
      have hx : x.2.1.length <= b.length := Nat.le_trans hm.2.1 hl
      have e2 := own_snap (f := f) (r := x.2) (by omega) (by omega)
      refine (congrArg (fun o => Option.bind o _) e2).trans ?_
      have hw := snapR_wid (B := b.length + 1) (r := x.2) (by have := hm.1; omega)
      generalize hS : snapR x.2 = S at hw ⊢
      obtain ⟨dn, s, r⟩ := S
      simp only [Option.bind_some]
      have e3 := own_valid (B := b.length + 1) (n := f) (by omega) (s := s) (by omega) hw
      show cond (!(eqI r.2 0)) (some (_, r.2)) (cond (!(orB (ltI 1 dn) (ltI 0 ((r.1.length : Nat) : Int)))) (Option.bind (checkpoint_Valid f s) _) _) = _
      rw [e3, eqI_d, orB_d, ltI_d, ltI_d, <- Bool.decide_or]
      by_cases h6 : r.2 = 0
      ·rw [decide_eq_true h6, Bool.not_true, cond_false, if_neg (fun h : r.2 ≠ 0 => h h6)]
       by_cases h7 : 1 < dn \/ 0 < r.1.length
       ·rw [if_pos (by rcases h7 with h | h; exact .inl h; exact .inr (.inl h)), decide_eq_true (by omega)]; rfl
       ·rw [decide_eq_false (by omega), Bool.not_false, cond_true, Option.bind_some]
        cases hv : validS s with
        | false => rw [if_pos (.inr (.inr rfl))]; rfl
        | true => rw [if_neg (fun h => by rcases h with h | h | h; exact h7 (.inl h); exact h7 (.inr h); cases h)]; rfl
      ·rw [decide_eq_false h6, if_pos (show r.2 ≠ 0 from h6)]; rfl
     ·rw [decide_eq_false h5, if_pos (show x.1 ≠ (digest p c).1 from h5)]; rfl
    ·rw [decide_eq_false h4, if_pos (show x.2.2 ≠ 0 from h4)]; rfl
  ·rw [decide_eq_false h2, if_pos (show (openB b).2.2 ≠ 0 from h2)]; rfl
 ·rw [decide_eq_false h1, if_pos (show (digest p c).2 ≠ 0 from h1)]; rfl
end Go.Dc.Pl
end
section
set_option linter.all false
namespace Go.Dc
open Go Go.Hw Go.Proofs
set_option maxRecDepth 100000
def r02_Ints_L1 (a1 : List Int) : List Int -> Nat -> Option (Unit ⊕ Bool)
 | [], k76 => some (.inl ())
 | x102 :: q98, k76 => Option.bind (a1[k76]?) (fun x109 => cond (!(eqI x102 x109)) (some (.inr false)) (r02_Ints_L1 a1 q98 (k76 + 1)))
def r02_Ints (a0 : List Int) (a1 : List Int) : Option Bool :=
 cond (!(eqI ((a0.length : Nat) : Int) ((a1.length : Nat) : Int))) (some false) (Option.bind (α := Unit ⊕ Bool) (Option.bind (r02_Ints_L1 a1 a0 0) (fun o => match o with | .inl _ => some (.inl ()) | .inr r113 => some (.inr r113))) (fun o => match o with | .inl _ => some true | .inr r114 => some r114))
set_option maxHeartbeats 2000000 in
theorem at_r02_Ints {a0 : List Int} {a1 : List Int} {r : Bool} (hs : r02_Ints a0 a1 = some r) : At Tryz.prog 42 [.cell (sC a0), .cell (sC a1)] (bV r) := by
 refine at_bound (by kernel_rfl) fun hb => ?_
 have hb1 : LenOk (.sl a0.length (encL a0)) := lkc hb
 have hb2 : LenOk (.sl a1.length (encL a1)) := lkc hb
 refine at_code mixed Tryz.func42 (by kernel_rfl) rfl (by kernel_rfl) rfl fun Q hQ => ?_
 rw [r02_Ints] at hs
 refine goR f0 ?_
 revert hs; refine cS f0 ?_ ?_ <;> intro h1 hs
 ·refine goR f0 ?_
  obtain rfl := sj hs
  exact hQ _ _ (rg f0 (Gh.refl _))
 ·refine goR2 f0 ?_
  revert hs; refine bK fun o57 e56 hs => ?_
  refine awp_cutK (fun (v : Unit) (σ : St) => some (.inl v) = some o57 /\ 3 <= σ.gen) (by rfl) (fun Q hK58 hX59 => ?_) (fun v σ3 hp => ?_)
  ·refine goR f0 ?_
   revert e56; refine bK fun o93 e92 e56 => ?_
   refine awp_loopW (fun (v : (List Int) × Nat) (σ : St) => r02_Ints_L1 a1 v.1 v.2 = some o93 /\ v.1 = a0.drop v.2 /\ σ.env 0 = .cell (sC a0) /\ σ.env 1 = .cell (sC a1) /\ σ.env 5 = iV .i64 ((v.2 : Nat) : Int) /\ 3 <= σ.gen) (fun v => v.1.length) _ (Gh.refl _) (a0, 0) ⟨e92, by simp, pv f0, pv f0, pv f0, pg⟩ fun v σ6 hp L94 hL95 => ?_
   obtain ⟨q97, k76⟩ := v
   dsimp only at hp hL95
   obtain ⟨e92, hd96, h5_0, h5_1, h5_5, n5_g⟩ := hp
   rcases q97 with _ | ⟨x102, q98⟩
   ·have hlt99 := drop_end hd96
    rw [r02_Ints_L1] at e92; try dsimp only at e92
    have F1 := an h5_0 (an h5_1 h5_5)
    refine goR F1 ?_
    refine condK_f (by simp [ltI]; omega) ?_
    obtain rfl := sj e92
    try dsimp only at e56
    exact hK58 () _ _ (Gh.refl _) ⟨e56, pg⟩
   ·obtain ⟨hx101, hlt99, hd103⟩ := drop_next hd96
    have ew100 := wrap_succ hlt99 (hb1).len
    rw [r02_Ints_L1] at e92; try dsimp only at e92
    have F2 := an h5_0 (an h5_1 (an h5_5 (an hlt99 ew100)))
    refine goR F2 ?_
    refine condK_t (by simp [ltI]; omega) ?_
    have f108 : partCV Tryz.prog 3 (encL a0) (k76) = some (iV .i64 x102) := partCV_enc1 hx101 (by simp)
    revert e92; refine bK fun x109 hx110 e92 => ?_
    have hx110b := getN_some hx110
    have f111 : partCV Tryz.prog 3 (encL a1) (k76) = some (iV .i64 x109) := partCV_enc1 hx110 (by simp)
    have F3 := an F2 (an f108 f111)
    refine goD F3 ?_
    revert e92; refine cS F3 ?_ ?_ <;> intro h112 e92
    ·refine goD F3 ?_
     obtain rfl := sj e92
     try dsimp only at e56
     obtain rfl := sj e56
     try dsimp only at hs
     refine hX59 _ _ (by simp) ?_
     refine goD F3 ?_
     obtain rfl := sj hs
     exact hQ _ _ (rg F3 (Gh.refl _))
    ·refine goD F3 ?_
     exact hL95 (q98, (k76 + 1)) _ _ (Gh.refl _) ⟨e92, hd103, pv F3, pv F3, pv F3, pg⟩ (by simp)
  ·obtain ⟨e56, n4_g⟩ := hp
   obtain rfl := sj e56
   try dsimp only at hs
   refine goR f0 ?_
   obtain rfl := sj hs
   exact hQ _ _ (rg f0 (Gh.refl _))
end Go.Dc
end
section
set_option linter.all false
namespace Go.Dc
open Go Go.Hw Go.Proofs
set_option maxRecDepth 100000
def r33_Equal_L1 (a1 : Tree) (rF43z : Tree -> Tree -> Option Bool) : List Tree -> Nat -> Option (Unit ⊕ Bool)
 | [], k92 => some (.inl ())
 | x122 :: q118, k92 => Option.bind (a1.Kids[k92]?) (fun x131 => Option.bind (rF43z x122 x131) (fun y134 => cond (!y134) (some (.inr false)) (r33_Equal_L1 a1 rF43z q118 (k92 + 1))))
def r33_Equal_B (rF43z : Tree -> Tree -> Option Bool) (a0 : Tree) (a1 : Tree) : Option Bool :=
 cond (orB (!(eqI a0.Agent a1.Agent)) (!(eqI ((a0.Kids.length : Nat) : Int) ((a1.Kids.length : Nat) : Int)))) (some false) (Option.bind (α := Unit ⊕ Bool) (Option.bind (r33_Equal_L1 a1 rF43z a0.Kids 0) (fun o => match o with | .inl _ => some (.inl ()) | .inr r137 => some (.inr r137))) (fun o => match o with | .inl _ => some true | .inr r138 => some r138))
def r33_Equal : Nat -> Tree -> Tree -> Option Bool
 | 0 => fun _ _ => none
 | fuelN + 1 => fun a0 a1 => r33_Equal_B (r33_Equal fuelN) a0 a1
set_option maxHeartbeats 2000000 in
theorem at_r33_Equal_B {rF43z : Tree -> Tree -> Option Bool} (ihrF43z : ∀ (a0 : Tree) (a1 : Tree) (r : Bool), rF43z a0 a1 = some r -> At Tryz.prog 43 [.agg (eA a0), .agg (eA a1)] (bV r)) {a0 : Tree} {a1 : Tree} {r : Bool} (hs : r33_Equal_B rF43z a0 a1 = some r) : At Tryz.prog 43 [.agg (eA a0), .agg (eA a1)] (bV r) := by
 refine at_bound (by kernel_rfl) fun hb => ?_
 have hb1 : LenOk (.sl a0.Kids.length (encL a0.Kids)) := lkc hb
 have hb2 : LenOk (.sl a1.Kids.length (encL a1.Kids)) := lkc hb
 refine at_code mixed Tryz.func43 (by kernel_rfl) rfl (by kernel_rfl) rfl fun Q hQ => ?_
 rw [r33_Equal_B] at hs
 refine goG f0 f0 ?_
 revert hs; refine cS f0 ?_ ?_ <;> intro h1 hs
 ·refine goG f0 f0 ?_
  obtain rfl := sj hs
  exact hQ _ _ (rg f0 (Gh.refl _))
 ·refine goG2 f0 f0 ?_
  revert hs; refine bK fun o69 e68 hs => ?_
  refine awp_cutK (fun (v : Unit) (σ : St) => some (.inl v) = some o69 /\ 3 <= σ.gen) (by rfl) (fun Q hK70 hX71 => ?_) (fun v σ3 hp => ?_)
  ·refine goG f0 f0 ?_
   revert e68; refine bK fun o113 e112 e68 => ?_
   refine awp_loopW (fun (v : (List Tree) × Nat) (σ : St) => r33_Equal_L1 a1 rF43z v.1 v.2 = some o113 /\ v.1 = a0.Kids.drop v.2 /\ σ.env 2 = .cell (.ref (.o 1 0 0) 0) /\ σ.env 3 = .cell (.ref (.o 1 1 0) 0) /\ σ.env 5 = iV .i64 ((v.2 : Nat) : Int) /\ σ.hp (.o 1 0 0) = some (.cells (eA a0)) /\ σ.hp (.o 1 1 0) = some (.cells (eA a1)) /\ 3 <= σ.gen) (fun v => v.1.length) _ (Gh.refl _) (a0.Kids, 0) ⟨e112, by simp, pv f0, pv f0, pv f0, pv f0, pv f0, pg⟩ fun v σ6 hp L114 hL115 => ?_
   obtain ⟨q117, k92⟩ := v
   dsimp only at hp hL115
   obtain ⟨e112, hd116, h5_2, h5_3, h5_5, g5_0, g5_1, n5_g⟩ := hp
   have n5_0 : ¬ (σ6.gen = 0) := by omega
   rcases q117 with _ | ⟨x122, q118⟩
   ·have hlt119 := drop_end hd116
    rw [r33_Equal_L1] at e112; try dsimp only at e112
    have F1 := an h5_2 (an h5_3 (an h5_5 (an g5_0 (an g5_1 n5_0))))
    refine goR F1 ?_
    refine condK_f (by simp [ltI]; omega) ?_
    obtain rfl := sj e112
    try dsimp only at e68
    exact hK70 () _ _ (Gh.refl _) ⟨e68, pg⟩
   ·obtain ⟨hx121, hlt119, hd123⟩ := drop_next hd116
    have ew120 := wrap_succ hlt119 (hb1).len
    rw [r33_Equal_L1] at e112; try dsimp only at e112
    have F2 := an h5_2 (an h5_3 (an h5_5 (an g5_0 (an g5_1 (an n5_0 (an hlt119 ew120))))))
    refine goR F2 ?_
    refine condK_t (by simp [ltI]; omega) ?_
    have f130 : partCV Tryz.prog 57 (encL a0.Kids) (k92 * 2) = some (.agg (eA x122)) := partCV_enc hx121 (f := 0) (by simp)
    revert e112; refine bK fun x131 hx132 e112 => ?_
    have hx132b := getN_some hx132
    have f133 : partCV Tryz.prog 57 (encL a1.Kids) (k92 * 2) = some (.agg (eA x131)) := partCV_enc hx132 (f := 0) (by simp)
    have F3 := an F2 (an f130 f133)
    refine goD F3 ?_
    revert e112; refine bK fun y134 hx135 e112 => ?_
    refine cP F3 (ihrF43z _ _ _ hx135) ?_
    refine goD F3 ?_
    revert e112; refine cS F3 ?_ ?_ <;> intro h136 e112
    ·refine goD F3 ?_
     obtain rfl := sj e112
     try dsimp only at e68
     obtain rfl := sj e68
     try dsimp only at hs
     refine hX71 _ _ (by simp) ?_
     refine goD F3 ?_
     obtain rfl := sj hs
     exact hQ _ _ (rg F3 (Gh.refl _))
    ·refine goD F3 ?_
     exact hL115 (q118, (k92 + 1)) _ _ (Gh.refl _) ⟨e112, hd123, pv F3, pv F3, pv F3, pv F3, pv F3, pg⟩ (by simp)
  ·obtain ⟨e68, n4_g⟩ := hp
   obtain rfl := sj e68
   try dsimp only at hs
   refine goG f0 f0 ?_
   obtain rfl := sj hs
   exact hQ _ _ (rg f0 (Gh.refl _))
theorem at_r33_Equal : ∀ {fuelN : Nat} {a0 : Tree} {a1 : Tree} {r : Bool} (hs : r33_Equal fuelN a0 a1 = some r), At Tryz.prog 43 [.agg (eA a0), .agg (eA a1)] (bV r)
 | 0, _, _, _, hs => by rw [r33_Equal] at hs; cases hs
 | n + 1, _, _, _, hs => by
  rw [r33_Equal] at hs
  exact at_r33_Equal_B (fun _ _ _ h => at_r33_Equal h) hs
end Go.Dc
end
section
set_option linter.all false
namespace Go.Dc
open Go Go.Hw Go.Proofs
set_option maxRecDepth 100000
def r49_Same_L1 (fuelN : Nat) (a1 : Snapshot) : List Frame -> Nat -> Option (Unit ⊕ Bool)
 | [], k124 => some (.inl ())
 | x162 :: q158, k124 => Option.bind (a1.Frames[k124]?) (fun x175 => guardO (orB (!(eqI x162.Agent x175.Agent)) ((r02_Ints x162.Sleep x175.Sleep).isSome)) (guardO (orB (!(!(orB (!(eqI x162.Agent x175.Agent)) (!((r02_Ints x162.Sleep x175.Sleep).getD default))))) ((r33_Equal fuelN x162.Tree x175.Tree).isSome)) (cond (orB (orB (!(eqI x162.Agent x175.Agent)) (!((r02_Ints x162.Sleep x175.Sleep).getD default))) (!((r33_Equal fuelN x162.Tree x175.Tree).getD default))) (some (.inr false)) (r49_Same_L1 fuelN a1 q158 (k124 + 1)))))
def r49_Same (fuelN : Nat) (a0 : Snapshot) (a1 : Snapshot) : Option Bool :=
 cond (orB (orB (orB (!(eqB a0.Done a1.Done)) (!(eqI a0.Count a1.Count))) (!(eqI a0.Blocked a1.Blocked))) (!(eqI ((a0.Frames.length : Nat) : Int) ((a1.Frames.length : Nat) : Int)))) (some false) (Option.bind (α := Unit ⊕ Bool) (Option.bind (r49_Same_L1 fuelN a1 a0.Frames 0) (fun o => match o with | .inl _ => some (.inl ()) | .inr r185 => some (.inr r185))) (fun o => match o with | .inl _ => some true | .inr r186 => some r186))
set_option maxHeartbeats 2000000 in
theorem at_r49_Same {fuelN : Nat} {a0 : Snapshot} {a1 : Snapshot} {r : Bool} (hs : r49_Same fuelN a0 a1 = some r) : At Tryz.prog 16 [.agg (eA a0), .agg (eA a1)] (bV r) := by
 refine at_bound (by kernel_rfl) fun hb => ?_
 have hb1 : LenOk (.sl a0.Frames.length (encL a0.Frames)) := lkc hb
 have hb2 : LenOk (.sl a1.Frames.length (encL a1.Frames)) := lkc hb
 refine at_code mixed Tryz.func16 (by kernel_rfl) rfl (by kernel_rfl) rfl fun Q hQ => ?_
 rw [r49_Same] at hs
 refine goG f0 f0 ?_
 revert hs; refine cS f0 ?_ ?_ <;> intro h1 hs
 ·refine goG f0 f0 ?_
  obtain rfl := sj hs
  exact hQ _ _ (rg f0 (Gh.refl _))
 ·refine goG2 f0 f0 ?_
  revert hs; refine bK fun o93 e92 hs => ?_
  refine awp_cutK (fun (v : Unit) (σ : St) => some (.inl v) = some o93 /\ 3 <= σ.gen) (by rfl) (fun Q hK94 hX95 => ?_) (fun v σ3 hp => ?_)
  ·refine goG f0 f0 ?_
   revert e92; refine bK fun o153 e152 e92 => ?_
   refine awp_loopW (fun (v : (List Frame) × Nat) (σ : St) => r49_Same_L1 fuelN a1 v.1 v.2 = some o153 /\ v.1 = a0.Frames.drop v.2 /\ σ.env 2 = .cell (.ref (.o 1 0 0) 0) /\ σ.env 3 = .cell (.ref (.o 1 1 0) 0) /\ σ.env 5 = iV .i64 ((v.2 : Nat) : Int) /\ σ.hp (.o 1 0 0) = some (.cells (eA a0)) /\ σ.hp (.o 1 1 0) = some (.cells (eA a1)) /\ 3 <= σ.gen) (fun v => v.1.length) _ (Gh.refl _) (a0.Frames, 0) ⟨e152, by simp, pv f0, pv f0, pv f0, pv f0, pv f0, pg⟩ fun v σ6 hp L154 hL155 => ?_
   obtain ⟨q157, k124⟩ := v
   dsimp only at hp hL155
   obtain ⟨e152, hd156, h5_2, h5_3, h5_5, g5_0, g5_1, n5_g⟩ := hp
   have n5_0 : ¬ (σ6.gen = 0) := by omega
   rcases q157 with _ | ⟨x162, q158⟩
   ·have hlt159 := drop_end hd156
    rw [r49_Same_L1] at e152; try dsimp only at e152
    have F1 := an h5_2 (an h5_3 (an h5_5 (an g5_0 (an g5_1 n5_0))))
    refine goR F1 ?_
    refine condK_f (by simp [ltI]; omega) ?_
    obtain rfl := sj e152
    try dsimp only at e92
    exact hK94 () _ _ (Gh.refl _) ⟨e92, pg⟩
   ·obtain ⟨hx161, hlt159, hd163⟩ := drop_next hd156
    have ew160 := wrap_succ hlt159 (hb1).len
    rw [r49_Same_L1] at e152; try dsimp only at e152
    have F2 := an h5_2 (an h5_3 (an h5_5 (an g5_0 (an g5_1 (an n5_0 (an hlt159 ew160))))))
    refine goR F2 ?_
    refine condK_t (by simp [ltI]; omega) ?_
    have f174 : partCV Tryz.prog 3 (encL a0.Frames) (k124 * 4) = some (iV .i64 x162.Agent) := partCV_enc hx161 (f := 0) (by simp)
    revert e152; refine bK fun x175 hx176 e152 => ?_
    have hx176b := getN_some hx176
    have f177 : partCV Tryz.prog 3 (encL a1.Frames) (k124 * 4) = some (iV .i64 x175.Agent) := partCV_enc hx176 (f := 0) (by simp)
    have f178 : partCV Tryz.prog 54 (encL a0.Frames) (k124 * 4 + 1) = some (.cell (sC x162.Sleep)) := partCV_enc hx161 (f := 1) (by simp)
    have f179 : partCV Tryz.prog 54 (encL a1.Frames) (k124 * 4 + 1) = some (.cell (sC x175.Sleep)) := partCV_enc hx176 (f := 1) (by simp)
    have F3 := an F2 (an f174 (an f177 (an f178 f179)))
    have F4 := an F3 hx176b
    refine goE F3 F4 ?_
    obtain ⟨g180, e152⟩ := guardO_some e152
    refine dsel_call (fun hg => at_r02_Ints (under_call g180 hg)) (fun hg => by (try simp at hg); (first | simp [hg, F3]); try rfl) (fun hg => by (try simp at hg); simp [hg, F3]) (by simp) ?_
    have f181 : partCV Tryz.prog 57 (encL a0.Frames) (k124 * 4 + 2) = some (.agg (eA x162.Tree)) := partCV_enc hx161 (f := 2) (by simp)
    have f182 : partCV Tryz.prog 57 (encL a1.Frames) (k124 * 4 + 2) = some (.agg (eA x175.Tree)) := partCV_enc hx176 (f := 2) (by simp)
    have F5 := an F3 (an f181 f182)
    have F6 := an F5 hx176b
    refine goE F5 F6 ?_
    obtain ⟨g183, e152⟩ := guardO_some e152
    refine dsel_call (fun hg => at_r33_Equal (under_call g183 hg)) (fun hg => by (try simp at hg); (first | simp [hg, F5]); try rfl) (fun hg => by (try simp at hg); simp [hg, F5]) (by simp) ?_
    refine goE F5 F6 ?_
    revert e152; refine cS F5 ?_ ?_ <;> intro h184 e152
    ·refine goE F5 F6 ?_
     obtain rfl := sj e152
     try dsimp only at e92
     obtain rfl := sj e92
     try dsimp only at hs
     refine hX95 _ _ (by simp) ?_
     refine goE F5 F6 ?_
     obtain rfl := sj hs
     exact hQ _ _ (rg F5 (Gh.refl _))
    ·refine goE F5 F6 ?_
     exact hL155 (q158, (k124 + 1)) _ _ (Gh.refl _) ⟨e152, hd163, pv F5, pv F5, pv F5, pv F5, pv F5, pg⟩ (by simp)
  ·obtain ⟨e92, n4_g⟩ := hp
   obtain rfl := sj e92
   try dsimp only at hs
   refine goG f0 f0 ?_
   obtain rfl := sj hs
   exact hQ _ _ (rg f0 (Gh.refl _))
end Go.Dc
end
section
set_option linter.all false
namespace Go.Dc.Pl
open Go Go.Hw Go.Dc
theorem ints_refl (l : List Int) : r02_Ints l l = some true := by
 have h := srch (L := r02_Ints_L1 l) (fun _ (_ : Int) => (none : Option Bool)) (fun _ => rfl) l 0 fun j x hx q => by
  rw [Nat.zero_add, r02_Ints_L1, hx, Option.bind_some, eqI_d, decide_eq_true rfl]; rfl
 have hn : ∀ (l : List Int) (k : Nat), first (fun _ (_ : Int) => (none : Option Bool)) l k = none := fun l => by
  induction l with
  | nil => intro k; rfl
  | cons x l ih => intro k; rw [first_cons]; exact ih _
 rw [r02_Ints, h, hn, eqI_d, decide_eq_true rfl]; rfl
theorem noneF {α β : Type} : ∀ (l : List α) (k : Nat), first (fun _ _ => (none : Option β)) l k = none
 | [], _ => rfl
 | x :: l, k => by rw [first_cons]; exact noneF l _
theorem tree_refl : ∀ (m f : Nat) (t : Tree), m + 1 <= f -> shal m t.Kids = true -> r33_Equal f t t = some true := by
 intro m
 induction m with
 | zero =>
  intro f t hf hs
  obtain ⟨f, rfl⟩ : ∃ k, f = k + 1 := ⟨f - 1, by omega⟩
  simp only [shal, decide_eq_true_eq, List.length_eq_zero_iff] at hs
  show r33_Equal_B (r33_Equal f) t t = _
  unfold r33_Equal_B
  rw [eqI_d, eqI_d, decide_eq_true rfl, decide_eq_true rfl, hs]; rfl
 | succ m ih =>
  intro f t hf hs
  obtain ⟨f, rfl⟩ : ∃ k, f = k + 1 := ⟨f - 1, by omega⟩
  rw [shal, List.all_eq_true] at hs
  show r33_Equal_B (r33_Equal f) t t = _
  unfold r33_Equal_B
  have h := srch (L := r33_Equal_L1 t (r33_Equal f)) (fun _ (_ : Tree) => (none : Option Bool)) (fun _ => rfl) t.Kids 0 fun j x hx q => by
   have h1 := hs x (List.mem_of_getElem? hx)
   rw [Bool.and_eq_true] at h1
   rw [Nat.zero_add, r33_Equal_L1, hx, Option.bind_some, ih f x (by omega) h1.2]; rfl
  rw [h, noneF, eqI_d, eqI_d, decide_eq_true rfl, decide_eq_true rfl]; rfl
theorem same_refl {f : Nat} {s : Snapshot} (hf : 600 <= f) (hs : ∀ x ∈ s.Frames, shal 512 x.Tree.Kids = true) : r49_Same f s s = some true := by
 have h := srch (L := r49_Same_L1 f s) (fun _ (_ : Frame) => (none : Option Bool)) (fun _ => rfl) s.Frames 0 fun j x hx q => by
  rw [Nat.zero_add, r49_Same_L1, hx, Option.bind_some, ints_refl, tree_refl 512 f x.Tree (by omega) (hs x (List.mem_of_getElem? hx)), eqI_d, decide_eq_true rfl]; rfl
 rw [r49_Same, h, noneF, eqI_d, eqI_d, eqI_d, decide_eq_true rfl, decide_eq_true rfl, decide_eq_true rfl]
 cases s.Done <;> rfl
theorem valid_shal {s : Snapshot} (h : validS s = true) : ∀ x ∈ s.Frames, validF x = true /\ shal 512 x.Tree.Kids = true := by
 unfold validS at h
 simp only [Bool.and_eq_true] at h
 intro x hx
 have hv := List.all_eq_true.1 h.2.2 x hx
 refine ⟨hv, ?_⟩
 unfold validF treeOk at hv
 simp only [Bool.and_eq_true] at hv
 exact hv.2.2.2.1
end Go.Dc.Pl
end
section
set_option linter.all false
namespace Go.Dc
open Go Go.Hw Go.Proofs
set_option maxRecDepth 100000
def r49_Reader_count (fuelN : Nat) (a0 : R49Reader) : Option (Int × R49Reader) :=
 cond (!(eqI a0.E 0)) (some (0, a0)) (Option.bind (r06_Uint fuelN a0.B) (fun y2 => some (y2.1, ({ B := y2.2.1, E := y2.2.2 } : R49Reader))))
set_option maxHeartbeats 2000000 in
theorem at_r49_Reader_count {fuelN : Nat} {a0 : R49Reader} {r : Int × R49Reader} (hs : r49_Reader_count fuelN a0 = some r) : CAt Tryz.prog 38 [.cell (.ref (.a 0) 0)] [.cells (eA a0)] (.ret (iV .i64 r.1)) [(.a 0, .cells (eA r.2))] := by
 refine at_bound (by kernel_rfl) fun hb => ?_
 refine at_code mixed Tryz.func38 (by kernel_rfl) rfl (by kernel_rfl) rfl fun Q hQ => ?_
 rw [r49_Reader_count] at hs
 refine goR f0 ?_
 revert hs; refine cS f0 ?_ ?_ <;> intro h1 hs
 ·refine goR f0 ?_
  obtain rfl := sj hs
  refine hQ _ _ (ret2g _ (Gh.refl _) (by simp [St.frz, St.pur]; rfl) (by first | rfl | (simp [St.frz, St.pur]; done) | (rw [if_pos (by first | omega | (simp; omega))]; simp [St.frz, St.pur]; first | omega | exact List.take_of_length_le (by simp; omega) | skip)) (pv f0))
 ·refine goR f0 ?_
  revert hs; refine bK fun y2 hx3 hs => ?_
  refine cP f0 (at_r06_Uint hx3) ?_
  refine goR f0 ?_
  obtain rfl := sj hs
  refine hQ _ _ (ret2g _ (Gh.refl _) (by simp [St.frz, St.pur]; rfl) (by first | rfl | (simp [St.frz, St.pur]; done) | (rw [if_pos (by first | omega | (simp; omega))]; simp [St.frz, St.pur]; first | omega | exact List.take_of_length_le (by simp; omega) | skip)) (pv f0))
end Go.Dc
end
section
set_option linter.all false
namespace Go.Dc
open Go Go.Hw Go.Proofs
set_option maxRecDepth 100000
def r49_Reader_number (fuelN : Nat) (a0 : R49Reader) : Option (Int × R49Reader) :=
 cond (!(eqI a0.E 0)) (some (0, a0)) (Option.bind (r06_Int fuelN a0.B) (fun y2 => some (y2.1, ({ B := y2.2.1, E := y2.2.2 } : R49Reader))))
set_option maxHeartbeats 2000000 in
theorem at_r49_Reader_number {fuelN : Nat} {a0 : R49Reader} {r : Int × R49Reader} (hs : r49_Reader_number fuelN a0 = some r) : CAt Tryz.prog 39 [.cell (.ref (.a 0) 0)] [.cells (eA a0)] (.ret (iV .i64 r.1)) [(.a 0, .cells (eA r.2))] := by
 refine at_bound (by kernel_rfl) fun hb => ?_
 refine at_code mixed Tryz.func39 (by kernel_rfl) rfl (by kernel_rfl) rfl fun Q hQ => ?_
 rw [r49_Reader_number] at hs
 refine goR f0 ?_
 revert hs; refine cS f0 ?_ ?_ <;> intro h1 hs
 ·refine goR f0 ?_
  obtain rfl := sj hs
  refine hQ _ _ (ret2g _ (Gh.refl _) (by simp [St.frz, St.pur]; rfl) (by first | rfl | (simp [St.frz, St.pur]; done) | (rw [if_pos (by first | omega | (simp; omega))]; simp [St.frz, St.pur]; first | omega | exact List.take_of_length_le (by simp; omega) | skip)) (pv f0))
 ·refine goR f0 ?_
  revert hs; refine bK fun y2 hx3 hs => ?_
  refine cP f0 (at_r06_Int hx3) ?_
  refine goR f0 ?_
  obtain rfl := sj hs
  refine hQ _ _ (ret2g _ (Gh.refl _) (by simp [St.frz, St.pur]; rfl) (by first | rfl | (simp [St.frz, St.pur]; done) | (rw [if_pos (by first | omega | (simp; omega))]; simp [St.frz, St.pur]; first | omega | exact List.take_of_length_le (by simp; omega) | skip)) (pv f0))
end Go.Dc
end
section
set_option linter.all false
namespace Go.Dc
open Go Go.Hw Go.Proofs
set_option maxRecDepth 100000
def r49_Reader_list (fuelN : Nat) (a0 : R49Reader) : Option ((List Int) × R49Reader) :=
 cond (!(eqI a0.E 0)) (some ([], a0)) (Option.bind (r06_Ints fuelN a0.B 2048) (fun y2 => some (y2.1, ({ B := y2.2.1, E := y2.2.2 } : R49Reader))))
set_option maxHeartbeats 2000000 in
theorem at_r49_Reader_list {fuelN : Nat} {a0 : R49Reader} {r : (List Int) × R49Reader} (hs : r49_Reader_list fuelN a0 = some r) : CAt Tryz.prog 40 [.cell (.ref (.a 0) 0)] [.cells (eA a0)] (.ret (.cell (sC r.1))) [(.a 0, .cells (eA r.2))] := by
 refine at_bound (by kernel_rfl) fun hb => ?_
 refine at_code mixed Tryz.func40 (by kernel_rfl) rfl (by kernel_rfl) rfl fun Q hQ => ?_
 rw [r49_Reader_list] at hs
 refine goR f0 ?_
 revert hs; refine cS f0 ?_ ?_ <;> intro h1 hs
 ·refine goR f0 ?_
  obtain rfl := sj hs
  refine hQ _ _ (ret2g _ (Gh.unz _) (by simp [St.frz, St.pur]; rfl) (by first | rfl | (simp [St.frz, St.pur]; done) | (rw [if_pos (by first | omega | (simp; omega))]; simp [St.frz, St.pur]; first | omega | exact List.take_of_length_le (by simp; omega) | skip)) (pv f0))
 ·refine goR f0 ?_
  revert hs; refine bK fun y2 hx3 hs => ?_
  refine cP f0 (at_r06_Ints hx3) ?_
  refine goR f0 ?_
  obtain rfl := sj hs
  refine hQ _ _ (ret2g _ (Gh.refl _) (by simp [St.frz, St.pur]; rfl) (by first | rfl | (simp [St.frz, St.pur]; done) | (rw [if_pos (by first | omega | (simp; omega))]; simp [St.frz, St.pur]; first | omega | exact List.take_of_length_le (by simp; omega) | skip)) (pv f0))
end Go.Dc
end
section
set_option linter.all false
namespace Go.Dc
open Go Go.Hw Go.Proofs
set_option maxRecDepth 100000
def r49_Reader_tree_L1 (fuelN : Nat) (a2 : Int) (y1 : Int × R49Reader) (rF41z : R49Reader -> Int -> Int -> Option (Tree × R49Reader)) : Nat -> Int -> (List UInt8) -> Int -> (List Tree) -> Option ((List UInt8) × Int × (List Tree))
 | 0, _, _, _, _ => none
 | q128 + 1, i104, l105, i106, l107 => cond (andB (ltI i104 y1.1) (eqI i106 0)) (Option.bind (r49_Reader_number fuelN ({ B := l105, E := i106 } : R49Reader)) (fun y133 => Option.bind (rF41z y133.2 y133.1 (IntKind.i64.wrap (a2 - 1))) (fun y135 => Option.bind (some ([y135.1])) (fun l137 => guardO (limB 32 (l107.length + l137.length)) (Option.bind (some (l107 ++ l137)) (fun l140 => r49_Reader_tree_L1 fuelN a2 y1 rF41z q128 (IntKind.i64.wrap (i104 + 1)) y135.2.B y135.2.E l140)))))) (some ((l105, i106, l107)))
def r49_Reader_tree_B (rF41z : R49Reader -> Int -> Int -> Option (Tree × R49Reader)) (fuelN : Nat) (a0 : R49Reader) (a1 : Int) (a2 : Int) : Option (Tree × R49Reader) :=
 Option.bind (r49_Reader_count fuelN a0) (fun y1 => Option.bind (α := Int) (cond (andB (andB (ltI 0 y1.1) (eqI a2 0)) (eqI y1.2.E 0)) (some (3)) (some (y1.2.E))) (fun i4 => Option.bind (α := (List UInt8) × Int × (List Tree)) (Option.bind (r49_Reader_tree_L1 fuelN a2 y1 rF41z fuelN 0 y1.2.B i4 []) (fun o => match o with | (l119, i120, l121) => some ((l119, i120, l121)))) (fun o => match o with | (l73, i74, l75) => some (({ Agent := a1, Kids := l75 } : Tree), ({ B := l73, E := i74 } : R49Reader)))))
def r49_Reader_tree : Nat -> R49Reader -> Int -> Int -> Option (Tree × R49Reader)
 | 0 => fun _ _ _ => none
 | fuelN + 1 => fun a0 a1 a2 => r49_Reader_tree_B (r49_Reader_tree fuelN) fuelN a0 a1 a2
set_option maxHeartbeats 2000000 in
theorem at_r49_Reader_tree_B {rF41z : R49Reader -> Int -> Int -> Option (Tree × R49Reader)} (ihrF41z : ∀ (a0 : R49Reader) (a1 : Int) (a2 : Int) (r : Tree × R49Reader), rF41z a0 a1 a2 = some r -> CAt Tryz.prog 41 [.cell (.ref (.a 0) 0), iV .i64 a1, iV .i64 a2] [.cells (eA a0)] (.ret (.agg (eA r.1))) [(.a 0, .cells (eA r.2))]) {fuelN : Nat} {a0 : R49Reader} {a1 : Int} {a2 : Int} {r : Tree × R49Reader} (hs : r49_Reader_tree_B rF41z fuelN a0 a1 a2 = some r) : CAt Tryz.prog 41 [.cell (.ref (.a 0) 0), iV .i64 a1, iV .i64 a2] [.cells (eA a0)] (.ret (.agg (eA r.1))) [(.a 0, .cells (eA r.2))] := by
 refine at_bound (by kernel_rfl) fun hb => ?_
 refine at_code mixed Tryz.func41 (by kernel_rfl) rfl (by kernel_rfl) rfl fun Q hQ => ?_
 rw [r49_Reader_tree_B] at hs
 refine goR f0 ?_
 revert hs; refine bK fun y1 hx2 hs => ?_
 refine cB f0 (at_r49_Reader_count hx2) [.a 0] ?_
 refine goG2 f0 f0 ?_
 revert hs; refine bK fun o6 e5 hs => ?_
 refine awp_cutK (fun (v : Int) (σ : St) => some (v) = some o6 /\ σ.env 0 = .cell (.ref (.a 0) 0) /\ σ.env 2 = iV .i64 a2 /\ σ.env 6 = .cell (.ref (.o 1 0 0) 0) /\ σ.env 7 = .cell (.ref (.o 2 2 0) 0) /\ σ.env 8 = iV .i64 y1.1 /\ σ.hp (.a 0) = some (.cells [sC y1.2.B, nC v]) /\ σ.hp (.o 1 0 0) = some (.cells [nC 0, .z]) /\ σ.hp (.o 2 2 0) = some (.cells [nC a1, .z]) /\ 4 <= σ.gen) (by rfl) (fun Q hK7 hX8 => ?_) (fun i4 σ1 hp => ?_)
 ·refine goG f0 f0 ?_
  revert e5; refine cS f0 ?_ ?_ <;> intro h9 e5
  ·refine goG f0 f0 ?_
   exact hK7 3 _ _ (Gh.refl _) ⟨e5, pv f0, pv f0, pv f0, pv f0, pv f0, pv f0, pv f0, pv f0, pg⟩
  ·refine goG f0 f0 ?_
   exact hK7 y1.2.E _ _ (Gh.refl _) ⟨e5, pv f0, pv f0, pv f0, pv f0, pv f0, pv f0, pv f0, pv f0, pg⟩
 ·obtain ⟨e5, h2_0, h2_2, h2_6, h2_7, h2_8, g2_0, g2_1, g2_2, n2_g⟩ := hp
  obtain rfl := sj e5
  try dsimp only at hs
  have n2_0 : ¬ (σ1.gen = 0) := by omega
  have n2_1 : ¬ (σ1.gen = 1) := by omega
  have F1 := an h2_0 (an h2_2 (an h2_6 (an h2_7 (an h2_8 (an g2_0 (an g2_1 (an g2_2 (an n2_0 n2_1))))))))
  refine goG2 F1 F1 ?_
  revert hs; refine bK fun o77 e76 hs => ?_
  refine awp_cutK (fun (v : (List UInt8) × Int × (List Tree)) (σ : St) => some (v) = some o77 /\ σ.env 6 = .cell (.ref (.o 1 0 0) 0) /\ σ.env 7 = .cell (.ref (.o 2 2 0) 0) /\ σ.hp (.a 0) = some (.cells [sC v.1, nC v.2.1]) /\ σ.hp (.o 1 0 0) = some (.cells [nC 0, .z]) /\ σ.hp (.l 1) = some (.pure (encL v.2.2)) /\ σ.hp (.o 2 2 0) = some (.cells [nC a1, .sl (.l 1) 0 2 v.2.2.length]) /\ (σ1.gen + 1) <= σ.gen) (by rfl) (fun Q hK78 hX79 => ?_) (fun v σ5 hp => ?_)
  ·refine goG F1 F1 ?_
   revert e76; refine bK fun o123 e122 e76 => ?_
   refine awp_loopW (fun (v : Nat × Int × (List UInt8) × Int × (List Tree)) (σ : St) => r49_Reader_tree_L1 fuelN a2 y1 rF41z v.1 v.2.1 v.2.2.1 v.2.2.2.1 v.2.2.2.2 = some o123 /\ σ.env 0 = .cell (.ref (.a 0) 0) /\ σ.env 2 = iV .i64 a2 /\ σ.env 6 = .cell (.ref (.o 1 0 0) 0) /\ σ.env 7 = .cell (.ref (.o 2 2 0) 0) /\ σ.env 8 = iV .i64 y1.1 /\ σ.env 9 = iV .i64 v.2.1 /\ σ.hp (.a 0) = some (.cells [sC v.2.2.1, nC v.2.2.2.1]) /\ σ.hp (.o 1 0 0) = some (.cells [nC 0, .z]) /\ σ.hp (.l 4) = some (.pure (encL v.2.2.2.2)) /\ σ.hp (.o 2 2 0) = some (.cells [nC a1, .sl (.l 4) 0 2 v.2.2.2.2.length]) /\ (σ1.gen + 1) <= σ.gen) (fun v => v.1) _ (Gh.voidB _ (.l 4) (.o 2 2 0) 1 2 rfl (by simp [F1]; rfl) (by first | rfl | simp) (by simp)) (fuelN, 0, y1.2.B, i4, []) ⟨e122, pv F1, pv F1, pv F1, pv F1, pv F1, pv F1, pv F1, pv F1, pv F1, pv F1, pg⟩ fun v σ8 hp L124 hL125 => ?_
   obtain ⟨q127, i104, l105, i106, l107⟩ := v
   dsimp only at hp hL125
   obtain ⟨e122, h7_0, h7_2, h7_6, h7_7, h7_8, h7_9, g7_0, g7_1, g7_2, g7_3, n7_g⟩ := hp
   have n7_0 : ¬ (σ8.gen = 0) := by omega
   have n7_1 : ¬ (σ8.gen = 1) := by omega
   rcases q127 with _ | q128
   ·rw [r49_Reader_tree_L1] at e122; cases e122
   ·rw [r49_Reader_tree_L1] at e122; try dsimp only at e122
    have F2 := an h7_0 (an h7_2 (an h7_6 (an h7_7 (an h7_8 (an h7_9 (an g7_0 (an g7_1 (an g7_2 (an g7_3 (an n7_0 n7_1))))))))))
    refine goG F2 F2 ?_
    revert e122; refine cS F2 ?_ ?_ <;> intro h132 e122
    ·refine goG F2 F2 ?_
     revert e122; refine bK fun y133 hx134 e122 => ?_
     refine cB F2 (at_r49_Reader_number hx134) [.a 0] ?_
     refine goG F2 F2 ?_
     revert e122; refine bK fun y135 hx136 e122 => ?_
     refine cB F2 (ihrF41z _ _ _ _ hx136) [.a 0] ?_
     revert e122; refine lK fun l137 hx138 e122 => ?_
     have hx138n : l137.length = 1 := by rw [hx138]; rfl
     obtain ⟨g139, e122⟩ := guardO_some e122
     have g139 := limB_t g139
     obtain ⟨g139a, g139b⟩ := g139
     revert e122; refine lK fun l140 hx141 e122 => ?_
     have hx141n : l140.length = (l107.length + l137.length) := by rw [hx141]; simp
     have hx141e : encL l140 = encL l107 ++ encL l137 := by rw [hx141]; simp
     have F3 := an F2 (an hx138 (an hx141n hx141e))
     refine goG F3 F3 ?_
     have f142 : (encL l140).take (l140.length * 2) = encL l140 := encL_takeN _ (by simp)
     try simp [F3] at f142
     have f142l : l140.length * 2 <= (encL l140).length := by rw [encL_length]; simp
     try simp [F3] at f142l
     have F4 := an F3 (an f142 f142l)
     exact hL125 (q128, IntKind.i64.wrap (i104 + 1), y135.2.B, y135.2.E, l140) _ _ (Gh.ren _ (.o (σ8.gen + 4) 4 0) (.l 4) (by simp) rfl rfl) ⟨e122, pv F4, pv F4, pv F4, pv F4, pv F4, pv F4, pv F4, pv F4, pv F4, pv F4, pg⟩ (by omega)
    ·refine goG F2 F2 ?_
     obtain rfl := sj e122
     try dsimp only at e76
     exact hK78 (l105, i106, l107) _ _ (Gh.ren _ (.l 4) (.l 1) (by simp) rfl rfl) ⟨e76, pv F2, pv F2, pv F2, pv F2, pv F2, pv F2, pg⟩
  ·obtain ⟨l73, i74, l75⟩ := v
   dsimp only at hp
   obtain ⟨e76, h6_6, h6_7, g6_0, g6_1, g6_2, g6_3, n6_g⟩ := hp
   obtain rfl := sj e76
   try dsimp only at hs
   have n6_0 : ¬ (σ5.gen = 0) := by omega
   have n6_1 : ¬ (σ5.gen = 1) := by omega
   have F5 := an h6_6 (an h6_7 (an g6_0 (an g6_1 (an g6_2 (an g6_3 (an n6_0 n6_1))))))
   refine goG F5 F5 ?_
   obtain rfl := sj hs
   refine hQ _ _ (ret2g _ (Gh.frz _ (.l 1)) (by simp [St.frz, St.pur, F5]; rfl) (by first | rfl | (simp [St.frz, St.pur, F5]; done) | (rw [if_pos (by first | omega | (simp; omega))]; simp [St.frz, St.pur, F5]; first | omega | exact List.take_of_length_le (by simp; omega) | skip)) (pv F5))
theorem at_r49_Reader_tree : ∀ {fuelN : Nat} {a0 : R49Reader} {a1 : Int} {a2 : Int} {r : Tree × R49Reader} (hs : r49_Reader_tree fuelN a0 a1 a2 = some r), CAt Tryz.prog 41 [.cell (.ref (.a 0) 0), iV .i64 a1, iV .i64 a2] [.cells (eA a0)] (.ret (.agg (eA r.1))) [(.a 0, .cells (eA r.2))]
 | 0, _, _, _, _, hs => by rw [r49_Reader_tree] at hs; cases hs
 | n + 1, _, _, _, _, hs => by
  rw [r49_Reader_tree] at hs
  exact at_r49_Reader_tree_B (fun _ _ _ _ h => at_r49_Reader_tree h) hs
end Go.Dc
end
section
set_option linter.all false
namespace Go.Dc
open Go Go.Hw Go.Proofs
set_option maxRecDepth 100000
def r49_Decode_L1 (fuelN : Nat) (y17 : Int × R49Reader) : Nat -> Int -> (List UInt8) -> Int -> (List Frame) -> Option ((List UInt8) × Int × (List Frame))
 | 0, _, _, _, _ => none
 | q158 + 1, i132, l133, i134, l135 => cond (andB (ltI i132 y17.1) (eqI i134 0)) (Option.bind (r49_Reader_number fuelN ({ B := l133, E := i134 } : R49Reader)) (fun y163 => Option.bind (r49_Reader_list fuelN y163.2) (fun y165 => Option.bind (r49_Reader_tree fuelN y165.2 0 512) (fun y167 => Option.bind (some ([({ Agent := y163.1, Sleep := y165.1, Tree := y167.1 } : Frame)])) (fun l169 => guardO (limB 64 (l135.length + l169.length)) (Option.bind (some (l135 ++ l169)) (fun l172 => r49_Decode_L1 fuelN y17 q158 (IntKind.i64.wrap (i132 + 1)) y167.2.B y167.2.E l172))))))) (some ((l133, i134, l135)))
def r49_Decode (fuelN : Nat) (a0 : Program) (a1 : Config) (a2 : List UInt8) : Option (Snapshot × Int) :=
 Option.bind (r49_Digest fuelN a0 a1) (fun y1 => cond (!(eqI y1.2 0)) (some (({ Frames := [], Done := false, Count := 0, Blocked := 0 } : Snapshot), y1.2)) (Option.bind (r06_Open fuelN a2) (fun y4 => cond (!(eqI y4.2.2 0)) (some (({ Frames := [], Done := false, Count := 0, Blocked := 0 } : Snapshot), y4.2.2)) (cond (ltI 0 ((y4.2.1.length : Nat) : Int)) (some (({ Frames := [], Done := false, Count := 0, Blocked := 0 } : Snapshot), 3)) (Option.bind (r49_Reader_count fuelN ({ B := y4.1, E := 0 } : R49Reader)) (fun y8 => cond (andB (eqI y8.2.E 0) (!(eqI y8.1 y1.1))) (some (({ Frames := [], Done := false, Count := 0, Blocked := 0 } : Snapshot), 30)) (Option.bind (r49_Reader_count fuelN y8.2) (fun y11 => Option.bind (r49_Reader_count fuelN y11.2) (fun y13 => Option.bind (r49_Reader_count fuelN y13.2) (fun y15 => Option.bind (r49_Reader_count fuelN y15.2) (fun y17 => Option.bind (α := Int) (cond (andB (ltI 512 y17.1) (eqI y17.2.E 0)) (some (3)) (some (y17.2.E))) (fun i20 => Option.bind (α := (List UInt8) × Int × (List Frame)) (Option.bind (r49_Decode_L1 fuelN y17 fuelN 0 y17.2.B i20 []) (fun o => match o with | (l149, i150, l151) => some ((l149, i150, l151)))) (fun o => match o with | (l97, i98, l99) => cond (eqI i98 0) (cond (!(orB (ltI 1 y11.1) (ltI 0 ((l97.length : Nat) : Int)))) (Option.bind (r49_Valid fuelN ({ Frames := l99, Done := eqI y11.1 1, Count := y13.1, Blocked := y15.1 } : Snapshot)) (fun y177 => cond (!y177) (cond (!(eqI 3 0)) (some (({ Frames := [], Done := false, Count := 0, Blocked := 0 } : Snapshot), 3)) (some (({ Frames := l99, Done := eqI y11.1 1, Count := y13.1, Blocked := y15.1 } : Snapshot), 0))) (some (({ Frames := l99, Done := eqI y11.1 1, Count := y13.1, Blocked := y15.1 } : Snapshot), 0)))) (cond (!(eqI 3 0)) (some (({ Frames := [], Done := false, Count := 0, Blocked := 0 } : Snapshot), 3)) (some (({ Frames := l99, Done := eqI y11.1 1, Count := y13.1, Blocked := y15.1 } : Snapshot), 0)))) (some (({ Frames := [], Done := false, Count := 0, Blocked := 0 } : Snapshot), i98)))))))))))))))
set_option maxHeartbeats 2000000 in
theorem at_r49_Decode {fuelN : Nat} {a0 : Program} {a1 : Config} {a2 : List UInt8} {r : Snapshot × Int} (hs : r49_Decode fuelN a0 a1 a2 = some r) : At Tryz.prog 15 [.agg (eA a0), .agg (eA a1), .cell (sC a2)] (.tup [.agg (eA r.1), iV .i64 r.2]) := by
 refine at_bound (by kernel_rfl) fun hb => ?_
 have hb1 : LenOk (.sl a0.Vars.length (encL a0.Vars)) := lkc hb
 have hb2 : LenOk (.sl a0.Mutexes.length (encL a0.Mutexes)) := lkc hb
 have hb3 : LenOk (.sl a0.Conds.length (encL a0.Conds)) := lkc hb
 have hb4 : LenOk (.sl a0.Funcs.length (encL a0.Funcs)) := lkc hb
 have hb5 : LenOk (.sl a0.Threads.length (encL a0.Threads)) := lkc hb
 have hb6 : LenOk (.sl a2.length (encL a2)) := lkc hb
 refine at_code mixed Tryz.func15 (by kernel_rfl) rfl (by kernel_rfl) rfl fun Q hQ => ?_
 rw [r49_Decode] at hs
 refine goR f0 ?_
 revert hs; refine bK fun y1 hx2 hs => ?_
 refine cP f0 (at_r49_Digest hx2) ?_
 refine goR f0 ?_
 revert hs; refine cS f0 ?_ ?_ <;> intro h3 hs
 ·refine goR f0 ?_
  obtain rfl := sj hs
  exact hQ _ _ (rg f0 (Gh.unz _))
 ·refine goR f0 ?_
  revert hs; refine bK fun y4 hx5 hs => ?_
  refine cP f0 (at_r06_Open hx5) ?_
  refine goR f0 ?_
  revert hs; refine cS f0 ?_ ?_ <;> intro h6 hs
  ·refine goR f0 ?_
   obtain rfl := sj hs
   exact hQ _ _ (rg f0 (Gh.unz _))
  ·refine goR f0 ?_
   revert hs; refine cS f0 ?_ ?_ <;> intro h7 hs
   ·refine goR f0 ?_
    obtain rfl := sj hs
    exact hQ _ _ (rg f0 (Gh.unz _))
   ·refine goR f0 ?_
    revert hs; refine bK fun y8 hx9 hs => ?_
    refine cB f0 (at_r49_Reader_count hx9) [.o 7 2 0] ?_
    refine goG f0 f0 ?_
    revert hs; refine cS f0 ?_ ?_ <;> intro h10 hs
    ·refine goG f0 f0 ?_
     obtain rfl := sj hs
     exact hQ _ _ (rg f0 (Gh.unz _))
    ·refine goG f0 f0 ?_
     revert hs; refine bK fun y11 hx12 hs => ?_
     refine cB f0 (at_r49_Reader_count hx12) [.o 7 2 0] ?_
     refine goG f0 f0 ?_
     revert hs; refine bK fun y13 hx14 hs => ?_
     refine cB f0 (at_r49_Reader_count hx14) [.o 7 2 0] ?_
     refine goG f0 f0 ?_
     revert hs; refine bK fun y15 hx16 hs => ?_
     refine cB f0 (at_r49_Reader_count hx16) [.o 7 2 0] ?_
     refine goG f0 f0 ?_
     revert hs; refine bK fun y17 hx18 hs => ?_
     refine cB f0 (at_r49_Reader_count hx18) [.o 7 2 0] ?_
     refine goG2 f0 f0 ?_
     revert hs; refine bK fun o22 e21 hs => ?_
     refine awp_cutK (fun (v : Int) (σ : St) => some (v) = some o22 /\ σ.env 6 = .cell (.ref (.o 1 2 0) 0) /\ σ.env 12 = .cell (.ref (.o 7 2 0) 0) /\ σ.env 14 = iV .i64 y11.1 /\ σ.env 15 = .cell (.ref (.o 11 7 0) 0) /\ σ.env 16 = iV .i64 y17.1 /\ σ.hp (.o 1 2 0) = some (.cells [.z, bC false, nC 0, nC 0]) /\ σ.hp (.o 7 2 0) = some (.cells [sC y17.2.B, nC v]) /\ σ.hp (.o 11 7 0) = some (.cells [.z, bC (eqI y11.1 1), nC y13.1, nC y15.1]) /\ 13 <= σ.gen) (by rfl) (fun Q hK23 hX24 => ?_) (fun i20 σ1 hp => ?_)
     ·refine goG f0 f0 ?_
      revert e21; refine cS f0 ?_ ?_ <;> intro h25 e21
      ·refine goG f0 f0 ?_
       exact hK23 3 _ _ (Gh.refl _) ⟨e21, pv f0, pv f0, pv f0, pv f0, pv f0, pv f0, pv f0, pv f0, pg⟩
      ·refine goG f0 f0 ?_
       exact hK23 y17.2.E _ _ (Gh.refl _) ⟨e21, pv f0, pv f0, pv f0, pv f0, pv f0, pv f0, pv f0, pv f0, pg⟩
     ·obtain ⟨e21, h2_6, h2_12, h2_14, h2_15, h2_16, g2_0, g2_1, g2_2, n2_g⟩ := hp
      obtain rfl := sj e21
      try dsimp only at hs
      have n2_0 : ¬ (σ1.gen = 0) := by omega
      have n2_1 : ¬ (σ1.gen = 1) := by omega
      have n2_2 : ¬ (σ1.gen = 2) := by omega
      have n2_3 : ¬ (σ1.gen = 3) := by omega
      have n2_4 : ¬ (σ1.gen = 4) := by omega
      have n2_5 : ¬ (σ1.gen = 5) := by omega
      have n2_6 : ¬ (σ1.gen = 6) := by omega
      have n2_7 : ¬ (σ1.gen = 7) := by omega
      have n2_8 : ¬ (σ1.gen = 8) := by omega
      have n2_9 : ¬ (σ1.gen = 9) := by omega
      have n2_10 : ¬ (σ1.gen = 10) := by omega
      have F1 := an h2_6 (an h2_12 (an h2_14 (an h2_15 (an h2_16 (an g2_0 (an g2_1 (an g2_2 (an n2_0 (an n2_1 (an n2_2 (an n2_3 (an n2_4 (an n2_5 (an n2_6 (an n2_7 (an n2_8 (an n2_9 n2_10)))))))))))))))))
      refine goG2 F1 F1 ?_
      revert hs; refine bK fun o101 e100 hs => ?_
      refine awp_cutK (fun (v : (List UInt8) × Int × (List Frame)) (σ : St) => some (v) = some o101 /\ σ.env 6 = .cell (.ref (.o 1 2 0) 0) /\ σ.env 12 = .cell (.ref (.o 7 2 0) 0) /\ σ.env 14 = iV .i64 y11.1 /\ σ.env 15 = .cell (.ref (.o 11 7 0) 0) /\ σ.hp (.o 1 2 0) = some (.cells [.z, bC false, nC 0, nC 0]) /\ σ.hp (.o 7 2 0) = some (.cells [sC v.1, nC v.2.1]) /\ σ.hp (.l 1) = some (.pure (encL v.2.2)) /\ σ.hp (.o 11 7 0) = some (.cells [.sl (.l 1) 0 4 v.2.2.length, bC (eqI y11.1 1), nC y13.1, nC y15.1]) /\ (σ1.gen + 1) <= σ.gen) (by rfl) (fun Q hK102 hX103 => ?_) (fun v σ5 hp => ?_)
      ·refine goG F1 F1 ?_
       revert e100; refine bK fun o153 e152 e100 => ?_
       refine awp_loopW (fun (v : Nat × Int × (List UInt8) × Int × (List Frame)) (σ : St) => r49_Decode_L1 fuelN y17 v.1 v.2.1 v.2.2.1 v.2.2.2.1 v.2.2.2.2 = some o153 /\ σ.env 6 = .cell (.ref (.o 1 2 0) 0) /\ σ.env 12 = .cell (.ref (.o 7 2 0) 0) /\ σ.env 14 = iV .i64 y11.1 /\ σ.env 15 = .cell (.ref (.o 11 7 0) 0) /\ σ.env 16 = iV .i64 y17.1 /\ σ.env 17 = iV .i64 v.2.1 /\ σ.hp (.o 1 2 0) = some (.cells [.z, bC false, nC 0, nC 0]) /\ σ.hp (.o 7 2 0) = some (.cells [sC v.2.2.1, nC v.2.2.2.1]) /\ σ.hp (.l 4) = some (.pure (encL v.2.2.2.2)) /\ σ.hp (.o 11 7 0) = some (.cells [.sl (.l 4) 0 4 v.2.2.2.2.length, bC (eqI y11.1 1), nC y13.1, nC y15.1]) /\ (σ1.gen + 1) <= σ.gen) (fun v => v.1) _ (Gh.voidB _ (.l 4) (.o 11 7 0) 0 4 rfl (by simp [F1]; rfl) (by first | rfl | simp) (by simp)) (fuelN, 0, y17.2.B, i20, []) ⟨e152, pv F1, pv F1, pv F1, pv F1, pv F1, pv F1, pv F1, pv F1, pv F1, pv F1, pg⟩ fun v σ8 hp L154 hL155 => ?_
       obtain ⟨q157, i132, l133, i134, l135⟩ := v
       dsimp only at hp hL155
       obtain ⟨e152, h7_6, h7_12, h7_14, h7_15, h7_16, h7_17, g7_0, g7_1, g7_2, g7_3, n7_g⟩ := hp
       have n7_0 : ¬ (σ8.gen = 0) := by omega
       have n7_1 : ¬ (σ8.gen = 1) := by omega
       have n7_2 : ¬ (σ8.gen = 2) := by omega
       have n7_3 : ¬ (σ8.gen = 3) := by omega
       have n7_4 : ¬ (σ8.gen = 4) := by omega
       have n7_5 : ¬ (σ8.gen = 5) := by omega
       have n7_6 : ¬ (σ8.gen = 6) := by omega
       have n7_7 : ¬ (σ8.gen = 7) := by omega
       have n7_8 : ¬ (σ8.gen = 8) := by omega
       have n7_9 : ¬ (σ8.gen = 9) := by omega
       have n7_10 : ¬ (σ8.gen = 10) := by omega
       rcases q157 with _ | q158
       ·rw [r49_Decode_L1] at e152; cases e152
       ·rw [r49_Decode_L1] at e152; try dsimp only at e152
        have F2 := an h7_6 (an h7_12 (an h7_14 (an h7_15 (an h7_16 (an h7_17 (an g7_0 (an g7_1 (an g7_2 (an g7_3 (an n7_0 (an n7_1 (an n7_2 (an n7_3 (an n7_4 (an n7_5 (an n7_6 (an n7_7 (an n7_8 (an n7_9 n7_10)))))))))))))))))))
        refine goG F2 F2 ?_
        revert e152; refine cS F2 ?_ ?_ <;> intro h162 e152
        ·refine goG F2 F2 ?_
         revert e152; refine bK fun y163 hx164 e152 => ?_
         refine cB F2 (at_r49_Reader_number hx164) [.o 7 2 0] ?_
         refine goG F2 F2 ?_
         revert e152; refine bK fun y165 hx166 e152 => ?_
         refine cB F2 (at_r49_Reader_list hx166) [.o 7 2 0] ?_
         refine goG F2 F2 ?_
         revert e152; refine bK fun y167 hx168 e152 => ?_
         refine cB F2 (at_r49_Reader_tree hx168) [.o 7 2 0] ?_
         revert e152; refine lK fun l169 hx170 e152 => ?_
         have hx170n : l169.length = 1 := by rw [hx170]; rfl
         obtain ⟨g171, e152⟩ := guardO_some e152
         have g171 := limB_t g171
         obtain ⟨g171a, g171b⟩ := g171
         revert e152; refine lK fun l172 hx173 e152 => ?_
         have hx173n : l172.length = (l135.length + l169.length) := by rw [hx173]; simp
         have hx173e : encL l172 = encL l135 ++ encL l169 := by rw [hx173]; simp
         have F3 := an F2 (an hx170 (an hx173n hx173e))
         refine goG F3 F3 ?_
         have f174 : (encL l172).take (l172.length * 4) = encL l172 := encL_takeN _ (by simp)
         try simp [F3] at f174
         have f174l : l172.length * 4 <= (encL l172).length := by rw [encL_length]; simp
         try simp [F3] at f174l
         have F4 := an F3 (an f174 f174l)
         exact hL155 (q158, IntKind.i64.wrap (i132 + 1), y167.2.B, y167.2.E, l172) _ _ (Gh.ren _ (.o (σ8.gen + 4) 4 0) (.l 4) (by simp) rfl rfl) ⟨e152, pv F4, pv F4, pv F4, pv F4, pv F4, pv F4, pv F4, pv F4, pv F4, pv F4, pg⟩ (by omega)
        ·refine goG F2 F2 ?_
         obtain rfl := sj e152
         try dsimp only at e100
         exact hK102 (l133, i134, l135) _ _ (Gh.ren _ (.l 4) (.l 1) (by simp) rfl rfl) ⟨e100, pv F2, pv F2, pv F2, pv F2, pv F2, pv F2, pv F2, pv F2, pg⟩
      ·obtain ⟨l97, i98, l99⟩ := v
       dsimp only at hp
       obtain ⟨e100, h6_6, h6_12, h6_14, h6_15, g6_0, g6_1, g6_2, g6_3, n6_g⟩ := hp
       obtain rfl := sj e100
       try dsimp only at hs
       have n6_0 : ¬ (σ5.gen = 0) := by omega
       have n6_1 : ¬ (σ5.gen = 1) := by omega
       have n6_2 : ¬ (σ5.gen = 2) := by omega
       have n6_3 : ¬ (σ5.gen = 3) := by omega
       have n6_4 : ¬ (σ5.gen = 4) := by omega
       have n6_5 : ¬ (σ5.gen = 5) := by omega
       have n6_6 : ¬ (σ5.gen = 6) := by omega
       have n6_7 : ¬ (σ5.gen = 7) := by omega
       have n6_8 : ¬ (σ5.gen = 8) := by omega
       have n6_9 : ¬ (σ5.gen = 9) := by omega
       have n6_10 : ¬ (σ5.gen = 10) := by omega
       have F5 := an h6_6 (an h6_12 (an h6_14 (an h6_15 (an g6_0 (an g6_1 (an g6_2 (an g6_3 (an n6_0 (an n6_1 (an n6_2 (an n6_3 (an n6_4 (an n6_5 (an n6_6 (an n6_7 (an n6_8 (an n6_9 n6_10)))))))))))))))))
       refine goG F5 F5 ?_
       rcases Bool.eq_false_or_eq_true (eqI i98 0) with h175 | h175
       ·replace hs := condT h175 hs
        have F6 := an F5 h175
        refine goG F6 F6 ?_
        refine gsel_split (fun h176 => ?_) (fun h176 => ?_)
        ·replace hs := condT h176 hs
         simp only [Bool.not_eq_true', Bool.not_eq_false', Bool.not_not] at h176
         have F7 := an F6 h176
         refine goG F7 F7 ?_
         revert hs; refine bK fun y177 hx178 hs => ?_
         refine cA F7 (at_r49_Valid hx178) ?_
         refine goG F7 F7 ?_
         revert hs; refine cS F7 ?_ ?_ <;> intro h179 hs
         ·refine goG F7 F7 ?_
          revert hs; refine cS F7 ?_ ?_ <;> intro h180 hs
          ·refine goE F7 F7 ?_
           obtain rfl := sj hs
           exact hQ _ _ (rg F7 (Gh.unz _))
          ·refine goG F7 F7 ?_
           obtain rfl := sj hs
           exact hQ _ _ (rg F7 (Gh.frz _ (.l 1)))
         ·refine goG F7 F7 ?_
          obtain rfl := sj hs
          exact hQ _ _ (rg F7 (Gh.frz _ (.l 1)))
        ·replace hs := condF h176 hs
         simp only [Bool.not_eq_true', Bool.not_eq_false', Bool.not_not] at h176
         have F8 := an F6 h176
         refine goG F8 F8 ?_
         revert hs; refine cS F8 ?_ ?_ <;> intro h181 hs
         ·refine goE F8 F8 ?_
          obtain rfl := sj hs
          exact hQ _ _ (rg F8 (Gh.unz _))
         ·refine goG F8 F8 ?_
          obtain rfl := sj hs
          exact hQ _ _ (rg F8 (Gh.frz _ (.l 1)))
       ·replace hs := condF h175 hs
        have F9 := an F5 h175
        refine goE F9 F9 ?_
        obtain rfl := sj hs
        exact hQ _ _ (rg F9 (Gh.unz _))
end Go.Dc
end
section
set_option linter.all false
namespace Go.Dc.Pl
open Go Go.Hw Go.Dc
def toR (r : Rd) : R49Reader := ⟨r.1, r.2⟩
theorem ref_rdU {f : Nat} {r : Rd} (hf : 12 <= f) (hd : r.1.length <= 1000000000000) : r49_Reader_count f (toR r) = some ((rdU r).1, toR (rdU r).2) := by
 rw [r49_Reader_count, eqI_d, rdU]
 by_cases h : r.2 = 0
 ·rw [if_pos h, show decide ((toR r).E = 0) = true from decide_eq_true h, show (toR r).B = r.1 from rfl, ref_uint hf hd]; rfl
 ·rw [if_neg h, show decide ((toR r).E = 0) = false from decide_eq_false h]; rfl
theorem ref_rdI {f : Nat} {r : Rd} (hf : 12 <= f) (hd : r.1.length <= 1000000000000) : r49_Reader_number f (toR r) = some ((rdI r).1, toR (rdI r).2) := by
 rw [r49_Reader_number, eqI_d, rdI]
 by_cases h : r.2 = 0
 ·rw [if_pos h, show decide ((toR r).E = 0) = true from decide_eq_true h, show (toR r).B = r.1 from rfl, ref_int hf hd]; rfl
 ·rw [if_neg h, show decide ((toR r).E = 0) = false from decide_eq_false h]; rfl
theorem ref_rdL {f : Nat} {r : Rd} (hf : 1000010 <= f) (hd : r.1.length <= 1000000000000) : r49_Reader_list f (toR r) = some ((rdL r).1, toR (rdL r).2) := by
 rw [r49_Reader_list, eqI_d, rdL]
 by_cases h : r.2 = 0
 ·rw [if_pos h, show decide ((toR r).E = 0) = true from decide_eq_true h, show (toR r).B = r.1 from rfl, ref_ints hf (by omega) hd]; rfl
 ·rw [if_neg h, show decide ((toR r).E = 0) = false from decide_eq_false h]; rfl
theorem ref_treeL {f : Nat} {a2 : Int} {y : Int × R49Reader} {rF : R49Reader -> Int -> Int -> Option (Tree × R49Reader)} {F : Rd -> List Tree × Rd} {B : Nat} (hB : B <= 1000000000) (hf : 12 <= f) (hy : 0 <= y.1)
  (hF : ∀ r, meas (F r).2 <= meas r /\ (F r).2.1.length <= r.1.length)
  (ih : ∀ (r : Rd) (g : Int), r.1.length <= B -> rF (toR r) g (IntKind.i64.wrap (a2 - 1)) = some (⟨g, (F r).1⟩, toR (F r).2)) :
  ∀ (q i : Nat) (r : Rd) (acc : List Tree), meas r < q -> r.1.length <= B -> acc.length <= i -> i + meas r <= B + 1 ->
   r49_Reader_tree_L1 f a2 y rF q (i : Int) r.1 r.2 acc = some ((trL F (y.1.toNat - i) r acc).2.1, (trL F (y.1.toNat - i) r acc).2.2, (trL F (y.1.toNat - i) r acc).1) := by
 intro q
 induction q with
 | zero => intro i r acc h; omega
 | succ q iq =>
  intro i r acc h1 h2 h3 h4
  rw [r49_Reader_tree_L1, andB_d, ltI_d, eqI_d, <- Bool.decide_and]
  by_cases hc : (i : Int) < y.1 /\ r.2 = 0
  ·have hm := meas_pos hc.2
   obtain ⟨k, hk⟩ : ∃ k, y.1.toNat - i = k + 1 := ⟨y.1.toNat - i - 1, by omega⟩
   have hI := rdI_meas r
   have hI3 := hI.2.2 hc.2
   have hF2 := hF (rdI r).2
   rw [decide_eq_true hc, cond_true, show ({ B := r.1, E := r.2 } : R49Reader) = toR r from rfl, ref_rdI hf (by omega)]
   simp only [Option.bind_some]
   rw [ih (rdI r).2 (rdI r).1 (by omega)]
   simp only [Option.bind_some]
   rw [show ([({ Agent := (rdI r).1, Kids := (F (rdI r).2).1 } : Tree)]).length = 1 from rfl, lim32 (by omega), guardO_t, wrapS (by omega)]
   have e3 := iq (i + 1) (F (rdI r).2).2 (acc ++ [⟨(rdI r).1, (F (rdI r).2).1⟩]) (by omega) (by omega) (by simp; omega) (by omega)
   rw [hk, trL, if_pos hc.2, show k = y.1.toNat - (i + 1) by omega]
   exact e3
  ·rw [decide_eq_false hc, cond_false]
   have : trL F (y.1.toNat - i) r acc = (acc, r) := by
    cases hr : y.1.toNat - i with
    | zero => rfl
    | succ k => rw [trL, if_neg (fun e => hc ⟨by omega, e⟩)]
   rw [this]
theorem ref_tree : ∀ (m f : Nat) (r : Rd) (g : Int), m <= 512 -> r.1.length + m + 20 <= f -> r.1.length <= 1000000000 -> r49_Reader_tree f (toR r) g (m : Int) = some (⟨g, (tr m r).1⟩, toR (tr m r).2) := by
 intro m
 induction m with
 | zero =>
  intro f r g hm hf hd
  obtain ⟨f, rfl⟩ : ∃ k, f = k + 1 := ⟨f - 1, by omega⟩
  have hU := rdU_meas r
  show r49_Reader_tree_B (r49_Reader_tree f) f (toR r) g ((0 : Nat) : Int) = _
  unfold r49_Reader_tree_B
  rw [ref_rdU (by omega) (by omega), Option.bind_some]
  have e0 : deep 0 (rdU r) = ((rdU r).2.1, if (rdU r).2.2 = 0 /\ 0 < (rdU r).1 then 3 else (rdU r).2.2) := by
   unfold deep
   by_cases h : (rdU r).2.2 = 0 /\ 0 < (rdU r).1
   ·rw [if_pos ⟨h.1, h.2, rfl⟩, if_pos h]
   ·rw [if_neg (fun x => h ⟨x.1, x.2.1⟩), if_neg h]
  have hstop : ∀ (q : Nat) (e : Int), (0 < (rdU r).1 -> e ≠ 0) -> r49_Reader_tree_L1 f ((0 : Nat) : Int) ((rdU r).1, toR (rdU r).2) (r49_Reader_tree f) (q + 1) 0 (rdU r).2.1 e [] = some ((rdU r).2.1, e, []) := by
   intro q e he
   rw [r49_Reader_tree_L1, andB_d, ltI_d, eqI_d, <- Bool.decide_and, decide_eq_false (fun h => he h.1 h.2)]; rfl
  have hfin : trL (fun r => (([] : List Tree), r)) (rdU r).1.toNat (deep 0 (rdU r)) [] = ([], deep 0 (rdU r)) := by
   cases hr : (rdU r).1.toNat with
   | zero => rfl
   | succ k =>
    rw [trL, if_neg]
    rw [e0]; simp only []
    by_cases h : (rdU r).2.2 = 0
    ·rw [if_pos ⟨h, by omega⟩]; decide
    ·rw [if_neg (fun x => h x.1)]; exact h
  rw [tr, hfin, e0]
  obtain ⟨q, hq⟩ : ∃ q, f = q + 1 := ⟨f - 1, by omega⟩
  have hcond : andB (andB (ltI 0 (rdU r).1) (eqI ((0 : Nat) : Int) 0)) (eqI (rdU r).2.2 0) = decide ((rdU r).2.2 = 0 /\ 0 < (rdU r).1) := by
   rw [andB_d, andB_d, show eqI ((0 : Nat) : Int) 0 = true from rfl, Bool.and_true, ltI_d, eqI_d, <- Bool.decide_and]; simp only [And.comm]
  show Option.bind (cond (andB (andB (ltI 0 (rdU r).1) (eqI ((0 : Nat) : Int) 0)) (eqI (rdU r).2.2 0)) _ _) _ = _
  rw [hcond]
  by_cases h : (rdU r).2.2 = 0 /\ 0 < (rdU r).1
  ·rw [decide_eq_true h, if_pos h, cond_true]
   simp only [Option.bind_some]
   have := hstop q 3 (fun _ => by decide)
   rw [<- hq] at this
   exact (congrArg (fun o => Option.bind (Option.bind o _) _) this).trans rfl
  ·rw [decide_eq_false h, if_neg h, cond_false]
   simp only [Option.bind_some]
   have := hstop q (rdU r).2.2 (fun hp he => h ⟨he, hp⟩)
   rw [<- hq] at this
   exact (congrArg (fun o => Option.bind (Option.bind o _) _) this).trans rfl
 | succ m ih =>
  intro f r g hm hf hd
  obtain ⟨f, rfl⟩ : ∃ k, f = k + 1 := ⟨f - 1, by omega⟩
  have hU := rdU_meas r
  have hn := rdU_nn r
  have hm0 : meas r <= r.1.length + 1 := by unfold meas; split <;> omega
  show r49_Reader_tree_B (r49_Reader_tree f) f (toR r) g ((m + 1 : Nat) : Int) = _
  unfold r49_Reader_tree_B
  rw [ref_rdU (by omega) (by omega), Option.bind_some]
  have hcond : andB (andB (ltI 0 (rdU r).1) (eqI ((m + 1 : Nat) : Int) 0)) (eqI (rdU r).2.2 0) = false := by
   rw [show eqI ((m + 1 : Nat) : Int) 0 = false by rw [eqI_d, decide_eq_false (by omega)], andB_d, andB_d, Bool.and_false]; rfl
  have e0 : deep (m + 1) (rdU r) = (rdU r).2 := by unfold deep; rw [if_neg (fun h => by omega)]
  have hL := ref_treeL (f := f) (a2 := ((m + 1 : Nat) : Int)) (y := ((rdU r).1, toR (rdU r).2)) (rF := r49_Reader_tree f) (F := tr m) (B := r.1.length) hd (by omega) hn.1 (tr_meas m) (fun r' g' hd' => by
   rw [show ((m + 1 : Nat) : Int) - 1 = (m : Int) by omega, wrapN (by omega)]
   exact ih f r' g' (by omega) (by omega) (by omega)) f 0 (rdU r).2 [] (by omega) (by omega) (by simp) (by omega)
  show Option.bind (cond (andB (andB (ltI 0 (rdU r).1) (eqI ((m + 1 : Nat) : Int) 0)) (eqI (rdU r).2.2 0)) _ _) _ = _
  rw [hcond, cond_false, tr, e0]
  simp only [Option.bind_some]
  exact (congrArg (fun o => Option.bind (Option.bind o _) _) hL).trans rfl
theorem ref_frL {f : Nat} {y : Int × R49Reader} {B : Nat} (hB : B <= 1000000000) (hf : B + 1000100 <= f) (hy : 0 <= y.1) :
  ∀ (q i : Nat) (r : Rd) (fr : List Frame), meas r < q -> r.1.length <= B -> fr.length <= i -> i + meas r <= B + 1 ->
   r49_Decode_L1 f y q (i : Int) r.1 r.2 fr = some ((frL (y.1.toNat - i) r fr).2.1, (frL (y.1.toNat - i) r fr).2.2, (frL (y.1.toNat - i) r fr).1) := by
 intro q
 induction q with
 | zero => intro i r fr h; omega
 | succ q iq =>
  intro i r fr h1 h2 h3 h4
  rw [r49_Decode_L1, andB_d, ltI_d, eqI_d, <- Bool.decide_and]
  by_cases hc : (i : Int) < y.1 /\ r.2 = 0
  ·have hm := meas_pos hc.2
   obtain ⟨k, hk⟩ : ∃ k, y.1.toNat - i = k + 1 := ⟨y.1.toNat - i - 1, by omega⟩
   have hI := rdI_meas r
   have hI3 := hI.2.2 hc.2
   have hL := rdL_meas (rdI r).2
   have hT := tr_meas 512 (rdL (rdI r).2).2
   rw [decide_eq_true hc, cond_true, show ({ B := r.1, E := r.2 } : R49Reader) = toR r from rfl, ref_rdI (by omega) (by omega)]
   simp only [Option.bind_some]
   rw [ref_rdL (by omega) (by omega)]
   simp only [Option.bind_some]
   rw [show (512 : Int) = ((512 : Nat) : Int) from rfl, ref_tree 512 f (rdL (rdI r).2).2 0 (by omega) (by omega) (by omega)]
   simp only [Option.bind_some]
   have e4 := iq (i + 1) (tr 512 (rdL (rdI r).2).2).2 (fr ++ [⟨(rdI r).1, (rdL (rdI r).2).1, ⟨0, (tr 512 (rdL (rdI r).2).2).1⟩⟩]) (by omega) (by omega) (by simp; omega) (by omega)
   rw [hk, frL, if_pos hc.2, show k = y.1.toNat - (i + 1) by omega]
   refine Eq.trans ?_ e4
   show guardO (limB 64 (fr.length + 1)) _ = _
   rw [lim64 (by omega), guardO_t, wrapS (by omega)]; rfl
  ·rw [decide_eq_false hc, cond_false]
   have : frL (y.1.toNat - i) r fr = (fr, r) := by
    cases hr : y.1.toNat - i with
    | zero => rfl
    | succ k => rw [frL, if_neg (fun e => hc ⟨by omega, e⟩)]
   rw [this]
theorem decInts_le : ∀ (n : Nat) (a : List UInt8), (decInts n a).1.length <= n
 | 0, a => by simp [decInts]
 | n + 1, a => by
  rw [decInts]; simp only []
  split
  ·simp
  ·split
   ·simp
   ·have := decInts_le n (a.drop (decInt a).2.1); simp; omega
theorem rdL_le (r : Rd) : (rdL r).1.length <= 1000000000000 := by
 unfold rdL; split
 ·unfold intsR; split
  ·simp
  ·by_cases h : (if 0 > (2048 : Int) then 0 else (2048 : Int)) < ((dec r.1).1 : Int)
   ·rw [if_pos h]; simp
   ·rw [if_neg h]; have := decInts_le (dec r.1).1 (r.1.drop (dec r.1).2.1); simp at h; omega
 ·simp
theorem frL_sleep : ∀ (rem : Nat) (r : Rd) (acc : List Frame), (∀ f ∈ acc, f.Sleep.length <= 1000000000000) -> ∀ f ∈ (frL rem r acc).1, f.Sleep.length <= 1000000000000
 | 0, r, acc, h => h
 | rem + 1, r, acc, h => by
  rw [frL]; split
  ·exact frL_sleep rem _ _ (fun k hk => by
    rcases List.mem_append.1 hk with hk | hk
    ·exact h k hk
    ·rw [List.mem_singleton.1 hk]; exact rdL_le _)
  ·exact h
theorem many_len (x : Int × Rd) : (many x).1.length <= x.2.1.length := by unfold many; split <;> exact Nat.le_refl _
theorem eqI_t {a b : Int} (h : a = b) : eqI a b = true := by rw [eqI_d, decide_eq_true h]
theorem eqI_f {a b : Int} (h : ¬ a = b) : eqI a b = false := by rw [eqI_d, decide_eq_false h]
theorem rd_err {r : Rd} (h : r.2 ≠ 0) : rdU r = (0, r) := by unfold rdU; rw [if_neg h]
theorem ref_decode {f : Nat} {p : Program} {c : Config} {b : List UInt8} (hp : small p = true) (hb : b.length <= 100000000) (hf : b.length + 1100000 <= f) :
  r49_Decode f p c b = some (decodeB (digest p c) b) := by
 unfold r49_Decode decodeB
 rw [ref_digest (by omega) c hp, Option.bind_some]
 by_cases h1 : (digest p c).2 = 0
 ·rw [eqI_t h1, Bool.not_true, cond_false, if_neg (fun h : (digest p c).2 ≠ 0 => h h1), ref_open (by omega) (by omega), Option.bind_some]
  by_cases h2 : (openB b).2.2 = 0
  ·rw [eqI_t h2, Bool.not_true, cond_false, if_neg (fun h : (openB b).2.2 ≠ 0 => h h2), ltI_d]
   by_cases h3 : 0 < (openB b).2.1.length
   ·rw [if_pos h3, decide_eq_true (by omega)]; rfl
   ·have hl := openB_len b
    rw [if_neg h3, decide_eq_false (by omega), cond_false]
    have e1 := ref_rdU (f := f) (r := ((openB b).1, 0)) (by omega) (by show (openB b).1.length <= _; omega)
    have hm := rdU_meas ((openB b).1, 0)
    have hm0 : meas ((openB b).1, 0) = (openB b).1.length + 1 := meas_pos rfl
    refine (congrArg (fun o => Option.bind o _) e1).trans ?_
    generalize rdU ((openB b).1, 0) = x at hm ⊢
    simp only [Option.bind_some]
    have hxl : x.2.1.length <= b.length := Nat.le_trans hm.2.1 hl
    show cond (andB (eqI x.2.2 0) (!(eqI x.1 (digest p c).1))) _ _ = _
    -- what is left behind the digest
    have k1 := rdU_meas x.2
    have k2 := rdU_meas (rdU x.2).2
    have k3 := rdU_meas (rdU (rdU x.2).2).2
    have k4 := rdU_meas (rdU (rdU (rdU x.2).2).2).2
    have hn := rdU_nn (rdU (rdU (rdU x.2).2).2).2
    have k5 := many_meas (rdU (rdU (rdU (rdU x.2).2).2).2)
    have f1 := ref_rdU (f := f) (r := x.2) (by omega) (by omega)
    have f2 := ref_rdU (f := f) (r := (rdU x.2).2) (by omega) (by omega)
    have f3 := ref_rdU (f := f) (r := (rdU (rdU x.2).2).2) (by omega) (by omega)
    have f4 := ref_rdU (f := f) (r := (rdU (rdU (rdU x.2).2).2).2) (by omega) (by omega)
    have hsleep : ∀ g ∈ (snapR x.2).2.1.Frames, g.Sleep.length <= 1000000000000 := frL_sleep _ _ [] (fun g hg => by cases hg)
    have hS : snapR x.2 = ((rdU x.2).1, ⟨(frL (rdU (rdU (rdU (rdU x.2).2).2).2).1.toNat (many (rdU (rdU (rdU (rdU x.2).2).2).2)) []).1, eqI (rdU x.2).1 1, (rdU (rdU x.2).2).1, (rdU (rdU (rdU x.2).2).2).1⟩, (frL (rdU (rdU (rdU (rdU x.2).2).2).2).1.toNat (many (rdU (rdU (rdU (rdU x.2).2).2).2)) []).2) := rfl
    have hstay : x.2.2 ≠ 0 -> (snapR x.2).2.2 = x.2 := fun hx => by
     have g1 := rd_err hx
     have e : rdU (rdU (rdU (rdU x.2).2).2).2 = (0, x.2) := by rw [g1]; simp only []; rw [g1]; simp only []; rw [g1]; simp only []; rw [g1]
     rw [hS, e]
     have : many (0, x.2) = x.2 := by unfold many; rw [if_neg (fun h => by omega)]
     rw [this]; rfl
    have hfr := ref_frL (f := f) (y := ((rdU (rdU (rdU (rdU x.2).2).2).2).1, toR (rdU (rdU (rdU (rdU x.2).2).2).2).2)) (B := b.length) (by omega) (by omega) hn.1 f 0 (many (rdU (rdU (rdU (rdU x.2).2).2).2)) [] (by omega) (Nat.le_trans (many_len _) (by omega)) (by simp) (by omega)
    have hmid : (Option.bind (r49_Reader_count f (toR x.2)) fun y11 => Option.bind (r49_Reader_count f y11.2) fun y13 => Option.bind (r49_Reader_count f y13.2) fun y15 => Option.bind (r49_Reader_count f y15.2) fun y17 => Option.bind (α := Int) (cond (andB (ltI 512 y17.1) (eqI y17.2.E 0)) (some 3) (some y17.2.E)) fun i20 => Option.bind (α := (List UInt8) × Int × (List Frame)) (Option.bind (r49_Decode_L1 f y17 f 0 y17.2.B i20 []) fun o => match o with | (l149, i150, l151) => some (l149, i150, l151)) fun o => match o with | (l97, i98, l99) => some (y11.1, (⟨l99, eqI y11.1 1, y13.1, y15.1⟩ : Snapshot), ((l97, i98) : Rd))) = some (snapR x.2) := by
     rw [f1]; simp only [Option.bind_some]
     rw [f2]; simp only [Option.bind_some]
     rw [f3]; simp only [Option.bind_some]
     rw [f4]; simp only [Option.bind_some]
     rw [hS]
     generalize rdU (rdU (rdU (rdU x.2).2).2).2 = n at hfr ⊢
     have em : many n = (n.2.1, if n.2.2 = 0 /\ 512 < n.1 then 3 else n.2.2) := by unfold many; split <;> rfl
     have hcond : andB (ltI 512 n.1) (eqI (toR n.2).E 0) = decide (n.2.2 = 0 /\ 512 < n.1) := by
      rw [andB_d, ltI_d, eqI_d, <- Bool.decide_and]; simp only [And.comm, toR]
     rw [hcond]
     rw [em] at hfr ⊢
     by_cases h : n.2.2 = 0 /\ 512 < n.1
     ·rw [decide_eq_true h, cond_true]
      rw [if_pos h] at hfr ⊢
      simp only [Option.bind_some]
      exact (congrArg (fun o => Option.bind (Option.bind o _) _) hfr).trans rfl
     ·rw [decide_eq_false h, cond_false]
      rw [if_neg h] at hfr ⊢
      simp only [Option.bind_some]
      exact (congrArg (fun o => Option.bind (Option.bind o _) _) hfr).trans rfl
    have hend : ∀ K : Int -> Snapshot -> List UInt8 -> Int -> Option (Snapshot × Int), (Option.bind (r49_Reader_count f (toR x.2)) fun y11 => Option.bind (r49_Reader_count f y11.2) fun y13 => Option.bind (r49_Reader_count f y13.2) fun y15 => Option.bind (r49_Reader_count f y15.2) fun y17 => Option.bind (α := Int) (cond (andB (ltI 512 y17.1) (eqI y17.2.E 0)) (some 3) (some y17.2.E)) fun i20 => Option.bind (α := (List UInt8) × Int × (List Frame)) (Option.bind (r49_Decode_L1 f y17 f 0 y17.2.B i20 []) fun o => match o with | (l149, i150, l151) => some (l149, i150, l151)) fun o => match o with | (l97, i98, l99) => K y11.1 ⟨l99, eqI y11.1 1, y13.1, y15.1⟩ l97 i98) = K (snapR x.2).1 (snapR x.2).2.1 (snapR x.2).2.2.1 (snapR x.2).2.2.2 := by
     intro K
     have := congrArg (fun o => Option.bind o fun s => K s.1 s.2.1 s.2.2.1 s.2.2.2) hmid
     simp only [Option.bind_some] at this
     rw [<- this]
     simp only [Option.bind_assoc]
     rfl
    by_cases h4 : x.2.2 = 0
    ·rw [if_neg (fun h : x.2.2 ≠ 0 => h h4), eqI_t h4, andB_d, Bool.true_and]
     by_cases h5 : x.1 = (digest p c).1
     ·rw [eqI_t h5, Bool.not_true, cond_false, if_neg (fun h : x.1 ≠ (digest p c).1 => h h5)]
      refine (hend (fun dn s l e => cond (eqI e 0) (cond (!(orB (ltI 1 dn) (ltI 0 ((l.length : Nat) : Int)))) (Option.bind (r49_Valid f s) fun y176 => cond (!y176) (cond (!(eqI 3 0)) (some (snap0, 3)) (some (s, 0))) (some (s, 0))) (cond (!(eqI 3 0)) (some (snap0, 3)) (some (s, 0)))) (some (snap0, e)))).trans ?_
      generalize snapR x.2 = S at hsleep ⊢
      obtain ⟨dn, s, r⟩ := S
      simp only []
      rw [ref_valid (by omega) hsleep]
      by_cases h6 : r.2 = 0
      ·rw [eqI_t h6, if_neg (fun h : r.2 ≠ 0 => h h6), orB_d, ltI_d, ltI_d, <- Bool.decide_or]
       by_cases h7 : 1 < dn \/ 0 < r.1.length
       ·rw [if_pos (by rcases h7 with h | h; exact .inl h; exact .inr (.inl h)), decide_eq_true (by omega)]; rfl
       ·rw [decide_eq_false (by omega)]
        cases hv : validS s with
        | false => rw [if_pos (.inr (.inr rfl))]; rfl
        | true => rw [if_neg (fun h => by rcases h with h | h | h; exact h7 (.inl h); exact h7 (.inr h); cases h)]; rfl
      ·rw [eqI_f h6, if_pos (show r.2 ≠ 0 from h6)]; rfl
     ·rw [eqI_f h5, if_pos (show x.1 ≠ (digest p c).1 from h5)]; rfl
    ·rw [if_pos (show x.2.2 ≠ 0 from h4), eqI_f h4, andB_d, Bool.false_and, cond_false]
     refine (hend (fun dn s l e => cond (eqI e 0) (cond (!(orB (ltI 1 dn) (ltI 0 ((l.length : Nat) : Int)))) (Option.bind (r49_Valid f s) fun y176 => cond (!y176) (cond (!(eqI 3 0)) (some (snap0, 3)) (some (s, 0))) (some (s, 0))) (cond (!(eqI 3 0)) (some (snap0, 3)) (some (s, 0)))) (some (snap0, e)))).trans ?_
     rw [hstay h4, eqI_f h4]; rfl
  ·rw [eqI_f h2, if_pos (show (openB b).2.2 ≠ 0 from h2)]; rfl
 ·rw [eqI_f h1, if_pos (show (digest p c).2 ≠ 0 from h1)]; rfl
end Go.Dc.Pl
end
section
set_option linter.all false
namespace Go.Dc
open Go Go.Hw Go.Proofs
set_option maxRecDepth 100000
def law49_bytes (a0 : List UInt8) (a1 : List UInt8) : Option Bool :=
 some (eqS (⟨a0.toArray⟩ : ByteArray) (⟨a1.toArray⟩ : ByteArray))
set_option maxHeartbeats 2000000 in
theorem at_law49_bytes {a0 : List UInt8} {a1 : List UInt8} {r : Bool} (hs : law49_bytes a0 a1 = some r) : At Tryz.prog 11 [.cell (sC a0), .cell (sC a1)] (bV r) := by
 refine at_bound (by kernel_rfl) fun hb => ?_
 have hb1 : LenOk (.sl a0.length (encL a0)) := lkc hb
 have hb2 : LenOk (.sl a1.length (encL a1)) := lkc hb
 refine at_code mixed Tryz.func11 (by kernel_rfl) rfl (by kernel_rfl) rfl fun Q hQ => ?_
 rw [law49_bytes] at hs
 refine goR f0 ?_
 obtain rfl := sj hs
 exact hQ _ _ (rg f0 (Gh.refl _))
end Go.Dc
end
