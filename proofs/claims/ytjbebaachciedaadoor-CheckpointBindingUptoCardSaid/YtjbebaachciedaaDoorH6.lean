/- Contracts of functions, by their numbers, and the laws that walk them. Conditions: as each states. -/
import Derived.Test.YtjbebaachciedaaDoorH4
import Derived.Test.YtjbebaachciedaaDoorH5
import Derived.Test.YtjbebaachciedaaDoorH3
import Derived.KernelRfl
import Derived.Test.YtjbebaachciedaaDoorRows
import Derived.LaidMore
import Derived.MakeChecks
set_option linter.all false
section
set_option linter.all false
namespace Go.Dc
open Go Go.Hw Go.Proofs
set_option maxRecDepth 100000
def checkpoint_Encode_L1 (fuelN : Nat) : List Int -> (List UInt8) -> Nat -> Option (List UInt8)
 | [], l65, k66 => some (l65)
 | x85 :: q81, l65, k66 => Option.bind (frame_AppendUint fuelN l65 x85) (fun y89 => checkpoint_Encode_L1 fuelN q81 y89 (k66 + 1))
def checkpoint_Encode_L2 (fuelN : Nat) : List Frame -> (List UInt8) -> Nat -> Option (List UInt8)
 | [], l181, k182 => some (l181)
 | x205 :: q201, l181, k182 => Option.bind (frame_AppendInt fuelN l181 x205.Agent) (fun y208 => Option.bind (frame_AppendInts fuelN y208 x205.Sleep) (fun y210 => Option.bind (checkpoint_appendTree fuelN y210 x205.Tree) (fun y212 => checkpoint_Encode_L2 fuelN q201 y212 (k182 + 1))))
def checkpoint_Encode (fuelN : Nat) (a0 : Program) (a1 : Config) (a2 : Snapshot) : Option ((List UInt8) × Int) :=
 Option.bind (checkpoint_Digest fuelN a0 a1) (fun y1 => cond (!(eqI y1.2 0)) (some ([], y1.2)) (Option.bind (checkpoint_Valid fuelN a2) (fun y4 => cond (!y4) (some ([], 1)) (Option.bind (α := Nat) (cond a2.Done (some (1)) (some (0))) (fun k8 => Option.bind (some ([y1.1, ((k8 : Nat) : Int), a2.Count, a2.Blocked, ((a2.Frames.length : Nat) : Int)])) (fun l14 => Option.bind (α := (List UInt8)) (guardO (lenB l14.length) (Option.bind (checkpoint_Encode_L1 fuelN l14 [] 0) (fun l74 => some (l74)))) (fun l51 => Option.bind (α := (List UInt8)) (Option.bind (checkpoint_Encode_L2 fuelN a2.Frames l51 0) (fun l194 => some (l194))) (fun l150 => Option.bind (frame_Seal fuelN l150) (fun y214 => some (y214, 0))))))))))
set_option maxHeartbeats 2000000 in
theorem at_checkpoint_Encode {fuelN : Nat} {a0 : Program} {a1 : Config} {a2 : Snapshot} {r : (List UInt8) × Int} (hs : checkpoint_Encode fuelN a0 a1 a2 = some r) : At Tryd.prog 11 [.agg (eA a0), .agg (eA a1), .agg (eA a2)] (.tup [.cell (sC r.1), iV .i64 r.2]) := by
 refine at_bound (by kernel_rfl) fun hb => ?_
 have hb1 : LenOk (.sl a0.Vars.length (encL a0.Vars)) := lkc hb
 have hb2 : LenOk (.sl a0.Mutexes.length (encL a0.Mutexes)) := lkc hb
 have hb3 : LenOk (.sl a0.Conds.length (encL a0.Conds)) := lkc hb
 have hb4 : LenOk (.sl a0.Funcs.length (encL a0.Funcs)) := lkc hb
 have hb5 : LenOk (.sl a0.Threads.length (encL a0.Threads)) := lkc hb
 have hb6 : LenOk (.sl a2.Frames.length (encL a2.Frames)) := lkc hb
 refine at_code mixed Tryd.func11 (by kernel_rfl) rfl (by kernel_rfl) rfl fun Q hQ => ?_
 rw [checkpoint_Encode] at hs
 refine goR f0 ?_
 revert hs; refine bK fun y1 hx2 hs => ?_
 refine cP f0 (at_checkpoint_Digest hx2) ?_
 refine goR f0 ?_
 revert hs; refine cS f0 ?_ ?_ <;> intro h3 hs
 ·refine goR f0 ?_
  obtain rfl := sj hs
  exact hQ _ _ (rg f0 (Gh.unz _))
 ·refine goR f0 ?_
  revert hs; refine bK fun y4 hx5 hs => ?_
  refine cP f0 (at_checkpoint_Valid hx5) ?_
  refine goR f0 ?_
  revert hs; refine cS f0 ?_ ?_ <;> intro h6 hs
  ·refine goR f0 ?_
   obtain rfl := sj hs
   exact hQ _ _ (rg f0 (Gh.unz _))
  ·refine goR2 f0 ?_
   revert hs; refine bK fun o10 e9 hs => ?_
   refine awp_cutK (fun (v : Nat) (σ : St) => some (v) = some o10 /\ σ.env 5 = .cell (.ref (.o 1 2 0) 0) /\ σ.env 8 = iV .i64 y1.1 /\ σ.env 10 = iV .i64 ((v : Nat) : Int) /\ σ.hp (.o 1 2 0) = some (.cells (eA a2)) /\ 6 <= σ.gen) (by rfl) (fun Q hK11 hX12 => ?_) (fun k8 σ1 hp => ?_)
   ·refine goR f0 ?_
    revert e9; refine cS f0 ?_ ?_ <;> intro h13 e9
    ·refine goR f0 ?_
     exact hK11 1 _ _ (Gh.refl _) ⟨e9, pv f0, pv f0, pv f0, pv f0, pg⟩
    ·refine goR f0 ?_
     exact hK11 0 _ _ (Gh.refl _) ⟨e9, pv f0, pv f0, pv f0, pv f0, pg⟩
   ·obtain ⟨e9, h2_5, h2_8, h2_10, g2_0, n2_g⟩ := hp
    obtain rfl := sj e9
    try dsimp only at hs
    have n2_0 : ¬ (σ1.gen = 0) := by omega
    revert hs; refine lK fun l14 hx15 hs => ?_
    have hx15n : l14.length = 5 := by rw [hx15]; rfl
    have F1 := an h2_5 (an h2_8 (an h2_10 (an g2_0 (an n2_0 hx15))))
    refine goR2 F1 ?_
    revert hs; refine bK fun o53 e52 hs => ?_
    refine awp_cutK (fun (v : (List UInt8)) (σ : St) => some (v) = some o53 /\ σ.env 5 = .cell (.ref (.o 1 2 0) 0) /\ σ.env 11 = .cell (.sl (.l 3) 0 1 v.length) /\ σ.hp (.l 3) = some (.pure (encL v)) /\ σ.hp (.o 1 2 0) = some (.cells (eA a2)) /\ (σ1.gen + 2) <= σ.gen) (by rfl) (fun Q hK54 hX55 => ?_) (fun l51 σ5 hp => ?_)
    ·refine goR F1 ?_
     obtain ⟨hb86, e52⟩ := guardO_some e52
     revert e52; refine bK fun o76 e75 e52 => ?_
     refine awp_loopW (fun (v : (List Int) × (List UInt8) × Nat) (σ : St) => checkpoint_Encode_L1 fuelN v.1 v.2.1 v.2.2 = some o76 /\ v.1 = l14.drop v.2.2 /\ σ.env 5 = .cell (.ref (.o 1 2 0) 0) /\ σ.env 11 = .cell (.sl (.l 9) 0 1 v.2.1.length) /\ σ.env 39 = .cell (.sl (.o (σ1.gen + 2) 9 0) 0 1 l14.length) /\ σ.env 40 = iV .i64 ((l14.length : Nat) : Int) /\ σ.env 41 = iV .i64 ((v.2.2 : Nat) : Int) /\ σ.hp (.l 9) = some (.pure (encL v.2.1)) /\ σ.hp (.o (σ1.gen + 2) 9 0) = some (.pure (encL l14)) /\ σ.hp (.o 1 2 0) = some (.cells (eA a2)) /\ (σ1.gen + 2) <= σ.gen) (fun v => v.1.length) _ (Gh.void _ (.l 9) 11 1 rfl (by simp [F1])) (l14, [], 0) ⟨e75, by simp, pv F1, pv F1, pv F1, pv F1, pv F1, pv F1, pv F1, pv F1, pg⟩ fun v σ8 hp L77 hL78 => ?_
     obtain ⟨q80, l65, k66⟩ := v
     dsimp only at hp hL78
     obtain ⟨e75, hd79, h7_5, h7_11, h7_39, h7_40, h7_41, g7_0, g7_1, g7_2, n7_g⟩ := hp
     have n7_0 : ¬ (σ8.gen = 0) := by omega
     have n7_σ1gen_0 : ¬ (σ8.gen = σ1.gen) := by omega
     have n7_σ1gen_0' : ¬ (σ1.gen = σ8.gen) := by omega
     have n7_σ1gen_1 : ¬ (σ8.gen = σ1.gen + 1) := by omega
     have n7_σ1gen_1' : ¬ (σ1.gen + 1 = σ8.gen) := by omega
     have n7_σ1gen_a : ∀ j, ¬ (σ8.gen + j = σ1.gen) := fun j => by omega
     have n7_σ1gen_a' : ∀ j, ¬ (σ1.gen = σ8.gen + j) := fun j => by omega
     rcases q80 with _ | ⟨x85, q81⟩
     ·have hlt82 := drop_end hd79
      rw [checkpoint_Encode_L1] at e75; try dsimp only at e75
      have F2 := an h7_5 (an h7_11 (an h7_39 (an h7_40 (an h7_41 (an g7_0 (an g7_1 (an g7_2 (an n7_0 (an n7_σ1gen_0 (an n7_σ1gen_0' (an n7_σ1gen_1 (an n7_σ1gen_1' (an n7_σ1gen_a n7_σ1gen_a')))))))))))))
      refine goR F2 ?_
      refine condK_f (by simp [ltI]; omega) ?_
      obtain rfl := sj e75
      try dsimp only at e52
      exact hK54 l65 _ _ (Gh.ren _ (.l 9) (.l 3) (by simp) rfl rfl) ⟨e52, pv F2, pv F2, pv F2, pv F2, pg⟩
     ·obtain ⟨hx84, hlt82, hd87⟩ := drop_next hd79
      have ew83 := wrap_succG hlt82 hb86
      rw [checkpoint_Encode_L1] at e75; try dsimp only at e75
      have F3 := an h7_5 (an h7_11 (an h7_39 (an h7_40 (an h7_41 (an g7_0 (an g7_1 (an g7_2 (an n7_0 (an n7_σ1gen_0 (an n7_σ1gen_0' (an n7_σ1gen_1 (an n7_σ1gen_1' (an n7_σ1gen_a (an n7_σ1gen_a' (an hlt82 ew83)))))))))))))))
      refine goR F3 ?_
      refine condK_t (by simp [ltI]; omega) ?_
      have f88 : partCV Tryd.prog 3 (encL l14) (k66) = some (iV .i64 x85) := partCV_enc1 hx84 (by simp)
      have F4 := an F3 f88
      refine goR F4 ?_
      revert e75; refine bK fun y89 hx90 e75 => ?_
      refine cA F4 (at_frame_AppendUint hx90) ?_
      refine goR F4 ?_
      exact hL78 (q81, y89, (k66 + 1)) _ _ (Gh.ren _ (.o (σ8.gen + 3) 2 0) (.l 9) (by simp) rfl rfl) ⟨e75, hd87, pv F4, pv F4, pv F4, pv F4, pv F4, pv F4, pv F4, pv F4, pg⟩ (by simp)
    ·obtain ⟨e52, h6_5, h6_11, g6_0, g6_1, n6_g⟩ := hp
     obtain rfl := sj e52
     try dsimp only at hs
     have n6_0 : ¬ (σ5.gen = 0) := by omega
     have F5 := an h6_5 (an h6_11 (an g6_0 (an g6_1 n6_0)))
     refine goR2 F5 ?_
     revert hs; refine bK fun o152 e151 hs => ?_
     refine awp_cutK (fun (v : (List UInt8)) (σ : St) => some (v) = some o152 /\ σ.env 11 = .cell (sC v) /\ (σ5.gen + 1) <= σ.gen) (by rfl) (fun Q hK153 hX154 => ?_) (fun l150 σ11 hp => ?_)
     ·refine goR F5 ?_
      revert e151; refine bK fun o196 e195 e151 => ?_
      refine awp_loopW (fun (v : (List Frame) × (List UInt8) × Nat) (σ : St) => checkpoint_Encode_L2 fuelN v.1 v.2.1 v.2.2 = some o196 /\ v.1 = a2.Frames.drop v.2.2 /\ σ.env 11 = .cell (sC v.2.1) /\ σ.env 50 = .cell (sC a2.Frames) /\ σ.env 51 = iV .i64 ((a2.Frames.length : Nat) : Int) /\ σ.env 52 = iV .i64 ((v.2.2 : Nat) : Int) /\ (σ5.gen + 1) <= σ.gen) (fun v => v.1.length) _ (Gh.frz _ (.l 3)) (a2.Frames, l51, 0) ⟨e195, by simp, pv F5, pv F5, pv F5, pv F5, pg⟩ fun v σ14 hp L197 hL198 => ?_
      obtain ⟨q200, l181, k182⟩ := v
      dsimp only at hp hL198
      obtain ⟨e195, hd199, h13_11, h13_50, h13_51, h13_52, n13_g⟩ := hp
      rcases q200 with _ | ⟨x205, q201⟩
      ·have hlt202 := drop_end hd199
       rw [checkpoint_Encode_L2] at e195; try dsimp only at e195
       have F6 := an h13_11 (an h13_50 (an h13_51 h13_52))
       refine goR F6 ?_
       refine condK_f (by simp [ltI]; omega) ?_
       obtain rfl := sj e195
       try dsimp only at e151
       exact hK153 l181 _ _ (Gh.refl _) ⟨e151, pv F6, pg⟩
      ·obtain ⟨hx204, hlt202, hd206⟩ := drop_next hd199
       have ew203 := wrap_succ hlt202 (hb6).len
       rw [checkpoint_Encode_L2] at e195; try dsimp only at e195
       have F7 := an h13_11 (an h13_50 (an h13_51 (an h13_52 (an hlt202 ew203))))
       refine goR F7 ?_
       refine condK_t (by simp [ltI]; omega) ?_
       have f207 : partCV Tryd.prog 79 (encL a2.Frames) (k182 * 4) = some (.agg (eA x205)) := partCV_enc hx204 (f := 0) (by simp)
       have F8 := an F7 f207
       refine goR F8 ?_
       revert e195; refine bK fun y208 hx209 e195 => ?_
       refine cA F8 (at_frame_AppendInt hx209) ?_
       refine goR F8 ?_
       revert e195; refine bK fun y210 hx211 e195 => ?_
       refine cA F8 (at_frame_AppendInts hx211) ?_
       refine goR F8 ?_
       revert e195; refine bK fun y212 hx213 e195 => ?_
       refine cA F8 (at_checkpoint_appendTree hx213) ?_
       refine goR F8 ?_
       exact hL198 (q201, y212, (k182 + 1)) _ _ (Gh.refl _) ⟨e195, hd206, pv F8, pv F8, pv F8, pv F8, pg⟩ (by simp)
     ·obtain ⟨e151, h12_11, n12_g⟩ := hp
      obtain rfl := sj e151
      try dsimp only at hs
      refine goR h12_11 ?_
      revert hs; refine bK fun y214 hx215 hs => ?_
      refine cP h12_11 (at_frame_Seal hx215) ?_
      refine goR h12_11 ?_
      obtain rfl := sj hs
      exact hQ _ _ (rg h12_11 (Gh.refl _))
end Go.Dc
end
section
set_option linter.all false
namespace Go.Dc.Pl
open Go Go.Hw Go.Dc
theorem agent_inR {n : Int} (h : agentOk n = true) : inR n = true := by
 have := agentOk_t h; simp [inR]; omega
def encT : Nat -> List Tree -> List UInt8
 | 0, l => uintB l.length
 | m + 1, l => uintB l.length ++ l.flatMap fun k => uintB (intCode k.Agent) ++ encT m k.Kids
/-- How many nodes a list of trees has. -/
def nT : Nat -> List Tree -> Nat
 | 0, _ => 0
 | m + 1, l => (l.map fun k => 1 + nT m k.Kids).sum
theorem own_encT : ∀ (m f : Nat) (b : List UInt8) (t : Tree), shal m t.Kids = true -> m + 12 <= f -> b.length + 9 + 18 * nT m t.Kids <= 1000000000 -> t.Kids.length <= 1000000000 ->
  (∀ k, wid 1000000000 k t.Kids) -> checkpoint_appendTree f b t = some (b ++ encT m t.Kids) /\ (encT m t.Kids).length <= 9 + 18 * nT m t.Kids := by
 intro m
 induction m with
 | zero =>
  intro f b t hs hf hb hk _
  obtain ⟨f, rfl⟩ : ∃ k, f = k + 1 := ⟨f - 1, by omega⟩
  simp only [shal, decide_eq_true_eq, List.length_eq_zero_iff] at hs
  refine ⟨?_, by rw [encT, hs]; exact uintB_le9 (by simp)⟩
  show checkpoint_appendTree_B (checkpoint_appendTree f) f b t = _
  unfold checkpoint_appendTree_B
  rw [own_appU (by omega) (by omega), hs]
  show some (appU b 0) = _
  rw [encT]; rfl
 | succ m ih =>
  intro f b t hs hf hb hk hw
  obtain ⟨f, rfl⟩ : ∃ k, f = k + 1 := ⟨f - 1, by omega⟩
  rw [shal, List.all_eq_true] at hs
  show checkpoint_appendTree_B (checkpoint_appendTree f) f b t = _ /\ _
  unfold checkpoint_appendTree_B
  have e0 : appU b ((t.Kids.length : Nat) : Int) = b ++ uintB t.Kids.length := by unfold appU; rw [if_neg (by omega)]; simp
  have h9 := uintB_le9 (n := t.Kids.length) (by omega)
  rw [own_appU (by omega) (by omega), Option.bind_some, e0]
  have hL : ∀ (l : List Tree) (c : List UInt8) (k : Nat), (∀ x ∈ l, agentOk x.Agent = true /\ shal m x.Kids = true /\ x.Kids.length <= 1000000000 /\ ∀ k, wid 1000000000 k x.Kids) -> c.length + 18 * (l.map fun k => 1 + nT m k.Kids).sum <= 1000000000 ->
    checkpoint_appendTree_L1 f (checkpoint_appendTree f) l c k = some (c ++ l.flatMap fun k => uintB (intCode k.Agent) ++ encT m k.Kids) /\ (l.flatMap fun k => uintB (intCode k.Agent) ++ encT m k.Kids).length <= 18 * (l.map fun k => 1 + nT m k.Kids).sum := by
   intro l
   induction l with
   | nil => intro c k _ _; simp [checkpoint_appendTree_L1]
   | cons x l il =>
    intro c k hx hc
    obtain ⟨h1, h2, h3, h4⟩ := hx x (by simp)
    rw [List.map_cons, List.sum_cons] at hc ⊢
    have hi := intCode_le (agent_inR h1)
    have h9 := uintB_le9 hi
    have ea : appI c x.Agent = c ++ uintB (intCode x.Agent) := by unfold appI; rw [if_pos (agent_inR h1)]
    obtain ⟨e1, e2⟩ := ih f (c ++ uintB (intCode x.Agent)) x h2 (by omega) (by simp; omega) h3 h4
    obtain ⟨g1, g2⟩ := il (c ++ uintB (intCode x.Agent) ++ encT m x.Kids) (k + 1) (fun y hy => hx y (by simp [hy])) (by simp; omega)
    rw [checkpoint_appendTree_L1, own_appI (by omega) (by omega), Option.bind_some, ea, e1, Option.bind_some, g1]
    refine ⟨by simp, ?_⟩
    rw [List.flatMap_cons]; simp only [List.length_append] at *; omega
  have hkids : ∀ x ∈ t.Kids, agentOk x.Agent = true /\ shal m x.Kids = true /\ x.Kids.length <= 1000000000 /\ ∀ k, wid 1000000000 k x.Kids := fun x hx => by
   have := hs x hx
   rw [Bool.and_eq_true] at this
   refine ⟨this.1, this.2, ((hw 2).2 x hx).1, fun k => (hw (k + 1)).2 x hx⟩
  rw [nT] at hb ⊢
  obtain ⟨g1, g2⟩ := hL t.Kids (b ++ uintB t.Kids.length) 0 hkids (by simp; omega)
  rw [g1, encT]
  refine ⟨by simp, ?_⟩
  simp only [List.length_append] at *; omega
def encInts : List Int -> List UInt8
 | [] => []
 | n :: l => uintB (intCode n) ++ encInts l
theorem encInts_length : ∀ l : List Int, l.all inR = true -> (encInts l).length <= 9 * l.length
 | [], _ => by simp [encInts]
 | n :: l, h => by
  simp only [List.all_cons, Bool.and_eq_true] at h
  have h1 := uintB_le9 (intCode_le h.1)
  have h2 := encInts_length l h.2
  simp [encInts]; omega
theorem own_appInts {f : Nat} {b : List UInt8} {l : List Int} (hf : 9 <= f) (h : l.all inR = true) (hb : b.length + 9 + 9 * l.length <= 1000000000) : frame_AppendInts f b l = some (b ++ uintB l.length ++ encInts l) := by
 have h9 := uintB_le9 (n := l.length) (by omega)
 have hL : ∀ (q : List Int) (c : List UInt8) (k : Nat), q.all inR = true -> c.length + 9 * q.length <= 1000000000 -> frame_AppendInts_L1 f b q c k = some (.inl (c ++ encInts q)) := by
  intro q
  induction q with
  | nil => intro c k _ _; simp [frame_AppendInts_L1, encInts]
  | cons x q ih =>
   intro c k hq hc
   simp only [List.all_cons, Bool.and_eq_true] at hq
   have h1 := uintB_le9 (intCode_le hq.1)
   simp only [List.length_cons] at hc
   rw [frame_AppendInts_L1, own_inR, Option.bind_some, hq.1, Bool.not_true, cond_false, own_intB hq.1 hf, Option.bind_some, lim1 (by omega), guardO_t, Option.bind_some, ih _ _ hq.2 (by simp; omega)]
   simp [encInts]
 rw [frame_AppendInts, own_uintB (by omega) hf]
 simp only [Option.bind_some]
 rw [own_join (by simp; omega)]
 simp only [Option.bind_some, List.flatten_cons, List.flatten_nil, List.append_nil]
 rw [hL l (b ++ uintB l.length) 0 h (by simp; omega)]; rfl
def encF (g : Frame) : List UInt8 := uintB (intCode g.Agent) ++ (uintB g.Sleep.length ++ encInts g.Sleep) ++ encT 512 g.Tree.Kids
def payB (d : Int) (s : Snapshot) : List UInt8 :=
 uintB d.toNat ++ uintB (if s.Done then 1 else 0) ++ uintB s.Count.toNat ++ uintB s.Blocked.toNat ++ uintB s.Frames.length ++ s.Frames.flatMap encF
/-- The size of a snapshot. -/
def nF (g : Frame) : Nat := 3 + g.Sleep.length + nT 512 g.Tree.Kids
def nS (s : Snapshot) : Nat := (s.Frames.map nF).sum
theorem validF_t {g : Frame} (h : validF g = true) : agentOk g.Agent = true /\ g.Sleep.length <= 2048 /\ g.Sleep.all inR = true /\ shal 512 g.Tree.Kids = true /\ wakeOk g.Tree = true := by
 unfold validF treeOk at h
 simp only [Bool.and_eq_true, decide_eq_true_eq, Bool.not_eq_true'] at h
 obtain ⟨h1, h2, h3, h4, h5, h6⟩ := h
 refine ⟨h1, h2, ?_, h4, h5⟩
 rw [List.all_eq_true]
 intro x hx
 obtain ⟨j, hj⟩ := List.getElem?_of_mem hx
 unfold sleepBad at h3
 have := (List.any_eq_false.1 h3) (x, j) (by
  rw [List.mem_zipIdx_iff_getElem?]; exact hj)
 simp only [badS, orB_d, Bool.or_eq_true, not_or, Bool.not_eq_true, Bool.not_eq_false'] at this
 exact agent_inR this.1.1
theorem own_frames {f : Nat} (hf : 600 <= f) : ∀ (l : List Frame) (b : List UInt8) (k : Nat), (∀ g ∈ l, validF g = true /\ g.Tree.Kids.length <= 1000000000 /\ ∀ k, wid 1000000000 k g.Tree.Kids) -> b.length + 18 * (l.map nF).sum <= 1000000000 ->
  checkpoint_Encode_L2 f l b k = some (b ++ l.flatMap encF) /\ (l.flatMap encF).length <= 18 * (l.map nF).sum := by
 intro l
 induction l with
 | nil => intro b k _ _; simp [checkpoint_Encode_L2]
 | cons x l ih =>
  intro b k hx hb
  obtain ⟨h1, h2, h3⟩ := hx x (by simp)
  obtain ⟨v1, v2, v3, v4, v5⟩ := validF_t h1
  rw [List.map_cons, List.sum_cons, nF] at hb
  have i9 := uintB_le9 (intCode_le (agent_inR v1))
  have s9 := uintB_le9 (n := x.Sleep.length) (by omega)
  have sl := encInts_length x.Sleep v3
  have ea : appI b x.Agent = b ++ uintB (intCode x.Agent) := by unfold appI; rw [if_pos (agent_inR v1)]
  have e2 := own_appInts (f := f) (b := b ++ uintB (intCode x.Agent)) (by omega) v3 (by simp; omega)
  obtain ⟨t1, t2⟩ := own_encT 512 f (b ++ uintB (intCode x.Agent) ++ uintB x.Sleep.length ++ encInts x.Sleep) x.Tree v4 (by omega) (by simp; omega) h2 h3
  have hF : (encF x).length <= 18 * nF x := by unfold encF nF; simp only [List.length_append]; omega
  have heq : b ++ uintB (intCode x.Agent) ++ uintB x.Sleep.length ++ encInts x.Sleep ++ encT 512 x.Tree.Kids = b ++ encF x := by unfold encF; simp
  obtain ⟨g1, g2⟩ := ih (b ++ encF x) (k + 1) (fun y hy => hx y (by simp [hy])) (by rw [List.length_append]; unfold nF at hF; omega)
  rw [checkpoint_Encode_L2, own_appI (by omega) (by omega), Option.bind_some, ea, e2, Option.bind_some, t1, Option.bind_some, heq, g1]
  refine ⟨by simp, ?_⟩
  rw [List.flatMap_cons, List.length_append, List.map_cons, List.sum_cons]; omega
def encodeB (dg : Int × Int) (s : Snapshot) : List UInt8 × Int := if dg.2 ≠ 0 then ([], dg.2) else if validS s = false then ([], 1) else (sealB (payB dg.1 s), 0)
theorem validS_t {s : Snapshot} (h : validS s = true) : 0 <= s.Count /\ s.Count <= 1048576 /\ 0 <= s.Blocked /\ s.Blocked <= 1048576 /\ s.Frames.length <= 512 /\ ∀ g ∈ s.Frames, validF g = true := by
 unfold validS at h
 simp only [Bool.and_eq_true, orB_d, ltI_d, Bool.not_eq_true', Bool.or_eq_false_iff, decide_eq_false_iff_not] at h
 exact ⟨by omega, by omega, by omega, by omega, by omega, List.all_eq_true.1 h.2.2⟩
theorem payB_len {d : Int} {s : Snapshot} (hd : 0 <= d /\ d < 4294967296) (hv : validS s = true) (hw : ∀ g ∈ s.Frames, g.Tree.Kids.length <= 1000000000 /\ ∀ k, wid 1000000000 k g.Tree.Kids) (hn : nS s <= 50000000) : (payB d s).length <= 45 + 18 * nS s := by
 obtain ⟨c1, c2, c3, c4, c5, c6⟩ := validS_t hv
 have a1 := uintB_le9 (n := d.toNat) (by omega)
 have a2 := uintB_le9 (n := if s.Done then 1 else 0) (by split <;> omega)
 have a3 := uintB_le9 (n := s.Count.toNat) (by omega)
 have a4 := uintB_le9 (n := s.Blocked.toNat) (by omega)
 have a5 := uintB_le9 (n := s.Frames.length) (by omega)
 have a6 := (own_frames (f := 600) (by omega) s.Frames [] 0 (fun g hg => ⟨c6 g hg, hw g hg⟩) (by unfold nS at hn; simp; omega)).2
 unfold payB nS; simp only [List.length_append]; omega
theorem own_encode {f B : Nat} {p : Program} {c : Config} {s : Snapshot} (hp : small p = true) (hB : B <= 1000000000) (hw : ∀ g ∈ s.Frames, g.Tree.Kids.length <= 1000000000 /\ (∀ k, wid 1000000000 k g.Tree.Kids) /\ wid B 512 g.Tree.Kids) (hn : nS s <= 3000000) (hf : 60000000 <= f) (hfB : B + 600 <= f) :
  checkpoint_Encode f p c s = some (encodeB (digest p c) s) := by
 have hr := digest_range p c
 rw [checkpoint_Encode, own_digest (by omega) c hp, Option.bind_some, eqI_d, encodeB]
 by_cases h1 : (digest p c).2 = 0
 ·rw [decide_eq_true h1, Bool.not_true, cond_false, if_neg (fun h : (digest p c).2 ≠ 0 => h h1), own_valid hB hfB (fun g hg => (hw g hg).2.2), Option.bind_some]
  cases hv : validS s with
  | false => rfl
  | true =>
   obtain ⟨c1, c2, c3, c4, c5, c6⟩ := validS_t hv
   have hpl := payB_len hr hv (fun g hg => ⟨(hw g hg).1, (hw g hg).2.1⟩) (by omega)
   rw [Bool.not_true, cond_false, if_neg (by simp)]
   have hk : (Option.bind (α := Nat) (cond s.Done (some 1) (some 0)) : (Nat -> Option (List UInt8 × Int)) -> _) = fun K => K (if s.Done then 1 else 0) := by cases s.Done <;> rfl
   rw [hk]
   simp only [Option.bind_some]
   have b1 := own_appU (f := f) (b := []) (n := (digest p c).1) (by omega) (by simp)
   have u : ∀ (b : List UInt8) (n : Int), 0 <= n -> n <= 4611686018427387904 -> appU b n = b ++ uintB n.toNat := fun b n h1 h2 => by unfold appU; rw [if_neg (by omega)]
   have hl : ∀ (l : List Int) (b : List UInt8) (k : Nat), (∀ x ∈ l, 0 <= x /\ x <= 4611686018427387904) -> b.length + 9 * l.length <= 1000 -> checkpoint_Encode_L1 f l b k = some (b ++ l.flatMap fun n => uintB n.toNat) := by
    intro l
    induction l with
    | nil => intro b k _ _; simp [checkpoint_Encode_L1]
    | cons x l ih =>
     intro b k hx hb
     have hx1 := hx x (by simp)
     have h9 := uintB_le9 (n := x.toNat) (by omega)
     rw [List.length_cons] at hb
     rw [checkpoint_Encode_L1, own_appU (by omega) (by omega), Option.bind_some, u b x hx1.1 hx1.2, ih _ _ (fun y hy => hx y (by simp [hy])) (by simp; omega)]
     simp
   have e1 := hl [(digest p c).1, (((if s.Done then 1 else 0 : Nat)) : Int), s.Count, s.Blocked, ((s.Frames.length : Nat) : Int)] [] 0 (by
    intro x hx
    simp only [List.mem_cons, List.not_mem_nil, or_false] at hx
    rcases hx with rfl | rfl | rfl | rfl | rfl
    ·omega
    ·split <;> omega
    ·omega
    ·omega
    ·omega) (by simp)
   rw [show lenB ([(digest p c).1, (((if s.Done then 1 else 0 : Nat)) : Int), s.Count, s.Blocked, ((s.Frames.length : Nat) : Int)]).length = true from rfl, guardO_t, e1]
   simp only [Option.bind_some, List.nil_append]
   have hhead : ([(digest p c).1, (((if s.Done then 1 else 0 : Nat)) : Int), s.Count, s.Blocked, ((s.Frames.length : Nat) : Int)].flatMap fun n => uintB n.toNat) = uintB (digest p c).1.toNat ++ uintB (if s.Done then 1 else 0) ++ uintB s.Count.toNat ++ uintB s.Blocked.toNat ++ uintB s.Frames.length := by
    simp
   rw [hhead]
   have a1 := uintB_le9 (n := (digest p c).1.toNat) (by omega)
   have a2 := uintB_le9 (n := if s.Done then 1 else 0) (by split <;> omega)
   have a3 := uintB_le9 (n := s.Count.toNat) (by omega)
   have a4 := uintB_le9 (n := s.Blocked.toNat) (by omega)
   have a5 := uintB_le9 (n := s.Frames.length) (by omega)
   have g := (own_frames (f := f) (by omega) s.Frames (uintB (digest p c).1.toNat ++ uintB (if s.Done then 1 else 0) ++ uintB s.Count.toNat ++ uintB s.Blocked.toNat ++ uintB s.Frames.length) 0 (fun g hg => ⟨c6 g hg, (hw g hg).1, (hw g hg).2.1⟩) (by unfold nS at hn; simp only [List.length_append]; omega)).1
   rw [g]
   simp only [Option.bind_some]
   show Option.bind (frame_Seal f (payB (digest p c).1 s)) _ = _
   rw [own_seal (by omega) (by omega)]; rfl
 ·rw [decide_eq_false h1, if_pos (show (digest p c).2 ≠ 0 from h1)]; rfl
end Go.Dc.Pl
end
section
set_option linter.all false
namespace Go.Dc
open Go Go.Hw Go.Proofs
set_option maxRecDepth 100000
def checkpoint_Decode (fuelN : Nat) (a0 : Program) (a1 : Config) (a2 : List UInt8) : Option (Snapshot × Int) :=
 Option.bind (checkpoint_Digest fuelN a0 a1) (fun y1 => cond (!(eqI y1.2 0)) (some (({ Frames := [], Done := false, Count := 0, Blocked := 0 } : Snapshot), y1.2)) (Option.bind (frame_Open fuelN a2) (fun y4 => cond (!(eqI y4.2.2 0)) (some (({ Frames := [], Done := false, Count := 0, Blocked := 0 } : Snapshot), y4.2.2)) (cond (ltI 0 ((y4.2.1.length : Nat) : Int)) (some (({ Frames := [], Done := false, Count := 0, Blocked := 0 } : Snapshot), 3)) (Option.bind (checkpoint_rest_uint_CheckpointDecoder fuelN ({ rest := ({ bytes := y4.1, err := 0 } : CheckpointRest), done := 0, out := ({ Frames := ([] : List Frame), Done := false, Count := 0, Blocked := 0 } : Snapshot) } : CheckpointDecoder)) (fun y8 => cond (!(eqI y8.2.rest.err 0)) (some (({ Frames := [], Done := false, Count := 0, Blocked := 0 } : Snapshot), y8.2.rest.err)) (cond (!(eqI y8.1 y1.1)) (some (({ Frames := [], Done := false, Count := 0, Blocked := 0 } : Snapshot), 30)) (Option.bind (checkpoint_decoder_snapshot fuelN y8.2) (fun y12 => cond (!(eqI y12.rest.err 0)) (some (({ Frames := [], Done := false, Count := 0, Blocked := 0 } : Snapshot), y12.rest.err)) (cond (!(orB (ltI 1 y12.done) (ltI 0 ((y12.rest.bytes.length : Nat) : Int)))) (Option.bind (checkpoint_Valid fuelN y12.out) (fun y16 => cond (!y16) (some (({ Frames := [], Done := false, Count := 0, Blocked := 0 } : Snapshot), 3)) (some (y12.out, 0)))) (some (({ Frames := [], Done := false, Count := 0, Blocked := 0 } : Snapshot), 3))))))))))))
set_option maxHeartbeats 2000000 in
theorem at_checkpoint_Decode {fuelN : Nat} {a0 : Program} {a1 : Config} {a2 : List UInt8} {r : Snapshot × Int} (hs : checkpoint_Decode fuelN a0 a1 a2 = some r) : At Tryd.prog 12 [.agg (eA a0), .agg (eA a1), .cell (sC a2)] (.tup [.agg (eA r.1), iV .i64 r.2]) := by
 refine at_bound (by kernel_rfl) fun hb => ?_
 have hb1 : LenOk (.sl a0.Vars.length (encL a0.Vars)) := lkc hb
 have hb2 : LenOk (.sl a0.Mutexes.length (encL a0.Mutexes)) := lkc hb
 have hb3 : LenOk (.sl a0.Conds.length (encL a0.Conds)) := lkc hb
 have hb4 : LenOk (.sl a0.Funcs.length (encL a0.Funcs)) := lkc hb
 have hb5 : LenOk (.sl a0.Threads.length (encL a0.Threads)) := lkc hb
 have hb6 : LenOk (.sl a2.length (encL a2)) := lkc hb
 refine at_code mixed Tryd.func12 (by kernel_rfl) rfl (by kernel_rfl) rfl fun Q hQ => ?_
 rw [checkpoint_Decode] at hs
 refine goR f0 ?_
 revert hs; refine bK fun y1 hx2 hs => ?_
 refine cP f0 (at_checkpoint_Digest hx2) ?_
 refine goR f0 ?_
 revert hs; refine cS f0 ?_ ?_ <;> intro h3 hs
 ·refine goR f0 ?_
  obtain rfl := sj hs
  exact hQ _ _ (rg f0 (Gh.unz _))
 ·refine goR f0 ?_
  revert hs; refine bK fun y4 hx5 hs => ?_
  refine cP f0 (at_frame_Open hx5) ?_
  refine goR f0 ?_
  revert hs; refine cS f0 ?_ ?_ <;> intro h6 hs
  ·refine goR f0 ?_
   obtain rfl := sj hs
   exact hQ _ _ (rg f0 (Gh.unz _))
  ·refine goR f0 ?_
   revert hs; refine cS f0 ?_ ?_ <;> intro h7 hs
   ·refine goR f0 ?_
    obtain rfl := sj hs
    exact hQ _ _ (rg f0 (Gh.unz _))
   ·refine goN f0 ?_
    refine awp_reg ?_
    refine goN f0 ?_
    refine awp_gh (by rfl) ((Gh.voidB _ (.l 1) (.o 7 3 0) 3 4 rfl (by simp; rfl) (by first | rfl | simp) (by simp)).trans (Gh.close _ (.o 7 3 0) 3)) ?_
    try simp only [St.frz, St.pur]
    refine goR f0 ?_
    revert hs; refine bK fun y8 hx9 hs => ?_
    refine cB f0 (at_checkpoint_rest_uint_CheckpointDecoder hx9) [.o 7 3 0] ?_
    refine goR f0 ?_
    revert hs; refine cS f0 ?_ ?_ <;> intro h10 hs
    ·refine goD f0 ?_
     obtain rfl := sj hs
     exact hQ _ _ (rg f0 (Gh.unz _))
    ·refine goR f0 ?_
     revert hs; refine cS f0 ?_ ?_ <;> intro h11 hs
     ·refine goR f0 ?_
      obtain rfl := sj hs
      exact hQ _ _ (rg f0 (Gh.unz _))
     ·refine goR f0 ?_
      revert hs; refine bK fun y12 hx13 hs => ?_
      refine cB f0 (at_checkpoint_decoder_snapshot hx13) [.o 7 3 0] ?_
      refine goR f0 ?_
      revert hs; refine cS f0 ?_ ?_ <;> intro h14 hs
      ·refine goD f0 ?_
       obtain rfl := sj hs
       exact hQ _ _ (rg f0 (Gh.unz _))
      ·refine goG f0 f0 ?_
       refine gsel_split (fun h15 => ?_) (fun h15 => ?_)
       ·replace hs := condT h15 hs
        simp only [Bool.not_eq_true', Bool.not_eq_false', Bool.not_not] at h15
        refine goG h15 h15 ?_
        revert hs; refine bK fun y16 hx17 hs => ?_
        refine cA h15 (at_checkpoint_Valid hx17) ?_
        refine goG h15 h15 ?_
        revert hs; refine cS h15 ?_ ?_ <;> intro h18 hs
        ·refine goG h15 h15 ?_
         obtain rfl := sj hs
         exact hQ _ _ (rg h15 (Gh.unz _))
        ·refine goG h15 h15 ?_
         obtain rfl := sj hs
         exact hQ _ _ (rg h15 (Gh.frz _ (.o 13 18 3)))
       ·replace hs := condF h15 hs
        simp only [Bool.not_eq_true', Bool.not_eq_false', Bool.not_not] at h15
        refine goG h15 h15 ?_
        obtain rfl := sj hs
        exact hQ _ _ (rg h15 (Gh.unz _))
end Go.Dc
end
section
set_option linter.all false
namespace Go.Dc.Pl
open Go Go.Hw Go.Dc
theorem trL_wid {F : Rd -> List Tree × Rd} {B m : Nat} (hF : ∀ r, meas (F r).2 <= meas r /\ (F r).2.1.length <= r.1.length) (hW : ∀ r, meas r <= B -> wid B m (F r).1) :
  ∀ (rem : Nat) (r : Rd) (acc : List Tree), meas r <= B -> (∀ k ∈ acc, wid B m k.Kids) -> (trL F rem r acc).1.length <= acc.length + meas r /\ ∀ k ∈ (trL F rem r acc).1, wid B m k.Kids
 | 0, r, acc, _, h => ⟨by simp [trL], h⟩
 | rem + 1, r, acc, hm, h => by
  rw [trL]; split
  ·rename_i h0
   have h1 := rdI_meas r
   have h1' := h1.2.2 h0
   have h2 := hF (rdI r).2
   have h3 := trL_wid hF hW rem (F (rdI r).2).2 (acc ++ [⟨(rdI r).1, (F (rdI r).2).1⟩]) (by omega) (fun k hk => by
    rcases List.mem_append.1 hk with hk | hk
    ·exact h k hk
    ·rw [List.mem_singleton.1 hk]; exact hW _ (by omega))
   refine ⟨?_, h3.2⟩
   have := h3.1
   rw [List.length_append, List.length_singleton] at this
   omega
  ·exact ⟨by simp, h⟩
theorem tr_wid {B : Nat} : ∀ (m : Nat) (r : Rd), meas r <= B -> wid B m (tr m r).1
 | 0, r, h => trivial
 | m + 1, r, h => by
  rw [tr]
  have h1 := rdU_meas r; have h2 := deep_meas (m + 1) (rdU r)
  have := trL_wid (tr_meas m) (tr_wid (B := B) m) (rdU r).1.toNat (deep (m + 1) (rdU r)) [] (by omega) (fun k hk => by cases hk)
  refine ⟨?_, this.2⟩
  have := this.1; simp at this; omega
theorem frL_wid {B : Nat} : ∀ (rem : Nat) (r : Rd) (acc : List Frame), meas r <= B -> (∀ f ∈ acc, wid B 512 f.Tree.Kids) -> ∀ f ∈ (frL rem r acc).1, wid B 512 f.Tree.Kids
 | 0, r, acc, _, h => h
 | rem + 1, r, acc, hm, h => by
  rw [frL]; split
  ·have h1 := rdI_meas r
   have h2 := rdL_meas (rdI r).2
   have h3 := tr_meas 512 (rdL (rdI r).2).2
   exact frL_wid rem _ _ (by omega) (fun k hk => by
    rcases List.mem_append.1 hk with hk | hk
    ·exact h k hk
    ·rw [List.mem_singleton.1 hk]; exact tr_wid 512 _ (by omega))
  ·exact h
theorem many_meas (x : Int × Rd) : meas (many x) <= meas x.2 := by
 unfold many; split
 ·simp [meas]
 ·exact Nat.le_refl _
theorem snapR_wid {B : Nat} {r : Rd} (h : meas r <= B) : ∀ f ∈ (snapR r).2.1.Frames, wid B 512 f.Tree.Kids := by
 have h1 := rdU_meas r
 have h2 := rdU_meas (rdU r).2
 have h3 := rdU_meas (rdU (rdU r).2).2
 have h4 := rdU_meas (rdU (rdU (rdU r).2).2).2
 have h5 := many_meas (rdU (rdU (rdU (rdU r).2).2).2)
 exact frL_wid _ _ [] (by omega) (fun f hf => by cases hf)
def snap0 : Snapshot := ⟨[], false, 0, 0⟩
/-- What Decode comes to, behind a digest. -/
def decodeB (dg : Int × Int) (b : List UInt8) : Snapshot × Int :=
 if dg.2 ≠ 0 then (snap0, dg.2)
 else if (openB b).2.2 ≠ 0 then (snap0, (openB b).2.2)
 else if 0 < (openB b).2.1.length then (snap0, 3)
 else if (rdU ((openB b).1, 0)).2.2 ≠ 0 then (snap0, (rdU ((openB b).1, 0)).2.2)
 else if (rdU ((openB b).1, 0)).1 ≠ dg.1 then (snap0, 30)
 else if (snapR (rdU ((openB b).1, 0)).2).2.2.2 ≠ 0 then (snap0, (snapR (rdU ((openB b).1, 0)).2).2.2.2)
 else if 1 < (snapR (rdU ((openB b).1, 0)).2).1 \/ 0 < (snapR (rdU ((openB b).1, 0)).2).2.2.1.length \/ validS (snapR (rdU ((openB b).1, 0)).2).2.1 = false then (snap0, 3)
 else ((snapR (rdU ((openB b).1, 0)).2).2.1, 0)
theorem openB_len (b : List UInt8) : (openB b).1.length <= b.length := by
 unfold openB; split
 ·simp
 ·split
  ·simp
  ·split
   ·simp; omega
   ·simp
theorem own_decode {f : Nat} {p : Program} {c : Config} {b : List UInt8} (hp : small p = true) (hb : b.length <= 100000000) (hf : b.length + 1100000 <= f) :
  checkpoint_Decode f p c b = some (decodeB (digest p c) b) := by
 unfold checkpoint_Decode decodeB
 rw [own_digest (by omega) c hp, Option.bind_some, eqI_d]
 by_cases h1 : (digest p c).2 = 0
 ·rw [decide_eq_true h1, Bool.not_true, cond_false, if_neg (fun h : (digest p c).2 ≠ 0 => h h1), own_open (by omega) (by omega), Option.bind_some, eqI_d]
  by_cases h2 : (openB b).2.2 = 0
  ·rw [decide_eq_true h2, Bool.not_true, cond_false, if_neg (fun h : (openB b).2.2 ≠ 0 => h h2), ltI_d]
   by_cases h3 : 0 < (openB b).2.1.length
   ·rw [if_pos h3, decide_eq_true (by omega)]; rfl
   ·have hl := openB_len b
    rw [if_neg h3, decide_eq_false (by omega), cond_false]
    have e1 := own_rdU (f := f) (d := mkD ((openB b).1, 0) 0 [] false 0 0) (by omega) (by show (openB b).1.length <= _; omega)
    rw [show rst (mkD ((openB b).1, 0) 0 [] false 0 0) = ((openB b).1, 0) from rfl] at e1
    have hm := rdU_meas ((openB b).1, 0)
    have hm0 : meas ((openB b).1, 0) = (openB b).1.length + 1 := meas_pos rfl
    refine (congrArg (fun o => Option.bind o _) e1).trans ?_
    generalize rdU ((openB b).1, 0) = x at hm ⊢
    simp only [Option.bind_some]
    show cond (!(eqI x.2.2 0)) (some (_, x.2.2)) (cond (!(eqI x.1 _)) _ _) = _
    rw [eqI_d, eqI_d]
    by_cases h4 : x.2.2 = 0
    ·rw [decide_eq_true h4, Bool.not_true, cond_false, if_neg (fun h : x.2.2 ≠ 0 => h h4)]
     by_cases h5 : x.1 = (digest p c).1
     ·rw [decide_eq_true h5, Bool.not_true, cond_false, if_neg (fun h : x.1 ≠ (digest p c).1 => h h5)]
      have hx : x.2.1.length <= b.length := Nat.le_trans hm.2.1 hl
      have e2 := own_snap (f := f) (r := x.2) (by omega) (by omega)
      refine (congrArg (fun o => Option.bind o _) e2).trans ?_
      have hw := snapR_wid (B := b.length + 1) (r := x.2) (by have := hm.1; omega)
      generalize hS : snapR x.2 = S at hw ⊢
      obtain ⟨dn, s, r⟩ := S
      simp only [Option.bind_some]
      have e3 := own_valid (B := b.length + 1) (n := f) (by omega) (s := s) (by omega) hw
      show cond (!(eqI r.2 0)) (some (_, r.2)) (cond (!(orB (ltI 1 dn) (ltI 0 ((r.1.length : Nat) : Int)))) (Option.bind (checkpoint_Valid f s) _) _) = _
      rw [e3, eqI_d, orB_d, ltI_d, ltI_d, <- Bool.decide_or]
      by_cases h6 : r.2 = 0
      ·rw [decide_eq_true h6, Bool.not_true, cond_false, if_neg (fun h : r.2 ≠ 0 => h h6)]
       by_cases h7 : 1 < dn \/ 0 < r.1.length
       ·rw [if_pos (by rcases h7 with h | h; exact .inl h; exact .inr (.inl h)), decide_eq_true (by omega)]; rfl
       ·rw [decide_eq_false (by omega), Bool.not_false, cond_true, Option.bind_some]
        cases hv : validS s with
        | false => rw [if_pos (.inr (.inr rfl))]; rfl
        | true => rw [if_neg (fun h => by rcases h with h | h | h; exact h7 (.inl h); exact h7 (.inr h); cases h)]; rfl
      ·rw [decide_eq_false h6, if_pos (show r.2 ≠ 0 from h6)]; rfl
     ·rw [decide_eq_false h5, if_pos (show x.1 ≠ (digest p c).1 from h5)]; rfl
    ·rw [decide_eq_false h4, if_pos (show x.2.2 ≠ 0 from h4)]; rfl
  ·rw [decide_eq_false h2, if_pos (show (openB b).2.2 ≠ 0 from h2)]; rfl
 ·rw [decide_eq_false h1, if_pos (show (digest p c).2 ≠ 0 from h1)]; rfl
end Go.Dc.Pl
end
section
set_option linter.all false
namespace Go.Dc.Pl
open Go Go.Hw Go.Dc
theorem valB_uintB (n : Nat) : valB (uintB n) = n := by
 induction n using Nat.strongRecOn with
 | _ n ih =>
  by_cases h : n < 128
  ·rw [uintB_lt h]; simp only [valB, byteN_toNat]; omega
  ·rw [uintB_ge (by omega)]; simp only [valB, byteN_toNat, ih (n / 128) (by omega)]; omega
/-- The shape of a number's encoding. -/
theorem uintB_shape (n : Nat) : ∃ init c, uintB n = init ++ [c] /\ (∀ b ∈ init, ¬ b.toNat < 128) /\ c.toNat < 128 /\ (c.toNat = 0 -> init = []) := by
 induction n using Nat.strongRecOn with
 | _ n ih =>
  by_cases h : n < 128
  ·exact ⟨[], byteN n, by rw [uintB_lt h]; rfl, by simp, by rw [byteN_toNat]; omega, fun _ => rfl⟩
  ·obtain ⟨init, c, e, h1, h2, h3⟩ := ih (n / 128) (by omega)
   refine ⟨byteN (n % 128 + 128) :: init, c, by rw [uintB_ge (by omega), e]; rfl, ?_, h2, fun hc => ?_⟩
   ·intro b hb
    rcases List.mem_cons.1 hb with rfl | hb
    ·rw [byteN_toNat]; omega
    ·exact h1 b hb
   ·have := valB_uintB (n / 128)
    rw [e, h3 hc] at this
    simp [valB, hc] at this
    omega
theorem lead_init : ∀ (init : List UInt8) (f : Nat) (c : UInt8) (r : List UInt8), (∀ b ∈ init, ¬ b.toNat < 128) -> c.toNat < 128 -> init.length < f -> lead f (init ++ c :: r) = init.length
 | [], f + 1, c, r, _, hc, _ => by simp [lead, hc]
 | b :: init, f + 1, c, r, h, hc, hf => by
  have hb := h b (by simp)
  rw [List.cons_append, lead, if_neg hb, lead_init init f c r (fun x hx => h x (by simp [hx])) hc (by simpa using hf)]; rfl
theorem lead_all : ∀ (l : List UInt8) (f : Nat), (∀ b ∈ l, ¬ b.toNat < 128) -> l.length <= f -> lead f l = l.length
 | [], 0, _, _ => rfl
 | [], f + 1, _, _ => rfl
 | b :: l, f + 1, h, hf => by
  rw [lead, if_neg (h b (by simp)), lead_all l f (fun x hx => h x (by simp [hx])) (by simpa using hf)]; rfl
theorem dec_uintB {n : Nat} (hn : n <= 4611686018427387904) (r : List UInt8) : dec (uintB n ++ r) = (n, (uintB n).length, 0) := by
 obtain ⟨init, c, e, h1, h2, h3⟩ := uintB_shape n
 have hl := uintB_le9 hn
 have hv := valB_uintB n
 rw [e] at hl hv ⊢
 have hk : init.length <= 8 := by simp at hl; omega
 have hld : lead 9 (init ++ [c] ++ r) = init.length := by
  rw [List.append_assoc]; exact lead_init init 9 c r h1 h2 (by omega)
 unfold dec
 simp only [hld]
 have g1 : (init ++ [c] ++ r).getD init.length 0 = c := by simp
 have g2 : (init ++ [c] ++ r).take (init.length + 1) = init ++ [c] := by
  rw [List.take_append_of_le_length (by simp), List.take_of_length_le (by simp)]
 rw [if_neg (by omega), if_neg (by simp), g1, g2, hv, if_neg (by rintro ⟨hc, hp⟩; rw [h3 hc] at hp; simp at hp), if_neg (by omega)]
 simp
theorem dec_short {l : List UInt8} (h : ∀ b ∈ l, ¬ b.toNat < 128) (hl : l.length < 9) : dec l = (0, 0, 22) := by
 have hld := lead_all l 9 h (by omega)
 unfold dec
 simp only [hld]
 rw [if_neg (by omega)]; simp
theorem decInt_uintB {n : Int} (hn : inR n = true) (r : List UInt8) : decInt (uintB (intCode n) ++ r) = (n, (uintB (intCode n)).length, 0) := by
 have hd := dec_uintB (intCode_le hn) r
 unfold decInt
 simp only [hd]
 rw [if_neg (by simp)]
 unfold intCode
 by_cases h0 : 0 <= n
 ·rw [if_pos h0, if_pos (by omega)]
  have : (((2 * n).toNat / 2 : Nat) : Int) = n := by omega
  rw [this]
 ·rw [if_neg h0, if_neg (by omega)]
  have : (-(((-2 * n - 1).toNat / 2 : Nat) + 1 : Int)) = n := by omega
  rw [this]
theorem decInts_encInts : ∀ (l : List Int) (r : List UInt8), l.all inR = true -> decInts l.length (encInts l ++ r) = (l, r, 0)
 | [], r, _ => rfl
 | n :: l, r, h => by
  simp only [List.all_cons, Bool.and_eq_true] at h
  have e : encInts (n :: l) ++ r = uintB (intCode n) ++ (encInts l ++ r) := by simp [encInts]
  rw [e, List.length_cons, decInts]
  simp only [decInt_uintB h.1]
  rw [if_neg (by simp), List.drop_left, decInts_encInts l r h.2]
  simp
/-- A proper prefix of a frame is short. -/
theorem open_prefix {p : List UInt8} (hp : p.length <= 100000000) {i : Nat} (hi : i < (sealB p).length) : openB ((sealB p).take i) = ([], [], 22) := by
 have hn : p.length <= 4611686018427387904 := by omega
 have hs : sealB p = uintB p.length ++ (p ++ sumB (crc (uintB p.length ++ p))) := by simp [sealB]
 have h4 : (sumB (crc (uintB p.length ++ p))).length = 4 := rfl
 rw [hs] at hi ⊢
 generalize sumB (crc (uintB p.length ++ p)) = s at h4 hi
 have hu9 := uintB_le9 hn
 rcases Nat.lt_or_ge i (uintB p.length).length with h | h
 ·have e : (uintB p.length ++ (p ++ s)).take i = (uintB p.length).take i := List.take_append_of_le_length (by omega)
  have hd : dec ((uintB p.length).take i) = (0, 0, 22) := by
   obtain ⟨init, c, e, h1, h2, h3⟩ := uintB_shape p.length
   rw [e] at h ⊢ hu9
   simp at h hu9
   rw [List.take_append_of_le_length (by omega)]
   exact dec_short (fun b hb => h1 b (List.mem_of_mem_take hb)) (by simp; omega)
  rw [e, openB]; simp only [hd]; simp
 ·have e : (uintB p.length ++ (p ++ s)).take i = uintB p.length ++ (p ++ s).take (i - (uintB p.length).length) := by rw [List.take_append, List.take_of_length_le h]
  have hd := dec_uintB hn ((p ++ s).take (i - (uintB p.length).length))
  rw [e, openB]; simp only [hd]
  simp only [List.length_append] at hi
  rw [if_neg (by simp), if_pos (by simp only [List.length_append, List.length_take]; omega)]
theorem openB_app {p : List UInt8} (hp : p.length <= 100000000) (r : List UInt8) : openB (sealB p ++ r) = (p, r, 0) := by
 have hn : p.length <= 4611686018427387904 := by omega
 have e : sealB p ++ r = uintB p.length ++ (p ++ (sumB (crc (uintB p.length ++ p)) ++ r)) := by simp [sealB]
 have hd := dec_uintB hn (p ++ (sumB (crc (uintB p.length ++ p)) ++ r))
 rw [openB, e]
 simp only [hd]
 rw [if_neg (by simp), if_neg (by simp [sumB]; omega)]
 have e2 : uintB p.length ++ (p ++ (sumB (crc (uintB p.length ++ p)) ++ r)) = (uintB p.length ++ p) ++ (sumB (crc (uintB p.length ++ p)) ++ r) := by simp
 have e3 : (uintB p.length).length + p.length = (uintB p.length ++ p).length := by simp
 rw [e2, e3, List.drop_left, List.take_left]
 have e4 : (sumB (crc (uintB p.length ++ p)) ++ r).take 4 = sumB (crc (uintB p.length ++ p)) := by
  rw [List.take_append_of_le_length (by simp [sumB]), List.take_of_length_le (by simp [sumB])]
 have e6 : (uintB p.length ++ p ++ (sumB (crc (uintB p.length ++ p)) ++ r)).drop (uintB p.length).length = p ++ (sumB (crc (uintB p.length ++ p)) ++ r) := by rw [List.append_assoc, List.drop_left]
 rw [e4, if_pos rfl, e6, List.take_left]
 have e5 : ((uintB p.length ++ p) ++ (sumB (crc (uintB p.length ++ p)) ++ r)).drop ((uintB p.length ++ p).length + 4) = r := by
  rw [<- List.drop_drop, List.drop_left]; rfl
 rw [e5]
/-! Readers. -/
theorem rdU_app {n : Nat} (h : n <= 4611686018427387904) (r : List UInt8) : rdU (uintB n ++ r, 0) = ((n : Int), (r, 0)) := by
 have hd := dec_uintB h r
 show uintR _ = _
 unfold uintR
 simp only [hd, List.drop_left]; rfl
theorem rdI_app {n : Int} (h : inR n = true) (r : List UInt8) : rdI (uintB (intCode n) ++ r, 0) = (n, (r, 0)) := by
 have hd := decInt_uintB h r
 show intR _ = _
 unfold intR
 simp only [hd, List.drop_left]; rfl
theorem rdL_app {l : List Int} (hl : l.length <= 2048) (h : l.all inR = true) (r : List UInt8) : rdL (uintB l.length ++ encInts l ++ r, 0) = (l, (r, 0)) := by
 have hd := dec_uintB (n := l.length) (by omega) (encInts l ++ r)
 show intsR 2048 _ = _
 unfold intsR
 rw [List.append_assoc, hd]
 simp only []
 rw [if_neg (by simp), if_neg (by simp; omega), List.drop_left, decInts_encInts l r h]
/-! Trees. -/
theorem trL_app {F : Rd -> List Tree × Rd} {m : Nat} (hF : ∀ (l : List Tree) (r : List UInt8), shal m l = true -> (∀ k, wid 1000000000 k l) -> F (encT m l ++ r, 0) = (l, (r, 0))) :
  ∀ (l : List Tree) (r : List UInt8) (acc : List Tree), (∀ k ∈ l, agentOk k.Agent = true /\ shal m k.Kids = true /\ ∀ j, wid 1000000000 j k.Kids) ->
   trL F l.length ((l.flatMap fun k => uintB (intCode k.Agent) ++ encT m k.Kids) ++ r, 0) acc = (acc ++ l, (r, 0))
 | [], r, acc, _ => by simp [trL]
 | x :: l, r, acc, h => by
  obtain ⟨h1, h2, h3⟩ := h x (by simp)
  rw [List.length_cons, trL, if_pos rfl, List.flatMap_cons, List.append_assoc, List.append_assoc, rdI_app (agent_inR h1)]
  simp only []
  rw [hF x.Kids _ h2 h3]
  simp only []
  rw [trL_app hF l r _ (fun k hk => h k (by simp [hk]))]
  have hx : (⟨x.Agent, x.Kids⟩ : Tree) = x := by cases x; rfl
  rw [hx]; simp
theorem tr_app : ∀ (m : Nat) (l : List Tree) (r : List UInt8), shal m l = true -> (∀ k, wid 1000000000 k l) -> tr m (encT m l ++ r, 0) = (l, (r, 0))
 | 0, l, r, hs, _ => by
  simp only [shal, decide_eq_true_eq, List.length_eq_zero_iff] at hs
  subst hs
  rw [tr, encT, rdU_app (by simp)]
  have : deep 0 (((([] : List Tree).length : Nat) : Int), (r, 0)) = (r, 0) := by unfold deep; rw [if_neg (fun h => by have := h.2.1; simp at this)]
  rw [this]; rfl
 | m + 1, l, r, hs, hw => by
  rw [shal, List.all_eq_true] at hs
  have hl : l.length <= 1000000000 := (hw 1).1
  rw [tr, encT, List.append_assoc, rdU_app (by omega)]
  have : deep (m + 1) (((l.length : Nat) : Int), ((l.flatMap fun k => uintB (intCode k.Agent) ++ encT m k.Kids) ++ r, 0)) = ((l.flatMap fun k => uintB (intCode k.Agent) ++ encT m k.Kids) ++ r, 0) := by unfold deep; rw [if_neg (fun h => by omega)]
  rw [this]
  simp only [Int.toNat_natCast]
  rw [trL_app (tr_app m) l r [] (fun k hk => by
   have := hs k hk
   rw [Bool.and_eq_true] at this
   exact ⟨this.1, this.2, fun j => (hw (j + 1)).2 k hk⟩)]
  simp
/-! Frames. -/
theorem frL_app : ∀ (l : List Frame) (r : List UInt8) (acc : List Frame), (∀ g ∈ l, validF g = true /\ ∀ k, wid 1000000000 k g.Tree.Kids) -> frL l.length (l.flatMap encF ++ r, 0) acc = (acc ++ l, (r, 0))
 | [], r, acc, _ => by simp [frL]
 | x :: l, r, acc, h => by
  obtain ⟨h1, h2⟩ := h x (by simp)
  obtain ⟨v1, v2, v3, v4, v5⟩ := validF_t h1
  have e : (x :: l).flatMap encF ++ r = uintB (intCode x.Agent) ++ (uintB x.Sleep.length ++ encInts x.Sleep ++ (encT 512 x.Tree.Kids ++ (l.flatMap encF ++ r))) := by
   rw [List.flatMap_cons, encF]; simp
  rw [List.length_cons, frL, if_pos rfl, e, rdI_app (agent_inR v1)]
  simp only []
  rw [rdL_app v2 v3]
  simp only []
  rw [tr_app 512 _ _ v4 h2]
  simp only []
  rw [frL_app l r _ (fun g hg => h g (by simp [hg]))]
  have h0 : x.Tree.Agent = 0 := by
   unfold wakeOk at v5
   rw [Bool.and_eq_true, eqI_d, decide_eq_true_eq] at v5
   exact v5.1
  have : (⟨x.Agent, x.Sleep, ⟨0, x.Tree.Kids⟩⟩ : Frame) = x := by
   obtain ⟨a, s, ⟨t, k⟩⟩ := x
   simp only at h0; subst h0; rfl
  rw [this]; simp
/-! Snapshots. -/
theorem snapR_app {s : Snapshot} (hv : validS s = true) (hw : ∀ g ∈ s.Frames, ∀ k, wid 1000000000 k g.Tree.Kids) :
  snapR (uintB (if s.Done then 1 else 0) ++ uintB s.Count.toNat ++ uintB s.Blocked.toNat ++ uintB s.Frames.length ++ s.Frames.flatMap encF, 0) = ((if s.Done then 1 else 0), s, ([], 0)) := by
 obtain ⟨c1, c2, c3, c4, c5, c6⟩ := validS_t hv
 unfold snapR
 simp only [List.append_assoc]
 rw [rdU_app (by split <;> omega)]
 simp only []
 rw [rdU_app (by omega)]
 simp only []
 rw [rdU_app (by omega)]
 simp only []
 rw [rdU_app (by omega)]
 simp only [Int.toNat_natCast]
 have hm : many (((s.Frames.length : Nat) : Int), (s.Frames.flatMap encF, 0)) = (s.Frames.flatMap encF ++ [], 0) := by
  unfold many; rw [if_neg (fun h => by have := h.2; simp at this; omega)]; simp
 rw [hm, frL_app s.Frames [] [] (fun g hg => ⟨c6 g hg, hw g hg⟩)]
 have e1 : ((s.Count.toNat : Nat) : Int) = s.Count := by omega
 have e2 : ((s.Blocked.toNat : Nat) : Int) = s.Blocked := by omega
 rw [e1, e2]
 obtain ⟨fr, d, c, b⟩ := s
 cases d <;> rfl
theorem decode_encode {dg : Int × Int} {s : Snapshot} (hd : 0 <= dg.1 /\ dg.1 < 4294967296) (h0 : dg.2 = 0) (hv : validS s = true) (hw : ∀ g ∈ s.Frames, ∀ k, wid 1000000000 k g.Tree.Kids) (hl : (payB dg.1 s).length <= 100000000) :
  decodeB dg (sealB (payB dg.1 s)) = (s, 0) := by
 have ho := openB_app hl []
 rw [List.append_nil] at ho
 have hp : payB dg.1 s = uintB dg.1.toNat ++ (uintB (if s.Done then 1 else 0) ++ uintB s.Count.toNat ++ uintB s.Blocked.toNat ++ uintB s.Frames.length ++ s.Frames.flatMap encF) := by unfold payB; simp
 have hu := rdU_app (n := dg.1.toNat) (by omega) (uintB (if s.Done then 1 else 0) ++ uintB s.Count.toNat ++ uintB s.Blocked.toNat ++ uintB s.Frames.length ++ s.Frames.flatMap encF)
 rw [<- hp] at hu
 unfold decodeB
 rw [if_neg (fun h : dg.2 ≠ 0 => h h0), ho]
 simp only []
 rw [if_neg (by simp), if_neg (by simp), hu]
 simp only []
 rw [if_neg (by simp), if_neg (by omega), snapR_app hv hw]
 simp only []
 rw [if_neg (by simp), if_neg]
 rintro (h | h | h)
 ·split at h <;> omega
 ·simp at h
 ·rw [hv] at h; cases h
end Go.Dc.Pl
end
section
set_option linter.all false
namespace Go.Dc
open Go Go.Hw Go.Proofs
set_option maxRecDepth 100000
def r02_Ints_L1 (a1 : List Int) : List Int -> Nat -> Option (Unit ⊕ Bool)
 | [], k76 => some (.inl ())
 | x102 :: q98, k76 => Option.bind (a1[k76]?) (fun x109 => cond (!(eqI x102 x109)) (some (.inr false)) (r02_Ints_L1 a1 q98 (k76 + 1)))
def r02_Ints (a0 : List Int) (a1 : List Int) : Option Bool :=
 cond (!(eqI ((a0.length : Nat) : Int) ((a1.length : Nat) : Int))) (some false) (Option.bind (α := Unit ⊕ Bool) (Option.bind (r02_Ints_L1 a1 a0 0) (fun o => match o with | .inl _ => some (.inl ()) | .inr r113 => some (.inr r113))) (fun o => match o with | .inl _ => some true | .inr r114 => some r114))
set_option maxHeartbeats 2000000 in
theorem at_r02_Ints {a0 : List Int} {a1 : List Int} {r : Bool} (hs : r02_Ints a0 a1 = some r) : At Tryd.prog 38 [.cell (sC a0), .cell (sC a1)] (bV r) := by
 refine at_bound (by kernel_rfl) fun hb => ?_
 have hb1 : LenOk (.sl a0.length (encL a0)) := lkc hb
 have hb2 : LenOk (.sl a1.length (encL a1)) := lkc hb
 refine at_code mixed Tryd.func38 (by kernel_rfl) rfl (by kernel_rfl) rfl fun Q hQ => ?_
 rw [r02_Ints] at hs
 refine goR f0 ?_
 revert hs; refine cS f0 ?_ ?_ <;> intro h1 hs
 ·refine goR f0 ?_
  obtain rfl := sj hs
  exact hQ _ _ (rg f0 (Gh.refl _))
 ·refine goR2 f0 ?_
  revert hs; refine bK fun o57 e56 hs => ?_
  refine awp_cutK (fun (v : Unit) (σ : St) => some (.inl v) = some o57 /\ 3 <= σ.gen) (by rfl) (fun Q hK58 hX59 => ?_) (fun v σ3 hp => ?_)
  ·refine goR f0 ?_
   revert e56; refine bK fun o93 e92 e56 => ?_
   refine awp_loopW (fun (v : (List Int) × Nat) (σ : St) => r02_Ints_L1 a1 v.1 v.2 = some o93 /\ v.1 = a0.drop v.2 /\ σ.env 0 = .cell (sC a0) /\ σ.env 1 = .cell (sC a1) /\ σ.env 5 = iV .i64 ((v.2 : Nat) : Int) /\ 3 <= σ.gen) (fun v => v.1.length) _ (Gh.refl _) (a0, 0) ⟨e92, by simp, pv f0, pv f0, pv f0, pg⟩ fun v σ6 hp L94 hL95 => ?_
   obtain ⟨q97, k76⟩ := v
   dsimp only at hp hL95
   obtain ⟨e92, hd96, h5_0, h5_1, h5_5, n5_g⟩ := hp
   rcases q97 with _ | ⟨x102, q98⟩
   ·have hlt99 := drop_end hd96
    rw [r02_Ints_L1] at e92; try dsimp only at e92
    have F1 := an h5_0 (an h5_1 h5_5)
    refine goR F1 ?_
    refine condK_f (by simp [ltI]; omega) ?_
    obtain rfl := sj e92
    try dsimp only at e56
    exact hK58 () _ _ (Gh.refl _) ⟨e56, pg⟩
   ·obtain ⟨hx101, hlt99, hd103⟩ := drop_next hd96
    have ew100 := wrap_succ hlt99 (hb1).len
    rw [r02_Ints_L1] at e92; try dsimp only at e92
    have F2 := an h5_0 (an h5_1 (an h5_5 (an hlt99 ew100)))
    refine goR F2 ?_
    refine condK_t (by simp [ltI]; omega) ?_
    have f108 : partCV Tryd.prog 3 (encL a0) (k76) = some (iV .i64 x102) := partCV_enc1 hx101 (by simp)
    revert e92; refine bK fun x109 hx110 e92 => ?_
    have hx110b := getN_some hx110
    have f111 : partCV Tryd.prog 3 (encL a1) (k76) = some (iV .i64 x109) := partCV_enc1 hx110 (by simp)
    have F3 := an F2 (an f108 f111)
    refine goD F3 ?_
    revert e92; refine cS F3 ?_ ?_ <;> intro h112 e92
    ·refine goD F3 ?_
     obtain rfl := sj e92
     try dsimp only at e56
     obtain rfl := sj e56
     try dsimp only at hs
     refine hX59 _ _ (by simp) ?_
     refine goD F3 ?_
     obtain rfl := sj hs
     exact hQ _ _ (rg F3 (Gh.refl _))
    ·refine goD F3 ?_
     exact hL95 (q98, (k76 + 1)) _ _ (Gh.refl _) ⟨e92, hd103, pv F3, pv F3, pv F3, pg⟩ (by simp)
  ·obtain ⟨e56, n4_g⟩ := hp
   obtain rfl := sj e56
   try dsimp only at hs
   refine goR f0 ?_
   obtain rfl := sj hs
   exact hQ _ _ (rg f0 (Gh.refl _))
end Go.Dc
end
section
set_option linter.all false
namespace Go.Dc
open Go Go.Hw Go.Proofs
set_option maxRecDepth 100000
def r33_Equal_L1 (a1 : Tree) (rF39z : Tree -> Tree -> Option Bool) : List Tree -> Nat -> Option (Unit ⊕ Bool)
 | [], k92 => some (.inl ())
 | x122 :: q118, k92 => Option.bind (a1.Kids[k92]?) (fun x131 => Option.bind (rF39z x122 x131) (fun y134 => cond (!y134) (some (.inr false)) (r33_Equal_L1 a1 rF39z q118 (k92 + 1))))
def r33_Equal_B (rF39z : Tree -> Tree -> Option Bool) (a0 : Tree) (a1 : Tree) : Option Bool :=
 cond (orB (!(eqI a0.Agent a1.Agent)) (!(eqI ((a0.Kids.length : Nat) : Int) ((a1.Kids.length : Nat) : Int)))) (some false) (Option.bind (α := Unit ⊕ Bool) (Option.bind (r33_Equal_L1 a1 rF39z a0.Kids 0) (fun o => match o with | .inl _ => some (.inl ()) | .inr r137 => some (.inr r137))) (fun o => match o with | .inl _ => some true | .inr r138 => some r138))
def r33_Equal : Nat -> Tree -> Tree -> Option Bool
 | 0 => fun _ _ => none
 | fuelN + 1 => fun a0 a1 => r33_Equal_B (r33_Equal fuelN) a0 a1
set_option maxHeartbeats 2000000 in
theorem at_r33_Equal_B {rF39z : Tree -> Tree -> Option Bool} (ihrF39z : ∀ (a0 : Tree) (a1 : Tree) (r : Bool), rF39z a0 a1 = some r -> At Tryd.prog 39 [.agg (eA a0), .agg (eA a1)] (bV r)) {a0 : Tree} {a1 : Tree} {r : Bool} (hs : r33_Equal_B rF39z a0 a1 = some r) : At Tryd.prog 39 [.agg (eA a0), .agg (eA a1)] (bV r) := by
 refine at_bound (by kernel_rfl) fun hb => ?_
 have hb1 : LenOk (.sl a0.Kids.length (encL a0.Kids)) := lkc hb
 have hb2 : LenOk (.sl a1.Kids.length (encL a1.Kids)) := lkc hb
 refine at_code mixed Tryd.func39 (by kernel_rfl) rfl (by kernel_rfl) rfl fun Q hQ => ?_
 rw [r33_Equal_B] at hs
 refine goG f0 f0 ?_
 revert hs; refine cS f0 ?_ ?_ <;> intro h1 hs
 ·refine goG f0 f0 ?_
  obtain rfl := sj hs
  exact hQ _ _ (rg f0 (Gh.refl _))
 ·refine goG2 f0 f0 ?_
  revert hs; refine bK fun o69 e68 hs => ?_
  refine awp_cutK (fun (v : Unit) (σ : St) => some (.inl v) = some o69 /\ 3 <= σ.gen) (by rfl) (fun Q hK70 hX71 => ?_) (fun v σ3 hp => ?_)
  ·refine goG f0 f0 ?_
   revert e68; refine bK fun o113 e112 e68 => ?_
   refine awp_loopW (fun (v : (List Tree) × Nat) (σ : St) => r33_Equal_L1 a1 rF39z v.1 v.2 = some o113 /\ v.1 = a0.Kids.drop v.2 /\ σ.env 2 = .cell (.ref (.o 1 0 0) 0) /\ σ.env 3 = .cell (.ref (.o 1 1 0) 0) /\ σ.env 5 = iV .i64 ((v.2 : Nat) : Int) /\ σ.hp (.o 1 0 0) = some (.cells (eA a0)) /\ σ.hp (.o 1 1 0) = some (.cells (eA a1)) /\ 3 <= σ.gen) (fun v => v.1.length) _ (Gh.refl _) (a0.Kids, 0) ⟨e112, by simp, pv f0, pv f0, pv f0, pv f0, pv f0, pg⟩ fun v σ6 hp L114 hL115 => ?_
   obtain ⟨q117, k92⟩ := v
   dsimp only at hp hL115
   obtain ⟨e112, hd116, h5_2, h5_3, h5_5, g5_0, g5_1, n5_g⟩ := hp
   have n5_0 : ¬ (σ6.gen = 0) := by omega
   rcases q117 with _ | ⟨x122, q118⟩
   ·have hlt119 := drop_end hd116
    rw [r33_Equal_L1] at e112; try dsimp only at e112
    have F1 := an h5_2 (an h5_3 (an h5_5 (an g5_0 (an g5_1 n5_0))))
    refine goR F1 ?_
    refine condK_f (by simp [ltI]; omega) ?_
    obtain rfl := sj e112
    try dsimp only at e68
    exact hK70 () _ _ (Gh.refl _) ⟨e68, pg⟩
   ·obtain ⟨hx121, hlt119, hd123⟩ := drop_next hd116
    have ew120 := wrap_succ hlt119 (hb1).len
    rw [r33_Equal_L1] at e112; try dsimp only at e112
    have F2 := an h5_2 (an h5_3 (an h5_5 (an g5_0 (an g5_1 (an n5_0 (an hlt119 ew120))))))
    refine goR F2 ?_
    refine condK_t (by simp [ltI]; omega) ?_
    have f130 : partCV Tryd.prog 77 (encL a0.Kids) (k92 * 2) = some (.agg (eA x122)) := partCV_enc hx121 (f := 0) (by simp)
    revert e112; refine bK fun x131 hx132 e112 => ?_
    have hx132b := getN_some hx132
    have f133 : partCV Tryd.prog 77 (encL a1.Kids) (k92 * 2) = some (.agg (eA x131)) := partCV_enc hx132 (f := 0) (by simp)
    have F3 := an F2 (an f130 f133)
    refine goD F3 ?_
    revert e112; refine bK fun y134 hx135 e112 => ?_
    refine cP F3 (ihrF39z _ _ _ hx135) ?_
    refine goD F3 ?_
    revert e112; refine cS F3 ?_ ?_ <;> intro h136 e112
    ·refine goD F3 ?_
     obtain rfl := sj e112
     try dsimp only at e68
     obtain rfl := sj e68
     try dsimp only at hs
     refine hX71 _ _ (by simp) ?_
     refine goD F3 ?_
     obtain rfl := sj hs
     exact hQ _ _ (rg F3 (Gh.refl _))
    ·refine goD F3 ?_
     exact hL115 (q118, (k92 + 1)) _ _ (Gh.refl _) ⟨e112, hd123, pv F3, pv F3, pv F3, pv F3, pv F3, pg⟩ (by simp)
  ·obtain ⟨e68, n4_g⟩ := hp
   obtain rfl := sj e68
   try dsimp only at hs
   refine goG f0 f0 ?_
   obtain rfl := sj hs
   exact hQ _ _ (rg f0 (Gh.refl _))
theorem at_r33_Equal : ∀ {fuelN : Nat} {a0 : Tree} {a1 : Tree} {r : Bool} (hs : r33_Equal fuelN a0 a1 = some r), At Tryd.prog 39 [.agg (eA a0), .agg (eA a1)] (bV r)
 | 0, _, _, _, hs => by rw [r33_Equal] at hs; cases hs
 | n + 1, _, _, _, hs => by
  rw [r33_Equal] at hs
  exact at_r33_Equal_B (fun _ _ _ h => at_r33_Equal h) hs
end Go.Dc
end
section
set_option linter.all false
namespace Go.Dc
open Go Go.Hw Go.Proofs
set_option maxRecDepth 100000
def r49_Same_L1 (fuelN : Nat) (a1 : Snapshot) : List Frame -> Nat -> Option (Unit ⊕ Bool)
 | [], k124 => some (.inl ())
 | x162 :: q158, k124 => Option.bind (a1.Frames[k124]?) (fun x175 => guardO (orB (!(eqI x162.Agent x175.Agent)) ((r02_Ints x162.Sleep x175.Sleep).isSome)) (guardO (orB (!(!(orB (!(eqI x162.Agent x175.Agent)) (!((r02_Ints x162.Sleep x175.Sleep).getD default))))) ((r33_Equal fuelN x162.Tree x175.Tree).isSome)) (cond (orB (orB (!(eqI x162.Agent x175.Agent)) (!((r02_Ints x162.Sleep x175.Sleep).getD default))) (!((r33_Equal fuelN x162.Tree x175.Tree).getD default))) (some (.inr false)) (r49_Same_L1 fuelN a1 q158 (k124 + 1)))))
def r49_Same (fuelN : Nat) (a0 : Snapshot) (a1 : Snapshot) : Option Bool :=
 cond (orB (orB (orB (!(eqB a0.Done a1.Done)) (!(eqI a0.Count a1.Count))) (!(eqI a0.Blocked a1.Blocked))) (!(eqI ((a0.Frames.length : Nat) : Int) ((a1.Frames.length : Nat) : Int)))) (some false) (Option.bind (α := Unit ⊕ Bool) (Option.bind (r49_Same_L1 fuelN a1 a0.Frames 0) (fun o => match o with | .inl _ => some (.inl ()) | .inr r185 => some (.inr r185))) (fun o => match o with | .inl _ => some true | .inr r186 => some r186))
set_option maxHeartbeats 2000000 in
theorem at_r49_Same {fuelN : Nat} {a0 : Snapshot} {a1 : Snapshot} {r : Bool} (hs : r49_Same fuelN a0 a1 = some r) : At Tryd.prog 13 [.agg (eA a0), .agg (eA a1)] (bV r) := by
 refine at_bound (by kernel_rfl) fun hb => ?_
 have hb1 : LenOk (.sl a0.Frames.length (encL a0.Frames)) := lkc hb
 have hb2 : LenOk (.sl a1.Frames.length (encL a1.Frames)) := lkc hb
 refine at_code mixed Tryd.func13 (by kernel_rfl) rfl (by kernel_rfl) rfl fun Q hQ => ?_
 rw [r49_Same] at hs
 refine goG f0 f0 ?_
 revert hs; refine cS f0 ?_ ?_ <;> intro h1 hs
 ·refine goG f0 f0 ?_
  obtain rfl := sj hs
  exact hQ _ _ (rg f0 (Gh.refl _))
 ·refine goG2 f0 f0 ?_
  revert hs; refine bK fun o93 e92 hs => ?_
  refine awp_cutK (fun (v : Unit) (σ : St) => some (.inl v) = some o93 /\ 3 <= σ.gen) (by rfl) (fun Q hK94 hX95 => ?_) (fun v σ3 hp => ?_)
  ·refine goG f0 f0 ?_
   revert e92; refine bK fun o153 e152 e92 => ?_
   refine awp_loopW (fun (v : (List Frame) × Nat) (σ : St) => r49_Same_L1 fuelN a1 v.1 v.2 = some o153 /\ v.1 = a0.Frames.drop v.2 /\ σ.env 2 = .cell (.ref (.o 1 0 0) 0) /\ σ.env 3 = .cell (.ref (.o 1 1 0) 0) /\ σ.env 5 = iV .i64 ((v.2 : Nat) : Int) /\ σ.hp (.o 1 0 0) = some (.cells (eA a0)) /\ σ.hp (.o 1 1 0) = some (.cells (eA a1)) /\ 3 <= σ.gen) (fun v => v.1.length) _ (Gh.refl _) (a0.Frames, 0) ⟨e152, by simp, pv f0, pv f0, pv f0, pv f0, pv f0, pg⟩ fun v σ6 hp L154 hL155 => ?_
   obtain ⟨q157, k124⟩ := v
   dsimp only at hp hL155
   obtain ⟨e152, hd156, h5_2, h5_3, h5_5, g5_0, g5_1, n5_g⟩ := hp
   have n5_0 : ¬ (σ6.gen = 0) := by omega
   rcases q157 with _ | ⟨x162, q158⟩
   ·have hlt159 := drop_end hd156
    rw [r49_Same_L1] at e152; try dsimp only at e152
    have F1 := an h5_2 (an h5_3 (an h5_5 (an g5_0 (an g5_1 n5_0))))
    refine goR F1 ?_
    refine condK_f (by simp [ltI]; omega) ?_
    obtain rfl := sj e152
    try dsimp only at e92
    exact hK94 () _ _ (Gh.refl _) ⟨e92, pg⟩
   ·obtain ⟨hx161, hlt159, hd163⟩ := drop_next hd156
    have ew160 := wrap_succ hlt159 (hb1).len
    rw [r49_Same_L1] at e152; try dsimp only at e152
    have F2 := an h5_2 (an h5_3 (an h5_5 (an g5_0 (an g5_1 (an n5_0 (an hlt159 ew160))))))
    refine goR F2 ?_
    refine condK_t (by simp [ltI]; omega) ?_
    have f174 : partCV Tryd.prog 3 (encL a0.Frames) (k124 * 4) = some (iV .i64 x162.Agent) := partCV_enc hx161 (f := 0) (by simp)
    revert e152; refine bK fun x175 hx176 e152 => ?_
    have hx176b := getN_some hx176
    have f177 : partCV Tryd.prog 3 (encL a1.Frames) (k124 * 4) = some (iV .i64 x175.Agent) := partCV_enc hx176 (f := 0) (by simp)
    have f178 : partCV Tryd.prog 37 (encL a0.Frames) (k124 * 4 + 1) = some (.cell (sC x162.Sleep)) := partCV_enc hx161 (f := 1) (by simp)
    have f179 : partCV Tryd.prog 37 (encL a1.Frames) (k124 * 4 + 1) = some (.cell (sC x175.Sleep)) := partCV_enc hx176 (f := 1) (by simp)
    have F3 := an F2 (an f174 (an f177 (an f178 f179)))
    have F4 := an F3 hx176b
    refine goE F3 F4 ?_
    obtain ⟨g180, e152⟩ := guardO_some e152
    refine dsel_call (fun hg => at_r02_Ints (under_call g180 hg)) (fun hg => by (try simp at hg); (first | simp [hg, F3]); try rfl) (fun hg => by (try simp at hg); simp [hg, F3]) (by simp) ?_
    have f181 : partCV Tryd.prog 77 (encL a0.Frames) (k124 * 4 + 2) = some (.agg (eA x162.Tree)) := partCV_enc hx161 (f := 2) (by simp)
    have f182 : partCV Tryd.prog 77 (encL a1.Frames) (k124 * 4 + 2) = some (.agg (eA x175.Tree)) := partCV_enc hx176 (f := 2) (by simp)
    have F5 := an F3 (an f181 f182)
    have F6 := an F5 hx176b
    refine goE F5 F6 ?_
    obtain ⟨g183, e152⟩ := guardO_some e152
    refine dsel_call (fun hg => at_r33_Equal (under_call g183 hg)) (fun hg => by (try simp at hg); (first | simp [hg, F5]); try rfl) (fun hg => by (try simp at hg); simp [hg, F5]) (by simp) ?_
    refine goE F5 F6 ?_
    revert e152; refine cS F5 ?_ ?_ <;> intro h184 e152
    ·refine goE F5 F6 ?_
     obtain rfl := sj e152
     try dsimp only at e92
     obtain rfl := sj e92
     try dsimp only at hs
     refine hX95 _ _ (by simp) ?_
     refine goE F5 F6 ?_
     obtain rfl := sj hs
     exact hQ _ _ (rg F5 (Gh.refl _))
    ·refine goE F5 F6 ?_
     exact hL155 (q158, (k124 + 1)) _ _ (Gh.refl _) ⟨e152, hd163, pv F5, pv F5, pv F5, pv F5, pv F5, pg⟩ (by simp)
  ·obtain ⟨e92, n4_g⟩ := hp
   obtain rfl := sj e92
   try dsimp only at hs
   refine goG f0 f0 ?_
   obtain rfl := sj hs
   exact hQ _ _ (rg f0 (Gh.refl _))
end Go.Dc
end
section
set_option linter.all false
namespace Go.Dc.Pl
open Go Go.Hw Go.Dc
end Go.Dc.Pl
end
section
set_option linter.all false
namespace Go.Dc
open Go Go.Hw Go.Proofs
set_option maxRecDepth 100000
def r49_nodes_L1 (a1 : Int) (rF31z : Tree -> Int -> Option Int) : List Tree -> Int -> Nat -> Option Int
 | [], i68, k69 => some (i68)
 | x88 :: q84, i68, k69 => Option.bind (rF31z x88 (IntKind.i64.wrap (a1 - 1))) (fun y91 => r49_nodes_L1 a1 rF31z q84 (IntKind.i64.wrap (i68 + y91)) (k69 + 1))
def r49_nodes_B (rF31z : Tree -> Int -> Option Int) (a0 : Tree) (a1 : Int) : Option Int :=
 cond (andB (eqI a1 0) (ltI 0 ((a0.Kids.length : Nat) : Int))) (some 1000000) (Option.bind (α := Int) (Option.bind (r49_nodes_L1 a1 rF31z a0.Kids 1 0) (fun i77 => some (i77))) (fun i45 => some i45))
def r49_nodes : Nat -> Tree -> Int -> Option Int
 | 0 => fun _ _ => none
 | fuelN + 1 => fun a0 a1 => r49_nodes_B (r49_nodes fuelN) a0 a1
set_option maxHeartbeats 2000000 in
theorem at_r49_nodes_B {rF31z : Tree -> Int -> Option Int} (ihrF31z : ∀ (a0 : Tree) (a1 : Int) (r : Int), rF31z a0 a1 = some r -> At Tryd.prog 31 [.agg (eA a0), iV .i64 a1] (iV .i64 r)) {a0 : Tree} {a1 : Int} {r : Int} (hs : r49_nodes_B rF31z a0 a1 = some r) : At Tryd.prog 31 [.agg (eA a0), iV .i64 a1] (iV .i64 r) := by
 refine at_bound (by kernel_rfl) fun hb => ?_
 have hb1 : LenOk (.sl a0.Kids.length (encL a0.Kids)) := lkc hb
 refine at_code mixed Tryd.func31 (by kernel_rfl) rfl (by kernel_rfl) rfl fun Q hQ => ?_
 rw [r49_nodes_B] at hs
 refine goG f0 f0 ?_
 revert hs; refine cS f0 ?_ ?_ <;> intro h1 hs
 ·refine goG f0 f0 ?_
  obtain rfl := sj hs
  exact hQ _ _ (rg f0 (Gh.refl _))
 ·refine goG2 f0 f0 ?_
  revert hs; refine bK fun o47 e46 hs => ?_
  refine awp_cutK (fun (v : Int) (σ : St) => some (v) = some o47 /\ σ.env 5 = iV .i64 v /\ 4 <= σ.gen) (by rfl) (fun Q hK48 hX49 => ?_) (fun i45 σ3 hp => ?_)
  ·refine goG f0 f0 ?_
   revert e46; refine bK fun o79 e78 e46 => ?_
   refine awp_loopW (fun (v : (List Tree) × Int × Nat) (σ : St) => r49_nodes_L1 a1 rF31z v.1 v.2.1 v.2.2 = some o79 /\ v.1 = a0.Kids.drop v.2.2 /\ σ.env 1 = iV .i64 a1 /\ σ.env 2 = .cell (.ref (.o 1 0 0) 0) /\ σ.env 5 = iV .i64 v.2.1 /\ σ.env 6 = iV .i64 ((v.2.2 : Nat) : Int) /\ σ.hp (.o 1 0 0) = some (.cells (eA a0)) /\ 4 <= σ.gen) (fun v => v.1.length) _ (Gh.refl _) (a0.Kids, 1, 0) ⟨e78, by simp, pv f0, pv f0, pv f0, pv f0, pv f0, pg⟩ fun v σ6 hp L80 hL81 => ?_
   obtain ⟨q83, i68, k69⟩ := v
   dsimp only at hp hL81
   obtain ⟨e78, hd82, h5_1, h5_2, h5_5, h5_6, g5_0, n5_g⟩ := hp
   have n5_0 : ¬ (σ6.gen = 0) := by omega
   rcases q83 with _ | ⟨x88, q84⟩
   ·have hlt85 := drop_end hd82
    rw [r49_nodes_L1] at e78; try dsimp only at e78
    have F1 := an h5_1 (an h5_2 (an h5_5 (an h5_6 (an g5_0 n5_0))))
    refine goR F1 ?_
    refine condK_f (by simp [ltI]; omega) ?_
    obtain rfl := sj e78
    try dsimp only at e46
    exact hK48 i68 _ _ (Gh.refl _) ⟨e46, pv F1, pg⟩
   ·obtain ⟨hx87, hlt85, hd89⟩ := drop_next hd82
    have ew86 := wrap_succ hlt85 (hb1).len
    rw [r49_nodes_L1] at e78; try dsimp only at e78
    have F2 := an h5_1 (an h5_2 (an h5_5 (an h5_6 (an g5_0 (an n5_0 (an hlt85 ew86))))))
    refine goR F2 ?_
    refine condK_t (by simp [ltI]; omega) ?_
    have f90 : partCV Tryd.prog 77 (encL a0.Kids) (k69 * 2) = some (.agg (eA x88)) := partCV_enc hx87 (f := 0) (by simp)
    have F3 := an F2 f90
    refine goR F3 ?_
    revert e78; refine bK fun y91 hx92 e78 => ?_
    refine cP F3 (ihrF31z _ _ _ hx92) ?_
    refine goR F3 ?_
    exact hL81 (q84, IntKind.i64.wrap (i68 + y91), (k69 + 1)) _ _ (Gh.refl _) ⟨e78, hd89, pv F3, pv F3, pv F3, pv F3, pv F3, pg⟩ (by simp)
  ·obtain ⟨e46, h4_5, n4_g⟩ := hp
   obtain rfl := sj e46
   try dsimp only at hs
   refine goG h4_5 h4_5 ?_
   obtain rfl := sj hs
   exact hQ _ _ (rg h4_5 (Gh.refl _))
theorem at_r49_nodes : ∀ {fuelN : Nat} {a0 : Tree} {a1 : Int} {r : Int} (hs : r49_nodes fuelN a0 a1 = some r), At Tryd.prog 31 [.agg (eA a0), iV .i64 a1] (iV .i64 r)
 | 0, _, _, _, hs => by rw [r49_nodes] at hs; cases hs
 | n + 1, _, _, _, hs => by
  rw [r49_nodes] at hs
  exact at_r49_nodes_B (fun _ _ _ h => at_r49_nodes h) hs
end Go.Dc
end
section
set_option linter.all false
namespace Go.Dc
open Go Go.Hw Go.Proofs
set_option maxRecDepth 100000
def r49_Few_L1 (fuelN : Nat) (a0 : Snapshot) : Nat -> Int -> Int -> Option Int
 | 0, _, _ => none
 | q101 + 1, i78, i79 => cond (andB (ltI i79 ((a0.Frames.length : Nat) : Int)) (!(ltI 1000 i78))) (Option.bind (getI a0.Frames i79) (fun x112 => Option.bind (r49_nodes fuelN x112.Tree 600) (fun y116 => r49_Few_L1 fuelN a0 q101 (IntKind.i64.wrap (IntKind.i64.wrap (i78 + ((x112.Sleep.length : Nat) : Int)) + y116)) (IntKind.i64.wrap (i79 + 1))))) (some (i78))
def r49_Few (fuelN : Nat) (a0 : Snapshot) : Option Bool :=
 Option.bind (α := Int) (Option.bind (r49_Few_L1 fuelN a0 fuelN ((a0.Frames.length : Nat) : Int) 0) (fun i94 => some (i94))) (fun i57 => some (!(ltI 1000 i57)))
set_option maxHeartbeats 2000000 in
theorem at_r49_Few {fuelN : Nat} {a0 : Snapshot} {r : Bool} (hs : r49_Few fuelN a0 = some r) : At Tryd.prog 10 [.agg (eA a0)] (bV r) := by
 refine at_bound (by kernel_rfl) fun hb => ?_
 have hb1 : LenOk (.sl a0.Frames.length (encL a0.Frames)) := lkc hb
 refine at_code mixed Tryd.func10 (by kernel_rfl) rfl (by kernel_rfl) rfl fun Q hQ => ?_
 rw [r49_Few] at hs
 refine goR2 f0 ?_
 revert hs; refine bK fun o59 e58 hs => ?_
 refine awp_cutK (fun (v : Int) (σ : St) => some (v) = some o59 /\ σ.env 3 = iV .i64 v /\ 3 <= σ.gen) (by rfl) (fun Q hK60 hX61 => ?_) (fun i57 σ3 hp => ?_)
 ·refine goR f0 ?_
  revert e58; refine bK fun o96 e95 e58 => ?_
  refine awp_loopW (fun (v : Nat × Int × Int) (σ : St) => r49_Few_L1 fuelN a0 v.1 v.2.1 v.2.2 = some o96 /\ σ.env 1 = .cell (.ref (.o 1 0 0) 0) /\ σ.env 3 = iV .i64 v.2.1 /\ σ.env 4 = iV .i64 v.2.2 /\ σ.hp (.o 1 0 0) = some (.cells (eA a0)) /\ 3 <= σ.gen) (fun v => v.1) _ (Gh.refl _) (fuelN, ((a0.Frames.length : Nat) : Int), 0) ⟨e95, pv f0, pv f0, pv f0, pv f0, pg⟩ fun v σ6 hp L97 hL98 => ?_
  obtain ⟨q100, i78, i79⟩ := v
  dsimp only at hp hL98
  obtain ⟨e95, h5_1, h5_3, h5_4, g5_0, n5_g⟩ := hp
  have n5_0 : ¬ (σ6.gen = 0) := by omega
  rcases q100 with _ | q101
  ·rw [r49_Few_L1] at e95; cases e95
  ·rw [r49_Few_L1] at e95; try dsimp only at e95
   have F1 := an h5_1 (an h5_3 (an h5_4 (an g5_0 n5_0)))
   refine goG F1 F1 ?_
   revert e95; refine cS F1 ?_ ?_ <;> intro h105 e95
   ·revert e95; refine bK fun x112 hx113 e95 => ?_
    obtain ⟨hx113a, hx113b, hx113c, hx113d⟩ := getI_some hx113
    have f114 : partCV Tryd.prog 37 (encL a0.Frames) (((i79).toNat) * 4 + 1) = some (.cell (sC x112.Sleep)) := partCV_enc hx113d (f := 1) (by simp)
    have f115 : partCV Tryd.prog 77 (encL a0.Frames) (((i79).toNat) * 4 + 2) = some (.agg (eA x112.Tree)) := partCV_enc hx113d (f := 2) (by simp)
    have F2 := an F1 (an f114 f115)
    have F3 := an F2 (an hx113a hx113b)
    refine goE F2 F3 ?_
    revert e95; refine bK fun y116 hx117 e95 => ?_
    refine cP F2 (at_r49_nodes hx117) ?_
    refine goE F2 F3 ?_
    exact hL98 (q101, IntKind.i64.wrap (IntKind.i64.wrap (i78 + ((x112.Sleep.length : Nat) : Int)) + y116), IntKind.i64.wrap (i79 + 1)) _ _ (Gh.refl _) ⟨e95, pv F2, pv F2, pv F2, pv F2, pg⟩ (by omega)
   ·refine goG F1 F1 ?_
    obtain rfl := sj e95
    try dsimp only at e58
    exact hK60 i78 _ _ (Gh.refl _) ⟨e58, pv F1, pg⟩
 ·obtain ⟨e58, h4_3, n4_g⟩ := hp
  obtain rfl := sj e58
  try dsimp only at hs
  refine goR h4_3 ?_
  obtain rfl := sj hs
  exact hQ _ _ (rg h4_3 (Gh.refl _))
end Go.Dc
end
section
set_option linter.all false
namespace Go.Hw
variable [Globals]
section
variable {H : Type} {enc : TypeId × Value -> H} {P : Program} {w : World} {sp : Nat -> Bool} {held : Bool}
end
end Go.Hw
end
section
set_option linter.all false
namespace Go.Hw
variable [Globals]
def okT (P : Program) (S : List TypeId) (t : TypeId) : Bool := match P.underlying t with
 | some .bool => P.cellsOf t == 1
 | some (.int _) => P.cellsOf t == 1
 | some .string => P.cellsOf t == 1
 | some (.slice e) => S.contains e && P.cellsOf t == 1
 | some (.struct fs) => fs.toList.all (fun f => S.contains f.type) && contig P 0 fs.toList == some (P.cellsOf t)
 | some (.array k e) => S.contains e && P.cellsOf t == k * P.cellsOf e
 | _ => false
def okS (P : Program) (S : List TypeId) : Bool := S.all (okT P S)
section
variable {H : Type} {enc : TypeId × Value -> H} {P : Program} {w : World} {sp : Nat -> Bool} {held : Bool} {bad : Nat -> Prop} {S : List TypeId}
theorem trodW_fields {n : Nat} (ih : ∀ (t : TypeId) (cs : List Value) (x : DataW H × List MemPlace), t ∈ S -> DataW.trod enc P w 0 sp held n t cs = some x -> ∃ cvs, cvD P n t x.1 = some cvs /\ CReps w bad cs cvs) {cs : List Value} :
  ∀ (fl : List Field) (xs : List (DataW H × List MemPlace)) (off tot : Nat), (∀ f ∈ fl, f.type ∈ S) -> contig P off fl = some tot -> xs.length = fl.length ->
   (∀ (i : Nat) (f : Field), fl[i]? = some f -> DataW.trod enc P w 0 sp held n f.type ((cs.drop f.offset).take (P.cellsOf f.type)) = xs[i]?) ->
   ∃ cvs, concatM (List.zipWith (fun f d => cvD P n f.type d) fl (xs.map (·.1))) = some cvs /\ CReps w bad ((cs.drop off).take (tot - off)) cvs
 | [], xs, off, tot, _, hc, hl, _ => by
  simp [contig] at hc
  subst hc
  exact ⟨[], by simp [concatM], by simpa using CReps.nil⟩
 | f :: r, [], off, tot, _, _, hl, _ => by simp at hl
 | f :: r, x :: xs, off, tot, hp, hc, hl, ht => by
  rw [contig] at hc
  split at hc
  ·rename_i ho
   have h0 := ht 0 f rfl
   simp at h0
   rw [ho] at h0
   obtain ⟨c1, e1, r1⟩ := ih f.type _ x (hp f (by simp)) h0
   obtain ⟨c2, e2, r2⟩ := trodW_fields ih r xs (off + P.cellsOf f.type) tot (fun g hg => hp g (by simp [hg])) hc (by simpa using hl) (fun i g hg => by simpa using ht (i + 1) g (by simpa using hg))
   refine ⟨c1 ++ c2, ?_, ?_⟩
   ·simp only [List.map_cons, List.zipWith_cons_cons, e1, concatM, e2, Option.map_some]
   ·rw [drop_split cs (contig_le hc)]
    exact r1.append r2
  ·cases hc
theorem trodW_elems {n : Nat} {e : TypeId} (ih : ∀ (cs : List Value) (x : DataW H × List MemPlace), DataW.trod enc P w 0 sp held n e cs = some x -> ∃ cvs, cvD P n e x.1 = some cvs /\ CReps w bad cs cvs) {cs : List Value} :
  ∀ (xs : List (DataW H × List MemPlace)) (i0 : Nat), (∀ i, i < xs.length -> DataW.trod enc P w 0 sp held n e ((cs.drop ((i0 + i) * P.cellsOf e)).take (P.cellsOf e)) = xs[i]?) ->
   ∃ cvs, concatM ((xs.map (·.1)).map (cvD P n e)) = some cvs /\ CReps w bad ((cs.drop (i0 * P.cellsOf e)).take (xs.length * P.cellsOf e)) cvs
 | [], i0, _ => ⟨[], by simp [concatM], by simpa using CReps.nil⟩
 | x :: xs, i0, ht => by
  have h0 := ht 0 (by simp)
  simp at h0
  obtain ⟨c1, e1, r1⟩ := ih _ x h0
  obtain ⟨c2, e2, r2⟩ := trodW_elems ih xs (i0 + 1) (fun i hi => by
   have := ht (i + 1) (by simpa using hi)
   rw [show i0 + (i + 1) = i0 + 1 + i by omega] at this
   simpa using this)
  refine ⟨c1 ++ c2, by simp only [List.map_cons, e1, concatM, e2, Option.map_some], ?_⟩
  have h1 : (i0 + 1) * P.cellsOf e = i0 * P.cellsOf e + P.cellsOf e := by rw [Nat.succ_mul]
  rw [h1] at r2
  have h2 : (x :: xs).length * P.cellsOf e = P.cellsOf e + xs.length * P.cellsOf e := by rw [List.length_cons, Nat.succ_mul]; omega
  rw [h2, List.take_add, List.drop_drop]
  exact r1.append r2
theorem trodW_slots {n : Nat} {e : TypeId} {a : Addr} (ih : ∀ (cs : List Value) (x : DataW H × List MemPlace), DataW.trod enc P w 0 sp held n e cs = some x -> ∃ cvs, cvD P n e x.1 = some cvs /\ CReps w bad cs cvs) :
  ∀ (xs : List (DataW H × List MemPlace)) (i0 : Nat), (∀ i, i < xs.length -> (w.cells? 0 (a.add ((i0 + i) * P.cellsOf e)) (P.cellsOf e)).bind (DataW.trod enc P w 0 sp held n e) = xs[i]?) ->
   ∃ cvs raws, concatM ((xs.map (·.1)).map (cvD P n e)) = some cvs /\ CReps w bad raws cvs /\ raws.length = xs.length * P.cellsOf e /\ ∀ j u, raws[j]? = some u -> w.cell? (a.add (i0 * P.cellsOf e + j)) = some u
 | [], i0, _ => ⟨[], [], by simp [concatM], CReps.nil, by simp, by simp⟩
 | x :: xs, i0, ht => by
  have h0 := ht 0 (by simp)
  simp only [Nat.add_zero, List.getElem?_cons_zero, Option.bind_eq_some_iff] at h0
  obtain ⟨us, hu, h0⟩ := h0
  obtain ⟨c1, e1, r1⟩ := ih _ x h0
  obtain ⟨c2, raws, e2, r2, hl, hm⟩ := trodW_slots ih xs (i0 + 1) (fun i hi => by
   have := ht (i + 1) (by simpa using hi)
   rw [show i0 + (i + 1) = i0 + 1 + i by omega] at this
   simpa using this)
  obtain ⟨_, hul, huc⟩ := World.cells?_some hu
  refine ⟨c1 ++ c2, us ++ raws, by simp only [List.map_cons, e1, concatM, e2, Option.map_some], r1.append r2, ?_, fun j u hj => ?_⟩
  ·rw [List.length_append, hul, hl, List.length_cons, Nat.succ_mul]; omega
  ·rcases Nat.lt_or_ge j us.length with hj' | hj'
   ·rw [List.getElem?_append_left hj'] at hj
    have := huc j (by omega)
    rw [addr_add] at this
    rw [this, hj]
   ·rw [List.getElem?_append_right hj'] at hj
    have := hm _ u hj
    have h1 : (i0 + 1) * P.cellsOf e = i0 * P.cellsOf e + P.cellsOf e := by rw [Nat.succ_mul]
    rw [h1, Nat.add_assoc, show P.cellsOf e + (j - us.length) = j by omega] at this
    exact this
/-- What reads as_ a datum is its cells: types that may lead to themselves. -/
theorem trodW_cvs (hbad : ∀ b, ¬ bad b) (hS : okS P S = true) : ∀ (m : Nat) (t : TypeId) (cs : List Value) (x : DataW H × List MemPlace), t ∈ S -> DataW.trod enc P w 0 sp held m t cs = some x -> ∃ cvs, cvD P m t x.1 = some cvs /\ CReps w bad cs cvs
 | 0, t, cs, x, _, h => by simp [DataW.trod] at h
 | m + 1, t, cs, x, hp, h => by
  have ih := trodW_cvs hbad hS m
  have hp := List.all_eq_true.1 hS t hp
  rw [okT] at hp
  split at hp
  ·rename_i hu
   obtain ⟨b, rfl, rfl⟩ := DataW.trod_bool hu h
   exact ⟨[.c (.bool b)], by simp [cvD, hu], .single (.c _) rfl⟩
  ·rename_i k hu
   obtain ⟨n, rfl, rfl, hw⟩ := DataW.trod_int hu h
   exact ⟨[.c (.int k n)], by simp only [cvD, hu]; rw [if_pos (by simpa [Lit.wf] using hw)], .single (.c _) rfl⟩
  ·rename_i hu
   obtain ⟨s, rfl, rfl, _⟩ := DataW.trod_string hu h
   exact ⟨[.c (.string s)], by simp [cvD, hu], .single (.c _) rfl⟩
  ·rename_i e hu
   simp only [Bool.and_eq_true, List.contains_iff_mem] at hp
   rcases DataW.trod_slice hu h with ⟨rfl, rfl⟩ | ⟨a, len, cap, elems, rest, n, hn, rfl, rfl, _, hlc, hcm, hel, hE, _, _⟩
   ·exact ⟨[.sl 0 []], by simp [cvD, hu], .single (.sl none 0 0 [] [] (Nat.le_refl _) (Nat.zero_le _) rfl (by simp) (by simp) (by simp)) rfl⟩
   ·obtain rfl : n = m := by omega
    obtain ⟨cvs, raws, e1, r1, hl, hm⟩ := trodW_slots (fun cs x h => ih e cs x hp.1 h) elems 0 (fun i hi => by simpa using hE i (by omega))
    refine ⟨[.sl elems.length cvs], by simp only [cvD, hu, e1, Option.map_some, List.length_map], .single ?_ rfl⟩
    rw [<- hel]
    exact .sl (some a) _ cap raws cvs (by omega) hcm r1.len r1.one (fun j u hj => ⟨a, rfl, hbad _, by simpa using hm j u hj⟩) r1.rep
  ·rename_i fs hu
   simp only [Bool.and_eq_true, beq_iff_eq, List.all_eq_true, List.contains_iff_mem] at hp
   obtain ⟨xs, n, hn, rfl, hcl, hxl, hF⟩ := DataW.trod_struct hu h
   obtain rfl : n = m := by omega
   obtain ⟨cvs, e1, r1⟩ := trodW_fields ih (cs := cs) fs.toList xs 0 (P.cellsOf t) hp.1 hp.2 (by simpa using hxl) (fun i f hf => hF i f (by simpa using hf))
   refine ⟨cvs, by simp only [cvD, hu, e1, List.length_map, hxl, if_true], ?_⟩
   have : (cs.drop 0).take (P.cellsOf t - 0) = cs := by rw [<- hcl]; simp
   rwa [this] at r1
  ·rename_i k e hu
   simp only [Bool.and_eq_true, beq_iff_eq, List.contains_iff_mem] at hp
   obtain ⟨xs, n, hn, rfl, hcl, hxl, hE⟩ := DataW.trod_array hu h
   obtain rfl : n = m := by omega
   obtain ⟨cvs, e1, r1⟩ := trodW_elems (fun cs x h => ih e cs x hp.1 h) (cs := cs) xs 0 (fun i hi => by simpa using hE i (by omega))
   refine ⟨cvs, by simp only [cvD, hu, e1, List.length_map, hxl, if_true], ?_⟩
   have : (cs.drop (0 * P.cellsOf e)).take (xs.length * P.cellsOf e) = cs := by
    rw [hxl, <- hp.2, <- hcl]; simp
   rwa [this] at r1
  ·cases hp
open Go.WideShapes in
theorem repW_struct {t : TypeId} {fs : Array Field} {v : Value} {d : DataW H} {p : List MemPlace} {r : Go.Reach} {b0 : Nat} (hS : okS P S = true) (ht : t ∈ S) (hu : P.underlying t = some (.struct fs)) (hv : Value.okWide P w r b0 t v)
  (h : DataW.Trod enc P w 0 sp held t v d p) : ∃ m cvs, cvD P m t d = some cvs /\ AVRep w m0 (fun _ => False) v (.agg (cvs.map .p)) := by
 obtain ⟨cs, rfl, hsz⟩ := okWide_struct hu hv
 obtain ⟨fuel, hf⟩ := h
 obtain ⟨cvs, e, hr⟩ := trodW_cvs (bad := Bad m0 (fun _ => False)) (fun b hb => (bad_m0).1 hb) hS fuel t _ _ ht hf
 have hr : CReps w (Bad m0 (fun _ => False)) cs.toList cvs := hr
 refine ⟨fuel, cvs, e, .agg cs _ (by have := hr.len; simpa using this) hr.one fun j u x hj hx => ?_⟩
 rw [List.getElem?_map, Option.map_eq_some_iff] at hx
 obtain ⟨c, hc, rfl⟩ := hx
 exact hr.rep j u c (by simpa using hj) hc
end
/-! What a datum's cells are, part by part. -/
theorem cvD_sliceW {H : Type} {P : Program} {n t e : Nat} {d : DataW H} {c : List CV} {α : Type} [Enc α] (hu : P.underlying t = some (.slice e)) (hg : ∀ m, m < n -> ∀ (d : DataW H) c, cvD P m e d = some c -> ∃ x : α, c = Enc.enc x) (h : cvD P n t d = some c) : ∃ L : List α, c = Enc.enc L := by
 cases n with
 | zero => simp [cvD] at h
 | succ n =>
  simp only [cvD, hu] at h
  split at h
  ·cases h; exact ⟨[], rfl⟩
  ·rename_i l sp
   rw [Option.map_eq_some_iff] at h
   obtain ⟨c', h, rfl⟩ := h
   obtain ⟨L, hL, rfl⟩ := concatM_map (fun d _ c hc => hg n (Nat.lt_succ_self _) d c hc) h
   exact ⟨L, by rw [<- hL]; rfl⟩
  ·cases h
theorem cvD_structW {H : Type} {P : Program} {n t : Nat} {d : DataW H} {c : List CV} {fs : Array Field} (hu : P.underlying t = some (.struct fs)) (h : cvD P n t d = some c) : ∃ m l, m < n /\ d = .agg l /\ l.length = fs.size /\ concatM (List.zipWith (fun f d => cvD P m f.type d) fs.toList l) = some c := by
 cases n with
 | zero => simp [cvD] at h
 | succ n =>
  simp only [cvD, hu] at h
  split at h
  ·rename_i l
   split at h
   ·rename_i hl; exact ⟨n, l, Nat.lt_succ_self _, rfl, hl, h⟩
   ·cases h
  ·cases h
/-! Integers are within their kinds; how much a datum holds. -/
mutual
def okC : CV -> Prop
 | .c (.int k n) => k.min <= n /\ n <= k.max
 | .sl _ cs => okL cs
 | _ => True
def okL : List CV -> Prop
 | [] => True
 | x :: r => okC x /\ okL r
end
mutual
def bkC : CV -> Nat
 | .c (.string s) => s.size + 1
 | .sl _ cs => bkL cs + 1
 | _ => 1
def bkL : List CV -> Nat
 | [] => 0
 | x :: r => bkC x + bkL r
end
@[simp] theorem okL_nil : okL [] := by rw [okL]; trivial
@[simp] theorem okL_cons (x : CV) (r : List CV) : okL (x :: r) ↔ okC x /\ okL r := by rw [okL]
@[simp] theorem bkL_nil : bkL [] = 0 := by rw [bkL]
@[simp] theorem bkL_cons (x : CV) (r : List CV) : bkL (x :: r) = bkC x + bkL r := by rw [bkL]
@[simp] theorem okL_append (a b : List CV) : okL (a ++ b) ↔ okL a /\ okL b := by
 induction a with
 | nil => simp
 | cons x a ih => simp [ih, and_assoc]
@[simp] theorem bkL_append (a b : List CV) : bkL (a ++ b) = bkL a + bkL b := by
 induction a with
 | nil => simp
 | cons x a ih => simp [ih]; omega
@[simp] theorem bkC_sl (n : Nat) (cs : List CV) : bkC (.sl n cs) = bkL cs + 1 := by rw [bkC]
@[simp] theorem bkC_str (s : ByteArray) : bkC (.c (.string s)) = s.size + 1 := by rw [bkC]
@[simp] theorem bkC_int (k : IntKind) (n : Int) : bkC (.c (.int k n)) = 1 := by rw [bkC] <;> simp
@[simp] theorem bkC_bool (b : Bool) : bkC (.c (.bool b)) = 1 := by rw [bkC] <;> simp
@[simp] theorem okC_sl (n : Nat) (cs : List CV) : okC (.sl n cs) ↔ okL cs := by rw [okC]
@[simp] theorem okC_int (k : IntKind) (n : Int) : okC (.c (.int k n)) ↔ (k.min <= n /\ n <= k.max) := by rw [okC]
theorem bkC_pos (c : CV) : 1 <= bkC c := by
 cases c with
 | c v => cases v <;> simp [bkC]
 | sl n cs => simp
 | _ => simp [bkC]
theorem bkL_encL {α : Type} [Enc α] : ∀ {l : List α} {x : α}, x ∈ l -> bkL (Enc.enc x) <= bkL (encL l)
 | y :: r, x, hx => by
  rw [encL_cons, bkL_append]
  rcases List.mem_cons.1 hx with rfl | hx
  ·omega
  ·have := bkL_encL hx; omega
theorem bkL_len (l : List CV) : l.length <= bkL l := by
 induction l with
 | nil => simp
 | cons x l ih => have := bkC_pos x; simp; omega
theorem bkL_lenL {α : Type} [Enc α] (h : 1 <= Enc.sz α) (l : List α) : l.length <= bkL (encL l) := by
 have h1 := bkL_len (encL l)
 rw [encL_length] at h1
 exact Nat.le_trans (Nat.le_mul_of_pos_right _ h) h1
theorem concatM_ok : ∀ {l : List (Option (List CV))} {c : List CV}, (∀ o ∈ l, ∀ a, o = some a -> okL a) -> concatM l = some c -> okL c
 | [], c, _, h => by simp [concatM] at h; subst h; simp
 | o :: r, c, hf, h => by
  obtain ⟨a, b, rfl, hb, rfl⟩ := concatM_cons h
  rw [okL_append]
  exact ⟨hf _ (by simp) a rfl, concatM_ok (fun o ho => hf o (by simp [ho])) hb⟩
theorem cvD_okL {H : Type} {P : Program} : ∀ (n : Nat) (t : TypeId) (d : DataW H) (c : List CV), cvD P n t d = some c -> okL c
 | 0, t, d, c, h => by simp [cvD] at h
 | n + 1, t, d, c, h => by
  unfold cvD at h
  split at h
  ·split at h
   ·cases h; simp [okC]
   ·cases h
  ·split at h
   ·split at h
    ·rename_i hr; cases h; simpa using hr
    ·cases h
   ·cases h
  ·split at h
   ·cases h; simp [okC]
   ·cases h
  ·split at h
   ·cases h; simp
   ·rw [Option.map_eq_some_iff] at h
    obtain ⟨c', h, rfl⟩ := h
    simp only [okL_cons, okC_sl, okL_nil, and_true]
    refine concatM_ok (fun o ho a ha => ?_) h
    obtain ⟨d', _, rfl⟩ := List.mem_map.1 ho
    exact cvD_okL n _ d' a ha
   ·cases h
  ·split at h
   ·split at h
    ·refine concatM_ok (fun o ho a ha => ?_) h
     rw [List.mem_iff_getElem?] at ho
     obtain ⟨j, hj⟩ := ho
     rw [List.getElem?_zipWith] at hj
     split at hj
     ·cases hj; exact cvD_okL n _ _ a ha
     ·cases hj
    ·cases h
   ·cases h
  ·split at h
   ·split at h
    ·refine concatM_ok (fun o ho a ha => ?_) h
     obtain ⟨d', _, rfl⟩ := List.mem_map.1 ho
     exact cvD_okL n _ d' a ha
    ·cases h
   ·cases h
  ·cases h
section
variable {H : Type} (B : DataW H -> Nat) (Bs : List (DataW H) -> Nat) (hnil : Bs [] = 0) (hcons : ∀ d r, Bs (d :: r) = B d + Bs r)
include hnil hcons
theorem concatM_bk {f : DataW H -> Option (List CV)} : ∀ {l : List (DataW H)} {c : List CV}, (∀ d ∈ l, ∀ a, f d = some a -> bkL a <= B d) -> concatM (l.map f) = some c -> bkL c <= Bs l
 | [], c, _, h => by simp [concatM] at h; subst h; simp
 | d :: r, c, hf, h => by
  rw [List.map_cons] at h
  obtain ⟨a, b, ha, hb, rfl⟩ := concatM_cons h
  have h1 := hf d (by simp) a ha
  have h2 := concatM_bk (fun d hd => hf d (by simp [hd])) hb
  rw [bkL_append, hcons]; omega
theorem concatM_bkz {F : Field -> DataW H -> Option (List CV)} : ∀ {fl : List Field} {l : List (DataW H)} {c : List CV}, (∀ f ∈ fl, ∀ d ∈ l, ∀ a, F f d = some a -> bkL a <= B d) -> concatM (List.zipWith F fl l) = some c -> bkL c <= Bs l
 | [], l, c, _, h => by simp [concatM] at h; subst h; simp
 | f :: fl, [], c, _, h => by simp [concatM] at h; subst h; simp
 | f :: fl, d :: r, c, hf, h => by
  rw [List.zipWith_cons_cons] at h
  obtain ⟨a, b, ha, hb, rfl⟩ := concatM_cons h
  have h1 := hf f (by simp) d (by simp) a ha
  have h2 := concatM_bkz (fun g hg d hd => hf g (by simp [hg]) d (by simp [hd])) hb
  rw [bkL_append, hcons]; omega
/-- The cells of a datum hold no more than the datum, by whatever measure counts its parts. -/
theorem cvD_bk {P : Program} (hlit : ∀ l, 1 <= B (.lit l)) (hstr : ∀ l, l.length + 1 <= B (.lit (.string l))) (hn : 1 <= B .nil) (hsl : ∀ l s, Bs l + 1 <= B (.slice l s)) (hag : ∀ l, Bs l <= B (.agg l)) : ∀ (n : Nat) (t : TypeId) (d : DataW H) (c : List CV), cvD P n t d = some c -> bkL c <= B d
 | 0, t, d, c, h => by simp [cvD] at h
 | n + 1, t, d, c, h => by
  have ih := cvD_bk (P := P) hlit hstr hn hsl hag n
  unfold cvD at h
  split at h
  ·split at h
   ·cases h; simpa using hlit _
   ·cases h
  ·split at h
   ·split at h
    ·cases h; simpa using hlit _
    ·cases h
   ·cases h
  ·split at h
   ·rename_i l; cases h; have := hstr l; simpa [ByteArray.size] using this
   ·cases h
  ·split at h
   ·cases h; simpa using hn
   ·rename_i l s
    rw [Option.map_eq_some_iff] at h
    obtain ⟨c', h, rfl⟩ := h
    have h1 := concatM_bk B Bs hnil hcons (fun d' _ a ha => ih _ d' a ha) h
    have h2 := hsl l s
    simp; omega
   ·cases h
  ·split at h
   ·rename_i l
    split at h
    ·have h1 := concatM_bkz B Bs hnil hcons (F := fun f d => cvD P n f.type d) (fun f _ d' _ a ha => ih _ d' a ha) h
     have h2 := hag l
     omega
    ·cases h
   ·cases h
  ·split at h
   ·rename_i l
    split at h
    ·have h1 := concatM_bk B Bs hnil hcons (fun d' _ a ha => ih _ d' a ha) h
     have h2 := hag l
     omega
    ·cases h
   ·cases h
  ·cases h
end
end Go.Hw
end
section
set_option linter.all false
namespace Go.Dc.Pl
open Go Go.Hw Go.Dc
set_option maxRecDepth 100000
/-! What bounds a snapshot. -/
theorem nT_bk : ∀ (m : Nat) (l : List Tree), nT m l <= bkL (encL l)
 | 0, l => by rw [nT]; omega
 | m + 1, l => by
  rw [nT]
  induction l with
  | nil => simp
  | cons x l ih =>
   have h := nT_bk m x.Kids
   rw [List.map_cons, List.sum_cons, encL_cons, bkL_append, enc_Tree]
   simp; omega
theorem wid_bk {B : Nat} : ∀ (m : Nat) (l : List Tree), bkL (encL l) <= B -> wid B m l
 | 0, l, _ => trivial
 | m + 1, l, h => by
  refine ⟨Nat.le_trans (bkL_lenL (by simp) l) h, fun k hk => wid_bk m k.Kids ?_⟩
  have := bkL_encL hk
  rw [enc_Tree] at this
  simp at this; omega
theorem frame_bk (g : Frame) : nF g + bkL (encL g.Tree.Kids) <= 2 * bkL (Enc.enc g) /\ nF g <= bkL (Enc.enc g) /\ bkL (encL g.Tree.Kids) <= bkL (Enc.enc g) := by
 have h1 := nT_bk 512 g.Tree.Kids
 have h2 := bkL_lenL (α := Int) (by simp) g.Sleep
 rw [enc_Frame]; unfold nF; simp; omega
theorem nS_bk (s : Snapshot) : nS s <= bkL (Enc.enc s) /\ s.Frames.length <= bkL (Enc.enc s) /\ ∀ g ∈ s.Frames, bkL (encL g.Tree.Kids) <= bkL (Enc.enc s) := by
 have h : ∀ l : List Frame, (l.map nF).sum <= bkL (encL l) := fun l => by
  induction l with
  | nil => simp
  | cons x l ih => have := frame_bk x; rw [List.map_cons, List.sum_cons, encL_cons, bkL_append]; omega
 have h1 := h s.Frames
 have h2 := bkL_lenL (α := Frame) (by simp) s.Frames
 have e : bkL (Enc.enc s) = bkL (encL s.Frames) + 1 + 1 + 1 + 1 := by rw [enc_Snapshot]; simp
 refine ⟨by unfold nS; omega, by omega, fun g hg => ?_⟩
 have := bkL_encL hg; have := frame_bk g; omega
/-! Whether a snapshot is small is answered. -/
theorem nodes_ex : ∀ (m f : Nat) (t : Tree), m <= 1000 -> m < f -> ∃ r, r49_nodes f t (m : Int) = some r := by
 intro m
 induction m with
 | zero =>
  intro f t _ hf
  obtain ⟨f, rfl⟩ : ∃ k, f = k + 1 := ⟨f - 1, by omega⟩
  show ∃ r, r49_nodes_B (r49_nodes f) t ((0 : Nat) : Int) = some r
  unfold r49_nodes_B
  cases hk : t.Kids with
  | nil => exact ⟨1, rfl⟩
  | cons x l => rw [show eqI ((0 : Nat) : Int) 0 = true from rfl, ltI_d, decide_eq_true (by simp)]; exact ⟨_, rfl⟩
 | succ m ih =>
  intro f t hm hf
  obtain ⟨f, rfl⟩ : ∃ k, f = k + 1 := ⟨f - 1, by omega⟩
  have hL : ∀ (l : List Tree) (n : Int) (k : Nat), ∃ r, r49_nodes_L1 ((m + 1 : Nat) : Int) (r49_nodes f) l n k = some r := by
   intro l
   induction l with
   | nil => intro n k; exact ⟨n, rfl⟩
   | cons x l il =>
    intro n k
    obtain ⟨y, hy⟩ := ih f x (by omega) (by omega)
    rw [r49_nodes_L1, show ((m + 1 : Nat) : Int) - 1 = (m : Int) by omega, wrapN (by omega), hy]
    exact il _ _
  obtain ⟨r, hr⟩ := hL t.Kids 1 0
  show ∃ r, r49_nodes_B (r49_nodes f) t ((m + 1 : Nat) : Int) = some r
  unfold r49_nodes_B
  rw [show eqI ((m + 1 : Nat) : Int) 0 = false by rw [eqI_d, decide_eq_false (by omega)], hr]
  exact ⟨_, rfl⟩
theorem few_ex {f : Nat} {s : Snapshot} (hf : s.Frames.length + 1000 <= f) (hl : s.Frames.length <= 1000000000) : ∃ b, r49_Few f s = some b := by
 have hL : ∀ (q k : Nat) (n : Int), k <= s.Frames.length -> s.Frames.length < k + q -> ∃ r, r49_Few_L1 f s q n (k : Int) = some r := by
  intro q
  induction q with
  | zero => intro k n h1 h2; omega
  | succ q ih =>
   intro k n h1 h2
   rw [r49_Few_L1]
   cases hc : andB (ltI (k : Int) ((s.Frames.length : Nat) : Int)) (!(ltI 1000 n)) with
   | false => exact ⟨_, rfl⟩
   | true =>
    rw [andB_d, ltI_d, Bool.and_eq_true, decide_eq_true_eq] at hc
    have hk : k < s.Frames.length := by omega
    obtain ⟨y, hy⟩ := nodes_ex 600 f (s.Frames[k]).Tree (by omega) (by omega)
    rw [cond_true, getI_nat, List.getElem?_eq_getElem hk, Option.bind_some, show (600 : Int) = ((600 : Nat) : Int) from rfl, hy, Option.bind_some, wrapS (by omega)]
    exact ih _ _ (by omega) (by omega)
 obtain ⟨r, hr⟩ := hL f 0 ((s.Frames.length : Nat) : Int) (by omega) (by omega)
 rw [r49_Few, show (0 : Int) = ((0 : Nat) : Int) from rfl, hr]
 exact ⟨_, rfl⟩
theorem snap_wid {s : Snapshot} (hb : bkL (Enc.enc s) <= 1048576) : ∀ g ∈ s.Frames, g.Tree.Kids.length <= 1000000000 /\ (∀ k, wid 1000000000 k g.Tree.Kids) /\ wid 1048576 512 g.Tree.Kids := fun g hg => by
 have h := (nS_bk s).2.2 g hg
 exact ⟨(wid_bk (B := 1000000000) 1 g.Tree.Kids (by omega)).1, fun k => wid_bk k _ (by omega), wid_bk 512 _ (by omega)⟩
theorem encode_own {p : Program} {c : Config} {s : Snapshot} (hp : small p = true) (hb : bkL (Enc.enc s) <= 1048576) : checkpoint_Encode 67108864 p c s = some (encodeB (digest p c) s) :=
 own_encode (B := 1048576) hp (by omega) (snap_wid hb) (by have := (nS_bk s).1; omega) (by omega) (by omega)
end Go.Dc.Pl
end
section
set_option linter.all false
namespace Go.Dc
open Go Go.Hw Go.Proofs
set_option maxRecDepth 100000
def law49_bytes (a0 : List UInt8) (a1 : List UInt8) : Option Bool :=
 some (eqS (⟨a0.toArray⟩ : ByteArray) (⟨a1.toArray⟩ : ByteArray))
set_option maxHeartbeats 2000000 in
theorem at_law49_bytes {a0 : List UInt8} {a1 : List UInt8} {r : Bool} (hs : law49_bytes a0 a1 = some r) : At Tryd.prog 14 [.cell (sC a0), .cell (sC a1)] (bV r) := by
 refine at_bound (by kernel_rfl) fun hb => ?_
 have hb1 : LenOk (.sl a0.length (encL a0)) := lkc hb
 have hb2 : LenOk (.sl a1.length (encL a1)) := lkc hb
 refine at_code mixed Tryd.func14 (by kernel_rfl) rfl (by kernel_rfl) rfl fun Q hQ => ?_
 rw [law49_bytes] at hs
 refine goR f0 ?_
 obtain rfl := sj hs
 exact hQ _ _ (rg f0 (Gh.refl _))
end Go.Dc
end
section
set_option linter.all false
namespace Go.Dc
open Go Go.Hw Go.Proofs
set_option maxRecDepth 100000
def r26_Standard (fuelN : Nat) (a0 : Program) (a1 : Config) : Option Int :=
 Option.bind (r08_Check fuelN a0) (fun y1 => cond (!(eqI y1.1 0)) (some y1.1) (Option.bind (r08_CheckConfig a1) (fun y4 => cond (!(eqI y4 0)) (some y4) (cond (eqI a1.Model 3) (some 18) (some 0)))))
end Go.Dc
end
section
set_option linter.all false
namespace Go.Dc
open Go Go.Hw Go.Proofs
set_option maxRecDepth 100000
def law49_one (a0 : Int) : Option Program :=
 Option.bind (some ([({ Name := (⟨#[120]⟩ : ByteArray), Init := 0 } : Var)])) (fun l1 => Option.bind (some ([({ Op := 9, A := 0, B := 0, C := 0, Obj := 0, N := 0, Fn := 0, Order := 0 } : Inst)])) (fun l3 => Option.bind (some ([({ Name := (⟨#[102]⟩ : ByteArray), Code := l3 } : Func)])) (fun l5 => Option.bind (some ([({ Func := 0, Arg := a0 } : Start)])) (fun l7 => some ({ Vars := l1, Mutexes := [], Conds := [], Funcs := l5, Threads := l7 } : Program)))))
set_option maxHeartbeats 2000000 in
theorem at_law49_one {a0 : Int} {r : Program} (hs : law49_one a0 = some r) : At Tryd.prog 18 [iV .i64 a0] (.agg (eA r)) := by
 refine at_bound (by kernel_rfl) fun hb => ?_
 refine at_code mixed Tryd.func18 (by kernel_rfl) rfl (by kernel_rfl) rfl fun Q hQ => ?_
 rw [law49_one] at hs
 revert hs; refine lK fun l1 hx2 hs => ?_
 have hx2n : l1.length = 1 := by rw [hx2]; rfl
 revert hs; refine lK fun l3 hx4 hs => ?_
 have hx4n : l3.length = 1 := by rw [hx4]; rfl
 revert hs; refine lK fun l5 hx6 hs => ?_
 have hx6n : l5.length = 1 := by rw [hx6]; rfl
 revert hs; refine lK fun l7 hx8 hs => ?_
 have hx8n : l7.length = 1 := by rw [hx8]; rfl
 have F1 := an hx2 (an hx4 (an hx6 hx8))
 refine goR F1 ?_
 obtain rfl := sj hs
 exact hQ _ _ (rg F1 ((Gh.frz _ (.o 2 3 0)).trans ((Gh.pur _ (.o 2 5 0)).trans ((Gh.frz _ (.o 2 1 0)).trans ((Gh.frz _ (.o 2 5 0)).trans ((Gh.frz _ (.o 2 8 0)).trans (Gh.unz _)))))))
end Go.Dc
end
section
set_option linter.all false
namespace Go.Dc
open Go Go.Hw Go.Proofs
set_option maxRecDepth 100000
def law49_awake (fuelN : Nat)  : Option Bool :=
 Option.bind (law49_one 1) (fun y5 => Option.bind (checkpoint_Digest fuelN y5 ({ Model := 1, Bound := 4 } : Config)) (fun y7 => Option.bind (law49_one 1) (fun y13 => Option.bind (checkpoint_Encode fuelN y13 ({ Model := 1, Bound := 4 } : Config) ({ Frames := [], Done := false, Count := 0, Blocked := 0 } : Snapshot)) (fun y15 => Option.bind (law49_one 1) (fun y21 => Option.bind (checkpoint_Decode fuelN y21 ({ Model := 1, Bound := 4 } : Config) y15.1) (fun y23 => Option.bind (law49_one 2) (fun y29 => Option.bind (checkpoint_Decode fuelN y29 ({ Model := 1, Bound := 4 } : Config) y15.1) (fun y31 => Option.bind (law49_one 1) (fun y37 => Option.bind (checkpoint_Encode fuelN y37 ({ Model := 1, Bound := 4 } : Config) ({ Frames := [], Done := false, Count := (-1), Blocked := 0 } : Snapshot)) (fun y39 => Option.bind (frame_AppendUint fuelN [] y7.1) (fun y41 => Option.bind (some ([0, 0, 0, 0])) (fun l43 => guardO (limB 1 (y41.length + l43.length)) (Option.bind (some (y41 ++ l43)) (fun l46 => cond (andB (andB (andB (andB (eqI y7.2 0) (eqI y15.2 0)) (eqI y23.2 0)) (eqI y31.2 30)) (eqI y39.2 1)) (Option.bind (frame_Seal fuelN l46) (fun y50 => Option.bind (law49_bytes y15.1 y50) (fun y52 => guardO (orB (!y52) ((r49_Same fuelN y23.1 ({ Frames := [], Done := false, Count := 0, Blocked := 0 } : Snapshot)).isSome)) (guardO (orB (!(andB y52 ((r49_Same fuelN y23.1 ({ Frames := [], Done := false, Count := 0, Blocked := 0 } : Snapshot)).getD default))) ((checkpoint_Valid fuelN y23.1).isSome)) (guardO (orB (!(andB (andB y52 ((r49_Same fuelN y23.1 ({ Frames := [], Done := false, Count := 0, Blocked := 0 } : Snapshot)).getD default)) ((checkpoint_Valid fuelN y23.1).getD default))) ((checkpoint_Valid fuelN ({ Frames := [], Done := false, Count := 0, Blocked := (-1) } : Snapshot)).isSome)) (some (andB (andB (andB y52 ((r49_Same fuelN y23.1 ({ Frames := [], Done := false, Count := 0, Blocked := 0 } : Snapshot)).getD default)) ((checkpoint_Valid fuelN y23.1).getD default)) (!((checkpoint_Valid fuelN ({ Frames := [], Done := false, Count := 0, Blocked := (-1) } : Snapshot)).getD default))))))))) (some false)))))))))))))))
set_option maxHeartbeats 2000000 in
theorem at_law49_awake {fuelN : Nat}  {r : Bool} (hs : law49_awake fuelN = some r) : At Tryd.prog 7 [] (bV r) := by
 refine at_bound (by kernel_rfl) fun hb => ?_
 refine at_code mixed Tryd.func7 (by kernel_rfl) rfl (by kernel_rfl) rfl fun Q hQ => ?_
 rw [law49_awake] at hs
 refine goD f0 ?_
 revert hs; refine bK fun y5 hx6 hs => ?_
 refine cP f0 (at_law49_one hx6) ?_
 refine goD f0 ?_
 revert hs; refine bK fun y7 hx8 hs => ?_
 refine cP f0 (at_checkpoint_Digest hx8) ?_
 refine goD f0 ?_
 revert hs; refine bK fun y13 hx14 hs => ?_
 refine cP f0 (at_law49_one hx14) ?_
 refine goD f0 ?_
 revert hs; refine bK fun y15 hx16 hs => ?_
 refine cP f0 (at_unz (args := [.agg (eA y13), .agg [nC 1, nC 4], .agg [.z, bC false, nC 0, nC 0]]) (by simp) (at_checkpoint_Encode hx16)) ?_
 refine goD f0 ?_
 revert hs; refine bK fun y21 hx22 hs => ?_
 refine cP f0 (at_law49_one hx22) ?_
 refine goD f0 ?_
 revert hs; refine bK fun y23 hx24 hs => ?_
 refine cP f0 (at_checkpoint_Decode hx24) ?_
 refine goD f0 ?_
 revert hs; refine bK fun y29 hx30 hs => ?_
 refine cP f0 (at_law49_one hx30) ?_
 refine goD f0 ?_
 revert hs; refine bK fun y31 hx32 hs => ?_
 refine cP f0 (at_checkpoint_Decode hx32) ?_
 refine goD f0 ?_
 revert hs; refine bK fun y37 hx38 hs => ?_
 refine cP f0 (at_law49_one hx38) ?_
 refine goD f0 ?_
 revert hs; refine bK fun y39 hx40 hs => ?_
 refine cP f0 (at_unz (args := [.agg (eA y37), .agg [nC 1, nC 4], .agg [.z, bC false, nC (-1), nC 0]]) (by simp) (at_checkpoint_Encode hx40)) ?_
 refine goD f0 ?_
 revert hs; refine bK fun y41 hx42 hs => ?_
 refine cA f0 (at_unz (args := [.cell (.z), iV .i64 y7.1]) (by simp) (at_frame_AppendUint hx42)) ?_
 revert hs; refine lK fun l43 hx44 hs => ?_
 have hx44n : l43.length = 4 := by rw [hx44]; rfl
 obtain ⟨g45, hs⟩ := guardO_some hs
 have g45 := limB_t g45
 obtain ⟨g45a, g45b⟩ := g45
 revert hs; refine lK fun l46 hx47 hs => ?_
 have hx47n : l46.length = (y41.length + l43.length) := by rw [hx47]; simp
 have hx47e : encL l46 = encL y41 ++ encL l43 := by rw [hx47]; simp
 have F1 := an hx44 (an hx47n hx47e)
 refine goE F1 F1 ?_
 refine gsel_split (fun h48 => ?_) (fun h48 => ?_)
 ·replace hs := condT h48 hs
  have f49 : (encL l46).take (l46.length) = encL l46 := encL_take1 _ (by simp)
  have F2 := an F1 h48
  try simp [F2] at f49
  have f49l : l46.length * 1 <= (encL l46).length := by rw [encL_length]; simp
  try simp [F2] at f49l
  have F3 := an F2 (an f49 f49l)
  refine goE F3 F3 ?_
  revert hs; refine bK fun y50 hx51 hs => ?_
  refine cA F3 (at_frame_Seal hx51) ?_
  refine goE F3 F3 ?_
  revert hs; refine bK fun y52 hx53 hs => ?_
  refine cP F3 (at_law49_bytes hx53) ?_
  refine goE F3 F3 ?_
  obtain ⟨g54, hs⟩ := guardO_some hs
  refine gsel_call (fun hg => at_unz (args := [.agg (eA y23.1), .agg [.z, bC false, nC 0, nC 0]]) (by simp) (at_r49_Same (under_call g54 hg))) (fun hg => by (try simp at hg); (first | simp [hg, F3]); try rfl) (fun hg => by (try simp at hg); simp [hg, F3]) (by simp) ?_
  refine goE F3 F3 ?_
  obtain ⟨g55, hs⟩ := guardO_some hs
  refine gsel_call (fun hg => at_checkpoint_Valid (under_call g55 hg)) (fun hg => by (try simp at hg); (first | simp [hg, F3]); try rfl) (fun hg => by (try simp at hg); simp [hg, F3]) (by simp) ?_
  refine goE F3 F3 ?_
  obtain ⟨g56, hs⟩ := guardO_some hs
  refine gsel_call (fun hg => at_unz (args := [.agg [.z, bC false, nC 0, nC (-1)]]) (by simp) (at_checkpoint_Valid (under_call g56 hg))) (fun hg => by (try simp at hg); (first | simp [hg, F3]); try rfl) (fun hg => by (try simp at hg); simp [hg, F3]) (by simp) ?_
  refine goE F3 F3 ?_
  obtain rfl := sj hs
  exact hQ _ _ (rg F3 (Gh.refl _))
 ·replace hs := condF h48 hs
  have F4 := an F1 h48
  refine goE F4 F4 ?_
  obtain rfl := sj hs
  exact hQ _ _ (rg F4 (Gh.refl _))
end Go.Dc
end
section
set_option linter.all false
namespace Go.Dc
open Go Go.Hw Go.Proofs
set_option maxRecDepth 100000
def law49_CheckpointRoundTrip (fuelN : Nat) (a0 : R26Job) (a1 : Snapshot) (a2 : List UInt8) : Option Bool :=
 Option.bind (r26_Small fuelN a0.Program a0.Config.Bound) (fun y1 => guardO (orB (!y1) ((r49_Few fuelN a1).isSome)) (cond (orB (orB (!y1) (!((r49_Few fuelN a1).getD default))) (ltI 3000 ((a2.length : Nat) : Int))) (Option.bind (law49_awake fuelN) (fun y5 => some y5)) (Option.bind (checkpoint_Encode fuelN a0.Program a0.Config a1) (fun y7 => Option.bind (α := Unit ⊕ Bool) (cond (eqI y7.2 0) (Option.bind (checkpoint_Decode fuelN a0.Program a0.Config y7.1) (fun y19 => guardO (orB (!(eqI y19.2 0)) ((r49_Same fuelN a1 y19.1).isSome)) (cond (orB (!(eqI y19.2 0)) (!((r49_Same fuelN a1 y19.1).getD default))) (some (.inr false)) (some (.inl ()))))) (some (.inl ()))) (fun o => match o with | .inl _ => Option.bind (checkpoint_Decode fuelN a0.Program a0.Config a2) (fun y23 => cond (eqI y23.2 0) (Option.bind (checkpoint_Encode fuelN a0.Program a0.Config y23.1) (fun y26 => guardO (orB (!(eqI y26.2 0)) ((law49_bytes y26.1 a2).isSome)) (cond (orB (!(eqI y26.2 0)) (!((law49_bytes y26.1 a2).getD default))) (some false) (Option.bind (law49_awake fuelN) (fun y30 => guardO (orB (!y30) ((checkpoint_Valid fuelN a1).isSome)) (guardO (orB (!(andB y30 ((checkpoint_Valid fuelN a1).getD default))) ((r26_Standard fuelN a0.Program a0.Config).isSome)) (some (andB y30 (eqB (eqI y7.2 0) (andB ((checkpoint_Valid fuelN a1).getD default) (eqI ((r26_Standard fuelN a0.Program a0.Config).getD default) 0))))))))))) (Option.bind (law49_awake fuelN) (fun y34 => guardO (orB (!y34) ((checkpoint_Valid fuelN a1).isSome)) (guardO (orB (!(andB y34 ((checkpoint_Valid fuelN a1).getD default))) ((r26_Standard fuelN a0.Program a0.Config).isSome)) (some (andB y34 (eqB (eqI y7.2 0) (andB ((checkpoint_Valid fuelN a1).getD default) (eqI ((r26_Standard fuelN a0.Program a0.Config).getD default) 0))))))))) | .inr r38 => some r38)))))
end Go.Dc
end
section
set_option linter.all false
namespace Go.Dc.Pl
open Go Go.Hw Go.Dc
set_option maxRecDepth 100000
theorem awake_t : law49_awake 67108864 = some true := by kernel_rfl
theorem dec_forth {p : Program} {c : Config} {s : Snapshot} (hp : small p = true) (hb : bkL (Enc.enc s) <= 1048576) (h : (encodeB (digest p c) s).2 = 0) :
  (digest p c).2 = 0 /\ validS s = true /\ (encodeB (digest p c) s).1 = sealB (payB (digest p c).1 s) /\ (payB (digest p c).1 s).length <= 20000000 /\ decodeB (digest p c) (sealB (payB (digest p c).1 s)) = (s, 0) := by
 unfold encodeB at h ⊢
 by_cases h1 : (digest p c).2 = 0
 ·rw [if_neg (fun x : (digest p c).2 ≠ 0 => x h1)] at h ⊢
  cases hv : validS s with
  | false => rw [hv, if_pos rfl] at h; simp at h
  | true =>
   have hw := snap_wid hb
   have hl := payB_len (digest_range p c) hv (fun g hg => ⟨(hw g hg).1, (hw g hg).2.1⟩) (by have := (nS_bk s).1; omega)
   have hn := (nS_bk s).1
   rw [if_neg (by simp)]
   exact ⟨h1, rfl, rfl, by omega, decode_encode (digest_range p c) h1 hv (fun g hg => (hw g hg).2.1) (by omega)⟩
 ·rw [if_pos (show (digest p c).2 ≠ 0 from h1)] at h; exact (h1 h).elim
theorem sealB_len (p : List UInt8) (h : p.length <= 4611686018427387904) : (sealB p).length <= p.length + 13 := by
 have := uintB_le9 h
 unfold sealB sumB; simp only [List.length_append, List.length_cons, List.length_nil]; omega
end Go.Dc.Pl
end
section
set_option linter.all false
namespace Go.Dc
open Go Go.Hw Go.Proofs
set_option maxRecDepth 100000
def law49_CheckpointBinding_L1 (fuelN : Nat) (a0 : R26Job) (y8 : (List UInt8) × Int) : Nat -> Int -> Option (Unit ⊕ Bool)
 | 0, _ => none
 | q151 + 1, i129 => cond (ltI i129 ((y8.1.length : Nat) : Int)) (guardO (slB 0 i129 y8.1.length) (Option.bind (some (subL y8.1 0 i129)) (fun l163 => Option.bind (checkpoint_Decode fuelN a0.Program a0.Config l163) (fun y166 => cond (!(eqI y166.2 22)) (some (.inr false)) (law49_CheckpointBinding_L1 fuelN a0 y8 q151 (IntKind.i64.wrap (IntKind.i64.wrap (i129 + 1) + IntKind.i64.wrap (Int.tdiv i129 8)))))))) (some (.inl ()))
def law49_CheckpointBinding (fuelN : Nat) (a0 : R26Job) (a1 : R26Job) (a2 : Snapshot) : Option Bool :=
 Option.bind (r26_Small fuelN a0.Program a0.Config.Bound) (fun y1 => guardO (orB (!y1) ((r26_Small fuelN a1.Program a1.Config.Bound).isSome)) (guardO (orB (!(!(orB (!y1) (!((r26_Small fuelN a1.Program a1.Config.Bound).getD default))))) ((r49_Few fuelN a2).isSome)) (cond (orB (orB (!y1) (!((r26_Small fuelN a1.Program a1.Config.Bound).getD default))) (!((r49_Few fuelN a2).getD default))) (Option.bind (law49_awake fuelN) (fun y6 => some y6)) (Option.bind (checkpoint_Encode fuelN a0.Program a0.Config a2) (fun y8 => cond (!(eqI y8.2 0)) (Option.bind (law49_awake fuelN) (fun y11 => some (andB y11 (eqI ((y8.1.length : Nat) : Int) 0)))) (Option.bind (checkpoint_Digest fuelN a0.Program a0.Config) (fun y13 => Option.bind (checkpoint_Digest fuelN a1.Program a1.Config) (fun y15 => Option.bind (checkpoint_Decode fuelN a1.Program a1.Config y8.1) (fun y17 => cond (orB (orB (andB (eqI y15.2 0) (!(eqB (eqI y17.2 0) (eqI y15.1 y13.1)))) (andB (andB (eqI y15.2 0) (!(eqI y15.1 y13.1))) (!(eqI y17.2 30)))) (andB (!(eqI y15.2 0)) (!(eqI y17.2 y15.2)))) (some false) (Option.bind (α := Unit ⊕ Bool) (Option.bind (law49_CheckpointBinding_L1 fuelN a0 y8 fuelN 0) (fun o => match o with | .inl _ => some (.inl ()) | .inr r169 => some (.inr r169))) (fun o => match o with | .inl _ => Option.bind (some (([] : List UInt8))) (fun l170 => guardO (limB 1 (l170.length + y8.1.length)) (Option.bind (some (l170 ++ y8.1)) (fun l173 => Option.bind (some ([0])) (fun l175 => guardO (limB 1 (l173.length + l175.length)) (Option.bind (some (l173 ++ l175)) (fun l178 => Option.bind (checkpoint_Decode fuelN a0.Program a0.Config l178) (fun y181 => Option.bind (law49_awake fuelN) (fun y183 => some (andB y183 (eqI y181.2 3)))))))))) | .inr r185 => some r185)))))))))))
set_option maxHeartbeats 2000000 in
theorem at_law49_CheckpointBinding {fuelN : Nat} {a0 : R26Job} {a1 : R26Job} {a2 : Snapshot} {r : Bool} (hs : law49_CheckpointBinding fuelN a0 a1 a2 = some r) : At Tryd.prog 5 [.agg (eA a0), .agg (eA a1), .agg (eA a2)] (bV r) := by
 refine at_bound (by kernel_rfl) fun hb => ?_
 have hb1 : LenOk (.sl a0.Program.Vars.length (encL a0.Program.Vars)) := lkc hb
 have hb2 : LenOk (.sl a0.Program.Mutexes.length (encL a0.Program.Mutexes)) := lkc hb
 have hb3 : LenOk (.sl a0.Program.Conds.length (encL a0.Program.Conds)) := lkc hb
 have hb4 : LenOk (.sl a0.Program.Funcs.length (encL a0.Program.Funcs)) := lkc hb
 have hb5 : LenOk (.sl a0.Program.Threads.length (encL a0.Program.Threads)) := lkc hb
 have hb6 : LenOk (.sl a0.Schedule.length (encL a0.Schedule)) := lkc hb
 have hb7 : LenOk (.sl a1.Program.Vars.length (encL a1.Program.Vars)) := lkc hb
 have hb8 : LenOk (.sl a1.Program.Mutexes.length (encL a1.Program.Mutexes)) := lkc hb
 have hb9 : LenOk (.sl a1.Program.Conds.length (encL a1.Program.Conds)) := lkc hb
 have hb10 : LenOk (.sl a1.Program.Funcs.length (encL a1.Program.Funcs)) := lkc hb
 have hb11 : LenOk (.sl a1.Program.Threads.length (encL a1.Program.Threads)) := lkc hb
 have hb12 : LenOk (.sl a1.Schedule.length (encL a1.Schedule)) := lkc hb
 have hb13 : LenOk (.sl a2.Frames.length (encL a2.Frames)) := lkc hb
 refine at_code mixed Tryd.func5 (by kernel_rfl) rfl (by kernel_rfl) rfl fun Q hQ => ?_
 rw [law49_CheckpointBinding] at hs
 refine goR f0 ?_
 revert hs; refine bK fun y1 hx2 hs => ?_
 refine cP f0 (at_r26_Small hx2) ?_
 refine goG f0 f0 ?_
 obtain ⟨g3, hs⟩ := guardO_some hs
 refine gsel_call (fun hg => at_r26_Small (under_call g3 hg)) (fun hg => by (try simp at hg); (first | simp [hg, id]); try rfl) (fun hg => by (try simp at hg); simp [hg, id]) (by simp) ?_
 refine goG f0 f0 ?_
 obtain ⟨g4, hs⟩ := guardO_some hs
 refine gsel_call (fun hg => at_r49_Few (under_call g4 hg)) (fun hg => by (try simp at hg); (first | simp [hg, id]); try rfl) (fun hg => by (try simp at hg); simp [hg, id]) (by simp) ?_
 refine goG f0 f0 ?_
 revert hs; refine cS f0 ?_ ?_ <;> intro h5 hs
 ·refine goG f0 f0 ?_
  revert hs; refine bK fun y6 hx7 hs => ?_
  refine cP f0 (at_law49_awake hx7) ?_
  refine goG f0 f0 ?_
  obtain rfl := sj hs
  exact hQ _ _ (rg f0 (Gh.refl _))
 ·refine goG f0 f0 ?_
  revert hs; refine bK fun y8 hx9 hs => ?_
  refine cP f0 (at_checkpoint_Encode hx9) ?_
  refine goG f0 f0 ?_
  revert hs; refine cS f0 ?_ ?_ <;> intro h10 hs
  ·refine goG f0 f0 ?_
   revert hs; refine bK fun y11 hx12 hs => ?_
   refine cP f0 (at_law49_awake hx12) ?_
   refine goG f0 f0 ?_
   obtain rfl := sj hs
   exact hQ _ _ (rg f0 (Gh.refl _))
  ·refine goG f0 f0 ?_
   revert hs; refine bK fun y13 hx14 hs => ?_
   refine cP f0 (at_checkpoint_Digest hx14) ?_
   refine goG f0 f0 ?_
   revert hs; refine bK fun y15 hx16 hs => ?_
   refine cP f0 (at_checkpoint_Digest hx16) ?_
   refine goG f0 f0 ?_
   revert hs; refine bK fun y17 hx18 hs => ?_
   refine cP f0 (at_checkpoint_Decode hx18) ?_
   refine goG f0 f0 ?_
   revert hs; refine cS f0 ?_ ?_ <;> intro h19 hs
   ·refine goG f0 f0 ?_
    obtain rfl := sj hs
    exact hQ _ _ (rg f0 (Gh.refl _))
   ·refine goG2 f0 f0 ?_
    revert hs; refine bK fun o94 e93 hs => ?_
    refine awp_cutK (fun (v : Unit) (σ : St) => some (.inl v) = some o94 /\ σ.env 3 = .cell (.ref (.o 1 0 0) 0) /\ σ.env 7 = .cell (sC y8.1) /\ σ.hp (.o 1 0 0) = some (.cells (eA a0)) /\ 9 <= σ.gen) (by rfl) (fun Q hK95 hX96 => ?_) (fun v σ3 hp => ?_)
    ·refine goG f0 f0 ?_
     revert e93; refine bK fun o146 e145 e93 => ?_
     refine awp_loopW (fun (v : Nat × Int) (σ : St) => law49_CheckpointBinding_L1 fuelN a0 y8 v.1 v.2 = some o146 /\ σ.env 3 = .cell (.ref (.o 1 0 0) 0) /\ σ.env 7 = .cell (sC y8.1) /\ σ.env 15 = iV .i64 v.2 /\ σ.hp (.o 1 0 0) = some (.cells (eA a0)) /\ 9 <= σ.gen) (fun v => v.1) _ (Gh.refl _) (fuelN, 0) ⟨e145, pv f0, pv f0, pv f0, pv f0, pg⟩ fun v σ6 hp L147 hL148 => ?_
     obtain ⟨q150, i129⟩ := v
     dsimp only at hp hL148
     obtain ⟨e145, h5_3, h5_7, h5_15, g5_0, n5_g⟩ := hp
     have n5_0 : ¬ (σ6.gen = 0) := by omega
     rcases q150 with _ | q151
     ·rw [law49_CheckpointBinding_L1] at e145; cases e145
     ·rw [law49_CheckpointBinding_L1] at e145; try dsimp only at e145
      have F1 := an h5_3 (an h5_7 (an h5_15 (an g5_0 n5_0)))
      refine goR F1 ?_
      revert e145; refine cS F1 ?_ ?_ <;> intro h155 e145
      ·obtain ⟨g162, e145⟩ := guardO_some e145
       obtain ⟨g162a, g162b, g162c⟩ := slB_t g162
       revert e145; refine lK fun l163 hx164 e145 => ?_
       have f165n : l163.length = (i129 - 0).toNat := by rw [hx164]; exact subL_len ⟨g162a, g162b, g162c⟩
       have f165e : ((encL y8.1).drop ((0 : Int).toNat * 1)).take ((i129 - 0).toNat * 1) = encL l163 := by rw [hx164]; exact subL_enc (α := UInt8)
       try simp at f165n
       try simp at f165e
       have F2 := an F1 (an g162a (an g162b (an g162c (an f165n f165e))))
       refine goD F2 ?_
       revert e145; refine bK fun y166 hx167 e145 => ?_
       refine cP F2 (at_checkpoint_Decode hx167) ?_
       refine goD F2 ?_
       revert e145; refine cS F2 ?_ ?_ <;> intro h168 e145
       ·refine goD F2 ?_
        obtain rfl := sj e145
        try dsimp only at e93
        obtain rfl := sj e93
        try dsimp only at hs
        refine hX96 _ _ (by simp) ?_
        refine goD F2 ?_
        obtain rfl := sj hs
        exact hQ _ _ (rg F2 (Gh.refl _))
       ·refine goD F2 ?_
        exact hL148 (q151, IntKind.i64.wrap (IntKind.i64.wrap (i129 + 1) + IntKind.i64.wrap (Int.tdiv i129 8))) _ _ (Gh.refl _) ⟨e145, pv F2, pv F2, pv F2, pv F2, pg⟩ (by omega)
      ·refine goR F1 ?_
       obtain rfl := sj e145
       try dsimp only at e93
       exact hK95 () _ _ (Gh.refl _) ⟨e93, pv F1, pv F1, pv F1, pg⟩
    ·obtain ⟨e93, h4_3, h4_7, g4_0, n4_g⟩ := hp
     obtain rfl := sj e93
     try dsimp only at hs
     have n4_0 : ¬ (σ3.gen = 0) := by omega
     revert hs; refine lK fun l170 hx171 hs => ?_
     have hx171n : l170.length = 0 := by rw [hx171]; rfl
     obtain ⟨g172, hs⟩ := guardO_some hs
     have g172 := limB_t g172
     obtain ⟨g172a, g172b⟩ := g172
     revert hs; refine lK fun l173 hx174 hs => ?_
     have hx174n : l173.length = (l170.length + y8.1.length) := by rw [hx174]; simp
     have hx174e : encL l173 = encL l170 ++ encL y8.1 := by rw [hx174]; simp
     revert hs; refine lK fun l175 hx176 hs => ?_
     have hx176n : l175.length = 1 := by rw [hx176]; rfl
     obtain ⟨g177, hs⟩ := guardO_some hs
     have g177 := limB_t g177
     obtain ⟨g177a, g177b⟩ := g177
     revert hs; refine lK fun l178 hx179 hs => ?_
     have hx179n : l178.length = (l173.length + l175.length) := by rw [hx179]; simp
     have hx179e : encL l178 = encL l173 ++ encL l175 := by rw [hx179]; simp
     have f180 : (encL l178).take (l178.length) = encL l178 := encL_take1 _ (by simp)
     have F3 := an h4_3 (an h4_7 (an g4_0 (an n4_0 (an hx171 (an hx174n (an hx174e (an hx176 (an hx179n hx179e))))))))
     try simp [F3] at f180
     have f180l : l178.length * 1 <= (encL l178).length := by rw [encL_length]; simp
     try simp [F3] at f180l
     have F4 := an F3 (an f180 f180l)
     refine goG F4 F4 ?_
     revert hs; refine bK fun y181 hx182 hs => ?_
     refine cA F4 (at_checkpoint_Decode hx182) ?_
     refine goG F4 F4 ?_
     revert hs; refine bK fun y183 hx184 hs => ?_
     refine cP F4 (at_law49_awake hx184) ?_
     refine goG F4 F4 ?_
     obtain rfl := sj hs
     exact hQ _ _ (rg F4 (Gh.refl _))
end Go.Dc
end
section
set_option linter.all false
namespace Go.Dc.Pl
open Go Go.Hw Go.Dc
theorem decode_other {dg : Int × Int} {d : Int} {s : Snapshot} (hd : 0 <= d /\ d < 4294967296) (h0 : dg.2 = 0) (hne : dg.1 ≠ d) (hl : (payB d s).length <= 100000000) : decodeB dg (sealB (payB d s)) = (snap0, 30) := by
 have ho := openB_app hl []
 rw [List.append_nil] at ho
 have hp : payB d s = uintB d.toNat ++ (uintB (if s.Done then 1 else 0) ++ uintB s.Count.toNat ++ uintB s.Blocked.toNat ++ uintB s.Frames.length ++ s.Frames.flatMap encF) := by unfold payB; simp
 have hu := rdU_app (n := d.toNat) (by omega) (uintB (if s.Done then 1 else 0) ++ uintB s.Count.toNat ++ uintB s.Blocked.toNat ++ uintB s.Frames.length ++ s.Frames.flatMap encF)
 rw [<- hp] at hu
 unfold decodeB
 rw [if_neg (fun h : dg.2 ≠ 0 => h h0), ho]
 simp only []
 rw [if_neg (by simp), if_neg (by simp), hu]
 simp only []
 rw [if_neg (by simp), if_pos (by omega)]
theorem decode_cut {dg : Int × Int} {p : List UInt8} {i : Nat} (h0 : dg.2 = 0) (hp : p.length <= 100000000) (hi : i < (sealB p).length) : decodeB dg ((sealB p).take i) = (snap0, 22) := by
 have ho := open_prefix hp hi
 unfold decodeB
 rw [if_neg (fun h : dg.2 ≠ 0 => h h0), ho]
 simp only []
 rw [if_pos (by decide)]
theorem decode_more {dg : Int × Int} {p : List UInt8} {x : UInt8} (h0 : dg.2 = 0) (hp : p.length <= 100000000) : decodeB dg (sealB p ++ [x]) = (snap0, 3) := by
 have ho := openB_app hp [x]
 unfold decodeB
 rw [if_neg (fun h : dg.2 ≠ 0 => h h0), ho]
 simp only []
 rw [if_neg (by simp), if_pos (by simp)]
def tailB (fuelN : Nat) (j : R26Job) (S : List UInt8) : Option Bool := Option.bind (some (([] : List UInt8))) (fun l170 => guardO (limB 1 (l170.length + S.length)) (Option.bind (some (l170 ++ S)) (fun l173 => Option.bind (some ([0])) (fun l175 => guardO (limB 1 (l173.length + l175.length)) (Option.bind (some (l173 ++ l175)) (fun l178 => Option.bind (checkpoint_Decode fuelN j.Program j.Config l178) (fun y181 => Option.bind (law49_awake fuelN) (fun y183 => some (andB y183 (eqI y181.2 3))))))))))
theorem binding_eq (fuelN : Nat) (a0 a1 : R26Job) (a2 : Snapshot) : law49_CheckpointBinding fuelN a0 a1 a2 = Option.bind (r26_Small fuelN a0.Program a0.Config.Bound) (fun y1 => guardO (orB (!y1) ((r26_Small fuelN a1.Program a1.Config.Bound).isSome)) (guardO (orB (!(!(orB (!y1) (!((r26_Small fuelN a1.Program a1.Config.Bound).getD default))))) ((r49_Few fuelN a2).isSome)) (cond (orB (orB (!y1) (!((r26_Small fuelN a1.Program a1.Config.Bound).getD default))) (!((r49_Few fuelN a2).getD default))) (Option.bind (law49_awake fuelN) (fun y6 => some y6)) (Option.bind (checkpoint_Encode fuelN a0.Program a0.Config a2) (fun y8 => cond (!(eqI y8.2 0)) (Option.bind (law49_awake fuelN) (fun y11 => some (andB y11 (eqI ((y8.1.length : Nat) : Int) 0)))) (Option.bind (checkpoint_Digest fuelN a0.Program a0.Config) (fun y13 => Option.bind (checkpoint_Digest fuelN a1.Program a1.Config) (fun y15 => Option.bind (checkpoint_Decode fuelN a1.Program a1.Config y8.1) (fun y17 => cond (orB (orB (andB (eqI y15.2 0) (!(eqB (eqI y17.2 0) (eqI y15.1 y13.1)))) (andB (andB (eqI y15.2 0) (!(eqI y15.1 y13.1))) (!(eqI y17.2 30)))) (andB (!(eqI y15.2 0)) (!(eqI y17.2 y15.2)))) (some false) (Option.bind (α := Unit ⊕ Bool) (Option.bind (law49_CheckpointBinding_L1 fuelN a0 y8 fuelN 0) (fun o => match o with | .inl _ => some (.inl ()) | .inr r169 => some (.inr r169))) (fun o => match o with | .inl _ => (tailB fuelN a0 y8.1) | .inr r185 => some r185))))))))))) := rfl
theorem bind_end {S : List UInt8} {A : List UInt8 -> Option (Snapshot × Int)} (hA : A (S ++ [0]) = some (snap0, 3)) (h : S.length <= 1000000000) :
  (Option.bind (some (([] : List UInt8))) fun l170 => guardO (limB 1 (l170.length + S.length)) (Option.bind (some (l170 ++ S)) fun l173 => Option.bind (some ([0] : List UInt8)) fun l175 => guardO (limB 1 (l173.length + l175.length)) (Option.bind (some (l173 ++ l175)) fun l178 => Option.bind (A l178) fun y181 => Option.bind (some true) fun y183 => some (andB y183 (eqI y181.2 3))))) = some true := by
 show guardO (limB 1 (0 + S.length)) (guardO (limB 1 (S.length + 1)) (Option.bind (A (S ++ [0])) _)) = _
 rw [lim1 (by omega), guardO_t, lim1 (by omega), guardO_t, hA]; rfl
theorem law_binding (j k : R26Job) (s : Snapshot) (hb : bkL (Enc.enc s) <= 1048576) : law49_CheckpointBinding 67108864 j k s = some true := by
 obtain ⟨b0, hb0, hs⟩ := small26 j.Program j.Config.Bound (f := 67108864) (by omega)
 obtain ⟨b2, hb2, hs2⟩ := small26 k.Program k.Config.Bound (f := 67108864) (by omega)
 have hfr := (nS_bk s).2.1
 obtain ⟨b1, hb1⟩ := few_ex (f := 67108864) (s := s) (by omega) (by omega)
 rw [binding_eq, hb0, hb2, hb1, awake_t]
 simp only [Option.bind_some, Option.isSome_some, Option.getD_some, orB_t, guardO_t]
 cases b0 with
 | false => rfl
 | true =>
  have hp := hs rfl
  cases b2 with
  | false => rfl
  | true =>
   have hp2 := hs2 rfl
   cases b1 with
   | false => rfl
   | true =>
    rw [encode_own hp hb]
    simp only [orB_d, Bool.not_true, Bool.or_false, cond_false, Option.bind_some]
    by_cases he : (encodeB (digest j.Program j.Config) s).2 = 0
    ·obtain ⟨d1, d2, d3, d4, d5⟩ := dec_forth hp hb he
     have hsl := sealB_len (payB (digest j.Program j.Config).1 s) (by omega)
     have hr := digest_range j.Program j.Config
     rw [show eqI (encodeB (digest j.Program j.Config) s).2 0 = true by rw [eqI_d, decide_eq_true he], Bool.not_true, cond_false, d3, own_digest (by omega) j.Config hp, own_digest (by omega) k.Config hp2, own_decode hp2 (by omega) (by omega)]
     simp only [Option.bind_some]
     generalize hS : sealB (payB (digest j.Program j.Config).1 s) = S at *
     have hg : ((andB (eqI (digest k.Program k.Config).2 0) (!(eqB (eqI (decodeB (digest k.Program k.Config) S).2 0) (eqI (digest k.Program k.Config).1 (digest j.Program j.Config).1))) || andB (andB (eqI (digest k.Program k.Config).2 0) (!(eqI (digest k.Program k.Config).1 (digest j.Program j.Config).1))) (!(eqI (decodeB (digest k.Program k.Config) S).2 30))) || andB (!(eqI (digest k.Program k.Config).2 0)) (!(eqI (decodeB (digest k.Program k.Config) S).2 (digest k.Program k.Config).2))) = false := by
      by_cases hk : (digest k.Program k.Config).2 = 0
      ·rw [show eqI (digest k.Program k.Config).2 0 = true by rw [eqI_d, decide_eq_true hk]]
       by_cases hx : (digest k.Program k.Config).1 = (digest j.Program j.Config).1
       ·have : digest k.Program k.Config = digest j.Program j.Config := Prod.ext hx (by rw [hk, d1])
        rw [this, d5]; simp [eqI_d, andB_d]; rfl
       ·have := decode_other (s := s) hr hk hx (by omega)
        rw [hS] at this
        rw [this, show eqI (digest k.Program k.Config).1 (digest j.Program j.Config).1 = false by rw [eqI_d, decide_eq_false hx]]; rfl
      ·have : decodeB (digest k.Program k.Config) S = (snap0, (digest k.Program k.Config).2) := by unfold decodeB; rw [if_pos (show (digest k.Program k.Config).2 ≠ 0 from hk)]
       rw [this, show eqI (digest k.Program k.Config).2 0 = false by rw [eqI_d, decide_eq_false hk]]; simp [eqI_d, andB_d]
     rw [hg, cond_false]
     have hL : ∀ (q n : Nat), n <= 100000000 -> S.length - n < q -> law49_CheckpointBinding_L1 67108864 j (encodeB (digest j.Program j.Config) s) q (n : Int) = some (.inl ()) := by
      intro q
      induction q with
      | zero =>
       intro n h1 h2
       omega
      | succ q ih =>
       intro n h1 h2
       rw [law49_CheckpointBinding_L1, d3, ltI_d]
       by_cases hn : n < S.length
       ·have hc := decode_cut (dg := digest j.Program j.Config) (p := payB (digest j.Program j.Config).1 s) (i := n) d1 (by omega) (by rw [hS]; exact hn)
        rw [hS] at hc
        rw [decide_eq_true (by omega), cond_true, show slB 0 (n : Int) S.length = true by simp [slB]; omega, guardO_t, Option.bind_some, show subL S 0 (n : Int) = S.take n by simp [subL], own_decode hp (b := S.take n) (by simp; omega) (by simp; omega), hc, Option.bind_some]
        have e1 : IntKind.i64.wrap (IntKind.i64.wrap ((n : Int) + 1) + IntKind.i64.wrap (Int.tdiv (n : Int) 8)) = ((n + 1 + n / 8 : Nat) : Int) := by
         rw [show Int.tdiv (n : Int) 8 = ((n / 8 : Nat) : Int) from tdiv_nat n 8, wrapS (by omega), wrapN (by omega), <- Int.natCast_add, wrapN (by omega)]
        rw [e1]
        exact ih (n + 1 + n / 8) (by omega) (by omega)
       ·rw [decide_eq_false (by omega)]; rfl
     have hL0 := hL 67108864 0 (by omega) (by omega)
     rw [show ((0 : Nat) : Int) = 0 from rfl] at hL0
     have hm := decode_more (dg := digest j.Program j.Config) (p := payB (digest j.Program j.Config).1 s) (x := 0) d1 (by omega)
     rw [hS] at hm
     have hdm := own_decode (f := 67108864) (p := j.Program) (c := j.Config) (b := S ++ [0]) hp (by rw [List.length_append, List.length_singleton]; omega) (by rw [List.length_append, List.length_singleton]; omega)
     rw [hm] at hdm
     rw [hL0, Option.bind_some, Option.bind_some]
     rw [tailB, awake_t]
     exact bind_end (A := fun l => checkpoint_Decode 67108864 j.Program j.Config l) hdm (by omega)
    ·rw [show eqI (encodeB (digest j.Program j.Config) s).2 0 = false by rw [eqI_d, decide_eq_false he]]
     have : (encodeB (digest j.Program j.Config) s).1 = [] := by
      unfold encodeB at he ⊢
      by_cases h1 : (digest j.Program j.Config).2 = 0
      ·rw [if_neg (fun x : (digest j.Program j.Config).2 ≠ 0 => x h1)] at he ⊢
       by_cases hv : validS s = false
       ·rw [if_pos hv]
       ·rw [if_neg hv] at he; exact (he rfl).elim
      ·rw [if_pos (show (digest j.Program j.Config).2 ≠ 0 from h1)]
     rw [this]; rfl
end Go.Dc.Pl
end
section
set_option linter.all false
namespace Go.Dc
open Go Go.Hw Go.Proofs
set_option maxRecDepth 100000
theorem dec9 {H : Type} : ∀ (n : Nat) (d : DataW H) (c : List CV), cvD Tryd.prog n 9 d = some c -> ∃ x : ByteArray, c = Enc.enc x
 | n, d, c, h => by
  obtain ⟨m, rfl⟩ := cvD_string Tryd.underlying9 h
  exact ⟨m, rfl⟩
theorem dec3 {H : Type} : ∀ (n : Nat) (d : DataW H) (c : List CV), cvD Tryd.prog n 3 d = some c -> ∃ x : Int, c = Enc.enc x
 | n, d, c, h => by
  obtain ⟨m, hm, rfl⟩ := cvD_int Tryd.underlying3 h
  exact ⟨m, rfl⟩
theorem dec66 {H : Type} : ∀ (n : Nat) (d : DataW H) (c : List CV), cvD Tryd.prog n 66 d = some c -> ∃ x : Var, c = Enc.enc x
 | n, d, c, h => by
  obtain ⟨m, l, hm, rfl, hl, h⟩ := cvD_structW Tryd.underlying66 h
  have hl : l.length = 2 := hl
  match l, hl with
  | [d0, d1], _ =>
   simp only [List.zipWith] at h
   obtain ⟨a0, b0, h0, k1, rfl⟩ := concatM_cons h
   obtain ⟨a1, b1, h1, k2, rfl⟩ := concatM_cons k1
   obtain rfl := concatM_nil k2
   obtain ⟨x0, rfl⟩ := dec9 m _ _ h0
   obtain ⟨x1, rfl⟩ := dec3 m _ _ h1
   exact ⟨⟨x0, x1⟩, by rw [enc_Var]; first | rfl | simp⟩
theorem dec22 {H : Type} : ∀ (n : Nat) (d : DataW H) (c : List CV), cvD Tryd.prog n 22 d = some c -> ∃ x : List Var, c = Enc.enc x
 | n, d, c, h => cvD_sliceW Tryd.underlying22 (fun m hm d c h => dec66 m d c h) h
theorem dec23 {H : Type} : ∀ (n : Nat) (d : DataW H) (c : List CV), cvD Tryd.prog n 23 d = some c -> ∃ x : List ByteArray, c = Enc.enc x
 | n, d, c, h => cvD_sliceW Tryd.underlying23 (fun m hm d c h => dec9 m d c h) h
theorem dec68 {H : Type} : ∀ (n : Nat) (d : DataW H) (c : List CV), cvD Tryd.prog n 68 d = some c -> ∃ x : Int, c = Enc.enc x
 | n, d, c, h => by
  obtain ⟨m, hm, rfl⟩ := cvD_int Tryd.underlying68 h
  exact ⟨m, rfl⟩
theorem dec69 {H : Type} : ∀ (n : Nat) (d : DataW H) (c : List CV), cvD Tryd.prog n 69 d = some c -> ∃ x : Int, c = Enc.enc x
 | n, d, c, h => by
  obtain ⟨m, hm, rfl⟩ := cvD_int Tryd.underlying69 h
  exact ⟨m, rfl⟩
theorem dec70 {H : Type} : ∀ (n : Nat) (d : DataW H) (c : List CV), cvD Tryd.prog n 70 d = some c -> ∃ x : Int, c = Enc.enc x
 | n, d, c, h => by
  obtain ⟨m, hm, rfl⟩ := cvD_int Tryd.underlying70 h
  exact ⟨m, rfl⟩
theorem dec72 {H : Type} : ∀ (n : Nat) (d : DataW H) (c : List CV), cvD Tryd.prog n 72 d = some c -> ∃ x : Inst, c = Enc.enc x
 | n, d, c, h => by
  obtain ⟨m, l, hm, rfl, hl, h⟩ := cvD_structW Tryd.underlying72 h
  have hl : l.length = 8 := hl
  match l, hl with
  | [d0, d1, d2, d3, d4, d5, d6, d7], _ =>
   simp only [List.zipWith] at h
   obtain ⟨a0, b0, h0, k1, rfl⟩ := concatM_cons h
   obtain ⟨a1, b1, h1, k2, rfl⟩ := concatM_cons k1
   obtain ⟨a2, b2, h2, k3, rfl⟩ := concatM_cons k2
   obtain ⟨a3, b3, h3, k4, rfl⟩ := concatM_cons k3
   obtain ⟨a4, b4, h4, k5, rfl⟩ := concatM_cons k4
   obtain ⟨a5, b5, h5, k6, rfl⟩ := concatM_cons k5
   obtain ⟨a6, b6, h6, k7, rfl⟩ := concatM_cons k6
   obtain ⟨a7, b7, h7, k8, rfl⟩ := concatM_cons k7
   obtain rfl := concatM_nil k8
   obtain ⟨x0, rfl⟩ := dec68 m _ _ h0
   obtain ⟨x1, rfl⟩ := dec3 m _ _ h1
   obtain ⟨x2, rfl⟩ := dec3 m _ _ h2
   obtain ⟨x3, rfl⟩ := dec3 m _ _ h3
   obtain ⟨x4, rfl⟩ := dec3 m _ _ h4
   obtain ⟨x5, rfl⟩ := dec3 m _ _ h5
   obtain ⟨x6, rfl⟩ := dec69 m _ _ h6
   obtain ⟨x7, rfl⟩ := dec70 m _ _ h7
   exact ⟨⟨x0, x1, x2, x3, x4, x5, x6, x7⟩, by rw [enc_Inst]; first | rfl | simp⟩
theorem dec54 {H : Type} : ∀ (n : Nat) (d : DataW H) (c : List CV), cvD Tryd.prog n 54 d = some c -> ∃ x : List Inst, c = Enc.enc x
 | n, d, c, h => cvD_sliceW Tryd.underlying54 (fun m hm d c h => dec72 m d c h) h
theorem dec56 {H : Type} : ∀ (n : Nat) (d : DataW H) (c : List CV), cvD Tryd.prog n 56 d = some c -> ∃ x : Func, c = Enc.enc x
 | n, d, c, h => by
  obtain ⟨m, l, hm, rfl, hl, h⟩ := cvD_structW Tryd.underlying56 h
  have hl : l.length = 2 := hl
  match l, hl with
  | [d0, d1], _ =>
   simp only [List.zipWith] at h
   obtain ⟨a0, b0, h0, k1, rfl⟩ := concatM_cons h
   obtain ⟨a1, b1, h1, k2, rfl⟩ := concatM_cons k1
   obtain rfl := concatM_nil k2
   obtain ⟨x0, rfl⟩ := dec9 m _ _ h0
   obtain ⟨x1, rfl⟩ := dec54 m _ _ h1
   exact ⟨⟨x0, x1⟩, by rw [enc_Func]; first | rfl | simp⟩
theorem dec24 {H : Type} : ∀ (n : Nat) (d : DataW H) (c : List CV), cvD Tryd.prog n 24 d = some c -> ∃ x : List Func, c = Enc.enc x
 | n, d, c, h => cvD_sliceW Tryd.underlying24 (fun m hm d c h => dec56 m d c h) h
theorem dec74 {H : Type} : ∀ (n : Nat) (d : DataW H) (c : List CV), cvD Tryd.prog n 74 d = some c -> ∃ x : Start, c = Enc.enc x
 | n, d, c, h => by
  obtain ⟨m, l, hm, rfl, hl, h⟩ := cvD_structW Tryd.underlying74 h
  have hl : l.length = 2 := hl
  match l, hl with
  | [d0, d1], _ =>
   simp only [List.zipWith] at h
   obtain ⟨a0, b0, h0, k1, rfl⟩ := concatM_cons h
   obtain ⟨a1, b1, h1, k2, rfl⟩ := concatM_cons k1
   obtain rfl := concatM_nil k2
   obtain ⟨x0, rfl⟩ := dec3 m _ _ h0
   obtain ⟨x1, rfl⟩ := dec3 m _ _ h1
   exact ⟨⟨x0, x1⟩, by rw [enc_Start]; first | rfl | simp⟩
theorem dec25 {H : Type} : ∀ (n : Nat) (d : DataW H) (c : List CV), cvD Tryd.prog n 25 d = some c -> ∃ x : List Start, c = Enc.enc x
 | n, d, c, h => cvD_sliceW Tryd.underlying25 (fun m hm d c h => dec74 m d c h) h
theorem dec27 {H : Type} : ∀ (n : Nat) (d : DataW H) (c : List CV), cvD Tryd.prog n 27 d = some c -> ∃ x : Program, c = Enc.enc x
 | n, d, c, h => by
  obtain ⟨m, l, hm, rfl, hl, h⟩ := cvD_structW Tryd.underlying27 h
  have hl : l.length = 5 := hl
  match l, hl with
  | [d0, d1, d2, d3, d4], _ =>
   simp only [List.zipWith] at h
   obtain ⟨a0, b0, h0, k1, rfl⟩ := concatM_cons h
   obtain ⟨a1, b1, h1, k2, rfl⟩ := concatM_cons k1
   obtain ⟨a2, b2, h2, k3, rfl⟩ := concatM_cons k2
   obtain ⟨a3, b3, h3, k4, rfl⟩ := concatM_cons k3
   obtain ⟨a4, b4, h4, k5, rfl⟩ := concatM_cons k4
   obtain rfl := concatM_nil k5
   obtain ⟨x0, rfl⟩ := dec22 m _ _ h0
   obtain ⟨x1, rfl⟩ := dec23 m _ _ h1
   obtain ⟨x2, rfl⟩ := dec23 m _ _ h2
   obtain ⟨x3, rfl⟩ := dec24 m _ _ h3
   obtain ⟨x4, rfl⟩ := dec25 m _ _ h4
   exact ⟨⟨x0, x1, x2, x3, x4⟩, by rw [enc_Program]; first | rfl | simp⟩
theorem dec28 {H : Type} : ∀ (n : Nat) (d : DataW H) (c : List CV), cvD Tryd.prog n 28 d = some c -> ∃ x : Int, c = Enc.enc x
 | n, d, c, h => by
  obtain ⟨m, hm, rfl⟩ := cvD_int Tryd.underlying28 h
  exact ⟨m, rfl⟩
theorem dec30 {H : Type} : ∀ (n : Nat) (d : DataW H) (c : List CV), cvD Tryd.prog n 30 d = some c -> ∃ x : Config, c = Enc.enc x
 | n, d, c, h => by
  obtain ⟨m, l, hm, rfl, hl, h⟩ := cvD_structW Tryd.underlying30 h
  have hl : l.length = 2 := hl
  match l, hl with
  | [d0, d1], _ =>
   simp only [List.zipWith] at h
   obtain ⟨a0, b0, h0, k1, rfl⟩ := concatM_cons h
   obtain ⟨a1, b1, h1, k2, rfl⟩ := concatM_cons k1
   obtain rfl := concatM_nil k2
   obtain ⟨x0, rfl⟩ := dec28 m _ _ h0
   obtain ⟨x1, rfl⟩ := dec3 m _ _ h1
   exact ⟨⟨x0, x1⟩, by rw [enc_Config]; first | rfl | simp⟩
theorem dec37 {H : Type} : ∀ (n : Nat) (d : DataW H) (c : List CV), cvD Tryd.prog n 37 d = some c -> ∃ x : List Int, c = Enc.enc x
 | n, d, c, h => cvD_sliceW Tryd.underlying37 (fun m hm d c h => dec3 m d c h) h
theorem dec39 {H : Type} : ∀ (n : Nat) (d : DataW H) (c : List CV), cvD Tryd.prog n 39 d = some c -> ∃ x : R26Job, c = Enc.enc x
 | n, d, c, h => by
  obtain ⟨m, l, hm, rfl, hl, h⟩ := cvD_structW Tryd.underlying39 h
  have hl : l.length = 3 := hl
  match l, hl with
  | [d0, d1, d2], _ =>
   simp only [List.zipWith] at h
   obtain ⟨a0, b0, h0, k1, rfl⟩ := concatM_cons h
   obtain ⟨a1, b1, h1, k2, rfl⟩ := concatM_cons k1
   obtain ⟨a2, b2, h2, k3, rfl⟩ := concatM_cons k2
   obtain rfl := concatM_nil k3
   obtain ⟨x0, rfl⟩ := dec27 m _ _ h0
   obtain ⟨x1, rfl⟩ := dec30 m _ _ h1
   obtain ⟨x2, rfl⟩ := dec37 m _ _ h2
   exact ⟨⟨x0, x1, x2⟩, by rw [enc_R26Job]; first | rfl | simp⟩
mutual
theorem dec75 {H : Type} : ∀ (n : Nat) (d : DataW H) (c : List CV), cvD Tryd.prog n 75 d = some c -> ∃ x : List Tree, c = Enc.enc x
 | n, d, c, h => cvD_sliceW Tryd.underlying75 (fun m hm d c h => dec77 m d c h) h
 termination_by n => n
theorem dec77 {H : Type} : ∀ (n : Nat) (d : DataW H) (c : List CV), cvD Tryd.prog n 77 d = some c -> ∃ x : Tree, c = Enc.enc x
 | n, d, c, h => by
  obtain ⟨m, l, hm, rfl, hl, h⟩ := cvD_structW Tryd.underlying77 h
  have hl : l.length = 2 := hl
  match l, hl with
  | [d0, d1], _ =>
   simp only [List.zipWith] at h
   obtain ⟨a0, b0, h0, k1, rfl⟩ := concatM_cons h
   obtain ⟨a1, b1, h1, k2, rfl⟩ := concatM_cons k1
   obtain rfl := concatM_nil k2
   obtain ⟨x0, rfl⟩ := dec3 m _ _ h0
   obtain ⟨x1, rfl⟩ := dec75 m _ _ h1
   exact ⟨⟨x0, x1⟩, by rw [enc_Tree]; first | rfl | simp⟩
 termination_by n => n
end
theorem dec79 {H : Type} : ∀ (n : Nat) (d : DataW H) (c : List CV), cvD Tryd.prog n 79 d = some c -> ∃ x : Frame, c = Enc.enc x
 | n, d, c, h => by
  obtain ⟨m, l, hm, rfl, hl, h⟩ := cvD_structW Tryd.underlying79 h
  have hl : l.length = 3 := hl
  match l, hl with
  | [d0, d1, d2], _ =>
   simp only [List.zipWith] at h
   obtain ⟨a0, b0, h0, k1, rfl⟩ := concatM_cons h
   obtain ⟨a1, b1, h1, k2, rfl⟩ := concatM_cons k1
   obtain ⟨a2, b2, h2, k3, rfl⟩ := concatM_cons k2
   obtain rfl := concatM_nil k3
   obtain ⟨x0, rfl⟩ := dec3 m _ _ h0
   obtain ⟨x1, rfl⟩ := dec37 m _ _ h1
   obtain ⟨x2, rfl⟩ := dec77 m _ _ h2
   exact ⟨⟨x0, x1, x2⟩, by rw [enc_Frame]; first | rfl | simp⟩
theorem dec40 {H : Type} : ∀ (n : Nat) (d : DataW H) (c : List CV), cvD Tryd.prog n 40 d = some c -> ∃ x : List Frame, c = Enc.enc x
 | n, d, c, h => cvD_sliceW Tryd.underlying40 (fun m hm d c h => dec79 m d c h) h
theorem dec4 {H : Type} : ∀ (n : Nat) (d : DataW H) (c : List CV), cvD Tryd.prog n 4 d = some c -> ∃ x : Bool, c = Enc.enc x
 | n, d, c, h => by
  obtain ⟨m, rfl⟩ := cvD_bool Tryd.underlying4 h
  exact ⟨m, rfl⟩
theorem dec42 {H : Type} : ∀ (n : Nat) (d : DataW H) (c : List CV), cvD Tryd.prog n 42 d = some c -> ∃ x : Snapshot, c = Enc.enc x
 | n, d, c, h => by
  obtain ⟨m, l, hm, rfl, hl, h⟩ := cvD_structW Tryd.underlying42 h
  have hl : l.length = 4 := hl
  match l, hl with
  | [d0, d1, d2, d3], _ =>
   simp only [List.zipWith] at h
   obtain ⟨a0, b0, h0, k1, rfl⟩ := concatM_cons h
   obtain ⟨a1, b1, h1, k2, rfl⟩ := concatM_cons k1
   obtain ⟨a2, b2, h2, k3, rfl⟩ := concatM_cons k2
   obtain ⟨a3, b3, h3, k4, rfl⟩ := concatM_cons k3
   obtain rfl := concatM_nil k4
   obtain ⟨x0, rfl⟩ := dec40 m _ _ h0
   obtain ⟨x1, rfl⟩ := dec4 m _ _ h1
   obtain ⟨x2, rfl⟩ := dec3 m _ _ h2
   obtain ⟨x3, rfl⟩ := dec3 m _ _ h3
   exact ⟨⟨x0, x1, x2, x3⟩, by rw [enc_Snapshot]; first | rfl | simp⟩
theorem closed : okS Tryd.prog [39, 27, 22, 66, 9, 3, 23, 24, 56, 54, 72, 68, 69, 70, 25, 74, 30, 28, 37, 42, 40, 79, 77, 75, 4, 43, 5] = true := by kernel_rfl
theorem bulk_of {H : Type} {n : Nat} {t : TypeId} {d : DataW H} {c : List CV} (h : cvD Tryd.prog n t d = some c) : bkL c <= Go.Proofs.YtjbebaachciedaaDoor.Rows.uptoBulk d :=
 cvD_bk Go.Proofs.YtjbebaachciedaaDoor.Rows.uptoBulk Go.Proofs.YtjbebaachciedaaDoor.Rows.uptoBulkAll (by simp [Go.Proofs.YtjbebaachciedaaDoor.Rows.uptoBulkAll]) (fun d r => by simp [Go.Proofs.YtjbebaachciedaaDoor.Rows.uptoBulkAll]) (fun l => by cases l <;> simp [Go.Proofs.YtjbebaachciedaaDoor.Rows.uptoBulk]) (fun l => by simp [Go.Proofs.YtjbebaachciedaaDoor.Rows.uptoBulk]) (by simp [Go.Proofs.YtjbebaachciedaaDoor.Rows.uptoBulk]) (fun l s => by simp only [Go.Proofs.YtjbebaachciedaaDoor.Rows.uptoBulk]; omega) (fun l => by simp only [Go.Proofs.YtjbebaachciedaaDoor.Rows.uptoBulk]; omega) n t d c h
theorem open39 {H : Type} {enc : TypeId × Value -> H} {W : World} {sp : Nat -> Bool} {held : Bool} {v : Value} {d : DataW H} {p : List MemPlace} {r : Go.Reach} {b0 : Nat} (hv : Value.okWide Tryd.prog W r b0 39 v) (h : DataW.Trod enc Tryd.prog W 0 sp held 39 v d p) :
  ∃ x : R26Job, (okL (Enc.enc x) /\ bkL (Enc.enc x) <= Go.Proofs.YtjbebaachciedaaDoor.Rows.uptoBulk d) /\ AVRep W m0 (fun _ => False) v (.agg ((Enc.enc x).map .p)) := by
 obtain ⟨m, cvs, e, hr⟩ := repW_struct closed (by decide) Tryd.underlying39 hv h
 obtain ⟨x, rfl⟩ := dec39 m d cvs e
 exact ⟨x, ⟨cvD_okL _ _ _ _ e, bulk_of e⟩, hr⟩
theorem open42 {H : Type} {enc : TypeId × Value -> H} {W : World} {sp : Nat -> Bool} {held : Bool} {v : Value} {d : DataW H} {p : List MemPlace} {r : Go.Reach} {b0 : Nat} (hv : Value.okWide Tryd.prog W r b0 42 v) (h : DataW.Trod enc Tryd.prog W 0 sp held 42 v d p) :
  ∃ x : Snapshot, (okL (Enc.enc x) /\ bkL (Enc.enc x) <= Go.Proofs.YtjbebaachciedaaDoor.Rows.uptoBulk d) /\ AVRep W m0 (fun _ => False) v (.agg ((Enc.enc x).map .p)) := by
 obtain ⟨m, cvs, e, hr⟩ := repW_struct closed (by decide) Tryd.underlying42 hv h
 obtain ⟨x, rfl⟩ := dec42 m d cvs e
 exact ⟨x, ⟨cvD_okL _ _ _ _ e, bulk_of e⟩, hr⟩
/-- The package variables as the rows lay them. -/
theorem gN1 : Tryd.prog.globalNamed "modelcheck/value.names" = some 1 := by kernel_rfl
theorem gN0 : Tryd.prog.globalNamed "modelcheck/inst.rows" = some 0 := by kernel_rfl
theorem gT1 : (Tryd.prog.globals[1]?).map (·.type) = some 158 := by kernel_rfl
set_option maxRecDepth 100000 in
theorem gC1 : cvD Tryd.prog 6 158 (Go.Proofs.YtjbebaachciedaaDoor.Rows.laid_modelcheck_value_names (H := Unit)) = some (encL namesTab) := by kernel_rfl
theorem gT0 : (Tryd.prog.globals[0]?).map (·.type) = some 154 := by kernel_rfl
set_option maxRecDepth 100000 in
theorem gC0 : cvD Tryd.prog 6 154 (Go.Proofs.YtjbebaachciedaaDoor.Rows.laid_modelcheck_inst_rows (H := Unit)) = some (encL rowsTab) := by kernel_rfl
set_option maxRecDepth 100000 in
theorem globs {W : World} (laid : List (String × DataW Unit)) (he : laid = [("modelcheck/value.names", Go.Proofs.YtjbebaachciedaaDoor.Rows.laid_modelcheck_value_names), ("modelcheck/inst.rows", Go.Proofs.YtjbebaachciedaaDoor.Rows.laid_modelcheck_inst_rows)])
  (h : laidMetH Tryd.prog laid W) : ∀ g cs, Globals.G g = some cs -> AVRep W m0 (fun _ => False) (.pointer (some ⟨g, 0, none⟩)) (.cell (.ep cs 0)) := by
 subst he
 rw [MakeChecks.laidMetH_plain _ _ _ (by kernel_rfl)] at h
 obtain ⟨ps, ⟨g0, t0, cs0, f0, p0, q0, hg0, ht0, hv0, hd0, ⟨g1, t1, cs1, f1, p1, q1, hg1, ht1, hv1, hd1, _, _⟩, _⟩, _, _⟩ := h
 obtain rfl := Option.some.inj (gN1.symm.trans hg0)
 obtain rfl := Option.some.inj (gT1.symm.trans ht0)
 obtain rfl := Option.some.inj (gN0.symm.trans hg1)
 obtain rfl := Option.some.inj (gT0.symm.trans ht1)
 intro g cs hgc
 have hgc : (if g = 0 then some (encL rowsTab) else if g = 1 then some (encL namesTab) else none) = some cs := hgc
 split at hgc
 ·rename_i e
  subst e
  cases hgc
  exact rep_global (m := 6) (t := 154) (by kernel_rfl) hd1 gC0 fun j => by simpa using World.var?_cell hg1 hv1 j
 ·split at hgc
  ·rename_i e
   subst e
   cases hgc
   exact rep_global (m := 6) (t := 158) (by kernel_rfl) hd0 gC1 fun j => by simpa using World.var?_cell hg0 hv0 j
  ·cases hgc
end Go.Dc
end
