/- Contracts of functions, by their numbers, and the laws that walk them. Conditions: as each states. -/
import Derived.Test.YtjbebaachciedaaGreatDoorH4
import Derived.Test.YtjbebaachciedaaGreatDoorH5
import Derived.Test.YtjbebaachciedaaGreatDoorH6
import Derived.KernelRfl
import Derived.Test.YtjbebaachciedaaGreatDoorH3
import Derived.Test.YtjbebaachciedaaGreatDoorRows
import Derived.LaidMore
import Derived.MakeChecks
set_option linter.all false
section
set_option linter.all false
namespace Go.Dc
open Go Go.Hw Go.Proofs
set_option maxRecDepth 100000
def law49_one (a0 : Int) : Option Program :=
 Option.bind (some ([({ Name := (⟨#[120]⟩ : ByteArray), Init := 0 } : Var)])) (fun l1 => Option.bind (some ([({ Op := 9, A := 0, B := 0, C := 0, Obj := 0, N := 0, Fn := 0, Order := 0 } : Inst)])) (fun l3 => Option.bind (some ([({ Name := (⟨#[102]⟩ : ByteArray), Code := l3 } : Func)])) (fun l5 => Option.bind (some ([({ Func := 0, Arg := a0 } : Start)])) (fun l7 => some ({ Vars := l1, Mutexes := [], Conds := [], Funcs := l5, Threads := l7 } : Program)))))
set_option maxHeartbeats 2000000 in
theorem at_law49_one {a0 : Int} {r : Program} (hs : law49_one a0 = some r) : At Tryz.prog 23 [iV .i64 a0] (.agg (eA r)) := by
 refine at_bound (by kernel_rfl) fun hb => ?_
 refine at_code mixed Tryz.func23 (by kernel_rfl) rfl (by kernel_rfl) rfl fun Q hQ => ?_
 rw [law49_one] at hs
 revert hs; refine lK fun l1 hx2 hs => ?_
 have hx2n : l1.length = 1 := by rw [hx2]; rfl
 revert hs; refine lK fun l3 hx4 hs => ?_
 have hx4n : l3.length = 1 := by rw [hx4]; rfl
 revert hs; refine lK fun l5 hx6 hs => ?_
 have hx6n : l5.length = 1 := by rw [hx6]; rfl
 revert hs; refine lK fun l7 hx8 hs => ?_
 have hx8n : l7.length = 1 := by rw [hx8]; rfl
 have F1 := an hx2 (an hx4 (an hx6 hx8))
 refine goR F1 ?_
 obtain rfl := sj hs
 exact hQ _ _ (rg F1 ((Gh.frz _ (.o 2 3 0)).trans ((Gh.pur _ (.o 2 5 0)).trans ((Gh.frz _ (.o 2 1 0)).trans ((Gh.frz _ (.o 2 5 0)).trans ((Gh.frz _ (.o 2 8 0)).trans (Gh.unz _)))))))
end Go.Dc
end
section
set_option linter.all false
namespace Go.Dc
open Go Go.Hw Go.Proofs
set_option maxRecDepth 100000
def frame_AppendInts_L1 (fuelN : Nat) (a0 : List UInt8) : List Int -> (List UInt8) -> Nat -> Option ((List UInt8) ⊕ (List UInt8))
 | [], l96, k97 => some (.inl l96)
 | x126 :: q122, l96, k97 => Option.bind (frame_inRange x126) (fun y129 => cond (!y129) (Option.bind (some ([a0])) (fun l132 => Option.bind (frame_join l132) (fun y134 => some (.inr y134)))) (Option.bind (frame_intBytes fuelN x126) (fun y136 => guardO (limB 1 (l96.length + y136.length)) (Option.bind (some (l96 ++ y136)) (fun l139 => frame_AppendInts_L1 fuelN a0 q122 l139 (k97 + 1))))))
def frame_AppendInts (fuelN : Nat) (a0 : List UInt8) (a1 : List Int) : Option (List UInt8) :=
 Option.bind (frame_uintBytes fuelN ((a1.length : Nat) : Int)) (fun y1 => Option.bind (some ([a0, y1])) (fun l3 => Option.bind (frame_join l3) (fun y5 => Option.bind (α := (List UInt8) ⊕ (List UInt8)) (Option.bind (frame_AppendInts_L1 fuelN a0 a1 y5 0) (fun o => match o with | .inl l115 => some (.inl l115) | .inr r141 => some (.inr r141))) (fun o => match o with | .inl l72 => some l72 | .inr r142 => some r142))))
set_option maxHeartbeats 2000000 in
theorem at_frame_AppendInts {fuelN : Nat} {a0 : List UInt8} {a1 : List Int} {r : (List UInt8)} (hs : frame_AppendInts fuelN a0 a1 = some r) : CAt Tryz.prog 25 [.cell (sC a0), .cell (sC a1)] [] (.ret (.cell (.sl (.r 0) 0 1 r.length))) [(.r 0, .pure (encL r))] := by
 refine at_bound (by kernel_rfl) fun hb => ?_
 have hb1 : LenOk (.sl a0.length (encL a0)) := lkc hb
 have hb2 : LenOk (.sl a1.length (encL a1)) := lkc hb
 refine at_code mixed Tryz.func25 (by kernel_rfl) rfl (by kernel_rfl) rfl fun Q hQ => ?_
 rw [frame_AppendInts] at hs
 refine goR f0 ?_
 revert hs; refine bK fun y1 hx2 hs => ?_
 refine cP f0 (at_frame_uintBytes hx2) ?_
 revert hs; refine lK fun l3 hx4 hs => ?_
 have hx4n : l3.length = 2 := by rw [hx4]; rfl
 refine goR hx4 ?_
 revert hs; refine bK fun y5 hx6 hs => ?_
 refine cA hx4 (at_frame_join hx6) ?_
 refine goR2 hx4 ?_
 revert hs; refine bK fun o74 e73 hs => ?_
 refine awp_cutK (fun (v : (List UInt8)) (σ : St) => some (.inl v) = some o74 /\ σ.env 5 = .cell (.sl (.l 2) 0 1 v.length) /\ σ.hp (.l 2) = some (.pure (encL v)) /\ 3 <= σ.gen) (by rfl) (fun Q hK75 hX76 => ?_) (fun l72 σ3 hp => ?_)
 ·refine goR hx4 ?_
  revert e73; refine bK fun o117 e116 e73 => ?_
  refine awp_loopW (fun (v : (List Int) × (List UInt8) × Nat) (σ : St) => frame_AppendInts_L1 fuelN a0 v.1 v.2.1 v.2.2 = some o117 /\ v.1 = a1.drop v.2.2 /\ σ.env 0 = .cell (sC a0) /\ σ.env 5 = .cell (.sl (.l 6) 0 1 v.2.1.length) /\ σ.env 14 = .cell (sC a1) /\ σ.env 15 = iV .i64 ((a1.length : Nat) : Int) /\ σ.env 16 = iV .i64 ((v.2.2 : Nat) : Int) /\ σ.hp (.l 6) = some (.pure (encL v.2.1)) /\ 3 <= σ.gen) (fun v => v.1.length) _ (Gh.ren _ (.o 2 5 0) (.l 6) (by simp) rfl rfl) (a1, y5, 0) ⟨e116, by simp, pv hx4, pv hx4, pv hx4, pv hx4, pv hx4, pv hx4, pg⟩ fun v σ6 hp L118 hL119 => ?_
  obtain ⟨q121, l96, k97⟩ := v
  dsimp only at hp hL119
  obtain ⟨e116, hd120, h5_0, h5_5, h5_14, h5_15, h5_16, g5_0, n5_g⟩ := hp
  rcases q121 with _ | ⟨x126, q122⟩
  ·have hlt123 := drop_end hd120
   rw [frame_AppendInts_L1] at e116; try dsimp only at e116
   have F1 := an h5_0 (an h5_5 (an h5_14 (an h5_15 (an h5_16 g5_0))))
   refine goR F1 ?_
   refine condK_f (by simp [ltI]; omega) ?_
   obtain rfl := sj e116
   try dsimp only at e73
   exact hK75 l96 _ _ (Gh.ren _ (.l 6) (.l 2) (by simp) rfl rfl) ⟨e73, pv F1, pv F1, pg⟩
  ·obtain ⟨hx125, hlt123, hd127⟩ := drop_next hd120
   have ew124 := wrap_succ hlt123 (hb2).len
   rw [frame_AppendInts_L1] at e116; try dsimp only at e116
   have F2 := an h5_0 (an h5_5 (an h5_14 (an h5_15 (an h5_16 (an g5_0 (an hlt123 ew124))))))
   refine goR F2 ?_
   refine condK_t (by simp [ltI]; omega) ?_
   have f128 : partCV Tryz.prog 3 (encL a1) (k97) = some (iV .i64 x126) := partCV_enc1 hx125 (by simp)
   have F3 := an F2 f128
   refine goR F3 ?_
   revert e116; refine bK fun y129 hx130 e116 => ?_
   refine cP F3 (at_frame_inRange hx130) ?_
   refine goR F3 ?_
   revert e116; refine cS F3 ?_ ?_ <;> intro h131 e116
   ·revert e116; refine lK fun l132 hx133 e116 => ?_
    have hx133n : l132.length = 1 := by rw [hx133]; rfl
    have F4 := an F3 hx133
    refine goR F4 ?_
    revert e116; refine bK fun y134 hx135 e116 => ?_
    refine cA F4 (at_frame_join hx135) ?_
    refine goR F4 ?_
    obtain rfl := sj e116
    try dsimp only at e73
    obtain rfl := sj e73
    try dsimp only at hs
    refine hX76 _ _ (by simp) ?_
    refine goR F4 ?_
    obtain rfl := sj hs
    refine hQ _ _ (ret2g _ (Gh.ren _ (.o (σ6.gen + 4) 2 0) (.r 0) (by simp) rfl rfl) (by simp [St.frz, St.pur, F4]; rfl) (by first | rfl | (simp [St.frz, St.pur, F4]; done) | (rw [if_pos (by first | omega | (simp; omega))]; simp [St.frz, St.pur, F4]; first | omega | exact List.take_of_length_le (by simp; omega) | skip)) (pv F4))
   ·refine goR F3 ?_
    revert e116; refine bK fun y136 hx137 e116 => ?_
    refine cP F3 (at_frame_intBytes hx137) ?_
    obtain ⟨g138, e116⟩ := guardO_some e116
    have g138 := limB_t g138
    obtain ⟨g138a, g138b⟩ := g138
    revert e116; refine lK fun l139 hx140 e116 => ?_
    have hx140n : l139.length = (l96.length + y136.length) := by rw [hx140]; simp
    have hx140e : encL l139 = encL l96 ++ encL y136 := by rw [hx140]; simp
    have F5 := an F3 (an hx140n hx140e)
    refine goR F5 ?_
    exact hL119 (q122, l139, (k97 + 1)) _ _ (Gh.ren _ (.o (σ6.gen + 4) 3 0) (.l 6) (by simp) rfl rfl) ⟨e116, hd127, pv F5, pv F5, pv F5, pv F5, pv F5, pv F5, pg⟩ (by simp)
 ·obtain ⟨e73, h4_5, g4_0, n4_g⟩ := hp
  obtain rfl := sj e73
  try dsimp only at hs
  have F6 := an h4_5 g4_0
  refine goR F6 ?_
  obtain rfl := sj hs
  refine hQ _ _ (ret2g _ (Gh.ren _ (.l 2) (.r 0) (by simp) rfl rfl) (by simp [St.frz, St.pur, F6]; rfl) (by first | rfl | (simp [St.frz, St.pur, F6]; done) | (rw [if_pos (by first | omega | (simp; omega))]; simp [St.frz, St.pur, F6]; first | omega | exact List.take_of_length_le (by simp; omega) | skip)) (pv F6))
end Go.Dc
end
section
set_option linter.all false
namespace Go.Dc
open Go Go.Hw Go.Proofs
set_option maxRecDepth 100000
def checkpoint_appendTree_L1 (fuelN : Nat) (rF26z : (List UInt8) -> Tree -> Option (List UInt8)) : List Tree -> (List UInt8) -> Nat -> Option (List UInt8)
 | [], l105, k106 => some (l105)
 | x131 :: q127, l105, k106 => Option.bind (frame_AppendInt fuelN l105 x131.Agent) (fun y138 => Option.bind (rF26z y138 x131) (fun y140 => checkpoint_appendTree_L1 fuelN rF26z q127 y140 (k106 + 1)))
def checkpoint_appendTree_B (rF26z : (List UInt8) -> Tree -> Option (List UInt8)) (fuelN : Nat) (a0 : List UInt8) (a1 : Tree) : Option (List UInt8) :=
 Option.bind (frame_AppendUint fuelN a0 ((a1.Kids.length : Nat) : Int)) (fun y1 => Option.bind (α := (List UInt8)) (Option.bind (checkpoint_appendTree_L1 fuelN rF26z a1.Kids y1 0) (fun l120 => some (l120))) (fun l70 => some l70))
def checkpoint_appendTree : Nat -> (List UInt8) -> Tree -> Option (List UInt8)
 | 0 => fun _ _ => none
 | fuelN + 1 => fun a0 a1 => checkpoint_appendTree_B (checkpoint_appendTree fuelN) fuelN a0 a1
set_option maxHeartbeats 2000000 in
theorem at_checkpoint_appendTree_B {rF26z : (List UInt8) -> Tree -> Option (List UInt8)} (ihrF26z : ∀ (a0 : List UInt8) (a1 : Tree) (r : (List UInt8)), rF26z a0 a1 = some r -> At Tryz.prog 26 [.cell (sC a0), .agg (eA a1)] (.cell (sC r))) {fuelN : Nat} {a0 : List UInt8} {a1 : Tree} {r : (List UInt8)} (hs : checkpoint_appendTree_B rF26z fuelN a0 a1 = some r) : At Tryz.prog 26 [.cell (sC a0), .agg (eA a1)] (.cell (sC r)) := by
 refine at_bound (by kernel_rfl) fun hb => ?_
 have hb1 : LenOk (.sl a0.length (encL a0)) := lkc hb
 have hb2 : LenOk (.sl a1.Kids.length (encL a1.Kids)) := lkc hb
 refine at_code mixed Tryz.func26 (by kernel_rfl) rfl (by kernel_rfl) rfl fun Q hQ => ?_
 rw [checkpoint_appendTree_B] at hs
 refine goR f0 ?_
 revert hs; refine bK fun y1 hx2 hs => ?_
 refine cA f0 (at_frame_AppendUint hx2) ?_
 refine goR2 f0 ?_
 revert hs; refine bK fun o72 e71 hs => ?_
 refine awp_cutK (fun (v : (List UInt8)) (σ : St) => some (v) = some o72 /\ σ.env 0 = .cell (sC v) /\ 3 <= σ.gen) (by rfl) (fun Q hK73 hX74 => ?_) (fun l70 σ3 hp => ?_)
 ·refine goR f0 ?_
  revert e71; refine bK fun o122 e121 e71 => ?_
  refine awp_loopW (fun (v : (List Tree) × (List UInt8) × Nat) (σ : St) => checkpoint_appendTree_L1 fuelN rF26z v.1 v.2.1 v.2.2 = some o122 /\ v.1 = a1.Kids.drop v.2.2 /\ σ.env 0 = .cell (sC v.2.1) /\ σ.env 13 = .cell (sC a1.Kids) /\ σ.env 14 = iV .i64 ((a1.Kids.length : Nat) : Int) /\ σ.env 15 = iV .i64 ((v.2.2 : Nat) : Int) /\ 3 <= σ.gen) (fun v => v.1.length) _ (Gh.frz _ (.o 2 4 0)) (a1.Kids, y1, 0) ⟨e121, by simp, pv f0, pv f0, pv f0, pv f0, pg⟩ fun v σ6 hp L123 hL124 => ?_
  obtain ⟨q126, l105, k106⟩ := v
  dsimp only at hp hL124
  obtain ⟨e121, hd125, h5_0, h5_13, h5_14, h5_15, n5_g⟩ := hp
  rcases q126 with _ | ⟨x131, q127⟩
  ·have hlt128 := drop_end hd125
   rw [checkpoint_appendTree_L1] at e121; try dsimp only at e121
   have F1 := an h5_0 (an h5_13 (an h5_14 h5_15))
   refine goR F1 ?_
   refine condK_f (by simp [ltI]; omega) ?_
   obtain rfl := sj e121
   try dsimp only at e71
   exact hK73 l105 _ _ (Gh.refl _) ⟨e71, pv F1, pg⟩
  ·obtain ⟨hx130, hlt128, hd132⟩ := drop_next hd125
   have ew129 := wrap_succ hlt128 (hb2).len
   rw [checkpoint_appendTree_L1] at e121; try dsimp only at e121
   have F2 := an h5_0 (an h5_13 (an h5_14 (an h5_15 (an hlt128 ew129))))
   refine goR F2 ?_
   refine condK_t (by simp [ltI]; omega) ?_
   have f133 : partCV Tryz.prog 57 (encL a1.Kids) (k106 * 2) = some (.agg (eA x131)) := partCV_enc hx130 (f := 0) (by simp)
   have F3 := an F2 f133
   refine goD F3 ?_
   revert e121; refine bK fun y138 hx139 e121 => ?_
   refine cA F3 (at_frame_AppendInt hx139) ?_
   refine goD F3 ?_
   revert e121; refine bK fun y140 hx141 e121 => ?_
   refine cA F3 (ihrF26z _ _ _ hx141) ?_
   refine goD F3 ?_
   exact hL124 (q127, y140, (k106 + 1)) _ _ (Gh.refl _) ⟨e121, hd132, pv F3, pv F3, pv F3, pv F3, pg⟩ (by simp)
 ·obtain ⟨e71, h4_0, n4_g⟩ := hp
  obtain rfl := sj e71
  try dsimp only at hs
  refine goR h4_0 ?_
  obtain rfl := sj hs
  exact hQ _ _ (rg h4_0 (Gh.refl _))
theorem at_checkpoint_appendTree : ∀ {fuelN : Nat} {a0 : List UInt8} {a1 : Tree} {r : (List UInt8)} (hs : checkpoint_appendTree fuelN a0 a1 = some r), At Tryz.prog 26 [.cell (sC a0), .agg (eA a1)] (.cell (sC r))
 | 0, _, _, _, hs => by rw [checkpoint_appendTree] at hs; cases hs
 | n + 1, _, _, _, hs => by
  rw [checkpoint_appendTree] at hs
  exact at_checkpoint_appendTree_B (fun _ _ _ h => at_checkpoint_appendTree h) hs
end Go.Dc
end
section
set_option linter.all false
namespace Go.Dc
open Go Go.Hw Go.Proofs
set_option maxRecDepth 100000
def checkpoint_Encode_L1 (fuelN : Nat) : List Int -> (List UInt8) -> Nat -> Option (List UInt8)
 | [], l65, k66 => some (l65)
 | x85 :: q81, l65, k66 => Option.bind (frame_AppendUint fuelN l65 x85) (fun y89 => checkpoint_Encode_L1 fuelN q81 y89 (k66 + 1))
def checkpoint_Encode_L2 (fuelN : Nat) : List Frame -> (List UInt8) -> Nat -> Option (List UInt8)
 | [], l181, k182 => some (l181)
 | x205 :: q201, l181, k182 => Option.bind (frame_AppendInt fuelN l181 x205.Agent) (fun y208 => Option.bind (frame_AppendInts fuelN y208 x205.Sleep) (fun y210 => Option.bind (checkpoint_appendTree fuelN y210 x205.Tree) (fun y212 => checkpoint_Encode_L2 fuelN q201 y212 (k182 + 1))))
def checkpoint_Encode (fuelN : Nat) (a0 : Program) (a1 : Config) (a2 : Snapshot) : Option ((List UInt8) × Int) :=
 Option.bind (checkpoint_Digest fuelN a0 a1) (fun y1 => cond (!(eqI y1.2 0)) (some ([], y1.2)) (Option.bind (checkpoint_Valid fuelN a2) (fun y4 => cond (!y4) (some ([], 1)) (Option.bind (α := Nat) (cond a2.Done (some (1)) (some (0))) (fun k8 => Option.bind (some ([y1.1, ((k8 : Nat) : Int), a2.Count, a2.Blocked, ((a2.Frames.length : Nat) : Int)])) (fun l14 => Option.bind (α := (List UInt8)) (guardO (lenB l14.length) (Option.bind (checkpoint_Encode_L1 fuelN l14 [] 0) (fun l74 => some (l74)))) (fun l51 => Option.bind (α := (List UInt8)) (Option.bind (checkpoint_Encode_L2 fuelN a2.Frames l51 0) (fun l194 => some (l194))) (fun l150 => Option.bind (frame_Seal fuelN l150) (fun y214 => some (y214, 0))))))))))
set_option maxHeartbeats 2000000 in
theorem at_checkpoint_Encode {fuelN : Nat} {a0 : Program} {a1 : Config} {a2 : Snapshot} {r : (List UInt8) × Int} (hs : checkpoint_Encode fuelN a0 a1 a2 = some r) : At Tryz.prog 9 [.agg (eA a0), .agg (eA a1), .agg (eA a2)] (.tup [.cell (sC r.1), iV .i64 r.2]) := by
 refine at_bound (by kernel_rfl) fun hb => ?_
 have hb1 : LenOk (.sl a0.Vars.length (encL a0.Vars)) := lkc hb
 have hb2 : LenOk (.sl a0.Mutexes.length (encL a0.Mutexes)) := lkc hb
 have hb3 : LenOk (.sl a0.Conds.length (encL a0.Conds)) := lkc hb
 have hb4 : LenOk (.sl a0.Funcs.length (encL a0.Funcs)) := lkc hb
 have hb5 : LenOk (.sl a0.Threads.length (encL a0.Threads)) := lkc hb
 have hb6 : LenOk (.sl a2.Frames.length (encL a2.Frames)) := lkc hb
 refine at_code mixed Tryz.func9 (by kernel_rfl) rfl (by kernel_rfl) rfl fun Q hQ => ?_
 rw [checkpoint_Encode] at hs
 refine goR f0 ?_
 revert hs; refine bK fun y1 hx2 hs => ?_
 refine cP f0 (at_checkpoint_Digest hx2) ?_
 refine goR f0 ?_
 revert hs; refine cS f0 ?_ ?_ <;> intro h3 hs
 ·refine goR f0 ?_
  obtain rfl := sj hs
  exact hQ _ _ (rg f0 (Gh.unz _))
 ·refine goR f0 ?_
  revert hs; refine bK fun y4 hx5 hs => ?_
  refine cP f0 (at_checkpoint_Valid hx5) ?_
  refine goR f0 ?_
  revert hs; refine cS f0 ?_ ?_ <;> intro h6 hs
  ·refine goR f0 ?_
   obtain rfl := sj hs
   exact hQ _ _ (rg f0 (Gh.unz _))
  ·refine goR2 f0 ?_
   revert hs; refine bK fun o10 e9 hs => ?_
   refine awp_cutK (fun (v : Nat) (σ : St) => some (v) = some o10 /\ σ.env 5 = .cell (.ref (.o 1 2 0) 0) /\ σ.env 8 = iV .i64 y1.1 /\ σ.env 10 = iV .i64 ((v : Nat) : Int) /\ σ.hp (.o 1 2 0) = some (.cells (eA a2)) /\ 6 <= σ.gen) (by rfl) (fun Q hK11 hX12 => ?_) (fun k8 σ1 hp => ?_)
   ·refine goR f0 ?_
    revert e9; refine cS f0 ?_ ?_ <;> intro h13 e9
    ·refine goR f0 ?_
     exact hK11 1 _ _ (Gh.refl _) ⟨e9, pv f0, pv f0, pv f0, pv f0, pg⟩
    ·refine goR f0 ?_
     exact hK11 0 _ _ (Gh.refl _) ⟨e9, pv f0, pv f0, pv f0, pv f0, pg⟩
   ·obtain ⟨e9, h2_5, h2_8, h2_10, g2_0, n2_g⟩ := hp
    obtain rfl := sj e9
    try dsimp only at hs
    have n2_0 : ¬ (σ1.gen = 0) := by omega
    revert hs; refine lK fun l14 hx15 hs => ?_
    have hx15n : l14.length = 5 := by rw [hx15]; rfl
    have F1 := an h2_5 (an h2_8 (an h2_10 (an g2_0 (an n2_0 hx15))))
    refine goR2 F1 ?_
    revert hs; refine bK fun o53 e52 hs => ?_
    refine awp_cutK (fun (v : (List UInt8)) (σ : St) => some (v) = some o53 /\ σ.env 5 = .cell (.ref (.o 1 2 0) 0) /\ σ.env 11 = .cell (.sl (.l 3) 0 1 v.length) /\ σ.hp (.l 3) = some (.pure (encL v)) /\ σ.hp (.o 1 2 0) = some (.cells (eA a2)) /\ (σ1.gen + 2) <= σ.gen) (by rfl) (fun Q hK54 hX55 => ?_) (fun l51 σ5 hp => ?_)
    ·refine goR F1 ?_
     obtain ⟨hb86, e52⟩ := guardO_some e52
     revert e52; refine bK fun o76 e75 e52 => ?_
     refine awp_loopW (fun (v : (List Int) × (List UInt8) × Nat) (σ : St) => checkpoint_Encode_L1 fuelN v.1 v.2.1 v.2.2 = some o76 /\ v.1 = l14.drop v.2.2 /\ σ.env 5 = .cell (.ref (.o 1 2 0) 0) /\ σ.env 11 = .cell (.sl (.l 9) 0 1 v.2.1.length) /\ σ.env 39 = .cell (.sl (.o (σ1.gen + 2) 9 0) 0 1 l14.length) /\ σ.env 40 = iV .i64 ((l14.length : Nat) : Int) /\ σ.env 41 = iV .i64 ((v.2.2 : Nat) : Int) /\ σ.hp (.l 9) = some (.pure (encL v.2.1)) /\ σ.hp (.o (σ1.gen + 2) 9 0) = some (.pure (encL l14)) /\ σ.hp (.o 1 2 0) = some (.cells (eA a2)) /\ (σ1.gen + 2) <= σ.gen) (fun v => v.1.length) _ (Gh.void _ (.l 9) 11 1 rfl (by simp [F1])) (l14, [], 0) ⟨e75, by simp, pv F1, pv F1, pv F1, pv F1, pv F1, pv F1, pv F1, pv F1, pg⟩ fun v σ8 hp L77 hL78 => ?_
     obtain ⟨q80, l65, k66⟩ := v
     dsimp only at hp hL78
     obtain ⟨e75, hd79, h7_5, h7_11, h7_39, h7_40, h7_41, g7_0, g7_1, g7_2, n7_g⟩ := hp
     have n7_0 : ¬ (σ8.gen = 0) := by omega
     have n7_σ1gen_0 : ¬ (σ8.gen = σ1.gen) := by omega
     have n7_σ1gen_0' : ¬ (σ1.gen = σ8.gen) := by omega
     have n7_σ1gen_1 : ¬ (σ8.gen = σ1.gen + 1) := by omega
     have n7_σ1gen_1' : ¬ (σ1.gen + 1 = σ8.gen) := by omega
     have n7_σ1gen_a : ∀ j, ¬ (σ8.gen + j = σ1.gen) := fun j => by omega
     have n7_σ1gen_a' : ∀ j, ¬ (σ1.gen = σ8.gen + j) := fun j => by omega
     rcases q80 with _ | ⟨x85, q81⟩
     ·have hlt82 := drop_end hd79
      rw [checkpoint_Encode_L1] at e75; try dsimp only at e75
      have F2 := an h7_5 (an h7_11 (an h7_39 (an h7_40 (an h7_41 (an g7_0 (an g7_1 (an g7_2 (an n7_0 (an n7_σ1gen_0 (an n7_σ1gen_0' (an n7_σ1gen_1 (an n7_σ1gen_1' (an n7_σ1gen_a n7_σ1gen_a')))))))))))))
      refine goR F2 ?_
      refine condK_f (by simp [ltI]; omega) ?_
      obtain rfl := sj e75
      try dsimp only at e52
      exact hK54 l65 _ _ (Gh.ren _ (.l 9) (.l 3) (by simp) rfl rfl) ⟨e52, pv F2, pv F2, pv F2, pv F2, pg⟩
     ·obtain ⟨hx84, hlt82, hd87⟩ := drop_next hd79
      have ew83 := wrap_succG hlt82 hb86
      rw [checkpoint_Encode_L1] at e75; try dsimp only at e75
      have F3 := an h7_5 (an h7_11 (an h7_39 (an h7_40 (an h7_41 (an g7_0 (an g7_1 (an g7_2 (an n7_0 (an n7_σ1gen_0 (an n7_σ1gen_0' (an n7_σ1gen_1 (an n7_σ1gen_1' (an n7_σ1gen_a (an n7_σ1gen_a' (an hlt82 ew83)))))))))))))))
      refine goR F3 ?_
      refine condK_t (by simp [ltI]; omega) ?_
      have f88 : partCV Tryz.prog 3 (encL l14) (k66) = some (iV .i64 x85) := partCV_enc1 hx84 (by simp)
      have F4 := an F3 f88
      refine goR F4 ?_
      revert e75; refine bK fun y89 hx90 e75 => ?_
      refine cA F4 (at_frame_AppendUint hx90) ?_
      refine goR F4 ?_
      exact hL78 (q81, y89, (k66 + 1)) _ _ (Gh.ren _ (.o (σ8.gen + 3) 2 0) (.l 9) (by simp) rfl rfl) ⟨e75, hd87, pv F4, pv F4, pv F4, pv F4, pv F4, pv F4, pv F4, pv F4, pg⟩ (by simp)
    ·obtain ⟨e52, h6_5, h6_11, g6_0, g6_1, n6_g⟩ := hp
     obtain rfl := sj e52
     try dsimp only at hs
     have n6_0 : ¬ (σ5.gen = 0) := by omega
     have F5 := an h6_5 (an h6_11 (an g6_0 (an g6_1 n6_0)))
     refine goR2 F5 ?_
     revert hs; refine bK fun o152 e151 hs => ?_
     refine awp_cutK (fun (v : (List UInt8)) (σ : St) => some (v) = some o152 /\ σ.env 11 = .cell (sC v) /\ (σ5.gen + 1) <= σ.gen) (by rfl) (fun Q hK153 hX154 => ?_) (fun l150 σ11 hp => ?_)
     ·refine goR F5 ?_
      revert e151; refine bK fun o196 e195 e151 => ?_
      refine awp_loopW (fun (v : (List Frame) × (List UInt8) × Nat) (σ : St) => checkpoint_Encode_L2 fuelN v.1 v.2.1 v.2.2 = some o196 /\ v.1 = a2.Frames.drop v.2.2 /\ σ.env 11 = .cell (sC v.2.1) /\ σ.env 50 = .cell (sC a2.Frames) /\ σ.env 51 = iV .i64 ((a2.Frames.length : Nat) : Int) /\ σ.env 52 = iV .i64 ((v.2.2 : Nat) : Int) /\ (σ5.gen + 1) <= σ.gen) (fun v => v.1.length) _ (Gh.frz _ (.l 3)) (a2.Frames, l51, 0) ⟨e195, by simp, pv F5, pv F5, pv F5, pv F5, pg⟩ fun v σ14 hp L197 hL198 => ?_
      obtain ⟨q200, l181, k182⟩ := v
      dsimp only at hp hL198
      obtain ⟨e195, hd199, h13_11, h13_50, h13_51, h13_52, n13_g⟩ := hp
      rcases q200 with _ | ⟨x205, q201⟩
      ·have hlt202 := drop_end hd199
       rw [checkpoint_Encode_L2] at e195; try dsimp only at e195
       have F6 := an h13_11 (an h13_50 (an h13_51 h13_52))
       refine goR F6 ?_
       refine condK_f (by simp [ltI]; omega) ?_
       obtain rfl := sj e195
       try dsimp only at e151
       exact hK153 l181 _ _ (Gh.refl _) ⟨e151, pv F6, pg⟩
      ·obtain ⟨hx204, hlt202, hd206⟩ := drop_next hd199
       have ew203 := wrap_succ hlt202 (hb6).len
       rw [checkpoint_Encode_L2] at e195; try dsimp only at e195
       have F7 := an h13_11 (an h13_50 (an h13_51 (an h13_52 (an hlt202 ew203))))
       refine goR F7 ?_
       refine condK_t (by simp [ltI]; omega) ?_
       have f207 : partCV Tryz.prog 59 (encL a2.Frames) (k182 * 4) = some (.agg (eA x205)) := partCV_enc hx204 (f := 0) (by simp)
       have F8 := an F7 f207
       refine goR F8 ?_
       revert e195; refine bK fun y208 hx209 e195 => ?_
       refine cA F8 (at_frame_AppendInt hx209) ?_
       refine goR F8 ?_
       revert e195; refine bK fun y210 hx211 e195 => ?_
       refine cA F8 (at_frame_AppendInts hx211) ?_
       refine goR F8 ?_
       revert e195; refine bK fun y212 hx213 e195 => ?_
       refine cA F8 (at_checkpoint_appendTree hx213) ?_
       refine goR F8 ?_
       exact hL198 (q201, y212, (k182 + 1)) _ _ (Gh.refl _) ⟨e195, hd206, pv F8, pv F8, pv F8, pv F8, pg⟩ (by simp)
     ·obtain ⟨e151, h12_11, n12_g⟩ := hp
      obtain rfl := sj e151
      try dsimp only at hs
      refine goR h12_11 ?_
      revert hs; refine bK fun y214 hx215 hs => ?_
      refine cP h12_11 (at_frame_Seal hx215) ?_
      refine goR h12_11 ?_
      obtain rfl := sj hs
      exact hQ _ _ (rg h12_11 (Gh.refl _))
end Go.Dc
end
section
set_option linter.all false
namespace Go.Dc
open Go Go.Hw Go.Proofs
set_option maxRecDepth 100000
def law49_awake (fuelN : Nat)  : Option Bool :=
 Option.bind (law49_one 1) (fun y5 => Option.bind (checkpoint_Digest fuelN y5 ({ Model := 1, Bound := 4 } : Config)) (fun y7 => Option.bind (law49_one 1) (fun y13 => Option.bind (checkpoint_Encode fuelN y13 ({ Model := 1, Bound := 4 } : Config) ({ Frames := [], Done := false, Count := 0, Blocked := 0 } : Snapshot)) (fun y15 => Option.bind (law49_one 1) (fun y21 => Option.bind (checkpoint_Decode fuelN y21 ({ Model := 1, Bound := 4 } : Config) y15.1) (fun y23 => Option.bind (law49_one 2) (fun y29 => Option.bind (checkpoint_Decode fuelN y29 ({ Model := 1, Bound := 4 } : Config) y15.1) (fun y31 => Option.bind (law49_one 1) (fun y37 => Option.bind (checkpoint_Encode fuelN y37 ({ Model := 1, Bound := 4 } : Config) ({ Frames := [], Done := false, Count := (-1), Blocked := 0 } : Snapshot)) (fun y39 => Option.bind (frame_AppendUint fuelN [] y7.1) (fun y41 => Option.bind (some ([0, 0, 0, 0])) (fun l43 => guardO (limB 1 (y41.length + l43.length)) (Option.bind (some (y41 ++ l43)) (fun l46 => cond (andB (andB (andB (andB (eqI y7.2 0) (eqI y15.2 0)) (eqI y23.2 0)) (eqI y31.2 30)) (eqI y39.2 1)) (Option.bind (frame_Seal fuelN l46) (fun y50 => Option.bind (law49_bytes y15.1 y50) (fun y52 => guardO (orB (!y52) ((r49_Same fuelN y23.1 ({ Frames := [], Done := false, Count := 0, Blocked := 0 } : Snapshot)).isSome)) (guardO (orB (!(andB y52 ((r49_Same fuelN y23.1 ({ Frames := [], Done := false, Count := 0, Blocked := 0 } : Snapshot)).getD default))) ((checkpoint_Valid fuelN y23.1).isSome)) (guardO (orB (!(andB (andB y52 ((r49_Same fuelN y23.1 ({ Frames := [], Done := false, Count := 0, Blocked := 0 } : Snapshot)).getD default)) ((checkpoint_Valid fuelN y23.1).getD default))) ((checkpoint_Valid fuelN ({ Frames := [], Done := false, Count := 0, Blocked := (-1) } : Snapshot)).isSome)) (some (andB (andB (andB y52 ((r49_Same fuelN y23.1 ({ Frames := [], Done := false, Count := 0, Blocked := 0 } : Snapshot)).getD default)) ((checkpoint_Valid fuelN y23.1).getD default)) (!((checkpoint_Valid fuelN ({ Frames := [], Done := false, Count := 0, Blocked := (-1) } : Snapshot)).getD default))))))))) (some false)))))))))))))))
set_option maxHeartbeats 2000000 in
theorem at_law49_awake {fuelN : Nat}  {r : Bool} (hs : law49_awake fuelN = some r) : At Tryz.prog 8 [] (bV r) := by
 refine at_bound (by kernel_rfl) fun hb => ?_
 refine at_code mixed Tryz.func8 (by kernel_rfl) rfl (by kernel_rfl) rfl fun Q hQ => ?_
 rw [law49_awake] at hs
 refine goD f0 ?_
 revert hs; refine bK fun y5 hx6 hs => ?_
 refine cP f0 (at_law49_one hx6) ?_
 refine goD f0 ?_
 revert hs; refine bK fun y7 hx8 hs => ?_
 refine cP f0 (at_checkpoint_Digest hx8) ?_
 refine goD f0 ?_
 revert hs; refine bK fun y13 hx14 hs => ?_
 refine cP f0 (at_law49_one hx14) ?_
 refine goD f0 ?_
 revert hs; refine bK fun y15 hx16 hs => ?_
 refine cP f0 (at_unz (args := [.agg (eA y13), .agg [nC 1, nC 4], .agg [.z, bC false, nC 0, nC 0]]) (by simp) (at_checkpoint_Encode hx16)) ?_
 refine goD f0 ?_
 revert hs; refine bK fun y21 hx22 hs => ?_
 refine cP f0 (at_law49_one hx22) ?_
 refine goD f0 ?_
 revert hs; refine bK fun y23 hx24 hs => ?_
 refine cP f0 (at_checkpoint_Decode hx24) ?_
 refine goD f0 ?_
 revert hs; refine bK fun y29 hx30 hs => ?_
 refine cP f0 (at_law49_one hx30) ?_
 refine goD f0 ?_
 revert hs; refine bK fun y31 hx32 hs => ?_
 refine cP f0 (at_checkpoint_Decode hx32) ?_
 refine goD f0 ?_
 revert hs; refine bK fun y37 hx38 hs => ?_
 refine cP f0 (at_law49_one hx38) ?_
 refine goD f0 ?_
 revert hs; refine bK fun y39 hx40 hs => ?_
 refine cP f0 (at_unz (args := [.agg (eA y37), .agg [nC 1, nC 4], .agg [.z, bC false, nC (-1), nC 0]]) (by simp) (at_checkpoint_Encode hx40)) ?_
 refine goD f0 ?_
 revert hs; refine bK fun y41 hx42 hs => ?_
 refine cA f0 (at_unz (args := [.cell (.z), iV .i64 y7.1]) (by simp) (at_frame_AppendUint hx42)) ?_
 revert hs; refine lK fun l43 hx44 hs => ?_
 have hx44n : l43.length = 4 := by rw [hx44]; rfl
 obtain ⟨g45, hs⟩ := guardO_some hs
 have g45 := limB_t g45
 obtain ⟨g45a, g45b⟩ := g45
 revert hs; refine lK fun l46 hx47 hs => ?_
 have hx47n : l46.length = (y41.length + l43.length) := by rw [hx47]; simp
 have hx47e : encL l46 = encL y41 ++ encL l43 := by rw [hx47]; simp
 have F1 := an hx44 (an hx47n hx47e)
 refine goE F1 F1 ?_
 refine gsel_split (fun h48 => ?_) (fun h48 => ?_)
 ·replace hs := condT h48 hs
  have f49 : (encL l46).take (l46.length) = encL l46 := encL_take1 _ (by simp)
  have F2 := an F1 h48
  try simp [F2] at f49
  have f49l : l46.length * 1 <= (encL l46).length := by rw [encL_length]; simp
  try simp [F2] at f49l
  have F3 := an F2 (an f49 f49l)
  refine goE F3 F3 ?_
  revert hs; refine bK fun y50 hx51 hs => ?_
  refine cA F3 (at_frame_Seal hx51) ?_
  refine goE F3 F3 ?_
  revert hs; refine bK fun y52 hx53 hs => ?_
  refine cP F3 (at_law49_bytes hx53) ?_
  refine goE F3 F3 ?_
  obtain ⟨g54, hs⟩ := guardO_some hs
  refine gsel_call (fun hg => at_unz (args := [.agg (eA y23.1), .agg [.z, bC false, nC 0, nC 0]]) (by simp) (at_r49_Same (under_call g54 hg))) (fun hg => by (try simp at hg); (first | simp [hg, F3]); try rfl) (fun hg => by (try simp at hg); simp [hg, F3]) (by simp) ?_
  refine goE F3 F3 ?_
  obtain ⟨g55, hs⟩ := guardO_some hs
  refine gsel_call (fun hg => at_checkpoint_Valid (under_call g55 hg)) (fun hg => by (try simp at hg); (first | simp [hg, F3]); try rfl) (fun hg => by (try simp at hg); simp [hg, F3]) (by simp) ?_
  refine goE F3 F3 ?_
  obtain ⟨g56, hs⟩ := guardO_some hs
  refine gsel_call (fun hg => at_unz (args := [.agg [.z, bC false, nC 0, nC (-1)]]) (by simp) (at_checkpoint_Valid (under_call g56 hg))) (fun hg => by (try simp at hg); (first | simp [hg, F3]); try rfl) (fun hg => by (try simp at hg); simp [hg, F3]) (by simp) ?_
  refine goE F3 F3 ?_
  obtain rfl := sj hs
  exact hQ _ _ (rg F3 (Gh.refl _))
 ·replace hs := condF h48 hs
  have F4 := an F1 h48
  refine goE F4 F4 ?_
  obtain rfl := sj hs
  exact hQ _ _ (rg F4 (Gh.refl _))
end Go.Dc
end
section
set_option linter.all false
namespace Go.Dc
open Go Go.Hw Go.Proofs
set_option maxRecDepth 100000
def law49_CheckpointDecode (fuelN : Nat) (a0 : Program) (a1 : Config) (a2 : List UInt8) : Option Bool :=
 Option.bind (r26_Small fuelN a0 a1.Bound) (fun y1 => cond (orB (!y1) (ltI 3000 ((a2.length : Nat) : Int))) (Option.bind (law49_awake fuelN) (fun y4 => some y4)) (Option.bind (checkpoint_Decode fuelN a0 a1 a2) (fun y6 => Option.bind (r49_Decode fuelN a0 a1 a2) (fun y8 => Option.bind (law49_awake fuelN) (fun y10 => guardO (orB (!y10) ((r49_Same fuelN y6.1 y8.1).isSome)) (some (andB (andB y10 ((r49_Same fuelN y6.1 y8.1).getD default)) (eqI y6.2 y8.2))))))))
end Go.Dc
end
section
set_option linter.all false
namespace Go.Dc
open Go Go.Hw Go.Proofs
set_option maxRecDepth 100000
def law49_CheckpointPayload (fuelN : Nat) (a0 : Program) (a1 : Config) (a2 : List UInt8) : Option Bool :=
 Option.bind (r26_Small fuelN a0 a1.Bound) (fun y1 => cond (orB (!y1) (ltI 3000 ((a2.length : Nat) : Int))) (Option.bind (law49_awake fuelN) (fun y4 => some y4)) (Option.bind (r49_Digest fuelN a0 a1) (fun y6 => Option.bind (frame_AppendUint fuelN [] y6.1) (fun y8 => guardO (limB 1 (y8.length + a2.length)) (Option.bind (some (y8 ++ a2)) (fun l11 => Option.bind (frame_Seal fuelN l11) (fun y14 => Option.bind (checkpoint_Decode fuelN a0 a1 y14) (fun y16 => Option.bind (r49_Decode fuelN a0 a1 y14) (fun y18 => Option.bind (law49_awake fuelN) (fun y20 => guardO (orB (!y20) ((r49_Same fuelN y16.1 y18.1).isSome)) (some (andB (andB y20 ((r49_Same fuelN y16.1 y18.1).getD default)) (eqI y16.2 y18.2)))))))))))))
set_option maxHeartbeats 2000000 in
theorem at_law49_CheckpointPayload {fuelN : Nat} {a0 : Program} {a1 : Config} {a2 : List UInt8} {r : Bool} (hs : law49_CheckpointPayload fuelN a0 a1 a2 = some r) : At Tryz.prog 5 [.agg (eA a0), .agg (eA a1), .cell (sC a2)] (bV r) := by
 refine at_bound (by kernel_rfl) fun hb => ?_
 have hb1 : LenOk (.sl a0.Vars.length (encL a0.Vars)) := lkc hb
 have hb2 : LenOk (.sl a0.Mutexes.length (encL a0.Mutexes)) := lkc hb
 have hb3 : LenOk (.sl a0.Conds.length (encL a0.Conds)) := lkc hb
 have hb4 : LenOk (.sl a0.Funcs.length (encL a0.Funcs)) := lkc hb
 have hb5 : LenOk (.sl a0.Threads.length (encL a0.Threads)) := lkc hb
 have hb6 : LenOk (.sl a2.length (encL a2)) := lkc hb
 refine at_code mixed Tryz.func5 (by kernel_rfl) rfl (by kernel_rfl) rfl fun Q hQ => ?_
 rw [law49_CheckpointPayload] at hs
 refine goR f0 ?_
 revert hs; refine bK fun y1 hx2 hs => ?_
 refine cP f0 (at_r26_Small hx2) ?_
 refine goG f0 f0 ?_
 revert hs; refine cS f0 ?_ ?_ <;> intro h3 hs
 ·refine goG f0 f0 ?_
  revert hs; refine bK fun y4 hx5 hs => ?_
  refine cP f0 (at_law49_awake hx5) ?_
  refine goG f0 f0 ?_
  obtain rfl := sj hs
  exact hQ _ _ (rg f0 (Gh.refl _))
 ·refine goG f0 f0 ?_
  revert hs; refine bK fun y6 hx7 hs => ?_
  refine cP f0 (at_r49_Digest hx7) ?_
  refine goG f0 f0 ?_
  revert hs; refine bK fun y8 hx9 hs => ?_
  refine cA f0 (at_unz (args := [.cell (.z), iV .i64 y6.1]) (by simp) (at_frame_AppendUint hx9)) ?_
  obtain ⟨g10, hs⟩ := guardO_some hs
  have g10 := limB_t g10
  obtain ⟨g10a, g10b⟩ := g10
  revert hs; refine lK fun l11 hx12 hs => ?_
  have hx12n : l11.length = (y8.length + a2.length) := by rw [hx12]; simp
  have hx12e : encL l11 = encL y8 ++ encL a2 := by rw [hx12]; simp
  have f13 : (encL l11).take (l11.length) = encL l11 := encL_take1 _ (by simp)
  have F1 := an hx12n hx12e
  try simp [F1] at f13
  have f13l : l11.length * 1 <= (encL l11).length := by rw [encL_length]; simp
  try simp [F1] at f13l
  have F2 := an F1 (an f13 f13l)
  refine goG F2 F2 ?_
  revert hs; refine bK fun y14 hx15 hs => ?_
  refine cA F2 (at_frame_Seal hx15) ?_
  refine goG F2 F2 ?_
  revert hs; refine bK fun y16 hx17 hs => ?_
  refine cP F2 (at_checkpoint_Decode hx17) ?_
  refine goG F2 F2 ?_
  revert hs; refine bK fun y18 hx19 hs => ?_
  refine cP F2 (at_r49_Decode hx19) ?_
  refine goG F2 F2 ?_
  revert hs; refine bK fun y20 hx21 hs => ?_
  refine cP F2 (at_law49_awake hx21) ?_
  refine goG F2 F2 ?_
  obtain ⟨g22, hs⟩ := guardO_some hs
  refine gsel_call (fun hg => at_r49_Same (under_call g22 hg)) (fun hg => by (try simp at hg); (first | simp [hg, F2]); try rfl) (fun hg => by (try simp at hg); simp [hg, F2]) (by simp) ?_
  refine goG F2 F2 ?_
  obtain rfl := sj hs
  exact hQ _ _ (rg F2 (Gh.refl _))
end Go.Dc
end
section
set_option linter.all false
namespace Go.Dc.Pl
open Go Go.Hw Go.Dc
set_option maxRecDepth 100000
theorem awake_t : law49_awake 67108864 = some true := by kernel_rfl
theorem decodeB_same {f : Nat} (hf : 600 <= f) (dg : Int × Int) (b : List UInt8) : r49_Same f (decodeB dg b).1 (decodeB dg b).1 = some true := by
 refine same_refl hf ?_
 have h0 : ∀ x ∈ snap0.Frames, shal 512 x.Tree.Kids = true := fun x hx => by cases hx
 unfold decodeB
 repeat' split
 all_goals try exact h0
 rename_i hv
 have : validS (snapR (rdU ((openB b).1, 0)).2).2.1 = true := by
  cases h : validS (snapR (rdU ((openB b).1, 0)).2).2.1 with
  | true => rfl
  | false => exact (hv (.inr (.inr h))).elim
 exact fun x hx => (valid_shal this x hx).2
theorem law_payload (p : Program) (c : Config) (b : List UInt8) : law49_CheckpointPayload 67108864 p c b = some true := by
 obtain ⟨s, hs, hp⟩ := small26 p c.Bound (f := 67108864) (by omega)
 rw [law49_CheckpointPayload, hs, awake_t, Option.bind_some, orB_d, ltI_d]
 cases s with
 | false => rfl
 | true =>
  have hp := hp rfl
  by_cases hb : 3000 < b.length
  ·rw [decide_eq_true (by omega)]; rfl
  ·have hu := appU_le [] (digest p c).1
   simp only [List.length_nil] at hu
   have hlen : (appU [] (digest p c).1 ++ b).length <= 3009 := by simp; omega
   have h9 := uintB_le9 (n := (appU [] (digest p c).1 ++ b).length) (by omega)
   have hS : (sealB (appU [] (digest p c).1 ++ b)).length <= 3100 := by unfold sealB sumB; simp at h9 hlen ⊢; omega
   rw [decide_eq_false (by omega), ref_digest (by omega) c hp, Bool.not_true, Bool.false_or, cond_false, Option.bind_some, own_appU (by omega) (by simp), Option.bind_some, lim1 (by simp at hlen; omega), guardO_t, Option.bind_some, own_seal (by omega) (by omega)]
   simp only [Option.bind_some]
   rw [own_decode hp (by omega) (by omega), ref_decode hp (by omega) (by omega)]
   simp only [Option.bind_some, decodeB_same (f := 67108864) (by omega), eqI_d, decide_eq_true]; rfl
end Go.Dc.Pl
end
section
set_option linter.all false
namespace Go.Hw
variable [Globals]
section
variable {H : Type} {enc : TypeId × Value -> H} {P : Program} {w : World} {sp : Nat -> Bool} {held : Bool}
end
end Go.Hw
end
section
set_option linter.all false
namespace Go.Dc
open Go Go.Hw Go.Proofs
set_option maxRecDepth 100000
theorem dec9 {H : Type} {n : Nat} {d : DataW H} {c : List CV} (h : cvD Tryz.prog n 9 d = some c) : ∃ x : ByteArray, True /\ c = Enc.enc x := by
 obtain ⟨m, rfl⟩ := cvD_string Tryz.underlying9 h
 exact ⟨m, trivial, rfl⟩
theorem dec3 {H : Type} {n : Nat} {d : DataW H} {c : List CV} (h : cvD Tryz.prog n 3 d = some c) : ∃ x : Int, (-9223372036854775808 <= x /\ x <= 9223372036854775807) /\ c = Enc.enc x := by
 obtain ⟨m, hm, rfl⟩ := cvD_int Tryz.underlying3 h
 exact ⟨m, by simpa [IntKind.min, IntKind.max, IntKind.signed, IntKind.bits] using hm, rfl⟩
def OkVar (x : Var) : Prop := (fun _ : ByteArray => True) x.Name /\ (fun x : Int => -9223372036854775808 <= x /\ x <= 9223372036854775807) x.Init
theorem dec83 {H : Type} {n : Nat} {d : DataW H} {c : List CV} (h : cvD Tryz.prog n 83 d = some c) : ∃ x : Var, OkVar x /\ c = Enc.enc x := by
 obtain ⟨m, l, rfl, rfl, hl, h⟩ := cvD_struct Tryz.underlying83 h
 have hl : l.length = 2 := hl
 match l, hl with
 | [d0, d1], _ =>
  simp only [List.zipWith] at h
  obtain ⟨a0, b0, h0, k1, rfl⟩ := concatM_cons h
  obtain ⟨a1, b1, h1, k2, rfl⟩ := concatM_cons k1
  obtain rfl := concatM_nil k2
  obtain ⟨x0, q0, rfl⟩ := dec9 h0
  obtain ⟨x1, q1, rfl⟩ := dec3 h1
  exact ⟨⟨x0, x1⟩, ⟨q0, q1⟩, rfl⟩
theorem dec22 {H : Type} {n : Nat} {d : DataW H} {c : List CV} (h : cvD Tryz.prog n 22 d = some c) : ∃ x : List Var, (∀ y ∈ x, (OkVar) y) /\ c = Enc.enc x := by
 obtain ⟨L, hQ, rfl⟩ := cvD_sliceQ (g := Enc.enc) (Q := OkVar) Tryz.underlying22 (fun n d c h => dec83 h) h
 exact ⟨L, hQ, rfl⟩
theorem dec23 {H : Type} {n : Nat} {d : DataW H} {c : List CV} (h : cvD Tryz.prog n 23 d = some c) : ∃ x : List ByteArray, (∀ y ∈ x, (fun _ : ByteArray => True) y) /\ c = Enc.enc x := by
 obtain ⟨L, hQ, rfl⟩ := cvD_sliceQ (g := Enc.enc) (Q := fun _ : ByteArray => True) Tryz.underlying23 (fun n d c h => dec9 h) h
 exact ⟨L, hQ, rfl⟩
theorem dec85 {H : Type} {n : Nat} {d : DataW H} {c : List CV} (h : cvD Tryz.prog n 85 d = some c) : ∃ x : Int, (-9223372036854775808 <= x /\ x <= 9223372036854775807) /\ c = Enc.enc x := by
 obtain ⟨m, hm, rfl⟩ := cvD_int Tryz.underlying85 h
 exact ⟨m, by simpa [IntKind.min, IntKind.max, IntKind.signed, IntKind.bits] using hm, rfl⟩
theorem dec86 {H : Type} {n : Nat} {d : DataW H} {c : List CV} (h : cvD Tryz.prog n 86 d = some c) : ∃ x : Int, (-9223372036854775808 <= x /\ x <= 9223372036854775807) /\ c = Enc.enc x := by
 obtain ⟨m, hm, rfl⟩ := cvD_int Tryz.underlying86 h
 exact ⟨m, by simpa [IntKind.min, IntKind.max, IntKind.signed, IntKind.bits] using hm, rfl⟩
theorem dec87 {H : Type} {n : Nat} {d : DataW H} {c : List CV} (h : cvD Tryz.prog n 87 d = some c) : ∃ x : Int, (-9223372036854775808 <= x /\ x <= 9223372036854775807) /\ c = Enc.enc x := by
 obtain ⟨m, hm, rfl⟩ := cvD_int Tryz.underlying87 h
 exact ⟨m, by simpa [IntKind.min, IntKind.max, IntKind.signed, IntKind.bits] using hm, rfl⟩
def OkInst (x : Inst) : Prop := (fun x : Int => -9223372036854775808 <= x /\ x <= 9223372036854775807) x.Op /\ (fun x : Int => -9223372036854775808 <= x /\ x <= 9223372036854775807) x.A /\ (fun x : Int => -9223372036854775808 <= x /\ x <= 9223372036854775807) x.B /\ (fun x : Int => -9223372036854775808 <= x /\ x <= 9223372036854775807) x.C /\ (fun x : Int => -9223372036854775808 <= x /\ x <= 9223372036854775807) x.Obj /\ (fun x : Int => -9223372036854775808 <= x /\ x <= 9223372036854775807) x.N /\ (fun x : Int => -9223372036854775808 <= x /\ x <= 9223372036854775807) x.Fn /\ (fun x : Int => -9223372036854775808 <= x /\ x <= 9223372036854775807) x.Order
theorem dec89 {H : Type} {n : Nat} {d : DataW H} {c : List CV} (h : cvD Tryz.prog n 89 d = some c) : ∃ x : Inst, OkInst x /\ c = Enc.enc x := by
 obtain ⟨m, l, rfl, rfl, hl, h⟩ := cvD_struct Tryz.underlying89 h
 have hl : l.length = 8 := hl
 match l, hl with
 | [d0, d1, d2, d3, d4, d5, d6, d7], _ =>
  simp only [List.zipWith] at h
  obtain ⟨a0, b0, h0, k1, rfl⟩ := concatM_cons h
  obtain ⟨a1, b1, h1, k2, rfl⟩ := concatM_cons k1
  obtain ⟨a2, b2, h2, k3, rfl⟩ := concatM_cons k2
  obtain ⟨a3, b3, h3, k4, rfl⟩ := concatM_cons k3
  obtain ⟨a4, b4, h4, k5, rfl⟩ := concatM_cons k4
  obtain ⟨a5, b5, h5, k6, rfl⟩ := concatM_cons k5
  obtain ⟨a6, b6, h6, k7, rfl⟩ := concatM_cons k6
  obtain ⟨a7, b7, h7, k8, rfl⟩ := concatM_cons k7
  obtain rfl := concatM_nil k8
  obtain ⟨x0, q0, rfl⟩ := dec85 h0
  obtain ⟨x1, q1, rfl⟩ := dec3 h1
  obtain ⟨x2, q2, rfl⟩ := dec3 h2
  obtain ⟨x3, q3, rfl⟩ := dec3 h3
  obtain ⟨x4, q4, rfl⟩ := dec3 h4
  obtain ⟨x5, q5, rfl⟩ := dec3 h5
  obtain ⟨x6, q6, rfl⟩ := dec86 h6
  obtain ⟨x7, q7, rfl⟩ := dec87 h7
  exact ⟨⟨x0, x1, x2, x3, x4, x5, x6, x7⟩, ⟨q0, q1, q2, q3, q4, q5, q6, q7⟩, rfl⟩
theorem dec51 {H : Type} {n : Nat} {d : DataW H} {c : List CV} (h : cvD Tryz.prog n 51 d = some c) : ∃ x : List Inst, (∀ y ∈ x, (OkInst) y) /\ c = Enc.enc x := by
 obtain ⟨L, hQ, rfl⟩ := cvD_sliceQ (g := Enc.enc) (Q := OkInst) Tryz.underlying51 (fun n d c h => dec89 h) h
 exact ⟨L, hQ, rfl⟩
def OkFunc (x : Func) : Prop := (fun _ : ByteArray => True) x.Name /\ (fun l : List Inst => ∀ x ∈ l, (OkInst) x) x.Code
theorem dec53 {H : Type} {n : Nat} {d : DataW H} {c : List CV} (h : cvD Tryz.prog n 53 d = some c) : ∃ x : Func, OkFunc x /\ c = Enc.enc x := by
 obtain ⟨m, l, rfl, rfl, hl, h⟩ := cvD_struct Tryz.underlying53 h
 have hl : l.length = 2 := hl
 match l, hl with
 | [d0, d1], _ =>
  simp only [List.zipWith] at h
  obtain ⟨a0, b0, h0, k1, rfl⟩ := concatM_cons h
  obtain ⟨a1, b1, h1, k2, rfl⟩ := concatM_cons k1
  obtain rfl := concatM_nil k2
  obtain ⟨x0, q0, rfl⟩ := dec9 h0
  obtain ⟨x1, q1, rfl⟩ := dec51 h1
  exact ⟨⟨x0, x1⟩, ⟨q0, q1⟩, rfl⟩
theorem dec24 {H : Type} {n : Nat} {d : DataW H} {c : List CV} (h : cvD Tryz.prog n 24 d = some c) : ∃ x : List Func, (∀ y ∈ x, (OkFunc) y) /\ c = Enc.enc x := by
 obtain ⟨L, hQ, rfl⟩ := cvD_sliceQ (g := Enc.enc) (Q := OkFunc) Tryz.underlying24 (fun n d c h => dec53 h) h
 exact ⟨L, hQ, rfl⟩
def OkStart (x : Start) : Prop := (fun x : Int => -9223372036854775808 <= x /\ x <= 9223372036854775807) x.Func /\ (fun x : Int => -9223372036854775808 <= x /\ x <= 9223372036854775807) x.Arg
theorem dec91 {H : Type} {n : Nat} {d : DataW H} {c : List CV} (h : cvD Tryz.prog n 91 d = some c) : ∃ x : Start, OkStart x /\ c = Enc.enc x := by
 obtain ⟨m, l, rfl, rfl, hl, h⟩ := cvD_struct Tryz.underlying91 h
 have hl : l.length = 2 := hl
 match l, hl with
 | [d0, d1], _ =>
  simp only [List.zipWith] at h
  obtain ⟨a0, b0, h0, k1, rfl⟩ := concatM_cons h
  obtain ⟨a1, b1, h1, k2, rfl⟩ := concatM_cons k1
  obtain rfl := concatM_nil k2
  obtain ⟨x0, q0, rfl⟩ := dec3 h0
  obtain ⟨x1, q1, rfl⟩ := dec3 h1
  exact ⟨⟨x0, x1⟩, ⟨q0, q1⟩, rfl⟩
theorem dec25 {H : Type} {n : Nat} {d : DataW H} {c : List CV} (h : cvD Tryz.prog n 25 d = some c) : ∃ x : List Start, (∀ y ∈ x, (OkStart) y) /\ c = Enc.enc x := by
 obtain ⟨L, hQ, rfl⟩ := cvD_sliceQ (g := Enc.enc) (Q := OkStart) Tryz.underlying25 (fun n d c h => dec91 h) h
 exact ⟨L, hQ, rfl⟩
def OkProgram (x : Program) : Prop := (fun l : List Var => ∀ x ∈ l, (OkVar) x) x.Vars /\ (fun l : List ByteArray => ∀ x ∈ l, (fun _ : ByteArray => True) x) x.Mutexes /\ (fun l : List ByteArray => ∀ x ∈ l, (fun _ : ByteArray => True) x) x.Conds /\ (fun l : List Func => ∀ x ∈ l, (OkFunc) x) x.Funcs /\ (fun l : List Start => ∀ x ∈ l, (OkStart) x) x.Threads
theorem dec27 {H : Type} {n : Nat} {d : DataW H} {c : List CV} (h : cvD Tryz.prog n 27 d = some c) : ∃ x : Program, OkProgram x /\ c = Enc.enc x := by
 obtain ⟨m, l, rfl, rfl, hl, h⟩ := cvD_struct Tryz.underlying27 h
 have hl : l.length = 5 := hl
 match l, hl with
 | [d0, d1, d2, d3, d4], _ =>
  simp only [List.zipWith] at h
  obtain ⟨a0, b0, h0, k1, rfl⟩ := concatM_cons h
  obtain ⟨a1, b1, h1, k2, rfl⟩ := concatM_cons k1
  obtain ⟨a2, b2, h2, k3, rfl⟩ := concatM_cons k2
  obtain ⟨a3, b3, h3, k4, rfl⟩ := concatM_cons k3
  obtain ⟨a4, b4, h4, k5, rfl⟩ := concatM_cons k4
  obtain rfl := concatM_nil k5
  obtain ⟨x0, q0, rfl⟩ := dec22 h0
  obtain ⟨x1, q1, rfl⟩ := dec23 h1
  obtain ⟨x2, q2, rfl⟩ := dec23 h2
  obtain ⟨x3, q3, rfl⟩ := dec24 h3
  obtain ⟨x4, q4, rfl⟩ := dec25 h4
  exact ⟨⟨x0, x1, x2, x3, x4⟩, ⟨q0, q1, q2, q3, q4⟩, rfl⟩
theorem open27 {H : Type} {enc : TypeId × Value -> H} {W : World} {sp : Nat -> Bool} {held : Bool} {v : Value} {d : DataW H} {p : List MemPlace} {r : Go.Reach} {b0 : Nat} (hv : Value.okWide Tryz.prog W r b0 27 v) (h : DataW.Trod enc Tryz.prog W 0 sp held 27 v d p) :
  ∃ x : Program, OkProgram x /\ AVRep W m0 (fun _ => False) v (.agg ((Enc.enc x).map .p)) := by
 obtain ⟨cvs, e, hr⟩ := rep_struct (m := 8) Tryz.underlying27 (by kernel_rfl) hv h
 obtain ⟨x, hx, rfl⟩ := dec27 e
 exact ⟨x, hx, hr⟩
theorem dec28 {H : Type} {n : Nat} {d : DataW H} {c : List CV} (h : cvD Tryz.prog n 28 d = some c) : ∃ x : Int, (-9223372036854775808 <= x /\ x <= 9223372036854775807) /\ c = Enc.enc x := by
 obtain ⟨m, hm, rfl⟩ := cvD_int Tryz.underlying28 h
 exact ⟨m, by simpa [IntKind.min, IntKind.max, IntKind.signed, IntKind.bits] using hm, rfl⟩
def OkConfig (x : Config) : Prop := (fun x : Int => -9223372036854775808 <= x /\ x <= 9223372036854775807) x.Model /\ (fun x : Int => -9223372036854775808 <= x /\ x <= 9223372036854775807) x.Bound
theorem dec30 {H : Type} {n : Nat} {d : DataW H} {c : List CV} (h : cvD Tryz.prog n 30 d = some c) : ∃ x : Config, OkConfig x /\ c = Enc.enc x := by
 obtain ⟨m, l, rfl, rfl, hl, h⟩ := cvD_struct Tryz.underlying30 h
 have hl : l.length = 2 := hl
 match l, hl with
 | [d0, d1], _ =>
  simp only [List.zipWith] at h
  obtain ⟨a0, b0, h0, k1, rfl⟩ := concatM_cons h
  obtain ⟨a1, b1, h1, k2, rfl⟩ := concatM_cons k1
  obtain rfl := concatM_nil k2
  obtain ⟨x0, q0, rfl⟩ := dec28 h0
  obtain ⟨x1, q1, rfl⟩ := dec3 h1
  exact ⟨⟨x0, x1⟩, ⟨q0, q1⟩, rfl⟩
theorem open30 {H : Type} {enc : TypeId × Value -> H} {W : World} {sp : Nat -> Bool} {held : Bool} {v : Value} {d : DataW H} {p : List MemPlace} {r : Go.Reach} {b0 : Nat} (hv : Value.okWide Tryz.prog W r b0 30 v) (h : DataW.Trod enc Tryz.prog W 0 sp held 30 v d p) :
  ∃ x : Config, OkConfig x /\ AVRep W m0 (fun _ => False) v (.agg ((Enc.enc x).map .p)) := by
 obtain ⟨cvs, e, hr⟩ := rep_struct (m := 8) Tryz.underlying30 (by kernel_rfl) hv h
 obtain ⟨x, hx, rfl⟩ := dec30 e
 exact ⟨x, hx, hr⟩
theorem dec5 {H : Type} {n : Nat} {d : DataW H} {c : List CV} (h : cvD Tryz.prog n 5 d = some c) : ∃ x : UInt8, True /\ c = Enc.enc x := by
 obtain ⟨m, hm, rfl⟩ := cvD_int Tryz.underlying5 h
 have hm : 0 <= m /\ m <= 255 := by simpa [IntKind.min, IntKind.max, IntKind.signed, IntKind.bits] using hm
 exact ⟨UInt8.ofNat m.toNat, trivial, by rw [enc_u8]; congr 3; simp; omega⟩
theorem dec37 {H : Type} {n : Nat} {d : DataW H} {c : List CV} (h : cvD Tryz.prog n 37 d = some c) : ∃ x : List UInt8, (∀ y ∈ x, (fun _ : UInt8 => True) y) /\ c = Enc.enc x := by
 obtain ⟨L, hQ, rfl⟩ := cvD_sliceQ (g := Enc.enc) (Q := fun _ : UInt8 => True) Tryz.underlying37 (fun n d c h => dec5 h) h
 exact ⟨L, hQ, rfl⟩
theorem open37 {H : Type} {enc : TypeId × Value -> H} {W : World} {sp : Nat -> Bool} {held : Bool} {v : Value} {d : DataW H} {p : List MemPlace} {r : Go.Reach} {b0 : Nat} (hv : Value.okWide Tryz.prog W r b0 37 v) (h : DataW.Trod enc Tryz.prog W 0 sp held 37 v d p) :
  ∃ x : List UInt8, (fun l : List UInt8 => ∀ x ∈ l, (fun _ : UInt8 => True) x) x /\ AVRep W m0 (fun _ => False) v (.cell (.p (.sl x.length (encL x)))) := by
 obtain ⟨c, e, hr⟩ := rep_slice (m := 8) Tryz.underlying37 (by kernel_rfl) hv h
 obtain ⟨x, hx, e2⟩ := dec37 e
 obtain rfl : c = .sl x.length (encL x) := by simpa using e2
 exact ⟨x, hx, hr⟩
theorem gN1 : Tryz.prog.globalNamed "modelcheck/value.names" = some 1 := by kernel_rfl
theorem gN0 : Tryz.prog.globalNamed "modelcheck/inst.rows" = some 0 := by kernel_rfl
/-- The package variables as the rows lay them. -/
theorem gT1 : (Tryz.prog.globals[1]?).map (·.type) = some 162 := by kernel_rfl
set_option maxRecDepth 100000 in
theorem gC1 : cvD Tryz.prog 6 162 (Go.Proofs.YtjbebaachciedaaGreatDoor.Rows.laid_modelcheck_value_names (H := Unit)) = some (encL namesTab) := by kernel_rfl
theorem gT0 : (Tryz.prog.globals[0]?).map (·.type) = some 158 := by kernel_rfl
set_option maxRecDepth 100000 in
theorem gC0 : cvD Tryz.prog 6 158 (Go.Proofs.YtjbebaachciedaaGreatDoor.Rows.laid_modelcheck_inst_rows (H := Unit)) = some (encL rowsTab) := by kernel_rfl
set_option maxRecDepth 100000 in
theorem globs {W : World} (laid : List (String × DataW Unit)) (he : laid = [("modelcheck/value.names", Go.Proofs.YtjbebaachciedaaGreatDoor.Rows.laid_modelcheck_value_names), ("modelcheck/inst.rows", Go.Proofs.YtjbebaachciedaaGreatDoor.Rows.laid_modelcheck_inst_rows)])
  (h : laidMetH Tryz.prog laid W) : ∀ g cs, Globals.G g = some cs -> AVRep W m0 (fun _ => False) (.pointer (some ⟨g, 0, none⟩)) (.cell (.ep cs 0)) := by
 subst he
 rw [MakeChecks.laidMetH_plain _ _ _ (by kernel_rfl)] at h
 obtain ⟨ps, ⟨g0, t0, cs0, f0, p0, q0, hg0, ht0, hv0, hd0, ⟨g1, t1, cs1, f1, p1, q1, hg1, ht1, hv1, hd1, _, _⟩, _⟩, _, _⟩ := h
 obtain rfl := Option.some.inj (gN1.symm.trans hg0)
 obtain rfl := Option.some.inj (gT1.symm.trans ht0)
 obtain rfl := Option.some.inj (gN0.symm.trans hg1)
 obtain rfl := Option.some.inj (gT0.symm.trans ht1)
 intro g cs hgc
 have hgc : (if g = 0 then some (encL rowsTab) else if g = 1 then some (encL namesTab) else none) = some cs := hgc
 split at hgc
 ·rename_i e
  subst e
  cases hgc
  exact rep_global (m := 6) (t := 158) (by kernel_rfl) hd1 gC0 fun j => by simpa using World.var?_cell hg1 hv1 j
 ·split at hgc
  ·rename_i e
   subst e
   cases hgc
   exact rep_global (m := 6) (t := 162) (by kernel_rfl) hd0 gC1 fun j => by simpa using World.var?_cell hg0 hv0 j
  ·cases hgc
end Go.Dc
end
