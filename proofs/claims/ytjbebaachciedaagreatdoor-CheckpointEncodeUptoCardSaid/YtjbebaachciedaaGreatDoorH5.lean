/- Contracts of functions, by their numbers, and the laws that walk them. Conditions: as each states. -/
import Derived.Test.YtjbebaachciedaaGreatDoorH4
import Derived.Laws.BitsAllLaws
set_option linter.all false
section
set_option linter.all false
namespace Go.Dc
open Go Go.Hw Go.Proofs
set_option maxRecDepth 100000
def frame_uintBytes_L1 : Nat -> Int -> (List UInt8) -> Option (Int × (List UInt8))
 | 0, _, _ => none
 | q51 + 1, i34, l35 => cond (!(ltI i34 128)) (Option.bind (some ([u8 (IntKind.u8.wrap (IntKind.i64.wrap (Int.tmod i34 128 + 128)))])) (fun l56 => guardO (limB 1 (l35.length + l56.length)) (Option.bind (some (l35 ++ l56)) (fun l59 => frame_uintBytes_L1 q51 (IntKind.i64.wrap (Int.tdiv i34 128)) l59)))) (some ((i34, l35)))
def frame_uintBytes (fuelN : Nat) (a0 : Int) : Option (List UInt8) :=
 Option.bind (α := Int × (List UInt8)) (Option.bind (frame_uintBytes_L1 fuelN a0 []) (fun o => match o with | (i43, l44) => some ((i43, l44)))) (fun o => match o with | (i28, l29) => Option.bind (some ([u8 (IntKind.u8.wrap i28)])) (fun l61 => guardO (limB 1 (l29.length + l61.length)) (Option.bind (some (l29 ++ l61)) (fun l64 => some l64))))
set_option maxHeartbeats 2000000 in
theorem at_frame_uintBytes {fuelN : Nat} {a0 : Int} {r : (List UInt8)} (hs : frame_uintBytes fuelN a0 = some r) : At Tryz.prog 50 [iV .i64 a0] (.cell (sC r)) := by
 refine at_bound (by kernel_rfl) fun hb => ?_
 refine at_code mixed Tryz.func50 (by kernel_rfl) rfl (by kernel_rfl) rfl fun Q hQ => ?_
 rw [frame_uintBytes] at hs
 refine goR2 f0 ?_
 revert hs; refine bK fun o31 e30 hs => ?_
 refine awp_cutK (fun (v : Int × (List UInt8)) (σ : St) => some (v) = some o31 /\ σ.env 0 = iV .i64 v.1 /\ σ.env 3 = .cell (.sl (.l 1) 0 1 v.2.length) /\ σ.hp (.l 1) = some (.pure (encL v.2)) /\ 2 <= σ.gen) (by rfl) (fun Q hK32 hX33 => ?_) (fun v σ3 hp => ?_)
 ·refine goR f0 ?_
  revert e30; refine bK fun o46 e45 e30 => ?_
  refine awp_loopW (fun (v : Nat × Int × (List UInt8)) (σ : St) => frame_uintBytes_L1 v.1 v.2.1 v.2.2 = some o46 /\ σ.env 0 = iV .i64 v.2.1 /\ σ.env 3 = .cell (.sl (.l 4) 0 1 v.2.2.length) /\ σ.hp (.l 4) = some (.pure (encL v.2.2)) /\ 2 <= σ.gen) (fun v => v.1) _ (Gh.void _ (.l 4) 3 1 rfl (by simp)) (fuelN, a0, []) ⟨e45, pv f0, pv f0, pv f0, pg⟩ fun v σ6 hp L47 hL48 => ?_
  obtain ⟨q50, i34, l35⟩ := v
  dsimp only at hp hL48
  obtain ⟨e45, h5_0, h5_3, g5_0, n5_g⟩ := hp
  rcases q50 with _ | q51
  ·rw [frame_uintBytes_L1] at e45; cases e45
  ·rw [frame_uintBytes_L1] at e45; try dsimp only at e45
   have F1 := an h5_0 (an h5_3 g5_0)
   refine goR F1 ?_
   revert e45; refine cS F1 ?_ ?_ <;> intro h55 e45
   ·revert e45; refine lK fun l56 hx57 e45 => ?_
    have hx57n : l56.length = 1 := by rw [hx57]; rfl
    obtain ⟨g58, e45⟩ := guardO_some e45
    have g58 := limB_t g58
    obtain ⟨g58a, g58b⟩ := g58
    revert e45; refine lK fun l59 hx60 e45 => ?_
    have hx60n : l59.length = (l35.length + l56.length) := by rw [hx60]; simp
    have hx60e : encL l59 = encL l35 ++ encL l56 := by rw [hx60]; simp
    have F2 := an F1 (an hx57 (an hx60n hx60e))
    refine goR F2 ?_
    exact hL48 (q51, IntKind.i64.wrap (Int.tdiv i34 128), l59) _ _ (Gh.ren _ (.o (σ6.gen + 2) 6 0) (.l 4) (by simp) rfl rfl) ⟨e45, pv F2, pv F2, pv F2, pg⟩ (by omega)
   ·refine goR F1 ?_
    obtain rfl := sj e45
    try dsimp only at e30
    exact hK32 (i34, l35) _ _ (Gh.ren _ (.l 4) (.l 1) (by simp) rfl rfl) ⟨e30, pv F1, pv F1, pv F1, pg⟩
 ·obtain ⟨i28, l29⟩ := v
  dsimp only at hp
  obtain ⟨e30, h4_0, h4_3, g4_0, n4_g⟩ := hp
  obtain rfl := sj e30
  try dsimp only at hs
  revert hs; refine lK fun l61 hx62 hs => ?_
  have hx62n : l61.length = 1 := by rw [hx62]; rfl
  obtain ⟨g63, hs⟩ := guardO_some hs
  have g63 := limB_t g63
  obtain ⟨g63a, g63b⟩ := g63
  revert hs; refine lK fun l64 hx65 hs => ?_
  have hx65n : l64.length = (l29.length + l61.length) := by rw [hx65]; simp
  have hx65e : encL l64 = encL l29 ++ encL l61 := by rw [hx65]; simp
  have F3 := an h4_0 (an h4_3 (an g4_0 (an hx62 (an hx65n hx65e))))
  refine goR F3 ?_
  have f66 : (encL l64).take (l64.length) = encL l64 := encL_take1 _ (by simp)
  try simp [F3] at f66
  have f66l : l64.length * 1 <= (encL l64).length := by rw [encL_length]; simp
  try simp [F3] at f66l
  obtain rfl := sj hs
  have F4 := an F3 (an f66 f66l)
  exact hQ _ _ (rg F4 (Gh.frz _ (.o (σ3.gen + 1) 4 0)))
end Go.Dc
end
section
set_option linter.all false
namespace Go.Dc
open Go Go.Hw Go.Proofs
set_option maxRecDepth 100000
def frame_AppendUint (fuelN : Nat) (a0 : List UInt8) (a1 : Int) : Option (List UInt8) :=
 cond (orB (ltI a1 0) (ltI 4611686018427387904 a1)) (Option.bind (some ([a0])) (fun l2 => Option.bind (frame_join l2) (fun y4 => some y4))) (Option.bind (frame_uintBytes fuelN a1) (fun y6 => Option.bind (some ([a0, y6])) (fun l8 => Option.bind (frame_join l8) (fun y10 => some y10))))
set_option maxHeartbeats 2000000 in
theorem at_frame_AppendUint {fuelN : Nat} {a0 : List UInt8} {a1 : Int} {r : (List UInt8)} (hs : frame_AppendUint fuelN a0 a1 = some r) : CAt Tryz.prog 18 [.cell (sC a0), iV .i64 a1] [] (.ret (.cell (.sl (.r 0) 0 1 r.length))) [(.r 0, .pure (encL r))] := by
 refine at_bound (by kernel_rfl) fun hb => ?_
 have hb1 : LenOk (.sl a0.length (encL a0)) := lkc hb
 refine at_code mixed Tryz.func18 (by kernel_rfl) rfl (by kernel_rfl) rfl fun Q hQ => ?_
 rw [frame_AppendUint] at hs
 refine goG f0 f0 ?_
 revert hs; refine cS f0 ?_ ?_ <;> intro h1 hs
 ·revert hs; refine lK fun l2 hx3 hs => ?_
  have hx3n : l2.length = 1 := by rw [hx3]; rfl
  refine goG hx3 hx3 ?_
  revert hs; refine bK fun y4 hx5 hs => ?_
  refine cA hx3 (at_frame_join hx5) ?_
  refine goG hx3 hx3 ?_
  obtain rfl := sj hs
  refine hQ _ _ (ret2g _ (Gh.ren _ (.o 3 2 0) (.r 0) (by simp) rfl rfl) (by simp [St.frz, St.pur, hx3]; rfl) (by first | rfl | (simp [St.frz, St.pur, hx3]; done) | (rw [if_pos (by first | omega | (simp; omega))]; simp [St.frz, St.pur, hx3]; first | omega | exact List.take_of_length_le (by simp; omega) | skip)) (pv hx3))
 ·refine goG f0 f0 ?_
  revert hs; refine bK fun y6 hx7 hs => ?_
  refine cP f0 (at_frame_uintBytes hx7) ?_
  revert hs; refine lK fun l8 hx9 hs => ?_
  have hx9n : l8.length = 2 := by rw [hx9]; rfl
  refine goG hx9 hx9 ?_
  revert hs; refine bK fun y10 hx11 hs => ?_
  refine cA hx9 (at_frame_join hx11) ?_
  refine goG hx9 hx9 ?_
  obtain rfl := sj hs
  refine hQ _ _ (ret2g _ (Gh.ren _ (.o 3 4 0) (.r 0) (by simp) rfl rfl) (by simp [St.frz, St.pur, hx9]; rfl) (by first | rfl | (simp [St.frz, St.pur, hx9]; done) | (rw [if_pos (by first | omega | (simp; omega))]; simp [St.frz, St.pur, hx9]; first | omega | exact List.take_of_length_le (by simp; omega) | skip)) (pv hx9))
end Go.Dc
end
section
set_option linter.all false
namespace Go.Dc
open Go Go.Hw Go.Proofs
set_option maxRecDepth 100000
def frame_inRange (a0 : Int) : Option Bool :=
 some (andB (!(ltI a0 (-2305843009213693952))) (!(ltI 2305843009213693952 a0)))
set_option maxHeartbeats 2000000 in
theorem at_frame_inRange {a0 : Int} {r : Bool} (hs : frame_inRange a0 = some r) : At Tryz.prog 56 [iV .i64 a0] (bV r) := by
 refine at_bound (by kernel_rfl) fun hb => ?_
 refine at_code mixed Tryz.func56 (by kernel_rfl) rfl (by kernel_rfl) rfl fun Q hQ => ?_
 rw [frame_inRange] at hs
 refine goG f0 f0 ?_
 obtain rfl := sj hs
 exact hQ _ _ (rg f0 (Gh.refl _))
end Go.Dc
end
section
set_option linter.all false
namespace Go.Dc
open Go Go.Hw Go.Proofs
set_option maxRecDepth 100000
def frame_intBytes (fuelN : Nat) (a0 : Int) : Option (List UInt8) :=
 cond (!(ltI a0 0)) (Option.bind (frame_uintBytes fuelN (IntKind.i64.wrap (2 * a0))) (fun y2 => some y2)) (Option.bind (frame_uintBytes fuelN (IntKind.i64.wrap (IntKind.i64.wrap ((-2) * a0) - 1))) (fun y4 => some y4))
set_option maxHeartbeats 2000000 in
theorem at_frame_intBytes {fuelN : Nat} {a0 : Int} {r : (List UInt8)} (hs : frame_intBytes fuelN a0 = some r) : At Tryz.prog 57 [iV .i64 a0] (.cell (sC r)) := by
 refine at_bound (by kernel_rfl) fun hb => ?_
 refine at_code mixed Tryz.func57 (by kernel_rfl) rfl (by kernel_rfl) rfl fun Q hQ => ?_
 rw [frame_intBytes] at hs
 refine goR f0 ?_
 revert hs; refine cS f0 ?_ ?_ <;> intro h1 hs
 ·refine goR f0 ?_
  revert hs; refine bK fun y2 hx3 hs => ?_
  refine cP f0 (at_frame_uintBytes hx3) ?_
  refine goR f0 ?_
  obtain rfl := sj hs
  exact hQ _ _ (rg f0 (Gh.refl _))
 ·refine goR f0 ?_
  revert hs; refine bK fun y4 hx5 hs => ?_
  refine cP f0 (at_frame_uintBytes hx5) ?_
  refine goR f0 ?_
  obtain rfl := sj hs
  exact hQ _ _ (rg f0 (Gh.refl _))
end Go.Dc
end
section
set_option linter.all false
namespace Go.Dc
open Go Go.Hw Go.Proofs
set_option maxRecDepth 100000
def frame_AppendInt (fuelN : Nat) (a0 : List UInt8) (a1 : Int) : Option (List UInt8) :=
 Option.bind (frame_inRange a1) (fun y1 => cond (!y1) (Option.bind (some ([a0])) (fun l4 => Option.bind (frame_join l4) (fun y6 => some y6))) (Option.bind (frame_intBytes fuelN a1) (fun y8 => Option.bind (some ([a0, y8])) (fun l10 => Option.bind (frame_join l10) (fun y12 => some y12)))))
set_option maxHeartbeats 2000000 in
theorem at_frame_AppendInt {fuelN : Nat} {a0 : List UInt8} {a1 : Int} {r : (List UInt8)} (hs : frame_AppendInt fuelN a0 a1 = some r) : CAt Tryz.prog 24 [.cell (sC a0), iV .i64 a1] [] (.ret (.cell (.sl (.r 0) 0 1 r.length))) [(.r 0, .pure (encL r))] := by
 refine at_bound (by kernel_rfl) fun hb => ?_
 have hb1 : LenOk (.sl a0.length (encL a0)) := lkc hb
 refine at_code mixed Tryz.func24 (by kernel_rfl) rfl (by kernel_rfl) rfl fun Q hQ => ?_
 rw [frame_AppendInt] at hs
 refine goR f0 ?_
 revert hs; refine bK fun y1 hx2 hs => ?_
 refine cP f0 (at_frame_inRange hx2) ?_
 refine goR f0 ?_
 revert hs; refine cS f0 ?_ ?_ <;> intro h3 hs
 ·revert hs; refine lK fun l4 hx5 hs => ?_
  have hx5n : l4.length = 1 := by rw [hx5]; rfl
  refine goR hx5 ?_
  revert hs; refine bK fun y6 hx7 hs => ?_
  refine cA hx5 (at_frame_join hx7) ?_
  refine goR hx5 ?_
  obtain rfl := sj hs
  refine hQ _ _ (ret2g _ (Gh.ren _ (.o 3 2 0) (.r 0) (by simp) rfl rfl) (by simp [St.frz, St.pur, hx5]; rfl) (by first | rfl | (simp [St.frz, St.pur, hx5]; done) | (rw [if_pos (by first | omega | (simp; omega))]; simp [St.frz, St.pur, hx5]; first | omega | exact List.take_of_length_le (by simp; omega) | skip)) (pv hx5))
 ·refine goR f0 ?_
  revert hs; refine bK fun y8 hx9 hs => ?_
  refine cP f0 (at_frame_intBytes hx9) ?_
  revert hs; refine lK fun l10 hx11 hs => ?_
  have hx11n : l10.length = 2 := by rw [hx11]; rfl
  refine goR hx11 ?_
  revert hs; refine bK fun y12 hx13 hs => ?_
  refine cA hx11 (at_frame_join hx13) ?_
  refine goR hx11 ?_
  obtain rfl := sj hs
  refine hQ _ _ (ret2g _ (Gh.ren _ (.o 3 4 0) (.r 0) (by simp) rfl rfl) (by simp [St.frz, St.pur, hx11]; rfl) (by first | rfl | (simp [St.frz, St.pur, hx11]; done) | (rw [if_pos (by first | omega | (simp; omega))]; simp [St.frz, St.pur, hx11]; first | omega | exact List.take_of_length_le (by simp; omega) | skip)) (pv hx11))
end Go.Dc
end
section
set_option linter.all false
namespace Go.Dc
open Go Go.Hw Go.Proofs
set_option maxRecDepth 100000
def r06_AppendUint_L1 : Nat -> Int -> (List UInt8) -> Option (Int × (List UInt8))
 | 0, _, _ => none
 | q58 + 1, i41, l42 => cond (!(ltI i41 128)) (Option.bind (some ([u8 (IntKind.u8.wrap (IntKind.i64.wrap (Int.tmod i41 128 + 128)))])) (fun l63 => guardO (limB 1 (l42.length + l63.length)) (Option.bind (some (l42 ++ l63)) (fun l66 => r06_AppendUint_L1 q58 (IntKind.i64.wrap (Int.tdiv i41 128)) l66)))) (some ((i41, l42)))
def r06_AppendUint (fuelN : Nat) (a0 : List UInt8) (a1 : Int) : Option (List UInt8) :=
 Option.bind (some (([] : List UInt8))) (fun l1 => guardO (limB 1 (l1.length + a0.length)) (Option.bind (some (l1 ++ a0)) (fun l4 => cond (orB (ltI a1 0) (ltI 4611686018427387904 a1)) (some l4) (Option.bind (α := Int × (List UInt8)) (Option.bind (r06_AppendUint_L1 fuelN a1 l4) (fun o => match o with | (i50, l51) => some ((i50, l51)))) (fun o => match o with | (i35, l36) => Option.bind (some ([u8 (IntKind.u8.wrap i35)])) (fun l68 => guardO (limB 1 (l36.length + l68.length)) (Option.bind (some (l36 ++ l68)) (fun l71 => some l71))))))))
set_option maxHeartbeats 2000000 in
theorem at_r06_AppendUint {fuelN : Nat} {a0 : List UInt8} {a1 : Int} {r : (List UInt8)} (hs : r06_AppendUint fuelN a0 a1 = some r) : CAt Tryz.prog 27 [.cell (sC a0), iV .i64 a1] [] (.ret (.cell (.sl (.r 0) 0 1 r.length))) [(.r 0, .pure (encL r))] := by
 refine at_bound (by kernel_rfl) fun hb => ?_
 have hb1 : LenOk (.sl a0.length (encL a0)) := lkc hb
 refine at_code mixed Tryz.func27 (by kernel_rfl) rfl (by kernel_rfl) rfl fun Q hQ => ?_
 rw [r06_AppendUint] at hs
 revert hs; refine lK fun l1 hx2 hs => ?_
 have hx2n : l1.length = 0 := by rw [hx2]; rfl
 obtain ⟨g3, hs⟩ := guardO_some hs
 have g3 := limB_t g3
 obtain ⟨g3a, g3b⟩ := g3
 revert hs; refine lK fun l4 hx5 hs => ?_
 have hx5n : l4.length = (l1.length + a0.length) := by rw [hx5]; simp
 have hx5e : encL l4 = encL l1 ++ encL a0 := by rw [hx5]; simp
 have F1 := an hx2 (an hx5n hx5e)
 refine goG F1 F1 ?_
 revert hs; refine cS F1 ?_ ?_ <;> intro h6 hs
 ·refine goG F1 F1 ?_
  obtain rfl := sj hs
  refine hQ _ _ (ret2g _ (Gh.ren _ (.o 2 2 0) (.r 0) (by simp) rfl rfl) (by simp [St.frz, St.pur, F1]; rfl) (by first | rfl | (simp [St.frz, St.pur, F1]; done) | (rw [if_pos (by first | omega | (simp; omega))]; simp [St.frz, St.pur, F1]; first | omega | exact List.take_of_length_le (by simp; omega) | skip)) (pv F1))
 ·refine goG2 F1 F1 ?_
  revert hs; refine bK fun o38 e37 hs => ?_
  refine awp_cutK (fun (v : Int × (List UInt8)) (σ : St) => some (v) = some o38 /\ σ.env 1 = iV .i64 v.1 /\ σ.env 5 = .cell (.sl (.l 1) 0 1 v.2.length) /\ σ.hp (.l 1) = some (.pure (encL v.2)) /\ 3 <= σ.gen) (by rfl) (fun Q hK39 hX40 => ?_) (fun v σ3 hp => ?_)
  ·refine goG F1 F1 ?_
   revert e37; refine bK fun o53 e52 e37 => ?_
   refine awp_loopW (fun (v : Nat × Int × (List UInt8)) (σ : St) => r06_AppendUint_L1 v.1 v.2.1 v.2.2 = some o53 /\ σ.env 1 = iV .i64 v.2.1 /\ σ.env 5 = .cell (.sl (.l 4) 0 1 v.2.2.length) /\ σ.hp (.l 4) = some (.pure (encL v.2.2)) /\ 3 <= σ.gen) (fun v => v.1) _ (Gh.ren _ (.o 2 2 0) (.l 4) (by simp) rfl rfl) (fuelN, a1, l4) ⟨e52, pv F1, pv F1, pv F1, pg⟩ fun v σ6 hp L54 hL55 => ?_
   obtain ⟨q57, i41, l42⟩ := v
   dsimp only at hp hL55
   obtain ⟨e52, h5_1, h5_5, g5_0, n5_g⟩ := hp
   rcases q57 with _ | q58
   ·rw [r06_AppendUint_L1] at e52; cases e52
   ·rw [r06_AppendUint_L1] at e52; try dsimp only at e52
    have F2 := an h5_1 (an h5_5 g5_0)
    refine goR F2 ?_
    revert e52; refine cS F2 ?_ ?_ <;> intro h62 e52
    ·revert e52; refine lK fun l63 hx64 e52 => ?_
     have hx64n : l63.length = 1 := by rw [hx64]; rfl
     obtain ⟨g65, e52⟩ := guardO_some e52
     have g65 := limB_t g65
     obtain ⟨g65a, g65b⟩ := g65
     revert e52; refine lK fun l66 hx67 e52 => ?_
     have hx67n : l66.length = (l42.length + l63.length) := by rw [hx67]; simp
     have hx67e : encL l66 = encL l42 ++ encL l63 := by rw [hx67]; simp
     have F3 := an F2 (an hx64 (an hx67n hx67e))
     refine goR F3 ?_
     exact hL55 (q58, IntKind.i64.wrap (Int.tdiv i41 128), l66) _ _ (Gh.ren _ (.o (σ6.gen + 2) 6 0) (.l 4) (by simp) rfl rfl) ⟨e52, pv F3, pv F3, pv F3, pg⟩ (by omega)
    ·refine goR F2 ?_
     obtain rfl := sj e52
     try dsimp only at e37
     exact hK39 (i41, l42) _ _ (Gh.ren _ (.l 4) (.l 1) (by simp) rfl rfl) ⟨e37, pv F2, pv F2, pv F2, pg⟩
  ·obtain ⟨i35, l36⟩ := v
   dsimp only at hp
   obtain ⟨e37, h4_1, h4_5, g4_0, n4_g⟩ := hp
   obtain rfl := sj e37
   try dsimp only at hs
   revert hs; refine lK fun l68 hx69 hs => ?_
   have hx69n : l68.length = 1 := by rw [hx69]; rfl
   obtain ⟨g70, hs⟩ := guardO_some hs
   have g70 := limB_t g70
   obtain ⟨g70a, g70b⟩ := g70
   revert hs; refine lK fun l71 hx72 hs => ?_
   have hx72n : l71.length = (l36.length + l68.length) := by rw [hx72]; simp
   have hx72e : encL l71 = encL l36 ++ encL l68 := by rw [hx72]; simp
   have F4 := an h4_1 (an h4_5 (an g4_0 (an hx69 (an hx72n hx72e))))
   refine goG F4 F4 ?_
   obtain rfl := sj hs
   refine hQ _ _ (ret2g _ (Gh.ren _ (.o (σ3.gen + 1) 4 0) (.r 0) (by simp) rfl rfl) (by simp [St.frz, St.pur, F4]; rfl) (by first | rfl | (simp [St.frz, St.pur, F4]; done) | (rw [if_pos (by first | omega | (simp; omega))]; simp [St.frz, St.pur, F4]; first | omega | exact List.take_of_length_le (by simp; omega) | skip)) (pv F4))
end Go.Dc
end
section
set_option linter.all false
namespace Go.Dc
open Go Go.Hw Go.Proofs
set_option maxRecDepth 100000
def r06_fits (a0 : Int) : Option Bool :=
 some (andB (!(ltI a0 (-2305843009213693952))) (!(ltI 2305843009213693952 a0)))
set_option maxHeartbeats 2000000 in
theorem at_r06_fits {a0 : Int} {r : Bool} (hs : r06_fits a0 = some r) : At Tryz.prog 58 [iV .i64 a0] (bV r) := by
 refine at_bound (by kernel_rfl) fun hb => ?_
 refine at_code mixed Tryz.func58 (by kernel_rfl) rfl (by kernel_rfl) rfl fun Q hQ => ?_
 rw [r06_fits] at hs
 refine goG f0 f0 ?_
 obtain rfl := sj hs
 exact hQ _ _ (rg f0 (Gh.refl _))
end Go.Dc
end
section
set_option linter.all false
namespace Go.Dc
open Go Go.Hw Go.Proofs
set_option maxRecDepth 100000
def r06_AppendInt (fuelN : Nat) (a0 : List UInt8) (a1 : Int) : Option (List UInt8) :=
 Option.bind (r06_fits a1) (fun y1 => cond (!y1) (Option.bind (some (([] : List UInt8))) (fun l4 => guardO (limB 1 (l4.length + a0.length)) (Option.bind (some (l4 ++ a0)) (fun l7 => some l7)))) (cond (ltI a1 0) (Option.bind (r06_AppendUint fuelN a0 (IntKind.i64.wrap (IntKind.i64.wrap ((-2) * a1) - 1))) (fun y10 => some y10)) (Option.bind (r06_AppendUint fuelN a0 (IntKind.i64.wrap (2 * a1))) (fun y12 => some y12))))
set_option maxHeartbeats 2000000 in
theorem at_r06_AppendInt {fuelN : Nat} {a0 : List UInt8} {a1 : Int} {r : (List UInt8)} (hs : r06_AppendInt fuelN a0 a1 = some r) : CAt Tryz.prog 28 [.cell (sC a0), iV .i64 a1] [] (.ret (.cell (.sl (.r 0) 0 1 r.length))) [(.r 0, .pure (encL r))] := by
 refine at_bound (by kernel_rfl) fun hb => ?_
 have hb1 : LenOk (.sl a0.length (encL a0)) := lkc hb
 refine at_code mixed Tryz.func28 (by kernel_rfl) rfl (by kernel_rfl) rfl fun Q hQ => ?_
 rw [r06_AppendInt] at hs
 refine goR f0 ?_
 revert hs; refine bK fun y1 hx2 hs => ?_
 refine cP f0 (at_r06_fits hx2) ?_
 refine goR f0 ?_
 revert hs; refine cS f0 ?_ ?_ <;> intro h3 hs
 ·revert hs; refine lK fun l4 hx5 hs => ?_
  have hx5n : l4.length = 0 := by rw [hx5]; rfl
  obtain ⟨g6, hs⟩ := guardO_some hs
  have g6 := limB_t g6
  obtain ⟨g6a, g6b⟩ := g6
  revert hs; refine lK fun l7 hx8 hs => ?_
  have hx8n : l7.length = (l4.length + a0.length) := by rw [hx8]; simp
  have hx8e : encL l7 = encL l4 ++ encL a0 := by rw [hx8]; simp
  have F1 := an hx5 (an hx8n hx8e)
  refine goR F1 ?_
  obtain rfl := sj hs
  refine hQ _ _ (ret2g _ (Gh.ren _ (.o 3 2 0) (.r 0) (by simp) rfl rfl) (by simp [St.frz, St.pur, F1]; rfl) (by first | rfl | (simp [St.frz, St.pur, F1]; done) | (rw [if_pos (by first | omega | (simp; omega))]; simp [St.frz, St.pur, F1]; first | omega | exact List.take_of_length_le (by simp; omega) | skip)) (pv F1))
 ·refine goR f0 ?_
  revert hs; refine cS f0 ?_ ?_ <;> intro h9 hs
  ·refine goR f0 ?_
   revert hs; refine bK fun y10 hx11 hs => ?_
   refine cA f0 (at_r06_AppendUint hx11) ?_
   refine goR f0 ?_
   obtain rfl := sj hs
   refine hQ _ _ (ret2g _ (Gh.ren _ (.o 4 4 0) (.r 0) (by simp) rfl rfl) (by simp [St.frz, St.pur]; rfl) (by first | rfl | (simp [St.frz, St.pur]; done) | (rw [if_pos (by first | omega | (simp; omega))]; simp [St.frz, St.pur]; first | omega | exact List.take_of_length_le (by simp; omega) | skip)) (pv f0))
  ·refine goR f0 ?_
   revert hs; refine bK fun y12 hx13 hs => ?_
   refine cA f0 (at_r06_AppendUint hx13) ?_
   refine goR f0 ?_
   obtain rfl := sj hs
   refine hQ _ _ (ret2g _ (Gh.ren _ (.o 4 3 0) (.r 0) (by simp) rfl rfl) (by simp [St.frz, St.pur]; rfl) (by first | rfl | (simp [St.frz, St.pur]; done) | (rw [if_pos (by first | omega | (simp; omega))]; simp [St.frz, St.pur]; first | omega | exact List.take_of_length_le (by simp; omega) | skip)) (pv f0))
end Go.Dc
end
section
set_option linter.all false
namespace Go.Dc
open Go Go.Hw Go.Proofs
set_option maxRecDepth 100000
def frame_AppendString (fuelN : Nat) (a0 : List UInt8) (a1 : ByteArray) : Option (List UInt8) :=
 Option.bind (frame_uintBytes fuelN ((a1.size : Nat) : Int)) (fun y1 => guardO (strB3 a1) (Option.bind (some ([a0, y1, a1.data.toList])) (fun l4 => Option.bind (frame_join l4) (fun y6 => some y6))))
set_option maxHeartbeats 2000000 in
theorem at_frame_AppendString {fuelN : Nat} {a0 : List UInt8} {a1 : ByteArray} {r : (List UInt8)} (hs : frame_AppendString fuelN a0 a1 = some r) : CAt Tryz.prog 85 [.cell (sC a0), sV a1] [] (.ret (.cell (.sl (.r 0) 0 1 r.length))) [(.r 0, .pure (encL r))] := by
 refine at_bound (by kernel_rfl) fun hb => ?_
 have hb1 : LenOk (.sl a0.length (encL a0)) := lkc hb
 refine at_code mixed Tryz.func85 (by kernel_rfl) rfl (by kernel_rfl) rfl fun Q hQ => ?_
 rw [frame_AppendString] at hs
 refine goR f0 ?_
 revert hs; refine bK fun y1 hx2 hs => ?_
 refine cP f0 (at_frame_uintBytes hx2) ?_
 obtain ⟨g3, hs⟩ := guardO_some hs
 have g3b := strB3_t g3
 revert hs; refine lK fun l4 hx5 hs => ?_
 have hx5n : l4.length = 3 := by rw [hx5]; rfl
 have F1 := an g3b hx5
 refine goR F1 ?_
 revert hs; refine bK fun y6 hx7 hs => ?_
 refine cA F1 (at_frame_join hx7) ?_
 refine goR F1 ?_
 obtain rfl := sj hs
 refine hQ _ _ (ret2g _ (Gh.ren _ (.o 2 7 0) (.r 0) (by simp) rfl rfl) (by simp [St.frz, St.pur, F1]; rfl) (by first | rfl | (simp [St.frz, St.pur, F1]; done) | (rw [if_pos (by first | omega | (simp; omega))]; simp [St.frz, St.pur, F1]; first | omega | exact List.take_of_length_le (by simp; omega) | skip)) (pv F1))
end Go.Dc
end
section
set_option linter.all false
namespace Go.Dc
open Go Go.Hw Go.Proofs
set_option maxRecDepth 100000
def r06_AppendString (fuelN : Nat) (a0 : List UInt8) (a1 : ByteArray) : Option (List UInt8) :=
 Option.bind (r06_AppendUint fuelN a0 ((a1.size : Nat) : Int)) (fun y1 => guardO (limB 1 (y1.length + a1.size)) (Option.bind (some (y1 ++ a1.data.toList)) (fun l4 => some l4)))
set_option maxHeartbeats 2000000 in
theorem at_r06_AppendString {fuelN : Nat} {a0 : List UInt8} {a1 : ByteArray} {r : (List UInt8)} (hs : r06_AppendString fuelN a0 a1 = some r) : CAt Tryz.prog 46 [.cell (sC a0), sV a1] [] (.ret (.cell (.sl (.r 0) 0 1 r.length))) [(.r 0, .pure (encL r))] := by
 refine at_bound (by kernel_rfl) fun hb => ?_
 have hb1 : LenOk (.sl a0.length (encL a0)) := lkc hb
 refine at_code mixed Tryz.func46 (by kernel_rfl) rfl (by kernel_rfl) rfl fun Q hQ => ?_
 rw [r06_AppendString] at hs
 refine goR f0 ?_
 revert hs; refine bK fun y1 hx2 hs => ?_
 refine cA f0 (at_r06_AppendUint hx2) ?_
 obtain ⟨g3, hs⟩ := guardO_some hs
 have g3 := limB_t g3
 obtain ⟨g3a, g3b⟩ := g3
 revert hs; refine lK fun l4 hx5 hs => ?_
 have hx5n : l4.length = (y1.length + a1.size) := by rw [hx5]; simp
 have hx5e : encL l4 = encL y1 ++ encL a1.data.toList := by rw [hx5]; simp
 have F1 := an hx5n hx5e
 refine goR F1 ?_
 obtain rfl := sj hs
 refine hQ _ _ (ret2g _ (Gh.ren _ (.o 2 5 0) (.r 0) (by simp) rfl rfl) (by simp [St.frz, St.pur, F1]; rfl) (by first | rfl | (simp [St.frz, St.pur, F1]; done) | (rw [if_pos (by first | omega | (simp; omega))]; simp [St.frz, St.pur, F1]; first | omega | exact List.take_of_length_le (by simp; omega) | skip)) (pv F1))
end Go.Dc
end
section
set_option linter.all false
namespace Go.Dc.Pl
open Go Go.Hw Go.Dc
def byteN (n : Nat) : UInt8 := UInt8.ofNat n
theorem byteN_toNat (n : Nat) : (byteN n).toNat = n % 256 := by simp [byteN]
theorem wrap_u8_nat (n : Nat) : IntKind.wrap .u8 (n : Int) = ((byteN n).toNat : Int) := by
 simp [byteN, IntKind.wrap, IntKind.bits, IntKind.signed]
theorem u8_nat (n : Nat) : u8 (IntKind.u8.wrap (n : Int)) = byteN n := by
 rw [wrap_u8_nat, u8, Int.toNat_natCast]; simp
theorem tmod_nat (a b : Nat) : (a : Int).tmod (b : Int) = ((a % b : Nat) : Int) := by rw [Int.tmod_eq_emod_of_nonneg (by omega)]; simp
theorem tdiv_nat (a b : Nat) : (a : Int).tdiv (b : Int) = ((a / b : Nat) : Int) := by rw [Int.tdiv_eq_ediv_of_nonneg (by omega)]; simp
def uintB (n : Nat) : List UInt8 := if n < 128 then [byteN n] else byteN (n % 128 + 128) :: uintB (n / 128)
termination_by n
decreasing_by omega
theorem uintB_lt {n : Nat} (h : n < 128) : uintB n = [byteN n] := by rw [uintB, if_pos h]
theorem uintB_ge {n : Nat} (h : 128 <= n) : uintB n = byteN (n % 128 + 128) :: uintB (n / 128) := by rw [uintB, if_neg (by omega)]
theorem uintB_length : ∀ k n : Nat, n < 128 ^ (k + 1) -> (uintB n).length <= k + 1
 | 0, n, h => by rw [uintB_lt (by simpa using h)]; simp
 | k + 1, n, h => by
  by_cases hn : n < 128
  ·rw [uintB_lt hn]; simp
  ·rw [uintB_ge (by omega)]
   have := uintB_length k (n / 128) (by rw [Nat.pow_succ] at h; omega)
   simp; omega
theorem uintB_le9 {n : Nat} (h : n <= 4611686018427387904) : (uintB n).length <= 9 := uintB_length 8 n (by omega)
theorem lim1 {n : Nat} (h : n <= 1099511627776) : limB 1 n = true := by simp only [limB, decide_eq_true_eq]; omega
theorem uintLoop {L : Nat -> Int -> List UInt8 -> Option (Int × List UInt8)}
  (h : ∀ q i l, L (q + 1) i l = cond (!(ltI i 128)) (guardO (limB 1 (l.length + 1)) (L q (IntKind.i64.wrap (Int.tdiv i 128)) (l ++ [u8 (IntKind.u8.wrap (IntKind.i64.wrap (Int.tmod i 128 + 128)))]))) (some (i, l))) :
  ∀ (k q n : Nat) (l : List UInt8), n < 128 ^ (k + 1) -> k < q -> n < 9223372036854775808 -> l.length + (uintB n).length <= 1099511627776 ->
   ∃ (m : Nat) (r : List UInt8), L q (n : Int) l = some ((m : Int), r) /\ r ++ [byteN m] = l ++ uintB n := by
 intro k
 induction k with
 | zero =>
  intro q n l hn hq hb hl
  obtain ⟨q, rfl⟩ : ∃ q', q = q' + 1 := ⟨q - 1, by omega⟩
  refine ⟨n, l, ?_, by rw [uintB_lt (by simpa using hn)]⟩
  rw [h, ltI_d, decide_eq_true (by simp at hn; omega)]; rfl
 | succ k ih =>
  intro q n l hn hq hb hl
  obtain ⟨q, rfl⟩ : ∃ q', q = q' + 1 := ⟨q - 1, by omega⟩
  by_cases h1 : n < 128
  ·refine ⟨n, l, ?_, by rw [uintB_lt h1]⟩
   rw [h, ltI_d, decide_eq_true (by omega)]; rfl
  ·have e1 : IntKind.i64.wrap (Int.tdiv (n : Int) 128) = ((n / 128 : Nat) : Int) := by
    rw [show (128 : Int) = ((128 : Nat) : Int) from rfl, tdiv_nat, wrap_i64 (by omega) (by omega)]
   have e2 : u8 (IntKind.u8.wrap (IntKind.i64.wrap (Int.tmod (n : Int) 128 + 128))) = byteN (n % 128 + 128) := by
    rw [show (128 : Int) = ((128 : Nat) : Int) from rfl, tmod_nat, <- Int.natCast_add, wrap_i64 (by omega) (by omega), u8_nat]
   have hu := uintB_ge (by omega : 128 <= n)
   rw [hu, List.length_cons] at hl
   obtain ⟨m, r, g1, g2⟩ := ih q (n / 128) (l ++ [byteN (n % 128 + 128)]) (by rw [Nat.pow_succ] at hn; omega) (by omega) (by omega) (by simp; omega)
   refine ⟨m, r, ?_, by rw [g2, hu]; simp⟩
   rw [h, ltI_d, decide_eq_false (by omega), e1, e2]
   show guardO _ _ = _
   rw [lim1 (by omega)]; exact g1
theorem own_L1 (q : Nat) (i : Int) (l : List UInt8) : frame_uintBytes_L1 (q + 1) i l = cond (!(ltI i 128)) (guardO (limB 1 (l.length + 1)) (frame_uintBytes_L1 q (IntKind.i64.wrap (Int.tdiv i 128)) (l ++ [u8 (IntKind.u8.wrap (IntKind.i64.wrap (Int.tmod i 128 + 128)))]))) (some (i, l)) := rfl
theorem ref_L1 (q : Nat) (i : Int) (l : List UInt8) : r06_AppendUint_L1 (q + 1) i l = cond (!(ltI i 128)) (guardO (limB 1 (l.length + 1)) (r06_AppendUint_L1 q (IntKind.i64.wrap (Int.tdiv i 128)) (l ++ [u8 (IntKind.u8.wrap (IntKind.i64.wrap (Int.tmod i 128 + 128)))]))) (some (i, l)) := rfl
theorem own_uintB {f n : Nat} (hn : n <= 4611686018427387904) (hf : 9 <= f) : frame_uintBytes f (n : Int) = some (uintB n) := by
 have h9 := uintB_le9 hn
 obtain ⟨m, r, h1, h2⟩ := uintLoop own_L1 8 f n [] (by omega) (by omega) (by omega) (by simp; omega)
 unfold frame_uintBytes
 rw [h1]
 show guardO (limB 1 (r.length + 1)) (some (r ++ [u8 (IntKind.u8.wrap (m : Int))])) = _
 rw [u8_nat, h2]
 have : r.length + 1 = (uintB n).length := by have := congrArg List.length h2; simpa using this
 rw [lim1 (by omega)]; rfl
/-- Appending an integer that is not negative. -/
def appU (b : List UInt8) (n : Int) : List UInt8 := if n < 0 \/ 4611686018427387904 < n then b else b ++ uintB n.toNat
theorem join_eq : ∀ (l : List (List UInt8)) (b : List UInt8) (k : Nat), (b ++ l.flatten).length <= 1099511627776 -> frame_join_L1 l b k = some (b ++ l.flatten)
 | [], b, k, _ => by simp [frame_join_L1]
 | x :: l, b, k, h => by
  simp only [List.flatten_cons, List.length_append] at h
  rw [frame_join_L1, lim1 (by omega)]
  show frame_join_L1 l (b ++ x) (k + 1) = _
  rw [join_eq l (b ++ x) (k + 1) (by simp only [List.length_append]; omega)]; simp
theorem own_join {l : List (List UInt8)} (h : l.flatten.length <= 1099511627776) : frame_join l = some l.flatten := by
 unfold frame_join; rw [join_eq l [] 0 (by simpa using h)]; rfl
theorem own_appU {f : Nat} {b : List UInt8} {n : Int} (hf : 9 <= f) (hb : b.length + 9 <= 1099511627776) : frame_AppendUint f b n = some (appU b n) := by
 unfold frame_AppendUint appU
 rw [orB_d, ltI_d, ltI_d, <- Bool.decide_or]
 by_cases h : n < 0 \/ 4611686018427387904 < n
 ·rw [if_pos h, decide_eq_true h]
  show Option.bind (frame_join [b]) some = _
  rw [own_join (by simp; omega)]; simp
 ·rw [if_neg h, decide_eq_false h]
  obtain ⟨k, rfl⟩ : ∃ k : Nat, n = k := ⟨n.toNat, by omega⟩
  have h9 := uintB_le9 (n := k) (by omega)
  show Option.bind (frame_uintBytes f k) _ = _
  rw [own_uintB (by omega) hf]
  show Option.bind (frame_join [b, uintB k]) some = _
  rw [own_join (by simp; omega)]; simp
theorem ref_appU {f : Nat} {b : List UInt8} {n : Int} (hf : 9 <= f) (hb : b.length + 9 <= 1099511627776) : r06_AppendUint f b n = some (appU b n) := by
 unfold r06_AppendUint appU
 rw [orB_d, ltI_d, ltI_d, <- Bool.decide_or]
 show guardO (limB 1 (([] : List UInt8).length + b.length)) _ = _
 rw [lim1 (by simp; omega)]
 by_cases h : n < 0 \/ 4611686018427387904 < n
 ·rw [if_pos h, decide_eq_true h]; rfl
 ·rw [if_neg h, decide_eq_false h]
  obtain ⟨k, rfl⟩ : ∃ k : Nat, n = k := ⟨n.toNat, by omega⟩
  have h9 := uintB_le9 (n := k) (by omega)
  obtain ⟨m, r, h1, h2⟩ := uintLoop ref_L1 8 f k b (by omega) (by omega) (by omega) (by omega)
  simp only [guardO_t, Option.bind_some, cond_false, List.nil_append, h1]
  rw [show ([u8 (IntKind.u8.wrap (m : Int))] : List UInt8).length = 1 from rfl, u8_nat, h2]
  have : r.length + 1 = b.length + (uintB k).length := by have := congrArg List.length h2; simpa using this
  rw [lim1 (by omega)]; simp
/-! Signed integers. -/
def inR (n : Int) : Bool := decide (-2305843009213693952 <= n) && decide (n <= 2305843009213693952)
def intCode (n : Int) : Nat := if 0 <= n then (2 * n).toNat else (-2 * n - 1).toNat
theorem inR_t {n : Int} (h : inR n = true) : -2305843009213693952 <= n /\ n <= 2305843009213693952 := by simpa [inR] using h
theorem intCode_le {n : Int} (h : inR n = true) : intCode n <= 4611686018427387904 := by
 have := inR_t h; unfold intCode; split <;> omega
theorem ltI_not {a b : Int} : (!ltI a b) = decide (b <= a) := by
 rw [ltI_d]; by_cases h : a < b
 ·rw [decide_eq_true h, decide_eq_false (by omega)]; rfl
 ·rw [decide_eq_false h, decide_eq_true (by omega)]; rfl
theorem own_inR (n : Int) : frame_inRange n = some (inR n) := by unfold frame_inRange inR; rw [ltI_not, ltI_not, andB_d]
theorem ref_inR (n : Int) : r06_fits n = some (inR n) := by unfold r06_fits inR; rw [ltI_not, ltI_not, andB_d]
theorem own_intB {f : Nat} {n : Int} (h : inR n = true) (hf : 9 <= f) : frame_intBytes f n = some (uintB (intCode n)) := by
 have hr := inR_t h; have hc := intCode_le h
 unfold frame_intBytes
 rw [ltI_not]
 by_cases h0 : 0 <= n
 ·rw [decide_eq_true h0, wrap_i64 (by omega) (by omega), show 2 * n = ((intCode n : Nat) : Int) by unfold intCode; rw [if_pos h0]; omega]
  show Option.bind (frame_uintBytes f (intCode n : Int)) some = _
  rw [own_uintB hc hf]; rfl
 ·rw [decide_eq_false h0]
  show Option.bind (frame_uintBytes f (IntKind.i64.wrap (IntKind.i64.wrap (-2 * n) - 1))) some = _
  rw [wrap_i64 (n := -2 * n) (by omega) (by omega), wrap_i64 (by omega) (by omega), show -2 * n - 1 = ((intCode n : Nat) : Int) by unfold intCode; rw [if_neg h0]; omega, own_uintB hc hf]; rfl
def appI (b : List UInt8) (n : Int) : List UInt8 := if inR n then b ++ uintB (intCode n) else b
theorem own_appI {f : Nat} {b : List UInt8} {n : Int} (hf : 9 <= f) (hb : b.length + 9 <= 1099511627776) : frame_AppendInt f b n = some (appI b n) := by
 unfold frame_AppendInt appI
 rw [own_inR]
 show cond (!inR n) _ _ = _
 cases h : inR n
 ·show Option.bind (frame_join [b]) some = _
  rw [own_join (by simp; omega)]; simp
 ·have h9 := uintB_le9 (intCode_le h)
  show Option.bind (frame_intBytes f n) _ = _
  rw [own_intB h hf]
  show Option.bind (frame_join [b, uintB (intCode n)]) some = _
  rw [own_join (by simp; omega)]; simp
theorem appU_code {b : List UInt8} {n : Int} (h : inR n = true) : appU b ((intCode n : Nat) : Int) = b ++ uintB (intCode n) := by
 have := intCode_le h; unfold appU; rw [if_neg (by omega)]; simp
theorem ref_appI {f : Nat} {b : List UInt8} {n : Int} (hf : 9 <= f) (hb : b.length + 9 <= 1099511627776) : r06_AppendInt f b n = some (appI b n) := by
 unfold r06_AppendInt appI
 rw [ref_inR]
 show cond (!inR n) _ _ = _
 cases h : inR n
 ·show guardO (limB 1 (([] : List UInt8).length + b.length)) _ = _
  rw [lim1 (by simp; omega)]; rfl
 ·have hr := inR_t h
  show cond (ltI n 0) _ _ = _
  rw [ltI_d]
  by_cases h0 : n < 0
  ·rw [decide_eq_true h0]
   show Option.bind (r06_AppendUint f b (IntKind.i64.wrap (IntKind.i64.wrap (-2 * n) - 1))) some = _
   rw [wrap_i64 (n := -2 * n) (by omega) (by omega), wrap_i64 (by omega) (by omega), show -2 * n - 1 = ((intCode n : Nat) : Int) by unfold intCode; rw [if_neg (by omega)]; omega, ref_appU hf hb, appU_code h]; rfl
  ·rw [decide_eq_false h0]
   show Option.bind (r06_AppendUint f b (IntKind.i64.wrap (2 * n))) some = _
   rw [wrap_i64 (by omega) (by omega), show 2 * n = ((intCode n : Nat) : Int) by unfold intCode; rw [if_pos (by omega)]; omega, ref_appU hf hb, appU_code h]; rfl
/-! Strings. -/
def appS (b : List UInt8) (s : ByteArray) : List UInt8 := b ++ uintB s.size ++ s.data.toList
theorem own_appS {f : Nat} {b : List UInt8} {s : ByteArray} (hf : 9 <= f) (hs : s.size <= 1000000000) (hb : b.length <= 1000000000) : frame_AppendString f b s = some (appS b s) := by
 unfold frame_AppendString appS
 have h9 := uintB_le9 (n := s.size) (by omega)
 have hl := str_len s
 rw [own_uintB (by omega) hf]
 show guardO (strB3 s) (Option.bind (frame_join [b, uintB s.size, s.data.toList]) some) = _
 rw [show strB3 s = true by simp [strB3]; omega, own_join (by simp; omega)]; simp
theorem ref_appS {f : Nat} {b : List UInt8} {s : ByteArray} (hf : 9 <= f) (hs : s.size <= 1000000000) (hb : b.length <= 1000000000) : r06_AppendString f b s = some (appS b s) := by
 unfold r06_AppendString appS
 have h9 := uintB_le9 (n := s.size) (by omega)
 rw [ref_appU hf (by omega)]
 have e : appU b ((s.size : Nat) : Int) = b ++ uintB s.size := by unfold appU; rw [if_neg (by omega)]; simp
 rw [e]
 show guardO (limB 1 ((b ++ uintB s.size).length + s.size)) _ = _
 rw [lim1 (by simp; omega)]; rfl
end Go.Dc.Pl
end
section
set_option linter.all false
namespace Go.Dc
open Go Go.Hw Go.Proofs
set_option maxRecDepth 100000
def frame_Checksum_L2 : Nat -> Int -> Int -> Option Int
 | 0, _, _ => none
 | q547 + 1, i535, i536 => cond (ltI i536 8) (cond (eqI (bits .and .u32 i535 1) 1) (frame_Checksum_L2 q547 (bits .xor .u32 (shrI .u32 i535 1) 3988292384) (IntKind.i64.wrap (i536 + 1))) (frame_Checksum_L2 q547 (shrI .u32 i535 1) (IntKind.i64.wrap (i536 + 1)))) (some (i535))
def frame_Checksum_L1 (fuelN : Nat) (a0 : List UInt8) : Nat -> Int -> Int -> Option Int
 | 0, _, _ => none
 | q491 + 1, i416, i417 => cond (ltI i417 ((a0.length : Nat) : Int)) (Option.bind (α := Int) (Option.bind (getI a0 i417) (fun x527 => Option.bind (frame_Checksum_L2 fuelN (bits .xor .u32 i416 (IntKind.u32.wrap (x527.toNat : Int))) 0) (fun i540 => some (i540)))) (fun i522 => frame_Checksum_L1 fuelN a0 q491 i522 (IntKind.i64.wrap (i417 + 1)))) (some (i416))
def frame_Checksum (fuelN : Nat) (a0 : List UInt8) : Option Int :=
 Option.bind (α := Int) (Option.bind (frame_Checksum_L1 fuelN a0 fuelN 4294967295 0) (fun i484 => some (i484))) (fun i275 => some (bits .xor .u32 4294967295 i275))
set_option maxHeartbeats 2000000 in
theorem at_frame_Checksum {fuelN : Nat} {a0 : List UInt8} {r : Int} (hs : frame_Checksum fuelN a0 = some r) : At Tryz.prog 52 [.cell (sC a0)] (iV .u32 r) := by
 refine at_bound (by kernel_rfl) fun hb => ?_
 have hb1 : LenOk (.sl a0.length (encL a0)) := lkc hb
 refine at_code mixed Tryz.func52 (by kernel_rfl) rfl (by kernel_rfl) rfl fun Q hQ => ?_
 rw [frame_Checksum] at hs
 refine goR2 f0 ?_
 revert hs; refine bK fun o277 e276 hs => ?_
 refine awp_cutK (fun (v : Int) (σ : St) => some (v) = some o277 /\ σ.env 3 = iV .u32 v /\ 3 <= σ.gen) (by rfl) (fun Q hK278 hX279 => ?_) (fun i275 σ27 hp => ?_)
 ·refine goR f0 ?_
  revert e276; refine bK fun o486 e485 e276 => ?_
  refine awp_loopW (fun (v : Nat × Int × Int) (σ : St) => frame_Checksum_L1 fuelN a0 v.1 v.2.1 v.2.2 = some o486 /\ σ.env 3 = iV .u32 v.2.1 /\ σ.env 7 = .cell (sC a0) /\ σ.env 8 = iV .i64 ((a0.length : Nat) : Int) /\ σ.env 9 = iV .i64 v.2.2 /\ 3 <= σ.gen) (fun v => v.1) _ (Gh.refl _) (fuelN, 4294967295, 0) ⟨e485, pv f0, pv f0, pv f0, pv f0, pg⟩ fun v σ48 hp L487 hL488 => ?_
  obtain ⟨q490, i416, i417⟩ := v
  dsimp only at hp hL488
  obtain ⟨e485, h47_3, h47_7, h47_8, h47_9, n47_g⟩ := hp
  rcases q490 with _ | q491
  ·rw [frame_Checksum_L1] at e485; cases e485
  ·rw [frame_Checksum_L1] at e485; try dsimp only at e485
   have F1 := an h47_3 (an h47_7 (an h47_8 h47_9))
   refine goR F1 ?_
   revert e485; refine cS F1 ?_ ?_ <;> intro h495 e485
   ·refine goR2 F1 ?_
    revert e485; refine bK fun o524 e523 e485 => ?_
    refine awp_cutK (fun (v : Int) (σ : St) => some (v) = some o524 /\ σ.env 3 = iV .u32 v /\ σ.env 7 = .cell (sC a0) /\ σ.env 8 = iV .i64 ((a0.length : Nat) : Int) /\ σ.env 9 = iV .i64 i417 /\ (σ48.gen + 1) <= σ.gen) (by rfl) (fun Q hK525 hX526 => ?_) (fun i522 σ51 hp => ?_)
    ·revert e523; refine bK fun x527 hx528 e523 => ?_
     obtain ⟨hx528a, hx528b, hx528c, hx528d⟩ := getI_some hx528
     have f529 : partCV Tryz.prog 5 (encL a0) ((i417).toNat) = some (iV .u8 (x527.toNat : Int)) := partCV_enc1 hx528d (by simp)
     have F2 := an F1 f529
     refine goR F2 ?_
     revert e523; refine bK fun o542 e541 e523 => ?_
     refine awp_loopW (fun (v : Nat × Int × Int) (σ : St) => frame_Checksum_L2 v.1 v.2.1 v.2.2 = some o542 /\ σ.env 3 = iV .u32 v.2.1 /\ σ.env 7 = .cell (sC a0) /\ σ.env 8 = iV .i64 ((a0.length : Nat) : Int) /\ σ.env 9 = iV .i64 i417 /\ σ.env 17 = iV .i64 v.2.2 /\ (σ48.gen + 4) <= σ.gen) (fun v => v.1) _ (Gh.refl _) (fuelN, bits .xor .u32 i416 (IntKind.u32.wrap (x527.toNat : Int)), 0) ⟨e541, pv F2, pv F2, pv F2, pv F2, pv F2, pg⟩ fun v σ54 hp L543 hL544 => ?_
     obtain ⟨q546, i535, i536⟩ := v
     dsimp only at hp hL544
     obtain ⟨e541, h53_3, h53_7, h53_8, h53_9, h53_17, n53_g⟩ := hp
     rcases q546 with _ | q547
     ·rw [frame_Checksum_L2] at e541; cases e541
     ·rw [frame_Checksum_L2] at e541; try dsimp only at e541
      have F3 := an h53_3 (an h53_7 (an h53_8 (an h53_9 (an h53_17 f529))))
      refine goR F3 ?_
      revert e541; refine cS F3 ?_ ?_ <;> intro h551 e541
      ·refine goR F3 ?_
       revert e541; refine cS F3 ?_ ?_ <;> intro h552 e541
       ·refine goR F3 ?_
        exact hL544 (q547, bits .xor .u32 (shrI .u32 i535 1) 3988292384, IntKind.i64.wrap (i536 + 1)) _ _ (Gh.refl _) ⟨e541, pv F3, pv F3, pv F3, pv F3, pv F3, pg⟩ (by omega)
       ·refine goR F3 ?_
        exact hL544 (q547, shrI .u32 i535 1, IntKind.i64.wrap (i536 + 1)) _ _ (Gh.refl _) ⟨e541, pv F3, pv F3, pv F3, pv F3, pv F3, pg⟩ (by omega)
      ·refine goR F3 ?_
       obtain rfl := sj e541
       try dsimp only at e523
       exact hK525 i535 _ _ (Gh.refl _) ⟨e523, pv F3, pv F3, pv F3, pv F3, pg⟩
    ·obtain ⟨e523, h52_3, h52_7, h52_8, h52_9, n52_g⟩ := hp
     obtain rfl := sj e523
     try dsimp only at e485
     have F4 := an h52_3 (an h52_7 (an h52_8 h52_9))
     refine goR F4 ?_
     exact hL488 (q491, i522, IntKind.i64.wrap (i417 + 1)) _ _ (Gh.refl _) ⟨e485, pv F4, pv F4, pv F4, pv F4, pg⟩ (by omega)
   ·refine goR F1 ?_
    obtain rfl := sj e485
    try dsimp only at e276
    exact hK278 i416 _ _ (Gh.refl _) ⟨e276, pv F1, pg⟩
 ·obtain ⟨e276, h28_3, n28_g⟩ := hp
  obtain rfl := sj e276
  try dsimp only at hs
  refine goR h28_3 ?_
  obtain rfl := sj hs
  exact hQ _ _ (rg h28_3 (Gh.refl _))
end Go.Dc
end
section
set_option linter.all false
namespace Go.Dc
open Go Go.Hw Go.Proofs
set_option maxRecDepth 100000
def r06_Checksum_L2 : Nat -> Int -> Int -> Option Int
 | 0, _, _ => none
 | q547 + 1, i535, i536 => cond (ltI i536 8) (cond (eqI (Int.tmod i535 2) 1) (r06_Checksum_L2 q547 (bits .xor .u32 (IntKind.u32.wrap (Int.tdiv i535 2)) 3988292384) (IntKind.i64.wrap (i536 + 1))) (r06_Checksum_L2 q547 (IntKind.u32.wrap (Int.tdiv i535 2)) (IntKind.i64.wrap (i536 + 1)))) (some (i535))
def r06_Checksum_L1 (fuelN : Nat) (a0 : List UInt8) : Nat -> Int -> Int -> Option Int
 | 0, _, _ => none
 | q491 + 1, i416, i417 => cond (ltI i417 ((a0.length : Nat) : Int)) (Option.bind (α := Int) (Option.bind (getI a0 i417) (fun x527 => Option.bind (r06_Checksum_L2 fuelN (bits .xor .u32 i416 (IntKind.u32.wrap (x527.toNat : Int))) 0) (fun i540 => some (i540)))) (fun i522 => r06_Checksum_L1 fuelN a0 q491 i522 (IntKind.i64.wrap (i417 + 1)))) (some (i416))
def r06_Checksum (fuelN : Nat) (a0 : List UInt8) : Option Int :=
 Option.bind (α := Int) (Option.bind (r06_Checksum_L1 fuelN a0 fuelN 4294967295 0) (fun i484 => some (i484))) (fun i275 => some (bits .xor .u32 i275 4294967295))
set_option maxHeartbeats 2000000 in
theorem at_r06_Checksum {fuelN : Nat} {a0 : List UInt8} {r : Int} (hs : r06_Checksum fuelN a0 = some r) : At Tryz.prog 48 [.cell (sC a0)] (iV .u32 r) := by
 refine at_bound (by kernel_rfl) fun hb => ?_
 have hb1 : LenOk (.sl a0.length (encL a0)) := lkc hb
 refine at_code mixed Tryz.func48 (by kernel_rfl) rfl (by kernel_rfl) rfl fun Q hQ => ?_
 rw [r06_Checksum] at hs
 refine goR2 f0 ?_
 revert hs; refine bK fun o277 e276 hs => ?_
 refine awp_cutK (fun (v : Int) (σ : St) => some (v) = some o277 /\ σ.env 3 = iV .u32 v /\ 3 <= σ.gen) (by rfl) (fun Q hK278 hX279 => ?_) (fun i275 σ27 hp => ?_)
 ·refine goR f0 ?_
  revert e276; refine bK fun o486 e485 e276 => ?_
  refine awp_loopW (fun (v : Nat × Int × Int) (σ : St) => r06_Checksum_L1 fuelN a0 v.1 v.2.1 v.2.2 = some o486 /\ σ.env 0 = .cell (sC a0) /\ σ.env 3 = iV .u32 v.2.1 /\ σ.env 4 = iV .i64 v.2.2 /\ 3 <= σ.gen) (fun v => v.1) _ (Gh.refl _) (fuelN, 4294967295, 0) ⟨e485, pv f0, pv f0, pv f0, pg⟩ fun v σ48 hp L487 hL488 => ?_
  obtain ⟨q490, i416, i417⟩ := v
  dsimp only at hp hL488
  obtain ⟨e485, h47_0, h47_3, h47_4, n47_g⟩ := hp
  rcases q490 with _ | q491
  ·rw [r06_Checksum_L1] at e485; cases e485
  ·rw [r06_Checksum_L1] at e485; try dsimp only at e485
   have F1 := an h47_0 (an h47_3 h47_4)
   refine goR F1 ?_
   revert e485; refine cS F1 ?_ ?_ <;> intro h495 e485
   ·refine goR2 F1 ?_
    revert e485; refine bK fun o524 e523 e485 => ?_
    refine awp_cutK (fun (v : Int) (σ : St) => some (v) = some o524 /\ σ.env 0 = .cell (sC a0) /\ σ.env 3 = iV .u32 v /\ σ.env 4 = iV .i64 i417 /\ (σ48.gen + 1) <= σ.gen) (by rfl) (fun Q hK525 hX526 => ?_) (fun i522 σ51 hp => ?_)
    ·revert e523; refine bK fun x527 hx528 e523 => ?_
     obtain ⟨hx528a, hx528b, hx528c, hx528d⟩ := getI_some hx528
     have f529 : partCV Tryz.prog 5 (encL a0) ((i417).toNat) = some (iV .u8 (x527.toNat : Int)) := partCV_enc1 hx528d (by simp)
     have F2 := an F1 f529
     refine goR F2 ?_
     revert e523; refine bK fun o542 e541 e523 => ?_
     refine awp_loopW (fun (v : Nat × Int × Int) (σ : St) => r06_Checksum_L2 v.1 v.2.1 v.2.2 = some o542 /\ σ.env 0 = .cell (sC a0) /\ σ.env 3 = iV .u32 v.2.1 /\ σ.env 4 = iV .i64 i417 /\ σ.env 5 = iV .i64 v.2.2 /\ (σ48.gen + 3) <= σ.gen) (fun v => v.1) _ (Gh.refl _) (fuelN, bits .xor .u32 i416 (IntKind.u32.wrap (x527.toNat : Int)), 0) ⟨e541, pv F2, pv F2, pv F2, pv F2, pg⟩ fun v σ54 hp L543 hL544 => ?_
     obtain ⟨q546, i535, i536⟩ := v
     dsimp only at hp hL544
     obtain ⟨e541, h53_0, h53_3, h53_4, h53_5, n53_g⟩ := hp
     rcases q546 with _ | q547
     ·rw [r06_Checksum_L2] at e541; cases e541
     ·rw [r06_Checksum_L2] at e541; try dsimp only at e541
      have F3 := an h53_0 (an h53_3 (an h53_4 (an h53_5 f529)))
      refine goR F3 ?_
      revert e541; refine cS F3 ?_ ?_ <;> intro h551 e541
      ·refine goR F3 ?_
       revert e541; refine cS F3 ?_ ?_ <;> intro h552 e541
       ·refine goR F3 ?_
        exact hL544 (q547, bits .xor .u32 (IntKind.u32.wrap (Int.tdiv i535 2)) 3988292384, IntKind.i64.wrap (i536 + 1)) _ _ (Gh.refl _) ⟨e541, pv F3, pv F3, pv F3, pv F3, pg⟩ (by omega)
       ·refine goR F3 ?_
        exact hL544 (q547, IntKind.u32.wrap (Int.tdiv i535 2), IntKind.i64.wrap (i536 + 1)) _ _ (Gh.refl _) ⟨e541, pv F3, pv F3, pv F3, pv F3, pg⟩ (by omega)
      ·refine goR F3 ?_
       obtain rfl := sj e541
       try dsimp only at e523
       exact hK525 i535 _ _ (Gh.refl _) ⟨e523, pv F3, pv F3, pv F3, pg⟩
    ·obtain ⟨e523, h52_0, h52_3, h52_4, n52_g⟩ := hp
     obtain rfl := sj e523
     try dsimp only at e485
     have F4 := an h52_0 (an h52_3 h52_4)
     refine goR F4 ?_
     exact hL488 (q491, i522, IntKind.i64.wrap (i417 + 1)) _ _ (Gh.refl _) ⟨e485, pv F4, pv F4, pv F4, pg⟩ (by omega)
   ·refine goR F1 ?_
    obtain rfl := sj e485
    try dsimp only at e276
    exact hK278 i416 _ _ (Gh.refl _) ⟨e276, pv F1, pg⟩
 ·obtain ⟨e276, h28_3, n28_g⟩ := hp
  obtain rfl := sj e276
  try dsimp only at hs
  refine goR h28_3 ?_
  obtain rfl := sj hs
  exact hQ _ _ (rg h28_3 (Gh.refl _))
end Go.Dc
end
section
set_option linter.all false
namespace Go.Dc.Pl
open Go Go.Hw Go.Dc
def crcS (c : Nat) : Nat := if c % 2 = 1 then (c / 2) ^^^ 3988292384 else c / 2
def crcK : Nat -> Nat -> Nat
 | 0, c => c
 | k + 1, c => crcK k (crcS c)
def crcL : List UInt8 -> Nat -> Nat
 | [], c => c
 | b :: l, c => crcL l (crcK 8 (c ^^^ b.toNat))
def crc (l : List UInt8) : Nat := crcL l 4294967295 ^^^ 4294967295
theorem crcS_lt {c : Nat} (h : c < 2 ^ 32) : crcS c < 2 ^ 32 := by
 unfold crcS; split
 ·exact Nat.xor_lt_two_pow (by omega) (by decide)
 ·omega
theorem crcK_lt : ∀ (k : Nat) {c : Nat}, c < 2 ^ 32 -> crcK k c < 2 ^ 32
 | 0, c, h => h
 | k + 1, c, h => crcK_lt k (crcS_lt h)
theorem byte_xor_lt {c : Nat} (b : UInt8) (h : c < 2 ^ 32) : c ^^^ b.toNat < 2 ^ 32 := Nat.xor_lt_two_pow h (Nat.lt_of_lt_of_le b.toNat_lt (by decide))
theorem crcL_lt : ∀ (l : List UInt8) {c : Nat}, c < 2 ^ 32 -> crcL l c < 2 ^ 32
 | [], c, h => h
 | b :: l, c, h => crcL_lt l (crcK_lt 8 (byte_xor_lt b h))
theorem crc_lt (l : List UInt8) : crc l < 2 ^ 32 := Nat.xor_lt_two_pow (crcL_lt l (by decide)) (by decide)
theorem shr_nat {k : IntKind} {a s : Nat} (hs : s <= k.bits) : shrI k (a : Int) (s : Int) = ((a / 2 ^ s : Nat) : Int) := by
 unfold shrI
 rw [Int.toNat_natCast, Nat.min_eq_left hs, Int.fdiv_eq_ediv_of_nonneg _ (by exact Int.le_of_lt (Int.pow_pos (by omega)))]
 simp
theorem wrap_u32_nat (n : Nat) : IntKind.wrap .u32 (n : Int) = ((n % 4294967296 : Nat) : Int) := by rw [IntKind.wrap_u32']; simp
theorem own_step {c : Nat} (h : c < 2 ^ 32) : cond (eqI (bits .and .u32 (c : Int) 1) 1) (bits .xor .u32 (shrI .u32 (c : Int) 1) 3988292384) (shrI .u32 (c : Int) 1) = ((crcS c : Nat) : Int) := by
 have e1 : bits .and .u32 (c : Int) 1 = ((c % 2 : Nat) : Int) := by rw [show (1 : Int) = ((1 : Nat) : Int) from rfl, u32_and_nat _ _ (by omega) (by decide), Nat.and_one_is_mod]
 have e2 : shrI .u32 (c : Int) 1 = ((c / 2 : Nat) : Int) := by rw [show (1 : Int) = ((1 : Nat) : Int) from rfl, shr_nat (by decide)]
 rw [e1, e2, show (3988292384 : Int) = ((3988292384 : Nat) : Int) from rfl, u32_xor_nat _ _ (by omega) (by decide), eqI_d]
 unfold crcS
 by_cases h : c % 2 = 1
 ·rw [if_pos h, decide_eq_true (by omega)]; rfl
 ·rw [if_neg h, decide_eq_false (by omega)]; rfl
theorem ref_step {c : Nat} (h : c < 2 ^ 32) : cond (eqI (Int.tmod (c : Int) 2) 1) (bits .xor .u32 (IntKind.u32.wrap (Int.tdiv (c : Int) 2)) 3988292384) (IntKind.u32.wrap (Int.tdiv (c : Int) 2)) = ((crcS c : Nat) : Int) := by
 have e1 : Int.tmod (c : Int) 2 = ((c % 2 : Nat) : Int) := tmod_nat c 2
 have e2 : IntKind.u32.wrap (Int.tdiv (c : Int) 2) = ((c / 2 : Nat) : Int) := by rw [show (2 : Int) = ((2 : Nat) : Int) from rfl, tdiv_nat, wrap_u32_nat, Nat.mod_eq_of_lt (by omega)]
 rw [e1, e2, show (3988292384 : Int) = ((3988292384 : Nat) : Int) from rfl, u32_xor_nat _ _ (by omega) (by decide), eqI_d]
 unfold crcS
 by_cases h : c % 2 = 1
 ·rw [if_pos h, decide_eq_true (by omega)]; rfl
 ·rw [if_neg h, decide_eq_false (by omega)]; rfl
theorem crcIn {L : Nat -> Int -> Int -> Option Int} (h0 : ∀ q c, L (q + 1) c 8 = some c) (h1 : ∀ (q c i : Nat), c < 2 ^ 32 -> i < 8 -> L (q + 1) (c : Int) (i : Int) = L q ((crcS c : Nat) : Int) ((i + 1 : Nat) : Int)) :
  ∀ (k q c i : Nat), c < 2 ^ 32 -> i + k = 8 -> k < q -> L q (c : Int) (i : Int) = some ((crcK k c : Nat) : Int) := by
 intro k
 induction k with
 | zero =>
  intro q c i hc hi hq
  obtain ⟨q, rfl⟩ : ∃ q', q = q' + 1 := ⟨q - 1, by omega⟩
  obtain rfl : i = 8 := by omega
  exact h0 q c
 | succ k ih =>
  intro q c i hc hi hq
  obtain ⟨q, rfl⟩ : ∃ q', q = q' + 1 := ⟨q - 1, by omega⟩
  rw [h1 q c i hc (by omega), ih q (crcS c) (i + 1) (crcS_lt hc) (by omega) (by omega)]; rfl
theorem crcOut {L : Nat -> Int -> Int -> Option Int} (a : List UInt8) (h0 : ∀ q c, L (q + 1) c ((a.length : Nat) : Int) = some c)
  (h1 : ∀ (q c i : Nat) (x : UInt8), c < 2 ^ 32 -> a[i]? = some x -> L (q + 1) (c : Int) (i : Int) = L q ((crcK 8 (c ^^^ x.toNat) : Nat) : Int) ((i + 1 : Nat) : Int)) :
  ∀ (q i c : Nat), c < 2 ^ 32 -> i <= a.length -> a.length < i + q -> L q (c : Int) (i : Int) = some ((crcL (a.drop i) c : Nat) : Int) := by
 intro q
 induction q with
 | zero => intro i c _ h1 h2; omega
 | succ q ih =>
  intro i c hc hi hq
  rcases Nat.lt_or_ge i a.length with h | h
  ·have hx : a[i]? = some a[i] := List.getElem?_eq_getElem h
   rw [h1 q c i _ hc hx, ih (i + 1) _ (crcK_lt 8 (byte_xor_lt _ hc)) (by omega) (by omega), drop_at hx]; rfl
  ·obtain rfl : i = a.length := by omega
   rw [h0, List.drop_length]; rfl
theorem cond_arg {α β : Type} (f : α -> β) (c : Bool) (x y : α) : cond c (f x) (f y) = f (cond c x y) := by cases c <;> rfl
theorem own_crc {f : Nat} {a : List UInt8} (hf : 9 <= f) (ha : a.length < f) (hb : a.length <= 1000000000000) : frame_Checksum f a = some ((crc a : Nat) : Int) := by
 have hin : ∀ (c : Nat), c < 2 ^ 32 -> frame_Checksum_L2 f (c : Int) 0 = some ((crcK 8 c : Nat) : Int) := fun c hc =>
  crcIn (L := frame_Checksum_L2) (fun q c => rfl) (fun q c i hc hi => by
   rw [frame_Checksum_L2, ltI_d, decide_eq_true (by omega), wrapS (by omega), cond_true, <- own_step hc]
   exact cond_arg (fun x => frame_Checksum_L2 q x ((i + 1 : Nat) : Int)) _ _ _) 8 f c 0 hc rfl (by omega)
 have hout := crcOut (L := frame_Checksum_L1 f a) a (fun q c => by rw [frame_Checksum_L1, ltI_d, decide_eq_false (by omega)]; rfl) (fun q c i x hc hx => by
  have hi := getN_some hx
  have hl := x.toNat_lt
  rw [frame_Checksum_L1, ltI_d, decide_eq_true (by omega), cond_true, getI_nat, hx, wrapS (by omega)]
  simp only [Option.bind_some]
  rw [wrap_u32_nat, Nat.mod_eq_of_lt (by omega), u32_xor_nat _ _ (by omega) (by omega), hin _ (byte_xor_lt x hc)]; rfl) f 0 4294967295 (by decide) (by omega) (by omega)
 unfold frame_Checksum
 rw [show (4294967295 : Int) = ((4294967295 : Nat) : Int) from rfl, show (0 : Int) = ((0 : Nat) : Int) from rfl, hout]
 show some (bits .xor .u32 _ _) = _
 rw [u32_xor_nat _ _ (by decide) (crcL_lt _ (by decide)), Nat.xor_comm]; rfl
theorem ref_crc {f : Nat} {a : List UInt8} (hf : 9 <= f) (ha : a.length < f) (hb : a.length <= 1000000000000) : r06_Checksum f a = some ((crc a : Nat) : Int) := by
 have hin : ∀ (c : Nat), c < 2 ^ 32 -> r06_Checksum_L2 f (c : Int) 0 = some ((crcK 8 c : Nat) : Int) := fun c hc =>
  crcIn (L := r06_Checksum_L2) (fun q c => rfl) (fun q c i hc hi => by
   rw [r06_Checksum_L2, ltI_d, decide_eq_true (by omega), wrapS (by omega), cond_true, <- ref_step hc]
   exact cond_arg (fun x => r06_Checksum_L2 q x ((i + 1 : Nat) : Int)) _ _ _) 8 f c 0 hc rfl (by omega)
 have hout := crcOut (L := r06_Checksum_L1 f a) a (fun q c => by rw [r06_Checksum_L1, ltI_d, decide_eq_false (by omega)]; rfl) (fun q c i x hc hx => by
  have hi := getN_some hx
  have hl := x.toNat_lt
  rw [r06_Checksum_L1, ltI_d, decide_eq_true (by omega), cond_true, getI_nat, hx, wrapS (by omega)]
  simp only [Option.bind_some]
  rw [wrap_u32_nat, Nat.mod_eq_of_lt (by omega), u32_xor_nat _ _ (by omega) (by omega), hin _ (byte_xor_lt x hc)]; rfl) f 0 4294967295 (by decide) (by omega) (by omega)
 unfold r06_Checksum
 rw [show (4294967295 : Int) = ((4294967295 : Nat) : Int) from rfl, show (0 : Int) = ((0 : Nat) : Int) from rfl, hout]
 show some (bits .xor .u32 _ _) = _
 rw [u32_xor_nat _ _ (crcL_lt _ (by decide)) (by decide)]; rfl
end Go.Dc.Pl
end
section
set_option linter.all false
namespace Go.Dc
open Go Go.Hw Go.Proofs
set_option maxRecDepth 100000
def frame_decode_L1 (a0 : List UInt8) : Nat -> Int -> Int -> Option ((Int × Int) ⊕ (Int × Int × Int))
 | 0, _, _ => none
 | q75 + 1, i57, i58 => cond (eqI i58 9) (some (.inr (0, 0, 2))) (cond (eqI i58 ((a0.length : Nat) : Int)) (some (.inr (0, 0, 22))) (Option.bind (getI a0 i58) (fun x81 => cond (ltI (x81.toNat : Int) 128) (some (.inl (i57, i58))) (guardO (!(ltI (IntKind.i64.wrap (7 * i58)) 0)) (frame_decode_L1 a0 q75 (bits .or .u64 i57 (shlI .u64 (IntKind.u64.wrap (IntKind.u8.wrap ((x81.toNat : Int) - 128))) (IntKind.i64.wrap (7 * i58)))) (IntKind.i64.wrap (i58 + 1)))))))
def frame_decode (fuelN : Nat) (a0 : List UInt8) : Option (Int × Int × Int) :=
 Option.bind (α := (Int × Int) ⊕ (Int × Int × Int)) (Option.bind (frame_decode_L1 a0 fuelN 0 0) (fun o => match o with | .inl (i67, i68) => some (.inl (i67, i68)) | .inr r86 => some (.inr r86))) (fun o => match o with | .inl (i41, i42) => Option.bind (getI a0 i42) (fun x87 => cond (andB (eqI (x87.toNat : Int) 0) (ltI 0 i42)) (some (0, 0, 3)) (guardO (!(ltI (IntKind.i64.wrap (7 * i42)) 0)) (cond (ltI 4611686018427387904 (bits .or .u64 i41 (shlI .u64 (IntKind.u64.wrap (x87.toNat : Int)) (IntKind.i64.wrap (7 * i42))))) (some (0, 0, 2)) (some (IntKind.i64.wrap (bits .or .u64 i41 (shlI .u64 (IntKind.u64.wrap (x87.toNat : Int)) (IntKind.i64.wrap (7 * i42)))), IntKind.i64.wrap (i42 + 1), 0))))) | .inr r93 => some r93)
set_option maxHeartbeats 2000000 in
theorem at_frame_decode {fuelN : Nat} {a0 : List UInt8} {r : Int × Int × Int} (hs : frame_decode fuelN a0 = some r) : At Tryz.prog 68 [.cell (sC a0)] (.tup [iV .i64 r.1, iV .i64 r.2.1, iV .i64 r.2.2]) := by
 refine at_bound (by kernel_rfl) fun hb => ?_
 have hb1 : LenOk (.sl a0.length (encL a0)) := lkc hb
 refine at_code mixed Tryz.func68 (by kernel_rfl) rfl (by kernel_rfl) rfl fun Q hQ => ?_
 rw [frame_decode] at hs
 refine goR2 f0 ?_
 revert hs; refine bK fun o44 e43 hs => ?_
 refine awp_cutK (fun (v : Int × Int) (σ : St) => some (.inl v) = some o44 /\ σ.env 0 = .cell (sC a0) /\ σ.env 5 = iV .u64 v.1 /\ σ.env 6 = iV .i64 v.2 /\ 3 <= σ.gen) (by rfl) (fun Q hK45 hX46 => ?_) (fun v σ3 hp => ?_)
 ·refine goR f0 ?_
  revert e43; refine bK fun o70 e69 e43 => ?_
  refine awp_loopW (fun (v : Nat × Int × Int) (σ : St) => frame_decode_L1 a0 v.1 v.2.1 v.2.2 = some o70 /\ σ.env 0 = .cell (sC a0) /\ σ.env 5 = iV .u64 v.2.1 /\ σ.env 6 = iV .i64 v.2.2 /\ 3 <= σ.gen) (fun v => v.1) _ (Gh.refl _) (fuelN, 0, 0) ⟨e69, pv f0, pv f0, pv f0, pg⟩ fun v σ6 hp L71 hL72 => ?_
  obtain ⟨q74, i57, i58⟩ := v
  dsimp only at hp hL72
  obtain ⟨e69, h5_0, h5_5, h5_6, n5_g⟩ := hp
  rcases q74 with _ | q75
  ·rw [frame_decode_L1] at e69; cases e69
  ·rw [frame_decode_L1] at e69; try dsimp only at e69
   have F1 := an h5_0 (an h5_5 h5_6)
   refine goR F1 ?_
   revert e69; refine cS F1 ?_ ?_ <;> intro h79 e69
   ·refine goR F1 ?_
    obtain rfl := sj e69
    try dsimp only at e43
    obtain rfl := sj e43
    try dsimp only at hs
    refine hX46 _ _ (by simp) ?_
    refine goR F1 ?_
    obtain rfl := sj hs
    exact hQ _ _ (rg F1 (Gh.refl _))
   ·refine goR F1 ?_
    revert e69; refine cS F1 ?_ ?_ <;> intro h80 e69
    ·refine goR F1 ?_
     obtain rfl := sj e69
     try dsimp only at e43
     obtain rfl := sj e43
     try dsimp only at hs
     refine hX46 _ _ (by simp) ?_
     refine goR F1 ?_
     obtain rfl := sj hs
     exact hQ _ _ (rg F1 (Gh.refl _))
    ·revert e69; refine bK fun x81 hx82 e69 => ?_
     obtain ⟨hx82a, hx82b, hx82c, hx82d⟩ := getI_some hx82
     have f83 : partCV Tryz.prog 5 (encL a0) ((i58).toNat) = some (iV .u8 (x81.toNat : Int)) := partCV_enc1 hx82d (by simp)
     have F2 := an F1 f83
     refine goR F2 ?_
     revert e69; refine cS F2 ?_ ?_ <;> intro h84 e69
     ·refine goR F2 ?_
      obtain rfl := sj e69
      try dsimp only at e43
      exact hK45 (i57, i58) _ _ (Gh.refl _) ⟨e43, pv F2, pv F2, pv F2, pg⟩
     ·obtain ⟨g85, e69⟩ := guardO_some e69
      have g85z := shft_t g85
      have F3 := an F2 g85z
      refine goR F3 ?_
      exact hL72 (q75, bits .or .u64 i57 (shlI .u64 (IntKind.u64.wrap (IntKind.u8.wrap ((x81.toNat : Int) - 128))) (IntKind.i64.wrap (7 * i58))), IntKind.i64.wrap (i58 + 1)) _ _ (Gh.refl _) ⟨e69, pv F3, pv F3, pv F3, pg⟩ (by omega)
 ·obtain ⟨i41, i42⟩ := v
  dsimp only at hp
  obtain ⟨e43, h4_0, h4_5, h4_6, n4_g⟩ := hp
  obtain rfl := sj e43
  try dsimp only at hs
  revert hs; refine bK fun x87 hx88 hs => ?_
  obtain ⟨hx88a, hx88b, hx88c, hx88d⟩ := getI_some hx88
  have f89 : partCV Tryz.prog 5 (encL a0) ((i42).toNat) = some (iV .u8 (x87.toNat : Int)) := partCV_enc1 hx88d (by simp)
  have F4 := an h4_0 (an h4_5 (an h4_6 f89))
  have F5 := an F4 (an hx88a hx88b)
  refine goG F4 F5 ?_
  revert hs; refine cS F4 ?_ ?_ <;> intro h90 hs
  ·refine goG F4 F5 ?_
   obtain rfl := sj hs
   exact hQ _ _ (rg F4 (Gh.refl _))
  ·obtain ⟨g91, hs⟩ := guardO_some hs
   have g91z := shft_t g91
   have F6 := an F4 g91z
   have F7 := an F6 (an hx88a hx88b)
   refine goG F6 F7 ?_
   revert hs; refine cS F6 ?_ ?_ <;> intro h92 hs
   ·refine goG F6 F7 ?_
    obtain rfl := sj hs
    exact hQ _ _ (rg F6 (Gh.refl _))
   ·refine goG F6 F7 ?_
    obtain rfl := sj hs
    exact hQ _ _ (rg F6 (Gh.refl _))
end Go.Dc
end
section
set_option linter.all false
namespace Go.Dc
open Go Go.Hw Go.Proofs
set_option maxRecDepth 100000
def frame_Uint (fuelN : Nat) (a0 : List UInt8) : Option (Int × (List UInt8) × Int) :=
 Option.bind (frame_decode fuelN a0) (fun y1 => cond (!(eqI y1.2.2 0)) (some (0, [], y1.2.2)) (guardO (slB y1.2.1 (a0.length : Int) a0.length) (Option.bind (some (subL a0 y1.2.1 (a0.length : Int))) (fun l5 => Option.bind (some ([l5])) (fun l8 => Option.bind (frame_join l8) (fun y10 => some (y1.1, y10, 0)))))))
set_option maxHeartbeats 2000000 in
theorem at_frame_Uint {fuelN : Nat} {a0 : List UInt8} {r : Int × (List UInt8) × Int} (hs : frame_Uint fuelN a0 = some r) : At Tryz.prog 69 [.cell (sC a0)] (.tup [iV .i64 r.1, .cell (sC r.2.1), iV .i64 r.2.2]) := by
 refine at_bound (by kernel_rfl) fun hb => ?_
 have hb1 : LenOk (.sl a0.length (encL a0)) := lkc hb
 refine at_code mixed Tryz.func69 (by kernel_rfl) rfl (by kernel_rfl) rfl fun Q hQ => ?_
 rw [frame_Uint] at hs
 refine goR f0 ?_
 revert hs; refine bK fun y1 hx2 hs => ?_
 refine cP f0 (at_frame_decode hx2) ?_
 refine goR f0 ?_
 revert hs; refine cS f0 ?_ ?_ <;> intro h3 hs
 ·refine goR f0 ?_
  obtain rfl := sj hs
  exact hQ _ _ (rg f0 (Gh.unz _))
 ·obtain ⟨g4, hs⟩ := guardO_some hs
  obtain ⟨g4a, g4b, g4c⟩ := slB_t g4
  revert hs; refine lK fun l5 hx6 hs => ?_
  have f7n : l5.length = ((a0.length : Int) - y1.2.1).toNat := by rw [hx6]; exact subL_len ⟨g4a, g4b, g4c⟩
  have f7e : ((encL a0).drop ((y1.2.1 : Int).toNat * 1)).take (((a0.length : Int) - y1.2.1).toNat * 1) = encL l5 := by rw [hx6]; exact subL_enc (α := UInt8)
  try simp at f7n
  try simp at f7e
  have f7o : LenOk (.sl l5.length (encL l5)) := by rw [hx6]; exact subL_ok hb1
  revert hs; refine lK fun l8 hx9 hs => ?_
  have hx9n : l8.length = 1 := by rw [hx9]; rfl
  have F1 := an g4a (an g4b (an g4c (an f7n (an f7e hx9))))
  refine goR F1 ?_
  revert hs; refine bK fun y10 hx11 hs => ?_
  refine cA F1 (at_frame_join hx11) ?_
  refine goR F1 ?_
  obtain rfl := sj hs
  exact hQ _ _ (rg F1 (Gh.frz _ (.o 4 5 0)))
end Go.Dc
end
section
set_option linter.all false
namespace Go.Dc
open Go Go.Hw Go.Proofs
set_option maxRecDepth 100000
def frame_decodeInt (fuelN : Nat) (a0 : List UInt8) : Option (Int × Int × Int) :=
 Option.bind (frame_decode fuelN a0) (fun y1 => cond (!(eqI y1.2.2 0)) (some (0, 0, y1.2.2)) (cond (eqI (Int.tmod y1.1 2) 0) (some (IntKind.i64.wrap (Int.tdiv y1.1 2), y1.2.1, 0)) (some (IntKind.i64.wrap (Int.tdiv (IntKind.i64.wrap (0 - IntKind.i64.wrap (y1.1 + 1))) 2), y1.2.1, 0))))
set_option maxHeartbeats 2000000 in
theorem at_frame_decodeInt {fuelN : Nat} {a0 : List UInt8} {r : Int × Int × Int} (hs : frame_decodeInt fuelN a0 = some r) : At Tryz.prog 100 [.cell (sC a0)] (.tup [iV .i64 r.1, iV .i64 r.2.1, iV .i64 r.2.2]) := by
 refine at_bound (by kernel_rfl) fun hb => ?_
 have hb1 : LenOk (.sl a0.length (encL a0)) := lkc hb
 refine at_code mixed Tryz.func100 (by kernel_rfl) rfl (by kernel_rfl) rfl fun Q hQ => ?_
 rw [frame_decodeInt] at hs
 refine goR f0 ?_
 revert hs; refine bK fun y1 hx2 hs => ?_
 refine cP f0 (at_frame_decode hx2) ?_
 refine goR f0 ?_
 revert hs; refine cS f0 ?_ ?_ <;> intro h3 hs
 ·refine goR f0 ?_
  obtain rfl := sj hs
  exact hQ _ _ (rg f0 (Gh.refl _))
 ·refine goR f0 ?_
  revert hs; refine cS f0 ?_ ?_ <;> intro h4 hs
  ·refine goR f0 ?_
   obtain rfl := sj hs
   exact hQ _ _ (rg f0 (Gh.refl _))
  ·refine goR f0 ?_
   obtain rfl := sj hs
   exact hQ _ _ (rg f0 (Gh.refl _))
end Go.Dc
end
section
set_option linter.all false
namespace Go.Dc
open Go Go.Hw Go.Proofs
set_option maxRecDepth 100000
def frame_Int (fuelN : Nat) (a0 : List UInt8) : Option (Int × (List UInt8) × Int) :=
 Option.bind (frame_decodeInt fuelN a0) (fun y1 => cond (!(eqI y1.2.2 0)) (some (0, [], y1.2.2)) (guardO (slB y1.2.1 (a0.length : Int) a0.length) (Option.bind (some (subL a0 y1.2.1 (a0.length : Int))) (fun l5 => Option.bind (some ([l5])) (fun l8 => Option.bind (frame_join l8) (fun y10 => some (y1.1, y10, 0)))))))
set_option maxHeartbeats 2000000 in
theorem at_frame_Int {fuelN : Nat} {a0 : List UInt8} {r : Int × (List UInt8) × Int} (hs : frame_Int fuelN a0 = some r) : At Tryz.prog 88 [.cell (sC a0)] (.tup [iV .i64 r.1, .cell (sC r.2.1), iV .i64 r.2.2]) := by
 refine at_bound (by kernel_rfl) fun hb => ?_
 have hb1 : LenOk (.sl a0.length (encL a0)) := lkc hb
 refine at_code mixed Tryz.func88 (by kernel_rfl) rfl (by kernel_rfl) rfl fun Q hQ => ?_
 rw [frame_Int] at hs
 refine goR f0 ?_
 revert hs; refine bK fun y1 hx2 hs => ?_
 refine cP f0 (at_frame_decodeInt hx2) ?_
 refine goR f0 ?_
 revert hs; refine cS f0 ?_ ?_ <;> intro h3 hs
 ·refine goR f0 ?_
  obtain rfl := sj hs
  exact hQ _ _ (rg f0 (Gh.unz _))
 ·obtain ⟨g4, hs⟩ := guardO_some hs
  obtain ⟨g4a, g4b, g4c⟩ := slB_t g4
  revert hs; refine lK fun l5 hx6 hs => ?_
  have f7n : l5.length = ((a0.length : Int) - y1.2.1).toNat := by rw [hx6]; exact subL_len ⟨g4a, g4b, g4c⟩
  have f7e : ((encL a0).drop ((y1.2.1 : Int).toNat * 1)).take (((a0.length : Int) - y1.2.1).toNat * 1) = encL l5 := by rw [hx6]; exact subL_enc (α := UInt8)
  try simp at f7n
  try simp at f7e
  have f7o : LenOk (.sl l5.length (encL l5)) := by rw [hx6]; exact subL_ok hb1
  revert hs; refine lK fun l8 hx9 hs => ?_
  have hx9n : l8.length = 1 := by rw [hx9]; rfl
  have F1 := an g4a (an g4b (an g4c (an f7n (an f7e hx9))))
  refine goR F1 ?_
  revert hs; refine bK fun y10 hx11 hs => ?_
  refine cA F1 (at_frame_join hx11) ?_
  refine goR F1 ?_
  obtain rfl := sj hs
  exact hQ _ _ (rg F1 (Gh.frz _ (.o 4 5 0)))
end Go.Dc
end
section
set_option linter.all false
namespace Go.Dc
open Go Go.Hw Go.Proofs
set_option maxRecDepth 100000
def frame_Ints_L1 (fuelN : Nat) (y1 : Int × Int × Int) : Nat -> (List UInt8) -> (List Int) -> Option (((List UInt8) × (List Int)) ⊕ ((List Int) × (List UInt8) × Int))
 | 0, _, _ => none
 | q81 + 1, l57, l58 => cond (ltI ((l58.length : Nat) : Int) y1.1) (Option.bind (frame_decodeInt fuelN l57) (fun y86 => cond (!(eqI y86.2.2 0)) (some (.inr ([], [], y86.2.2))) (Option.bind (some ([y86.1])) (fun l89 => guardO (limB 8 (l58.length + l89.length)) (Option.bind (some (l58 ++ l89)) (fun l92 => guardO (slB y86.2.1 (l57.length : Int) l57.length) (Option.bind (some (subL l57 y86.2.1 (l57.length : Int))) (fun l95 => frame_Ints_L1 fuelN y1 q81 l95 l92)))))))) (some (.inl (l57, l58)))
def frame_Ints (fuelN : Nat) (a0 : List UInt8) (a1 : Int) : Option ((List Int) × (List UInt8) × Int) :=
 Option.bind (frame_decode fuelN a0) (fun y1 => cond (!(eqI y1.2.2 0)) (some ([], [], y1.2.2)) (cond (ltI (if 0 > a1 then 0 else a1) y1.1) (some ([], [], 4)) (guardO (slB y1.2.1 (a0.length : Int) a0.length) (Option.bind (some (subL a0 y1.2.1 (a0.length : Int))) (fun l6 => Option.bind (α := ((List UInt8) × (List Int)) ⊕ ((List Int) × (List UInt8) × Int)) (Option.bind (frame_Ints_L1 fuelN y1 fuelN l6 []) (fun o => match o with | .inl (l73, l74) => some (.inl (l73, l74)) | .inr r98 => some (.inr r98))) (fun o => match o with | .inl (l51, l52) => Option.bind (some ([l51])) (fun l99 => Option.bind (frame_join l99) (fun y101 => some (l52, y101, 0))) | .inr r103 => some r103))))))
set_option maxHeartbeats 2000000 in
theorem at_frame_Ints {fuelN : Nat} {a0 : List UInt8} {a1 : Int} {r : (List Int) × (List UInt8) × Int} (hs : frame_Ints fuelN a0 a1 = some r) : At Tryz.prog 89 [.cell (sC a0), iV .i64 a1] (.tup [.cell (sC r.1), .cell (sC r.2.1), iV .i64 r.2.2]) := by
 refine at_bound (by kernel_rfl) fun hb => ?_
 have hb1 : LenOk (.sl a0.length (encL a0)) := lkc hb
 refine at_code mixed Tryz.func89 (by kernel_rfl) rfl (by kernel_rfl) rfl fun Q hQ => ?_
 rw [frame_Ints] at hs
 refine goR f0 ?_
 revert hs; refine bK fun y1 hx2 hs => ?_
 refine cP f0 (at_frame_decode hx2) ?_
 refine goR f0 ?_
 revert hs; refine cS f0 ?_ ?_ <;> intro h3 hs
 ·refine goR f0 ?_
  obtain rfl := sj hs
  exact hQ _ _ (rg f0 (Gh.unz _))
 ·refine goR f0 ?_
  revert hs; refine cS f0 ?_ ?_ <;> intro h4 hs
  ·refine goR f0 ?_
   obtain rfl := sj hs
   exact hQ _ _ (rg f0 (Gh.unz _))
  ·obtain ⟨g5, hs⟩ := guardO_some hs
   obtain ⟨g5a, g5b, g5c⟩ := slB_t g5
   revert hs; refine lK fun l6 hx7 hs => ?_
   have f8n : l6.length = ((a0.length : Int) - y1.2.1).toNat := by rw [hx7]; exact subL_len ⟨g5a, g5b, g5c⟩
   have f8e : ((encL a0).drop ((y1.2.1 : Int).toNat * 1)).take (((a0.length : Int) - y1.2.1).toNat * 1) = encL l6 := by rw [hx7]; exact subL_enc (α := UInt8)
   try simp at f8n
   try simp at f8e
   have f8o : LenOk (.sl l6.length (encL l6)) := by rw [hx7]; exact subL_ok hb1
   have F1 := an g5a (an g5b (an g5c (an f8n f8e)))
   refine goR2 F1 ?_
   revert hs; refine bK fun o54 e53 hs => ?_
   refine awp_cutK (fun (v : (List UInt8) × (List Int)) (σ : St) => some (.inl v) = some o54 /\ σ.env 10 = .cell (sC v.1) /\ σ.env 11 = .cell (.sl (.l 1) 0 1 v.2.length) /\ σ.hp (.l 1) = some (.pure (encL v.2)) /\ 6 <= σ.gen) (by rfl) (fun Q hK55 hX56 => ?_) (fun v σ3 hp => ?_)
   ·refine goR F1 ?_
    revert e53; refine bK fun o76 e75 e53 => ?_
    refine awp_loopW (fun (v : Nat × (List UInt8) × (List Int)) (σ : St) => frame_Ints_L1 fuelN y1 v.1 v.2.1 v.2.2 = some o76 /\ σ.env 7 = iV .i64 y1.1 /\ σ.env 10 = .cell (sC v.2.1) /\ σ.env 11 = .cell (.sl (.l 4) 0 1 v.2.2.length) /\ σ.hp (.l 4) = some (.pure (encL v.2.2)) /\ 6 <= σ.gen) (fun v => v.1) _ (Gh.void _ (.l 4) 11 1 rfl (by simp [F1])) (fuelN, l6, []) ⟨e75, pv F1, pv F1, pv F1, pv F1, pg⟩ fun v σ6 hp L77 hL78 => ?_
    obtain ⟨q80, l57, l58⟩ := v
    dsimp only at hp hL78
    obtain ⟨e75, h5_7, h5_10, h5_11, g5_0, n5_g⟩ := hp
    rcases q80 with _ | q81
    ·rw [frame_Ints_L1] at e75; cases e75
    ·rw [frame_Ints_L1] at e75; try dsimp only at e75
     have F2 := an h5_7 (an h5_10 (an h5_11 g5_0))
     refine goR F2 ?_
     revert e75; refine cS F2 ?_ ?_ <;> intro h85 e75
     ·refine goR F2 ?_
      revert e75; refine bK fun y86 hx87 e75 => ?_
      refine cP F2 (at_frame_decodeInt hx87) ?_
      refine goR F2 ?_
      revert e75; refine cS F2 ?_ ?_ <;> intro h88 e75
      ·refine goR F2 ?_
       obtain rfl := sj e75
       try dsimp only at e53
       obtain rfl := sj e53
       try dsimp only at hs
       refine hX56 _ _ (by simp) ?_
       refine goR F2 ?_
       obtain rfl := sj hs
       exact hQ _ _ (rg F2 (Gh.unz _))
      ·revert e75; refine lK fun l89 hx90 e75 => ?_
       have hx90n : l89.length = 1 := by rw [hx90]; rfl
       obtain ⟨g91, e75⟩ := guardO_some e75
       have g91 := limB_t g91
       obtain ⟨g91a, g91b⟩ := g91
       revert e75; refine lK fun l92 hx93 e75 => ?_
       have hx93n : l92.length = (l58.length + l89.length) := by rw [hx93]; simp
       have hx93e : encL l92 = encL l58 ++ encL l89 := by rw [hx93]; simp
       obtain ⟨g94, e75⟩ := guardO_some e75
       obtain ⟨g94a, g94b, g94c⟩ := slB_t g94
       revert e75; refine lK fun l95 hx96 e75 => ?_
       have f97n : l95.length = ((l57.length : Int) - y86.2.1).toNat := by rw [hx96]; exact subL_len ⟨g94a, g94b, g94c⟩
       have f97e : ((encL l57).drop ((y86.2.1 : Int).toNat * 1)).take (((l57.length : Int) - y86.2.1).toNat * 1) = encL l95 := by rw [hx96]; exact subL_enc (α := UInt8)
       try simp at f97n
       try simp at f97e
       have F3 := an F2 (an hx90 (an hx93n (an hx93e (an g94a (an g94b (an g94c (an f97n f97e)))))))
       refine goR F3 ?_
       exact hL78 (q81, l95, l92) _ _ (Gh.ren _ (.o (σ6.gen + 4) 3 0) (.l 4) (by simp) rfl rfl) ⟨e75, pv F3, pv F3, pv F3, pv F3, pg⟩ (by omega)
     ·refine goR F2 ?_
      obtain rfl := sj e75
      try dsimp only at e53
      exact hK55 (l57, l58) _ _ (Gh.ren _ (.l 4) (.l 1) (by simp) rfl rfl) ⟨e53, pv F2, pv F2, pv F2, pg⟩
   ·obtain ⟨l51, l52⟩ := v
    dsimp only at hp
    obtain ⟨e53, h4_10, h4_11, g4_0, n4_g⟩ := hp
    obtain rfl := sj e53
    try dsimp only at hs
    revert hs; refine lK fun l99 hx100 hs => ?_
    have hx100n : l99.length = 1 := by rw [hx100]; rfl
    have F4 := an h4_10 (an h4_11 (an g4_0 hx100))
    refine goR F4 ?_
    revert hs; refine bK fun y101 hx102 hs => ?_
    refine cA F4 (at_frame_join hx102) ?_
    refine goR F4 ?_
    obtain rfl := sj hs
    exact hQ _ _ (rg F4 ((Gh.frz _ (.l 1)).trans (Gh.frz _ (.o (σ3.gen + 1) 3 0))))
end Go.Dc
end
section
set_option linter.all false
namespace Go.Dc
open Go Go.Hw Go.Proofs
set_option maxRecDepth 100000
def frame_sumBytes (a0 : Int) : Option (List UInt8) :=
 Option.bind (some ([u8 (IntKind.u8.wrap a0), u8 (IntKind.u8.wrap (shrI .u32 a0 8)), u8 (IntKind.u8.wrap (shrI .u32 a0 16)), u8 (IntKind.u8.wrap (shrI .u32 a0 24))])) (fun l1 => some l1)
set_option maxHeartbeats 2000000 in
theorem at_frame_sumBytes {a0 : Int} {r : (List UInt8)} (hs : frame_sumBytes a0 = some r) : At Tryz.prog 51 [iV .u32 a0] (.cell (sC r)) := by
 refine at_bound (by kernel_rfl) fun hb => ?_
 refine at_code mixed Tryz.func51 (by kernel_rfl) rfl (by kernel_rfl) rfl fun Q hQ => ?_
 rw [frame_sumBytes] at hs
 revert hs; refine lK fun l1 hx2 hs => ?_
 have hx2n : l1.length = 4 := by rw [hx2]; rfl
 refine goR hx2 ?_
 obtain rfl := sj hs
 exact hQ _ _ (rg hx2 (Gh.frz _ (.o 2 11 0)))
end Go.Dc
end
section
set_option linter.all false
namespace Go.Dc
open Go Go.Hw Go.Proofs
set_option maxRecDepth 100000
def frame_Open_L1 (a0 : List UInt8) (y1 : Int × Int × Int) : List UInt8 -> Nat -> Option (Unit ⊕ ((List UInt8) × (List UInt8) × Int))
 | [], k66 => some (.inl ())
 | x86 :: q82, k66 => Option.bind (getI a0 (IntKind.i64.wrap (IntKind.i64.wrap (y1.2.1 + y1.1) + ((k66 : Nat) : Int)))) (fun x90 => cond (!(eqI (x90.toNat : Int) (x86.toNat : Int))) (some (.inr ([], [], 21))) (frame_Open_L1 a0 y1 q82 (k66 + 1)))
def frame_Open (fuelN : Nat) (a0 : List UInt8) : Option ((List UInt8) × (List UInt8) × Int) :=
 Option.bind (frame_decode fuelN a0) (fun y1 => cond (!(eqI y1.2.2 0)) (some ([], [], y1.2.2)) (cond (orB (ltI (IntKind.i64.wrap (((a0.length : Nat) : Int) - y1.2.1)) 4) (ltI (IntKind.i64.wrap (IntKind.i64.wrap (((a0.length : Nat) : Int) - y1.2.1) - 4)) y1.1)) (some ([], [], 22)) (guardO (slB 0 (IntKind.i64.wrap (y1.2.1 + y1.1)) a0.length) (Option.bind (some (subL a0 0 (IntKind.i64.wrap (y1.2.1 + y1.1)))) (fun l6 => Option.bind (frame_Checksum fuelN l6) (fun y9 => Option.bind (frame_sumBytes y9) (fun y11 => Option.bind (α := Unit ⊕ ((List UInt8) × (List UInt8) × Int)) (guardO (lenB y11.length) (Option.bind (frame_Open_L1 a0 y1 y11 0) (fun o => match o with | .inl _ => some (.inl ()) | .inr r94 => some (.inr r94)))) (fun o => match o with | .inl _ => guardO (slB y1.2.1 (IntKind.i64.wrap (y1.2.1 + y1.1)) a0.length) (Option.bind (some (subL a0 y1.2.1 (IntKind.i64.wrap (y1.2.1 + y1.1)))) (fun l112 => Option.bind (some ([l112])) (fun l115 => Option.bind (frame_join l115) (fun y117 => guardO (slB (IntKind.i64.wrap (IntKind.i64.wrap (y1.2.1 + y1.1) + 4)) (a0.length : Int) a0.length) (Option.bind (some (subL a0 (IntKind.i64.wrap (IntKind.i64.wrap (y1.2.1 + y1.1) + 4)) (a0.length : Int))) (fun l120 => Option.bind (some ([l120])) (fun l123 => Option.bind (frame_join l123) (fun y125 => some (y117, y125, 0))))))))) | .inr r127 => some r127))))))))
set_option maxHeartbeats 2000000 in
theorem at_frame_Open {fuelN : Nat} {a0 : List UInt8} {r : (List UInt8) × (List UInt8) × Int} (hs : frame_Open fuelN a0 = some r) : At Tryz.prog 34 [.cell (sC a0)] (.tup [.cell (sC r.1), .cell (sC r.2.1), iV .i64 r.2.2]) := by
 refine at_bound (by kernel_rfl) fun hb => ?_
 have hb1 : LenOk (.sl a0.length (encL a0)) := lkc hb
 refine at_code mixed Tryz.func34 (by kernel_rfl) rfl (by kernel_rfl) rfl fun Q hQ => ?_
 rw [frame_Open] at hs
 refine goR f0 ?_
 revert hs; refine bK fun y1 hx2 hs => ?_
 refine cP f0 (at_frame_decode hx2) ?_
 refine goR f0 ?_
 revert hs; refine cS f0 ?_ ?_ <;> intro h3 hs
 ·refine goR f0 ?_
  obtain rfl := sj hs
  exact hQ _ _ (rg f0 (Gh.unz _))
 ·refine goG f0 f0 ?_
  revert hs; refine cS f0 ?_ ?_ <;> intro h4 hs
  ·refine goG f0 f0 ?_
   obtain rfl := sj hs
   exact hQ _ _ (rg f0 (Gh.unz _))
  ·obtain ⟨g5, hs⟩ := guardO_some hs
   obtain ⟨g5a, g5b, g5c⟩ := slB_t g5
   revert hs; refine lK fun l6 hx7 hs => ?_
   have f8n : l6.length = (IntKind.i64.wrap (y1.2.1 + y1.1) - 0).toNat := by rw [hx7]; exact subL_len ⟨g5a, g5b, g5c⟩
   have f8e : ((encL a0).drop ((0 : Int).toNat * 1)).take ((IntKind.i64.wrap (y1.2.1 + y1.1) - 0).toNat * 1) = encL l6 := by rw [hx7]; exact subL_enc (α := UInt8)
   try simp at f8n
   try simp at f8e
   have f8o : LenOk (.sl l6.length (encL l6)) := by rw [hx7]; exact subL_ok hb1
   have F1 := an g5a (an g5b (an g5c (an f8n f8e)))
   refine goG F1 F1 ?_
   revert hs; refine bK fun y9 hx10 hs => ?_
   refine cP F1 (at_frame_Checksum hx10) ?_
   refine goG F1 F1 ?_
   revert hs; refine bK fun y11 hx12 hs => ?_
   refine cP F1 (at_frame_sumBytes hx12) ?_
   refine goG2 F1 F1 ?_
   revert hs; refine bK fun o53 e52 hs => ?_
   refine awp_cutK (fun (v : Unit) (σ : St) => some (.inl v) = some o53 /\ σ.env 0 = .cell (sC a0) /\ σ.env 6 = iV .i64 y1.2.1 /\ σ.env 8 = iV .i64 (IntKind.i64.wrap (y1.2.1 + y1.1)) /\ 6 <= σ.gen) (by rfl) (fun Q hK54 hX55 => ?_) (fun v σ3 hp => ?_)
   ·refine goG F1 F1 ?_
    obtain ⟨hb87, e52⟩ := guardO_some e52
    revert e52; refine bK fun o77 e76 e52 => ?_
    refine awp_loopW (fun (v : (List UInt8) × Nat) (σ : St) => frame_Open_L1 a0 y1 v.1 v.2 = some o77 /\ v.1 = y11.drop v.2 /\ σ.env 0 = .cell (sC a0) /\ σ.env 6 = iV .i64 y1.2.1 /\ σ.env 8 = iV .i64 (IntKind.i64.wrap (y1.2.1 + y1.1)) /\ σ.env 41 = .cell (sC y11) /\ σ.env 42 = iV .i64 ((y11.length : Nat) : Int) /\ σ.env 43 = iV .i64 ((v.2 : Nat) : Int) /\ 6 <= σ.gen) (fun v => v.1.length) _ (Gh.refl _) (y11, 0) ⟨e76, by simp, pv F1, pv F1, pv F1, pv F1, pv F1, pv F1, pg⟩ fun v σ6 hp L78 hL79 => ?_
    obtain ⟨q81, k66⟩ := v
    dsimp only at hp hL79
    obtain ⟨e76, hd80, h5_0, h5_6, h5_8, h5_41, h5_42, h5_43, n5_g⟩ := hp
    rcases q81 with _ | ⟨x86, q82⟩
    ·have hlt83 := drop_end hd80
     rw [frame_Open_L1] at e76; try dsimp only at e76
     have F2 := an h5_0 (an h5_6 (an h5_8 (an h5_41 (an h5_42 h5_43))))
     refine goR F2 ?_
     refine condK_f (by simp [ltI]; omega) ?_
     obtain rfl := sj e76
     try dsimp only at e52
     exact hK54 () _ _ (Gh.refl _) ⟨e52, pv F2, pv F2, pv F2, pg⟩
    ·obtain ⟨hx85, hlt83, hd88⟩ := drop_next hd80
     have ew84 := wrap_succG hlt83 hb87
     rw [frame_Open_L1] at e76; try dsimp only at e76
     have F3 := an h5_0 (an h5_6 (an h5_8 (an h5_41 (an h5_42 (an h5_43 (an hlt83 ew84))))))
     refine goR F3 ?_
     refine condK_t (by simp [ltI]; omega) ?_
     have f89 : partCV Tryz.prog 5 (encL y11) (k66) = some (iV .u8 (x86.toNat : Int)) := partCV_enc1 hx85 (by simp)
     revert e76; refine bK fun x90 hx91 e76 => ?_
     obtain ⟨hx91a, hx91b, hx91c, hx91d⟩ := getI_some hx91
     have f92 : partCV Tryz.prog 5 (encL a0) ((IntKind.i64.wrap (IntKind.i64.wrap (y1.2.1 + y1.1) + ((k66 : Nat) : Int))).toNat) = some (iV .u8 (x90.toNat : Int)) := partCV_enc1 hx91d (by simp)
     have F4 := an F3 (an f89 f92)
     refine goR F4 ?_
     revert e76; refine cS F4 ?_ ?_ <;> intro h93 e76
     ·refine goR F4 ?_
      obtain rfl := sj e76
      try dsimp only at e52
      obtain rfl := sj e52
      try dsimp only at hs
      refine hX55 _ _ (by simp) ?_
      refine goR F4 ?_
      obtain rfl := sj hs
      exact hQ _ _ (rg F4 (Gh.unz _))
     ·refine goR F4 ?_
      exact hL79 (q82, (k66 + 1)) _ _ (Gh.refl _) ⟨e76, hd88, pv F4, pv F4, pv F4, pv F4, pv F4, pv F4, pg⟩ (by simp)
   ·obtain ⟨e52, h4_0, h4_6, h4_8, n4_g⟩ := hp
    obtain rfl := sj e52
    try dsimp only at hs
    obtain ⟨g111, hs⟩ := guardO_some hs
    obtain ⟨g111a, g111b, g111c⟩ := slB_t g111
    revert hs; refine lK fun l112 hx113 hs => ?_
    have f114n : l112.length = (IntKind.i64.wrap (y1.2.1 + y1.1) - y1.2.1).toNat := by rw [hx113]; exact subL_len ⟨g111a, g111b, g111c⟩
    have f114e : ((encL a0).drop ((y1.2.1 : Int).toNat * 1)).take ((IntKind.i64.wrap (y1.2.1 + y1.1) - y1.2.1).toNat * 1) = encL l112 := by rw [hx113]; exact subL_enc (α := UInt8)
    try simp at f114n
    try simp at f114e
    have f114o : LenOk (.sl l112.length (encL l112)) := by rw [hx113]; exact subL_ok hb1
    revert hs; refine lK fun l115 hx116 hs => ?_
    have hx116n : l115.length = 1 := by rw [hx116]; rfl
    have F5 := an h4_0 (an h4_6 (an h4_8 (an g111a (an g111b (an g111c (an f114n (an f114e hx116)))))))
    refine goE F5 F5 ?_
    revert hs; refine bK fun y117 hx118 hs => ?_
    refine cA F5 (at_frame_join hx118) ?_
    obtain ⟨g119, hs⟩ := guardO_some hs
    obtain ⟨g119a, g119b, g119c⟩ := slB_t g119
    revert hs; refine lK fun l120 hx121 hs => ?_
    have f122n : l120.length = ((a0.length : Int) - IntKind.i64.wrap (IntKind.i64.wrap (y1.2.1 + y1.1) + 4)).toNat := by rw [hx121]; exact subL_len ⟨g119a, g119b, g119c⟩
    have f122e : ((encL a0).drop ((IntKind.i64.wrap (IntKind.i64.wrap (y1.2.1 + y1.1) + 4) : Int).toNat * 1)).take (((a0.length : Int) - IntKind.i64.wrap (IntKind.i64.wrap (y1.2.1 + y1.1) + 4)).toNat * 1) = encL l120 := by rw [hx121]; exact subL_enc (α := UInt8)
    try simp at f122n
    try simp at f122e
    have f122o : LenOk (.sl l120.length (encL l120)) := by rw [hx121]; exact subL_ok hb1
    revert hs; refine lK fun l123 hx124 hs => ?_
    have hx124n : l123.length = 1 := by rw [hx124]; rfl
    have F6 := an F5 (an g119a (an g119b (an g119c (an f122n (an f122e hx124)))))
    refine goE F6 F6 ?_
    revert hs; refine bK fun y125 hx126 hs => ?_
    refine cA F6 (at_frame_join hx126) ?_
    refine goE F6 F6 ?_
    obtain rfl := sj hs
    exact hQ _ _ (rg F6 ((Gh.frz _ (.o (σ3.gen + 1) 5 0)).trans (Gh.frz _ (.o (σ3.gen + 1) 11 0))))
end Go.Dc
end
section
set_option linter.all false
namespace Go.Dc
open Go Go.Hw Go.Proofs
set_option maxRecDepth 100000
def frame_Seal (fuelN : Nat) (a0 : List UInt8) : Option (List UInt8) :=
 Option.bind (frame_uintBytes fuelN ((a0.length : Nat) : Int)) (fun y1 => Option.bind (some ([y1, a0])) (fun l3 => Option.bind (frame_join l3) (fun y5 => Option.bind (frame_Checksum fuelN y5) (fun y11 => Option.bind (frame_sumBytes y11) (fun y13 => Option.bind (some ([y5, y13])) (fun l15 => Option.bind (frame_join l15) (fun y17 => some y17)))))))
set_option maxHeartbeats 2000000 in
theorem at_frame_Seal {fuelN : Nat} {a0 : List UInt8} {r : (List UInt8)} (hs : frame_Seal fuelN a0 = some r) : At Tryz.prog 19 [.cell (sC a0)] (.cell (sC r)) := by
 refine at_bound (by kernel_rfl) fun hb => ?_
 have hb1 : LenOk (.sl a0.length (encL a0)) := lkc hb
 refine at_code mixed Tryz.func19 (by kernel_rfl) rfl (by kernel_rfl) rfl fun Q hQ => ?_
 rw [frame_Seal] at hs
 refine goR f0 ?_
 revert hs; refine bK fun y1 hx2 hs => ?_
 refine cP f0 (at_frame_uintBytes hx2) ?_
 revert hs; refine lK fun l3 hx4 hs => ?_
 have hx4n : l3.length = 2 := by rw [hx4]; rfl
 refine goR hx4 ?_
 revert hs; refine bK fun y5 hx6 hs => ?_
 refine cA hx4 (at_frame_join hx6) ?_
 refine goN hx4 ?_
 refine awp_gh (by rfl) (Gh.frz _ (.o 2 5 0)) ?_
 try simp only [St.frz, St.pur]
 refine goR hx4 ?_
 revert hs; refine bK fun y11 hx12 hs => ?_
 refine cP hx4 (at_frame_Checksum hx12) ?_
 refine goR hx4 ?_
 revert hs; refine bK fun y13 hx14 hs => ?_
 refine cP hx4 (at_frame_sumBytes hx14) ?_
 revert hs; refine lK fun l15 hx16 hs => ?_
 have hx16n : l15.length = 2 := by rw [hx16]; rfl
 have F1 := an hx4 hx16
 refine goR F1 ?_
 revert hs; refine bK fun y17 hx18 hs => ?_
 refine cA F1 (at_frame_join hx18) ?_
 refine goR F1 ?_
 obtain rfl := sj hs
 exact hQ _ _ (rg F1 (Gh.frz _ (.o 3 5 0)))
end Go.Dc
end
section
set_option linter.all false
namespace Go.Dc.Pl
open Go Go.Hw Go.Dc
/-- How many bytes from 128 on stand ahead, up to f. -/
def lead : Nat -> List UInt8 -> Nat
 | 0, _ => 0
 | _ + 1, [] => 0
 | f + 1, b :: r => if b.toNat < 128 then 0 else lead f r + 1
def valB : List UInt8 -> Nat
 | [] => 0
 | b :: r => b.toNat % 128 + 128 * valB r
def dec (l : List UInt8) : Nat × Nat × Int :=
 let k := lead 9 l
 if k = 9 then (0, 0, 2)
 else if k = l.length then (0, 0, 22)
 else if (l.getD k 0).toNat = 0 /\ 0 < k then (0, 0, 3)
 else if 4611686018427387904 < valB (l.take (k + 1)) then (0, 0, 2)
 else (valB (l.take (k + 1)), k + 1, 0)
/-- What decodeInt comes to. -/
def decInt (l : List UInt8) : Int × Nat × Int :=
 let d := dec l
 if d.2.2 ≠ 0 then (0, 0, d.2.2)
 else if d.1 % 2 = 0 then ((d.1 / 2 : Nat), d.2.1, 0) else (-((d.1 / 2 : Nat) + 1 : Int), d.2.1, 0)
/-- n signed integers. -/
def decInts : Nat -> List UInt8 -> List Int × List UInt8 × Int
 | 0, l => ([], l, 0)
 | n + 1, l =>
  let d := decInt l
  if d.2.2 ≠ 0 then ([], [], d.2.2)
  else
   let r := decInts n (l.drop d.2.1)
   if r.2.2 ≠ 0 then ([], [], r.2.2) else (d.1 :: r.1, r.2.1, 0)
theorem wrap_u64_nat (n : Nat) : IntKind.wrap .u64 (n : Int) = ((n % 18446744073709551616 : Nat) : Int) := by rw [IntKind.wrap_u64]; simp
theorem wrap_u8_lt {n : Int} (h1 : 0 <= n) (h2 : n < 256) : IntKind.wrap .u8 n = n := by
 simp [IntKind.wrap, IntKind.bits, IntKind.signed]; omega
/-- One integer read: it, what is left, the error. -/
def uintR (a : List UInt8) : Int × List UInt8 × Int := if (dec a).2.2 = 0 then ((dec a).1, a.drop (dec a).2.1, 0) else (0, [], (dec a).2.2)
def intR (a : List UInt8) : Int × List UInt8 × Int := if (decInt a).2.2 = 0 then ((decInt a).1, a.drop (decInt a).2.1, 0) else (0, [], (decInt a).2.2)
def intsR (m : Int) (a : List UInt8) : List Int × List UInt8 × Int :=
 if (dec a).2.2 ≠ 0 then ([], [], (dec a).2.2)
 else if (if 0 > m then 0 else m) < ((dec a).1 : Int) then ([], [], 4)
 else decInts (dec a).1 (a.drop (dec a).2.1)
/-! Frames. -/
def sumB (c : Nat) : List UInt8 := [byteN c, byteN (c / 256), byteN (c / 65536), byteN (c / 16777216)]
def sealB (p : List UInt8) : List UInt8 := uintB p.length ++ p ++ sumB (crc (uintB p.length ++ p))
def openB (l : List UInt8) : List UInt8 × List UInt8 × Int :=
 if (dec l).2.2 ≠ 0 then ([], [], (dec l).2.2)
 else if l.length - (dec l).2.1 < 4 \/ (dec l).1 > l.length - (dec l).2.1 - 4 then ([], [], 22)
 else if (l.drop ((dec l).2.1 + (dec l).1)).take 4 = sumB (crc (l.take ((dec l).2.1 + (dec l).1))) then ((l.drop (dec l).2.1).take (dec l).1, l.drop ((dec l).2.1 + (dec l).1 + 4), 0) else ([], [], 21)
theorem own_sum {c : Nat} (h : c < 4294967296) : frame_sumBytes (c : Int) = some (sumB c) := by
 have e : ∀ s : Nat, s <= 32 -> shrI .u32 (c : Int) (s : Int) = ((c / 2 ^ s : Nat) : Int) := fun s hs => shr_nat (by show s <= 32; exact hs)
 have e1 := e 8 (by omega); have e2 := e 16 (by omega); have e3 := e 24 (by omega)
 rw [frame_sumBytes, show (8 : Int) = ((8 : Nat) : Int) from rfl, show (16 : Int) = ((16 : Nat) : Int) from rfl, show (24 : Int) = ((24 : Nat) : Int) from rfl, e1, e2, e3, u8_nat, u8_nat, u8_nat, u8_nat]; rfl
theorem own_seal {f : Nat} {p : List UInt8} (hp : p.length <= 100000000000) (hf : p.length + 100 <= f) : frame_Seal f p = some (sealB p) := by
 have h9 := uintB_le9 (n := p.length) (by omega)
 have hc := crc_lt (uintB p.length ++ p)
 rw [frame_Seal, own_uintB (by omega) (by omega), Option.bind_some, Option.bind_some, own_join (by simp; omega), Option.bind_some]
 simp only [List.flatten_cons, List.flatten_nil, List.append_nil]
 rw [own_crc (by omega) (by simp; omega) (by simp; omega), Option.bind_some, own_sum (by omega), Option.bind_some, Option.bind_some, own_join (by simp [sumB]; omega)]
 simp [sealB]
end Go.Dc.Pl
end
section
set_option linter.all false
namespace Go.Dc
open Go Go.Hw Go.Proofs
set_option maxRecDepth 100000
def checkpoint_rest_uint_CheckpointDecoder (fuelN : Nat) (a0 : CheckpointDecoder) : Option (Int × CheckpointDecoder) :=
 cond (!(eqI a0.rest.err 0)) (some (0, a0)) (Option.bind (frame_Uint fuelN a0.rest.bytes) (fun y2 => some (y2.1, { a0 with rest := ({ bytes := y2.2.1, err := y2.2.2 } : CheckpointRest) })))
set_option maxHeartbeats 2000000 in
theorem at_checkpoint_rest_uint_CheckpointDecoder {fuelN : Nat} {a0 : CheckpointDecoder} {r : Int × CheckpointDecoder} (hs : checkpoint_rest_uint_CheckpointDecoder fuelN a0 = some r) : CAt Tryz.prog 35 [.cell (.ref (.a 0) 0)] [.cells [sC a0.rest.bytes, nC a0.rest.err, nC a0.done, .own (.sp 4 a0.out.Frames.length (encL a0.out.Frames)), bC a0.out.Done, nC a0.out.Count, nC a0.out.Blocked]] (.ret (iV .i64 r.1)) [(.a 0, .cells [sC r.2.rest.bytes, nC r.2.rest.err, nC r.2.done, .own (.sp 4 r.2.out.Frames.length (encL r.2.out.Frames)), bC r.2.out.Done, nC r.2.out.Count, nC r.2.out.Blocked])] := by
 refine at_bound (by kernel_rfl) fun hb => ?_
 refine at_code mixed Tryz.func35 (by kernel_rfl) rfl (by kernel_rfl) rfl fun Q hQ => ?_
 rw [checkpoint_rest_uint_CheckpointDecoder] at hs
 refine goR f0 ?_
 revert hs; refine cS f0 ?_ ?_ <;> intro h1 hs
 ·refine goR f0 ?_
  obtain rfl := sj hs
  refine hQ _ _ (ret2g _ (Gh.refl _) (by simp [St.frz, St.pur]; rfl) (by first | rfl | (simp [St.frz, St.pur]; done) | (rw [if_pos (by first | omega | (simp; omega))]; simp [St.frz, St.pur]; first | omega | exact List.take_of_length_le (by simp; omega) | skip)) (pv f0))
 ·refine goR f0 ?_
  revert hs; refine bK fun y2 hx3 hs => ?_
  refine cP f0 (at_frame_Uint hx3) ?_
  refine goR f0 ?_
  obtain rfl := sj hs
  refine hQ _ _ (ret2g _ (Gh.refl _) (by simp [St.frz, St.pur]; rfl) (by first | rfl | (simp [St.frz, St.pur]; done) | (rw [if_pos (by first | omega | (simp; omega))]; simp [St.frz, St.pur]; first | omega | exact List.take_of_length_le (by simp; omega) | skip)) (pv f0))
end Go.Dc
end
section
set_option linter.all false
namespace Go.Dc
open Go Go.Hw Go.Proofs
set_option maxRecDepth 100000
def checkpoint_rest_int_CheckpointDecoder (fuelN : Nat) (a0 : CheckpointDecoder) : Option (Int × CheckpointDecoder) :=
 cond (!(eqI a0.rest.err 0)) (some (0, a0)) (Option.bind (frame_Int fuelN a0.rest.bytes) (fun y2 => some (y2.1, { a0 with rest := ({ bytes := y2.2.1, err := y2.2.2 } : CheckpointRest) })))
set_option maxHeartbeats 2000000 in
theorem at_checkpoint_rest_int_CheckpointDecoder {fuelN : Nat} {a0 : CheckpointDecoder} {r : Int × CheckpointDecoder} (hs : checkpoint_rest_int_CheckpointDecoder fuelN a0 = some r) : CAt Tryz.prog 70 [.cell (.ref (.a 0) 0)] [.cells [sC a0.rest.bytes, nC a0.rest.err, nC a0.done, .own (.sp 4 a0.out.Frames.length (encL a0.out.Frames)), bC a0.out.Done, nC a0.out.Count, nC a0.out.Blocked]] (.ret (iV .i64 r.1)) [(.a 0, .cells [sC r.2.rest.bytes, nC r.2.rest.err, nC r.2.done, .own (.sp 4 r.2.out.Frames.length (encL r.2.out.Frames)), bC r.2.out.Done, nC r.2.out.Count, nC r.2.out.Blocked])] := by
 refine at_bound (by kernel_rfl) fun hb => ?_
 refine at_code mixed Tryz.func70 (by kernel_rfl) rfl (by kernel_rfl) rfl fun Q hQ => ?_
 rw [checkpoint_rest_int_CheckpointDecoder] at hs
 refine goR f0 ?_
 revert hs; refine cS f0 ?_ ?_ <;> intro h1 hs
 ·refine goR f0 ?_
  obtain rfl := sj hs
  refine hQ _ _ (ret2g _ (Gh.refl _) (by simp [St.frz, St.pur]; rfl) (by first | rfl | (simp [St.frz, St.pur]; done) | (rw [if_pos (by first | omega | (simp; omega))]; simp [St.frz, St.pur]; first | omega | exact List.take_of_length_le (by simp; omega) | skip)) (pv f0))
 ·refine goR f0 ?_
  revert hs; refine bK fun y2 hx3 hs => ?_
  refine cP f0 (at_frame_Int hx3) ?_
  refine goR f0 ?_
  obtain rfl := sj hs
  refine hQ _ _ (ret2g _ (Gh.refl _) (by simp [St.frz, St.pur]; rfl) (by first | rfl | (simp [St.frz, St.pur]; done) | (rw [if_pos (by first | omega | (simp; omega))]; simp [St.frz, St.pur]; first | omega | exact List.take_of_length_le (by simp; omega) | skip)) (pv f0))
end Go.Dc
end
section
set_option linter.all false
namespace Go.Dc
open Go Go.Hw Go.Proofs
set_option maxRecDepth 100000
def checkpoint_rest_ints_CheckpointDecoder (fuelN : Nat) (a0 : CheckpointDecoder) : Option ((List Int) × CheckpointDecoder) :=
 cond (!(eqI a0.rest.err 0)) (some ([], a0)) (Option.bind (frame_Ints fuelN a0.rest.bytes 2048) (fun y2 => some (y2.1, { a0 with rest := ({ bytes := y2.2.1, err := y2.2.2 } : CheckpointRest) })))
set_option maxHeartbeats 2000000 in
theorem at_checkpoint_rest_ints_CheckpointDecoder {fuelN : Nat} {a0 : CheckpointDecoder} {r : (List Int) × CheckpointDecoder} (hs : checkpoint_rest_ints_CheckpointDecoder fuelN a0 = some r) : CAt Tryz.prog 71 [.cell (.ref (.a 0) 0)] [.cells [sC a0.rest.bytes, nC a0.rest.err, nC a0.done, .own (.sp 4 a0.out.Frames.length (encL a0.out.Frames)), bC a0.out.Done, nC a0.out.Count, nC a0.out.Blocked]] (.ret (.cell (sC r.1))) [(.a 0, .cells [sC r.2.rest.bytes, nC r.2.rest.err, nC r.2.done, .own (.sp 4 r.2.out.Frames.length (encL r.2.out.Frames)), bC r.2.out.Done, nC r.2.out.Count, nC r.2.out.Blocked])] := by
 refine at_bound (by kernel_rfl) fun hb => ?_
 refine at_code mixed Tryz.func71 (by kernel_rfl) rfl (by kernel_rfl) rfl fun Q hQ => ?_
 rw [checkpoint_rest_ints_CheckpointDecoder] at hs
 refine goR f0 ?_
 revert hs; refine cS f0 ?_ ?_ <;> intro h1 hs
 ·refine goR f0 ?_
  obtain rfl := sj hs
  refine hQ _ _ (ret2g _ (Gh.unz _) (by simp [St.frz, St.pur]; rfl) (by first | rfl | (simp [St.frz, St.pur]; done) | (rw [if_pos (by first | omega | (simp; omega))]; simp [St.frz, St.pur]; first | omega | exact List.take_of_length_le (by simp; omega) | skip)) (pv f0))
 ·refine goR f0 ?_
  revert hs; refine bK fun y2 hx3 hs => ?_
  refine cP f0 (at_frame_Ints hx3) ?_
  refine goR f0 ?_
  obtain rfl := sj hs
  refine hQ _ _ (ret2g _ (Gh.refl _) (by simp [St.frz, St.pur]; rfl) (by first | rfl | (simp [St.frz, St.pur]; done) | (rw [if_pos (by first | omega | (simp; omega))]; simp [St.frz, St.pur]; first | omega | exact List.take_of_length_le (by simp; omega) | skip)) (pv f0))
end Go.Dc
end
section
set_option linter.all false
namespace Go.Dc
open Go Go.Hw Go.Proofs
set_option maxRecDepth 100000
def checkpoint_rest_uint (fuelN : Nat) (a0 : CheckpointRest) : Option (Int × CheckpointRest) :=
 cond (!(eqI a0.err 0)) (some (0, a0)) (Option.bind (frame_Uint fuelN a0.bytes) (fun y2 => some (y2.1, ({ bytes := y2.2.1, err := y2.2.2 } : CheckpointRest))))
end Go.Dc
end
section
set_option linter.all false
namespace Go.Dc
open Go Go.Hw Go.Proofs
set_option maxRecDepth 100000
def checkpoint_decoder_tree_L1 (fuelN : Nat) (a2 : Int) (y1 : Int × CheckpointDecoder) (rF72z : CheckpointDecoder -> Tree -> Int -> Option (CheckpointDecoder × Tree)) : Nat -> Int -> (List UInt8) -> Int -> Int -> (List Frame) -> Bool -> Int -> Int -> (List Tree) -> Option ((List UInt8) × Int × Int × (List Frame) × Bool × Int × Int × (List Tree))
 | 0, _, _, _, _, _, _, _, _, _ => none
 | q240 + 1, i150, l151, i152, i153, l154, b155, i156, i157, l158 => cond (andB (ltI i150 y1.1) (eqI i152 0)) (Option.bind (α := (List UInt8) × Int × Int × (List Frame) × Bool × Int × Int × (List Tree)) (Option.bind (checkpoint_rest_int_CheckpointDecoder fuelN ({ rest := ({ bytes := l151, err := i152 } : CheckpointRest), done := i153, out := ({ Frames := l154, Done := b155, Count := i156, Blocked := i157 } : Snapshot) } : CheckpointDecoder)) (fun y282 => Option.bind (rF72z y282.2 ({ Agent := y282.1, Kids := ([] : List Tree) } : Tree) (IntKind.i64.wrap (a2 + 1))) (fun y284 => Option.bind (some ([y284.2])) (fun l302 => guardO (limB 32 (l158.length + l302.length)) (Option.bind (some (l158 ++ l302)) (fun l305 => some ((y284.1.rest.bytes, y284.1.rest.err, y284.1.done, y284.1.out.Frames, y284.1.out.Done, y284.1.out.Count, y284.1.out.Blocked, l305)))))))) (fun o => match o with | (l270, i271, i272, l273, b274, i275, i276, l277) => checkpoint_decoder_tree_L1 fuelN a2 y1 rF72z q240 (IntKind.i64.wrap (i150 + 1)) l270 i271 i272 l273 b274 i275 i276 l277)) (some ((l151, i152, i153, l154, b155, i156, i157, l158)))
def checkpoint_decoder_tree_B (rF72z : CheckpointDecoder -> Tree -> Int -> Option (CheckpointDecoder × Tree)) (fuelN : Nat) (a0 : CheckpointDecoder) (a1 : Tree) (a2 : Int) : Option (CheckpointDecoder × Tree) :=
 Option.bind (checkpoint_rest_uint_CheckpointDecoder fuelN a0) (fun y1 => Option.bind (α := Int × (List Frame) × (List Tree)) (cond (andB (andB (eqI y1.2.rest.err 0) (ltI 0 y1.1)) (eqI a2 512)) (some ((3, y1.2.out.Frames, a1.Kids))) (some ((y1.2.rest.err, y1.2.out.Frames, a1.Kids)))) (fun o => match o with | (i4, l5, l6) => Option.bind (checkpoint_decoder_tree_L1 fuelN a2 y1 rF72z fuelN 0 y1.2.rest.bytes i4 y1.2.done l5 y1.2.out.Done y1.2.out.Count y1.2.out.Blocked l6) (fun o => match o with | (l226, i227, i228, l229, b230, i231, i232, l233) => some (({ rest := ({ bytes := l226, err := i227 } : CheckpointRest), done := i228, out := ({ Frames := l229, Done := b230, Count := i231, Blocked := i232 } : Snapshot) } : CheckpointDecoder), { a1 with Kids := l233 }))))
def checkpoint_decoder_tree : Nat -> CheckpointDecoder -> Tree -> Int -> Option (CheckpointDecoder × Tree)
 | 0 => fun _ _ _ => none
 | fuelN + 1 => fun a0 a1 a2 => checkpoint_decoder_tree_B (checkpoint_decoder_tree fuelN) fuelN a0 a1 a2
set_option maxHeartbeats 2000000 in
theorem at_checkpoint_decoder_tree_B {rF72z : CheckpointDecoder -> Tree -> Int -> Option (CheckpointDecoder × Tree)} (ihrF72z : ∀ (a0 : CheckpointDecoder) (a1 : Tree) (a2 : Int) (r : CheckpointDecoder × Tree), rF72z a0 a1 a2 = some r -> CAt Tryz.prog 72 [.cell (.ref (.a 0) 0), .cell (.ref (.a 1) 0), iV .i64 a2] [.cells [sC a0.rest.bytes, nC a0.rest.err, nC a0.done, .own (.sp 4 a0.out.Frames.length (encL a0.out.Frames)), bC a0.out.Done, nC a0.out.Count, nC a0.out.Blocked], .cells [nC a1.Agent, .own (.sp 2 a1.Kids.length (encL a1.Kids))]] (.ret (.tup [])) [(.a 0, .cells [sC r.1.rest.bytes, nC r.1.rest.err, nC r.1.done, .own (.sp 4 r.1.out.Frames.length (encL r.1.out.Frames)), bC r.1.out.Done, nC r.1.out.Count, nC r.1.out.Blocked]), (.a 1, .cells [nC r.2.Agent, .own (.sp 2 r.2.Kids.length (encL r.2.Kids))])]) {fuelN : Nat} {a0 : CheckpointDecoder} {a1 : Tree} {a2 : Int} {r : CheckpointDecoder × Tree} (hs : checkpoint_decoder_tree_B rF72z fuelN a0 a1 a2 = some r) : CAt Tryz.prog 72 [.cell (.ref (.a 0) 0), .cell (.ref (.a 1) 0), iV .i64 a2] [.cells [sC a0.rest.bytes, nC a0.rest.err, nC a0.done, .own (.sp 4 a0.out.Frames.length (encL a0.out.Frames)), bC a0.out.Done, nC a0.out.Count, nC a0.out.Blocked], .cells [nC a1.Agent, .own (.sp 2 a1.Kids.length (encL a1.Kids))]] (.ret (.tup [])) [(.a 0, .cells [sC r.1.rest.bytes, nC r.1.rest.err, nC r.1.done, .own (.sp 4 r.1.out.Frames.length (encL r.1.out.Frames)), bC r.1.out.Done, nC r.1.out.Count, nC r.1.out.Blocked]), (.a 1, .cells [nC r.2.Agent, .own (.sp 2 r.2.Kids.length (encL r.2.Kids))])] := by
 refine at_bound (by kernel_rfl) fun hb => ?_
 refine at_code mixed Tryz.func72 (by kernel_rfl) rfl (by kernel_rfl) rfl fun Q hQ => ?_
 rw [checkpoint_decoder_tree_B] at hs
 refine goR f0 ?_
 revert hs; refine bK fun y1 hx2 hs => ?_
 refine cB f0 (at_checkpoint_rest_uint_CheckpointDecoder hx2) [.a 0] ?_
 refine goG2 f0 f0 ?_
 revert hs; refine bK fun o8 e7 hs => ?_
 refine awp_cutK (fun (v : Int × (List Frame) × (List Tree)) (σ : St) => some (v) = some o8 /\ σ.env 0 = .cell (.ref (.a 0) 0) /\ σ.env 1 = .cell (.ref (.a 1) 0) /\ σ.env 2 = iV .i64 a2 /\ σ.env 6 = iV .i64 y1.1 /\ σ.hp (.a 0) = some (.cells [sC y1.2.rest.bytes, nC v.1, nC y1.2.done, .own (.sp 4 v.2.1.length (encL v.2.1)), bC y1.2.out.Done, nC y1.2.out.Count, nC y1.2.out.Blocked]) /\ σ.hp (.a 1) = some (.cells [nC a1.Agent, .own (.sp 2 v.2.2.length (encL v.2.2))]) /\ 2 <= σ.gen) (by rfl) (fun Q hK9 hX10 => ?_) (fun v σ1 hp => ?_)
 ·refine goG f0 f0 ?_
  revert e7; refine cS f0 ?_ ?_ <;> intro h11 e7
  ·refine goG f0 f0 ?_
   exact hK9 (3, y1.2.out.Frames, a1.Kids) _ _ (Gh.refl _) ⟨e7, pv f0, pv f0, pv f0, pv f0, pv f0, pv f0, pg⟩
  ·refine goG f0 f0 ?_
   exact hK9 (y1.2.rest.err, y1.2.out.Frames, a1.Kids) _ _ (Gh.refl _) ⟨e7, pv f0, pv f0, pv f0, pv f0, pv f0, pv f0, pg⟩
 ·obtain ⟨i4, l5, l6⟩ := v
  dsimp only at hp
  obtain ⟨e7, h2_0, h2_1, h2_2, h2_6, g2_0, g2_1, n2_g⟩ := hp
  obtain rfl := sj e7
  try dsimp only at hs
  have F1 := an h2_0 (an h2_1 (an h2_2 (an h2_6 (an g2_0 g2_1))))
  refine goG F1 F1 ?_
  revert hs; refine bK fun o235 e234 hs => ?_
  refine awp_loopW (fun (v : Nat × Int × (List UInt8) × Int × Int × (List Frame) × Bool × Int × Int × (List Tree)) (σ : St) => checkpoint_decoder_tree_L1 fuelN a2 y1 rF72z v.1 v.2.1 v.2.2.1 v.2.2.2.1 v.2.2.2.2.1 v.2.2.2.2.2.1 v.2.2.2.2.2.2.1 v.2.2.2.2.2.2.2.1 v.2.2.2.2.2.2.2.2.1 v.2.2.2.2.2.2.2.2.2 = some o235 /\ σ.env 0 = .cell (.ref (.a 0) 0) /\ σ.env 1 = .cell (.ref (.a 1) 0) /\ σ.env 2 = iV .i64 a2 /\ σ.env 6 = iV .i64 y1.1 /\ σ.env 7 = iV .i64 v.2.1 /\ σ.hp (.a 0) = some (.cells [sC v.2.2.1, nC v.2.2.2.1, nC v.2.2.2.2.1, .own (.sp 4 v.2.2.2.2.2.1.length (encL v.2.2.2.2.2.1)), bC v.2.2.2.2.2.2.1, nC v.2.2.2.2.2.2.2.1, nC v.2.2.2.2.2.2.2.2.1]) /\ σ.hp (.a 1) = some (.cells [nC a1.Agent, .own (.sp 2 v.2.2.2.2.2.2.2.2.2.length (encL v.2.2.2.2.2.2.2.2.2))]) /\ (σ1.gen + 1) <= σ.gen) (fun v => v.1) _ (Gh.refl _) (fuelN, 0, y1.2.rest.bytes, i4, y1.2.done, l5, y1.2.out.Done, y1.2.out.Count, y1.2.out.Blocked, l6) ⟨e234, pv F1, pv F1, pv F1, pv F1, pv F1, pv F1, pv F1, pg⟩ fun v σ10 hp L236 hL237 => ?_
  obtain ⟨q239, i150, l151, i152, i153, l154, b155, i156, i157, l158⟩ := v
  dsimp only at hp hL237
  obtain ⟨e234, h9_0, h9_1, h9_2, h9_6, h9_7, g9_0, g9_1, n9_g⟩ := hp
  rcases q239 with _ | q240
  ·rw [checkpoint_decoder_tree_L1] at e234; cases e234
  ·rw [checkpoint_decoder_tree_L1] at e234; try dsimp only at e234
   have F2 := an h9_0 (an h9_1 (an h9_2 (an h9_6 (an h9_7 (an g9_0 g9_1)))))
   refine goG F2 F2 ?_
   revert e234; refine cS F2 ?_ ?_ <;> intro h244 e234
   ·refine goG2 F2 F2 ?_
    revert e234; refine bK fun o279 e278 e234 => ?_
    refine awp_cutK (fun (v : (List UInt8) × Int × Int × (List Frame) × Bool × Int × Int × (List Tree)) (σ : St) => some (v) = some o279 /\ σ.env 0 = .cell (.ref (.a 0) 0) /\ σ.env 1 = .cell (.ref (.a 1) 0) /\ σ.env 2 = iV .i64 a2 /\ σ.env 6 = iV .i64 y1.1 /\ σ.env 7 = iV .i64 i150 /\ σ.hp (.a 0) = some (.cells [sC v.1, nC v.2.1, nC v.2.2.1, .own (.sp 4 v.2.2.2.1.length (encL v.2.2.2.1)), bC v.2.2.2.2.1, nC v.2.2.2.2.2.1, nC v.2.2.2.2.2.2.1]) /\ σ.hp (.l 11) = some (.pure (encL v.2.2.2.2.2.2.2)) /\ σ.hp (.a 1) = some (.cells [nC a1.Agent, .sl (.l 11) 0 2 v.2.2.2.2.2.2.2.length]) /\ (σ10.gen + 1) <= σ.gen) (by rfl) (fun Q hK280 hX281 => ?_) (fun v σ11 hp => ?_)
    ·refine goG F2 F2 ?_
     revert e278; refine bK fun y282 hx283 e278 => ?_
     refine cB F2 (at_checkpoint_rest_int_CheckpointDecoder hx283) [.a 0] ?_
     repeat (first | simp [F2] | with_reducible first | refine And.intro (by omega) ?_ | refine optF_if (by omega) ?_ | refine gsel_pure (by with_unfolding_all rfl) _ (fun hg => by (try simp at hg); first | (simp [hg, F2]; rfl) | (simp [F2]; simp only [if_pos hg]; simp [F2]; rfl)) ?_)
     refine awp_gh (by rfl) ((Gh.voidB _ (.l 12) (.o (σ10.gen + 2) 5 0) 1 2 rfl (by simp [F2]; rfl) (by first | rfl | simp) (by simp)).trans (Gh.close _ (.o (σ10.gen + 2) 5 0) 1)) ?_
     try simp only [St.frz, St.pur]
     refine goR F2 ?_
     revert e278; refine bK fun y284 hx285 e278 => ?_
     refine cB F2 (ihrF72z _ _ _ _ hx285) [.a 0, .o (σ10.gen + 2) 5 0] ?_
     refine goN F2 ?_
     refine awp_coin rfl (by kernel_rfl) (by kernel_rfl) (by kernel_rfl) (by kernel_rfl) (by kernel_rfl) (by kernel_rfl) (by simp) (by simp) (by simp) fun coin286 => ?_
     simp only [St.coin_eq]
     refine goR F2 ?_
     rcases coin286 with _ | _
     all_goals refine ⟨fun h => ?_, fun h => ?_⟩
     any_goals (cases h; done)
     ·clear h
      refine goN F2 ?_
      refine awp_gh (by rfl) ((Gh.opn _ (.a 1) 1).trans (Gh.opn _ (.o (σ10.gen + 2) 5 0) 1)) ?_
      try simp only [St.frz, St.pur]
      revert e278; refine lK fun l302 hx303 e278 => ?_
      have hx303n : l302.length = 1 := by rw [hx303]; rfl
      obtain ⟨g304, e278⟩ := guardO_some e278
      have g304 := limB_t g304
      obtain ⟨g304a, g304b⟩ := g304
      revert e278; refine lK fun l305 hx306 e278 => ?_
      have hx306n : l305.length = (l158.length + l302.length) := by rw [hx306]; simp
      have hx306e : encL l305 = encL l158 ++ encL l302 := by rw [hx306]; simp
      have F3 := an F2 (an hx303 (an hx306n hx306e))
      refine goD F3 ?_
      exact hK280 (y284.1.rest.bytes, y284.1.rest.err, y284.1.done, y284.1.out.Frames, y284.1.out.Done, y284.1.out.Count, y284.1.out.Blocked, l305) _ _ ((Gh.frz _ (.o (σ10.gen + 6) 0 1)).trans ((Gh.pur _ (.o (σ10.gen + 7) 6 0)).trans ((Gh.pur _ (.o (σ10.gen + 7) 7 0)).trans (Gh.ren _ (.o (σ10.gen + 7) 7 0) (.l 11) (by simp) rfl rfl)))) ⟨e278, pv F3, pv F3, pv F3, pv F3, pv F3, pv F3, pv F3, pv F3, pg⟩
     ·clear h
      replace e278 := (show (Option.bind (some ([y284.2])) (fun l302 => guardO (limB 32 (l158.length + l302.length)) (Option.bind (some (l158 ++ l302)) (fun l305 => some ((y284.1.rest.bytes, y284.1.rest.err, y284.1.done, y284.1.out.Frames, y284.1.out.Done, y284.1.out.Count, y284.1.out.Blocked, l305)))))) = _ -> (Option.bind (some ([({ Agent := 0, Kids := [] } : Tree)])) (fun l287 => guardO (limB 32 (l158.length + l287.length)) (Option.bind (some (l158 ++ l287)) (fun l290 => Option.bind (l290[l158.length]?) (fun x292 => Option.bind (some (l290.set l158.length y284.2)) (fun l294 => some ((y284.1.rest.bytes, y284.1.rest.err, y284.1.done, y284.1.out.Frames, y284.1.out.Done, y284.1.out.Count, y284.1.out.Blocked, l294)))))))) = _ from fun h => by simp only [Option.bind_some, coin_get, coin_set] at h ⊢; exact h) e278
      revert e278; refine lK fun l287 hx288 e278 => ?_
      have hx288n : l287.length = 1 := by rw [hx288]; rfl
      obtain ⟨g289, e278⟩ := guardO_some e278
      have g289 := limB_t g289
      obtain ⟨g289a, g289b⟩ := g289
      revert e278; refine lK fun l290 hx291 e278 => ?_
      have hx291n : l290.length = (l158.length + l287.length) := by rw [hx291]; simp
      have hx291e : encL l290 = encL l158 ++ encL l287 := by rw [hx291]; simp
      have F4 := an F2 (an hx288 (an hx291n hx291e))
      refine goN F4 ?_
      refine awp_reg ?_
      refine goN F4 ?_
      refine awp_gh (by rfl) ((Gh.opn _ (.o (σ10.gen + 2) 5 0) 1).trans (Gh.frz _ (.o (σ10.gen + 6) 0 1))) ?_
      try simp only [St.frz, St.pur]
      revert e278; refine bK fun x292 hx293 e278 => ?_
      have hx293b := getN_some hx293
      revert e278; refine lK fun l294 hx295 e278 => ?_
      have f296 : setRun (encL l290) (l158.length * 2) [.c (.int .i64 y284.2.Agent), .sl y284.2.Kids.length (encL y284.2.Kids)] = encL l294 := hx295 ▸ setRun_enc hx293 (f := 0) (by simp) (by simp [setRun])
      simp only [setRun] at f296
      have f296z := f296
      try simp [F4] at f296z
      have f296n : l294.length = l290.length := by rw [hx295]; simp
      have F5 := an F4 (an f296z (an f296 f296n))
      refine goR F5 ?_
      exact hK280 (y284.1.rest.bytes, y284.1.rest.err, y284.1.done, y284.1.out.Frames, y284.1.out.Done, y284.1.out.Count, y284.1.out.Blocked, l294) _ _ (Gh.ren _ (.o (σ10.gen + 5) 6 0) (.l 11) (by simp) rfl rfl) ⟨e278, pv F5, pv F5, pv F5, pv F5, pv F5, pv F5, pv F5, pv F5, pg⟩
    ·obtain ⟨l270, i271, i272, l273, b274, i275, i276, l277⟩ := v
     dsimp only at hp
     obtain ⟨e278, h12_0, h12_1, h12_2, h12_6, h12_7, g12_0, g12_1, g12_2, n12_g⟩ := hp
     obtain rfl := sj e278
     try dsimp only at e234
     have F6 := an h12_0 (an h12_1 (an h12_2 (an h12_6 (an h12_7 (an g12_0 (an g12_1 g12_2))))))
     refine goG F6 F6 ?_
     exact hL237 (q240, IntKind.i64.wrap (i150 + 1), l270, i271, i272, l273, b274, i275, i276, l277) _ _ (Gh.close _ (.a 1) 1) ⟨e234, pv F6, pv F6, pv F6, pv F6, pv F6, pv F6, pv F6, pg⟩ (by omega)
   ·refine goG F2 F2 ?_
    obtain rfl := sj e234
    try dsimp only at hs
    obtain rfl := sj hs
    refine hQ _ _ (ret2g _ (Gh.refl _) (by simp [St.frz, St.pur, F2]; rfl) (by first | rfl | (simp [St.frz, St.pur, F2]; done) | (rw [if_pos (by first | omega | (simp; omega))]; simp [St.frz, St.pur, F2]; first | omega | exact List.take_of_length_le (by simp; omega) | skip)) (pv F2))
theorem at_checkpoint_decoder_tree : ∀ {fuelN : Nat} {a0 : CheckpointDecoder} {a1 : Tree} {a2 : Int} {r : CheckpointDecoder × Tree} (hs : checkpoint_decoder_tree fuelN a0 a1 a2 = some r), CAt Tryz.prog 72 [.cell (.ref (.a 0) 0), .cell (.ref (.a 1) 0), iV .i64 a2] [.cells [sC a0.rest.bytes, nC a0.rest.err, nC a0.done, .own (.sp 4 a0.out.Frames.length (encL a0.out.Frames)), bC a0.out.Done, nC a0.out.Count, nC a0.out.Blocked], .cells [nC a1.Agent, .own (.sp 2 a1.Kids.length (encL a1.Kids))]] (.ret (.tup [])) [(.a 0, .cells [sC r.1.rest.bytes, nC r.1.rest.err, nC r.1.done, .own (.sp 4 r.1.out.Frames.length (encL r.1.out.Frames)), bC r.1.out.Done, nC r.1.out.Count, nC r.1.out.Blocked]), (.a 1, .cells [nC r.2.Agent, .own (.sp 2 r.2.Kids.length (encL r.2.Kids))])]
 | 0, _, _, _, _, hs => by rw [checkpoint_decoder_tree] at hs; cases hs
 | n + 1, _, _, _, _, hs => by
  rw [checkpoint_decoder_tree] at hs
  exact at_checkpoint_decoder_tree_B (fun _ _ _ _ h => at_checkpoint_decoder_tree h) hs
end Go.Dc
end
section
set_option linter.all false
namespace Go.Dc
open Go Go.Hw Go.Proofs
set_option maxRecDepth 100000
def checkpoint_decoder_tree_Frame2_L1 (fuelN : Nat) (a2 : Int) (y1 : Int × CheckpointDecoder) : Nat -> Int -> (List UInt8) -> Int -> Int -> (List Frame) -> Bool -> Int -> Int -> (List Tree) -> Option ((List UInt8) × Int × Int × (List Frame) × Bool × Int × Int × (List Tree))
 | 0, _, _, _, _, _, _, _, _, _ => none
 | q240 + 1, i150, l151, i152, i153, l154, b155, i156, i157, l158 => cond (andB (ltI i150 y1.1) (eqI i152 0)) (Option.bind (α := (List UInt8) × Int × Int × (List Frame) × Bool × Int × Int × (List Tree)) (Option.bind (checkpoint_rest_int_CheckpointDecoder fuelN ({ rest := ({ bytes := l151, err := i152 } : CheckpointRest), done := i153, out := ({ Frames := l154, Done := b155, Count := i156, Blocked := i157 } : Snapshot) } : CheckpointDecoder)) (fun y282 => Option.bind (checkpoint_decoder_tree fuelN y282.2 ({ Agent := y282.1, Kids := ([] : List Tree) } : Tree) (IntKind.i64.wrap (a2 + 1))) (fun y284 => Option.bind (some ([y284.2])) (fun l302 => guardO (limB 32 (l158.length + l302.length)) (Option.bind (some (l158 ++ l302)) (fun l305 => some ((y284.1.rest.bytes, y284.1.rest.err, y284.1.done, y284.1.out.Frames, y284.1.out.Done, y284.1.out.Count, y284.1.out.Blocked, l305)))))))) (fun o => match o with | (l270, i271, i272, l273, b274, i275, i276, l277) => checkpoint_decoder_tree_Frame2_L1 fuelN a2 y1 q240 (IntKind.i64.wrap (i150 + 1)) l270 i271 i272 l273 b274 i275 i276 l277)) (some ((l151, i152, i153, l154, b155, i156, i157, l158)))
def checkpoint_decoder_tree_Frame2 (fuelN : Nat) (a0 : CheckpointDecoder) (a1 : Frame) (a2 : Int) : Option (CheckpointDecoder × Frame) :=
 Option.bind (checkpoint_rest_uint_CheckpointDecoder fuelN a0) (fun y1 => Option.bind (α := Int × (List Frame) × (List Tree)) (cond (andB (andB (eqI y1.2.rest.err 0) (ltI 0 y1.1)) (eqI a2 512)) (some ((3, y1.2.out.Frames, a1.Tree.Kids))) (some ((y1.2.rest.err, y1.2.out.Frames, a1.Tree.Kids)))) (fun o => match o with | (i4, l5, l6) => Option.bind (checkpoint_decoder_tree_Frame2_L1 fuelN a2 y1 fuelN 0 y1.2.rest.bytes i4 y1.2.done l5 y1.2.out.Done y1.2.out.Count y1.2.out.Blocked l6) (fun o => match o with | (l226, i227, i228, l229, b230, i231, i232, l233) => some (({ rest := ({ bytes := l226, err := i227 } : CheckpointRest), done := i228, out := ({ Frames := l229, Done := b230, Count := i231, Blocked := i232 } : Snapshot) } : CheckpointDecoder), { a1 with Tree := ({ Agent := a1.Tree.Agent, Kids := l233 } : Tree) }))))
set_option maxHeartbeats 2000000 in
theorem at_checkpoint_decoder_tree_Frame2 {fuelN : Nat} {a0 : CheckpointDecoder} {a1 : Frame} {a2 : Int} {r : CheckpointDecoder × Frame} (hs : checkpoint_decoder_tree_Frame2 fuelN a0 a1 a2 = some r) : CAt Tryz.prog 72 [.cell (.ref (.a 0) 0), .cell (.ref (.a 1) 2), iV .i64 a2] [.cells [sC a0.rest.bytes, nC a0.rest.err, nC a0.done, .own (.sp 4 a0.out.Frames.length (encL a0.out.Frames)), bC a0.out.Done, nC a0.out.Count, nC a0.out.Blocked], .cells [nC a1.Agent, sC a1.Sleep, nC a1.Tree.Agent, .own (.sp 2 a1.Tree.Kids.length (encL a1.Tree.Kids))]] (.ret (.tup [])) [(.a 0, .cells [sC r.1.rest.bytes, nC r.1.rest.err, nC r.1.done, .own (.sp 4 r.1.out.Frames.length (encL r.1.out.Frames)), bC r.1.out.Done, nC r.1.out.Count, nC r.1.out.Blocked]), (.a 1, .cells [nC r.2.Agent, sC r.2.Sleep, nC r.2.Tree.Agent, .own (.sp 2 r.2.Tree.Kids.length (encL r.2.Tree.Kids))])] := by
 refine at_bound (by kernel_rfl) fun hb => ?_
 refine at_code mixed Tryz.func72 (by kernel_rfl) rfl (by kernel_rfl) rfl fun Q hQ => ?_
 rw [checkpoint_decoder_tree_Frame2] at hs
 refine goR f0 ?_
 revert hs; refine bK fun y1 hx2 hs => ?_
 refine cB f0 (at_checkpoint_rest_uint_CheckpointDecoder hx2) [.a 0] ?_
 refine goG2 f0 f0 ?_
 revert hs; refine bK fun o8 e7 hs => ?_
 refine awp_cutK (fun (v : Int × (List Frame) × (List Tree)) (σ : St) => some (v) = some o8 /\ σ.env 0 = .cell (.ref (.a 0) 0) /\ σ.env 1 = .cell (.ref (.a 1) 2) /\ σ.env 2 = iV .i64 a2 /\ σ.env 6 = iV .i64 y1.1 /\ σ.hp (.a 0) = some (.cells [sC y1.2.rest.bytes, nC v.1, nC y1.2.done, .own (.sp 4 v.2.1.length (encL v.2.1)), bC y1.2.out.Done, nC y1.2.out.Count, nC y1.2.out.Blocked]) /\ σ.hp (.a 1) = some (.cells [nC a1.Agent, sC a1.Sleep, nC a1.Tree.Agent, .own (.sp 2 v.2.2.length (encL v.2.2))]) /\ 2 <= σ.gen) (by rfl) (fun Q hK9 hX10 => ?_) (fun v σ1 hp => ?_)
 ·refine goG f0 f0 ?_
  revert e7; refine cS f0 ?_ ?_ <;> intro h11 e7
  ·refine goG f0 f0 ?_
   exact hK9 (3, y1.2.out.Frames, a1.Tree.Kids) _ _ (Gh.refl _) ⟨e7, pv f0, pv f0, pv f0, pv f0, pv f0, pv f0, pg⟩
  ·refine goG f0 f0 ?_
   exact hK9 (y1.2.rest.err, y1.2.out.Frames, a1.Tree.Kids) _ _ (Gh.refl _) ⟨e7, pv f0, pv f0, pv f0, pv f0, pv f0, pv f0, pg⟩
 ·obtain ⟨i4, l5, l6⟩ := v
  dsimp only at hp
  obtain ⟨e7, h2_0, h2_1, h2_2, h2_6, g2_0, g2_1, n2_g⟩ := hp
  obtain rfl := sj e7
  try dsimp only at hs
  have F1 := an h2_0 (an h2_1 (an h2_2 (an h2_6 (an g2_0 g2_1))))
  refine goG F1 F1 ?_
  revert hs; refine bK fun o235 e234 hs => ?_
  refine awp_loopW (fun (v : Nat × Int × (List UInt8) × Int × Int × (List Frame) × Bool × Int × Int × (List Tree)) (σ : St) => checkpoint_decoder_tree_Frame2_L1 fuelN a2 y1 v.1 v.2.1 v.2.2.1 v.2.2.2.1 v.2.2.2.2.1 v.2.2.2.2.2.1 v.2.2.2.2.2.2.1 v.2.2.2.2.2.2.2.1 v.2.2.2.2.2.2.2.2.1 v.2.2.2.2.2.2.2.2.2 = some o235 /\ σ.env 0 = .cell (.ref (.a 0) 0) /\ σ.env 1 = .cell (.ref (.a 1) 2) /\ σ.env 2 = iV .i64 a2 /\ σ.env 6 = iV .i64 y1.1 /\ σ.env 7 = iV .i64 v.2.1 /\ σ.hp (.a 0) = some (.cells [sC v.2.2.1, nC v.2.2.2.1, nC v.2.2.2.2.1, .own (.sp 4 v.2.2.2.2.2.1.length (encL v.2.2.2.2.2.1)), bC v.2.2.2.2.2.2.1, nC v.2.2.2.2.2.2.2.1, nC v.2.2.2.2.2.2.2.2.1]) /\ σ.hp (.a 1) = some (.cells [nC a1.Agent, sC a1.Sleep, nC a1.Tree.Agent, .own (.sp 2 v.2.2.2.2.2.2.2.2.2.length (encL v.2.2.2.2.2.2.2.2.2))]) /\ (σ1.gen + 1) <= σ.gen) (fun v => v.1) _ (Gh.refl _) (fuelN, 0, y1.2.rest.bytes, i4, y1.2.done, l5, y1.2.out.Done, y1.2.out.Count, y1.2.out.Blocked, l6) ⟨e234, pv F1, pv F1, pv F1, pv F1, pv F1, pv F1, pv F1, pg⟩ fun v σ10 hp L236 hL237 => ?_
  obtain ⟨q239, i150, l151, i152, i153, l154, b155, i156, i157, l158⟩ := v
  dsimp only at hp hL237
  obtain ⟨e234, h9_0, h9_1, h9_2, h9_6, h9_7, g9_0, g9_1, n9_g⟩ := hp
  rcases q239 with _ | q240
  ·rw [checkpoint_decoder_tree_Frame2_L1] at e234; cases e234
  ·rw [checkpoint_decoder_tree_Frame2_L1] at e234; try dsimp only at e234
   have F2 := an h9_0 (an h9_1 (an h9_2 (an h9_6 (an h9_7 (an g9_0 g9_1)))))
   refine goG F2 F2 ?_
   revert e234; refine cS F2 ?_ ?_ <;> intro h244 e234
   ·refine goG2 F2 F2 ?_
    revert e234; refine bK fun o279 e278 e234 => ?_
    refine awp_cutK (fun (v : (List UInt8) × Int × Int × (List Frame) × Bool × Int × Int × (List Tree)) (σ : St) => some (v) = some o279 /\ σ.env 0 = .cell (.ref (.a 0) 0) /\ σ.env 1 = .cell (.ref (.a 1) 2) /\ σ.env 2 = iV .i64 a2 /\ σ.env 6 = iV .i64 y1.1 /\ σ.env 7 = iV .i64 i150 /\ σ.hp (.a 0) = some (.cells [sC v.1, nC v.2.1, nC v.2.2.1, .own (.sp 4 v.2.2.2.1.length (encL v.2.2.2.1)), bC v.2.2.2.2.1, nC v.2.2.2.2.2.1, nC v.2.2.2.2.2.2.1]) /\ σ.hp (.l 11) = some (.pure (encL v.2.2.2.2.2.2.2)) /\ σ.hp (.a 1) = some (.cells [nC a1.Agent, sC a1.Sleep, nC a1.Tree.Agent, .sl (.l 11) 0 2 v.2.2.2.2.2.2.2.length]) /\ (σ10.gen + 1) <= σ.gen) (by rfl) (fun Q hK280 hX281 => ?_) (fun v σ11 hp => ?_)
    ·refine goG F2 F2 ?_
     revert e278; refine bK fun y282 hx283 e278 => ?_
     refine cB F2 (at_checkpoint_rest_int_CheckpointDecoder hx283) [.a 0] ?_
     repeat (first | simp [F2] | with_reducible first | refine And.intro (by omega) ?_ | refine optF_if (by omega) ?_ | refine gsel_pure (by with_unfolding_all rfl) _ (fun hg => by (try simp at hg); first | (simp [hg, F2]; rfl) | (simp [F2]; simp only [if_pos hg]; simp [F2]; rfl)) ?_)
     refine awp_gh (by rfl) ((Gh.voidB _ (.l 12) (.o (σ10.gen + 2) 5 0) 1 2 rfl (by simp [F2]; rfl) (by first | rfl | simp) (by simp)).trans (Gh.close _ (.o (σ10.gen + 2) 5 0) 1)) ?_
     try simp only [St.frz, St.pur]
     refine goR F2 ?_
     revert e278; refine bK fun y284 hx285 e278 => ?_
     refine cB F2 (at_checkpoint_decoder_tree hx285) [.a 0, .o (σ10.gen + 2) 5 0] ?_
     refine goN F2 ?_
     refine awp_coin rfl (by kernel_rfl) (by kernel_rfl) (by kernel_rfl) (by kernel_rfl) (by kernel_rfl) (by kernel_rfl) (by simp) (by simp) (by simp) fun coin286 => ?_
     simp only [St.coin_eq]
     refine goR F2 ?_
     rcases coin286 with _ | _
     all_goals refine ⟨fun h => ?_, fun h => ?_⟩
     any_goals (cases h; done)
     ·clear h
      refine goN F2 ?_
      refine awp_gh (by rfl) ((Gh.opn _ (.a 1) 3).trans (Gh.opn _ (.o (σ10.gen + 2) 5 0) 1)) ?_
      try simp only [St.frz, St.pur]
      revert e278; refine lK fun l302 hx303 e278 => ?_
      have hx303n : l302.length = 1 := by rw [hx303]; rfl
      obtain ⟨g304, e278⟩ := guardO_some e278
      have g304 := limB_t g304
      obtain ⟨g304a, g304b⟩ := g304
      revert e278; refine lK fun l305 hx306 e278 => ?_
      have hx306n : l305.length = (l158.length + l302.length) := by rw [hx306]; simp
      have hx306e : encL l305 = encL l158 ++ encL l302 := by rw [hx306]; simp
      have F3 := an F2 (an hx303 (an hx306n hx306e))
      refine goD F3 ?_
      exact hK280 (y284.1.rest.bytes, y284.1.rest.err, y284.1.done, y284.1.out.Frames, y284.1.out.Done, y284.1.out.Count, y284.1.out.Blocked, l305) _ _ ((Gh.frz _ (.o (σ10.gen + 6) 0 1)).trans ((Gh.pur _ (.o (σ10.gen + 7) 6 0)).trans ((Gh.pur _ (.o (σ10.gen + 7) 7 0)).trans (Gh.ren _ (.o (σ10.gen + 7) 7 0) (.l 11) (by simp) rfl rfl)))) ⟨e278, pv F3, pv F3, pv F3, pv F3, pv F3, pv F3, pv F3, pv F3, pg⟩
     ·clear h
      replace e278 := (show (Option.bind (some ([y284.2])) (fun l302 => guardO (limB 32 (l158.length + l302.length)) (Option.bind (some (l158 ++ l302)) (fun l305 => some ((y284.1.rest.bytes, y284.1.rest.err, y284.1.done, y284.1.out.Frames, y284.1.out.Done, y284.1.out.Count, y284.1.out.Blocked, l305)))))) = _ -> (Option.bind (some ([({ Agent := 0, Kids := [] } : Tree)])) (fun l287 => guardO (limB 32 (l158.length + l287.length)) (Option.bind (some (l158 ++ l287)) (fun l290 => Option.bind (l290[l158.length]?) (fun x292 => Option.bind (some (l290.set l158.length y284.2)) (fun l294 => some ((y284.1.rest.bytes, y284.1.rest.err, y284.1.done, y284.1.out.Frames, y284.1.out.Done, y284.1.out.Count, y284.1.out.Blocked, l294)))))))) = _ from fun h => by simp only [Option.bind_some, coin_get, coin_set] at h ⊢; exact h) e278
      revert e278; refine lK fun l287 hx288 e278 => ?_
      have hx288n : l287.length = 1 := by rw [hx288]; rfl
      obtain ⟨g289, e278⟩ := guardO_some e278
      have g289 := limB_t g289
      obtain ⟨g289a, g289b⟩ := g289
      revert e278; refine lK fun l290 hx291 e278 => ?_
      have hx291n : l290.length = (l158.length + l287.length) := by rw [hx291]; simp
      have hx291e : encL l290 = encL l158 ++ encL l287 := by rw [hx291]; simp
      have F4 := an F2 (an hx288 (an hx291n hx291e))
      refine goN F4 ?_
      refine awp_reg ?_
      refine goN F4 ?_
      refine awp_gh (by rfl) ((Gh.opn _ (.o (σ10.gen + 2) 5 0) 1).trans (Gh.frz _ (.o (σ10.gen + 6) 0 1))) ?_
      try simp only [St.frz, St.pur]
      revert e278; refine bK fun x292 hx293 e278 => ?_
      have hx293b := getN_some hx293
      revert e278; refine lK fun l294 hx295 e278 => ?_
      have f296 : setRun (encL l290) (l158.length * 2) [.c (.int .i64 y284.2.Agent), .sl y284.2.Kids.length (encL y284.2.Kids)] = encL l294 := hx295 ▸ setRun_enc hx293 (f := 0) (by simp) (by simp [setRun])
      simp only [setRun] at f296
      have f296z := f296
      try simp [F4] at f296z
      have f296n : l294.length = l290.length := by rw [hx295]; simp
      have F5 := an F4 (an f296z (an f296 f296n))
      refine goR F5 ?_
      exact hK280 (y284.1.rest.bytes, y284.1.rest.err, y284.1.done, y284.1.out.Frames, y284.1.out.Done, y284.1.out.Count, y284.1.out.Blocked, l294) _ _ (Gh.ren _ (.o (σ10.gen + 5) 6 0) (.l 11) (by simp) rfl rfl) ⟨e278, pv F5, pv F5, pv F5, pv F5, pv F5, pv F5, pv F5, pv F5, pg⟩
    ·obtain ⟨l270, i271, i272, l273, b274, i275, i276, l277⟩ := v
     dsimp only at hp
     obtain ⟨e278, h12_0, h12_1, h12_2, h12_6, h12_7, g12_0, g12_1, g12_2, n12_g⟩ := hp
     obtain rfl := sj e278
     try dsimp only at e234
     have F6 := an h12_0 (an h12_1 (an h12_2 (an h12_6 (an h12_7 (an g12_0 (an g12_1 g12_2))))))
     refine goG F6 F6 ?_
     exact hL237 (q240, IntKind.i64.wrap (i150 + 1), l270, i271, i272, l273, b274, i275, i276, l277) _ _ (Gh.close _ (.a 1) 3) ⟨e234, pv F6, pv F6, pv F6, pv F6, pv F6, pv F6, pv F6, pg⟩ (by omega)
   ·refine goG F2 F2 ?_
    obtain rfl := sj e234
    try dsimp only at hs
    obtain rfl := sj hs
    refine hQ _ _ (ret2g _ (Gh.refl _) (by simp [St.frz, St.pur, F2]; rfl) (by first | rfl | (simp [St.frz, St.pur, F2]; done) | (rw [if_pos (by first | omega | (simp; omega))]; simp [St.frz, St.pur, F2]; first | omega | exact List.take_of_length_le (by simp; omega) | skip)) (pv F2))
end Go.Dc
end
section
set_option linter.all false
namespace Go.Dc
open Go Go.Hw Go.Proofs
set_option maxRecDepth 100000
def checkpoint_decoder_snapshot_L1 (fuelN : Nat) (y7 : Int × CheckpointDecoder) : Nat -> Int -> (List UInt8) -> Int -> Int -> (List Frame) -> Bool -> Int -> Int -> Option ((List UInt8) × Int × Int × (List Frame) × Bool × Int × Int)
 | 0, _, _, _, _, _, _, _, _ => none
 | q108 + 1, i65, l66, i67, i68, l69, b70, i71, i72 => cond (andB (ltI i65 y7.1) (eqI i67 0)) (Option.bind (checkpoint_rest_int_CheckpointDecoder fuelN ({ rest := ({ bytes := l66, err := i67 } : CheckpointRest), done := i68, out := ({ Frames := l69, Done := b70, Count := i71, Blocked := i72 } : Snapshot) } : CheckpointDecoder)) (fun y117 => Option.bind (checkpoint_rest_ints_CheckpointDecoder fuelN y117.2) (fun y119 => Option.bind (checkpoint_decoder_tree_Frame2 fuelN y119.2 ({ Agent := y117.1, Sleep := y119.1, Tree := ({ Agent := 0, Kids := ([] : List Tree) } : Tree) } : Frame) 0) (fun y121 => Option.bind (some ([y121.2])) (fun l128 => guardO (limB 64 (y121.1.out.Frames.length + l128.length)) (Option.bind (some (y121.1.out.Frames ++ l128)) (fun l131 => checkpoint_decoder_snapshot_L1 fuelN y7 q108 (IntKind.i64.wrap (i65 + 1)) y121.1.rest.bytes y121.1.rest.err y121.1.done l131 y121.1.out.Done y121.1.out.Count y121.1.out.Blocked))))))) (some ((l66, i67, i68, l69, b70, i71, i72)))
def checkpoint_decoder_snapshot (fuelN : Nat) (a0 : CheckpointDecoder) : Option CheckpointDecoder :=
 Option.bind (checkpoint_rest_uint_CheckpointDecoder fuelN a0) (fun y1 => Option.bind (checkpoint_rest_uint_CheckpointDecoder fuelN ({ rest := y1.2.rest, done := y1.1, out := ({ Frames := y1.2.out.Frames, Done := eqI y1.1 1, Count := y1.2.out.Count, Blocked := y1.2.out.Blocked } : Snapshot) } : CheckpointDecoder)) (fun y3 => Option.bind (checkpoint_rest_uint_CheckpointDecoder fuelN ({ rest := y3.2.rest, done := y3.2.done, out := ({ Frames := y3.2.out.Frames, Done := y3.2.out.Done, Count := y3.1, Blocked := y3.2.out.Blocked } : Snapshot) } : CheckpointDecoder)) (fun y5 => Option.bind (checkpoint_rest_uint_CheckpointDecoder fuelN ({ rest := y5.2.rest, done := y5.2.done, out := ({ Frames := y5.2.out.Frames, Done := y5.2.out.Done, Count := y5.2.out.Count, Blocked := y5.1 } : Snapshot) } : CheckpointDecoder)) (fun y7 => Option.bind (α := Int × (List Frame)) (cond (andB (eqI y7.2.rest.err 0) (ltI 512 y7.1)) (some ((3, y7.2.out.Frames))) (some ((y7.2.rest.err, y7.2.out.Frames)))) (fun o => match o with | (i10, l11) => Option.bind (checkpoint_decoder_snapshot_L1 fuelN y7 fuelN 0 y7.2.rest.bytes i10 y7.2.done l11 y7.2.out.Done y7.2.out.Count y7.2.out.Blocked) (fun o => match o with | (l95, i96, i97, l98, b99, i100, i101) => some ({ rest := ({ bytes := l95, err := i96 } : CheckpointRest), done := i97, out := ({ Frames := l98, Done := b99, Count := i100, Blocked := i101 } : Snapshot) } : CheckpointDecoder)))))))
set_option maxHeartbeats 2000000 in
theorem at_checkpoint_decoder_snapshot {fuelN : Nat} {a0 : CheckpointDecoder} {r : CheckpointDecoder} (hs : checkpoint_decoder_snapshot fuelN a0 = some r) : CAt Tryz.prog 36 [.cell (.ref (.a 0) 0)] [.cells [sC a0.rest.bytes, nC a0.rest.err, nC a0.done, .own (.sp 4 a0.out.Frames.length (encL a0.out.Frames)), bC a0.out.Done, nC a0.out.Count, nC a0.out.Blocked]] (.ret (.tup [])) [(.a 0, .cells [sC r.rest.bytes, nC r.rest.err, nC r.done, .own (.sp 4 r.out.Frames.length (encL r.out.Frames)), bC r.out.Done, nC r.out.Count, nC r.out.Blocked])] := by
 refine at_bound (by kernel_rfl) fun hb => ?_
 refine at_code mixed Tryz.func36 (by kernel_rfl) rfl (by kernel_rfl) rfl fun Q hQ => ?_
 rw [checkpoint_decoder_snapshot] at hs
 refine goR f0 ?_
 revert hs; refine bK fun y1 hx2 hs => ?_
 refine cB f0 (at_checkpoint_rest_uint_CheckpointDecoder hx2) [.a 0] ?_
 refine goR f0 ?_
 revert hs; refine bK fun y3 hx4 hs => ?_
 refine cB f0 (at_checkpoint_rest_uint_CheckpointDecoder hx4) [.a 0] ?_
 refine goR f0 ?_
 revert hs; refine bK fun y5 hx6 hs => ?_
 refine cB f0 (at_checkpoint_rest_uint_CheckpointDecoder hx6) [.a 0] ?_
 refine goR f0 ?_
 revert hs; refine bK fun y7 hx8 hs => ?_
 refine cB f0 (at_checkpoint_rest_uint_CheckpointDecoder hx8) [.a 0] ?_
 refine goG2 f0 f0 ?_
 revert hs; refine bK fun o13 e12 hs => ?_
 refine awp_cutK (fun (v : Int × (List Frame)) (σ : St) => some (v) = some o13 /\ σ.env 0 = .cell (.ref (.a 0) 0) /\ σ.env 2 = iV .i64 y7.1 /\ σ.hp (.a 0) = some (.cells [sC y7.2.rest.bytes, nC v.1, nC y7.2.done, .own (.sp 4 v.2.length (encL v.2)), bC y7.2.out.Done, nC y7.2.out.Count, nC y7.2.out.Blocked]) /\ 6 <= σ.gen) (by rfl) (fun Q hK14 hX15 => ?_) (fun v σ1 hp => ?_)
 ·refine goG f0 f0 ?_
  revert e12; refine cS f0 ?_ ?_ <;> intro h16 e12
  ·refine goG f0 f0 ?_
   exact hK14 (3, y7.2.out.Frames) _ _ (Gh.refl _) ⟨e12, pv f0, pv f0, pv f0, pg⟩
  ·refine goG f0 f0 ?_
   exact hK14 (y7.2.rest.err, y7.2.out.Frames) _ _ (Gh.refl _) ⟨e12, pv f0, pv f0, pv f0, pg⟩
 ·obtain ⟨i10, l11⟩ := v
  dsimp only at hp
  obtain ⟨e12, h2_0, h2_2, g2_0, n2_g⟩ := hp
  obtain rfl := sj e12
  try dsimp only at hs
  have F1 := an h2_0 (an h2_2 g2_0)
  refine goG F1 F1 ?_
  revert hs; refine bK fun o103 e102 hs => ?_
  refine awp_loopW (fun (v : Nat × Int × (List UInt8) × Int × Int × (List Frame) × Bool × Int × Int) (σ : St) => checkpoint_decoder_snapshot_L1 fuelN y7 v.1 v.2.1 v.2.2.1 v.2.2.2.1 v.2.2.2.2.1 v.2.2.2.2.2.1 v.2.2.2.2.2.2.1 v.2.2.2.2.2.2.2.1 v.2.2.2.2.2.2.2.2 = some o103 /\ σ.env 0 = .cell (.ref (.a 0) 0) /\ σ.env 2 = iV .i64 y7.1 /\ σ.env 3 = iV .i64 v.2.1 /\ σ.hp (.a 0) = some (.cells [sC v.2.2.1, nC v.2.2.2.1, nC v.2.2.2.2.1, .own (.sp 4 v.2.2.2.2.2.1.length (encL v.2.2.2.2.2.1)), bC v.2.2.2.2.2.2.1, nC v.2.2.2.2.2.2.2.1, nC v.2.2.2.2.2.2.2.2]) /\ (σ1.gen + 1) <= σ.gen) (fun v => v.1) _ (Gh.refl _) (fuelN, 0, y7.2.rest.bytes, i10, y7.2.done, l11, y7.2.out.Done, y7.2.out.Count, y7.2.out.Blocked) ⟨e102, pv F1, pv F1, pv F1, pv F1, pg⟩ fun v σ4 hp L104 hL105 => ?_
  obtain ⟨q107, i65, l66, i67, i68, l69, b70, i71, i72⟩ := v
  dsimp only at hp hL105
  obtain ⟨e102, h3_0, h3_2, h3_3, g3_0, n3_g⟩ := hp
  rcases q107 with _ | q108
  ·rw [checkpoint_decoder_snapshot_L1] at e102; cases e102
  ·rw [checkpoint_decoder_snapshot_L1] at e102; try dsimp only at e102
   have F2 := an h3_0 (an h3_2 (an h3_3 g3_0))
   refine goG F2 F2 ?_
   revert e102; refine cS F2 ?_ ?_ <;> intro h112 e102
   ·refine goE F2 F2 ?_
    revert e102; refine bK fun y117 hx118 e102 => ?_
    refine cB F2 (at_checkpoint_rest_int_CheckpointDecoder hx118) [.a 0] ?_
    refine goE F2 F2 ?_
    revert e102; refine bK fun y119 hx120 e102 => ?_
    refine cB F2 (at_checkpoint_rest_ints_CheckpointDecoder hx120) [.a 0] ?_
    repeat (first | simp [F2] | with_reducible first | refine ord_l (by decide +kernel) ?_ | refine ord_e (by decide +kernel) ?_ | refine ord_c (by decide +kernel) ?_ | refine ord_d (by decide +kernel) ?_ | refine ord_c3 (by decide +kernel) ?_ | refine ord_d3 (by decide +kernel) ?_ | refine And.intro (by omega) ?_ | refine optF_if (by omega) ?_ | refine gsel_pure (by with_unfolding_all rfl) _ (fun hg => by (try simp at hg); first | (simp [hg, F2]; rfl) | (simp [F2]; simp only [if_pos hg]; simp [F2]; rfl)) ?_ | refine dskip_intro ?_ | refine dsel_pure (by with_unfolding_all rfl) _ (fun hg => by (try simp at hg); simp [hg, F2]; rfl) ?_)
    refine awp_gh (by rfl) ((Gh.voidB _ (.l 4) (.o (σ4.gen + 2) 9 0) 3 2 rfl (by simp [F2]; rfl) (by first | rfl | simp) (by simp)).trans (Gh.close _ (.o (σ4.gen + 2) 9 0) 3)) ?_
    try simp only [St.frz, St.pur]
    refine goR F2 ?_
    revert e102; refine bK fun y121 hx122 e102 => ?_
    refine cB F2 (at_checkpoint_decoder_tree_Frame2 hx122) [.a 0, .o (σ4.gen + 2) 9 0] ?_
    refine goN F2 ?_
    refine awp_gh (by rfl) ((Gh.opn _ (.a 0) 3).trans (Gh.opn _ (.o (σ4.gen + 2) 9 0) 3)) ?_
    try simp only [St.frz, St.pur]
    revert e102; refine lK fun l128 hx129 e102 => ?_
    have hx129n : l128.length = 1 := by rw [hx129]; rfl
    obtain ⟨g130, e102⟩ := guardO_some e102
    have g130 := limB_t g130
    obtain ⟨g130a, g130b⟩ := g130
    revert e102; refine lK fun l131 hx132 e102 => ?_
    have hx132n : l131.length = (y121.1.out.Frames.length + l128.length) := by rw [hx132]; simp
    have hx132e : encL l131 = encL y121.1.out.Frames ++ encL l128 := by rw [hx132]; simp
    have F3 := an F2 (an hx129 (an hx132n hx132e))
    refine goN F3 ?_
    refine awp_draw ?_
    refine goN F3 ?_
    refine awp_gh (by rfl) ((Gh.frz _ (.o (σ4.gen + 5) 0 3)).trans ((Gh.pur _ (.o (σ4.gen + 6) 7 0)).trans (Gh.pur _ (.o (σ4.gen + 6) 8 0)))) ?_
    try simp only [St.frz, St.pur]
    refine goR F3 ?_
    have f133 : (encL l131).take (l131.length * 4) = encL l131 := encL_takeN _ (by simp)
    try simp [F3] at f133
    have f133l : l131.length * 4 <= (encL l131).length := by rw [encL_length]; simp
    try simp [F3] at f133l
    have F4 := an F3 (an f133 f133l)
    exact hL105 (q108, IntKind.i64.wrap (i65 + 1), y121.1.rest.bytes, y121.1.rest.err, y121.1.done, l131, y121.1.out.Done, y121.1.out.Count, y121.1.out.Blocked) _ _ (Gh.close _ (.a 0) 3) ⟨e102, pv F4, pv F4, pv F4, pv F4, pg⟩ (by omega)
   ·refine goG F2 F2 ?_
    obtain rfl := sj e102
    try dsimp only at hs
    obtain rfl := sj hs
    refine hQ _ _ (ret2g _ (Gh.refl _) (by simp [St.frz, St.pur, F2]; rfl) (by first | rfl | (simp [St.frz, St.pur, F2]; done) | (rw [if_pos (by first | omega | (simp; omega))]; simp [St.frz, St.pur, F2]; first | omega | exact List.take_of_length_le (by simp; omega) | skip)) (pv F2))
end Go.Dc
end
section
set_option linter.all false
namespace Go.Dc.Pl
open Go Go.Hw Go.Dc
abbrev Rd := List UInt8 × Int
def rdU (r : Rd) : Int × Rd := if r.2 = 0 then uintR r.1 else (0, r)
def rdI (r : Rd) : Int × Rd := if r.2 = 0 then intR r.1 else (0, r)
def rdL (r : Rd) : List Int × Rd := if r.2 = 0 then intsR 2048 r.1 else ([], r)
/-- How far a reader can still go. -/
def meas (r : Rd) : Nat := if r.2 = 0 then r.1.length + 1 else 0
/-- The children of a node: rem of them at most. -/
def trL (F : Rd -> List Tree × Rd) : Nat -> Rd -> List Tree -> List Tree × Rd
 | 0, r, acc => (acc, r)
 | rem + 1, r, acc => if r.2 = 0 then trL F rem (F (rdI r).2).2 (acc ++ [⟨(rdI r).1, (F (rdI r).2).1⟩]) else (acc, r)
def deep (m : Nat) (x : Int × Rd) : Rd := if x.2.2 = 0 /\ 0 < x.1 /\ m = 0 then (x.2.1, 3) else x.2
def tr : Nat -> Rd -> List Tree × Rd
 | 0, r => trL (fun r => ([], r)) (rdU r).1.toNat (deep 0 (rdU r)) []
 | m + 1, r => trL (tr m) (rdU r).1.toNat (deep (m + 1) (rdU r)) []
/-! The program's readers. -/
def rst (d : CheckpointDecoder) : Rd := (d.rest.bytes, d.rest.err)
def withR (d : CheckpointDecoder) (r : Rd) : CheckpointDecoder := { d with rest := ⟨r.1, r.2⟩ }
def mkD (r : Rd) (dn : Int) (fr : List Frame) (D : Bool) (c b : Int) : CheckpointDecoder := ⟨⟨r.1, r.2⟩, dn, ⟨fr, D, c, b⟩⟩
end Go.Dc.Pl
end
section
set_option linter.all false
namespace Go.Dc.Pl
open Go Go.Hw Go.Dc
/-- The frames: rem of them at most. -/
def frL : Nat -> Rd -> List Frame -> List Frame × Rd
 | 0, r, acc => (acc, r)
 | rem + 1, r, acc => if r.2 = 0 then frL rem (tr 512 (rdL (rdI r).2).2).2 (acc ++ [⟨(rdI r).1, (rdL (rdI r).2).1, ⟨0, (tr 512 (rdL (rdI r).2).2).1⟩⟩]) else (acc, r)
def many (x : Int × Rd) : Rd := if x.2.2 = 0 /\ 512 < x.1 then (x.2.1, 3) else x.2
/-- What a snapshot's bytes come to: how done is written, the snapshot, what is left. -/
def snapR (r : Rd) : Int × Snapshot × Rd :=
 let d := rdU r; let c := rdU d.2; let b := rdU c.2; let n := rdU b.2
 let l := frL n.1.toNat (many n) []
 (d.1, ⟨l.1, eqI d.1 1, c.1, b.1⟩, l.2)
end Go.Dc.Pl
end
section
set_option linter.all false
namespace Go.Dc
open Go Go.Hw Go.Proofs
set_option maxRecDepth 100000
def r06_sum (a0 : Int) : Option (List UInt8) :=
 Option.bind (some ([u8 (IntKind.u8.wrap a0), u8 (IntKind.u8.wrap (IntKind.u32.wrap (Int.tdiv a0 256))), u8 (IntKind.u8.wrap (IntKind.u32.wrap (Int.tdiv a0 65536))), u8 (IntKind.u8.wrap (IntKind.u32.wrap (Int.tdiv a0 16777216)))])) (fun l1 => some l1)
set_option maxHeartbeats 2000000 in
theorem at_r06_sum {a0 : Int} {r : (List UInt8)} (hs : r06_sum a0 = some r) : At Tryz.prog 59 [iV .u32 a0] (.cell (sC r)) := by
 refine at_bound (by kernel_rfl) fun hb => ?_
 refine at_code mixed Tryz.func59 (by kernel_rfl) rfl (by kernel_rfl) rfl fun Q hQ => ?_
 rw [r06_sum] at hs
 revert hs; refine lK fun l1 hx2 hs => ?_
 have hx2n : l1.length = 4 := by rw [hx2]; rfl
 refine goR hx2 ?_
 obtain rfl := sj hs
 exact hQ _ _ (rg hx2 (Gh.frz _ (.o 2 11 0)))
end Go.Dc
end
section
set_option linter.all false
namespace Go.Dc
open Go Go.Hw Go.Proofs
set_option maxRecDepth 100000
def r06_Uint_L1 (a0 : List UInt8) : Nat -> Int -> Option Int
 | 0, _ => none
 | q47 + 1, i35 => guardO (orB (!(andB (ltI i35 ((a0.length : Nat) : Int)) (ltI i35 9))) (inB i35 a0.length)) (cond (andB (andB (ltI i35 ((a0.length : Nat) : Int)) (ltI i35 9)) (!(ltI (((gd a0 ((i35).toNat))).toNat : Int) 128))) (r06_Uint_L1 a0 q47 (IntKind.i64.wrap (i35 + 1))) (some (i35)))
def r06_Uint_L2 (a0 : List UInt8) : Nat -> Int -> Int -> Option Int
 | 0, _, _ => none
 | q114 + 1, i100, i101 => cond (!(ltI i101 0)) (Option.bind (getI a0 i101) (fun x119 => r06_Uint_L2 a0 q114 (IntKind.i64.wrap (IntKind.i64.wrap (i100 * 128) + IntKind.i64.wrap (Int.tmod (x119.toNat : Int) 128))) (IntKind.i64.wrap (i101 - 1)))) (some (i100))
def r06_Uint (fuelN : Nat) (a0 : List UInt8) : Option (Int × (List UInt8) × Int) :=
 Option.bind (α := Int) (Option.bind (r06_Uint_L1 a0 fuelN 0) (fun i40 => some (i40))) (fun i25 => cond (eqI i25 9) (some (0, [], 2)) (cond (eqI i25 ((a0.length : Nat) : Int)) (some (0, [], 22)) (guardO (orB (!(ltI 0 i25)) (inB i25 a0.length)) (cond (andB (ltI 0 i25) (eqI (((gd a0 ((i25).toNat))).toNat : Int) 0)) (some (0, [], 3)) (Option.bind (α := Int) (Option.bind (r06_Uint_L2 a0 fuelN 0 i25) (fun i107 => some (i107))) (fun i88 => cond (ltI 4611686018427387904 i88) (some (0, [], 2)) (Option.bind (some (([] : List UInt8))) (fun l123 => guardO (slB (IntKind.i64.wrap (i25 + 1)) (a0.length : Int) a0.length) (Option.bind (some (subL a0 (IntKind.i64.wrap (i25 + 1)) (a0.length : Int))) (fun l126 => guardO (limB 1 (l123.length + l126.length)) (Option.bind (some (l123 ++ l126)) (fun l130 => some (i88, l130, 0)))))))))))))
end Go.Dc
end
section
set_option linter.all false
namespace Go.Dc
open Go Go.Hw Go.Proofs
set_option maxRecDepth 100000
def r06_Same (a0 : List UInt8) (a1 : List UInt8) : Option Bool :=
 some (eqS (⟨a0.toArray⟩ : ByteArray) (⟨a1.toArray⟩ : ByteArray))
end Go.Dc
end
section
set_option linter.all false
namespace Go.Dc
open Go Go.Hw Go.Proofs
set_option maxRecDepth 100000
def r06_Open (fuelN : Nat) (a0 : List UInt8) : Option ((List UInt8) × (List UInt8) × Int) :=
 Option.bind (r06_Uint fuelN a0) (fun y1 => cond (!(eqI y1.2.2 0)) (some ([], [], y1.2.2)) (cond (orB (ltI ((y1.2.1.length : Nat) : Int) 4) (ltI (IntKind.i64.wrap (((y1.2.1.length : Nat) : Int) - 4)) y1.1)) (some ([], [], 22)) (guardO (slB (IntKind.i64.wrap (IntKind.i64.wrap (((a0.length : Nat) : Int) - ((y1.2.1.length : Nat) : Int)) + y1.1)) (IntKind.i64.wrap (IntKind.i64.wrap (IntKind.i64.wrap (((a0.length : Nat) : Int) - ((y1.2.1.length : Nat) : Int)) + y1.1) + 4)) a0.length) (Option.bind (some (subL a0 (IntKind.i64.wrap (IntKind.i64.wrap (((a0.length : Nat) : Int) - ((y1.2.1.length : Nat) : Int)) + y1.1)) (IntKind.i64.wrap (IntKind.i64.wrap (IntKind.i64.wrap (((a0.length : Nat) : Int) - ((y1.2.1.length : Nat) : Int)) + y1.1) + 4)))) (fun l20 => guardO (slB 0 (IntKind.i64.wrap (IntKind.i64.wrap (((a0.length : Nat) : Int) - ((y1.2.1.length : Nat) : Int)) + y1.1)) a0.length) (Option.bind (some (subL a0 0 (IntKind.i64.wrap (IntKind.i64.wrap (((a0.length : Nat) : Int) - ((y1.2.1.length : Nat) : Int)) + y1.1)))) (fun l24 => Option.bind (r06_Checksum fuelN l24) (fun y27 => Option.bind (r06_sum y27) (fun y29 => Option.bind (r06_Same l20 y29) (fun y31 => cond (!y31) (some ([], [], 21)) (Option.bind (some (([] : List UInt8))) (fun l52 => guardO (slB 0 y1.1 y1.2.1.length) (Option.bind (some (subL y1.2.1 0 y1.1)) (fun l55 => guardO (limB 1 (l52.length + l55.length)) (Option.bind (some (l52 ++ l55)) (fun l59 => Option.bind (some (([] : List UInt8))) (fun l61 => guardO (slB (IntKind.i64.wrap (y1.1 + 4)) (y1.2.1.length : Int) y1.2.1.length) (Option.bind (some (subL y1.2.1 (IntKind.i64.wrap (y1.1 + 4)) (y1.2.1.length : Int))) (fun l64 => guardO (limB 1 (l61.length + l64.length)) (Option.bind (some (l61 ++ l64)) (fun l68 => some (l59, l68, 0))))))))))))))))))))))
end Go.Dc
end
section
set_option linter.all false
namespace Go.Dc
open Go Go.Hw Go.Proofs
set_option maxRecDepth 100000
def r06_Int (fuelN : Nat) (a0 : List UInt8) : Option (Int × (List UInt8) × Int) :=
 Option.bind (r06_Uint fuelN a0) (fun y1 => cond (!(eqI y1.2.2 0)) (some (0, [], y1.2.2)) (cond (eqI (Int.tmod y1.1 2) 1) (some (IntKind.i64.wrap (IntKind.i64.wrap (0 - IntKind.i64.wrap (Int.tdiv y1.1 2)) - 1), y1.2.1, 0)) (some (IntKind.i64.wrap (Int.tdiv y1.1 2), y1.2.1, 0))))
end Go.Dc
end
section
set_option linter.all false
namespace Go.Dc
open Go Go.Hw Go.Proofs
set_option maxRecDepth 100000
def r06_Ints_L1 (fuelN : Nat) (y1 : Int × (List UInt8) × Int) : Nat -> (List UInt8) -> (List Int) -> Int -> Option (((List UInt8) × (List Int)) ⊕ ((List Int) × (List UInt8) × Int))
 | 0, _, _, _ => none
 | q93 + 1, l72, l73, i74 => cond (ltI i74 y1.1) (Option.bind (r06_Int fuelN l72) (fun y98 => cond (!(eqI y98.2.2 0)) (some (.inr ([], [], y98.2.2))) (Option.bind (some ([y98.1])) (fun l101 => guardO (limB 8 (l73.length + l101.length)) (Option.bind (some (l73 ++ l101)) (fun l104 => r06_Ints_L1 fuelN y1 q93 y98.2.1 l104 (IntKind.i64.wrap (i74 + 1)))))))) (some (.inl (l72, l73)))
def r06_Ints (fuelN : Nat) (a0 : List UInt8) (a1 : Int) : Option ((List Int) × (List UInt8) × Int) :=
 Option.bind (r06_Uint fuelN a0) (fun y1 => cond (!(eqI y1.2.2 0)) (some ([], [], y1.2.2)) (cond (ltI (if 0 > a1 then 0 else a1) y1.1) (some ([], [], 4)) (Option.bind (α := ((List UInt8) × (List Int)) ⊕ ((List Int) × (List UInt8) × Int)) (Option.bind (r06_Ints_L1 fuelN y1 fuelN y1.2.1 [] 0) (fun o => match o with | .inl (l85, l86) => some (.inl (l85, l86)) | .inr r106 => some (.inr r106))) (fun o => match o with | .inl (l53, l54) => some (l54, l53, 0) | .inr r107 => some r107))))
end Go.Dc
end
section
set_option linter.all false
namespace Go.Dc
open Go Go.Hw Go.Proofs
set_option maxRecDepth 100000
def r06_Seal (fuelN : Nat) (a0 : List UInt8) : Option (List UInt8) :=
 Option.bind (r06_AppendUint fuelN [] ((a0.length : Nat) : Int)) (fun y1 => guardO (limB 1 (y1.length + a0.length)) (Option.bind (some (y1 ++ a0)) (fun l4 => Option.bind (r06_Checksum fuelN l4) (fun y7 => Option.bind (r06_sum y7) (fun y9 => guardO (limB 1 (l4.length + y9.length)) (Option.bind (some (l4 ++ y9)) (fun l12 => some l12)))))))
set_option maxHeartbeats 2000000 in
theorem at_r06_Seal {fuelN : Nat} {a0 : List UInt8} {r : (List UInt8)} (hs : r06_Seal fuelN a0 = some r) : At Tryz.prog 31 [.cell (sC a0)] (.cell (sC r)) := by
 refine at_bound (by kernel_rfl) fun hb => ?_
 have hb1 : LenOk (.sl a0.length (encL a0)) := lkc hb
 refine at_code mixed Tryz.func31 (by kernel_rfl) rfl (by kernel_rfl) rfl fun Q hQ => ?_
 rw [r06_Seal] at hs
 refine goR f0 ?_
 revert hs; refine bK fun y1 hx2 hs => ?_
 refine cA f0 (at_unz (args := [.cell (.z), iV .i64 ((a0.length : Nat) : Int)]) (by simp) (at_r06_AppendUint hx2)) ?_
 obtain ⟨g3, hs⟩ := guardO_some hs
 have g3 := limB_t g3
 obtain ⟨g3a, g3b⟩ := g3
 revert hs; refine lK fun l4 hx5 hs => ?_
 have hx5n : l4.length = (y1.length + a0.length) := by rw [hx5]; simp
 have hx5e : encL l4 = encL y1 ++ encL a0 := by rw [hx5]; simp
 have f6 : (encL l4).take (l4.length) = encL l4 := encL_take1 _ (by simp)
 have F1 := an hx5n hx5e
 try simp [F1] at f6
 have f6l : l4.length * 1 <= (encL l4).length := by rw [encL_length]; simp
 try simp [F1] at f6l
 have F2 := an F1 (an f6 f6l)
 refine goR F2 ?_
 revert hs; refine bK fun y7 hx8 hs => ?_
 refine cA F2 (at_r06_Checksum hx8) ?_
 refine goR F2 ?_
 revert hs; refine bK fun y9 hx10 hs => ?_
 refine cP F2 (at_r06_sum hx10) ?_
 obtain ⟨g11, hs⟩ := guardO_some hs
 have g11 := limB_t g11
 obtain ⟨g11a, g11b⟩ := g11
 revert hs; refine lK fun l12 hx13 hs => ?_
 have hx13n : l12.length = (l4.length + y9.length) := by rw [hx13]; simp
 have hx13e : encL l12 = encL l4 ++ encL y9 := by rw [hx13]; simp
 have F3 := an F2 (an hx13n hx13e)
 refine goR F3 ?_
 have f14 : (encL l12).take (l12.length) = encL l12 := encL_take1 _ (by simp)
 try simp [F3] at f14
 have f14l : l12.length * 1 <= (encL l12).length := by rw [encL_length]; simp
 try simp [F3] at f14l
 obtain rfl := sj hs
 have F4 := an F3 (an f14 f14l)
 exact hQ _ _ (rg F4 (Gh.frz _ (.o 3 4 0)))
end Go.Dc
end
section
set_option linter.all false
namespace Go.Dc.Pl
open Go Go.Hw Go.Dc
theorem ref_sum {c : Nat} (h : c < 4294967296) : r06_sum (c : Int) = some (sumB c) := by
 have e : ∀ s : Nat, 0 < s -> IntKind.u32.wrap (Int.tdiv (c : Int) (s : Int)) = ((c / s : Nat) : Int) := fun s hs => by
  rw [tdiv_nat, wrap_u32_nat, Nat.mod_eq_of_lt (Nat.lt_of_le_of_lt (Nat.div_le_self _ _) h)]
 have e1 := e 256 (by omega); have e2 := e 65536 (by omega); have e3 := e 16777216 (by omega)
 rw [r06_sum, show (256 : Int) = ((256 : Nat) : Int) from rfl, show (65536 : Int) = ((65536 : Nat) : Int) from rfl, show (16777216 : Int) = ((16777216 : Nat) : Int) from rfl, e1, e2, e3, u8_nat, u8_nat, u8_nat, u8_nat]; rfl
theorem ref_seal {f : Nat} {p : List UInt8} (hp : p.length <= 100000000000) (hf : p.length + 100 <= f) : r06_Seal f p = some (sealB p) := by
 have h9 := uintB_le9 (n := p.length) (by omega)
 have hc := crc_lt (uintB p.length ++ p)
 have e : appU [] ((p.length : Nat) : Int) = uintB p.length := by unfold appU; rw [if_neg (by omega)]; simp
 rw [r06_Seal, ref_appU (by omega) (by simp), Option.bind_some, e, lim1 (by omega), guardO_t, Option.bind_some, ref_crc (by omega) (by simp; omega) (by simp; omega), Option.bind_some, ref_sum (by omega), Option.bind_some, lim1 (by simp [sumB]; omega)]
 rfl
end Go.Dc.Pl
end
section
set_option linter.all false
namespace Go.Dc
open Go Go.Hw Go.Proofs
set_option maxRecDepth 100000
def checkpoint_agent (a0 : Int) : Option Bool :=
 some (andB (!(ltI a0 (-2147483648))) (!(ltI 2147483647 a0)))
set_option maxHeartbeats 2000000 in
theorem at_checkpoint_agent {a0 : Int} {r : Bool} (hs : checkpoint_agent a0 = some r) : At Tryz.prog 60 [iV .i64 a0] (bV r) := by
 refine at_bound (by kernel_rfl) fun hb => ?_
 refine at_code mixed Tryz.func60 (by kernel_rfl) rfl (by kernel_rfl) rfl fun Q hQ => ?_
 rw [checkpoint_agent] at hs
 refine goG f0 f0 ?_
 obtain rfl := sj hs
 exact hQ _ _ (rg f0 (Gh.refl _))
end Go.Dc
end
section
set_option linter.all false
namespace Go.Dc
open Go Go.Hw Go.Proofs
set_option maxRecDepth 100000
def checkpoint_shallow_L1 (a1 : Int) (rF61z : Tree -> Int -> Option Bool) : List Tree -> Nat -> Option (Unit ⊕ Bool)
 | [], k54 => some (.inl ())
 | x74 :: q70, k54 => Option.bind (checkpoint_agent x74.Agent) (fun y77 => guardO (orB (!y77) ((rF61z x74 (IntKind.i64.wrap (a1 - 1))).isSome)) (cond (orB (!y77) (!((rF61z x74 (IntKind.i64.wrap (a1 - 1))).getD default))) (some (.inr false)) (checkpoint_shallow_L1 a1 rF61z q70 (k54 + 1))))
def checkpoint_shallow_B (rF61z : Tree -> Int -> Option Bool) (a0 : Tree) (a1 : Int) : Option Bool :=
 cond (andB (ltI 0 ((a0.Kids.length : Nat) : Int)) (eqI a1 0)) (some false) (Option.bind (α := Unit ⊕ Bool) (Option.bind (checkpoint_shallow_L1 a1 rF61z a0.Kids 0) (fun o => match o with | .inl _ => some (.inl ()) | .inr r81 => some (.inr r81))) (fun o => match o with | .inl _ => some true | .inr r82 => some r82))
def checkpoint_shallow : Nat -> Tree -> Int -> Option Bool
 | 0 => fun _ _ => none
 | fuelN + 1 => fun a0 a1 => checkpoint_shallow_B (checkpoint_shallow fuelN) a0 a1
set_option maxHeartbeats 2000000 in
theorem at_checkpoint_shallow_B {rF61z : Tree -> Int -> Option Bool} (ihrF61z : ∀ (a0 : Tree) (a1 : Int) (r : Bool), rF61z a0 a1 = some r -> At Tryz.prog 61 [.agg (eA a0), iV .i64 a1] (bV r)) {a0 : Tree} {a1 : Int} {r : Bool} (hs : checkpoint_shallow_B rF61z a0 a1 = some r) : At Tryz.prog 61 [.agg (eA a0), iV .i64 a1] (bV r) := by
 refine at_bound (by kernel_rfl) fun hb => ?_
 have hb1 : LenOk (.sl a0.Kids.length (encL a0.Kids)) := lkc hb
 refine at_code mixed Tryz.func61 (by kernel_rfl) rfl (by kernel_rfl) rfl fun Q hQ => ?_
 rw [checkpoint_shallow_B] at hs
 refine goG f0 f0 ?_
 revert hs; refine cS f0 ?_ ?_ <;> intro h1 hs
 ·refine goG f0 f0 ?_
  obtain rfl := sj hs
  exact hQ _ _ (rg f0 (Gh.refl _))
 ·refine goG2 f0 f0 ?_
  revert hs; refine bK fun o41 e40 hs => ?_
  refine awp_cutK (fun (v : Unit) (σ : St) => some (.inl v) = some o41 /\ 3 <= σ.gen) (by rfl) (fun Q hK42 hX43 => ?_) (fun v σ3 hp => ?_)
  ·refine goG f0 f0 ?_
   revert e40; refine bK fun o65 e64 e40 => ?_
   refine awp_loopW (fun (v : (List Tree) × Nat) (σ : St) => checkpoint_shallow_L1 a1 rF61z v.1 v.2 = some o65 /\ v.1 = a0.Kids.drop v.2 /\ σ.env 1 = iV .i64 a1 /\ σ.env 16 = .cell (sC a0.Kids) /\ σ.env 17 = iV .i64 ((a0.Kids.length : Nat) : Int) /\ σ.env 18 = iV .i64 ((v.2 : Nat) : Int) /\ 3 <= σ.gen) (fun v => v.1.length) _ (Gh.refl _) (a0.Kids, 0) ⟨e64, by simp, pv f0, pv f0, pv f0, pv f0, pg⟩ fun v σ6 hp L66 hL67 => ?_
   obtain ⟨q69, k54⟩ := v
   dsimp only at hp hL67
   obtain ⟨e64, hd68, h5_1, h5_16, h5_17, h5_18, n5_g⟩ := hp
   rcases q69 with _ | ⟨x74, q70⟩
   ·have hlt71 := drop_end hd68
    rw [checkpoint_shallow_L1] at e64; try dsimp only at e64
    have F1 := an h5_1 (an h5_16 (an h5_17 h5_18))
    refine goR F1 ?_
    refine condK_f (by simp [ltI]; omega) ?_
    obtain rfl := sj e64
    try dsimp only at e40
    exact hK42 () _ _ (Gh.refl _) ⟨e40, pg⟩
   ·obtain ⟨hx73, hlt71, hd75⟩ := drop_next hd68
    have ew72 := wrap_succ hlt71 (hb1).len
    rw [checkpoint_shallow_L1] at e64; try dsimp only at e64
    have F2 := an h5_1 (an h5_16 (an h5_17 (an h5_18 (an hlt71 ew72))))
    refine goR F2 ?_
    refine condK_t (by simp [ltI]; omega) ?_
    have f76 : partCV Tryz.prog 57 (encL a0.Kids) (k54 * 2) = some (.agg (eA x74)) := partCV_enc hx73 (f := 0) (by simp)
    have F3 := an F2 f76
    refine goR F3 ?_
    revert e64; refine bK fun y77 hx78 e64 => ?_
    refine cP F3 (at_checkpoint_agent hx78) ?_
    refine goG F3 F3 ?_
    obtain ⟨g79, e64⟩ := guardO_some e64
    refine gsel_call (fun hg => ihrF61z _ _ _ (under_call g79 hg)) (fun hg => by (try simp at hg); (first | simp [hg, F3]); try rfl) (fun hg => by (try simp at hg); simp [hg, F3]) (by simp) ?_
    refine goG F3 F3 ?_
    revert e64; refine cS F3 ?_ ?_ <;> intro h80 e64
    ·refine goG F3 F3 ?_
     obtain rfl := sj e64
     try dsimp only at e40
     obtain rfl := sj e40
     try dsimp only at hs
     refine hX43 _ _ (by simp) ?_
     refine goG F3 F3 ?_
     obtain rfl := sj hs
     exact hQ _ _ (rg F3 (Gh.refl _))
    ·refine goG F3 F3 ?_
     exact hL67 (q70, (k54 + 1)) _ _ (Gh.refl _) ⟨e64, hd75, pv F3, pv F3, pv F3, pv F3, pg⟩ (by simp)
  ·obtain ⟨e40, n4_g⟩ := hp
   obtain rfl := sj e40
   try dsimp only at hs
   refine goG f0 f0 ?_
   obtain rfl := sj hs
   exact hQ _ _ (rg f0 (Gh.refl _))
theorem at_checkpoint_shallow : ∀ {fuelN : Nat} {a0 : Tree} {a1 : Int} {r : Bool} (hs : checkpoint_shallow fuelN a0 a1 = some r), At Tryz.prog 61 [.agg (eA a0), iV .i64 a1] (bV r)
 | 0, _, _, _, hs => by rw [checkpoint_shallow] at hs; cases hs
 | n + 1, _, _, _, hs => by
  rw [checkpoint_shallow] at hs
  exact at_checkpoint_shallow_B (fun _ _ _ h => at_checkpoint_shallow h) hs
end Go.Dc
end
section
set_option linter.all false
namespace Go.Dc
open Go Go.Hw Go.Proofs
set_option maxRecDepth 100000
def wakeup_Valid_1_wakeup_Valid_1_L2 (x1270 : Tree) : List Tree -> Nat -> Option (Unit ⊕ Bool)
 | [], k1317 => some (.inl ())
 | x1334 :: q1330, k1317 => cond (eqI x1334.Agent x1270.Agent) (some (.inr false)) (wakeup_Valid_1_wakeup_Valid_1_L2 x1270 q1330 (k1317 + 1))
def wakeup_Valid_1_wakeup_Valid_1_L1 (a0 : List Tree) (rF86q86z : (List Tree) -> Option Bool) : Nat -> Int -> Option (Unit ⊕ Bool)
 | 0, _ => none
 | q1188 + 1, i1013 => cond (ltI i1013 ((a0.length : Nat) : Int)) (Option.bind (α := Unit ⊕ Bool) (Option.bind (getI a0 i1013) (fun x1270 => guardO (slB 0 i1013 a0.length) (Option.bind (some (subL a0 0 i1013)) (fun l1274 => Option.bind (α := Unit ⊕ Bool) (Option.bind (wakeup_Valid_1_wakeup_Valid_1_L2 x1270 l1274 0) (fun o => match o with | .inl _ => some (.inl ()) | .inr r1338 => some (.inr r1338))) (fun o => match o with | .inl _ => Option.bind (rF86q86z x1270.Kids) (fun y1339 => cond (!y1339) (some (.inr false)) (some (.inl ()))) | .inr r1342 => some (.inr r1342)))))) (fun o => match o with | .inl _ => wakeup_Valid_1_wakeup_Valid_1_L1 a0 rF86q86z q1188 (IntKind.i64.wrap (i1013 + 1)) | .inr r1343 => some (.inr r1343))) (some (.inl ()))
def wakeup_Valid_1_wakeup_Valid_1_B (rF86q86z : (List Tree) -> Option Bool) (fuelN : Nat) (a0 : List Tree) : Option Bool :=
 Option.bind (α := Unit ⊕ Bool) (Option.bind (wakeup_Valid_1_wakeup_Valid_1_L1 a0 rF86q86z fuelN 0) (fun o => match o with | .inl _ => some (.inl ()) | .inr r1344 => some (.inr r1344))) (fun o => match o with | .inl _ => some true | .inr r1345 => some r1345)
def wakeup_Valid_1_wakeup_Valid_1 : Nat -> (List Tree) -> Option Bool
 | 0 => fun _ => none
 | fuelN + 1 => fun a0 => wakeup_Valid_1_wakeup_Valid_1_B (wakeup_Valid_1_wakeup_Valid_1 fuelN) fuelN a0
set_option maxHeartbeats 2000000 in
theorem at_wakeup_Valid_1_wakeup_Valid_1_B {rF86q86z : (List Tree) -> Option Bool} (ihrF86q86z : ∀ (a0 : List Tree) (r : Bool), rF86q86z a0 = some r -> CAt Tryz.prog 86 [.cell (sC a0), .cell (.ref (.a 0) 0)] [.cells [.fn 86 [.inl (.a 0)]]] (.ret (bV r)) [(.a 0, .cells [.fn 86 [.inl (.a 0)]])]) {fuelN : Nat} {a0 : List Tree} {r : Bool} (hs : wakeup_Valid_1_wakeup_Valid_1_B rF86q86z fuelN a0 = some r) : CAt Tryz.prog 86 [.cell (sC a0), .cell (.ref (.a 0) 0)] [.cells [.fn 86 [.inl (.a 0)]]] (.ret (bV r)) [(.a 0, .cells [.fn 86 [.inl (.a 0)]])] := by
 refine at_bound (by kernel_rfl) fun hb => ?_
 have hb1 : LenOk (.sl a0.length (encL a0)) := lkc hb
 refine at_code mixed Tryz.func86 (by kernel_rfl) rfl (by kernel_rfl) rfl fun Q hQ => ?_
 rw [wakeup_Valid_1_wakeup_Valid_1_B] at hs
 refine goR2 f0 ?_
 revert hs; refine bK fun o672 e671 hs => ?_
 refine awp_cutK (fun (v : Unit) (σ : St) => some (.inl v) = some o672 /\ σ.hp (.a 0) = some (.cells [.fn 86 [.inl (.a 0)]]) /\ 2 <= σ.gen) (by rfl) (fun Q hK673 hX674 => ?_) (fun v σ59 hp => ?_)
 ·refine goR f0 ?_
  revert e671; refine bK fun o1183 e1182 e671 => ?_
  refine awp_loopW (fun (v : Nat × Int) (σ : St) => wakeup_Valid_1_wakeup_Valid_1_L1 a0 rF86q86z v.1 v.2 = some o1183 /\ σ.env 0 = .cell (sC a0) /\ σ.env 1 = .cell (.ref (.a 0) 0) /\ σ.env 8 = .cell (sC a0) /\ σ.env 9 = iV .i64 ((a0.length : Nat) : Int) /\ σ.env 10 = iV .i64 v.2 /\ σ.hp (.a 0) = some (.cells [.fn 86 [.inl (.a 0)]]) /\ 2 <= σ.gen) (fun v => v.1) _ (Gh.refl _) (fuelN, 0) ⟨e1182, pv f0, pv f0, pv f0, pv f0, pv f0, pv f0, pg⟩ fun v σ104 hp L1184 hL1185 => ?_
  obtain ⟨q1187, i1013⟩ := v
  dsimp only at hp hL1185
  obtain ⟨e1182, h103_0, h103_1, h103_8, h103_9, h103_10, g103_0, n103_g⟩ := hp
  rcases q1187 with _ | q1188
  ·rw [wakeup_Valid_1_wakeup_Valid_1_L1] at e1182; cases e1182
  ·rw [wakeup_Valid_1_wakeup_Valid_1_L1] at e1182; try dsimp only at e1182
   have F1 := an h103_0 (an h103_1 (an h103_8 (an h103_9 (an h103_10 g103_0))))
   refine goR F1 ?_
   revert e1182; refine cS F1 ?_ ?_ <;> intro h1192 e1182
   ·refine goR2 F1 ?_
    revert e1182; refine bK fun o1267 e1266 e1182 => ?_
    refine awp_cutK (fun (v : Unit) (σ : St) => some (.inl v) = some o1267 /\ σ.env 0 = .cell (sC a0) /\ σ.env 1 = .cell (.ref (.a 0) 0) /\ σ.env 8 = .cell (sC a0) /\ σ.env 9 = iV .i64 ((a0.length : Nat) : Int) /\ σ.env 10 = iV .i64 i1013 /\ σ.hp (.a 0) = some (.cells [.fn 86 [.inl (.a 0)]]) /\ (σ104.gen + 1) <= σ.gen) (by rfl) (fun Q hK1268 hX1269 => ?_) (fun v σ111 hp => ?_)
    ·refine goR2 F1 ?_
     refine awp_block ?_
     revert e1266; refine bK fun x1270 hx1271 e1266 => ?_
     obtain ⟨hx1271a, hx1271b, hx1271c, hx1271d⟩ := getI_some hx1271
     have f1272 : partCV Tryz.prog 57 (encL a0) (((i1013).toNat) * 2) = some (.agg (eA x1270)) := partCV_enc hx1271d (f := 0) (by simp)
     obtain ⟨g1273, e1266⟩ := guardO_some e1266
     obtain ⟨g1273a, g1273b, g1273c⟩ := slB_t g1273
     revert e1266; refine lK fun l1274 hx1275 e1266 => ?_
     have f1276n : l1274.length = (i1013 - 0).toNat := by rw [hx1275]; exact subL_len ⟨g1273a, g1273b, g1273c⟩
     have f1276e : ((encL a0).drop ((0 : Int).toNat * 2)).take ((i1013 - 0).toNat * 2) = encL l1274 := by rw [hx1275]; exact subL_enc (α := Tree)
     try simp at f1276n
     try simp at f1276e
     have f1276o : LenOk (.sl l1274.length (encL l1274)) := by rw [hx1275]; exact subL_ok hb1
     have F2 := an F1 (an f1272 (an g1273a (an g1273b (an g1273c (an f1276n f1276e)))))
     refine goR2 F2 ?_
     revert e1266; refine bK fun o1307 e1306 e1266 => ?_
     refine awp_cutK (fun (v : Unit) (σ : St) => some (.inl v) = some o1307 /\ σ.env 0 = .cell (sC a0) /\ σ.env 1 = .cell (.ref (.a 0) 0) /\ σ.env 5 = .cell (.ref (.o (σ104.gen + 2) 3 0) 0) /\ σ.env 8 = .cell (sC a0) /\ σ.env 9 = iV .i64 ((a0.length : Nat) : Int) /\ σ.env 10 = iV .i64 i1013 /\ σ.hp (.a 0) = some (.cells [.fn 86 [.inl (.a 0)]]) /\ σ.hp (.o (σ104.gen + 2) 3 0) = some (.cells (eA x1270)) /\ (σ104.gen + 3) <= σ.gen) (by rfl) (fun Q hK1308 hX1309 => ?_) (fun v σ115 hp => ?_)
     ·refine goR F2 ?_
      revert e1306; refine bK fun o1325 e1324 e1306 => ?_
      refine awp_loopW (fun (v : (List Tree) × Nat) (σ : St) => wakeup_Valid_1_wakeup_Valid_1_L2 x1270 v.1 v.2 = some o1325 /\ v.1 = l1274.drop v.2 /\ σ.env 0 = .cell (sC a0) /\ σ.env 1 = .cell (.ref (.a 0) 0) /\ σ.env 5 = .cell (.ref (.o (σ104.gen + 2) 3 0) 0) /\ σ.env 8 = .cell (sC a0) /\ σ.env 9 = iV .i64 ((a0.length : Nat) : Int) /\ σ.env 10 = iV .i64 i1013 /\ σ.env 17 = .cell (sC l1274) /\ σ.env 18 = iV .i64 ((l1274.length : Nat) : Int) /\ σ.env 19 = iV .i64 ((v.2 : Nat) : Int) /\ σ.hp (.a 0) = some (.cells [.fn 86 [.inl (.a 0)]]) /\ σ.hp (.o (σ104.gen + 2) 3 0) = some (.cells (eA x1270)) /\ (σ104.gen + 3) <= σ.gen) (fun v => v.1.length) _ (Gh.refl _) (l1274, 0) ⟨e1324, by simp, pv F2, pv F2, pv F2, pv F2, pv F2, pv F2, pv F2, pv F2, pv F2, pv F2, pv F2, pg⟩ fun v σ118 hp L1326 hL1327 => ?_
      obtain ⟨q1329, k1317⟩ := v
      dsimp only at hp hL1327
      obtain ⟨e1324, hd1328, h117_0, h117_1, h117_5, h117_8, h117_9, h117_10, h117_17, h117_18, h117_19, g117_0, g117_1, n117_g⟩ := hp
      have n117_σ104gen_0 : ¬ (σ118.gen = σ104.gen) := by omega
      have n117_σ104gen_0' : ¬ (σ104.gen = σ118.gen) := by omega
      have n117_σ104gen_1 : ¬ (σ118.gen = σ104.gen + 1) := by omega
      have n117_σ104gen_1' : ¬ (σ104.gen + 1 = σ118.gen) := by omega
      have n117_σ104gen_a : ∀ j, ¬ (σ118.gen + j = σ104.gen) := fun j => by omega
      have n117_σ104gen_a' : ∀ j, ¬ (σ104.gen = σ118.gen + j) := fun j => by omega
      rcases q1329 with _ | ⟨x1334, q1330⟩
      ·have hlt1331 := drop_end hd1328
       rw [wakeup_Valid_1_wakeup_Valid_1_L2] at e1324; try dsimp only at e1324
       have F3 := an h117_0 (an h117_1 (an h117_5 (an h117_8 (an h117_9 (an h117_10 (an h117_17 (an h117_18 (an h117_19 (an g117_0 (an g117_1 (an n117_σ104gen_0 (an n117_σ104gen_0' (an n117_σ104gen_1 (an n117_σ104gen_1' (an n117_σ104gen_a (an n117_σ104gen_a' f1272))))))))))))))))
       refine goR F3 ?_
       refine condK_f (by simp [ltI]; omega) ?_
       obtain rfl := sj e1324
       try dsimp only at e1306
       exact hK1308 () _ _ (Gh.refl _) ⟨e1306, pv F3, pv F3, pv F3, pv F3, pv F3, pv F3, pv F3, pv F3, pg⟩
      ·obtain ⟨hx1333, hlt1331, hd1335⟩ := drop_next hd1328
       have ew1332 := wrap_succ hlt1331 (f1276o).len
       rw [wakeup_Valid_1_wakeup_Valid_1_L2] at e1324; try dsimp only at e1324
       have F4 := an h117_0 (an h117_1 (an h117_5 (an h117_8 (an h117_9 (an h117_10 (an h117_17 (an h117_18 (an h117_19 (an g117_0 (an g117_1 (an n117_σ104gen_0 (an n117_σ104gen_0' (an n117_σ104gen_1 (an n117_σ104gen_1' (an n117_σ104gen_a (an n117_σ104gen_a' (an f1272 (an hlt1331 ew1332))))))))))))))))))
       refine goR F4 ?_
       refine condK_t (by simp [ltI]; omega) ?_
       have f1336 : partCV Tryz.prog 57 (encL l1274) (k1317 * 2) = some (.agg (eA x1334)) := partCV_enc hx1333 (f := 0) (by simp)
       have F5 := an F4 f1336
       refine goR F5 ?_
       revert e1324; refine cS F5 ?_ ?_ <;> intro h1337 e1324
       ·refine goR F5 ?_
        obtain rfl := sj e1324
        try dsimp only at e1306
        obtain rfl := sj e1306
        try dsimp only at e1266
        refine hX1309 _ _ (by simp) ?_
        refine goR F5 ?_
        obtain rfl := sj e1266
        try dsimp only at e1182
        refine hX1269 _ _ (by simp) ?_
        refine goR F5 ?_
        obtain rfl := sj e1182
        try dsimp only at e671
        obtain rfl := sj e671
        try dsimp only at hs
        refine hX674 _ _ (by simp) ?_
        refine goR F5 ?_
        obtain rfl := sj hs
        refine hQ _ _ (ret2g _ (Gh.refl _) (by simp [St.frz, St.pur, F5]; rfl) (by first | rfl | (simp [St.frz, St.pur, F5]; done) | (rw [if_pos (by first | omega | (simp; omega))]; simp [St.frz, St.pur, F5]; first | omega | exact List.take_of_length_le (by simp; omega) | skip)) (pv F5))
       ·refine goR F5 ?_
        exact hL1327 (q1330, (k1317 + 1)) _ _ (Gh.refl _) ⟨e1324, hd1335, pv F5, pv F5, pv F5, pv F5, pv F5, pv F5, pv F5, pv F5, pv F5, pv F5, pv F5, pg⟩ (by simp)
     ·obtain ⟨e1306, h116_0, h116_1, h116_5, h116_8, h116_9, h116_10, g116_0, g116_1, n116_g⟩ := hp
      obtain rfl := sj e1306
      try dsimp only at e1266
      have n116_σ104gen_0 : ¬ (σ115.gen = σ104.gen) := by omega
      have n116_σ104gen_0' : ¬ (σ104.gen = σ115.gen) := by omega
      have n116_σ104gen_1 : ¬ (σ115.gen = σ104.gen + 1) := by omega
      have n116_σ104gen_1' : ¬ (σ104.gen + 1 = σ115.gen) := by omega
      have n116_σ104gen_a : ∀ j, ¬ (σ115.gen + j = σ104.gen) := fun j => by omega
      have n116_σ104gen_a' : ∀ j, ¬ (σ104.gen = σ115.gen + j) := fun j => by omega
      have F6 := an h116_0 (an h116_1 (an h116_5 (an h116_8 (an h116_9 (an h116_10 (an g116_0 (an g116_1 (an n116_σ104gen_0 (an n116_σ104gen_0' (an n116_σ104gen_1 (an n116_σ104gen_1' (an n116_σ104gen_a (an n116_σ104gen_a' f1272)))))))))))))
      refine goR F6 ?_
      revert e1266; refine bK fun y1339 hx1340 e1266 => ?_
      refine cB F6 (ihrF86q86z _ _ hx1340) [.a 0] ?_
      refine goR F6 ?_
      revert e1266; refine cS F6 ?_ ?_ <;> intro h1341 e1266
      ·refine goR F6 ?_
       obtain rfl := sj e1266
       try dsimp only at e1182
       refine hX1269 _ _ (by simp) ?_
       refine goR F6 ?_
       obtain rfl := sj e1182
       try dsimp only at e671
       obtain rfl := sj e671
       try dsimp only at hs
       refine hX674 _ _ (by simp) ?_
       refine goR F6 ?_
       obtain rfl := sj hs
       refine hQ _ _ (ret2g _ (Gh.refl _) (by simp [St.frz, St.pur, F6]; rfl) (by first | rfl | (simp [St.frz, St.pur, F6]; done) | (rw [if_pos (by first | omega | (simp; omega))]; simp [St.frz, St.pur, F6]; first | omega | exact List.take_of_length_le (by simp; omega) | skip)) (pv F6))
      ·refine goR F6 ?_
       exact hK1268 () _ _ (Gh.refl _) ⟨e1266, pv F6, pv F6, pv F6, pv F6, pv F6, pv F6, pg⟩
    ·obtain ⟨e1266, h112_0, h112_1, h112_8, h112_9, h112_10, g112_0, n112_g⟩ := hp
     obtain rfl := sj e1266
     try dsimp only at e1182
     have F7 := an h112_0 (an h112_1 (an h112_8 (an h112_9 (an h112_10 g112_0))))
     refine goR F7 ?_
     exact hL1185 (q1188, IntKind.i64.wrap (i1013 + 1)) _ _ (Gh.refl _) ⟨e1182, pv F7, pv F7, pv F7, pv F7, pv F7, pv F7, pg⟩ (by omega)
   ·refine goR F1 ?_
    obtain rfl := sj e1182
    try dsimp only at e671
    exact hK673 () _ _ (Gh.refl _) ⟨e671, pv F1, pg⟩
 ·obtain ⟨e671, g60_0, n60_g⟩ := hp
  obtain rfl := sj e671
  try dsimp only at hs
  refine goR g60_0 ?_
  obtain rfl := sj hs
  refine hQ _ _ (ret2g _ (Gh.refl _) (by simp [St.frz, St.pur, g60_0]; rfl) (by first | rfl | (simp [St.frz, St.pur, g60_0]; done) | (rw [if_pos (by first | omega | (simp; omega))]; simp [St.frz, St.pur, g60_0]; first | omega | exact List.take_of_length_le (by simp; omega) | skip)) (pv g60_0))
theorem at_wakeup_Valid_1_wakeup_Valid_1 : ∀ {fuelN : Nat} {a0 : List Tree} {r : Bool} (hs : wakeup_Valid_1_wakeup_Valid_1 fuelN a0 = some r), CAt Tryz.prog 86 [.cell (sC a0), .cell (.ref (.a 0) 0)] [.cells [.fn 86 [.inl (.a 0)]]] (.ret (bV r)) [(.a 0, .cells [.fn 86 [.inl (.a 0)]])]
 | 0, _, _, hs => by rw [wakeup_Valid_1_wakeup_Valid_1] at hs; cases hs
 | n + 1, _, _, hs => by
  rw [wakeup_Valid_1_wakeup_Valid_1] at hs
  exact at_wakeup_Valid_1_wakeup_Valid_1_B (fun _ _ h => at_wakeup_Valid_1_wakeup_Valid_1 h) hs
end Go.Dc
end
section
set_option linter.all false
namespace Go.Dc
open Go Go.Hw Go.Proofs
set_option maxRecDepth 100000
def wakeup_Valid (fuelN : Nat) (a0 : Tree) : Option Bool :=
 cond (eqI a0.Agent 0) (Option.bind (wakeup_Valid_1_wakeup_Valid_1 fuelN a0.Kids) (fun y2 => some y2)) (some false)
set_option maxHeartbeats 2000000 in
theorem at_wakeup_Valid {fuelN : Nat} {a0 : Tree} {r : Bool} (hs : wakeup_Valid fuelN a0 = some r) : At Tryz.prog 62 [.agg (eA a0)] (bV r) := by
 refine at_bound (by kernel_rfl) fun hb => ?_
 have hb1 : LenOk (.sl a0.Kids.length (encL a0.Kids)) := lkc hb
 refine at_code mixed Tryz.func62 (by kernel_rfl) rfl (by kernel_rfl) rfl fun Q hQ => ?_
 rw [wakeup_Valid] at hs
 refine goG f0 f0 ?_
 refine gsel_split (fun h1 => ?_) (fun h1 => ?_)
 ·replace hs := condT h1 hs
  refine goG h1 h1 ?_
  revert hs; refine bK fun y2 hx3 hs => ?_
  refine cB h1 (at_wakeup_Valid_1_wakeup_Valid_1 hx3) [.o 2 0 0] ?_
  refine goG h1 h1 ?_
  obtain rfl := sj hs
  exact hQ _ _ (rg h1 (Gh.refl _))
 ·replace hs := condF h1 hs
  refine goG h1 h1 ?_
  obtain rfl := sj hs
  exact hQ _ _ (rg h1 (Gh.refl _))
end Go.Dc
end
section
set_option linter.all false
namespace Go.Dc
open Go Go.Hw Go.Proofs
set_option maxRecDepth 100000
def checkpoint_validFrame_L1 (a0 : Frame) : List Int -> Nat -> Option (Unit ⊕ Bool)
 | [], k60 => some (.inl ())
 | x81 :: q77, k60 => Option.bind (checkpoint_agent x81) (fun y84 => guardO (orB (!(andB (!(orB (!y84) (eqI x81 a0.Agent))) (ltI 0 ((k60 : Nat) : Int)))) (inB (IntKind.i64.wrap (((k60 : Nat) : Int) - 1)) a0.Sleep.length)) (cond (orB (orB (!y84) (eqI x81 a0.Agent)) (andB (ltI 0 ((k60 : Nat) : Int)) (!(ltI (gd a0.Sleep ((IntKind.i64.wrap (((k60 : Nat) : Int) - 1)).toNat)) x81)))) (some (.inr false)) (checkpoint_validFrame_L1 a0 q77 (k60 + 1))))
def checkpoint_validFrame (fuelN : Nat) (a0 : Frame) : Option Bool :=
 Option.bind (checkpoint_agent a0.Agent) (fun y1 => cond (orB (!y1) (ltI 2048 ((a0.Sleep.length : Nat) : Int))) (some false) (Option.bind (α := Unit ⊕ Bool) (Option.bind (checkpoint_validFrame_L1 a0 a0.Sleep 0) (fun o => match o with | .inl _ => some (.inl ()) | .inr r89 => some (.inr r89))) (fun o => match o with | .inl _ => Option.bind (checkpoint_shallow fuelN a0.Tree 512) (fun y90 => guardO (orB (!y90) ((wakeup_Valid fuelN a0.Tree).isSome)) (cond (orB (orB (!y90) (!((wakeup_Valid fuelN a0.Tree).getD default))) (eqI ((a0.Tree.Kids.length : Nat) : Int) 0)) (some false) (Option.bind (a0.Tree.Kids[0]?) (fun x94 => some (andB (eqI x94.Agent a0.Agent) (eqI ((x94.Kids.length : Nat) : Int) 0)))))) | .inr r97 => some r97)))
set_option maxHeartbeats 2000000 in
theorem at_checkpoint_validFrame {fuelN : Nat} {a0 : Frame} {r : Bool} (hs : checkpoint_validFrame fuelN a0 = some r) : At Tryz.prog 32 [.agg (eA a0)] (bV r) := by
 refine at_bound (by kernel_rfl) fun hb => ?_
 have hb1 : LenOk (.sl a0.Sleep.length (encL a0.Sleep)) := lkc hb
 have hb2 : LenOk (.sl a0.Tree.Kids.length (encL a0.Tree.Kids)) := lkc hb
 refine at_code mixed Tryz.func32 (by kernel_rfl) rfl (by kernel_rfl) rfl fun Q hQ => ?_
 rw [checkpoint_validFrame] at hs
 refine goR f0 ?_
 revert hs; refine bK fun y1 hx2 hs => ?_
 refine cP f0 (at_checkpoint_agent hx2) ?_
 refine goG f0 f0 ?_
 revert hs; refine cS f0 ?_ ?_ <;> intro h3 hs
 ·refine goG f0 f0 ?_
  obtain rfl := sj hs
  exact hQ _ _ (rg f0 (Gh.refl _))
 ·refine goG2 f0 f0 ?_
  revert hs; refine bK fun o46 e45 hs => ?_
  refine awp_cutK (fun (v : Unit) (σ : St) => some (.inl v) = some o46 /\ σ.env 1 = .cell (.ref (.o 1 0 0) 0) /\ σ.hp (.o 1 0 0) = some (.cells (eA a0)) /\ 3 <= σ.gen) (by rfl) (fun Q hK47 hX48 => ?_) (fun v σ3 hp => ?_)
  ·refine goG f0 f0 ?_
   revert e45; refine bK fun o72 e71 e45 => ?_
   refine awp_loopW (fun (v : (List Int) × Nat) (σ : St) => checkpoint_validFrame_L1 a0 v.1 v.2 = some o72 /\ v.1 = a0.Sleep.drop v.2 /\ σ.env 1 = .cell (.ref (.o 1 0 0) 0) /\ σ.env 17 = .cell (sC a0.Sleep) /\ σ.env 18 = iV .i64 ((a0.Sleep.length : Nat) : Int) /\ σ.env 19 = iV .i64 ((v.2 : Nat) : Int) /\ σ.hp (.o 1 0 0) = some (.cells (eA a0)) /\ 3 <= σ.gen) (fun v => v.1.length) _ (Gh.refl _) (a0.Sleep, 0) ⟨e71, by simp, pv f0, pv f0, pv f0, pv f0, pv f0, pg⟩ fun v σ6 hp L73 hL74 => ?_
   obtain ⟨q76, k60⟩ := v
   dsimp only at hp hL74
   obtain ⟨e71, hd75, h5_1, h5_17, h5_18, h5_19, g5_0, n5_g⟩ := hp
   have n5_0 : ¬ (σ6.gen = 0) := by omega
   rcases q76 with _ | ⟨x81, q77⟩
   ·have hlt78 := drop_end hd75
    rw [checkpoint_validFrame_L1] at e71; try dsimp only at e71
    have F1 := an h5_1 (an h5_17 (an h5_18 (an h5_19 (an g5_0 n5_0))))
    refine goR F1 ?_
    refine condK_f (by simp [ltI]; omega) ?_
    obtain rfl := sj e71
    try dsimp only at e45
    exact hK47 () _ _ (Gh.refl _) ⟨e45, pv F1, pv F1, pg⟩
   ·obtain ⟨hx80, hlt78, hd82⟩ := drop_next hd75
    have ew79 := wrap_succ hlt78 (hb1).len
    rw [checkpoint_validFrame_L1] at e71; try dsimp only at e71
    have F2 := an h5_1 (an h5_17 (an h5_18 (an h5_19 (an g5_0 (an n5_0 (an hlt78 ew79))))))
    refine goR F2 ?_
    refine condK_t (by simp [ltI]; omega) ?_
    have f83 : partCV Tryz.prog 3 (encL a0.Sleep) (k60) = some (iV .i64 x81) := partCV_enc1 hx80 (by simp)
    have F3 := an F2 f83
    refine goR F3 ?_
    revert e71; refine bK fun y84 hx85 e71 => ?_
    refine cP F3 (at_checkpoint_agent hx85) ?_
    obtain ⟨g86, e71⟩ := guardO_some e71
    have g86a : (andB (!(orB (!y84) (eqI x81 a0.Agent))) (ltI 0 ((k60 : Nat) : Int))) = true -> 0 <= IntKind.i64.wrap (((k60 : Nat) : Int) - 1) := fun hg => (under_elem g86 hg).1
    have g86b : (andB (!(orB (!y84) (eqI x81 a0.Agent))) (ltI 0 ((k60 : Nat) : Int))) = true -> IntKind.i64.wrap (((k60 : Nat) : Int) - 1) < (a0.Sleep.length : Int) := fun hg => (under_elem g86 hg).2.1
    have g86n : (andB (!(orB (!y84) (eqI x81 a0.Agent))) (ltI 0 ((k60 : Nat) : Int))) = true -> (IntKind.i64.wrap (((k60 : Nat) : Int) - 1)).toNat < a0.Sleep.length := fun hg => by simpa using (under_elem g86 hg).2.2.1
    have g86c : (andB (!(orB (!y84) (eqI x81 a0.Agent))) (ltI 0 ((k60 : Nat) : Int))) = true -> a0.Sleep[(IntKind.i64.wrap (((k60 : Nat) : Int) - 1)).toNat]? = some (gd a0.Sleep ((IntKind.i64.wrap (((k60 : Nat) : Int) - 1)).toNat)) := fun hg => by simpa using (under_elem g86 hg).2.2.2
    have f87 : (andB (!(orB (!y84) (eqI x81 a0.Agent))) (ltI 0 ((k60 : Nat) : Int))) = true -> partCV Tryz.prog 3 (encL a0.Sleep) ((IntKind.i64.wrap (((k60 : Nat) : Int) - 1)).toNat) = some (iV .i64 (gd a0.Sleep ((IntKind.i64.wrap (((k60 : Nat) : Int) - 1)).toNat))) := fun hg => partCV_enc1 (g86c hg) (by simp)
    have F4 := an F3 (an g86a (an g86b (an g86n f87)))
    refine goG F4 F4 ?_
    revert e71; refine cS F4 ?_ ?_ <;> intro h88 e71
    ·refine goG F4 F4 ?_
     obtain rfl := sj e71
     try dsimp only at e45
     obtain rfl := sj e45
     try dsimp only at hs
     refine hX48 _ _ (by simp) ?_
     refine goG F4 F4 ?_
     obtain rfl := sj hs
     exact hQ _ _ (rg F4 (Gh.refl _))
    ·refine goG F4 F4 ?_
     exact hL74 (q77, (k60 + 1)) _ _ (Gh.refl _) ⟨e71, hd82, pv F4, pv F4, pv F4, pv F4, pv F4, pg⟩ (by simp)
  ·obtain ⟨e45, h4_1, g4_0, n4_g⟩ := hp
   obtain rfl := sj e45
   try dsimp only at hs
   have n4_0 : ¬ (σ3.gen = 0) := by omega
   have F5 := an h4_1 (an g4_0 n4_0)
   refine goG F5 F5 ?_
   revert hs; refine bK fun y90 hx91 hs => ?_
   refine cP F5 (at_checkpoint_shallow hx91) ?_
   refine goG F5 F5 ?_
   obtain ⟨g92, hs⟩ := guardO_some hs
   refine gsel_call (fun hg => at_wakeup_Valid (under_call g92 hg)) (fun hg => by (try simp at hg); (first | simp [hg, F5]); try rfl) (fun hg => by (try simp at hg); simp [hg, F5]) (by simp) ?_
   refine goG F5 F5 ?_
   revert hs; refine cS F5 ?_ ?_ <;> intro h93 hs
   ·refine goG F5 F5 ?_
    obtain rfl := sj hs
    exact hQ _ _ (rg F5 (Gh.refl _))
   ·revert hs; refine bK fun x94 hx95 hs => ?_
    have hx95b := getN_some hx95
    have f96 : partCV Tryz.prog 57 (encL a0.Tree.Kids) (0 * 2) = some (.agg (eA x94)) := partCV_enc hx95 (f := 0) (by simp)
    have F6 := an F5 f96
    have F7 := an F6 hx95b
    refine goG F6 F7 ?_
    obtain rfl := sj hs
    exact hQ _ _ (rg F6 (Gh.refl _))
end Go.Dc
end
section
set_option linter.all false
namespace Go.Dc
open Go Go.Hw Go.Proofs
set_option maxRecDepth 100000
def checkpoint_Valid_L1 (fuelN : Nat) : List Frame -> Nat -> Option (Unit ⊕ Bool)
 | [], k51 => some (.inl ())
 | x70 :: q66, k51 => Option.bind (checkpoint_validFrame fuelN x70) (fun y73 => cond (!y73) (some (.inr false)) (checkpoint_Valid_L1 fuelN q66 (k51 + 1)))
def checkpoint_Valid (fuelN : Nat) (a0 : Snapshot) : Option Bool :=
 cond (orB (orB (orB (orB (ltI a0.Count 0) (ltI 1048576 a0.Count)) (ltI a0.Blocked 0)) (ltI 1048576 a0.Blocked)) (ltI 512 ((a0.Frames.length : Nat) : Int))) (some false) (cond (andB (ltI 0 ((a0.Frames.length : Nat) : Int)) (orB a0.Done (eqI a0.Count 0))) (some false) (Option.bind (α := Unit ⊕ Bool) (Option.bind (checkpoint_Valid_L1 fuelN a0.Frames 0) (fun o => match o with | .inl _ => some (.inl ()) | .inr r76 => some (.inr r76))) (fun o => match o with | .inl _ => some true | .inr r77 => some r77)))
set_option maxHeartbeats 2000000 in
theorem at_checkpoint_Valid {fuelN : Nat} {a0 : Snapshot} {r : Bool} (hs : checkpoint_Valid fuelN a0 = some r) : At Tryz.prog 12 [.agg (eA a0)] (bV r) := by
 refine at_bound (by kernel_rfl) fun hb => ?_
 have hb1 : LenOk (.sl a0.Frames.length (encL a0.Frames)) := lkc hb
 refine at_code mixed Tryz.func12 (by kernel_rfl) rfl (by kernel_rfl) rfl fun Q hQ => ?_
 rw [checkpoint_Valid] at hs
 refine goG f0 f0 ?_
 revert hs; refine cS f0 ?_ ?_ <;> intro h1 hs
 ·refine goG f0 f0 ?_
  obtain rfl := sj hs
  exact hQ _ _ (rg f0 (Gh.refl _))
 ·refine goG f0 f0 ?_
  revert hs; refine cS f0 ?_ ?_ <;> intro h2 hs
  ·refine goG f0 f0 ?_
   obtain rfl := sj hs
   exact hQ _ _ (rg f0 (Gh.refl _))
  ·refine goG2 f0 f0 ?_
   revert hs; refine bK fun o39 e38 hs => ?_
   refine awp_cutK (fun (v : Unit) (σ : St) => some (.inl v) = some o39 /\ 4 <= σ.gen) (by rfl) (fun Q hK40 hX41 => ?_) (fun v σ3 hp => ?_)
   ·refine goG f0 f0 ?_
    revert e38; refine bK fun o61 e60 e38 => ?_
    refine awp_loopW (fun (v : (List Frame) × Nat) (σ : St) => checkpoint_Valid_L1 fuelN v.1 v.2 = some o61 /\ v.1 = a0.Frames.drop v.2 /\ σ.env 43 = .cell (sC a0.Frames) /\ σ.env 44 = iV .i64 ((a0.Frames.length : Nat) : Int) /\ σ.env 45 = iV .i64 ((v.2 : Nat) : Int) /\ 4 <= σ.gen) (fun v => v.1.length) _ (Gh.refl _) (a0.Frames, 0) ⟨e60, by simp, pv f0, pv f0, pv f0, pg⟩ fun v σ6 hp L62 hL63 => ?_
    obtain ⟨q65, k51⟩ := v
    dsimp only at hp hL63
    obtain ⟨e60, hd64, h5_43, h5_44, h5_45, n5_g⟩ := hp
    rcases q65 with _ | ⟨x70, q66⟩
    ·have hlt67 := drop_end hd64
     rw [checkpoint_Valid_L1] at e60; try dsimp only at e60
     have F1 := an h5_43 (an h5_44 h5_45)
     refine goR F1 ?_
     refine condK_f (by simp [ltI]; omega) ?_
     obtain rfl := sj e60
     try dsimp only at e38
     exact hK40 () _ _ (Gh.refl _) ⟨e38, pg⟩
    ·obtain ⟨hx69, hlt67, hd71⟩ := drop_next hd64
     have ew68 := wrap_succ hlt67 (hb1).len
     rw [checkpoint_Valid_L1] at e60; try dsimp only at e60
     have F2 := an h5_43 (an h5_44 (an h5_45 (an hlt67 ew68)))
     refine goR F2 ?_
     refine condK_t (by simp [ltI]; omega) ?_
     have f72 : partCV Tryz.prog 59 (encL a0.Frames) (k51 * 4) = some (.agg (eA x70)) := partCV_enc hx69 (f := 0) (by simp)
     have F3 := an F2 f72
     refine goR F3 ?_
     revert e60; refine bK fun y73 hx74 e60 => ?_
     refine cP F3 (at_checkpoint_validFrame hx74) ?_
     refine goR F3 ?_
     revert e60; refine cS F3 ?_ ?_ <;> intro h75 e60
     ·refine goR F3 ?_
      obtain rfl := sj e60
      try dsimp only at e38
      obtain rfl := sj e38
      try dsimp only at hs
      refine hX41 _ _ (by simp) ?_
      refine goR F3 ?_
      obtain rfl := sj hs
      exact hQ _ _ (rg F3 (Gh.refl _))
     ·refine goR F3 ?_
      exact hL63 (q66, (k51 + 1)) _ _ (Gh.refl _) ⟨e60, hd71, pv F3, pv F3, pv F3, pg⟩ (by simp)
   ·obtain ⟨e38, n4_g⟩ := hp
    obtain rfl := sj e38
    try dsimp only at hs
    refine goG f0 f0 ?_
    obtain rfl := sj hs
    exact hQ _ _ (rg f0 (Gh.refl _))
end Go.Dc
end
section
set_option linter.all false
namespace Go.Dc.Pl
open Go Go.Hw Go.Dc
def agentOk (n : Int) : Bool := andB (!(ltI n (-2147483648))) (!(ltI 2147483647 n))
theorem own_agent (n : Int) : checkpoint_agent n = some (agentOk n) := rfl
theorem agentOk_t {n : Int} (h : agentOk n = true) : -2147483648 <= n /\ n <= 2147483647 := by
 simp only [agentOk, andB_d, ltI_d, Bool.and_eq_true, Bool.not_eq_true', decide_eq_false_iff_not] at h; omega
def shal : Nat -> List Tree -> Bool
 | 0, l => decide (l.length = 0)
 | m + 1, l => l.all fun k => agentOk k.Agent && shal m k.Kids
def nodupA (l : List Tree) (k : Nat) (x : Tree) : Bool := (l.take k).any fun y => eqI y.Agent x.Agent
def dist : Nat -> List Tree -> Bool
 | 0, _ => true
 | m + 1, l => !((l.zipIdx 0).any fun x => nodupA l x.2 x.1 || !dist m x.1.Kids)
def wid (B : Nat) : Nat -> List Tree -> Prop
 | 0, _ => True
 | m + 1, l => l.length <= B /\ ∀ k ∈ l, wid B m k.Kids
theorem any_not_all {α : Type} (p : α -> Bool) (l : List α) : (l.any fun x => !p x) = !l.all p := by induction l with
 | nil => rfl
 | cons x l ih => rw [List.any_cons, List.all_cons, ih]; cases p x <;> rfl
theorem own_shal : ∀ (m f : Nat) (t : Tree), m <= 1000 -> m < f -> checkpoint_shallow f t (m : Int) = some (shal m t.Kids) := by
 intro m
 induction m with
 | zero =>
  intro f t _ hf
  obtain ⟨f, rfl⟩ : ∃ k, f = k + 1 := ⟨f - 1, by omega⟩
  show checkpoint_shallow_B (checkpoint_shallow f) t ((0 : Nat) : Int) = _
  unfold checkpoint_shallow_B
  rw [shal]
  cases hk : t.Kids with
  | nil => rfl
  | cons x l => rw [show eqI ((0 : Nat) : Int) 0 = true from rfl, ltI_d, decide_eq_true (by simp), decide_eq_false (by simp)]; rfl
 | succ m ih =>
  intro f t hm hf
  obtain ⟨f, rfl⟩ : ∃ k, f = k + 1 := ⟨f - 1, by omega⟩
  show checkpoint_shallow_B (checkpoint_shallow f) t ((m + 1 : Nat) : Int) = _
  unfold checkpoint_shallow_B
  have h := srch (L := checkpoint_shallow_L1 ((m + 1 : Nat) : Int) (checkpoint_shallow f)) (fun _ (k : Tree) => onlyIf (!(agentOk k.Agent && shal m k.Kids)) false) (fun _ => rfl) t.Kids 0 fun j x hx q => by
   rw [checkpoint_shallow_L1, own_agent, Option.bind_some, show ((m + 1 : Nat) : Int) - 1 = (m : Int) by omega, wrapN (by omega), ih f x (by omega) (by omega), show (some (shal m x.Kids)).isSome = true from rfl, orB_t, guardO_t]
   rw [show orB (!agentOk x.Agent) (!((some (shal m x.Kids)).getD default)) = !(agentOk x.Agent && shal m x.Kids) by cases agentOk x.Agent <;> rfl]
   exact step_only _ _ _
  rw [first_onlyC, any_not_all] at h
  rw [show eqI ((m + 1 : Nat) : Int) 0 = false by rw [eqI_d, decide_eq_false (by omega)], andB_d, Bool.and_false, cond_false, h, shal]
  cases t.Kids.all fun k => agentOk k.Agent && shal m k.Kids <;> rfl
theorem own_dist {B : Nat} (hB : B <= 1000000000) : ∀ (m f : Nat) (l : List Tree), B + m + 5 <= f -> shal m l = true -> wid B m l -> wakeup_Valid_1_wakeup_Valid_1 f l = some (dist m l) := by
 intro m
 induction m with
 | zero =>
  intro f l hf hs _
  obtain ⟨f, rfl⟩ : ∃ k, f = k + 2 := ⟨f - 2, by omega⟩
  simp only [shal, decide_eq_true_eq, List.length_eq_zero_iff] at hs
  subst hs; rfl
 | succ m ih =>
  intro f l hf hs hw
  obtain ⟨f, rfl⟩ : ∃ k, f = k + 1 := ⟨f - 1, by omega⟩
  rw [shal, List.all_eq_true] at hs
  show wakeup_Valid_1_wakeup_Valid_1_B (wakeup_Valid_1_wakeup_Valid_1 f) f l = _
  unfold wakeup_Valid_1_wakeup_Valid_1_B
  have h := srchI (L := fun q i => wakeup_Valid_1_wakeup_Valid_1_L1 l (wakeup_Valid_1_wakeup_Valid_1 f) q i) l (fun k x => onlyIf (nodupA l k x || !dist m x.Kids) false) (fun q => by
    show wakeup_Valid_1_wakeup_Valid_1_L1 _ _ (q + 1) _ = _
    rw [wakeup_Valid_1_wakeup_Valid_1_L1, ltI_d, decide_eq_false (by omega)]; rfl) (fun q k x hx => by
    have hk := getN_some hx
    have hm := List.mem_of_getElem? hx
    have h1 := hs x hm
    rw [Bool.and_eq_true] at h1
    show wakeup_Valid_1_wakeup_Valid_1_L1 _ _ (q + 1) _ = stepS _ (wakeup_Valid_1_wakeup_Valid_1_L1 _ _ q _)
    have h2 := srch (L := wakeup_Valid_1_wakeup_Valid_1_L2 x) (fun _ (y : Tree) => onlyIf (eqI y.Agent x.Agent) false) (fun _ => rfl) (l.take k) 0 fun j y hy q => by
     rw [wakeup_Valid_1_wakeup_Valid_1_L2]; exact step_only _ _ _
    rw [first_onlyC] at h2
    rw [wakeup_Valid_1_wakeup_Valid_1_L1, ltI_d, decide_eq_true (by omega), cond_true, getI_nat, hx]
    simp only [Option.bind_some]
    have hlen : l.length <= B := hw.1
    rw [show slB 0 (k : Int) l.length = true by simp [slB]; omega, guardO_t, show subL l 0 (k : Int) = l.take k by simp [subL], h2, ih f x.Kids (by omega) h1.2 (hw.2 x hm), wrapS (by omega)]
    show _ = stepS (onlyIf (nodupA l k x || !dist m x.Kids) false) _
    rw [show (List.take k l).any (fun y => eqI y.Agent x.Agent) = nodupA l k x from rfl]
    cases nodupA l k x <;> cases dist m x.Kids <;> rfl) f 0 (by omega) (by have := hw.1; omega)
  rw [List.drop_zero, first_only] at h
  simp only [show ((0 : Nat) : Int) = 0 from rfl] at h
  rw [h, dist]
  cases (l.zipIdx 0).any fun x => nodupA l x.2 x.1 || !dist m x.1.Kids <;> rfl
def wakeOk (t : Tree) : Bool := eqI t.Agent 0 && dist 512 t.Kids
theorem own_wake {B f : Nat} (hB : B <= 1000000000) {t : Tree} (hf : B + 600 <= f) (hs : shal 512 t.Kids = true) (hw : wid B 512 t.Kids) : wakeup_Valid f t = some (wakeOk t) := by
 rw [wakeup_Valid, own_dist hB 512 f t.Kids (by omega) hs hw, wakeOk]
 cases eqI t.Agent 0 <;> rfl
def badS (l : List Int) (g : Int) (k : Nat) (x : Int) : Bool := orB (orB (!agentOk x) (eqI x g)) (andB (ltI 0 (k : Int)) (!(ltI (gd l (k - 1)) x)))
def sleepBad (f : Frame) : Bool := (f.Sleep.zipIdx 0).any fun x => badS f.Sleep f.Agent x.2 x.1
def headOk (g : Int) : List Tree -> Bool
 | x :: _ => andB (eqI x.Agent g) (eqI ((x.Kids.length : Nat) : Int) 0)
 | [] => false
def treeOk (f : Frame) : Bool := shal 512 f.Tree.Kids && (wakeOk f.Tree && headOk f.Agent f.Tree.Kids)
def validF (f : Frame) : Bool := agentOk f.Agent && (decide (f.Sleep.length <= 2048) && (!sleepBad f && treeOk f))
theorem own_validF {B n : Nat} (hB : B <= 1000000000) {f : Frame} (hn : B + 600 <= n) (hw : wid B 512 f.Tree.Kids) : checkpoint_validFrame n f = some (validF f) := by
 rw [checkpoint_validFrame, own_agent, Option.bind_some, validF]
 cases ha : agentOk f.Agent with
 | false => rfl
 | true =>
  rw [Bool.not_true, orB_d, Bool.false_or, ltI_d]
  by_cases hl : f.Sleep.length <= 2048
  ·rw [decide_eq_false (by omega), cond_false, decide_eq_true hl, Bool.true_and, Bool.true_and]
   have h := srch (L := checkpoint_validFrame_L1 f) (fun k x => onlyIf (badS f.Sleep f.Agent k x) false) (fun _ => rfl) f.Sleep 0 fun j x hx q => by
    have hj := getN_some hx
    rw [Nat.zero_add, checkpoint_validFrame_L1, own_agent, Option.bind_some]
    have e1 : (IntKind.i64.wrap ((j : Int) - 1)).toNat = j - 1 := by rw [wrap_i64 (by omega) (by omega)]; omega
    have e2 : orB (!(andB (!(orB (!agentOk x) (eqI x f.Agent))) (ltI 0 ((j : Nat) : Int)))) (inB (IntKind.i64.wrap (((j : Nat) : Int) - 1)) f.Sleep.length) = true := by
     rw [wrap_i64 (by omega) (by omega), orB_d, inB_d, andB_d, ltI_d]
     by_cases h0 : 0 < j
     ·rw [decide_eq_true (p := 0 <= (j : Int) - 1 /\ (j : Int) - 1 < (f.Sleep.length : Int)) (by omega), Bool.or_true]
     ·rw [decide_eq_false (p := 0 < ((j : Nat) : Int)) (by omega), Bool.and_false]; rfl
    rw [e2, guardO_t, e1]
    exact step_only _ _ _
   rw [first_only] at h
   rw [h]
   show Option.bind (Option.bind (some (toS (onlyIf (sleepBad f) false))) _) _ = _
   cases sleepBad f with
   | true => rfl
   | false =>
    simp only [onlyIf_f, toS_none, Option.bind_some]
    rw [show (512 : Int) = ((512 : Nat) : Int) from rfl, own_shal 512 n f.Tree (by omega) (by omega), Option.bind_some, treeOk]
    cases hs : shal 512 f.Tree.Kids with
    | false => rfl
    | true =>
     rw [own_wake hB hn hs hw]
     simp only [Option.isSome_some, Option.getD_some, orB_t, guardO_t, Bool.not_true]
     cases hk : wakeOk f.Tree with
     | false => rfl
     | true =>
      cases hK : f.Tree.Kids with
      | nil => rfl
      | cons x l =>
       have : eqI (((x :: l).length : Nat) : Int) 0 = false := by rw [eqI_d, decide_eq_false (by simp; omega)]
       rw [this]; rfl
  ·rw [decide_eq_true (by omega), decide_eq_false hl]; rfl
def validS (s : Snapshot) : Bool :=
 !(orB (orB (orB (orB (ltI s.Count 0) (ltI 1048576 s.Count)) (ltI s.Blocked 0)) (ltI 1048576 s.Blocked)) (ltI 512 ((s.Frames.length : Nat) : Int))) &&
  (!(andB (ltI 0 ((s.Frames.length : Nat) : Int)) (orB s.Done (eqI s.Count 0))) && s.Frames.all validF)
theorem own_valid {B n : Nat} (hB : B <= 1000000000) {s : Snapshot} (hn : B + 600 <= n) (hw : ∀ f ∈ s.Frames, wid B 512 f.Tree.Kids) : checkpoint_Valid n s = some (validS s) := by
 have h := srch (L := checkpoint_Valid_L1 n) (fun _ (f : Frame) => onlyIf (!validF f) false) (fun _ => rfl) s.Frames 0 fun j x hx q => by
  rw [checkpoint_Valid_L1, own_validF hB hn (hw x (List.mem_of_getElem? hx)), Option.bind_some]; exact step_only _ _ _
 rw [first_onlyC, any_not_all] at h
 rw [checkpoint_Valid, h, validS]
 cases orB (orB (orB (orB (ltI s.Count 0) (ltI 1048576 s.Count)) (ltI s.Blocked 0)) (ltI 1048576 s.Blocked)) (ltI 512 ((s.Frames.length : Nat) : Int)) <;> cases andB (ltI 0 ((s.Frames.length : Nat) : Int)) (orB s.Done (eqI s.Count 0)) <;> cases s.Frames.all validF <;> rfl
end Go.Dc.Pl
end
section
set_option linter.all false
namespace Go.Dc
open Go Go.Hw Go.Proofs
set_option maxRecDepth 100000
def r49_value (a0 : Int) : Option Bool :=
 some (andB (!(ltI a0 (-2147483648))) (!(ltI 2147483647 a0)))
set_option maxHeartbeats 2000000 in
theorem at_r49_value {a0 : Int} {r : Bool} (hs : r49_value a0 = some r) : At Tryz.prog 63 [iV .i64 a0] (bV r) := by
 refine at_bound (by kernel_rfl) fun hb => ?_
 refine at_code mixed Tryz.func63 (by kernel_rfl) rfl (by kernel_rfl) rfl fun Q hQ => ?_
 rw [r49_value] at hs
 refine goG f0 f0 ?_
 obtain rfl := sj hs
 exact hQ _ _ (rg f0 (Gh.refl _))
end Go.Dc
end
section
set_option linter.all false
namespace Go.Dc
open Go Go.Hw Go.Proofs
set_option maxRecDepth 100000
def r02_Valid_L1 (a0 : List Int) : List Int -> Nat -> Option (Unit ⊕ Bool)
 | [], k75 => some (.inl ())
 | x101 :: q97, k75 => Option.bind (getI a0 (IntKind.i64.wrap (((k75 : Nat) : Int) - 1))) (fun x107 => cond (!(ltI x107 x101)) (some (.inr false)) (r02_Valid_L1 a0 q97 (k75 + 1)))
def r02_Valid (a0 : List Int) : Option Bool :=
 Option.bind (α := Unit ⊕ Bool) (Option.bind (r02_Valid_L1 a0 (a0.drop 1) 1) (fun o => match o with | .inl _ => some (.inl ()) | .inr r112 => some (.inr r112))) (fun o => match o with | .inl _ => some true | .inr r113 => some r113)
set_option maxHeartbeats 2000000 in
theorem at_r02_Valid {a0 : List Int} {r : Bool} (hs : r02_Valid a0 = some r) : At Tryz.prog 64 [.cell (sC a0)] (bV r) := by
 refine at_bound (by kernel_rfl) fun hb => ?_
 have hb1 : LenOk (.sl a0.length (encL a0)) := lkc hb
 refine at_code mixed Tryz.func64 (by kernel_rfl) rfl (by kernel_rfl) rfl fun Q hQ => ?_
 rw [r02_Valid] at hs
 refine goR2 f0 ?_
 revert hs; refine bK fun o56 e55 hs => ?_
 refine awp_cutK (fun (v : Unit) (σ : St) => some (.inl v) = some o56 /\ 2 <= σ.gen) (by rfl) (fun Q hK57 hX58 => ?_) (fun v σ3 hp => ?_)
 ·refine goR f0 ?_
  revert e55; refine bK fun o92 e91 e55 => ?_
  refine awp_loopW (fun (v : (List Int) × Nat) (σ : St) => r02_Valid_L1 a0 v.1 v.2 = some o92 /\ v.1 = a0.drop v.2 /\ σ.env 0 = .cell (sC a0) /\ σ.env 3 = iV .i64 ((v.2 : Nat) : Int) /\ 2 <= σ.gen) (fun v => v.1.length) _ (Gh.refl _) (a0.drop 1, 1) ⟨e91, by simp, pv f0, pv f0, pg⟩ fun v σ6 hp L93 hL94 => ?_
  obtain ⟨q96, k75⟩ := v
  dsimp only at hp hL94
  obtain ⟨e91, hd95, h5_0, h5_3, n5_g⟩ := hp
  rcases q96 with _ | ⟨x101, q97⟩
  ·have hlt98 := drop_end hd95
   rw [r02_Valid_L1] at e91; try dsimp only at e91
   have F1 := an h5_0 h5_3
   refine goR F1 ?_
   refine condK_f (by simp [ltI]; omega) ?_
   obtain rfl := sj e91
   try dsimp only at e55
   exact hK57 () _ _ (Gh.refl _) ⟨e55, pg⟩
  ·obtain ⟨hx100, hlt98, hd102⟩ := drop_next hd95
   have ew99 := wrap_succ hlt98 (hb1).len
   rw [r02_Valid_L1] at e91; try dsimp only at e91
   have F2 := an h5_0 (an h5_3 (an hlt98 ew99))
   refine goR F2 ?_
   refine condK_t (by simp [ltI]; omega) ?_
   revert e91; refine bK fun x107 hx108 e91 => ?_
   obtain ⟨hx108a, hx108b, hx108c, hx108d⟩ := getI_some hx108
   have f109 : partCV Tryz.prog 3 (encL a0) ((IntKind.i64.wrap (((k75 : Nat) : Int) - 1)).toNat) = some (iV .i64 x107) := partCV_enc1 hx108d (by simp)
   have f110 : partCV Tryz.prog 3 (encL a0) (k75) = some (iV .i64 x101) := partCV_enc1 hx100 (by simp)
   have F3 := an F2 (an f109 f110)
   refine goD F3 ?_
   revert e91; refine cS F3 ?_ ?_ <;> intro h111 e91
   ·refine goD F3 ?_
    obtain rfl := sj e91
    try dsimp only at e55
    obtain rfl := sj e55
    try dsimp only at hs
    refine hX58 _ _ (by simp) ?_
    refine goD F3 ?_
    obtain rfl := sj hs
    exact hQ _ _ (rg F3 (Gh.refl _))
   ·refine goD F3 ?_
    exact hL94 (q97, (k75 + 1)) _ _ (Gh.refl _) ⟨e91, hd102, pv F3, pv F3, pg⟩ (by simp)
 ·obtain ⟨e55, n4_g⟩ := hp
  obtain rfl := sj e55
  try dsimp only at hs
  refine goR f0 ?_
  obtain rfl := sj hs
  exact hQ _ _ (rg f0 (Gh.refl _))
end Go.Dc
end
section
set_option linter.all false
namespace Go.Dc
open Go Go.Hw Go.Proofs
set_option maxRecDepth 100000
def r02_Has_L1 (a1 : Int) : List Int -> Nat -> Option (Unit ⊕ Bool)
 | [], k41 => some (.inl ())
 | x58 :: q54, k41 => cond (eqI x58 a1) (some (.inr true)) (r02_Has_L1 a1 q54 (k41 + 1))
def r02_Has (a0 : List Int) (a1 : Int) : Option Bool :=
 Option.bind (α := Unit ⊕ Bool) (Option.bind (r02_Has_L1 a1 a0 0) (fun o => match o with | .inl _ => some (.inl ()) | .inr r62 => some (.inr r62))) (fun o => match o with | .inl _ => some false | .inr r63 => some r63)
set_option maxHeartbeats 2000000 in
theorem at_r02_Has {a0 : List Int} {a1 : Int} {r : Bool} (hs : r02_Has a0 a1 = some r) : At Tryz.prog 65 [.cell (sC a0), iV .i64 a1] (bV r) := by
 refine at_bound (by kernel_rfl) fun hb => ?_
 have hb1 : LenOk (.sl a0.length (encL a0)) := lkc hb
 refine at_code mixed Tryz.func65 (by kernel_rfl) rfl (by kernel_rfl) rfl fun Q hQ => ?_
 rw [r02_Has] at hs
 refine goR2 f0 ?_
 revert hs; refine bK fun o31 e30 hs => ?_
 refine awp_cutK (fun (v : Unit) (σ : St) => some (.inl v) = some o31 /\ 2 <= σ.gen) (by rfl) (fun Q hK32 hX33 => ?_) (fun v σ3 hp => ?_)
 ·refine goR f0 ?_
  revert e30; refine bK fun o49 e48 e30 => ?_
  refine awp_loopW (fun (v : (List Int) × Nat) (σ : St) => r02_Has_L1 a1 v.1 v.2 = some o49 /\ v.1 = a0.drop v.2 /\ σ.env 0 = .cell (sC a0) /\ σ.env 1 = iV .i64 a1 /\ σ.env 5 = iV .i64 ((v.2 : Nat) : Int) /\ 2 <= σ.gen) (fun v => v.1.length) _ (Gh.refl _) (a0, 0) ⟨e48, by simp, pv f0, pv f0, pv f0, pg⟩ fun v σ6 hp L50 hL51 => ?_
  obtain ⟨q53, k41⟩ := v
  dsimp only at hp hL51
  obtain ⟨e48, hd52, h5_0, h5_1, h5_5, n5_g⟩ := hp
  rcases q53 with _ | ⟨x58, q54⟩
  ·have hlt55 := drop_end hd52
   rw [r02_Has_L1] at e48; try dsimp only at e48
   have F1 := an h5_0 (an h5_1 h5_5)
   refine goR F1 ?_
   refine condK_f (by simp [ltI]; omega) ?_
   obtain rfl := sj e48
   try dsimp only at e30
   exact hK32 () _ _ (Gh.refl _) ⟨e30, pg⟩
  ·obtain ⟨hx57, hlt55, hd59⟩ := drop_next hd52
   have ew56 := wrap_succ hlt55 (hb1).len
   rw [r02_Has_L1] at e48; try dsimp only at e48
   have F2 := an h5_0 (an h5_1 (an h5_5 (an hlt55 ew56)))
   refine goR F2 ?_
   refine condK_t (by simp [ltI]; omega) ?_
   have f60 : partCV Tryz.prog 3 (encL a0) (k41) = some (iV .i64 x58) := partCV_enc1 hx57 (by simp)
   have F3 := an F2 f60
   refine goR F3 ?_
   revert e48; refine cS F3 ?_ ?_ <;> intro h61 e48
   ·refine goR F3 ?_
    obtain rfl := sj e48
    try dsimp only at e30
    obtain rfl := sj e30
    try dsimp only at hs
    refine hX33 _ _ (by simp) ?_
    refine goR F3 ?_
    obtain rfl := sj hs
    exact hQ _ _ (rg F3 (Gh.refl _))
   ·refine goR F3 ?_
    exact hL51 (q54, (k41 + 1)) _ _ (Gh.refl _) ⟨e48, hd59, pv F3, pv F3, pv F3, pg⟩ (by simp)
 ·obtain ⟨e30, n4_g⟩ := hp
  obtain rfl := sj e30
  try dsimp only at hs
  refine goR f0 ?_
  obtain rfl := sj hs
  exact hQ _ _ (rg f0 (Gh.refl _))
end Go.Dc
end
section
set_option linter.all false
namespace Go.Dc
open Go Go.Hw Go.Proofs
set_option maxRecDepth 100000
def r49_depth_L1 (a1 : Int) (rF66z : Tree -> Int -> Option Bool) : List Tree -> Nat -> Option (Unit ⊕ Bool)
 | [], k51 => some (.inl ())
 | x70 :: q66, k51 => Option.bind (rF66z x70 (IntKind.i64.wrap (a1 - 1))) (fun y73 => cond (!y73) (some (.inr false)) (r49_depth_L1 a1 rF66z q66 (k51 + 1)))
def r49_depth_B (rF66z : Tree -> Int -> Option Bool) (a0 : Tree) (a1 : Int) : Option Bool :=
 guardO (orB (!(!(ltI a1 0))) ((r49_value a0.Agent).isSome)) (cond (orB (ltI a1 0) (!((r49_value a0.Agent).getD default))) (some false) (Option.bind (α := Unit ⊕ Bool) (Option.bind (r49_depth_L1 a1 rF66z a0.Kids 0) (fun o => match o with | .inl _ => some (.inl ()) | .inr r76 => some (.inr r76))) (fun o => match o with | .inl _ => some true | .inr r77 => some r77)))
def r49_depth : Nat -> Tree -> Int -> Option Bool
 | 0 => fun _ _ => none
 | fuelN + 1 => fun a0 a1 => r49_depth_B (r49_depth fuelN) a0 a1
set_option maxHeartbeats 2000000 in
theorem at_r49_depth_B {rF66z : Tree -> Int -> Option Bool} (ihrF66z : ∀ (a0 : Tree) (a1 : Int) (r : Bool), rF66z a0 a1 = some r -> At Tryz.prog 66 [.agg (eA a0), iV .i64 a1] (bV r)) {a0 : Tree} {a1 : Int} {r : Bool} (hs : r49_depth_B rF66z a0 a1 = some r) : At Tryz.prog 66 [.agg (eA a0), iV .i64 a1] (bV r) := by
 refine at_bound (by kernel_rfl) fun hb => ?_
 have hb1 : LenOk (.sl a0.Kids.length (encL a0.Kids)) := lkc hb
 refine at_code mixed Tryz.func66 (by kernel_rfl) rfl (by kernel_rfl) rfl fun Q hQ => ?_
 rw [r49_depth_B] at hs
 refine goG f0 f0 ?_
 obtain ⟨g1, hs⟩ := guardO_some hs
 refine gsel_call (fun hg => at_r49_value (under_call g1 hg)) (fun hg => by (try simp at hg); (first | simp [hg, id]); try rfl) (fun hg => by (try simp at hg); simp [hg, id]) (by simp) ?_
 refine goG f0 f0 ?_
 revert hs; refine cS f0 ?_ ?_ <;> intro h2 hs
 ·refine goG f0 f0 ?_
  obtain rfl := sj hs
  exact hQ _ _ (rg f0 (Gh.refl _))
 ·refine goG2 f0 f0 ?_
  revert hs; refine bK fun o39 e38 hs => ?_
  refine awp_cutK (fun (v : Unit) (σ : St) => some (.inl v) = some o39 /\ 3 <= σ.gen) (by rfl) (fun Q hK40 hX41 => ?_) (fun v σ3 hp => ?_)
  ·refine goG f0 f0 ?_
   revert e38; refine bK fun o61 e60 e38 => ?_
   refine awp_loopW (fun (v : (List Tree) × Nat) (σ : St) => r49_depth_L1 a1 rF66z v.1 v.2 = some o61 /\ v.1 = a0.Kids.drop v.2 /\ σ.env 1 = iV .i64 a1 /\ σ.env 2 = .cell (.ref (.o 1 0 0) 0) /\ σ.env 5 = iV .i64 ((v.2 : Nat) : Int) /\ σ.hp (.o 1 0 0) = some (.cells (eA a0)) /\ 3 <= σ.gen) (fun v => v.1.length) _ (Gh.refl _) (a0.Kids, 0) ⟨e60, by simp, pv f0, pv f0, pv f0, pv f0, pg⟩ fun v σ6 hp L62 hL63 => ?_
   obtain ⟨q65, k51⟩ := v
   dsimp only at hp hL63
   obtain ⟨e60, hd64, h5_1, h5_2, h5_5, g5_0, n5_g⟩ := hp
   have n5_0 : ¬ (σ6.gen = 0) := by omega
   rcases q65 with _ | ⟨x70, q66⟩
   ·have hlt67 := drop_end hd64
    rw [r49_depth_L1] at e60; try dsimp only at e60
    have F1 := an h5_1 (an h5_2 (an h5_5 (an g5_0 n5_0)))
    refine goR F1 ?_
    refine condK_f (by simp [ltI]; omega) ?_
    obtain rfl := sj e60
    try dsimp only at e38
    exact hK40 () _ _ (Gh.refl _) ⟨e38, pg⟩
   ·obtain ⟨hx69, hlt67, hd71⟩ := drop_next hd64
    have ew68 := wrap_succ hlt67 (hb1).len
    rw [r49_depth_L1] at e60; try dsimp only at e60
    have F2 := an h5_1 (an h5_2 (an h5_5 (an g5_0 (an n5_0 (an hlt67 ew68)))))
    refine goR F2 ?_
    refine condK_t (by simp [ltI]; omega) ?_
    have f72 : partCV Tryz.prog 57 (encL a0.Kids) (k51 * 2) = some (.agg (eA x70)) := partCV_enc hx69 (f := 0) (by simp)
    have F3 := an F2 f72
    refine goR F3 ?_
    revert e60; refine bK fun y73 hx74 e60 => ?_
    refine cP F3 (ihrF66z _ _ _ hx74) ?_
    refine goR F3 ?_
    revert e60; refine cS F3 ?_ ?_ <;> intro h75 e60
    ·refine goR F3 ?_
     obtain rfl := sj e60
     try dsimp only at e38
     obtain rfl := sj e38
     try dsimp only at hs
     refine hX41 _ _ (by simp) ?_
     refine goR F3 ?_
     obtain rfl := sj hs
     exact hQ _ _ (rg F3 (Gh.refl _))
    ·refine goR F3 ?_
     exact hL63 (q66, (k51 + 1)) _ _ (Gh.refl _) ⟨e60, hd71, pv F3, pv F3, pv F3, pv F3, pg⟩ (by simp)
  ·obtain ⟨e38, n4_g⟩ := hp
   obtain rfl := sj e38
   try dsimp only at hs
   refine goG f0 f0 ?_
   obtain rfl := sj hs
   exact hQ _ _ (rg f0 (Gh.refl _))
theorem at_r49_depth : ∀ {fuelN : Nat} {a0 : Tree} {a1 : Int} {r : Bool} (hs : r49_depth fuelN a0 a1 = some r), At Tryz.prog 66 [.agg (eA a0), iV .i64 a1] (bV r)
 | 0, _, _, _, hs => by rw [r49_depth] at hs; cases hs
 | n + 1, _, _, _, hs => by
  rw [r49_depth] at hs
  exact at_r49_depth_B (fun _ _ _ h => at_r49_depth h) hs
end Go.Dc
end
section
set_option linter.all false
namespace Go.Dc
open Go Go.Hw Go.Proofs
set_option maxRecDepth 100000
def r33_find_L1 (a1 : Int) : List Tree -> Nat -> Option (Unit ⊕ Int)
 | [], k41 => some (.inl ())
 | x58 :: q54, k41 => cond (eqI x58.Agent a1) (some (.inr ((k41 : Nat) : Int))) (r33_find_L1 a1 q54 (k41 + 1))
def r33_find (a0 : List Tree) (a1 : Int) : Option Int :=
 Option.bind (α := Unit ⊕ Int) (Option.bind (r33_find_L1 a1 a0 0) (fun o => match o with | .inl _ => some (.inl ()) | .inr r62 => some (.inr r62))) (fun o => match o with | .inl _ => some (-1) | .inr r63 => some r63)
set_option maxHeartbeats 2000000 in
theorem at_r33_find {a0 : List Tree} {a1 : Int} {r : Int} (hs : r33_find a0 a1 = some r) : At Tryz.prog 99 [.cell (sC a0), iV .i64 a1] (iV .i64 r) := by
 refine at_bound (by kernel_rfl) fun hb => ?_
 have hb1 : LenOk (.sl a0.length (encL a0)) := lkc hb
 refine at_code mixed Tryz.func99 (by kernel_rfl) rfl (by kernel_rfl) rfl fun Q hQ => ?_
 rw [r33_find] at hs
 refine goR2 f0 ?_
 revert hs; refine bK fun o31 e30 hs => ?_
 refine awp_cutK (fun (v : Unit) (σ : St) => some (.inl v) = some o31 /\ 2 <= σ.gen) (by rfl) (fun Q hK32 hX33 => ?_) (fun v σ3 hp => ?_)
 ·refine goR f0 ?_
  revert e30; refine bK fun o49 e48 e30 => ?_
  refine awp_loopW (fun (v : (List Tree) × Nat) (σ : St) => r33_find_L1 a1 v.1 v.2 = some o49 /\ v.1 = a0.drop v.2 /\ σ.env 0 = .cell (sC a0) /\ σ.env 1 = iV .i64 a1 /\ σ.env 5 = iV .i64 ((v.2 : Nat) : Int) /\ 2 <= σ.gen) (fun v => v.1.length) _ (Gh.refl _) (a0, 0) ⟨e48, by simp, pv f0, pv f0, pv f0, pg⟩ fun v σ6 hp L50 hL51 => ?_
  obtain ⟨q53, k41⟩ := v
  dsimp only at hp hL51
  obtain ⟨e48, hd52, h5_0, h5_1, h5_5, n5_g⟩ := hp
  rcases q53 with _ | ⟨x58, q54⟩
  ·have hlt55 := drop_end hd52
   rw [r33_find_L1] at e48; try dsimp only at e48
   have F1 := an h5_0 (an h5_1 h5_5)
   refine goR F1 ?_
   refine condK_f (by simp [ltI]; omega) ?_
   obtain rfl := sj e48
   try dsimp only at e30
   exact hK32 () _ _ (Gh.refl _) ⟨e30, pg⟩
  ·obtain ⟨hx57, hlt55, hd59⟩ := drop_next hd52
   have ew56 := wrap_succ hlt55 (hb1).len
   rw [r33_find_L1] at e48; try dsimp only at e48
   have F2 := an h5_0 (an h5_1 (an h5_5 (an hlt55 ew56)))
   refine goR F2 ?_
   refine condK_t (by simp [ltI]; omega) ?_
   have f60 : partCV Tryz.prog 3 (encL a0) (k41 * 2) = some (iV .i64 x58.Agent) := partCV_enc hx57 (f := 0) (by simp)
   have F3 := an F2 f60
   refine goR F3 ?_
   revert e48; refine cS F3 ?_ ?_ <;> intro h61 e48
   ·refine goR F3 ?_
    obtain rfl := sj e48
    try dsimp only at e30
    obtain rfl := sj e30
    try dsimp only at hs
    refine hX33 _ _ (by simp) ?_
    refine goR F3 ?_
    obtain rfl := sj hs
    exact hQ _ _ (rg F3 (Gh.refl _))
   ·refine goR F3 ?_
    exact hL51 (q54, (k41 + 1)) _ _ (Gh.refl _) ⟨e48, hd59, pv F3, pv F3, pv F3, pg⟩ (by simp)
 ·obtain ⟨e30, n4_g⟩ := hp
  obtain rfl := sj e30
  try dsimp only at hs
  refine goR f0 ?_
  obtain rfl := sj hs
  exact hQ _ _ (rg f0 (Gh.refl _))
end Go.Dc
end
section
set_option linter.all false
namespace Go.Dc
open Go Go.Hw Go.Proofs
set_option maxRecDepth 100000
def r33_distinct_L1 (a0 : List Tree) (rF87z : (List Tree) -> Option Bool) : List Tree -> Nat -> Option (Unit ⊕ Bool)
 | [], k57 => some (.inl ())
 | x78 :: q74, k57 => Option.bind (r33_find a0 x78.Agent) (fun y81 => guardO (orB (!(eqI y81 ((k57 : Nat) : Int))) ((rF87z x78.Kids).isSome)) (cond (orB (!(eqI y81 ((k57 : Nat) : Int))) (!((rF87z x78.Kids).getD default))) (some (.inr false)) (r33_distinct_L1 a0 rF87z q74 (k57 + 1))))
def r33_distinct_B (rF87z : (List Tree) -> Option Bool) (a0 : List Tree) : Option Bool :=
 Option.bind (α := Unit ⊕ Bool) (Option.bind (r33_distinct_L1 a0 rF87z a0 0) (fun o => match o with | .inl _ => some (.inl ()) | .inr r86 => some (.inr r86))) (fun o => match o with | .inl _ => some true | .inr r87 => some r87)
def r33_distinct : Nat -> (List Tree) -> Option Bool
 | 0 => fun _ => none
 | fuelN + 1 => fun a0 => r33_distinct_B (r33_distinct fuelN) a0
set_option maxHeartbeats 2000000 in
theorem at_r33_distinct_B {rF87z : (List Tree) -> Option Bool} (ihrF87z : ∀ (a0 : List Tree) (r : Bool), rF87z a0 = some r -> At Tryz.prog 87 [.cell (sC a0)] (bV r)) {a0 : List Tree} {r : Bool} (hs : r33_distinct_B rF87z a0 = some r) : At Tryz.prog 87 [.cell (sC a0)] (bV r) := by
 refine at_bound (by kernel_rfl) fun hb => ?_
 have hb1 : LenOk (.sl a0.length (encL a0)) := lkc hb
 refine at_code mixed Tryz.func87 (by kernel_rfl) rfl (by kernel_rfl) rfl fun Q hQ => ?_
 rw [r33_distinct_B] at hs
 refine goR2 f0 ?_
 revert hs; refine bK fun o43 e42 hs => ?_
 refine awp_cutK (fun (v : Unit) (σ : St) => some (.inl v) = some o43 /\ 2 <= σ.gen) (by rfl) (fun Q hK44 hX45 => ?_) (fun v σ3 hp => ?_)
 ·refine goR f0 ?_
  revert e42; refine bK fun o69 e68 e42 => ?_
  refine awp_loopW (fun (v : (List Tree) × Nat) (σ : St) => r33_distinct_L1 a0 rF87z v.1 v.2 = some o69 /\ v.1 = a0.drop v.2 /\ σ.env 0 = .cell (sC a0) /\ σ.env 3 = iV .i64 ((v.2 : Nat) : Int) /\ 2 <= σ.gen) (fun v => v.1.length) _ (Gh.refl _) (a0, 0) ⟨e68, by simp, pv f0, pv f0, pg⟩ fun v σ6 hp L70 hL71 => ?_
  obtain ⟨q73, k57⟩ := v
  dsimp only at hp hL71
  obtain ⟨e68, hd72, h5_0, h5_3, n5_g⟩ := hp
  rcases q73 with _ | ⟨x78, q74⟩
  ·have hlt75 := drop_end hd72
   rw [r33_distinct_L1] at e68; try dsimp only at e68
   have F1 := an h5_0 h5_3
   refine goR F1 ?_
   refine condK_f (by simp [ltI]; omega) ?_
   obtain rfl := sj e68
   try dsimp only at e42
   exact hK44 () _ _ (Gh.refl _) ⟨e42, pg⟩
  ·obtain ⟨hx77, hlt75, hd79⟩ := drop_next hd72
   have ew76 := wrap_succ hlt75 (hb1).len
   rw [r33_distinct_L1] at e68; try dsimp only at e68
   have F2 := an h5_0 (an h5_3 (an hlt75 ew76))
   refine goR F2 ?_
   refine condK_t (by simp [ltI]; omega) ?_
   have f80 : partCV Tryz.prog 3 (encL a0) (k57 * 2) = some (iV .i64 x78.Agent) := partCV_enc hx77 (f := 0) (by simp)
   have F3 := an F2 f80
   refine goR F3 ?_
   revert e68; refine bK fun y81 hx82 e68 => ?_
   refine cP F3 (at_r33_find hx82) ?_
   have f83 : partCV Tryz.prog 55 (encL a0) (k57 * 2 + 1) = some (.cell (sC x78.Kids)) := partCV_enc hx77 (f := 1) (by simp)
   have F4 := an F3 f83
   refine goG F4 F4 ?_
   obtain ⟨g84, e68⟩ := guardO_some e68
   refine gsel_call (fun hg => ihrF87z _ _ (under_call g84 hg)) (fun hg => by (try simp at hg); (first | simp [hg, F4]); try rfl) (fun hg => by (try simp at hg); simp [hg, F4]) (by simp) ?_
   refine goG F4 F4 ?_
   revert e68; refine cS F4 ?_ ?_ <;> intro h85 e68
   ·refine goG F4 F4 ?_
    obtain rfl := sj e68
    try dsimp only at e42
    obtain rfl := sj e42
    try dsimp only at hs
    refine hX45 _ _ (by simp) ?_
    refine goG F4 F4 ?_
    obtain rfl := sj hs
    exact hQ _ _ (rg F4 (Gh.refl _))
   ·refine goG F4 F4 ?_
    exact hL71 (q74, (k57 + 1)) _ _ (Gh.refl _) ⟨e68, hd79, pv F4, pv F4, pg⟩ (by simp)
 ·obtain ⟨e42, n4_g⟩ := hp
  obtain rfl := sj e42
  try dsimp only at hs
  refine goR f0 ?_
  obtain rfl := sj hs
  exact hQ _ _ (rg f0 (Gh.refl _))
theorem at_r33_distinct : ∀ {fuelN : Nat} {a0 : List Tree} {r : Bool} (hs : r33_distinct fuelN a0 = some r), At Tryz.prog 87 [.cell (sC a0)] (bV r)
 | 0, _, _, hs => by rw [r33_distinct] at hs; cases hs
 | n + 1, _, _, hs => by
  rw [r33_distinct] at hs
  exact at_r33_distinct_B (fun _ _ h => at_r33_distinct h) hs
end Go.Dc
end
section
set_option linter.all false
namespace Go.Dc
open Go Go.Hw Go.Proofs
set_option maxRecDepth 100000
def r33_Valid (fuelN : Nat) (a0 : Tree) : Option Bool :=
 guardO (orB (!(eqI a0.Agent 0)) ((r33_distinct fuelN a0.Kids).isSome)) (some (andB (eqI a0.Agent 0) ((r33_distinct fuelN a0.Kids).getD default)))
set_option maxHeartbeats 2000000 in
theorem at_r33_Valid {fuelN : Nat} {a0 : Tree} {r : Bool} (hs : r33_Valid fuelN a0 = some r) : At Tryz.prog 67 [.agg (eA a0)] (bV r) := by
 refine at_bound (by kernel_rfl) fun hb => ?_
 have hb1 : LenOk (.sl a0.Kids.length (encL a0.Kids)) := lkc hb
 refine at_code mixed Tryz.func67 (by kernel_rfl) rfl (by kernel_rfl) rfl fun Q hQ => ?_
 rw [r33_Valid] at hs
 refine goG f0 f0 ?_
 obtain ⟨g1, hs⟩ := guardO_some hs
 refine gsel_call (fun hg => at_r33_distinct (under_call g1 hg)) (fun hg => by (try simp at hg); (first | simp [hg, id]); try rfl) (fun hg => by (try simp at hg); simp [hg, id]) (by simp) ?_
 refine goG f0 f0 ?_
 obtain rfl := sj hs
 exact hQ _ _ (rg f0 (Gh.refl _))
end Go.Dc
end
section
set_option linter.all false
namespace Go.Dc
open Go Go.Hw Go.Proofs
set_option maxRecDepth 100000
def r49_frame_L1 : List Int -> Nat -> Option (Unit ⊕ Bool)
 | [], k54 => some (.inl ())
 | x73 :: q69, k54 => Option.bind (r49_value x73) (fun y76 => cond (!y76) (some (.inr false)) (r49_frame_L1 q69 (k54 + 1)))
def r49_frame (fuelN : Nat) (a0 : Frame) : Option Bool :=
 Option.bind (r49_value a0.Agent) (fun y1 => guardO (orB (!y1) ((r02_Valid a0.Sleep).isSome)) (guardO (orB (!(!(orB (orB (!y1) (!((r02_Valid a0.Sleep).getD default))) (ltI 2048 ((a0.Sleep.length : Nat) : Int))))) ((r02_Has a0.Sleep a0.Agent).isSome)) (cond (orB (orB (orB (!y1) (!((r02_Valid a0.Sleep).getD default))) (ltI 2048 ((a0.Sleep.length : Nat) : Int))) ((r02_Has a0.Sleep a0.Agent).getD default)) (some false) (Option.bind (α := Unit ⊕ Bool) (Option.bind (r49_frame_L1 a0.Sleep 0) (fun o => match o with | .inl _ => some (.inl ()) | .inr r79 => some (.inr r79))) (fun o => match o with | .inl _ => Option.bind (r49_depth fuelN a0.Tree 512) (fun y80 => guardO (orB (!y80) ((r33_Valid fuelN a0.Tree).isSome)) (cond (orB (orB (!y80) (!((r33_Valid fuelN a0.Tree).getD default))) (eqI ((a0.Tree.Kids.length : Nat) : Int) 0)) (some false) (Option.bind (a0.Tree.Kids[0]?) (fun x88 => some (andB (eqI x88.Agent a0.Agent) (eqI ((x88.Kids.length : Nat) : Int) 0)))))) | .inr r92 => some r92)))))
set_option maxHeartbeats 2000000 in
theorem at_r49_frame {fuelN : Nat} {a0 : Frame} {r : Bool} (hs : r49_frame fuelN a0 = some r) : At Tryz.prog 33 [.agg (eA a0)] (bV r) := by
 refine at_bound (by kernel_rfl) fun hb => ?_
 have hb1 : LenOk (.sl a0.Sleep.length (encL a0.Sleep)) := lkc hb
 have hb2 : LenOk (.sl a0.Tree.Kids.length (encL a0.Tree.Kids)) := lkc hb
 refine at_code mixed Tryz.func33 (by kernel_rfl) rfl (by kernel_rfl) rfl fun Q hQ => ?_
 rw [r49_frame] at hs
 refine goR f0 ?_
 revert hs; refine bK fun y1 hx2 hs => ?_
 refine cP f0 (at_r49_value hx2) ?_
 refine goG f0 f0 ?_
 obtain ⟨g3, hs⟩ := guardO_some hs
 refine gsel_call (fun hg => at_r02_Valid (under_call g3 hg)) (fun hg => by (try simp at hg); (first | simp [hg, id]); try rfl) (fun hg => by (try simp at hg); simp [hg, id]) (by simp) ?_
 refine goG f0 f0 ?_
 obtain ⟨g4, hs⟩ := guardO_some hs
 refine gsel_call (fun hg => at_r02_Has (under_call g4 hg)) (fun hg => by (try simp at hg); (first | simp [hg, id]); try rfl) (fun hg => by (try simp at hg); simp [hg, id]) (by simp) ?_
 refine goG f0 f0 ?_
 revert hs; refine cS f0 ?_ ?_ <;> intro h5 hs
 ·refine goG f0 f0 ?_
  obtain rfl := sj hs
  exact hQ _ _ (rg f0 (Gh.refl _))
 ·refine goG2 f0 f0 ?_
  revert hs; refine bK fun o42 e41 hs => ?_
  refine awp_cutK (fun (v : Unit) (σ : St) => some (.inl v) = some o42 /\ σ.env 1 = .cell (.ref (.o 1 0 0) 0) /\ σ.hp (.o 1 0 0) = some (.cells (eA a0)) /\ 3 <= σ.gen) (by rfl) (fun Q hK43 hX44 => ?_) (fun v σ3 hp => ?_)
  ·refine goG f0 f0 ?_
   revert e41; refine bK fun o64 e63 e41 => ?_
   refine awp_loopW (fun (v : (List Int) × Nat) (σ : St) => r49_frame_L1 v.1 v.2 = some o64 /\ v.1 = a0.Sleep.drop v.2 /\ σ.env 1 = .cell (.ref (.o 1 0 0) 0) /\ σ.env 3 = iV .i64 ((v.2 : Nat) : Int) /\ σ.hp (.o 1 0 0) = some (.cells (eA a0)) /\ 3 <= σ.gen) (fun v => v.1.length) _ (Gh.refl _) (a0.Sleep, 0) ⟨e63, by simp, pv f0, pv f0, pv f0, pg⟩ fun v σ6 hp L65 hL66 => ?_
   obtain ⟨q68, k54⟩ := v
   dsimp only at hp hL66
   obtain ⟨e63, hd67, h5_1, h5_3, g5_0, n5_g⟩ := hp
   have n5_0 : ¬ (σ6.gen = 0) := by omega
   rcases q68 with _ | ⟨x73, q69⟩
   ·have hlt70 := drop_end hd67
    rw [r49_frame_L1] at e63; try dsimp only at e63
    have F1 := an h5_1 (an h5_3 (an g5_0 n5_0))
    refine goR F1 ?_
    refine condK_f (by simp [ltI]; omega) ?_
    obtain rfl := sj e63
    try dsimp only at e41
    exact hK43 () _ _ (Gh.refl _) ⟨e41, pv F1, pv F1, pg⟩
   ·obtain ⟨hx72, hlt70, hd74⟩ := drop_next hd67
    have ew71 := wrap_succ hlt70 (hb1).len
    rw [r49_frame_L1] at e63; try dsimp only at e63
    have F2 := an h5_1 (an h5_3 (an g5_0 (an n5_0 (an hlt70 ew71))))
    refine goR F2 ?_
    refine condK_t (by simp [ltI]; omega) ?_
    have f75 : partCV Tryz.prog 3 (encL a0.Sleep) (k54) = some (iV .i64 x73) := partCV_enc1 hx72 (by simp)
    have F3 := an F2 f75
    refine goR F3 ?_
    revert e63; refine bK fun y76 hx77 e63 => ?_
    refine cP F3 (at_r49_value hx77) ?_
    refine goR F3 ?_
    revert e63; refine cS F3 ?_ ?_ <;> intro h78 e63
    ·refine goR F3 ?_
     obtain rfl := sj e63
     try dsimp only at e41
     obtain rfl := sj e41
     try dsimp only at hs
     refine hX44 _ _ (by simp) ?_
     refine goR F3 ?_
     obtain rfl := sj hs
     exact hQ _ _ (rg F3 (Gh.refl _))
    ·refine goR F3 ?_
     exact hL66 (q69, (k54 + 1)) _ _ (Gh.refl _) ⟨e63, hd74, pv F3, pv F3, pv F3, pg⟩ (by simp)
  ·obtain ⟨e41, h4_1, g4_0, n4_g⟩ := hp
   obtain rfl := sj e41
   try dsimp only at hs
   have n4_0 : ¬ (σ3.gen = 0) := by omega
   have F4 := an h4_1 (an g4_0 n4_0)
   refine goG F4 F4 ?_
   revert hs; refine bK fun y80 hx81 hs => ?_
   refine cP F4 (at_r49_depth hx81) ?_
   refine goG F4 F4 ?_
   obtain ⟨g82, hs⟩ := guardO_some hs
   refine gsel_call (fun hg => at_r33_Valid (under_call g82 hg)) (fun hg => by (try simp at hg); (first | simp [hg, F4]); try rfl) (fun hg => by (try simp at hg); simp [hg, F4]) (by simp) ?_
   refine goG F4 F4 ?_
   revert hs; refine cS F4 ?_ ?_ <;> intro h83 hs
   ·refine goG F4 F4 ?_
    obtain rfl := sj hs
    exact hQ _ _ (rg F4 (Gh.refl _))
   ·revert hs; refine bK fun x88 hx89 hs => ?_
    have hx89b := getN_some hx89
    have f90 : partCV Tryz.prog 3 (encL a0.Tree.Kids) (0 * 2) = some (iV .i64 x88.Agent) := partCV_enc hx89 (f := 0) (by simp)
    have f91 : partCV Tryz.prog 55 (encL a0.Tree.Kids) (0 * 2 + 1) = some (.cell (sC x88.Kids)) := partCV_enc hx89 (f := 1) (by simp)
    have F5 := an F4 (an f90 f91)
    have F6 := an F5 hx89b
    refine goE F5 F6 ?_
    obtain rfl := sj hs
    exact hQ _ _ (rg F5 (Gh.refl _))
end Go.Dc
end
section
set_option linter.all false
namespace Go.Dc
open Go Go.Hw Go.Proofs
set_option maxRecDepth 100000
def r49_Valid_L1 (fuelN : Nat) : List Frame -> Nat -> Option (Unit ⊕ Bool)
 | [], k50 => some (.inl ())
 | x69 :: q65, k50 => Option.bind (r49_frame fuelN x69) (fun y72 => cond (!y72) (some (.inr false)) (r49_Valid_L1 fuelN q65 (k50 + 1)))
def r49_Valid (fuelN : Nat) (a0 : Snapshot) : Option Bool :=
 cond (orB (orB (orB (orB (orB (ltI a0.Count 0) (ltI 1048576 a0.Count)) (ltI a0.Blocked 0)) (ltI 1048576 a0.Blocked)) (ltI 512 ((a0.Frames.length : Nat) : Int))) (andB (ltI 0 ((a0.Frames.length : Nat) : Int)) (orB a0.Done (eqI a0.Count 0)))) (some false) (Option.bind (α := Unit ⊕ Bool) (Option.bind (r49_Valid_L1 fuelN a0.Frames 0) (fun o => match o with | .inl _ => some (.inl ()) | .inr r75 => some (.inr r75))) (fun o => match o with | .inl _ => some true | .inr r76 => some r76))
set_option maxHeartbeats 2000000 in
theorem at_r49_Valid {fuelN : Nat} {a0 : Snapshot} {r : Bool} (hs : r49_Valid fuelN a0 = some r) : At Tryz.prog 13 [.agg (eA a0)] (bV r) := by
 refine at_bound (by kernel_rfl) fun hb => ?_
 have hb1 : LenOk (.sl a0.Frames.length (encL a0.Frames)) := lkc hb
 refine at_code mixed Tryz.func13 (by kernel_rfl) rfl (by kernel_rfl) rfl fun Q hQ => ?_
 rw [r49_Valid] at hs
 refine goG f0 f0 ?_
 revert hs; refine cS f0 ?_ ?_ <;> intro h1 hs
 ·refine goG f0 f0 ?_
  obtain rfl := sj hs
  exact hQ _ _ (rg f0 (Gh.refl _))
 ·refine goG2 f0 f0 ?_
  revert hs; refine bK fun o38 e37 hs => ?_
  refine awp_cutK (fun (v : Unit) (σ : St) => some (.inl v) = some o38 /\ 3 <= σ.gen) (by rfl) (fun Q hK39 hX40 => ?_) (fun v σ3 hp => ?_)
  ·refine goG f0 f0 ?_
   revert e37; refine bK fun o60 e59 e37 => ?_
   refine awp_loopW (fun (v : (List Frame) × Nat) (σ : St) => r49_Valid_L1 fuelN v.1 v.2 = some o60 /\ v.1 = a0.Frames.drop v.2 /\ σ.env 1 = .cell (.ref (.o 1 0 0) 0) /\ σ.env 3 = iV .i64 ((v.2 : Nat) : Int) /\ σ.hp (.o 1 0 0) = some (.cells (eA a0)) /\ 3 <= σ.gen) (fun v => v.1.length) _ (Gh.refl _) (a0.Frames, 0) ⟨e59, by simp, pv f0, pv f0, pv f0, pg⟩ fun v σ6 hp L61 hL62 => ?_
   obtain ⟨q64, k50⟩ := v
   dsimp only at hp hL62
   obtain ⟨e59, hd63, h5_1, h5_3, g5_0, n5_g⟩ := hp
   have n5_0 : ¬ (σ6.gen = 0) := by omega
   rcases q64 with _ | ⟨x69, q65⟩
   ·have hlt66 := drop_end hd63
    rw [r49_Valid_L1] at e59; try dsimp only at e59
    have F1 := an h5_1 (an h5_3 (an g5_0 n5_0))
    refine goR F1 ?_
    refine condK_f (by simp [ltI]; omega) ?_
    obtain rfl := sj e59
    try dsimp only at e37
    exact hK39 () _ _ (Gh.refl _) ⟨e37, pg⟩
   ·obtain ⟨hx68, hlt66, hd70⟩ := drop_next hd63
    have ew67 := wrap_succ hlt66 (hb1).len
    rw [r49_Valid_L1] at e59; try dsimp only at e59
    have F2 := an h5_1 (an h5_3 (an g5_0 (an n5_0 (an hlt66 ew67))))
    refine goR F2 ?_
    refine condK_t (by simp [ltI]; omega) ?_
    have f71 : partCV Tryz.prog 59 (encL a0.Frames) (k50 * 4) = some (.agg (eA x69)) := partCV_enc hx68 (f := 0) (by simp)
    have F3 := an F2 f71
    refine goR F3 ?_
    revert e59; refine bK fun y72 hx73 e59 => ?_
    refine cP F3 (at_r49_frame hx73) ?_
    refine goR F3 ?_
    revert e59; refine cS F3 ?_ ?_ <;> intro h74 e59
    ·refine goR F3 ?_
     obtain rfl := sj e59
     try dsimp only at e37
     obtain rfl := sj e37
     try dsimp only at hs
     refine hX40 _ _ (by simp) ?_
     refine goR F3 ?_
     obtain rfl := sj hs
     exact hQ _ _ (rg F3 (Gh.refl _))
    ·refine goR F3 ?_
     exact hL62 (q65, (k50 + 1)) _ _ (Gh.refl _) ⟨e59, hd70, pv F3, pv F3, pv F3, pg⟩ (by simp)
  ·obtain ⟨e37, n4_g⟩ := hp
   obtain rfl := sj e37
   try dsimp only at hs
   refine goG f0 f0 ?_
   obtain rfl := sj hs
   exact hQ _ _ (rg f0 (Gh.refl _))
end Go.Dc
end
section
set_option linter.all false
namespace Go.Dc.Pl
open Go Go.Hw Go.Dc
theorem ref_value (n : Int) : r49_value n = some (agentOk n) := rfl
theorem depth_neg {f : Nat} {x : Tree} : r49_depth (f + 1) x (-1) = some false := by
 show r49_depth_B (r49_depth f) x (-1) = _
 unfold r49_depth_B; rfl
theorem ref_depth : ∀ (m f : Nat) (t : Tree), m <= 1000 -> m + 1 < f -> r49_depth f t (m : Int) = some (agentOk t.Agent && shal m t.Kids) := by
 intro m
 induction m with
 | zero =>
  intro f t _ hf
  obtain ⟨f, rfl⟩ : ∃ k, f = k + 2 := ⟨f - 2, by omega⟩
  show r49_depth_B (r49_depth (f + 1)) t ((0 : Nat) : Int) = _
  unfold r49_depth_B
  rw [ref_value, show (some (agentOk t.Agent)).isSome = true from rfl, orB_t, guardO_t, show ltI ((0 : Nat) : Int) 0 = false from rfl, orB_d, Bool.false_or, shal]
  cases agentOk t.Agent with
  | false => rfl
  | true =>
   cases hk : t.Kids with
   | nil => rfl
   | cons x l =>
    simp only [Option.getD_some, Bool.not_true, cond_false]
    rw [r49_depth_L1, show IntKind.i64.wrap (((0 : Nat) : Int) - 1) = -1 from by rw [wrap_i64 (by omega) (by omega)]; rfl, depth_neg]
    simp
 | succ m ih =>
  intro f t hm hf
  obtain ⟨f, rfl⟩ : ∃ k, f = k + 1 := ⟨f - 1, by omega⟩
  show r49_depth_B (r49_depth f) t ((m + 1 : Nat) : Int) = _
  unfold r49_depth_B
  have h := srch (L := r49_depth_L1 ((m + 1 : Nat) : Int) (r49_depth f)) (fun _ (k : Tree) => onlyIf (!(agentOk k.Agent && shal m k.Kids)) false) (fun _ => rfl) t.Kids 0 fun j x hx q => by
   rw [r49_depth_L1, show ((m + 1 : Nat) : Int) - 1 = (m : Int) by omega, wrapN (by omega), ih f x (by omega) (by omega), Option.bind_some]
   exact step_only _ _ _
  rw [first_onlyC, any_not_all] at h
  rw [ref_value, show (some (agentOk t.Agent)).isSome = true from rfl, orB_t, guardO_t, show ltI ((m + 1 : Nat) : Int) 0 = false by rw [ltI_d, decide_eq_false (by omega)], orB_d, Bool.false_or, h, shal]
  cases agentOk t.Agent <;> cases t.Kids.all fun k => agentOk k.Agent && shal m k.Kids <;> rfl
theorem first_app {α β : Type} (f : Nat -> α -> Option β) : ∀ (a b : List α) (k : Nat), first f (a ++ b) k = match first f a k with | some r => some r | none => first f b (k + a.length)
 | [], b, k => by simp
 | x :: a, b, k => by
  rw [List.cons_append, first_cons, first_cons, first_app f a b (k + 1)]
  cases f k x with
  | some r => rfl
  | none => simp only [List.length_cons]; rw [show k + 1 + a.length = k + (a.length + 1) by omega]
theorem ref_find (l : List Tree) (a : Int) : r33_find l a = some ((first (fun k (y : Tree) => onlyIf (eqI y.Agent a) (k : Int)) l 0).getD (-1)) := by
 have h := srch (L := r33_find_L1 a) (fun k (y : Tree) => onlyIf (eqI y.Agent a) (k : Int)) (fun _ => rfl) l 0 fun j x hx q => by
  rw [r33_find_L1]; exact step_only _ _ _
 rw [r33_find, h]
 cases first (fun k (y : Tree) => onlyIf (eqI y.Agent a) (k : Int)) l 0 <;> rfl
theorem find_at {l : List Tree} {j : Nat} {x : Tree} (hx : l[j]? = some x) : eqI ((first (fun k (y : Tree) => onlyIf (eqI y.Agent x.Agent) (k : Int)) l 0).getD (-1)) (j : Int) = !nodupA l j x := by
 have hj := getN_some hx
 have hd := drop_at hx
 have hsplit := first_app (fun k (y : Tree) => onlyIf (eqI y.Agent x.Agent) (k : Int)) (l.take j) (l.drop j) 0
 rw [List.take_append_drop, hd, first_cons, show eqI x.Agent x.Agent = true by rw [eqI_d, decide_eq_true rfl]] at hsplit
 have hs := first_isSome (fun y : Tree => eqI y.Agent x.Agent) (fun k _ => (k : Int)) (l.take j) 0
 rw [hsplit]
 unfold nodupA
 cases hf : first (fun k (y : Tree) => onlyIf (eqI y.Agent x.Agent) (k : Int)) (l.take j) 0 with
 | none => rw [hf] at hs; rw [<- hs]; simp [eqI_d]; omega
 | some r =>
  rw [hf] at hs
  rw [<- hs]
  obtain ⟨i, y, hy, he⟩ := first_some hf
  have hi := getN_some hy
  cases hc : eqI y.Agent x.Agent with
  | false => rw [hc] at he; cases he
  | true =>
   rw [hc] at he
   have : r = ((0 + i : Nat) : Int) := (Option.some.inj he).symm
   simp at hi
   simp [eqI_d]; omega
theorem ref_dist : ∀ (m f : Nat) (l : List Tree), m + 2 <= f -> shal m l = true -> r33_distinct f l = some (dist m l) := by
 intro m
 induction m with
 | zero =>
  intro f l hf hs
  obtain ⟨f, rfl⟩ : ∃ k, f = k + 2 := ⟨f - 2, by omega⟩
  simp only [shal, decide_eq_true_eq, List.length_eq_zero_iff] at hs
  subst hs; rfl
 | succ m ih =>
  intro f l hf hs
  obtain ⟨f, rfl⟩ : ∃ k, f = k + 1 := ⟨f - 1, by omega⟩
  rw [shal, List.all_eq_true] at hs
  show r33_distinct_B (r33_distinct f) l = _
  unfold r33_distinct_B
  have h := srch (L := r33_distinct_L1 l (r33_distinct f)) (fun k x => onlyIf (nodupA l k x || !dist m x.Kids) false) (fun _ => rfl) l 0 fun j x hx q => by
   have h1 := hs x (List.mem_of_getElem? hx)
   rw [Bool.and_eq_true] at h1
   rw [Nat.zero_add, r33_distinct_L1, ref_find, Option.bind_some, find_at hx, ih f x.Kids (by omega) h1.2]
   simp only [Option.isSome_some, Option.getD_some, orB_t, guardO_t, Bool.not_not]
   exact step_only _ _ _
  rw [first_only] at h
  rw [h, dist]
  cases (l.zipIdx 0).any fun x => nodupA l x.2 x.1 || !dist m x.1.Kids <;> rfl
theorem any_or {α : Type} (p q : α -> Bool) (l : List α) : (l.any fun x => p x || q x) = (l.any p || l.any q) := by induction l with
 | nil => rfl
 | cons x l ih => simp only [List.any_cons, ih]; cases p x <;> cases q x <;> cases l.any p <;> rfl
theorem any_zip {α : Type} (p : α -> Bool) : ∀ (l : List α) (k : Nat), ((l.zipIdx k).any fun x => p x.1) = l.any p
 | [], _ => rfl
 | x :: l, k => by rw [List.zipIdx_cons, List.any_cons, List.any_cons, any_zip p l]
theorem any_pos {α : Type} (P : α × Nat -> Bool) : ∀ (l : List α) (k : Nat), 1 <= k -> ((l.zipIdx k).any fun x => andB (ltI 0 ((x.2 : Nat) : Int)) (P x)) = (l.zipIdx k).any P
 | [], _, _ => rfl
 | x :: l, k, h => by
  rw [List.zipIdx_cons, List.any_cons, List.any_cons, any_pos P l (k + 1) (by omega), show ltI 0 ((k : Nat) : Int) = true by rw [ltI_d, decide_eq_true (by omega)], andB_d, Bool.true_and]
def unsorted (l : List Int) : Bool := ((l.drop 1).zipIdx 1).any fun x => !(ltI (gd l (x.2 - 1)) x.1)
theorem sleep_split (f : Frame) : sleepBad f = ((f.Sleep.any fun x => !agentOk x) || (f.Sleep.any fun x => eqI x f.Agent) || unsorted f.Sleep) := by
 unfold sleepBad badS
 simp only [orB_d]
 rw [any_or (fun x : Int × Nat => (!agentOk x.1) || eqI x.1 f.Agent) (fun x => andB (ltI 0 ((x.2 : Nat) : Int)) (!(ltI (gd f.Sleep (x.2 - 1)) x.1))), any_or (fun x : Int × Nat => !agentOk x.1) (fun x => eqI x.1 f.Agent), any_zip (fun x => !agentOk x), any_zip (fun x => eqI x f.Agent)]
 congr 1
 unfold unsorted
 cases hs : f.Sleep with
 | nil => rfl
 | cons y q =>
  rw [List.zipIdx_cons, List.any_cons, show ltI 0 ((0 : Nat) : Int) = false from rfl, andB_d, Bool.false_and, Bool.false_or]
  exact any_pos (fun x => !(ltI (gd (y :: q) (x.2 - 1)) x.1)) q 1 (by omega)
theorem ref_sorted (l : List Int) (hl : l.length <= 1000000000000) : r02_Valid l = some (!unsorted l) := by
 have h := srch (L := r02_Valid_L1 l) (fun k x => onlyIf (!(ltI (gd l (k - 1)) x)) false) (fun _ => rfl) (l.drop 1) 1 fun j x hx q => by
  have hj := getN_some hx
  rw [List.length_drop] at hj
  have hg : l[j]? = some (gd l j) := by simp [gd]; rw [List.getElem?_eq_getElem (by omega)]; rfl
  rw [r02_Valid_L1, show ((1 + j : Nat) : Int) - 1 = (j : Int) by omega, wrapN (by omega), getI_nat, hg, Option.bind_some, show 1 + j - 1 = j by omega]
  exact step_only _ _ _
 rw [first_only] at h
 rw [r02_Valid, h]
 show Option.bind (Option.bind (some (toS (onlyIf (unsorted l) false))) _) _ = _
 cases unsorted l <;> rfl
theorem ref_has (l : List Int) (a : Int) : r02_Has l a = some (l.any fun x => eqI x a) := by
 have h := srch (L := r02_Has_L1 a) (fun _ (x : Int) => onlyIf (eqI x a) true) (fun _ => rfl) l 0 fun j x hx q => by
  rw [r02_Has_L1]; exact step_only _ _ _
 rw [first_onlyC] at h
 rw [r02_Has, h]
 cases l.any fun x => eqI x a <;> rfl
theorem ref_validF {n : Nat} {f : Frame} (hn : 600 <= n) (hl : f.Sleep.length <= 1000000000000) : r49_frame n f = some (validF f) := by
 have h := srch (L := r49_frame_L1) (fun _ (x : Int) => onlyIf (!agentOk x) false) (fun _ => rfl) f.Sleep 0 fun j x hx q => by
  rw [r49_frame_L1, ref_value, Option.bind_some]; exact step_only _ _ _
 rw [first_onlyC] at h
 rw [r49_frame, ref_value, Option.bind_some, ref_sorted _ hl, ref_has, h, validF, sleep_split]
 simp only [Option.isSome_some, Option.getD_some, orB_t, guardO_t, ltI_d]
 cases ha : agentOk f.Agent with
 | false => rfl
 | true =>
  rw [Bool.true_and]
  by_cases h2 : f.Sleep.length <= 2048
  ·rw [decide_eq_false (p := (2048 : Int) < ((f.Sleep.length : Nat) : Int)) (by omega), decide_eq_true h2, Bool.true_and]
   cases hu : unsorted f.Sleep with
   | true => simp [orB_d]
   | false =>
    cases hh : f.Sleep.any fun x => eqI x f.Agent with
    | true => simp [orB_d]
    | false =>
     cases hb : f.Sleep.any fun x => !agentOk x with
     | true => simp [orB_d]
     | false =>
      simp only [Bool.not_true, Bool.not_false, Bool.or_false, Bool.true_and, orB_d, cond_false, onlyIf_f, toS_none, Option.bind_some]
      rw [show (512 : Int) = ((512 : Nat) : Int) from rfl, ref_depth 512 n f.Tree (by omega) (by omega), Option.bind_some, treeOk]
      cases hs : shal 512 f.Tree.Kids with
      | false => rw [Bool.and_false]; rfl
      | true =>
       rw [r33_Valid, ref_dist 512 n f.Tree.Kids (by omega) hs, wakeOk, Bool.and_true, Bool.true_and]
       simp only [Option.isSome_some, Option.getD_some, orB_t, guardO_t]
       cases h0 : eqI f.Tree.Agent 0 with
       | false => cases agentOk f.Tree.Agent <;> rfl
       | true =>
        have e0 : f.Tree.Agent = 0 := by rw [eqI_d] at h0; exact of_decide_eq_true h0
        rw [e0, show agentOk 0 = true from rfl]
        cases hd : dist 512 f.Tree.Kids with
        | false => rfl
        | true =>
         cases hK : f.Tree.Kids with
         | nil => rfl
         | cons x l =>
          have : eqI (((x :: l).length : Nat) : Int) 0 = false := by rw [eqI_d, decide_eq_false (by simp; omega)]
          rw [this]; rfl
  ·rw [decide_eq_true (p := (2048 : Int) < ((f.Sleep.length : Nat) : Int)) (by omega), decide_eq_false h2]
   simp [orB_d]
theorem ref_valid {n : Nat} {s : Snapshot} (hn : 600 <= n) (hl : ∀ f ∈ s.Frames, f.Sleep.length <= 1000000000000) : r49_Valid n s = some (validS s) := by
 have h := srch (L := r49_Valid_L1 n) (fun _ (f : Frame) => onlyIf (!validF f) false) (fun _ => rfl) s.Frames 0 fun j x hx q => by
  rw [r49_Valid_L1, ref_validF hn (hl x (List.mem_of_getElem? hx)), Option.bind_some]; exact step_only _ _ _
 rw [first_onlyC, any_not_all] at h
 rw [r49_Valid, h, validS]
 cases orB (orB (orB (orB (ltI s.Count 0) (ltI 1048576 s.Count)) (ltI s.Blocked 0)) (ltI 1048576 s.Blocked)) (ltI 512 ((s.Frames.length : Nat) : Int)) <;> cases andB (ltI 0 ((s.Frames.length : Nat) : Int)) (orB s.Done (eqI s.Count 0)) <;> cases s.Frames.all validF <;> rfl
end Go.Dc.Pl
end
section
set_option linter.all false
namespace Go.Dc
open Go Go.Hw Go.Proofs
set_option maxRecDepth 100000
def program_CheckConfig (a0 : Config) : Option Int :=
 cond (andB (andB (!(eqI a0.Model 1)) (!(eqI a0.Model 2))) (!(eqI a0.Model 3))) (some 18) (cond (orB (ltI a0.Bound 1) (ltI 32 a0.Bound)) (some 2) (some 0))
set_option maxHeartbeats 2000000 in
theorem at_program_CheckConfig {a0 : Config} {r : Int} (hs : program_CheckConfig a0 = some r) : At Tryz.prog 81 [.agg (eA a0)] (iV .i64 r) := by
 refine at_bound (by kernel_rfl) fun hb => ?_
 refine at_code mixed Tryz.func81 (by kernel_rfl) rfl (by kernel_rfl) rfl fun Q hQ => ?_
 rw [program_CheckConfig] at hs
 refine goG f0 f0 ?_
 revert hs; refine cS f0 ?_ ?_ <;> intro h1 hs
 ·refine goG f0 f0 ?_
  obtain rfl := sj hs
  exact hQ _ _ (rg f0 (Gh.refl _))
 ·refine goG f0 f0 ?_
  revert hs; refine cS f0 ?_ ?_ <;> intro h2 hs
  ·refine goG f0 f0 ?_
   obtain rfl := sj hs
   exact hQ _ _ (rg f0 (Gh.refl _))
  ·refine goG f0 f0 ?_
   obtain rfl := sj hs
   exact hQ _ _ (rg f0 (Gh.refl _))
end Go.Dc
end
section
set_option linter.all false
namespace Go.Dc
open Go Go.Hw Go.Proofs
set_option maxRecDepth 100000
def checkpoint_standard (fuelN : Nat) (a0 : Program) (a1 : Config) : Option Int :=
 Option.bind (program_Check fuelN a0) (fun y1 => cond (!(eqI y1.1 0)) (some y1.1) (Option.bind (program_CheckConfig a1) (fun y4 => cond (!(eqI y4 0)) (some y4) (cond (eqI a1.Model 3) (some 18) (some 0)))))
set_option maxHeartbeats 2000000 in
theorem at_checkpoint_standard {fuelN : Nat} {a0 : Program} {a1 : Config} {r : Int} (hs : checkpoint_standard fuelN a0 a1 = some r) : At Tryz.prog 54 [.agg (eA a0), .agg (eA a1)] (iV .i64 r) := by
 refine at_bound (by kernel_rfl) fun hb => ?_
 have hb1 : LenOk (.sl a0.Vars.length (encL a0.Vars)) := lkc hb
 have hb2 : LenOk (.sl a0.Mutexes.length (encL a0.Mutexes)) := lkc hb
 have hb3 : LenOk (.sl a0.Conds.length (encL a0.Conds)) := lkc hb
 have hb4 : LenOk (.sl a0.Funcs.length (encL a0.Funcs)) := lkc hb
 have hb5 : LenOk (.sl a0.Threads.length (encL a0.Threads)) := lkc hb
 refine at_code mixed Tryz.func54 (by kernel_rfl) rfl (by kernel_rfl) rfl fun Q hQ => ?_
 rw [checkpoint_standard] at hs
 refine goR f0 ?_
 revert hs; refine bK fun y1 hx2 hs => ?_
 refine cP f0 (at_program_Check hx2) ?_
 refine goR f0 ?_
 revert hs; refine cS f0 ?_ ?_ <;> intro h3 hs
 ·refine goR f0 ?_
  obtain rfl := sj hs
  exact hQ _ _ (rg f0 (Gh.refl _))
 ·refine goR f0 ?_
  revert hs; refine bK fun y4 hx5 hs => ?_
  refine cP f0 (at_program_CheckConfig hx5) ?_
  refine goR f0 ?_
  revert hs; refine cS f0 ?_ ?_ <;> intro h6 hs
  ·refine goR f0 ?_
   obtain rfl := sj hs
   exact hQ _ _ (rg f0 (Gh.refl _))
  ·refine goR f0 ?_
   revert hs; refine cS f0 ?_ ?_ <;> intro h7 hs
   ·refine goR f0 ?_
    obtain rfl := sj hs
    exact hQ _ _ (rg f0 (Gh.refl _))
   ·refine goR f0 ?_
    obtain rfl := sj hs
    exact hQ _ _ (rg f0 (Gh.refl _))
end Go.Dc
end
section
set_option linter.all false
namespace Go.Dc
open Go Go.Hw Go.Proofs
set_option maxRecDepth 100000
def checkpoint_text_2 (fuelN : Nat) (a0 : Int) (a1 : List UInt8) : Option (List UInt8) :=
 Option.bind (frame_AppendUint fuelN a1 a0) (fun y1 => some y1)
set_option maxHeartbeats 2000000 in
theorem at_checkpoint_text_2 {fuelN : Nat} {a0 : Int} {a1 : List UInt8} {r : (List UInt8)} (hs : checkpoint_text_2 fuelN a0 a1 = some r) : CAt Tryz.prog 83 [iV .i64 a0, .cell (.ref (.a 0) 0)] [.cells [.own (.sp 1 a1.length (encL a1))]] (.ret (.tup [])) [(.a 0, .cells [.own (.sp 1 r.length (encL r))])] := by
 refine at_bound (by kernel_rfl) fun hb => ?_
 refine at_code mixed Tryz.func83 (by kernel_rfl) rfl (by kernel_rfl) rfl fun Q hQ => ?_
 rw [checkpoint_text_2] at hs
 refine goR f0 ?_
 revert hs; refine bK fun y1 hx2 hs => ?_
 refine cA f0 (at_frame_AppendUint hx2) ?_
 refine goR f0 ?_
 obtain rfl := sj hs
 refine hQ _ _ (ret2g _ (Gh.close _ (.a 0) 0) (by simp [St.frz, St.pur]; rfl) (by first | rfl | (simp [St.frz, St.pur]; done) | (rw [if_pos (by first | omega | (simp; omega))]; simp [St.frz, St.pur]; first | omega | exact List.take_of_length_le (by simp; omega) | skip)) (pv f0))
end Go.Dc
end
section
set_option linter.all false
namespace Go.Dc
open Go Go.Hw Go.Proofs
set_option maxRecDepth 100000
def checkpoint_text_3_checkpoint_text_2_L1 (fuelN : Nat) : List ByteArray -> Nat -> (List UInt8) -> Option (List UInt8)
 | [], k12, l13 => some (l13)
 | x32 :: q28, k12, l13 => Option.bind (frame_AppendString fuelN l13 x32) (fun y35 => checkpoint_text_3_checkpoint_text_2_L1 fuelN q28 (k12 + 1) y35)
def checkpoint_text_3_checkpoint_text_2 (fuelN : Nat) (a0 : List ByteArray) (a2 : List UInt8) : Option (List UInt8) :=
 Option.bind (checkpoint_text_2 fuelN ((a0.length : Nat) : Int) a2) (fun y1 => Option.bind (checkpoint_text_3_checkpoint_text_2_L1 fuelN a0 0 y1) (fun l21 => some l21))
set_option maxHeartbeats 2000000 in
theorem at_checkpoint_text_3_checkpoint_text_2 {fuelN : Nat} {a0 : List ByteArray} {a2 : List UInt8} {r : (List UInt8)} (hs : checkpoint_text_3_checkpoint_text_2 fuelN a0 a2 = some r) : CAt Tryz.prog 84 [.cell (sC a0), .cell (.ref (.a 0) 0), .cell (.ref (.a 1) 0)] [.cells [.fn 83 [.inl (.a 1)]], .cells [.own (.sp 1 a2.length (encL a2))]] (.ret (.tup [])) [(.a 1, .cells [.own (.sp 1 r.length (encL r))]), (.a 0, .cells [.fn 83 [.inl (.a 1)]])] := by
 refine at_bound (by kernel_rfl) fun hb => ?_
 have hb1 : LenOk (.sl a0.length (encL a0)) := lkc hb
 refine at_code mixed Tryz.func84 (by kernel_rfl) rfl (by kernel_rfl) rfl fun Q hQ => ?_
 rw [checkpoint_text_3_checkpoint_text_2] at hs
 refine goR f0 ?_
 revert hs; refine bK fun y1 hx2 hs => ?_
 refine cB f0 (at_checkpoint_text_2 hx2) [.a 1] ?_
 refine goR f0 ?_
 revert hs; refine bK fun o23 e22 hs => ?_
 refine awp_loopW (fun (v : (List ByteArray) × Nat × (List UInt8)) (σ : St) => checkpoint_text_3_checkpoint_text_2_L1 fuelN v.1 v.2.1 v.2.2 = some o23 /\ v.1 = a0.drop v.2.1 /\ σ.env 2 = .cell (.ref (.a 1) 0) /\ σ.env 10 = .cell (sC a0) /\ σ.env 11 = iV .i64 ((a0.length : Nat) : Int) /\ σ.env 12 = iV .i64 ((v.2.1 : Nat) : Int) /\ σ.hp (.a 1) = some (.cells [.own (.sp 1 v.2.2.length (encL v.2.2))]) /\ σ.hp (.a 0) = some (.cells [.fn 83 [.inl (.a 1)]]) /\ 2 <= σ.gen) (fun v => v.1.length) _ (Gh.refl _) (a0, 0, y1) ⟨e22, by simp, pv f0, pv f0, pv f0, pv f0, pv f0, pv f0, pg⟩ fun v σ2 hp L24 hL25 => ?_
 obtain ⟨q27, k12, l13⟩ := v
 dsimp only at hp hL25
 obtain ⟨e22, hd26, h1_2, h1_10, h1_11, h1_12, g1_0, g1_1, n1_g⟩ := hp
 rcases q27 with _ | ⟨x32, q28⟩
 ·have hlt29 := drop_end hd26
  rw [checkpoint_text_3_checkpoint_text_2_L1] at e22; try dsimp only at e22
  have F1 := an h1_2 (an h1_10 (an h1_11 (an h1_12 (an g1_0 g1_1))))
  refine goR F1 ?_
  refine condK_f (by simp [ltI]; omega) ?_
  obtain rfl := sj e22
  try dsimp only at hs
  obtain rfl := sj hs
  refine hQ _ _ (ret2g _ (Gh.refl _) (by simp [St.frz, St.pur, F1]; rfl) (by first | rfl | (simp [St.frz, St.pur, F1]; done) | (rw [if_pos (by first | omega | (simp; omega))]; simp [St.frz, St.pur, F1]; first | omega | exact List.take_of_length_le (by simp; omega) | skip)) (pv F1))
 ·obtain ⟨hx31, hlt29, hd33⟩ := drop_next hd26
  have ew30 := wrap_succ hlt29 (hb1).len
  rw [checkpoint_text_3_checkpoint_text_2_L1] at e22; try dsimp only at e22
  have F2 := an h1_2 (an h1_10 (an h1_11 (an h1_12 (an g1_0 (an g1_1 (an hlt29 ew30))))))
  refine goR F2 ?_
  refine condK_t (by simp [ltI]; omega) ?_
  have f34 : partCV Tryz.prog 9 (encL a0) (k12) = some (sV x32) := partCV_enc1 hx31 (by simp)
  have F3 := an F2 f34
  refine goR F3 ?_
  revert e22; refine bK fun y35 hx36 e22 => ?_
  refine cA F3 (at_frame_AppendString hx36) ?_
  refine goR F3 ?_
  exact hL25 (q28, (k12 + 1), y35) _ _ (Gh.close _ (.a 1) 0) ⟨e22, hd33, pv F3, pv F3, pv F3, pv F3, pv F3, pv F3, pg⟩ (by simp)
end Go.Dc
end
section
set_option linter.all false
namespace Go.Dc
open Go Go.Hw Go.Proofs
set_option maxRecDepth 100000
def checkpoint_text_1_L1 (fuelN : Nat) : List Int -> Nat -> (List UInt8) -> Option (List UInt8)
 | [], k10, l11 => some (l11)
 | x30 :: q26, k10, l11 => Option.bind (frame_AppendInt fuelN l11 x30) (fun y33 => checkpoint_text_1_L1 fuelN q26 (k10 + 1) y33)
def checkpoint_text_1 (fuelN : Nat) (a0 : List Int) (a1 : List UInt8) : Option (List UInt8) :=
 Option.bind (checkpoint_text_1_L1 fuelN a0 0 a1) (fun l19 => some l19)
set_option maxHeartbeats 2000000 in
theorem at_checkpoint_text_1 {fuelN : Nat} {a0 : List Int} {a1 : List UInt8} {r : (List UInt8)} (hs : checkpoint_text_1 fuelN a0 a1 = some r) : CAt Tryz.prog 82 [.cell (sC a0), .cell (.ref (.a 0) 0)] [.cells [.own (.sp 1 a1.length (encL a1))]] (.ret (.tup [])) [(.a 0, .cells [.own (.sp 1 r.length (encL r))])] := by
 refine at_bound (by kernel_rfl) fun hb => ?_
 have hb1 : LenOk (.sl a0.length (encL a0)) := lkc hb
 refine at_code mixed Tryz.func82 (by kernel_rfl) rfl (by kernel_rfl) rfl fun Q hQ => ?_
 rw [checkpoint_text_1] at hs
 refine goR f0 ?_
 revert hs; refine bK fun o21 e20 hs => ?_
 refine awp_loopW (fun (v : (List Int) × Nat × (List UInt8)) (σ : St) => checkpoint_text_1_L1 fuelN v.1 v.2.1 v.2.2 = some o21 /\ v.1 = a0.drop v.2.1 /\ σ.env 1 = .cell (.ref (.a 0) 0) /\ σ.env 5 = .cell (sC a0) /\ σ.env 6 = iV .i64 ((a0.length : Nat) : Int) /\ σ.env 7 = iV .i64 ((v.2.1 : Nat) : Int) /\ σ.hp (.a 0) = some (.cells [.own (.sp 1 v.2.2.length (encL v.2.2))]) /\ 1 <= σ.gen) (fun v => v.1.length) _ (Gh.refl _) (a0, 0, a1) ⟨e20, by simp, pv f0, pv f0, pv f0, pv f0, pv f0, pg⟩ fun v σ2 hp L22 hL23 => ?_
 obtain ⟨q25, k10, l11⟩ := v
 dsimp only at hp hL23
 obtain ⟨e20, hd24, h1_1, h1_5, h1_6, h1_7, g1_0, n1_g⟩ := hp
 rcases q25 with _ | ⟨x30, q26⟩
 ·have hlt27 := drop_end hd24
  rw [checkpoint_text_1_L1] at e20; try dsimp only at e20
  have F1 := an h1_1 (an h1_5 (an h1_6 (an h1_7 g1_0)))
  refine goR F1 ?_
  refine condK_f (by simp [ltI]; omega) ?_
  obtain rfl := sj e20
  try dsimp only at hs
  obtain rfl := sj hs
  refine hQ _ _ (ret2g _ (Gh.refl _) (by simp [St.frz, St.pur, F1]; rfl) (by first | rfl | (simp [St.frz, St.pur, F1]; done) | (rw [if_pos (by first | omega | (simp; omega))]; simp [St.frz, St.pur, F1]; first | omega | exact List.take_of_length_le (by simp; omega) | skip)) (pv F1))
 ·obtain ⟨hx29, hlt27, hd31⟩ := drop_next hd24
  have ew28 := wrap_succ hlt27 (hb1).len
  rw [checkpoint_text_1_L1] at e20; try dsimp only at e20
  have F2 := an h1_1 (an h1_5 (an h1_6 (an h1_7 (an g1_0 (an hlt27 ew28)))))
  refine goR F2 ?_
  refine condK_t (by simp [ltI]; omega) ?_
  have f32 : partCV Tryz.prog 3 (encL a0) (k10) = some (iV .i64 x30) := partCV_enc1 hx29 (by simp)
  have F3 := an F2 f32
  refine goR F3 ?_
  revert e20; refine bK fun y33 hx34 e20 => ?_
  refine cA F3 (at_frame_AppendInt hx34) ?_
  refine goR F3 ?_
  exact hL23 (q26, (k10 + 1), y33) _ _ (Gh.close _ (.a 0) 0) ⟨e20, hd31, pv F3, pv F3, pv F3, pv F3, pv F3, pg⟩ (by simp)
end Go.Dc
end
