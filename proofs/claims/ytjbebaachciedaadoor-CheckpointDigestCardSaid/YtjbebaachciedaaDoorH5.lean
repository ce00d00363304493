/- Contracts of functions, by their numbers, and the laws that walk them. Conditions: as each states. -/
import Derived.Test.YtjbebaachciedaaDoorH4
import Derived.Laws.BitsAllLaws
set_option linter.all false
section
set_option linter.all false
namespace Go.Dc
open Go Go.Hw Go.Proofs
set_option maxRecDepth 100000
def frame_uintBytes_L1 : Nat → Int → (List UInt8) → Option (Int × (List UInt8))
  | 0, _, _ => none
  | q51 + 1, i34, l35 => cond (!(ltI i34 128)) (Option.bind (some ([u8 (IntKind.u8.wrap (IntKind.i64.wrap (Int.tmod i34 128 + 128)))])) (fun l56 => guardO (limB 1 (l35.length + l56.length)) (Option.bind (some (l35 ++ l56)) (fun l59 => frame_uintBytes_L1 q51 (IntKind.i64.wrap (Int.tdiv i34 128)) l59)))) (some ((i34, l35)))

def frame_uintBytes (fuelN : Nat) (a0 : Int) : Option (List UInt8) :=
  Option.bind (α := Int × (List UInt8)) (Option.bind (frame_uintBytes_L1 fuelN a0 []) (fun o => match o with | (i43, l44) => some ((i43, l44)))) (fun o => match o with | (i28, l29) => Option.bind (some ([u8 (IntKind.u8.wrap i28)])) (fun l61 => guardO (limB 1 (l29.length + l61.length)) (Option.bind (some (l29 ++ l61)) (fun l64 => some l64))))

set_option maxHeartbeats 2000000 in
theorem at_frame_uintBytes {fuelN : Nat} {a0 : Int} {r : (List UInt8)} (hs : frame_uintBytes fuelN a0 = some r) : At Tryd.prog 45 [iV .i64 a0] (.cell (sC r)) := by
  refine at_bound (by kernel_rfl) fun hb => ?_
  refine at_code mixed Tryd.func45 (by kernel_rfl) rfl (by kernel_rfl) rfl fun Q hQ => ?_
  rw [frame_uintBytes] at hs
  refine goR2 f0 ?_
  revert hs; refine bK fun o31 e30 hs => ?_
  refine awp_cutK (fun (v : Int × (List UInt8)) (σ : St) => some (v) = some o31 ∧ σ.env 0 = iV .i64 v.1 ∧ σ.env 3 = .cell (.sl (.l 1) 0 1 v.2.length) ∧ σ.hp (.l 1) = some (.pure (encL v.2)) ∧ 2 ≤ σ.gen) (by rfl) (fun Q hK32 hX33 => ?_) (fun v σ3 hp => ?_)
  · refine goR f0 ?_
    revert e30; refine bK fun o46 e45 e30 => ?_
    refine awp_loopW (fun (v : Nat × Int × (List UInt8)) (σ : St) => frame_uintBytes_L1 v.1 v.2.1 v.2.2 = some o46 ∧ σ.env 0 = iV .i64 v.2.1 ∧ σ.env 3 = .cell (.sl (.l 4) 0 1 v.2.2.length) ∧ σ.hp (.l 4) = some (.pure (encL v.2.2)) ∧ 2 ≤ σ.gen) (fun v => v.1) _ (Gh.void _ (.l 4) 3 1 rfl (by simp)) (fuelN, a0, []) ⟨e45, pv f0, pv f0, pv f0, pg⟩ fun v σ6 hp L47 hL48 => ?_
    obtain ⟨q50, i34, l35⟩ := v
    dsimp only at hp hL48
    obtain ⟨e45, h5_0, h5_3, g5_0, n5_g⟩ := hp
    rcases q50 with _ | q51
    · rw [frame_uintBytes_L1] at e45; cases e45
    · rw [frame_uintBytes_L1] at e45; try dsimp only at e45
      have F1 := an h5_0 (an h5_3 g5_0)
      refine goR F1 ?_
      revert e45; refine cS F1 ?_ ?_ <;> intro h55 e45
      · revert e45; refine lK fun l56 hx57 e45 => ?_
        have hx57n : l56.length = 1 := by rw [hx57]; rfl
        obtain ⟨g58, e45⟩ := guardO_some e45
        have g58 := limB_t g58
        obtain ⟨g58a, g58b⟩ := g58
        revert e45; refine lK fun l59 hx60 e45 => ?_
        have hx60n : l59.length = (l35.length + l56.length) := by rw [hx60]; simp
        have hx60e : encL l59 = encL l35 ++ encL l56 := by rw [hx60]; simp
        have F2 := an F1 (an hx57 (an hx60n hx60e))
        refine goR F2 ?_
        exact hL48 (q51, IntKind.i64.wrap (Int.tdiv i34 128), l59) _ _ (Gh.ren _ (.o (σ6.gen + 2) 6 0) (.l 4) (by simp) rfl rfl) ⟨e45, pv F2, pv F2, pv F2, pg⟩ (by omega)
      · refine goR F1 ?_
        obtain rfl := sj e45
        try dsimp only at e30
        exact hK32 (i34, l35) _ _ (Gh.ren _ (.l 4) (.l 1) (by simp) rfl rfl) ⟨e30, pv F1, pv F1, pv F1, pg⟩
  · obtain ⟨i28, l29⟩ := v
    dsimp only at hp
    obtain ⟨e30, h4_0, h4_3, g4_0, n4_g⟩ := hp
    obtain rfl := sj e30
    try dsimp only at hs
    revert hs; refine lK fun l61 hx62 hs => ?_
    have hx62n : l61.length = 1 := by rw [hx62]; rfl
    obtain ⟨g63, hs⟩ := guardO_some hs
    have g63 := limB_t g63
    obtain ⟨g63a, g63b⟩ := g63
    revert hs; refine lK fun l64 hx65 hs => ?_
    have hx65n : l64.length = (l29.length + l61.length) := by rw [hx65]; simp
    have hx65e : encL l64 = encL l29 ++ encL l61 := by rw [hx65]; simp
    have F3 := an h4_0 (an h4_3 (an g4_0 (an hx62 (an hx65n hx65e))))
    refine goR F3 ?_
    have f66 : (encL l64).take (l64.length) = encL l64 := encL_take1 _ (by simp)
    try simp [F3] at f66
    have f66l : l64.length * 1 ≤ (encL l64).length := by rw [encL_length]; simp
    try simp [F3] at f66l
    obtain rfl := sj hs
    have F4 := an F3 (an f66 f66l)
    exact hQ _ _ (rg F4 (Gh.frz _ (.o (σ3.gen + 1) 4 0)))
end Go.Dc
end
section
set_option linter.all false
namespace Go.Dc
open Go Go.Hw Go.Proofs
set_option maxRecDepth 100000

def frame_AppendUint (fuelN : Nat) (a0 : List UInt8) (a1 : Int) : Option (List UInt8) :=
  cond (orB (ltI a1 0) (ltI 4611686018427387904 a1)) (Option.bind (some ([a0])) (fun l2 => Option.bind (frame_join l2) (fun y4 => some y4))) (Option.bind (frame_uintBytes fuelN a1) (fun y6 => Option.bind (some ([a0, y6])) (fun l8 => Option.bind (frame_join l8) (fun y10 => some y10))))

set_option maxHeartbeats 2000000 in
theorem at_frame_AppendUint {fuelN : Nat} {a0 : List UInt8} {a1 : Int} {r : (List UInt8)} (hs : frame_AppendUint fuelN a0 a1 = some r) : CAt Tryd.prog 19 [.cell (sC a0), iV .i64 a1] [] (.ret (.cell (.sl (.r 0) 0 1 r.length))) [(.r 0, .pure (encL r))] := by
  refine at_bound (by kernel_rfl) fun hb => ?_
  have hb1 : LenOk (.sl a0.length (encL a0)) := lkc hb
  refine at_code mixed Tryd.func19 (by kernel_rfl) rfl (by kernel_rfl) rfl fun Q hQ => ?_
  rw [frame_AppendUint] at hs
  refine goG f0 f0 ?_
  revert hs; refine cS f0 ?_ ?_ <;> intro h1 hs
  · revert hs; refine lK fun l2 hx3 hs => ?_
    have hx3n : l2.length = 1 := by rw [hx3]; rfl
    refine goG hx3 hx3 ?_
    revert hs; refine bK fun y4 hx5 hs => ?_
    refine cA hx3 (at_frame_join hx5) ?_
    refine goG hx3 hx3 ?_
    obtain rfl := sj hs
    refine hQ _ _ (ret2g _ (Gh.ren _ (.o 3 2 0) (.r 0) (by simp) rfl rfl) (by simp [St.frz, St.pur, hx3]; rfl) (by first | rfl | (simp [St.frz, St.pur, hx3]; done) | (rw [if_pos (by first | omega | (simp; omega))]; simp [St.frz, St.pur, hx3]; first | omega | exact List.take_of_length_le (by simp; omega) | skip)) (pv hx3))
  · refine goG f0 f0 ?_
    revert hs; refine bK fun y6 hx7 hs => ?_
    refine cP f0 (at_frame_uintBytes hx7) ?_
    revert hs; refine lK fun l8 hx9 hs => ?_
    have hx9n : l8.length = 2 := by rw [hx9]; rfl
    refine goG hx9 hx9 ?_
    revert hs; refine bK fun y10 hx11 hs => ?_
    refine cA hx9 (at_frame_join hx11) ?_
    refine goG hx9 hx9 ?_
    obtain rfl := sj hs
    refine hQ _ _ (ret2g _ (Gh.ren _ (.o 3 4 0) (.r 0) (by simp) rfl rfl) (by simp [St.frz, St.pur, hx9]; rfl) (by first | rfl | (simp [St.frz, St.pur, hx9]; done) | (rw [if_pos (by first | omega | (simp; omega))]; simp [St.frz, St.pur, hx9]; first | omega | exact List.take_of_length_le (by simp; omega) | skip)) (pv hx9))
end Go.Dc
end
section
set_option linter.all false
namespace Go.Dc
open Go Go.Hw Go.Proofs
set_option maxRecDepth 100000

def frame_inRange (a0 : Int) : Option Bool :=
  some (andB (!(ltI a0 (-2305843009213693952))) (!(ltI 2305843009213693952 a0)))

set_option maxHeartbeats 2000000 in
theorem at_frame_inRange {a0 : Int} {r : Bool} (hs : frame_inRange a0 = some r) : At Tryd.prog 54 [iV .i64 a0] (bV r) := by
  refine at_bound (by kernel_rfl) fun hb => ?_
  refine at_code mixed Tryd.func54 (by kernel_rfl) rfl (by kernel_rfl) rfl fun Q hQ => ?_
  rw [frame_inRange] at hs
  refine goG f0 f0 ?_
  obtain rfl := sj hs
  exact hQ _ _ (rg f0 (Gh.refl _))
end Go.Dc
end
section
set_option linter.all false
namespace Go.Dc
open Go Go.Hw Go.Proofs
set_option maxRecDepth 100000

def frame_intBytes (fuelN : Nat) (a0 : Int) : Option (List UInt8) :=
  cond (!(ltI a0 0)) (Option.bind (frame_uintBytes fuelN (IntKind.i64.wrap (2 * a0))) (fun y2 => some y2)) (Option.bind (frame_uintBytes fuelN (IntKind.i64.wrap (IntKind.i64.wrap ((-2) * a0) - 1))) (fun y4 => some y4))

set_option maxHeartbeats 2000000 in
theorem at_frame_intBytes {fuelN : Nat} {a0 : Int} {r : (List UInt8)} (hs : frame_intBytes fuelN a0 = some r) : At Tryd.prog 55 [iV .i64 a0] (.cell (sC r)) := by
  refine at_bound (by kernel_rfl) fun hb => ?_
  refine at_code mixed Tryd.func55 (by kernel_rfl) rfl (by kernel_rfl) rfl fun Q hQ => ?_
  rw [frame_intBytes] at hs
  refine goR f0 ?_
  revert hs; refine cS f0 ?_ ?_ <;> intro h1 hs
  · refine goR f0 ?_
    revert hs; refine bK fun y2 hx3 hs => ?_
    refine cP f0 (at_frame_uintBytes hx3) ?_
    refine goR f0 ?_
    obtain rfl := sj hs
    exact hQ _ _ (rg f0 (Gh.refl _))
  · refine goR f0 ?_
    revert hs; refine bK fun y4 hx5 hs => ?_
    refine cP f0 (at_frame_uintBytes hx5) ?_
    refine goR f0 ?_
    obtain rfl := sj hs
    exact hQ _ _ (rg f0 (Gh.refl _))
end Go.Dc
end
section
set_option linter.all false
namespace Go.Dc
open Go Go.Hw Go.Proofs
set_option maxRecDepth 100000

def frame_AppendInt (fuelN : Nat) (a0 : List UInt8) (a1 : Int) : Option (List UInt8) :=
  Option.bind (frame_inRange a1) (fun y1 => cond (!y1) (Option.bind (some ([a0])) (fun l4 => Option.bind (frame_join l4) (fun y6 => some y6))) (Option.bind (frame_intBytes fuelN a1) (fun y8 => Option.bind (some ([a0, y8])) (fun l10 => Option.bind (frame_join l10) (fun y12 => some y12)))))

set_option maxHeartbeats 2000000 in
theorem at_frame_AppendInt {fuelN : Nat} {a0 : List UInt8} {a1 : Int} {r : (List UInt8)} (hs : frame_AppendInt fuelN a0 a1 = some r) : CAt Tryd.prog 32 [.cell (sC a0), iV .i64 a1] [] (.ret (.cell (.sl (.r 0) 0 1 r.length))) [(.r 0, .pure (encL r))] := by
  refine at_bound (by kernel_rfl) fun hb => ?_
  have hb1 : LenOk (.sl a0.length (encL a0)) := lkc hb
  refine at_code mixed Tryd.func32 (by kernel_rfl) rfl (by kernel_rfl) rfl fun Q hQ => ?_
  rw [frame_AppendInt] at hs
  refine goR f0 ?_
  revert hs; refine bK fun y1 hx2 hs => ?_
  refine cP f0 (at_frame_inRange hx2) ?_
  refine goR f0 ?_
  revert hs; refine cS f0 ?_ ?_ <;> intro h3 hs
  · revert hs; refine lK fun l4 hx5 hs => ?_
    have hx5n : l4.length = 1 := by rw [hx5]; rfl
    refine goR hx5 ?_
    revert hs; refine bK fun y6 hx7 hs => ?_
    refine cA hx5 (at_frame_join hx7) ?_
    refine goR hx5 ?_
    obtain rfl := sj hs
    refine hQ _ _ (ret2g _ (Gh.ren _ (.o 3 2 0) (.r 0) (by simp) rfl rfl) (by simp [St.frz, St.pur, hx5]; rfl) (by first | rfl | (simp [St.frz, St.pur, hx5]; done) | (rw [if_pos (by first | omega | (simp; omega))]; simp [St.frz, St.pur, hx5]; first | omega | exact List.take_of_length_le (by simp; omega) | skip)) (pv hx5))
  · refine goR f0 ?_
    revert hs; refine bK fun y8 hx9 hs => ?_
    refine cP f0 (at_frame_intBytes hx9) ?_
    revert hs; refine lK fun l10 hx11 hs => ?_
    have hx11n : l10.length = 2 := by rw [hx11]; rfl
    refine goR hx11 ?_
    revert hs; refine bK fun y12 hx13 hs => ?_
    refine cA hx11 (at_frame_join hx13) ?_
    refine goR hx11 ?_
    obtain rfl := sj hs
    refine hQ _ _ (ret2g _ (Gh.ren _ (.o 3 4 0) (.r 0) (by simp) rfl rfl) (by simp [St.frz, St.pur, hx11]; rfl) (by first | rfl | (simp [St.frz, St.pur, hx11]; done) | (rw [if_pos (by first | omega | (simp; omega))]; simp [St.frz, St.pur, hx11]; first | omega | exact List.take_of_length_le (by simp; omega) | skip)) (pv hx11))
end Go.Dc
end
section
set_option linter.all false
namespace Go.Dc
open Go Go.Hw Go.Proofs
set_option maxRecDepth 100000
def r06_AppendUint_L1 : Nat → Int → (List UInt8) → Option (Int × (List UInt8))
  | 0, _, _ => none
  | q58 + 1, i41, l42 => cond (!(ltI i41 128)) (Option.bind (some ([u8 (IntKind.u8.wrap (IntKind.i64.wrap (Int.tmod i41 128 + 128)))])) (fun l63 => guardO (limB 1 (l42.length + l63.length)) (Option.bind (some (l42 ++ l63)) (fun l66 => r06_AppendUint_L1 q58 (IntKind.i64.wrap (Int.tdiv i41 128)) l66)))) (some ((i41, l42)))

def r06_AppendUint (fuelN : Nat) (a0 : List UInt8) (a1 : Int) : Option (List UInt8) :=
  Option.bind (some (([] : List UInt8))) (fun l1 => guardO (limB 1 (l1.length + a0.length)) (Option.bind (some (l1 ++ a0)) (fun l4 => cond (orB (ltI a1 0) (ltI 4611686018427387904 a1)) (some l4) (Option.bind (α := Int × (List UInt8)) (Option.bind (r06_AppendUint_L1 fuelN a1 l4) (fun o => match o with | (i50, l51) => some ((i50, l51)))) (fun o => match o with | (i35, l36) => Option.bind (some ([u8 (IntKind.u8.wrap i35)])) (fun l68 => guardO (limB 1 (l36.length + l68.length)) (Option.bind (some (l36 ++ l68)) (fun l71 => some l71))))))))

set_option maxHeartbeats 2000000 in
theorem at_r06_AppendUint {fuelN : Nat} {a0 : List UInt8} {a1 : Int} {r : (List UInt8)} (hs : r06_AppendUint fuelN a0 a1 = some r) : CAt Tryd.prog 26 [.cell (sC a0), iV .i64 a1] [] (.ret (.cell (.sl (.r 0) 0 1 r.length))) [(.r 0, .pure (encL r))] := by
  refine at_bound (by kernel_rfl) fun hb => ?_
  have hb1 : LenOk (.sl a0.length (encL a0)) := lkc hb
  refine at_code mixed Tryd.func26 (by kernel_rfl) rfl (by kernel_rfl) rfl fun Q hQ => ?_
  rw [r06_AppendUint] at hs
  revert hs; refine lK fun l1 hx2 hs => ?_
  have hx2n : l1.length = 0 := by rw [hx2]; rfl
  obtain ⟨g3, hs⟩ := guardO_some hs
  have g3 := limB_t g3
  obtain ⟨g3a, g3b⟩ := g3
  revert hs; refine lK fun l4 hx5 hs => ?_
  have hx5n : l4.length = (l1.length + a0.length) := by rw [hx5]; simp
  have hx5e : encL l4 = encL l1 ++ encL a0 := by rw [hx5]; simp
  have F1 := an hx2 (an hx5n hx5e)
  refine goG F1 F1 ?_
  revert hs; refine cS F1 ?_ ?_ <;> intro h6 hs
  · refine goG F1 F1 ?_
    obtain rfl := sj hs
    refine hQ _ _ (ret2g _ (Gh.ren _ (.o 2 2 0) (.r 0) (by simp) rfl rfl) (by simp [St.frz, St.pur, F1]; rfl) (by first | rfl | (simp [St.frz, St.pur, F1]; done) | (rw [if_pos (by first | omega | (simp; omega))]; simp [St.frz, St.pur, F1]; first | omega | exact List.take_of_length_le (by simp; omega) | skip)) (pv F1))
  · refine goG2 F1 F1 ?_
    revert hs; refine bK fun o38 e37 hs => ?_
    refine awp_cutK (fun (v : Int × (List UInt8)) (σ : St) => some (v) = some o38 ∧ σ.env 1 = iV .i64 v.1 ∧ σ.env 5 = .cell (.sl (.l 1) 0 1 v.2.length) ∧ σ.hp (.l 1) = some (.pure (encL v.2)) ∧ 3 ≤ σ.gen) (by rfl) (fun Q hK39 hX40 => ?_) (fun v σ3 hp => ?_)
    · refine goG F1 F1 ?_
      revert e37; refine bK fun o53 e52 e37 => ?_
      refine awp_loopW (fun (v : Nat × Int × (List UInt8)) (σ : St) => r06_AppendUint_L1 v.1 v.2.1 v.2.2 = some o53 ∧ σ.env 1 = iV .i64 v.2.1 ∧ σ.env 5 = .cell (.sl (.l 4) 0 1 v.2.2.length) ∧ σ.hp (.l 4) = some (.pure (encL v.2.2)) ∧ 3 ≤ σ.gen) (fun v => v.1) _ (Gh.ren _ (.o 2 2 0) (.l 4) (by simp) rfl rfl) (fuelN, a1, l4) ⟨e52, pv F1, pv F1, pv F1, pg⟩ fun v σ6 hp L54 hL55 => ?_
      obtain ⟨q57, i41, l42⟩ := v
      dsimp only at hp hL55
      obtain ⟨e52, h5_1, h5_5, g5_0, n5_g⟩ := hp
      rcases q57 with _ | q58
      · rw [r06_AppendUint_L1] at e52; cases e52
      · rw [r06_AppendUint_L1] at e52; try dsimp only at e52
        have F2 := an h5_1 (an h5_5 g5_0)
        refine goR F2 ?_
        revert e52; refine cS F2 ?_ ?_ <;> intro h62 e52
        · revert e52; refine lK fun l63 hx64 e52 => ?_
          have hx64n : l63.length = 1 := by rw [hx64]; rfl
          obtain ⟨g65, e52⟩ := guardO_some e52
          have g65 := limB_t g65
          obtain ⟨g65a, g65b⟩ := g65
          revert e52; refine lK fun l66 hx67 e52 => ?_
          have hx67n : l66.length = (l42.length + l63.length) := by rw [hx67]; simp
          have hx67e : encL l66 = encL l42 ++ encL l63 := by rw [hx67]; simp
          have F3 := an F2 (an hx64 (an hx67n hx67e))
          refine goR F3 ?_
          exact hL55 (q58, IntKind.i64.wrap (Int.tdiv i41 128), l66) _ _ (Gh.ren _ (.o (σ6.gen + 2) 6 0) (.l 4) (by simp) rfl rfl) ⟨e52, pv F3, pv F3, pv F3, pg⟩ (by omega)
        · refine goR F2 ?_
          obtain rfl := sj e52
          try dsimp only at e37
          exact hK39 (i41, l42) _ _ (Gh.ren _ (.l 4) (.l 1) (by simp) rfl rfl) ⟨e37, pv F2, pv F2, pv F2, pg⟩
    · obtain ⟨i35, l36⟩ := v
      dsimp only at hp
      obtain ⟨e37, h4_1, h4_5, g4_0, n4_g⟩ := hp
      obtain rfl := sj e37
      try dsimp only at hs
      revert hs; refine lK fun l68 hx69 hs => ?_
      have hx69n : l68.length = 1 := by rw [hx69]; rfl
      obtain ⟨g70, hs⟩ := guardO_some hs
      have g70 := limB_t g70
      obtain ⟨g70a, g70b⟩ := g70
      revert hs; refine lK fun l71 hx72 hs => ?_
      have hx72n : l71.length = (l36.length + l68.length) := by rw [hx72]; simp
      have hx72e : encL l71 = encL l36 ++ encL l68 := by rw [hx72]; simp
      have F4 := an h4_1 (an h4_5 (an g4_0 (an hx69 (an hx72n hx72e))))
      refine goG F4 F4 ?_
      obtain rfl := sj hs
      refine hQ _ _ (ret2g _ (Gh.ren _ (.o (σ3.gen + 1) 4 0) (.r 0) (by simp) rfl rfl) (by simp [St.frz, St.pur, F4]; rfl) (by first | rfl | (simp [St.frz, St.pur, F4]; done) | (rw [if_pos (by first | omega | (simp; omega))]; simp [St.frz, St.pur, F4]; first | omega | exact List.take_of_length_le (by simp; omega) | skip)) (pv F4))
end Go.Dc
end
section
set_option linter.all false
namespace Go.Dc
open Go Go.Hw Go.Proofs
set_option maxRecDepth 100000

def r06_fits (a0 : Int) : Option Bool :=
  some (andB (!(ltI a0 (-2305843009213693952))) (!(ltI 2305843009213693952 a0)))

set_option maxHeartbeats 2000000 in
theorem at_r06_fits {a0 : Int} {r : Bool} (hs : r06_fits a0 = some r) : At Tryd.prog 53 [iV .i64 a0] (bV r) := by
  refine at_bound (by kernel_rfl) fun hb => ?_
  refine at_code mixed Tryd.func53 (by kernel_rfl) rfl (by kernel_rfl) rfl fun Q hQ => ?_
  rw [r06_fits] at hs
  refine goG f0 f0 ?_
  obtain rfl := sj hs
  exact hQ _ _ (rg f0 (Gh.refl _))
end Go.Dc
end
section
set_option linter.all false
namespace Go.Dc
open Go Go.Hw Go.Proofs
set_option maxRecDepth 100000

def r06_AppendInt (fuelN : Nat) (a0 : List UInt8) (a1 : Int) : Option (List UInt8) :=
  Option.bind (r06_fits a1) (fun y1 => cond (!y1) (Option.bind (some (([] : List UInt8))) (fun l4 => guardO (limB 1 (l4.length + a0.length)) (Option.bind (some (l4 ++ a0)) (fun l7 => some l7)))) (cond (ltI a1 0) (Option.bind (r06_AppendUint fuelN a0 (IntKind.i64.wrap (IntKind.i64.wrap ((-2) * a1) - 1))) (fun y10 => some y10)) (Option.bind (r06_AppendUint fuelN a0 (IntKind.i64.wrap (2 * a1))) (fun y12 => some y12))))

set_option maxHeartbeats 2000000 in
theorem at_r06_AppendInt {fuelN : Nat} {a0 : List UInt8} {a1 : Int} {r : (List UInt8)} (hs : r06_AppendInt fuelN a0 a1 = some r) : CAt Tryd.prog 28 [.cell (sC a0), iV .i64 a1] [] (.ret (.cell (.sl (.r 0) 0 1 r.length))) [(.r 0, .pure (encL r))] := by
  refine at_bound (by kernel_rfl) fun hb => ?_
  have hb1 : LenOk (.sl a0.length (encL a0)) := lkc hb
  refine at_code mixed Tryd.func28 (by kernel_rfl) rfl (by kernel_rfl) rfl fun Q hQ => ?_
  rw [r06_AppendInt] at hs
  refine goR f0 ?_
  revert hs; refine bK fun y1 hx2 hs => ?_
  refine cP f0 (at_r06_fits hx2) ?_
  refine goR f0 ?_
  revert hs; refine cS f0 ?_ ?_ <;> intro h3 hs
  · revert hs; refine lK fun l4 hx5 hs => ?_
    have hx5n : l4.length = 0 := by rw [hx5]; rfl
    obtain ⟨g6, hs⟩ := guardO_some hs
    have g6 := limB_t g6
    obtain ⟨g6a, g6b⟩ := g6
    revert hs; refine lK fun l7 hx8 hs => ?_
    have hx8n : l7.length = (l4.length + a0.length) := by rw [hx8]; simp
    have hx8e : encL l7 = encL l4 ++ encL a0 := by rw [hx8]; simp
    have F1 := an hx5 (an hx8n hx8e)
    refine goR F1 ?_
    obtain rfl := sj hs
    refine hQ _ _ (ret2g _ (Gh.ren _ (.o 3 2 0) (.r 0) (by simp) rfl rfl) (by simp [St.frz, St.pur, F1]; rfl) (by first | rfl | (simp [St.frz, St.pur, F1]; done) | (rw [if_pos (by first | omega | (simp; omega))]; simp [St.frz, St.pur, F1]; first | omega | exact List.take_of_length_le (by simp; omega) | skip)) (pv F1))
  · refine goR f0 ?_
    revert hs; refine cS f0 ?_ ?_ <;> intro h9 hs
    · refine goR f0 ?_
      revert hs; refine bK fun y10 hx11 hs => ?_
      refine cA f0 (at_r06_AppendUint hx11) ?_
      refine goR f0 ?_
      obtain rfl := sj hs
      refine hQ _ _ (ret2g _ (Gh.ren _ (.o 4 4 0) (.r 0) (by simp) rfl rfl) (by simp [St.frz, St.pur]; rfl) (by first | rfl | (simp [St.frz, St.pur]; done) | (rw [if_pos (by first | omega | (simp; omega))]; simp [St.frz, St.pur]; first | omega | exact List.take_of_length_le (by simp; omega) | skip)) (pv f0))
    · refine goR f0 ?_
      revert hs; refine bK fun y12 hx13 hs => ?_
      refine cA f0 (at_r06_AppendUint hx13) ?_
      refine goR f0 ?_
      obtain rfl := sj hs
      refine hQ _ _ (ret2g _ (Gh.ren _ (.o 4 3 0) (.r 0) (by simp) rfl rfl) (by simp [St.frz, St.pur]; rfl) (by first | rfl | (simp [St.frz, St.pur]; done) | (rw [if_pos (by first | omega | (simp; omega))]; simp [St.frz, St.pur]; first | omega | exact List.take_of_length_le (by simp; omega) | skip)) (pv f0))
end Go.Dc
end
section
set_option linter.all false
namespace Go.Dc
open Go Go.Hw Go.Proofs
set_option maxRecDepth 100000

def frame_AppendString (fuelN : Nat) (a0 : List UInt8) (a1 : ByteArray) : Option (List UInt8) :=
  Option.bind (frame_uintBytes fuelN ((a1.size : Nat) : Int)) (fun y1 => guardO (strB3 a1) (Option.bind (some ([a0, y1, a1.data.toList])) (fun l4 => Option.bind (frame_join l4) (fun y6 => some y6))))

set_option maxHeartbeats 2000000 in
theorem at_frame_AppendString {fuelN : Nat} {a0 : List UInt8} {a1 : ByteArray} {r : (List UInt8)} (hs : frame_AppendString fuelN a0 a1 = some r) : CAt Tryd.prog 52 [.cell (sC a0), sV a1] [] (.ret (.cell (.sl (.r 0) 0 1 r.length))) [(.r 0, .pure (encL r))] := by
  refine at_bound (by kernel_rfl) fun hb => ?_
  have hb1 : LenOk (.sl a0.length (encL a0)) := lkc hb
  refine at_code mixed Tryd.func52 (by kernel_rfl) rfl (by kernel_rfl) rfl fun Q hQ => ?_
  rw [frame_AppendString] at hs
  refine goR f0 ?_
  revert hs; refine bK fun y1 hx2 hs => ?_
  refine cP f0 (at_frame_uintBytes hx2) ?_
  obtain ⟨g3, hs⟩ := guardO_some hs
  have g3b := strB3_t g3
  revert hs; refine lK fun l4 hx5 hs => ?_
  have hx5n : l4.length = 3 := by rw [hx5]; rfl
  have F1 := an g3b hx5
  refine goR F1 ?_
  revert hs; refine bK fun y6 hx7 hs => ?_
  refine cA F1 (at_frame_join hx7) ?_
  refine goR F1 ?_
  obtain rfl := sj hs
  refine hQ _ _ (ret2g _ (Gh.ren _ (.o 2 7 0) (.r 0) (by simp) rfl rfl) (by simp [St.frz, St.pur, F1]; rfl) (by first | rfl | (simp [St.frz, St.pur, F1]; done) | (rw [if_pos (by first | omega | (simp; omega))]; simp [St.frz, St.pur, F1]; first | omega | exact List.take_of_length_le (by simp; omega) | skip)) (pv F1))
end Go.Dc
end
section
set_option linter.all false
namespace Go.Dc
open Go Go.Hw Go.Proofs
set_option maxRecDepth 100000

def r06_AppendString (fuelN : Nat) (a0 : List UInt8) (a1 : ByteArray) : Option (List UInt8) :=
  Option.bind (r06_AppendUint fuelN a0 ((a1.size : Nat) : Int)) (fun y1 => guardO (limB 1 (y1.length + a1.size)) (Option.bind (some (y1 ++ a1.data.toList)) (fun l4 => some l4)))

set_option maxHeartbeats 2000000 in
theorem at_r06_AppendString {fuelN : Nat} {a0 : List UInt8} {a1 : ByteArray} {r : (List UInt8)} (hs : r06_AppendString fuelN a0 a1 = some r) : CAt Tryd.prog 27 [.cell (sC a0), sV a1] [] (.ret (.cell (.sl (.r 0) 0 1 r.length))) [(.r 0, .pure (encL r))] := by
  refine at_bound (by kernel_rfl) fun hb => ?_
  have hb1 : LenOk (.sl a0.length (encL a0)) := lkc hb
  refine at_code mixed Tryd.func27 (by kernel_rfl) rfl (by kernel_rfl) rfl fun Q hQ => ?_
  rw [r06_AppendString] at hs
  refine goR f0 ?_
  revert hs; refine bK fun y1 hx2 hs => ?_
  refine cA f0 (at_r06_AppendUint hx2) ?_
  obtain ⟨g3, hs⟩ := guardO_some hs
  have g3 := limB_t g3
  obtain ⟨g3a, g3b⟩ := g3
  revert hs; refine lK fun l4 hx5 hs => ?_
  have hx5n : l4.length = (y1.length + a1.size) := by rw [hx5]; simp
  have hx5e : encL l4 = encL y1 ++ encL a1.data.toList := by rw [hx5]; simp
  have F1 := an hx5n hx5e
  refine goR F1 ?_
  obtain rfl := sj hs
  refine hQ _ _ (ret2g _ (Gh.ren _ (.o 2 5 0) (.r 0) (by simp) rfl rfl) (by simp [St.frz, St.pur, F1]; rfl) (by first | rfl | (simp [St.frz, St.pur, F1]; done) | (rw [if_pos (by first | omega | (simp; omega))]; simp [St.frz, St.pur, F1]; first | omega | exact List.take_of_length_le (by simp; omega) | skip)) (pv F1))
end Go.Dc
end
section
set_option linter.all false
namespace Go.Dc.Pl
open Go Go.Hw Go.Dc
def byteN (n : Nat) : UInt8 := UInt8.ofNat n
theorem byteN_toNat (n : Nat) : (byteN n).toNat = n % 256 := by simp [byteN]
theorem wrap_u8_nat (n : Nat) : IntKind.wrap .u8 (n : Int) = ((byteN n).toNat : Int) := by
  simp [byteN, IntKind.wrap, IntKind.bits, IntKind.signed]
theorem u8_nat (n : Nat) : u8 (IntKind.u8.wrap (n : Int)) = byteN n := by
  rw [wrap_u8_nat, u8, Int.toNat_natCast]; simp
theorem tmod_nat (a b : Nat) : (a : Int).tmod (b : Int) = ((a % b : Nat) : Int) := by rw [Int.tmod_eq_emod_of_nonneg (by omega)]; simp
theorem tdiv_nat (a b : Nat) : (a : Int).tdiv (b : Int) = ((a / b : Nat) : Int) := by rw [Int.tdiv_eq_ediv_of_nonneg (by omega)]; simp
def uintB (n : Nat) : List UInt8 := if n < 128 then [byteN n] else byteN (n % 128 + 128) :: uintB (n / 128)
termination_by n
decreasing_by omega
theorem uintB_lt {n : Nat} (h : n < 128) : uintB n = [byteN n] := by rw [uintB, if_pos h]
theorem uintB_ge {n : Nat} (h : 128 ≤ n) : uintB n = byteN (n % 128 + 128) :: uintB (n / 128) := by rw [uintB, if_neg (by omega)]
theorem uintB_length : ∀ k n : Nat, n < 128 ^ (k + 1) → (uintB n).length ≤ k + 1
  | 0, n, h => by rw [uintB_lt (by simpa using h)]; simp
  | k + 1, n, h => by
    by_cases hn : n < 128
    · rw [uintB_lt hn]; simp
    · rw [uintB_ge (by omega)]
      have := uintB_length k (n / 128) (by rw [Nat.pow_succ] at h; omega)
      simp; omega
theorem uintB_le9 {n : Nat} (h : n ≤ 4611686018427387904) : (uintB n).length ≤ 9 := uintB_length 8 n (by omega)
theorem lim1 {n : Nat} (h : n ≤ 1099511627776) : limB 1 n = true := by simp only [limB, decide_eq_true_eq]; omega
theorem uintLoop {L : Nat → Int → List UInt8 → Option (Int × List UInt8)}
    (h : ∀ q i l, L (q + 1) i l = cond (!(ltI i 128)) (guardO (limB 1 (l.length + 1)) (L q (IntKind.i64.wrap (Int.tdiv i 128)) (l ++ [u8 (IntKind.u8.wrap (IntKind.i64.wrap (Int.tmod i 128 + 128)))]))) (some (i, l))) :
    ∀ (k q n : Nat) (l : List UInt8), n < 128 ^ (k + 1) → k < q → n < 9223372036854775808 → l.length + (uintB n).length ≤ 1099511627776 →
      ∃ (m : Nat) (r : List UInt8), L q (n : Int) l = some ((m : Int), r) ∧ r ++ [byteN m] = l ++ uintB n := by
  intro k
  induction k with
  | zero =>
    intro q n l hn hq hb hl
    obtain ⟨q, rfl⟩ : ∃ q', q = q' + 1 := ⟨q - 1, by omega⟩
    refine ⟨n, l, ?_, by rw [uintB_lt (by simpa using hn)]⟩
    rw [h, ltI_d, decide_eq_true (by simp at hn; omega)]; rfl
  | succ k ih =>
    intro q n l hn hq hb hl
    obtain ⟨q, rfl⟩ : ∃ q', q = q' + 1 := ⟨q - 1, by omega⟩
    by_cases h1 : n < 128
    · refine ⟨n, l, ?_, by rw [uintB_lt h1]⟩
      rw [h, ltI_d, decide_eq_true (by omega)]; rfl
    · have e1 : IntKind.i64.wrap (Int.tdiv (n : Int) 128) = ((n / 128 : Nat) : Int) := by
        rw [show (128 : Int) = ((128 : Nat) : Int) from rfl, tdiv_nat, wrap_i64 (by omega) (by omega)]
      have e2 : u8 (IntKind.u8.wrap (IntKind.i64.wrap (Int.tmod (n : Int) 128 + 128))) = byteN (n % 128 + 128) := by
        rw [show (128 : Int) = ((128 : Nat) : Int) from rfl, tmod_nat, ← Int.natCast_add, wrap_i64 (by omega) (by omega), u8_nat]
      have hu := uintB_ge (by omega : 128 ≤ n)
      rw [hu, List.length_cons] at hl
      obtain ⟨m, r, g1, g2⟩ := ih q (n / 128) (l ++ [byteN (n % 128 + 128)]) (by rw [Nat.pow_succ] at hn; omega) (by omega) (by omega) (by simp; omega)
      refine ⟨m, r, ?_, by rw [g2, hu]; simp⟩
      rw [h, ltI_d, decide_eq_false (by omega), e1, e2]
      show guardO _ _ = _
      rw [lim1 (by omega)]; exact g1
theorem own_L1 (q : Nat) (i : Int) (l : List UInt8) : frame_uintBytes_L1 (q + 1) i l = cond (!(ltI i 128)) (guardO (limB 1 (l.length + 1)) (frame_uintBytes_L1 q (IntKind.i64.wrap (Int.tdiv i 128)) (l ++ [u8 (IntKind.u8.wrap (IntKind.i64.wrap (Int.tmod i 128 + 128)))]))) (some (i, l)) := rfl
theorem ref_L1 (q : Nat) (i : Int) (l : List UInt8) : r06_AppendUint_L1 (q + 1) i l = cond (!(ltI i 128)) (guardO (limB 1 (l.length + 1)) (r06_AppendUint_L1 q (IntKind.i64.wrap (Int.tdiv i 128)) (l ++ [u8 (IntKind.u8.wrap (IntKind.i64.wrap (Int.tmod i 128 + 128)))]))) (some (i, l)) := rfl
theorem own_uintB {f n : Nat} (hn : n ≤ 4611686018427387904) (hf : 9 ≤ f) : frame_uintBytes f (n : Int) = some (uintB n) := by
  have h9 := uintB_le9 hn
  obtain ⟨m, r, h1, h2⟩ := uintLoop own_L1 8 f n [] (by omega) (by omega) (by omega) (by simp; omega)
  unfold frame_uintBytes
  rw [h1]
  show guardO (limB 1 (r.length + 1)) (some (r ++ [u8 (IntKind.u8.wrap (m : Int))])) = _
  rw [u8_nat, h2]
  have : r.length + 1 = (uintB n).length := by have := congrArg List.length h2; simpa using this
  rw [lim1 (by omega)]; rfl
/-- Appending an integer that is not negative. -/
def appU (b : List UInt8) (n : Int) : List UInt8 := if n < 0 ∨ 4611686018427387904 < n then b else b ++ uintB n.toNat
theorem join_eq : ∀ (l : List (List UInt8)) (b : List UInt8) (k : Nat), (b ++ l.flatten).length ≤ 1099511627776 → frame_join_L1 l b k = some (b ++ l.flatten)
  | [], b, k, _ => by simp [frame_join_L1]
  | x :: l, b, k, h => by
    simp only [List.flatten_cons, List.length_append] at h
    rw [frame_join_L1, lim1 (by omega)]
    show frame_join_L1 l (b ++ x) (k + 1) = _
    rw [join_eq l (b ++ x) (k + 1) (by simp only [List.length_append]; omega)]; simp
theorem own_join {l : List (List UInt8)} (h : l.flatten.length ≤ 1099511627776) : frame_join l = some l.flatten := by
  unfold frame_join; rw [join_eq l [] 0 (by simpa using h)]; rfl
theorem own_appU {f : Nat} {b : List UInt8} {n : Int} (hf : 9 ≤ f) (hb : b.length + 9 ≤ 1099511627776) : frame_AppendUint f b n = some (appU b n) := by
  unfold frame_AppendUint appU
  rw [orB_d, ltI_d, ltI_d, ← Bool.decide_or]
  by_cases h : n < 0 ∨ 4611686018427387904 < n
  · rw [if_pos h, decide_eq_true h]
    show Option.bind (frame_join [b]) some = _
    rw [own_join (by simp; omega)]; simp
  · rw [if_neg h, decide_eq_false h]
    obtain ⟨k, rfl⟩ : ∃ k : Nat, n = k := ⟨n.toNat, by omega⟩
    have h9 := uintB_le9 (n := k) (by omega)
    show Option.bind (frame_uintBytes f k) _ = _
    rw [own_uintB (by omega) hf]
    show Option.bind (frame_join [b, uintB k]) some = _
    rw [own_join (by simp; omega)]; simp
theorem ref_appU {f : Nat} {b : List UInt8} {n : Int} (hf : 9 ≤ f) (hb : b.length + 9 ≤ 1099511627776) : r06_AppendUint f b n = some (appU b n) := by
  unfold r06_AppendUint appU
  rw [orB_d, ltI_d, ltI_d, ← Bool.decide_or]
  show guardO (limB 1 (([] : List UInt8).length + b.length)) _ = _
  rw [lim1 (by simp; omega)]
  by_cases h : n < 0 ∨ 4611686018427387904 < n
  · rw [if_pos h, decide_eq_true h]; rfl
  · rw [if_neg h, decide_eq_false h]
    obtain ⟨k, rfl⟩ : ∃ k : Nat, n = k := ⟨n.toNat, by omega⟩
    have h9 := uintB_le9 (n := k) (by omega)
    obtain ⟨m, r, h1, h2⟩ := uintLoop ref_L1 8 f k b (by omega) (by omega) (by omega) (by omega)
    simp only [guardO_t, Option.bind_some, cond_false, List.nil_append, h1]
    rw [show ([u8 (IntKind.u8.wrap (m : Int))] : List UInt8).length = 1 from rfl, u8_nat, h2]
    have : r.length + 1 = b.length + (uintB k).length := by have := congrArg List.length h2; simpa using this
    rw [lim1 (by omega)]; simp
/-! Signed integers. -/
def inR (n : Int) : Bool := decide (-2305843009213693952 ≤ n) && decide (n ≤ 2305843009213693952)
def intCode (n : Int) : Nat := if 0 ≤ n then (2 * n).toNat else (-2 * n - 1).toNat
theorem inR_t {n : Int} (h : inR n = true) : -2305843009213693952 ≤ n ∧ n ≤ 2305843009213693952 := by simpa [inR] using h
theorem intCode_le {n : Int} (h : inR n = true) : intCode n ≤ 4611686018427387904 := by
  have := inR_t h; unfold intCode; split <;> omega
theorem ltI_not {a b : Int} : (!ltI a b) = decide (b ≤ a) := by
  rw [ltI_d]; by_cases h : a < b
  · rw [decide_eq_true h, decide_eq_false (by omega)]; rfl
  · rw [decide_eq_false h, decide_eq_true (by omega)]; rfl
theorem own_inR (n : Int) : frame_inRange n = some (inR n) := by unfold frame_inRange inR; rw [ltI_not, ltI_not, andB_d]
theorem ref_inR (n : Int) : r06_fits n = some (inR n) := by unfold r06_fits inR; rw [ltI_not, ltI_not, andB_d]
theorem own_intB {f : Nat} {n : Int} (h : inR n = true) (hf : 9 ≤ f) : frame_intBytes f n = some (uintB (intCode n)) := by
  have hr := inR_t h; have hc := intCode_le h
  unfold frame_intBytes
  rw [ltI_not]
  by_cases h0 : 0 ≤ n
  · rw [decide_eq_true h0, wrap_i64 (by omega) (by omega), show 2 * n = ((intCode n : Nat) : Int) by unfold intCode; rw [if_pos h0]; omega]
    show Option.bind (frame_uintBytes f (intCode n : Int)) some = _
    rw [own_uintB hc hf]; rfl
  · rw [decide_eq_false h0]
    show Option.bind (frame_uintBytes f (IntKind.i64.wrap (IntKind.i64.wrap (-2 * n) - 1))) some = _
    rw [wrap_i64 (n := -2 * n) (by omega) (by omega), wrap_i64 (by omega) (by omega), show -2 * n - 1 = ((intCode n : Nat) : Int) by unfold intCode; rw [if_neg h0]; omega, own_uintB hc hf]; rfl
def appI (b : List UInt8) (n : Int) : List UInt8 := if inR n then b ++ uintB (intCode n) else b
theorem own_appI {f : Nat} {b : List UInt8} {n : Int} (hf : 9 ≤ f) (hb : b.length + 9 ≤ 1099511627776) : frame_AppendInt f b n = some (appI b n) := by
  unfold frame_AppendInt appI
  rw [own_inR]
  show cond (!inR n) _ _ = _
  cases h : inR n
  · show Option.bind (frame_join [b]) some = _
    rw [own_join (by simp; omega)]; simp
  · have h9 := uintB_le9 (intCode_le h)
    show Option.bind (frame_intBytes f n) _ = _
    rw [own_intB h hf]
    show Option.bind (frame_join [b, uintB (intCode n)]) some = _
    rw [own_join (by simp; omega)]; simp
theorem appU_code {b : List UInt8} {n : Int} (h : inR n = true) : appU b ((intCode n : Nat) : Int) = b ++ uintB (intCode n) := by
  have := intCode_le h; unfold appU; rw [if_neg (by omega)]; simp
theorem ref_appI {f : Nat} {b : List UInt8} {n : Int} (hf : 9 ≤ f) (hb : b.length + 9 ≤ 1099511627776) : r06_AppendInt f b n = some (appI b n) := by
  unfold r06_AppendInt appI
  rw [ref_inR]
  show cond (!inR n) _ _ = _
  cases h : inR n
  · show guardO (limB 1 (([] : List UInt8).length + b.length)) _ = _
    rw [lim1 (by simp; omega)]; rfl
  · have hr := inR_t h
    show cond (ltI n 0) _ _ = _
    rw [ltI_d]
    by_cases h0 : n < 0
    · rw [decide_eq_true h0]
      show Option.bind (r06_AppendUint f b (IntKind.i64.wrap (IntKind.i64.wrap (-2 * n) - 1))) some = _
      rw [wrap_i64 (n := -2 * n) (by omega) (by omega), wrap_i64 (by omega) (by omega), show -2 * n - 1 = ((intCode n : Nat) : Int) by unfold intCode; rw [if_neg (by omega)]; omega, ref_appU hf hb, appU_code h]; rfl
    · rw [decide_eq_false h0]
      show Option.bind (r06_AppendUint f b (IntKind.i64.wrap (2 * n))) some = _
      rw [wrap_i64 (by omega) (by omega), show 2 * n = ((intCode n : Nat) : Int) by unfold intCode; rw [if_pos (by omega)]; omega, ref_appU hf hb, appU_code h]; rfl
/-! Strings. -/
def appS (b : List UInt8) (s : ByteArray) : List UInt8 := b ++ uintB s.size ++ s.data.toList
theorem own_appS {f : Nat} {b : List UInt8} {s : ByteArray} (hf : 9 ≤ f) (hs : s.size ≤ 1000000000) (hb : b.length ≤ 1000000000) : frame_AppendString f b s = some (appS b s) := by
  unfold frame_AppendString appS
  have h9 := uintB_le9 (n := s.size) (by omega)
  have hl := str_len s
  rw [own_uintB (by omega) hf]
  show guardO (strB3 s) (Option.bind (frame_join [b, uintB s.size, s.data.toList]) some) = _
  rw [show strB3 s = true by simp [strB3]; omega, own_join (by simp; omega)]; simp
theorem ref_appS {f : Nat} {b : List UInt8} {s : ByteArray} (hf : 9 ≤ f) (hs : s.size ≤ 1000000000) (hb : b.length ≤ 1000000000) : r06_AppendString f b s = some (appS b s) := by
  unfold r06_AppendString appS
  have h9 := uintB_le9 (n := s.size) (by omega)
  rw [ref_appU hf (by omega)]
  have e : appU b ((s.size : Nat) : Int) = b ++ uintB s.size := by unfold appU; rw [if_neg (by omega)]; simp
  rw [e]
  show guardO (limB 1 ((b ++ uintB s.size).length + s.size)) _ = _
  rw [lim1 (by simp; omega)]; rfl
end Go.Dc.Pl
end
section
set_option linter.all false
namespace Go.Dc
open Go Go.Hw Go.Proofs
set_option maxRecDepth 100000
def frame_Checksum_L2 : Nat → Int → Int → Option Int
  | 0, _, _ => none
  | q547 + 1, i535, i536 => cond (ltI i536 8) (cond (eqI (bits .and .u32 i535 1) 1) (frame_Checksum_L2 q547 (bits .xor .u32 (shrI .u32 i535 1) 3988292384) (IntKind.i64.wrap (i536 + 1))) (frame_Checksum_L2 q547 (shrI .u32 i535 1) (IntKind.i64.wrap (i536 + 1)))) (some (i535))

def frame_Checksum_L1 (fuelN : Nat) (a0 : List UInt8) : Nat → Int → Int → Option Int
  | 0, _, _ => none
  | q491 + 1, i416, i417 => cond (ltI i417 ((a0.length : Nat) : Int)) (Option.bind (α := Int) (Option.bind (getI a0 i417) (fun x527 => Option.bind (frame_Checksum_L2 fuelN (bits .xor .u32 i416 (IntKind.u32.wrap (x527.toNat : Int))) 0) (fun i540 => some (i540)))) (fun i522 => frame_Checksum_L1 fuelN a0 q491 i522 (IntKind.i64.wrap (i417 + 1)))) (some (i416))

def frame_Checksum (fuelN : Nat) (a0 : List UInt8) : Option Int :=
  Option.bind (α := Int) (Option.bind (frame_Checksum_L1 fuelN a0 fuelN 4294967295 0) (fun i484 => some (i484))) (fun i275 => some (bits .xor .u32 4294967295 i275))

set_option maxHeartbeats 2000000 in
theorem at_frame_Checksum {fuelN : Nat} {a0 : List UInt8} {r : Int} (hs : frame_Checksum fuelN a0 = some r) : At Tryd.prog 22 [.cell (sC a0)] (iV .u32 r) := by
  refine at_bound (by kernel_rfl) fun hb => ?_
  have hb1 : LenOk (.sl a0.length (encL a0)) := lkc hb
  refine at_code mixed Tryd.func22 (by kernel_rfl) rfl (by kernel_rfl) rfl fun Q hQ => ?_
  rw [frame_Checksum] at hs
  refine goR2 f0 ?_
  revert hs; refine bK fun o277 e276 hs => ?_
  refine awp_cutK (fun (v : Int) (σ : St) => some (v) = some o277 ∧ σ.env 3 = iV .u32 v ∧ 3 ≤ σ.gen) (by rfl) (fun Q hK278 hX279 => ?_) (fun i275 σ27 hp => ?_)
  · refine goR f0 ?_
    revert e276; refine bK fun o486 e485 e276 => ?_
    refine awp_loopW (fun (v : Nat × Int × Int) (σ : St) => frame_Checksum_L1 fuelN a0 v.1 v.2.1 v.2.2 = some o486 ∧ σ.env 3 = iV .u32 v.2.1 ∧ σ.env 7 = .cell (sC a0) ∧ σ.env 8 = iV .i64 ((a0.length : Nat) : Int) ∧ σ.env 9 = iV .i64 v.2.2 ∧ 3 ≤ σ.gen) (fun v => v.1) _ (Gh.refl _) (fuelN, 4294967295, 0) ⟨e485, pv f0, pv f0, pv f0, pv f0, pg⟩ fun v σ48 hp L487 hL488 => ?_
    obtain ⟨q490, i416, i417⟩ := v
    dsimp only at hp hL488
    obtain ⟨e485, h47_3, h47_7, h47_8, h47_9, n47_g⟩ := hp
    rcases q490 with _ | q491
    · rw [frame_Checksum_L1] at e485; cases e485
    · rw [frame_Checksum_L1] at e485; try dsimp only at e485
      have F1 := an h47_3 (an h47_7 (an h47_8 h47_9))
      refine goR F1 ?_
      revert e485; refine cS F1 ?_ ?_ <;> intro h495 e485
      · refine goR2 F1 ?_
        revert e485; refine bK fun o524 e523 e485 => ?_
        refine awp_cutK (fun (v : Int) (σ : St) => some (v) = some o524 ∧ σ.env 3 = iV .u32 v ∧ σ.env 7 = .cell (sC a0) ∧ σ.env 8 = iV .i64 ((a0.length : Nat) : Int) ∧ σ.env 9 = iV .i64 i417 ∧ (σ48.gen + 1) ≤ σ.gen) (by rfl) (fun Q hK525 hX526 => ?_) (fun i522 σ51 hp => ?_)
        · revert e523; refine bK fun x527 hx528 e523 => ?_
          obtain ⟨hx528a, hx528b, hx528c, hx528d⟩ := getI_some hx528
          have f529 : partCV Tryd.prog 5 (encL a0) ((i417).toNat) = some (iV .u8 (x527.toNat : Int)) := partCV_enc1 hx528d (by simp)
          have F2 := an F1 f529
          refine goR F2 ?_
          revert e523; refine bK fun o542 e541 e523 => ?_
          refine awp_loopW (fun (v : Nat × Int × Int) (σ : St) => frame_Checksum_L2 v.1 v.2.1 v.2.2 = some o542 ∧ σ.env 3 = iV .u32 v.2.1 ∧ σ.env 7 = .cell (sC a0) ∧ σ.env 8 = iV .i64 ((a0.length : Nat) : Int) ∧ σ.env 9 = iV .i64 i417 ∧ σ.env 17 = iV .i64 v.2.2 ∧ (σ48.gen + 4) ≤ σ.gen) (fun v => v.1) _ (Gh.refl _) (fuelN, bits .xor .u32 i416 (IntKind.u32.wrap (x527.toNat : Int)), 0) ⟨e541, pv F2, pv F2, pv F2, pv F2, pv F2, pg⟩ fun v σ54 hp L543 hL544 => ?_
          obtain ⟨q546, i535, i536⟩ := v
          dsimp only at hp hL544
          obtain ⟨e541, h53_3, h53_7, h53_8, h53_9, h53_17, n53_g⟩ := hp
          rcases q546 with _ | q547
          · rw [frame_Checksum_L2] at e541; cases e541
          · rw [frame_Checksum_L2] at e541; try dsimp only at e541
            have F3 := an h53_3 (an h53_7 (an h53_8 (an h53_9 (an h53_17 f529))))
            refine goR F3 ?_
            revert e541; refine cS F3 ?_ ?_ <;> intro h551 e541
            · refine goR F3 ?_
              revert e541; refine cS F3 ?_ ?_ <;> intro h552 e541
              · refine goR F3 ?_
                exact hL544 (q547, bits .xor .u32 (shrI .u32 i535 1) 3988292384, IntKind.i64.wrap (i536 + 1)) _ _ (Gh.refl _) ⟨e541, pv F3, pv F3, pv F3, pv F3, pv F3, pg⟩ (by omega)
              · refine goR F3 ?_
                exact hL544 (q547, shrI .u32 i535 1, IntKind.i64.wrap (i536 + 1)) _ _ (Gh.refl _) ⟨e541, pv F3, pv F3, pv F3, pv F3, pv F3, pg⟩ (by omega)
            · refine goR F3 ?_
              obtain rfl := sj e541
              try dsimp only at e523
              exact hK525 i535 _ _ (Gh.refl _) ⟨e523, pv F3, pv F3, pv F3, pv F3, pg⟩
        · obtain ⟨e523, h52_3, h52_7, h52_8, h52_9, n52_g⟩ := hp
          obtain rfl := sj e523
          try dsimp only at e485
          have F4 := an h52_3 (an h52_7 (an h52_8 h52_9))
          refine goR F4 ?_
          exact hL488 (q491, i522, IntKind.i64.wrap (i417 + 1)) _ _ (Gh.refl _) ⟨e485, pv F4, pv F4, pv F4, pv F4, pg⟩ (by omega)
      · refine goR F1 ?_
        obtain rfl := sj e485
        try dsimp only at e276
        exact hK278 i416 _ _ (Gh.refl _) ⟨e276, pv F1, pg⟩
  · obtain ⟨e276, h28_3, n28_g⟩ := hp
    obtain rfl := sj e276
    try dsimp only at hs
    refine goR h28_3 ?_
    obtain rfl := sj hs
    exact hQ _ _ (rg h28_3 (Gh.refl _))
end Go.Dc
end
section
set_option linter.all false
namespace Go.Dc
open Go Go.Hw Go.Proofs
set_option maxRecDepth 100000
def r06_Checksum_L2 : Nat → Int → Int → Option Int
  | 0, _, _ => none
  | q547 + 1, i535, i536 => cond (ltI i536 8) (cond (eqI (Int.tmod i535 2) 1) (r06_Checksum_L2 q547 (bits .xor .u32 (IntKind.u32.wrap (Int.tdiv i535 2)) 3988292384) (IntKind.i64.wrap (i536 + 1))) (r06_Checksum_L2 q547 (IntKind.u32.wrap (Int.tdiv i535 2)) (IntKind.i64.wrap (i536 + 1)))) (some (i535))

def r06_Checksum_L1 (fuelN : Nat) (a0 : List UInt8) : Nat → Int → Int → Option Int
  | 0, _, _ => none
  | q491 + 1, i416, i417 => cond (ltI i417 ((a0.length : Nat) : Int)) (Option.bind (α := Int) (Option.bind (getI a0 i417) (fun x527 => Option.bind (r06_Checksum_L2 fuelN (bits .xor .u32 i416 (IntKind.u32.wrap (x527.toNat : Int))) 0) (fun i540 => some (i540)))) (fun i522 => r06_Checksum_L1 fuelN a0 q491 i522 (IntKind.i64.wrap (i417 + 1)))) (some (i416))

def r06_Checksum (fuelN : Nat) (a0 : List UInt8) : Option Int :=
  Option.bind (α := Int) (Option.bind (r06_Checksum_L1 fuelN a0 fuelN 4294967295 0) (fun i484 => some (i484))) (fun i275 => some (bits .xor .u32 i275 4294967295))

set_option maxHeartbeats 2000000 in
theorem at_r06_Checksum {fuelN : Nat} {a0 : List UInt8} {r : Int} (hs : r06_Checksum fuelN a0 = some r) : At Tryd.prog 30 [.cell (sC a0)] (iV .u32 r) := by
  refine at_bound (by kernel_rfl) fun hb => ?_
  have hb1 : LenOk (.sl a0.length (encL a0)) := lkc hb
  refine at_code mixed Tryd.func30 (by kernel_rfl) rfl (by kernel_rfl) rfl fun Q hQ => ?_
  rw [r06_Checksum] at hs
  refine goR2 f0 ?_
  revert hs; refine bK fun o277 e276 hs => ?_
  refine awp_cutK (fun (v : Int) (σ : St) => some (v) = some o277 ∧ σ.env 3 = iV .u32 v ∧ 3 ≤ σ.gen) (by rfl) (fun Q hK278 hX279 => ?_) (fun i275 σ27 hp => ?_)
  · refine goR f0 ?_
    revert e276; refine bK fun o486 e485 e276 => ?_
    refine awp_loopW (fun (v : Nat × Int × Int) (σ : St) => r06_Checksum_L1 fuelN a0 v.1 v.2.1 v.2.2 = some o486 ∧ σ.env 0 = .cell (sC a0) ∧ σ.env 3 = iV .u32 v.2.1 ∧ σ.env 4 = iV .i64 v.2.2 ∧ 3 ≤ σ.gen) (fun v => v.1) _ (Gh.refl _) (fuelN, 4294967295, 0) ⟨e485, pv f0, pv f0, pv f0, pg⟩ fun v σ48 hp L487 hL488 => ?_
    obtain ⟨q490, i416, i417⟩ := v
    dsimp only at hp hL488
    obtain ⟨e485, h47_0, h47_3, h47_4, n47_g⟩ := hp
    rcases q490 with _ | q491
    · rw [r06_Checksum_L1] at e485; cases e485
    · rw [r06_Checksum_L1] at e485; try dsimp only at e485
      have F1 := an h47_0 (an h47_3 h47_4)
      refine goR F1 ?_
      revert e485; refine cS F1 ?_ ?_ <;> intro h495 e485
      · refine goR2 F1 ?_
        revert e485; refine bK fun o524 e523 e485 => ?_
        refine awp_cutK (fun (v : Int) (σ : St) => some (v) = some o524 ∧ σ.env 0 = .cell (sC a0) ∧ σ.env 3 = iV .u32 v ∧ σ.env 4 = iV .i64 i417 ∧ (σ48.gen + 1) ≤ σ.gen) (by rfl) (fun Q hK525 hX526 => ?_) (fun i522 σ51 hp => ?_)
        · revert e523; refine bK fun x527 hx528 e523 => ?_
          obtain ⟨hx528a, hx528b, hx528c, hx528d⟩ := getI_some hx528
          have f529 : partCV Tryd.prog 5 (encL a0) ((i417).toNat) = some (iV .u8 (x527.toNat : Int)) := partCV_enc1 hx528d (by simp)
          have F2 := an F1 f529
          refine goR F2 ?_
          revert e523; refine bK fun o542 e541 e523 => ?_
          refine awp_loopW (fun (v : Nat × Int × Int) (σ : St) => r06_Checksum_L2 v.1 v.2.1 v.2.2 = some o542 ∧ σ.env 0 = .cell (sC a0) ∧ σ.env 3 = iV .u32 v.2.1 ∧ σ.env 4 = iV .i64 i417 ∧ σ.env 5 = iV .i64 v.2.2 ∧ (σ48.gen + 3) ≤ σ.gen) (fun v => v.1) _ (Gh.refl _) (fuelN, bits .xor .u32 i416 (IntKind.u32.wrap (x527.toNat : Int)), 0) ⟨e541, pv F2, pv F2, pv F2, pv F2, pg⟩ fun v σ54 hp L543 hL544 => ?_
          obtain ⟨q546, i535, i536⟩ := v
          dsimp only at hp hL544
          obtain ⟨e541, h53_0, h53_3, h53_4, h53_5, n53_g⟩ := hp
          rcases q546 with _ | q547
          · rw [r06_Checksum_L2] at e541; cases e541
          · rw [r06_Checksum_L2] at e541; try dsimp only at e541
            have F3 := an h53_0 (an h53_3 (an h53_4 (an h53_5 f529)))
            refine goR F3 ?_
            revert e541; refine cS F3 ?_ ?_ <;> intro h551 e541
            · refine goR F3 ?_
              revert e541; refine cS F3 ?_ ?_ <;> intro h552 e541
              · refine goR F3 ?_
                exact hL544 (q547, bits .xor .u32 (IntKind.u32.wrap (Int.tdiv i535 2)) 3988292384, IntKind.i64.wrap (i536 + 1)) _ _ (Gh.refl _) ⟨e541, pv F3, pv F3, pv F3, pv F3, pg⟩ (by omega)
              · refine goR F3 ?_
                exact hL544 (q547, IntKind.u32.wrap (Int.tdiv i535 2), IntKind.i64.wrap (i536 + 1)) _ _ (Gh.refl _) ⟨e541, pv F3, pv F3, pv F3, pv F3, pg⟩ (by omega)
            · refine goR F3 ?_
              obtain rfl := sj e541
              try dsimp only at e523
              exact hK525 i535 _ _ (Gh.refl _) ⟨e523, pv F3, pv F3, pv F3, pg⟩
        · obtain ⟨e523, h52_0, h52_3, h52_4, n52_g⟩ := hp
          obtain rfl := sj e523
          try dsimp only at e485
          have F4 := an h52_0 (an h52_3 h52_4)
          refine goR F4 ?_
          exact hL488 (q491, i522, IntKind.i64.wrap (i417 + 1)) _ _ (Gh.refl _) ⟨e485, pv F4, pv F4, pv F4, pg⟩ (by omega)
      · refine goR F1 ?_
        obtain rfl := sj e485
        try dsimp only at e276
        exact hK278 i416 _ _ (Gh.refl _) ⟨e276, pv F1, pg⟩
  · obtain ⟨e276, h28_3, n28_g⟩ := hp
    obtain rfl := sj e276
    try dsimp only at hs
    refine goR h28_3 ?_
    obtain rfl := sj hs
    exact hQ _ _ (rg h28_3 (Gh.refl _))
end Go.Dc
end
section
set_option linter.all false
namespace Go.Dc.Pl
open Go Go.Hw Go.Dc
def crcS (c : Nat) : Nat := if c % 2 = 1 then (c / 2) ^^^ 3988292384 else c / 2
def crcK : Nat → Nat → Nat
  | 0, c => c
  | k + 1, c => crcK k (crcS c)
def crcL : List UInt8 → Nat → Nat
  | [], c => c
  | b :: l, c => crcL l (crcK 8 (c ^^^ b.toNat))
def crc (l : List UInt8) : Nat := crcL l 4294967295 ^^^ 4294967295
theorem crcS_lt {c : Nat} (h : c < 2 ^ 32) : crcS c < 2 ^ 32 := by
  unfold crcS; split
  · exact Nat.xor_lt_two_pow (by omega) (by decide)
  · omega
theorem crcK_lt : ∀ (k : Nat) {c : Nat}, c < 2 ^ 32 → crcK k c < 2 ^ 32
  | 0, c, h => h
  | k + 1, c, h => crcK_lt k (crcS_lt h)
theorem byte_xor_lt {c : Nat} (b : UInt8) (h : c < 2 ^ 32) : c ^^^ b.toNat < 2 ^ 32 := Nat.xor_lt_two_pow h (Nat.lt_of_lt_of_le b.toNat_lt (by decide))
theorem crcL_lt : ∀ (l : List UInt8) {c : Nat}, c < 2 ^ 32 → crcL l c < 2 ^ 32
  | [], c, h => h
  | b :: l, c, h => crcL_lt l (crcK_lt 8 (byte_xor_lt b h))
theorem crc_lt (l : List UInt8) : crc l < 2 ^ 32 := Nat.xor_lt_two_pow (crcL_lt l (by decide)) (by decide)
theorem shr_nat {k : IntKind} {a s : Nat} (hs : s ≤ k.bits) : shrI k (a : Int) (s : Int) = ((a / 2 ^ s : Nat) : Int) := by
  unfold shrI
  rw [Int.toNat_natCast, Nat.min_eq_left hs, Int.fdiv_eq_ediv_of_nonneg _ (by exact Int.le_of_lt (Int.pow_pos (by omega)))]
  simp
theorem wrap_u32_nat (n : Nat) : IntKind.wrap .u32 (n : Int) = ((n % 4294967296 : Nat) : Int) := by rw [IntKind.wrap_u32']; simp
theorem own_step {c : Nat} (h : c < 2 ^ 32) : cond (eqI (bits .and .u32 (c : Int) 1) 1) (bits .xor .u32 (shrI .u32 (c : Int) 1) 3988292384) (shrI .u32 (c : Int) 1) = ((crcS c : Nat) : Int) := by
  have e1 : bits .and .u32 (c : Int) 1 = ((c % 2 : Nat) : Int) := by rw [show (1 : Int) = ((1 : Nat) : Int) from rfl, u32_and_nat _ _ (by omega) (by decide), Nat.and_one_is_mod]
  have e2 : shrI .u32 (c : Int) 1 = ((c / 2 : Nat) : Int) := by rw [show (1 : Int) = ((1 : Nat) : Int) from rfl, shr_nat (by decide)]
  rw [e1, e2, show (3988292384 : Int) = ((3988292384 : Nat) : Int) from rfl, u32_xor_nat _ _ (by omega) (by decide), eqI_d]
  unfold crcS
  by_cases h : c % 2 = 1
  · rw [if_pos h, decide_eq_true (by omega)]; rfl
  · rw [if_neg h, decide_eq_false (by omega)]; rfl
theorem ref_step {c : Nat} (h : c < 2 ^ 32) : cond (eqI (Int.tmod (c : Int) 2) 1) (bits .xor .u32 (IntKind.u32.wrap (Int.tdiv (c : Int) 2)) 3988292384) (IntKind.u32.wrap (Int.tdiv (c : Int) 2)) = ((crcS c : Nat) : Int) := by
  have e1 : Int.tmod (c : Int) 2 = ((c % 2 : Nat) : Int) := tmod_nat c 2
  have e2 : IntKind.u32.wrap (Int.tdiv (c : Int) 2) = ((c / 2 : Nat) : Int) := by rw [show (2 : Int) = ((2 : Nat) : Int) from rfl, tdiv_nat, wrap_u32_nat, Nat.mod_eq_of_lt (by omega)]
  rw [e1, e2, show (3988292384 : Int) = ((3988292384 : Nat) : Int) from rfl, u32_xor_nat _ _ (by omega) (by decide), eqI_d]
  unfold crcS
  by_cases h : c % 2 = 1
  · rw [if_pos h, decide_eq_true (by omega)]; rfl
  · rw [if_neg h, decide_eq_false (by omega)]; rfl
theorem crcIn {L : Nat → Int → Int → Option Int} (h0 : ∀ q c, L (q + 1) c 8 = some c) (h1 : ∀ (q c i : Nat), c < 2 ^ 32 → i < 8 → L (q + 1) (c : Int) (i : Int) = L q ((crcS c : Nat) : Int) ((i + 1 : Nat) : Int)) :
    ∀ (k q c i : Nat), c < 2 ^ 32 → i + k = 8 → k < q → L q (c : Int) (i : Int) = some ((crcK k c : Nat) : Int) := by
  intro k
  induction k with
  | zero =>
    intro q c i hc hi hq
    obtain ⟨q, rfl⟩ : ∃ q', q = q' + 1 := ⟨q - 1, by omega⟩
    obtain rfl : i = 8 := by omega
    exact h0 q c
  | succ k ih =>
    intro q c i hc hi hq
    obtain ⟨q, rfl⟩ : ∃ q', q = q' + 1 := ⟨q - 1, by omega⟩
    rw [h1 q c i hc (by omega), ih q (crcS c) (i + 1) (crcS_lt hc) (by omega) (by omega)]; rfl
theorem crcOut {L : Nat → Int → Int → Option Int} (a : List UInt8) (h0 : ∀ q c, L (q + 1) c ((a.length : Nat) : Int) = some c)
    (h1 : ∀ (q c i : Nat) (x : UInt8), c < 2 ^ 32 → a[i]? = some x → L (q + 1) (c : Int) (i : Int) = L q ((crcK 8 (c ^^^ x.toNat) : Nat) : Int) ((i + 1 : Nat) : Int)) :
    ∀ (q i c : Nat), c < 2 ^ 32 → i ≤ a.length → a.length < i + q → L q (c : Int) (i : Int) = some ((crcL (a.drop i) c : Nat) : Int) := by
  intro q
  induction q with
  | zero => intro i c _ h1 h2; omega
  | succ q ih =>
    intro i c hc hi hq
    rcases Nat.lt_or_ge i a.length with h | h
    · have hx : a[i]? = some a[i] := List.getElem?_eq_getElem h
      rw [h1 q c i _ hc hx, ih (i + 1) _ (crcK_lt 8 (byte_xor_lt _ hc)) (by omega) (by omega), drop_at hx]; rfl
    · obtain rfl : i = a.length := by omega
      rw [h0, List.drop_length]; rfl
theorem cond_arg {α β : Type} (f : α → β) (c : Bool) (x y : α) : cond c (f x) (f y) = f (cond c x y) := by cases c <;> rfl
theorem own_crc {f : Nat} {a : List UInt8} (hf : 9 ≤ f) (ha : a.length < f) (hb : a.length ≤ 1000000000000) : frame_Checksum f a = some ((crc a : Nat) : Int) := by
  have hin : ∀ (c : Nat), c < 2 ^ 32 → frame_Checksum_L2 f (c : Int) 0 = some ((crcK 8 c : Nat) : Int) := fun c hc =>
    crcIn (L := frame_Checksum_L2) (fun q c => rfl) (fun q c i hc hi => by
      rw [frame_Checksum_L2, ltI_d, decide_eq_true (by omega), wrapS (by omega), cond_true, ← own_step hc]
      exact cond_arg (fun x => frame_Checksum_L2 q x ((i + 1 : Nat) : Int)) _ _ _) 8 f c 0 hc rfl (by omega)
  have hout := crcOut (L := frame_Checksum_L1 f a) a (fun q c => by rw [frame_Checksum_L1, ltI_d, decide_eq_false (by omega)]; rfl) (fun q c i x hc hx => by
    have hi := getN_some hx
    have hl := x.toNat_lt
    rw [frame_Checksum_L1, ltI_d, decide_eq_true (by omega), cond_true, getI_nat, hx, wrapS (by omega)]
    simp only [Option.bind_some]
    rw [wrap_u32_nat, Nat.mod_eq_of_lt (by omega), u32_xor_nat _ _ (by omega) (by omega), hin _ (byte_xor_lt x hc)]; rfl) f 0 4294967295 (by decide) (by omega) (by omega)
  unfold frame_Checksum
  rw [show (4294967295 : Int) = ((4294967295 : Nat) : Int) from rfl, show (0 : Int) = ((0 : Nat) : Int) from rfl, hout]
  show some (bits .xor .u32 _ _) = _
  rw [u32_xor_nat _ _ (by decide) (crcL_lt _ (by decide)), Nat.xor_comm]; rfl
theorem ref_crc {f : Nat} {a : List UInt8} (hf : 9 ≤ f) (ha : a.length < f) (hb : a.length ≤ 1000000000000) : r06_Checksum f a = some ((crc a : Nat) : Int) := by
  have hin : ∀ (c : Nat), c < 2 ^ 32 → r06_Checksum_L2 f (c : Int) 0 = some ((crcK 8 c : Nat) : Int) := fun c hc =>
    crcIn (L := r06_Checksum_L2) (fun q c => rfl) (fun q c i hc hi => by
      rw [r06_Checksum_L2, ltI_d, decide_eq_true (by omega), wrapS (by omega), cond_true, ← ref_step hc]
      exact cond_arg (fun x => r06_Checksum_L2 q x ((i + 1 : Nat) : Int)) _ _ _) 8 f c 0 hc rfl (by omega)
  have hout := crcOut (L := r06_Checksum_L1 f a) a (fun q c => by rw [r06_Checksum_L1, ltI_d, decide_eq_false (by omega)]; rfl) (fun q c i x hc hx => by
    have hi := getN_some hx
    have hl := x.toNat_lt
    rw [r06_Checksum_L1, ltI_d, decide_eq_true (by omega), cond_true, getI_nat, hx, wrapS (by omega)]
    simp only [Option.bind_some]
    rw [wrap_u32_nat, Nat.mod_eq_of_lt (by omega), u32_xor_nat _ _ (by omega) (by omega), hin _ (byte_xor_lt x hc)]; rfl) f 0 4294967295 (by decide) (by omega) (by omega)
  unfold r06_Checksum
  rw [show (4294967295 : Int) = ((4294967295 : Nat) : Int) from rfl, show (0 : Int) = ((0 : Nat) : Int) from rfl, hout]
  show some (bits .xor .u32 _ _) = _
  rw [u32_xor_nat _ _ (crcL_lt _ (by decide)) (by decide)]; rfl
end Go.Dc.Pl
end
section
set_option linter.all false
namespace Go.Dc
open Go Go.Hw Go.Proofs
set_option maxRecDepth 100000

def program_CheckConfig (a0 : Config) : Option Int :=
  cond (andB (andB (!(eqI a0.Model 1)) (!(eqI a0.Model 2))) (!(eqI a0.Model 3))) (some 18) (cond (orB (ltI a0.Bound 1) (ltI 32 a0.Bound)) (some 2) (some 0))

set_option maxHeartbeats 2000000 in
theorem at_program_CheckConfig {a0 : Config} {r : Int} (hs : program_CheckConfig a0 = some r) : At Tryd.prog 48 [.agg (eA a0)] (iV .i64 r) := by
  refine at_bound (by kernel_rfl) fun hb => ?_
  refine at_code mixed Tryd.func48 (by kernel_rfl) rfl (by kernel_rfl) rfl fun Q hQ => ?_
  rw [program_CheckConfig] at hs
  refine goG f0 f0 ?_
  revert hs; refine cS f0 ?_ ?_ <;> intro h1 hs
  · refine goG f0 f0 ?_
    obtain rfl := sj hs
    exact hQ _ _ (rg f0 (Gh.refl _))
  · refine goG f0 f0 ?_
    revert hs; refine cS f0 ?_ ?_ <;> intro h2 hs
    · refine goG f0 f0 ?_
      obtain rfl := sj hs
      exact hQ _ _ (rg f0 (Gh.refl _))
    · refine goG f0 f0 ?_
      obtain rfl := sj hs
      exact hQ _ _ (rg f0 (Gh.refl _))
end Go.Dc
end
section
set_option linter.all false
namespace Go.Dc
open Go Go.Hw Go.Proofs
set_option maxRecDepth 100000

def checkpoint_standard (fuelN : Nat) (a0 : Program) (a1 : Config) : Option Int :=
  Option.bind (program_Check fuelN a0) (fun y1 => cond (!(eqI y1.1 0)) (some y1.1) (Option.bind (program_CheckConfig a1) (fun y4 => cond (!(eqI y4 0)) (some y4) (cond (eqI a1.Model 3) (some 18) (some 0)))))

set_option maxHeartbeats 2000000 in
theorem at_checkpoint_standard {fuelN : Nat} {a0 : Program} {a1 : Config} {r : Int} (hs : checkpoint_standard fuelN a0 a1 = some r) : At Tryd.prog 21 [.agg (eA a0), .agg (eA a1)] (iV .i64 r) := by
  refine at_bound (by kernel_rfl) fun hb => ?_
  have hb1 : LenOk (.sl a0.Vars.length (encL a0.Vars)) := lkc hb
  have hb2 : LenOk (.sl a0.Mutexes.length (encL a0.Mutexes)) := lkc hb
  have hb3 : LenOk (.sl a0.Conds.length (encL a0.Conds)) := lkc hb
  have hb4 : LenOk (.sl a0.Funcs.length (encL a0.Funcs)) := lkc hb
  have hb5 : LenOk (.sl a0.Threads.length (encL a0.Threads)) := lkc hb
  refine at_code mixed Tryd.func21 (by kernel_rfl) rfl (by kernel_rfl) rfl fun Q hQ => ?_
  rw [checkpoint_standard] at hs
  refine goR f0 ?_
  revert hs; refine bK fun y1 hx2 hs => ?_
  refine cP f0 (at_program_Check hx2) ?_
  refine goR f0 ?_
  revert hs; refine cS f0 ?_ ?_ <;> intro h3 hs
  · refine goR f0 ?_
    obtain rfl := sj hs
    exact hQ _ _ (rg f0 (Gh.refl _))
  · refine goR f0 ?_
    revert hs; refine bK fun y4 hx5 hs => ?_
    refine cP f0 (at_program_CheckConfig hx5) ?_
    refine goR f0 ?_
    revert hs; refine cS f0 ?_ ?_ <;> intro h6 hs
    · refine goR f0 ?_
      obtain rfl := sj hs
      exact hQ _ _ (rg f0 (Gh.refl _))
    · refine goR f0 ?_
      revert hs; refine cS f0 ?_ ?_ <;> intro h7 hs
      · refine goR f0 ?_
        obtain rfl := sj hs
        exact hQ _ _ (rg f0 (Gh.refl _))
      · refine goR f0 ?_
        obtain rfl := sj hs
        exact hQ _ _ (rg f0 (Gh.refl _))
end Go.Dc
end
section
set_option linter.all false
namespace Go.Dc
open Go Go.Hw Go.Proofs
set_option maxRecDepth 100000

def checkpoint_text_2 (fuelN : Nat) (a0 : Int) (a1 : List UInt8) : Option (List UInt8) :=
  Option.bind (frame_AppendUint fuelN a1 a0) (fun y1 => some y1)

set_option maxHeartbeats 2000000 in
theorem at_checkpoint_text_2 {fuelN : Nat} {a0 : Int} {a1 : List UInt8} {r : (List UInt8)} (hs : checkpoint_text_2 fuelN a0 a1 = some r) : CAt Tryd.prog 50 [iV .i64 a0, .cell (.ref (.a 0) 0)] [.cells [.own (.sp 1 a1.length (encL a1))]] (.ret (.tup [])) [(.a 0, .cells [.own (.sp 1 r.length (encL r))])] := by
  refine at_bound (by kernel_rfl) fun hb => ?_
  refine at_code mixed Tryd.func50 (by kernel_rfl) rfl (by kernel_rfl) rfl fun Q hQ => ?_
  rw [checkpoint_text_2] at hs
  refine goR f0 ?_
  revert hs; refine bK fun y1 hx2 hs => ?_
  refine cA f0 (at_frame_AppendUint hx2) ?_
  refine goR f0 ?_
  obtain rfl := sj hs
  refine hQ _ _ (ret2g _ (Gh.close _ (.a 0) 0) (by simp [St.frz, St.pur]; rfl) (by first | rfl | (simp [St.frz, St.pur]; done) | (rw [if_pos (by first | omega | (simp; omega))]; simp [St.frz, St.pur]; first | omega | exact List.take_of_length_le (by simp; omega) | skip)) (pv f0))
end Go.Dc
end
section
set_option linter.all false
namespace Go.Dc
open Go Go.Hw Go.Proofs
set_option maxRecDepth 100000
def checkpoint_text_3_checkpoint_text_2_L1 (fuelN : Nat) : List ByteArray → Nat → (List UInt8) → Option (List UInt8)
  | [], k12, l13 => some (l13)
  | x32 :: q28, k12, l13 => Option.bind (frame_AppendString fuelN l13 x32) (fun y35 => checkpoint_text_3_checkpoint_text_2_L1 fuelN q28 (k12 + 1) y35)

def checkpoint_text_3_checkpoint_text_2 (fuelN : Nat) (a0 : List ByteArray) (a2 : List UInt8) : Option (List UInt8) :=
  Option.bind (checkpoint_text_2 fuelN ((a0.length : Nat) : Int) a2) (fun y1 => Option.bind (checkpoint_text_3_checkpoint_text_2_L1 fuelN a0 0 y1) (fun l21 => some l21))

set_option maxHeartbeats 2000000 in
theorem at_checkpoint_text_3_checkpoint_text_2 {fuelN : Nat} {a0 : List ByteArray} {a2 : List UInt8} {r : (List UInt8)} (hs : checkpoint_text_3_checkpoint_text_2 fuelN a0 a2 = some r) : CAt Tryd.prog 51 [.cell (sC a0), .cell (.ref (.a 0) 0), .cell (.ref (.a 1) 0)] [.cells [.fn 50 [.inl (.a 1)]], .cells [.own (.sp 1 a2.length (encL a2))]] (.ret (.tup [])) [(.a 1, .cells [.own (.sp 1 r.length (encL r))]), (.a 0, .cells [.fn 50 [.inl (.a 1)]])] := by
  refine at_bound (by kernel_rfl) fun hb => ?_
  have hb1 : LenOk (.sl a0.length (encL a0)) := lkc hb
  refine at_code mixed Tryd.func51 (by kernel_rfl) rfl (by kernel_rfl) rfl fun Q hQ => ?_
  rw [checkpoint_text_3_checkpoint_text_2] at hs
  refine goR f0 ?_
  revert hs; refine bK fun y1 hx2 hs => ?_
  refine cB f0 (at_checkpoint_text_2 hx2) [.a 1] ?_
  refine goR f0 ?_
  revert hs; refine bK fun o23 e22 hs => ?_
  refine awp_loopW (fun (v : (List ByteArray) × Nat × (List UInt8)) (σ : St) => checkpoint_text_3_checkpoint_text_2_L1 fuelN v.1 v.2.1 v.2.2 = some o23 ∧ v.1 = a0.drop v.2.1 ∧ σ.env 2 = .cell (.ref (.a 1) 0) ∧ σ.env 10 = .cell (sC a0) ∧ σ.env 11 = iV .i64 ((a0.length : Nat) : Int) ∧ σ.env 12 = iV .i64 ((v.2.1 : Nat) : Int) ∧ σ.hp (.a 1) = some (.cells [.own (.sp 1 v.2.2.length (encL v.2.2))]) ∧ σ.hp (.a 0) = some (.cells [.fn 50 [.inl (.a 1)]]) ∧ 2 ≤ σ.gen) (fun v => v.1.length) _ (Gh.refl _) (a0, 0, y1) ⟨e22, by simp, pv f0, pv f0, pv f0, pv f0, pv f0, pv f0, pg⟩ fun v σ2 hp L24 hL25 => ?_
  obtain ⟨q27, k12, l13⟩ := v
  dsimp only at hp hL25
  obtain ⟨e22, hd26, h1_2, h1_10, h1_11, h1_12, g1_0, g1_1, n1_g⟩ := hp
  rcases q27 with _ | ⟨x32, q28⟩
  · have hlt29 := drop_end hd26
    rw [checkpoint_text_3_checkpoint_text_2_L1] at e22; try dsimp only at e22
    have F1 := an h1_2 (an h1_10 (an h1_11 (an h1_12 (an g1_0 g1_1))))
    refine goR F1 ?_
    refine condK_f (by simp [ltI]; omega) ?_
    obtain rfl := sj e22
    try dsimp only at hs
    obtain rfl := sj hs
    refine hQ _ _ (ret2g _ (Gh.refl _) (by simp [St.frz, St.pur, F1]; rfl) (by first | rfl | (simp [St.frz, St.pur, F1]; done) | (rw [if_pos (by first | omega | (simp; omega))]; simp [St.frz, St.pur, F1]; first | omega | exact List.take_of_length_le (by simp; omega) | skip)) (pv F1))
  · obtain ⟨hx31, hlt29, hd33⟩ := drop_next hd26
    have ew30 := wrap_succ hlt29 (hb1).len
    rw [checkpoint_text_3_checkpoint_text_2_L1] at e22; try dsimp only at e22
    have F2 := an h1_2 (an h1_10 (an h1_11 (an h1_12 (an g1_0 (an g1_1 (an hlt29 ew30))))))
    refine goR F2 ?_
    refine condK_t (by simp [ltI]; omega) ?_
    have f34 : partCV Tryd.prog 9 (encL a0) (k12) = some (sV x32) := partCV_enc1 hx31 (by simp)
    have F3 := an F2 f34
    refine goR F3 ?_
    revert e22; refine bK fun y35 hx36 e22 => ?_
    refine cA F3 (at_frame_AppendString hx36) ?_
    refine goR F3 ?_
    exact hL25 (q28, (k12 + 1), y35) _ _ (Gh.close _ (.a 1) 0) ⟨e22, hd33, pv F3, pv F3, pv F3, pv F3, pv F3, pv F3, pg⟩ (by simp)
end Go.Dc
end
section
set_option linter.all false
namespace Go.Dc
open Go Go.Hw Go.Proofs
set_option maxRecDepth 100000
def checkpoint_text_1_L1 (fuelN : Nat) : List Int → Nat → (List UInt8) → Option (List UInt8)
  | [], k10, l11 => some (l11)
  | x30 :: q26, k10, l11 => Option.bind (frame_AppendInt fuelN l11 x30) (fun y33 => checkpoint_text_1_L1 fuelN q26 (k10 + 1) y33)

def checkpoint_text_1 (fuelN : Nat) (a0 : List Int) (a1 : List UInt8) : Option (List UInt8) :=
  Option.bind (checkpoint_text_1_L1 fuelN a0 0 a1) (fun l19 => some l19)

set_option maxHeartbeats 2000000 in
theorem at_checkpoint_text_1 {fuelN : Nat} {a0 : List Int} {a1 : List UInt8} {r : (List UInt8)} (hs : checkpoint_text_1 fuelN a0 a1 = some r) : CAt Tryd.prog 49 [.cell (sC a0), .cell (.ref (.a 0) 0)] [.cells [.own (.sp 1 a1.length (encL a1))]] (.ret (.tup [])) [(.a 0, .cells [.own (.sp 1 r.length (encL r))])] := by
  refine at_bound (by kernel_rfl) fun hb => ?_
  have hb1 : LenOk (.sl a0.length (encL a0)) := lkc hb
  refine at_code mixed Tryd.func49 (by kernel_rfl) rfl (by kernel_rfl) rfl fun Q hQ => ?_
  rw [checkpoint_text_1] at hs
  refine goR f0 ?_
  revert hs; refine bK fun o21 e20 hs => ?_
  refine awp_loopW (fun (v : (List Int) × Nat × (List UInt8)) (σ : St) => checkpoint_text_1_L1 fuelN v.1 v.2.1 v.2.2 = some o21 ∧ v.1 = a0.drop v.2.1 ∧ σ.env 1 = .cell (.ref (.a 0) 0) ∧ σ.env 5 = .cell (sC a0) ∧ σ.env 6 = iV .i64 ((a0.length : Nat) : Int) ∧ σ.env 7 = iV .i64 ((v.2.1 : Nat) : Int) ∧ σ.hp (.a 0) = some (.cells [.own (.sp 1 v.2.2.length (encL v.2.2))]) ∧ 1 ≤ σ.gen) (fun v => v.1.length) _ (Gh.refl _) (a0, 0, a1) ⟨e20, by simp, pv f0, pv f0, pv f0, pv f0, pv f0, pg⟩ fun v σ2 hp L22 hL23 => ?_
  obtain ⟨q25, k10, l11⟩ := v
  dsimp only at hp hL23
  obtain ⟨e20, hd24, h1_1, h1_5, h1_6, h1_7, g1_0, n1_g⟩ := hp
  rcases q25 with _ | ⟨x30, q26⟩
  · have hlt27 := drop_end hd24
    rw [checkpoint_text_1_L1] at e20; try dsimp only at e20
    have F1 := an h1_1 (an h1_5 (an h1_6 (an h1_7 g1_0)))
    refine goR F1 ?_
    refine condK_f (by simp [ltI]; omega) ?_
    obtain rfl := sj e20
    try dsimp only at hs
    obtain rfl := sj hs
    refine hQ _ _ (ret2g _ (Gh.refl _) (by simp [St.frz, St.pur, F1]; rfl) (by first | rfl | (simp [St.frz, St.pur, F1]; done) | (rw [if_pos (by first | omega | (simp; omega))]; simp [St.frz, St.pur, F1]; first | omega | exact List.take_of_length_le (by simp; omega) | skip)) (pv F1))
  · obtain ⟨hx29, hlt27, hd31⟩ := drop_next hd24
    have ew28 := wrap_succ hlt27 (hb1).len
    rw [checkpoint_text_1_L1] at e20; try dsimp only at e20
    have F2 := an h1_1 (an h1_5 (an h1_6 (an h1_7 (an g1_0 (an hlt27 ew28)))))
    refine goR F2 ?_
    refine condK_t (by simp [ltI]; omega) ?_
    have f32 : partCV Tryd.prog 3 (encL a0) (k10) = some (iV .i64 x30) := partCV_enc1 hx29 (by simp)
    have F3 := an F2 f32
    refine goR F3 ?_
    revert e20; refine bK fun y33 hx34 e20 => ?_
    refine cA F3 (at_frame_AppendInt hx34) ?_
    refine goR F3 ?_
    exact hL23 (q26, (k10 + 1), y33) _ _ (Gh.close _ (.a 0) 0) ⟨e20, hd31, pv F3, pv F3, pv F3, pv F3, pv F3, pg⟩ (by simp)
end Go.Dc
end
section
set_option linter.all false
namespace Go.Dc
open Go Go.Hw Go.Proofs
set_option maxRecDepth 100000
def checkpoint_text_L1 (fuelN : Nat) : List Var → Nat → (List UInt8) → Option (List UInt8)
  | [], k71, l72 => some (l72)
  | x95 :: q91, k71, l72 => Option.bind (frame_AppendString fuelN l72 x95.Name) (fun y98 => Option.bind (some ([x95.Init])) (fun l100 => Option.bind (checkpoint_text_1 fuelN l100 y98) (fun y102 => checkpoint_text_L1 fuelN q91 (k71 + 1) y102)))

def checkpoint_text_L3 (fuelN : Nat) : List Inst → Nat → (List UInt8) → Option (List UInt8)
  | [], k968, l969 => some (l969)
  | x990 :: q986, k968, l969 => Option.bind (some ([x990.Op, x990.A, x990.B, x990.C, x990.Obj, x990.N, x990.Fn, x990.Order])) (fun l993 => Option.bind (checkpoint_text_1 fuelN l993 l969) (fun y995 => checkpoint_text_L3 fuelN q986 (k968 + 1) y995))

def checkpoint_text_L2 (fuelN : Nat) (a0 : Program) : Nat → Int → (List UInt8) → Option (List UInt8)
  | 0, _, _ => none
  | q893 + 1, i776, l777 => cond (ltI i776 ((a0.Funcs.length : Nat) : Int)) (Option.bind (α := (List UInt8)) (Option.bind (getI a0.Funcs i776) (fun x950 => Option.bind (frame_AppendString fuelN l777 x950.Name) (fun y953 => Option.bind (checkpoint_text_2 fuelN ((x950.Code.length : Nat) : Int) y953) (fun y955 => Option.bind (checkpoint_text_L3 fuelN x950.Code 0 y955) (fun l979 => some (l979)))))) (fun l945 => checkpoint_text_L2 fuelN a0 q893 (IntKind.i64.wrap (i776 + 1)) l945)) (some (l777))

def checkpoint_text_L4 (fuelN : Nat) : List Start → Nat → (List UInt8) → Option (List UInt8)
  | [], k1055, l1056 => some (l1056)
  | x1077 :: q1073, k1055, l1056 => Option.bind (some ([x1077.Func, x1077.Arg])) (fun l1080 => Option.bind (checkpoint_text_1 fuelN l1080 l1056) (fun y1082 => checkpoint_text_L4 fuelN q1073 (k1055 + 1) y1082))

def checkpoint_text (fuelN : Nat) (a0 : Program) (a1 : Config) : Option (List UInt8) :=
  Option.bind (some ([a1.Model, a1.Bound])) (fun l1 => Option.bind (checkpoint_text_1 fuelN l1 ([] : List UInt8)) (fun y3 => Option.bind (checkpoint_text_2 fuelN ((a0.Vars.length : Nat) : Int) y3) (fun y5 => Option.bind (α := (List UInt8)) (Option.bind (checkpoint_text_L1 fuelN a0.Vars 0 y5) (fun l84 => some (l84))) (fun l53 => Option.bind (checkpoint_text_3_checkpoint_text_2 fuelN a0.Mutexes l53) (fun y104 => Option.bind (checkpoint_text_3_checkpoint_text_2 fuelN a0.Conds y104) (fun y106 => Option.bind (checkpoint_text_2 fuelN ((a0.Funcs.length : Nat) : Int) y106) (fun y108 => Option.bind (α := (List UInt8)) (Option.bind (checkpoint_text_L2 fuelN a0 fuelN 0 y108) (fun l886 => some (l886))) (fun l551 => Option.bind (checkpoint_text_2 fuelN ((a0.Threads.length : Nat) : Int) l551) (fun y997 => Option.bind (α := (List UInt8)) (Option.bind (checkpoint_text_L4 fuelN a0.Threads 0 y997) (fun l1066 => some (l1066))) (fun l1039 => some l1039))))))))))

set_option maxHeartbeats 2000000 in
theorem at_checkpoint_text {fuelN : Nat} {a0 : Program} {a1 : Config} {r : (List UInt8)} (hs : checkpoint_text fuelN a0 a1 = some r) : CAt Tryd.prog 23 [.agg (eA a0), .agg (eA a1)] [] (.ret (.cell (.sl (.r 0) 0 1 r.length))) [(.r 0, .pure (encL r))] := by
  refine at_bound (by kernel_rfl) fun hb => ?_
  have hb1 : LenOk (.sl a0.Vars.length (encL a0.Vars)) := lkc hb
  have hb2 : LenOk (.sl a0.Mutexes.length (encL a0.Mutexes)) := lkc hb
  have hb3 : LenOk (.sl a0.Conds.length (encL a0.Conds)) := lkc hb
  have hb4 : LenOk (.sl a0.Funcs.length (encL a0.Funcs)) := lkc hb
  have hb5 : LenOk (.sl a0.Threads.length (encL a0.Threads)) := lkc hb
  refine at_code mixed Tryd.func23 (by kernel_rfl) rfl (by kernel_rfl) rfl fun Q hQ => ?_
  rw [checkpoint_text] at hs
  refine goN f0 ?_
  refine awp_reg ?_
  refine goN f0 ?_
  refine awp_reg ?_
  refine goN f0 ?_
  refine awp_reg ?_
  refine goN f0 ?_
  refine awp_reg ?_
  refine goN f0 ?_
  refine awp_reg ?_
  refine goN f0 ?_
  refine awp_gh (by rfl) ((Gh.voidB _ (.l 1) (.o 2 0 0) 0 1 rfl (by simp; rfl) (by first | rfl | simp) (by simp)).trans (Gh.close _ (.o 2 0 0) 0)) ?_
  try simp only [St.frz, St.pur]
  revert hs; refine lK fun l1 hx2 hs => ?_
  have hx2n : l1.length = 2 := by rw [hx2]; rfl
  refine goR hx2 ?_
  revert hs; refine bK fun y3 hx4 hs => ?_
  refine cB hx2 (at_checkpoint_text_1 hx4) [.o 2 0 0] ?_
  refine goR hx2 ?_
  revert hs; refine bK fun y5 hx6 hs => ?_
  refine cB hx2 (at_checkpoint_text_2 hx6) [.o 2 0 0] ?_
  refine goR2 hx2 ?_
  revert hs; refine bK fun o55 e54 hs => ?_
  refine awp_cutK (fun (v : (List UInt8)) (σ : St) => some (v) = some o55 ∧ σ.env 2 = .cell (.ref (.o 1 0 0) 0) ∧ σ.env 5 = .cell (.ref (.o 2 0 0) 0) ∧ σ.env 6 = .cell (.fn 49 [.inl (.o 2 0 0)]) ∧ σ.env 7 = .cell (.ref (.o 4 1 0) 0) ∧ σ.env 8 = .cell (.fn 51 [.inl (.o 4 1 0), .inl (.o 2 0 0)]) ∧ σ.hp (.o 1 0 0) = some (.cells (eA a0)) ∧ σ.hp (.o 2 0 0) = some (.cells [.own (.sp 1 v.length (encL v))]) ∧ σ.hp (.o 4 1 0) = some (.cells [.fn 50 [.inl (.o 2 0 0)]]) ∧ 8 ≤ σ.gen) (by rfl) (fun Q hK56 hX57 => ?_) (fun l53 σ3 hp => ?_)
  · refine goR hx2 ?_
    revert e54; refine bK fun o86 e85 e54 => ?_
    refine awp_loopW (fun (v : (List Var) × Nat × (List UInt8)) (σ : St) => checkpoint_text_L1 fuelN v.1 v.2.1 v.2.2 = some o86 ∧ v.1 = a0.Vars.drop v.2.1 ∧ σ.env 2 = .cell (.ref (.o 1 0 0) 0) ∧ σ.env 5 = .cell (.ref (.o 2 0 0) 0) ∧ σ.env 6 = .cell (.fn 49 [.inl (.o 2 0 0)]) ∧ σ.env 7 = .cell (.ref (.o 4 1 0) 0) ∧ σ.env 8 = .cell (.fn 51 [.inl (.o 4 1 0), .inl (.o 2 0 0)]) ∧ σ.env 33 = .cell (sC a0.Vars) ∧ σ.env 34 = iV .i64 ((a0.Vars.length : Nat) : Int) ∧ σ.env 35 = iV .i64 ((v.2.1 : Nat) : Int) ∧ σ.hp (.o 1 0 0) = some (.cells (eA a0)) ∧ σ.hp (.o 2 0 0) = some (.cells [.own (.sp 1 v.2.2.length (encL v.2.2))]) ∧ σ.hp (.o 4 1 0) = some (.cells [.fn 50 [.inl (.o 2 0 0)]]) ∧ 8 ≤ σ.gen) (fun v => v.1.length) _ (Gh.refl _) (a0.Vars, 0, y5) ⟨e85, by simp, pv hx2, pv hx2, pv hx2, pv hx2, pv hx2, pv hx2, pv hx2, pv hx2, pv hx2, pv hx2, pv hx2, pg⟩ fun v σ6 hp L87 hL88 => ?_
    obtain ⟨q90, k71, l72⟩ := v
    dsimp only at hp hL88
    obtain ⟨e85, hd89, h5_2, h5_5, h5_6, h5_7, h5_8, h5_33, h5_34, h5_35, g5_0, g5_1, g5_2, n5_g⟩ := hp
    have n5_0 : ¬ (σ6.gen = 0) := by omega
    have n5_1 : ¬ (σ6.gen = 1) := by omega
    have n5_2 : ¬ (σ6.gen = 2) := by omega
    have n5_3 : ¬ (σ6.gen = 3) := by omega
    rcases q90 with _ | ⟨x95, q91⟩
    · have hlt92 := drop_end hd89
      rw [checkpoint_text_L1] at e85; try dsimp only at e85
      have F1 := an h5_2 (an h5_5 (an h5_6 (an h5_7 (an h5_8 (an h5_33 (an h5_34 (an h5_35 (an g5_0 (an g5_1 (an g5_2 (an n5_0 (an n5_1 (an n5_2 n5_3)))))))))))))
      refine goR F1 ?_
      refine condK_f (by simp [ltI]; omega) ?_
      obtain rfl := sj e85
      try dsimp only at e54
      exact hK56 l72 _ _ (Gh.refl _) ⟨e54, pv F1, pv F1, pv F1, pv F1, pv F1, pv F1, pv F1, pv F1, pg⟩
    · obtain ⟨hx94, hlt92, hd96⟩ := drop_next hd89
      have ew93 := wrap_succ hlt92 (hb1).len
      rw [checkpoint_text_L1] at e85; try dsimp only at e85
      have F2 := an h5_2 (an h5_5 (an h5_6 (an h5_7 (an h5_8 (an h5_33 (an h5_34 (an h5_35 (an g5_0 (an g5_1 (an g5_2 (an n5_0 (an n5_1 (an n5_2 (an n5_3 (an hlt92 ew93)))))))))))))))
      refine goR F2 ?_
      refine condK_t (by simp [ltI]; omega) ?_
      have f97 : partCV Tryd.prog 66 (encL a0.Vars) (k71 * 2) = some (.agg (eA x95)) := partCV_enc hx94 (f := 0) (by simp)
      have F3 := an F2 f97
      refine goR F3 ?_
      revert e85; refine bK fun y98 hx99 e85 => ?_
      refine cA F3 (at_frame_AppendString hx99) ?_
      refine goN F3 ?_
      refine awp_gh (by rfl) (Gh.close _ (.o 2 0 0) 0) ?_
      try simp only [St.frz, St.pur]
      revert e85; refine lK fun l100 hx101 e85 => ?_
      have hx101n : l100.length = 1 := by rw [hx101]; rfl
      have F4 := an F3 hx101
      refine goR F4 ?_
      revert e85; refine bK fun y102 hx103 e85 => ?_
      refine cB F4 (at_checkpoint_text_1 hx103) [.o 2 0 0] ?_
      refine goR F4 ?_
      exact hL88 (q91, (k71 + 1), y102) _ _ (Gh.refl _) ⟨e85, hd96, pv F4, pv F4, pv F4, pv F4, pv F4, pv F4, pv F4, pv F4, pv F4, pv F4, pv F4, pg⟩ (by simp)
  · obtain ⟨e54, h4_2, h4_5, h4_6, h4_7, h4_8, g4_0, g4_1, g4_2, n4_g⟩ := hp
    obtain rfl := sj e54
    try dsimp only at hs
    have n4_0 : ¬ (σ3.gen = 0) := by omega
    have n4_1 : ¬ (σ3.gen = 1) := by omega
    have n4_2 : ¬ (σ3.gen = 2) := by omega
    have n4_3 : ¬ (σ3.gen = 3) := by omega
    have F5 := an h4_2 (an h4_5 (an h4_6 (an h4_7 (an h4_8 (an g4_0 (an g4_1 (an g4_2 (an n4_0 (an n4_1 (an n4_2 n4_3))))))))))
    refine goR F5 ?_
    revert hs; refine bK fun y104 hx105 hs => ?_
    refine cB F5 (at_checkpoint_text_3_checkpoint_text_2 hx105) [.o 4 1 0, .o 2 0 0] ?_
    refine goR F5 ?_
    revert hs; refine bK fun y106 hx107 hs => ?_
    refine cB F5 (at_checkpoint_text_3_checkpoint_text_2 hx107) [.o 4 1 0, .o 2 0 0] ?_
    refine goR F5 ?_
    revert hs; refine bK fun y108 hx109 hs => ?_
    refine cB F5 (at_checkpoint_text_2 hx109) [.o 2 0 0] ?_
    refine goR2 F5 ?_
    revert hs; refine bK fun o553 e552 hs => ?_
    refine awp_cutK (fun (v : (List UInt8)) (σ : St) => some (v) = some o553 ∧ σ.env 2 = .cell (.ref (.o 1 0 0) 0) ∧ σ.env 5 = .cell (.ref (.o 2 0 0) 0) ∧ σ.env 6 = .cell (.fn 49 [.inl (.o 2 0 0)]) ∧ σ.env 7 = .cell (.ref (.o 4 1 0) 0) ∧ σ.hp (.o 1 0 0) = some (.cells (eA a0)) ∧ σ.hp (.o 2 0 0) = some (.cells [.own (.sp 1 v.length (encL v))]) ∧ σ.hp (.o 4 1 0) = some (.cells [.fn 50 [.inl (.o 2 0 0)]]) ∧ (σ3.gen + 4) ≤ σ.gen) (by rfl) (fun Q hK554 hX555 => ?_) (fun l551 σ33 hp => ?_)
    · refine goR F5 ?_
      revert e552; refine bK fun o888 e887 e552 => ?_
      refine awp_loopW (fun (v : Nat × Int × (List UInt8)) (σ : St) => checkpoint_text_L2 fuelN a0 v.1 v.2.1 v.2.2 = some o888 ∧ σ.env 2 = .cell (.ref (.o 1 0 0) 0) ∧ σ.env 5 = .cell (.ref (.o 2 0 0) 0) ∧ σ.env 6 = .cell (.fn 49 [.inl (.o 2 0 0)]) ∧ σ.env 7 = .cell (.ref (.o 4 1 0) 0) ∧ σ.env 63 = .cell (sC a0.Funcs) ∧ σ.env 64 = iV .i64 ((a0.Funcs.length : Nat) : Int) ∧ σ.env 65 = iV .i64 v.2.1 ∧ σ.hp (.o 1 0 0) = some (.cells (eA a0)) ∧ σ.hp (.o 2 0 0) = some (.cells [.own (.sp 1 v.2.2.length (encL v.2.2))]) ∧ σ.hp (.o 4 1 0) = some (.cells [.fn 50 [.inl (.o 2 0 0)]]) ∧ (σ3.gen + 4) ≤ σ.gen) (fun v => v.1) _ (Gh.refl _) (fuelN, 0, y108) ⟨e887, pv F5, pv F5, pv F5, pv F5, pv F5, pv F5, pv F5, pv F5, pv F5, pv F5, pg⟩ fun v σ54 hp L889 hL890 => ?_
      obtain ⟨q892, i776, l777⟩ := v
      dsimp only at hp hL890
      obtain ⟨e887, h53_2, h53_5, h53_6, h53_7, h53_63, h53_64, h53_65, g53_0, g53_1, g53_2, n53_g⟩ := hp
      have n53_0 : ¬ (σ54.gen = 0) := by omega
      have n53_1 : ¬ (σ54.gen = 1) := by omega
      have n53_2 : ¬ (σ54.gen = 2) := by omega
      have n53_3 : ¬ (σ54.gen = 3) := by omega
      rcases q892 with _ | q893
      · rw [checkpoint_text_L2] at e887; cases e887
      · rw [checkpoint_text_L2] at e887; try dsimp only at e887
        have F6 := an h53_2 (an h53_5 (an h53_6 (an h53_7 (an h53_63 (an h53_64 (an h53_65 (an g53_0 (an g53_1 (an g53_2 (an n53_0 (an n53_1 (an n53_2 n53_3))))))))))))
        refine goR F6 ?_
        revert e887; refine cS F6 ?_ ?_ <;> intro h897 e887
        · refine goR2 F6 ?_
          revert e887; refine bK fun o947 e946 e887 => ?_
          refine awp_cutK (fun (v : (List UInt8)) (σ : St) => some (v) = some o947 ∧ σ.env 2 = .cell (.ref (.o 1 0 0) 0) ∧ σ.env 5 = .cell (.ref (.o 2 0 0) 0) ∧ σ.env 6 = .cell (.fn 49 [.inl (.o 2 0 0)]) ∧ σ.env 7 = .cell (.ref (.o 4 1 0) 0) ∧ σ.env 63 = .cell (sC a0.Funcs) ∧ σ.env 64 = iV .i64 ((a0.Funcs.length : Nat) : Int) ∧ σ.env 65 = iV .i64 i776 ∧ σ.hp (.o 1 0 0) = some (.cells (eA a0)) ∧ σ.hp (.o 2 0 0) = some (.cells [.own (.sp 1 v.length (encL v))]) ∧ σ.hp (.o 4 1 0) = some (.cells [.fn 50 [.inl (.o 2 0 0)]]) ∧ (σ54.gen + 1) ≤ σ.gen) (by rfl) (fun Q hK948 hX949 => ?_) (fun l945 σ57 hp => ?_)
          · revert e946; refine bK fun x950 hx951 e946 => ?_
            obtain ⟨hx951a, hx951b, hx951c, hx951d⟩ := getI_some hx951
            have f952 : partCV Tryd.prog 56 (encL a0.Funcs) (((i776).toNat) * 2) = some (.agg (eA x950)) := partCV_enc hx951d (f := 0) (by simp)
            have F7 := an F6 f952
            refine goR F7 ?_
            revert e946; refine bK fun y953 hx954 e946 => ?_
            refine cA F7 (at_frame_AppendString hx954) ?_
            refine goN F7 ?_
            refine awp_gh (by rfl) (Gh.close _ (.o 2 0 0) 0) ?_
            try simp only [St.frz, St.pur]
            refine goR F7 ?_
            revert e946; refine bK fun y955 hx956 e946 => ?_
            refine cB F7 (at_checkpoint_text_2 hx956) [.o 2 0 0] ?_
            refine goR F7 ?_
            revert e946; refine bK fun o981 e980 e946 => ?_
            refine awp_loopW (fun (v : (List Inst) × Nat × (List UInt8)) (σ : St) => checkpoint_text_L3 fuelN v.1 v.2.1 v.2.2 = some o981 ∧ v.1 = x950.Code.drop v.2.1 ∧ σ.env 2 = .cell (.ref (.o 1 0 0) 0) ∧ σ.env 5 = .cell (.ref (.o 2 0 0) 0) ∧ σ.env 6 = .cell (.fn 49 [.inl (.o 2 0 0)]) ∧ σ.env 7 = .cell (.ref (.o 4 1 0) 0) ∧ σ.env 63 = .cell (sC a0.Funcs) ∧ σ.env 64 = iV .i64 ((a0.Funcs.length : Nat) : Int) ∧ σ.env 65 = iV .i64 i776 ∧ σ.env 79 = .cell (sC x950.Code) ∧ σ.env 80 = iV .i64 ((x950.Code.length : Nat) : Int) ∧ σ.env 81 = iV .i64 ((v.2.1 : Nat) : Int) ∧ σ.hp (.o 1 0 0) = some (.cells (eA a0)) ∧ σ.hp (.o 2 0 0) = some (.cells [.own (.sp 1 v.2.2.length (encL v.2.2))]) ∧ σ.hp (.o 4 1 0) = some (.cells [.fn 50 [.inl (.o 2 0 0)]]) ∧ (σ54.gen + 5) ≤ σ.gen) (fun v => v.1.length) _ (Gh.refl _) (x950.Code, 0, y955) ⟨e980, by simp, pv F7, pv F7, pv F7, pv F7, pv F7, pv F7, pv F7, pv F7, pv F7, pv F7, pv F7, pv F7, pv F7, pg⟩ fun v σ60 hp L982 hL983 => ?_
            obtain ⟨q985, k968, l969⟩ := v
            dsimp only at hp hL983
            obtain ⟨e980, hd984, h59_2, h59_5, h59_6, h59_7, h59_63, h59_64, h59_65, h59_79, h59_80, h59_81, g59_0, g59_1, g59_2, n59_g⟩ := hp
            have n59_0 : ¬ (σ60.gen = 0) := by omega
            have n59_1 : ¬ (σ60.gen = 1) := by omega
            have n59_2 : ¬ (σ60.gen = 2) := by omega
            have n59_3 : ¬ (σ60.gen = 3) := by omega
            rcases q985 with _ | ⟨x990, q986⟩
            · have hlt987 := drop_end hd984
              rw [checkpoint_text_L3] at e980; try dsimp only at e980
              have F8 := an h59_2 (an h59_5 (an h59_6 (an h59_7 (an h59_63 (an h59_64 (an h59_65 (an h59_79 (an h59_80 (an h59_81 (an g59_0 (an g59_1 (an g59_2 (an n59_0 (an n59_1 (an n59_2 (an n59_3 f952))))))))))))))))
              refine goR F8 ?_
              refine condK_f (by simp [ltI]; omega) ?_
              obtain rfl := sj e980
              try dsimp only at e946
              exact hK948 l969 _ _ (Gh.refl _) ⟨e946, pv F8, pv F8, pv F8, pv F8, pv F8, pv F8, pv F8, pv F8, pv F8, pv F8, pg⟩
            · obtain ⟨hx989, hlt987, hd991⟩ := drop_next hd984
              have ew988 := wrap_succ hlt987 ((LenOk.elem hb4 hx951d (c := .sl x950.Code.length (encL x950.Code)) (by simp))).len
              rw [checkpoint_text_L3] at e980; try dsimp only at e980
              have F9 := an h59_2 (an h59_5 (an h59_6 (an h59_7 (an h59_63 (an h59_64 (an h59_65 (an h59_79 (an h59_80 (an h59_81 (an g59_0 (an g59_1 (an g59_2 (an n59_0 (an n59_1 (an n59_2 (an n59_3 (an f952 (an hlt987 ew988))))))))))))))))))
              refine goR F9 ?_
              refine condK_t (by simp [ltI]; omega) ?_
              have f992 : partCV Tryd.prog 72 (encL x950.Code) (k968 * 8) = some (.agg (eA x990)) := partCV_enc hx989 (f := 0) (by simp)
              revert e980; refine lK fun l993 hx994 e980 => ?_
              have hx994n : l993.length = 8 := by rw [hx994]; rfl
              have F10 := an F9 (an f992 hx994)
              refine goR F10 ?_
              revert e980; refine bK fun y995 hx996 e980 => ?_
              refine cB F10 (at_checkpoint_text_1 hx996) [.o 2 0 0] ?_
              refine goR F10 ?_
              exact hL983 (q986, (k968 + 1), y995) _ _ (Gh.refl _) ⟨e980, hd991, pv F10, pv F10, pv F10, pv F10, pv F10, pv F10, pv F10, pv F10, pv F10, pv F10, pv F10, pv F10, pv F10, pg⟩ (by simp)
          · obtain ⟨e946, h58_2, h58_5, h58_6, h58_7, h58_63, h58_64, h58_65, g58_0, g58_1, g58_2, n58_g⟩ := hp
            obtain rfl := sj e946
            try dsimp only at e887
            have n58_0 : ¬ (σ57.gen = 0) := by omega
            have n58_1 : ¬ (σ57.gen = 1) := by omega
            have n58_2 : ¬ (σ57.gen = 2) := by omega
            have n58_3 : ¬ (σ57.gen = 3) := by omega
            have F11 := an h58_2 (an h58_5 (an h58_6 (an h58_7 (an h58_63 (an h58_64 (an h58_65 (an g58_0 (an g58_1 (an g58_2 (an n58_0 (an n58_1 (an n58_2 n58_3))))))))))))
            refine goR F11 ?_
            exact hL890 (q893, IntKind.i64.wrap (i776 + 1), l945) _ _ (Gh.refl _) ⟨e887, pv F11, pv F11, pv F11, pv F11, pv F11, pv F11, pv F11, pv F11, pv F11, pv F11, pg⟩ (by omega)
        · refine goR F6 ?_
          obtain rfl := sj e887
          try dsimp only at e552
          exact hK554 l777 _ _ (Gh.refl _) ⟨e552, pv F6, pv F6, pv F6, pv F6, pv F6, pv F6, pv F6, pg⟩
    · obtain ⟨e552, h34_2, h34_5, h34_6, h34_7, g34_0, g34_1, g34_2, n34_g⟩ := hp
      obtain rfl := sj e552
      try dsimp only at hs
      have n34_0 : ¬ (σ33.gen = 0) := by omega
      have n34_1 : ¬ (σ33.gen = 1) := by omega
      have n34_2 : ¬ (σ33.gen = 2) := by omega
      have n34_3 : ¬ (σ33.gen = 3) := by omega
      have F12 := an h34_2 (an h34_5 (an h34_6 (an h34_7 (an g34_0 (an g34_1 (an g34_2 (an n34_0 (an n34_1 (an n34_2 n34_3)))))))))
      refine goR F12 ?_
      revert hs; refine bK fun y997 hx998 hs => ?_
      refine cB F12 (at_checkpoint_text_2 hx998) [.o 2 0 0] ?_
      refine goR2 F12 ?_
      revert hs; refine bK fun o1041 e1040 hs => ?_
      refine awp_cutK (fun (v : (List UInt8)) (σ : St) => some (v) = some o1041 ∧ σ.env 5 = .cell (.ref (.o 2 0 0) 0) ∧ σ.hp (.o 2 0 0) = some (.cells [.own (.sp 1 v.length (encL v))]) ∧ (σ33.gen + 2) ≤ σ.gen) (by rfl) (fun Q hK1042 hX1043 => ?_) (fun l1039 σ63 hp => ?_)
      · refine goR F12 ?_
        revert e1040; refine bK fun o1068 e1067 e1040 => ?_
        refine awp_loopW (fun (v : (List Start) × Nat × (List UInt8)) (σ : St) => checkpoint_text_L4 fuelN v.1 v.2.1 v.2.2 = some o1068 ∧ v.1 = a0.Threads.drop v.2.1 ∧ σ.env 5 = .cell (.ref (.o 2 0 0) 0) ∧ σ.env 6 = .cell (.fn 49 [.inl (.o 2 0 0)]) ∧ σ.env 112 = .cell (sC a0.Threads) ∧ σ.env 113 = iV .i64 ((a0.Threads.length : Nat) : Int) ∧ σ.env 114 = iV .i64 ((v.2.1 : Nat) : Int) ∧ σ.hp (.o 2 0 0) = some (.cells [.own (.sp 1 v.2.2.length (encL v.2.2))]) ∧ (σ33.gen + 2) ≤ σ.gen) (fun v => v.1.length) _ (Gh.refl _) (a0.Threads, 0, y997) ⟨e1067, by simp, pv F12, pv F12, pv F12, pv F12, pv F12, pv F12, pg⟩ fun v σ66 hp L1069 hL1070 => ?_
        obtain ⟨q1072, k1055, l1056⟩ := v
        dsimp only at hp hL1070
        obtain ⟨e1067, hd1071, h65_5, h65_6, h65_112, h65_113, h65_114, g65_0, n65_g⟩ := hp
        have n65_0 : ¬ (σ66.gen = 0) := by omega
        have n65_1 : ¬ (σ66.gen = 1) := by omega
        rcases q1072 with _ | ⟨x1077, q1073⟩
        · have hlt1074 := drop_end hd1071
          rw [checkpoint_text_L4] at e1067; try dsimp only at e1067
          have F13 := an h65_5 (an h65_6 (an h65_112 (an h65_113 (an h65_114 (an g65_0 (an n65_0 n65_1))))))
          refine goR F13 ?_
          refine condK_f (by simp [ltI]; omega) ?_
          obtain rfl := sj e1067
          try dsimp only at e1040
          exact hK1042 l1056 _ _ (Gh.refl _) ⟨e1040, pv F13, pv F13, pg⟩
        · obtain ⟨hx1076, hlt1074, hd1078⟩ := drop_next hd1071
          have ew1075 := wrap_succ hlt1074 (hb5).len
          rw [checkpoint_text_L4] at e1067; try dsimp only at e1067
          have F14 := an h65_5 (an h65_6 (an h65_112 (an h65_113 (an h65_114 (an g65_0 (an n65_0 (an n65_1 (an hlt1074 ew1075))))))))
          refine goR F14 ?_
          refine condK_t (by simp [ltI]; omega) ?_
          have f1079 : partCV Tryd.prog 74 (encL a0.Threads) (k1055 * 2) = some (.agg (eA x1077)) := partCV_enc hx1076 (f := 0) (by simp)
          revert e1067; refine lK fun l1080 hx1081 e1067 => ?_
          have hx1081n : l1080.length = 2 := by rw [hx1081]; rfl
          have F15 := an F14 (an f1079 hx1081)
          refine goR F15 ?_
          revert e1067; refine bK fun y1082 hx1083 e1067 => ?_
          refine cB F15 (at_checkpoint_text_1 hx1083) [.o 2 0 0] ?_
          refine goR F15 ?_
          exact hL1070 (q1073, (k1055 + 1), y1082) _ _ (Gh.refl _) ⟨e1067, hd1078, pv F15, pv F15, pv F15, pv F15, pv F15, pv F15, pg⟩ (by simp)
      · obtain ⟨e1040, h64_5, g64_0, n64_g⟩ := hp
        obtain rfl := sj e1040
        try dsimp only at hs
        have n64_0 : ¬ (σ63.gen = 0) := by omega
        have n64_1 : ¬ (σ63.gen = 1) := by omega
        have F16 := an h64_5 (an g64_0 (an n64_0 n64_1))
        refine goR F16 ?_
        obtain rfl := sj hs
        refine hQ _ _ (ret2g _ (Gh.ren _ (.o (σ63.gen + 1) 0 0) (.r 0) (by simp) rfl rfl) (by simp [St.frz, St.pur, F16]; rfl) (by first | rfl | (simp [St.frz, St.pur, F16]; done) | (rw [if_pos (by first | omega | (simp; omega))]; simp [St.frz, St.pur, F16]; first | omega | exact List.take_of_length_le (by simp; omega) | skip)) (pv F16))
end Go.Dc
end
section
set_option linter.all false
namespace Go.Dc
open Go Go.Hw Go.Proofs
set_option maxRecDepth 100000

def checkpoint_Digest (fuelN : Nat) (a0 : Program) (a1 : Config) : Option (Int × Int) :=
  Option.bind (checkpoint_standard fuelN a0 a1) (fun y1 => cond (!(eqI y1 0)) (some (0, y1)) (Option.bind (checkpoint_text fuelN a0 a1) (fun y4 => Option.bind (frame_Checksum fuelN y4) (fun y6 => some (IntKind.i64.wrap y6, 0)))))

set_option maxHeartbeats 2000000 in
theorem at_checkpoint_Digest {fuelN : Nat} {a0 : Program} {a1 : Config} {r : Int × Int} (hs : checkpoint_Digest fuelN a0 a1 = some r) : At Tryd.prog 8 [.agg (eA a0), .agg (eA a1)] (.tup [iV .i64 r.1, iV .i64 r.2]) := by
  refine at_bound (by kernel_rfl) fun hb => ?_
  have hb1 : LenOk (.sl a0.Vars.length (encL a0.Vars)) := lkc hb
  have hb2 : LenOk (.sl a0.Mutexes.length (encL a0.Mutexes)) := lkc hb
  have hb3 : LenOk (.sl a0.Conds.length (encL a0.Conds)) := lkc hb
  have hb4 : LenOk (.sl a0.Funcs.length (encL a0.Funcs)) := lkc hb
  have hb5 : LenOk (.sl a0.Threads.length (encL a0.Threads)) := lkc hb
  refine at_code mixed Tryd.func8 (by kernel_rfl) rfl (by kernel_rfl) rfl fun Q hQ => ?_
  rw [checkpoint_Digest] at hs
  refine goR f0 ?_
  revert hs; refine bK fun y1 hx2 hs => ?_
  refine cP f0 (at_checkpoint_standard hx2) ?_
  refine goR f0 ?_
  revert hs; refine cS f0 ?_ ?_ <;> intro h3 hs
  · refine goR f0 ?_
    obtain rfl := sj hs
    exact hQ _ _ (rg f0 (Gh.refl _))
  · refine goR f0 ?_
    revert hs; refine bK fun y4 hx5 hs => ?_
    refine cA f0 (at_checkpoint_text hx5) ?_
    refine goR f0 ?_
    revert hs; refine bK fun y6 hx7 hs => ?_
    refine cA f0 (at_frame_Checksum hx7) ?_
    refine goR f0 ?_
    obtain rfl := sj hs
    exact hQ _ _ (rg f0 (Gh.refl _))
end Go.Dc
end
section
set_option linter.all false
namespace Go.Dc
open Go Go.Hw Go.Proofs
set_option maxRecDepth 100000

def r08_CheckConfig (a0 : Config) : Option Int :=
  cond (andB (andB (!(eqI a0.Model 1)) (!(eqI a0.Model 2))) (!(eqI a0.Model 3))) (some 18) (cond (orB (ltI a0.Bound 1) (ltI 32 a0.Bound)) (some 2) (some 0))

set_option maxHeartbeats 2000000 in
theorem at_r08_CheckConfig {a0 : Config} {r : Int} (hs : r08_CheckConfig a0 = some r) : At Tryd.prog 42 [.agg (eA a0)] (iV .i64 r) := by
  refine at_bound (by kernel_rfl) fun hb => ?_
  refine at_code mixed Tryd.func42 (by kernel_rfl) rfl (by kernel_rfl) rfl fun Q hQ => ?_
  rw [r08_CheckConfig] at hs
  refine goG f0 f0 ?_
  revert hs; refine cS f0 ?_ ?_ <;> intro h1 hs
  · refine goG f0 f0 ?_
    obtain rfl := sj hs
    exact hQ _ _ (rg f0 (Gh.refl _))
  · refine goG f0 f0 ?_
    revert hs; refine cS f0 ?_ ?_ <;> intro h2 hs
    · refine goG f0 f0 ?_
      obtain rfl := sj hs
      exact hQ _ _ (rg f0 (Gh.refl _))
    · refine goG f0 f0 ?_
      obtain rfl := sj hs
      exact hQ _ _ (rg f0 (Gh.refl _))
end Go.Dc
end
section
set_option linter.all false
namespace Go.Dc
open Go Go.Hw Go.Proofs
set_option maxRecDepth 100000

def r49_standard (fuelN : Nat) (a0 : Program) (a1 : Config) : Option Int :=
  Option.bind (r08_Check fuelN a0) (fun y1 => cond (!(eqI y1.1 0)) (some y1.1) (Option.bind (r08_CheckConfig a1) (fun y4 => cond (!(eqI y4 0)) (some y4) (cond (eqI a1.Model 3) (some 18) (some 0)))))

set_option maxHeartbeats 2000000 in
theorem at_r49_standard {fuelN : Nat} {a0 : Program} {a1 : Config} {r : Int} (hs : r49_standard fuelN a0 a1 = some r) : At Tryd.prog 24 [.agg (eA a0), .agg (eA a1)] (iV .i64 r) := by
  refine at_bound (by kernel_rfl) fun hb => ?_
  have hb1 : LenOk (.sl a0.Vars.length (encL a0.Vars)) := lkc hb
  have hb2 : LenOk (.sl a0.Mutexes.length (encL a0.Mutexes)) := lkc hb
  have hb3 : LenOk (.sl a0.Conds.length (encL a0.Conds)) := lkc hb
  have hb4 : LenOk (.sl a0.Funcs.length (encL a0.Funcs)) := lkc hb
  have hb5 : LenOk (.sl a0.Threads.length (encL a0.Threads)) := lkc hb
  refine at_code mixed Tryd.func24 (by kernel_rfl) rfl (by kernel_rfl) rfl fun Q hQ => ?_
  rw [r49_standard] at hs
  refine goR f0 ?_
  revert hs; refine bK fun y1 hx2 hs => ?_
  refine cP f0 (at_r08_Check hx2) ?_
  refine goR f0 ?_
  revert hs; refine cS f0 ?_ ?_ <;> intro h3 hs
  · refine goR f0 ?_
    obtain rfl := sj hs
    exact hQ _ _ (rg f0 (Gh.refl _))
  · refine goR f0 ?_
    revert hs; refine bK fun y4 hx5 hs => ?_
    refine cP f0 (at_r08_CheckConfig hx5) ?_
    refine goR f0 ?_
    revert hs; refine cS f0 ?_ ?_ <;> intro h6 hs
    · refine goR f0 ?_
      obtain rfl := sj hs
      exact hQ _ _ (rg f0 (Gh.refl _))
    · refine goR f0 ?_
      revert hs; refine cS f0 ?_ ?_ <;> intro h7 hs
      · refine goR f0 ?_
        obtain rfl := sj hs
        exact hQ _ _ (rg f0 (Gh.refl _))
      · refine goR f0 ?_
        obtain rfl := sj hs
        exact hQ _ _ (rg f0 (Gh.refl _))
end Go.Dc
end
section
set_option linter.all false
namespace Go.Dc
open Go Go.Hw Go.Proofs
set_option maxRecDepth 100000
def r49_numbers_L1 (fuelN : Nat) : List Int → (List UInt8) → Nat → Option (List UInt8)
  | [], l49, k50 => some (l49)
  | x69 :: q65, l49, k50 => Option.bind (r06_AppendInt fuelN l49 x69) (fun y72 => r49_numbers_L1 fuelN q65 y72 (k50 + 1))

def r49_numbers (fuelN : Nat) (a0 : List UInt8) (a1 : List Int) : Option (List UInt8) :=
  Option.bind (α := (List UInt8)) (Option.bind (r49_numbers_L1 fuelN a1 a0 0) (fun l58 => some (l58))) (fun l35 => some l35)

set_option maxHeartbeats 2000000 in
theorem at_r49_numbers {fuelN : Nat} {a0 : List UInt8} {a1 : List Int} {r : (List UInt8)} (hs : r49_numbers fuelN a0 a1 = some r) : At Tryd.prog 25 [.cell (sC a0), .cell (sC a1)] (.cell (sC r)) := by
  refine at_bound (by kernel_rfl) fun hb => ?_
  have hb1 : LenOk (.sl a0.length (encL a0)) := lkc hb
  have hb2 : LenOk (.sl a1.length (encL a1)) := lkc hb
  refine at_code mixed Tryd.func25 (by kernel_rfl) rfl (by kernel_rfl) rfl fun Q hQ => ?_
  rw [r49_numbers] at hs
  refine goR2 f0 ?_
  revert hs; refine bK fun o37 e36 hs => ?_
  refine awp_cutK (fun (v : (List UInt8)) (σ : St) => some (v) = some o37 ∧ σ.env 0 = .cell (sC v) ∧ 2 ≤ σ.gen) (by rfl) (fun Q hK38 hX39 => ?_) (fun l35 σ3 hp => ?_)
  · refine goR f0 ?_
    revert e36; refine bK fun o60 e59 e36 => ?_
    refine awp_loopW (fun (v : (List Int) × (List UInt8) × Nat) (σ : St) => r49_numbers_L1 fuelN v.1 v.2.1 v.2.2 = some o60 ∧ v.1 = a1.drop v.2.2 ∧ σ.env 0 = .cell (sC v.2.1) ∧ σ.env 1 = .cell (sC a1) ∧ σ.env 5 = iV .i64 ((v.2.2 : Nat) : Int) ∧ 2 ≤ σ.gen) (fun v => v.1.length) _ (Gh.refl _) (a1, a0, 0) ⟨e59, by simp, pv f0, pv f0, pv f0, pg⟩ fun v σ6 hp L61 hL62 => ?_
    obtain ⟨q64, l49, k50⟩ := v
    dsimp only at hp hL62
    obtain ⟨e59, hd63, h5_0, h5_1, h5_5, n5_g⟩ := hp
    rcases q64 with _ | ⟨x69, q65⟩
    · have hlt66 := drop_end hd63
      rw [r49_numbers_L1] at e59; try dsimp only at e59
      have F1 := an h5_0 (an h5_1 h5_5)
      refine goR F1 ?_
      refine condK_f (by simp [ltI]; omega) ?_
      obtain rfl := sj e59
      try dsimp only at e36
      exact hK38 l49 _ _ (Gh.refl _) ⟨e36, pv F1, pg⟩
    · obtain ⟨hx68, hlt66, hd70⟩ := drop_next hd63
      have ew67 := wrap_succ hlt66 (hb2).len
      rw [r49_numbers_L1] at e59; try dsimp only at e59
      have F2 := an h5_0 (an h5_1 (an h5_5 (an hlt66 ew67)))
      refine goR F2 ?_
      refine condK_t (by simp [ltI]; omega) ?_
      have f71 : partCV Tryd.prog 3 (encL a1) (k50) = some (iV .i64 x69) := partCV_enc1 hx68 (by simp)
      have F3 := an F2 f71
      refine goR F3 ?_
      revert e59; refine bK fun y72 hx73 e59 => ?_
      refine cA F3 (at_r06_AppendInt hx73) ?_
      refine goR F3 ?_
      exact hL62 (q65, y72, (k50 + 1)) _ _ (Gh.frz _ (.o (σ6.gen + 2) 5 0)) ⟨e59, hd70, pv F3, pv F3, pv F3, pg⟩ (by simp)
  · obtain ⟨e36, h4_0, n4_g⟩ := hp
    obtain rfl := sj e36
    try dsimp only at hs
    refine goR h4_0 ?_
    obtain rfl := sj hs
    exact hQ _ _ (rg h4_0 (Gh.refl _))
end Go.Dc
end
section
set_option linter.all false
namespace Go.Dc
open Go Go.Hw Go.Proofs
set_option maxRecDepth 100000
def r49_names_L1 (fuelN : Nat) : List ByteArray → (List UInt8) → Nat → Option (List UInt8)
  | [], l51, k52 => some (l51)
  | x71 :: q67, l51, k52 => Option.bind (r06_AppendString fuelN l51 x71) (fun y74 => r49_names_L1 fuelN q67 y74 (k52 + 1))

def r49_names (fuelN : Nat) (a0 : List UInt8) (a1 : List ByteArray) : Option (List UInt8) :=
  Option.bind (r06_AppendUint fuelN a0 ((a1.length : Nat) : Int)) (fun y1 => Option.bind (α := (List UInt8)) (Option.bind (r49_names_L1 fuelN a1 y1 0) (fun l60 => some (l60))) (fun l37 => some l37))

set_option maxHeartbeats 2000000 in
theorem at_r49_names {fuelN : Nat} {a0 : List UInt8} {a1 : List ByteArray} {r : (List UInt8)} (hs : r49_names fuelN a0 a1 = some r) : At Tryd.prog 29 [.cell (sC a0), .cell (sC a1)] (.cell (sC r)) := by
  refine at_bound (by kernel_rfl) fun hb => ?_
  have hb1 : LenOk (.sl a0.length (encL a0)) := lkc hb
  have hb2 : LenOk (.sl a1.length (encL a1)) := lkc hb
  refine at_code mixed Tryd.func29 (by kernel_rfl) rfl (by kernel_rfl) rfl fun Q hQ => ?_
  rw [r49_names] at hs
  refine goR f0 ?_
  revert hs; refine bK fun y1 hx2 hs => ?_
  refine cA f0 (at_r06_AppendUint hx2) ?_
  refine goR2 f0 ?_
  revert hs; refine bK fun o39 e38 hs => ?_
  refine awp_cutK (fun (v : (List UInt8)) (σ : St) => some (v) = some o39 ∧ σ.env 0 = .cell (.sl (.l 2) 0 1 v.length) ∧ σ.hp (.l 2) = some (.pure (encL v)) ∧ 3 ≤ σ.gen) (by rfl) (fun Q hK40 hX41 => ?_) (fun l37 σ3 hp => ?_)
  · refine goR f0 ?_
    revert e38; refine bK fun o62 e61 e38 => ?_
    refine awp_loopW (fun (v : (List ByteArray) × (List UInt8) × Nat) (σ : St) => r49_names_L1 fuelN v.1 v.2.1 v.2.2 = some o62 ∧ v.1 = a1.drop v.2.2 ∧ σ.env 0 = .cell (.sl (.l 6) 0 1 v.2.1.length) ∧ σ.env 1 = .cell (sC a1) ∧ σ.env 5 = iV .i64 ((v.2.2 : Nat) : Int) ∧ σ.hp (.l 6) = some (.pure (encL v.2.1)) ∧ 3 ≤ σ.gen) (fun v => v.1.length) _ (Gh.ren _ (.o 2 3 0) (.l 6) (by simp) rfl rfl) (a1, y1, 0) ⟨e61, by simp, pv f0, pv f0, pv f0, pv f0, pg⟩ fun v σ6 hp L63 hL64 => ?_
    obtain ⟨q66, l51, k52⟩ := v
    dsimp only at hp hL64
    obtain ⟨e61, hd65, h5_0, h5_1, h5_5, g5_0, n5_g⟩ := hp
    rcases q66 with _ | ⟨x71, q67⟩
    · have hlt68 := drop_end hd65
      rw [r49_names_L1] at e61; try dsimp only at e61
      have F1 := an h5_0 (an h5_1 (an h5_5 g5_0))
      refine goR F1 ?_
      refine condK_f (by simp [ltI]; omega) ?_
      obtain rfl := sj e61
      try dsimp only at e38
      exact hK40 l51 _ _ (Gh.ren _ (.l 6) (.l 2) (by simp) rfl rfl) ⟨e38, pv F1, pv F1, pg⟩
    · obtain ⟨hx70, hlt68, hd72⟩ := drop_next hd65
      have ew69 := wrap_succ hlt68 (hb2).len
      rw [r49_names_L1] at e61; try dsimp only at e61
      have F2 := an h5_0 (an h5_1 (an h5_5 (an g5_0 (an hlt68 ew69))))
      refine goR F2 ?_
      refine condK_t (by simp [ltI]; omega) ?_
      have f73 : partCV Tryd.prog 9 (encL a1) (k52) = some (sV x71) := partCV_enc1 hx70 (by simp)
      have F3 := an F2 f73
      refine goR F3 ?_
      revert e61; refine bK fun y74 hx75 e61 => ?_
      refine cA F3 (at_r06_AppendString hx75) ?_
      refine goR F3 ?_
      exact hL64 (q67, y74, (k52 + 1)) _ _ (Gh.ren _ (.o (σ6.gen + 2) 5 0) (.l 6) (by simp) rfl rfl) ⟨e61, hd72, pv F3, pv F3, pv F3, pv F3, pg⟩ (by simp)
  · obtain ⟨e38, h4_0, g4_0, n4_g⟩ := hp
    obtain rfl := sj e38
    try dsimp only at hs
    have F4 := an h4_0 g4_0
    refine goR F4 ?_
    obtain rfl := sj hs
    exact hQ _ _ (rg F4 (Gh.frz _ (.l 2)))
end Go.Dc
end
section
set_option linter.all false
namespace Go.Dc
open Go Go.Hw Go.Proofs
set_option maxRecDepth 100000
def r49_Digest_L1 (fuelN : Nat) : List Var → (List UInt8) → Nat → Option (List UInt8)
  | [], l70, k71 => some (l70)
  | x93 :: q89, l70, k71 => Option.bind (r06_AppendString fuelN l70 x93.Name) (fun y96 => Option.bind (r06_AppendInt fuelN y96 x93.Init) (fun y99 => r49_Digest_L1 fuelN q89 y99 (k71 + 1)))

def r49_Digest_L3 (fuelN : Nat) : List Inst → (List UInt8) → Nat → Option (List UInt8)
  | [], l1145, k1146 => some (l1145)
  | x1167 :: q1163, l1145, k1146 => Option.bind (some ([x1167.Op, x1167.A, x1167.B, x1167.C, x1167.Obj, x1167.N, x1167.Fn, x1167.Order])) (fun l1170 => Option.bind (r49_numbers fuelN l1145 l1170) (fun y1172 => r49_Digest_L3 fuelN q1163 y1172 (k1146 + 1)))

def r49_Digest_L2 (fuelN : Nat) (a0 : Program) : Nat → (List UInt8) → Int → Option (List UInt8)
  | 0, _, _ => none
  | q1046 + 1, l907, i908 => cond (ltI i908 ((a0.Funcs.length : Nat) : Int)) (Option.bind (α := (List UInt8)) (Option.bind (getI a0.Funcs i908) (fun x1115 => Option.bind (r06_AppendString fuelN l907 x1115.Name) (fun y1118 => Option.bind (r06_AppendUint fuelN y1118 ((x1115.Code.length : Nat) : Int)) (fun y1121 => Option.bind (r49_Digest_L3 fuelN x1115.Code y1121 0) (fun l1156 => some (l1156)))))) (fun l1110 => r49_Digest_L2 fuelN a0 q1046 l1110 (IntKind.i64.wrap (i908 + 1)))) (some (l907))

def r49_Digest_L4 (fuelN : Nat) : List Start → (List UInt8) → Nat → Option (List UInt8)
  | [], l1306, k1307 => some (l1306)
  | x1337 :: q1333, l1306, k1307 => Option.bind (some ([x1337.Func, x1337.Arg])) (fun l1347 => Option.bind (r49_numbers fuelN l1306 l1347) (fun y1349 => r49_Digest_L4 fuelN q1333 y1349 (k1307 + 1)))

def r49_Digest (fuelN : Nat) (a0 : Program) (a1 : Config) : Option (Int × Int) :=
  Option.bind (r49_standard fuelN a0 a1) (fun y1 => cond (!(eqI y1 0)) (some (0, y1)) (Option.bind (some ([a1.Model, a1.Bound])) (fun l4 => Option.bind (r49_numbers fuelN [] l4) (fun y6 => Option.bind (r06_AppendUint fuelN y6 ((a0.Vars.length : Nat) : Int)) (fun y8 => Option.bind (α := (List UInt8)) (Option.bind (r49_Digest_L1 fuelN a0.Vars y8 0) (fun l82 => some (l82))) (fun l53 => Option.bind (r49_names fuelN l53 a0.Mutexes) (fun y101 => Option.bind (r49_names fuelN y101 a0.Conds) (fun y103 => Option.bind (r06_AppendUint fuelN y103 ((a0.Funcs.length : Nat) : Int)) (fun y105 => Option.bind (α := (List UInt8)) (Option.bind (r49_Digest_L2 fuelN a0 fuelN y105 0) (fun l1039 => some (l1039))) (fun l638 => Option.bind (r06_AppendUint fuelN l638 ((a0.Threads.length : Nat) : Int)) (fun y1174 => Option.bind (α := (List UInt8)) (Option.bind (r49_Digest_L4 fuelN a0.Threads y1174 0) (fun l1326 => some (l1326))) (fun l1261 => Option.bind (r06_Checksum fuelN l1261) (fun y1351 => some (IntKind.i64.wrap y1351, 0))))))))))))))

set_option maxHeartbeats 2000000 in
theorem at_r49_Digest {fuelN : Nat} {a0 : Program} {a1 : Config} {r : Int × Int} (hs : r49_Digest fuelN a0 a1 = some r) : At Tryd.prog 9 [.agg (eA a0), .agg (eA a1)] (.tup [iV .i64 r.1, iV .i64 r.2]) := by
  refine at_bound (by kernel_rfl) fun hb => ?_
  have hb1 : LenOk (.sl a0.Vars.length (encL a0.Vars)) := lkc hb
  have hb2 : LenOk (.sl a0.Mutexes.length (encL a0.Mutexes)) := lkc hb
  have hb3 : LenOk (.sl a0.Conds.length (encL a0.Conds)) := lkc hb
  have hb4 : LenOk (.sl a0.Funcs.length (encL a0.Funcs)) := lkc hb
  have hb5 : LenOk (.sl a0.Threads.length (encL a0.Threads)) := lkc hb
  refine at_code mixed Tryd.func9 (by kernel_rfl) rfl (by kernel_rfl) rfl fun Q hQ => ?_
  rw [r49_Digest] at hs
  refine goR f0 ?_
  revert hs; refine bK fun y1 hx2 hs => ?_
  refine cP f0 (at_r49_standard hx2) ?_
  refine goR f0 ?_
  revert hs; refine cS f0 ?_ ?_ <;> intro h3 hs
  · refine goR f0 ?_
    obtain rfl := sj hs
    exact hQ _ _ (rg f0 (Gh.refl _))
  · revert hs; refine lK fun l4 hx5 hs => ?_
    have hx5n : l4.length = 2 := by rw [hx5]; rfl
    refine goR hx5 ?_
    revert hs; refine bK fun y6 hx7 hs => ?_
    refine cA hx5 (at_unz (args := [.cell (.z), .cell (sC l4)]) (by simp) (at_r49_numbers hx7)) ?_
    refine goR hx5 ?_
    revert hs; refine bK fun y8 hx9 hs => ?_
    refine cA hx5 (at_r06_AppendUint hx9) ?_
    refine goR2 hx5 ?_
    revert hs; refine bK fun o55 e54 hs => ?_
    refine awp_cutK (fun (v : (List UInt8)) (σ : St) => some (v) = some o55 ∧ σ.env 2 = .cell (.ref (.o 1 0 0) 0) ∧ σ.env 7 = .cell (.sl (.l 2) 0 1 v.length) ∧ σ.hp (.l 2) = some (.pure (encL v)) ∧ σ.hp (.o 1 0 0) = some (.cells (eA a0)) ∧ 6 ≤ σ.gen) (by rfl) (fun Q hK56 hX57 => ?_) (fun l53 σ3 hp => ?_)
    · refine goR hx5 ?_
      revert e54; refine bK fun o84 e83 e54 => ?_
      refine awp_loopW (fun (v : (List Var) × (List UInt8) × Nat) (σ : St) => r49_Digest_L1 fuelN v.1 v.2.1 v.2.2 = some o84 ∧ v.1 = a0.Vars.drop v.2.2 ∧ σ.env 2 = .cell (.ref (.o 1 0 0) 0) ∧ σ.env 7 = .cell (.sl (.l 6) 0 1 v.2.1.length) ∧ σ.env 8 = iV .i64 ((v.2.2 : Nat) : Int) ∧ σ.hp (.l 6) = some (.pure (encL v.2.1)) ∧ σ.hp (.o 1 0 0) = some (.cells (eA a0)) ∧ 6 ≤ σ.gen) (fun v => v.1.length) _ (Gh.ren _ (.o 5 4 0) (.l 6) (by simp) rfl rfl) (a0.Vars, y8, 0) ⟨e83, by simp, pv hx5, pv hx5, pv hx5, pv hx5, pv hx5, pg⟩ fun v σ6 hp L85 hL86 => ?_
      obtain ⟨q88, l70, k71⟩ := v
      dsimp only at hp hL86
      obtain ⟨e83, hd87, h5_2, h5_7, h5_8, g5_0, g5_1, n5_g⟩ := hp
      have n5_0 : ¬ (σ6.gen = 0) := by omega
      rcases q88 with _ | ⟨x93, q89⟩
      · have hlt90 := drop_end hd87
        rw [r49_Digest_L1] at e83; try dsimp only at e83
        have F1 := an h5_2 (an h5_7 (an h5_8 (an g5_0 (an g5_1 n5_0))))
        refine goR F1 ?_
        refine condK_f (by simp [ltI]; omega) ?_
        obtain rfl := sj e83
        try dsimp only at e54
        exact hK56 l70 _ _ (Gh.ren _ (.l 6) (.l 2) (by simp) rfl rfl) ⟨e54, pv F1, pv F1, pv F1, pv F1, pg⟩
      · obtain ⟨hx92, hlt90, hd94⟩ := drop_next hd87
        have ew91 := wrap_succ hlt90 (hb1).len
        rw [r49_Digest_L1] at e83; try dsimp only at e83
        have F2 := an h5_2 (an h5_7 (an h5_8 (an g5_0 (an g5_1 (an n5_0 (an hlt90 ew91))))))
        refine goR F2 ?_
        refine condK_t (by simp [ltI]; omega) ?_
        have f95 : partCV Tryd.prog 9 (encL a0.Vars) (k71 * 2) = some (sV x93.Name) := partCV_enc hx92 (f := 0) (by simp)
        have F3 := an F2 f95
        refine goR F3 ?_
        revert e83; refine bK fun y96 hx97 e83 => ?_
        refine cA F3 (at_r06_AppendString hx97) ?_
        have f98 : partCV Tryd.prog 3 (encL a0.Vars) (k71 * 2 + 1) = some (iV .i64 x93.Init) := partCV_enc hx92 (f := 1) (by simp)
        have F4 := an F3 f98
        refine goR F4 ?_
        revert e83; refine bK fun y99 hx100 e83 => ?_
        refine cA F4 (at_r06_AppendInt hx100) ?_
        refine goR F4 ?_
        exact hL86 (q89, y99, (k71 + 1)) _ _ (Gh.ren _ (.o (σ6.gen + 3) 7 0) (.l 6) (by simp) rfl rfl) ⟨e83, hd94, pv F4, pv F4, pv F4, pv F4, pv F4, pg⟩ (by simp)
    · obtain ⟨e54, h4_2, h4_7, g4_0, g4_1, n4_g⟩ := hp
      obtain rfl := sj e54
      try dsimp only at hs
      have n4_0 : ¬ (σ3.gen = 0) := by omega
      have F5 := an h4_2 (an h4_7 (an g4_0 (an g4_1 n4_0)))
      refine goR F5 ?_
      revert hs; refine bK fun y101 hx102 hs => ?_
      refine cA F5 (at_r49_names hx102) ?_
      refine goR F5 ?_
      revert hs; refine bK fun y103 hx104 hs => ?_
      refine cP F5 (at_r49_names hx104) ?_
      refine goR F5 ?_
      revert hs; refine bK fun y105 hx106 hs => ?_
      refine cA F5 (at_r06_AppendUint hx106) ?_
      refine goR2 F5 ?_
      revert hs; refine bK fun o640 e639 hs => ?_
      refine awp_cutK (fun (v : (List UInt8)) (σ : St) => some (v) = some o640 ∧ σ.env 2 = .cell (.ref (.o 1 0 0) 0) ∧ σ.env 7 = .cell (sC v) ∧ σ.hp (.o 1 0 0) = some (.cells (eA a0)) ∧ (σ3.gen + 4) ≤ σ.gen) (by rfl) (fun Q hK641 hX642 => ?_) (fun l638 σ33 hp => ?_)
      · refine goR F5 ?_
        revert e639; refine bK fun o1041 e1040 e639 => ?_
        refine awp_loopW (fun (v : Nat × (List UInt8) × Int) (σ : St) => r49_Digest_L2 fuelN a0 v.1 v.2.1 v.2.2 = some o1041 ∧ σ.env 2 = .cell (.ref (.o 1 0 0) 0) ∧ σ.env 7 = .cell (sC v.2.1) ∧ σ.env 9 = iV .i64 v.2.2 ∧ σ.hp (.o 1 0 0) = some (.cells (eA a0)) ∧ (σ3.gen + 4) ≤ σ.gen) (fun v => v.1) _ (Gh.frz _ (.o (σ3.gen + 3) 4 0)) (fuelN, y105, 0) ⟨e1040, pv F5, pv F5, pv F5, pv F5, pg⟩ fun v σ54 hp L1042 hL1043 => ?_
        obtain ⟨q1045, l907, i908⟩ := v
        dsimp only at hp hL1043
        obtain ⟨e1040, h53_2, h53_7, h53_9, g53_0, n53_g⟩ := hp
        have n53_0 : ¬ (σ54.gen = 0) := by omega
        rcases q1045 with _ | q1046
        · rw [r49_Digest_L2] at e1040; cases e1040
        · rw [r49_Digest_L2] at e1040; try dsimp only at e1040
          have F6 := an h53_2 (an h53_7 (an h53_9 (an g53_0 n53_0)))
          refine goR F6 ?_
          revert e1040; refine cS F6 ?_ ?_ <;> intro h1050 e1040
          · refine goR2 F6 ?_
            revert e1040; refine bK fun o1112 e1111 e1040 => ?_
            refine awp_cutK (fun (v : (List UInt8)) (σ : St) => some (v) = some o1112 ∧ σ.env 2 = .cell (.ref (.o 1 0 0) 0) ∧ σ.env 7 = .cell (sC v) ∧ σ.env 9 = iV .i64 i908 ∧ σ.hp (.o 1 0 0) = some (.cells (eA a0)) ∧ (σ54.gen + 1) ≤ σ.gen) (by rfl) (fun Q hK1113 hX1114 => ?_) (fun l1110 σ57 hp => ?_)
            · revert e1111; refine bK fun x1115 hx1116 e1111 => ?_
              obtain ⟨hx1116a, hx1116b, hx1116c, hx1116d⟩ := getI_some hx1116
              have f1117 : partCV Tryd.prog 9 (encL a0.Funcs) (((i908).toNat) * 2) = some (sV x1115.Name) := partCV_enc hx1116d (f := 0) (by simp)
              have F7 := an F6 f1117
              refine goR F7 ?_
              revert e1111; refine bK fun y1118 hx1119 e1111 => ?_
              refine cA F7 (at_r06_AppendString hx1119) ?_
              have f1120 : partCV Tryd.prog 54 (encL a0.Funcs) (((i908).toNat) * 2 + 1) = some (.cell (sC x1115.Code)) := partCV_enc hx1116d (f := 1) (by simp)
              have F8 := an F7 f1120
              refine goR F8 ?_
              revert e1111; refine bK fun y1121 hx1122 e1111 => ?_
              refine cA F8 (at_r06_AppendUint hx1122) ?_
              refine goR F8 ?_
              revert e1111; refine bK fun o1158 e1157 e1111 => ?_
              refine awp_loopW (fun (v : (List Inst) × (List UInt8) × Nat) (σ : St) => r49_Digest_L3 fuelN v.1 v.2.1 v.2.2 = some o1158 ∧ v.1 = x1115.Code.drop v.2.2 ∧ σ.env 2 = .cell (.ref (.o 1 0 0) 0) ∧ σ.env 7 = .cell (sC v.2.1) ∧ σ.env 9 = iV .i64 i908 ∧ σ.env 10 = iV .i64 ((v.2.2 : Nat) : Int) ∧ σ.hp (.o 1 0 0) = some (.cells (eA a0)) ∧ (σ54.gen + 4) ≤ σ.gen) (fun v => v.1.length) _ (Gh.frz _ (.o (σ54.gen + 3) 8 0)) (x1115.Code, y1121, 0) ⟨e1157, by simp, pv F8, pv F8, pv F8, pv F8, pv F8, pg⟩ fun v σ60 hp L1159 hL1160 => ?_
              obtain ⟨q1162, l1145, k1146⟩ := v
              dsimp only at hp hL1160
              obtain ⟨e1157, hd1161, h59_2, h59_7, h59_9, h59_10, g59_0, n59_g⟩ := hp
              have n59_0 : ¬ (σ60.gen = 0) := by omega
              rcases q1162 with _ | ⟨x1167, q1163⟩
              · have hlt1164 := drop_end hd1161
                rw [r49_Digest_L3] at e1157; try dsimp only at e1157
                have F9 := an h59_2 (an h59_7 (an h59_9 (an h59_10 (an g59_0 (an n59_0 (an f1117 f1120))))))
                refine goR F9 ?_
                refine condK_f (by simp [ltI]; omega) ?_
                obtain rfl := sj e1157
                try dsimp only at e1111
                exact hK1113 l1145 _ _ (Gh.refl _) ⟨e1111, pv F9, pv F9, pv F9, pv F9, pg⟩
              · obtain ⟨hx1166, hlt1164, hd1168⟩ := drop_next hd1161
                have ew1165 := wrap_succ hlt1164 ((LenOk.elem hb4 hx1116d (c := .sl x1115.Code.length (encL x1115.Code)) (by simp))).len
                rw [r49_Digest_L3] at e1157; try dsimp only at e1157
                have F10 := an h59_2 (an h59_7 (an h59_9 (an h59_10 (an g59_0 (an n59_0 (an f1117 (an f1120 (an hlt1164 ew1165))))))))
                refine goR F10 ?_
                refine condK_t (by simp [ltI]; omega) ?_
                have f1169 : partCV Tryd.prog 72 (encL x1115.Code) (k1146 * 8) = some (.agg (eA x1167)) := partCV_enc hx1166 (f := 0) (by simp)
                revert e1157; refine lK fun l1170 hx1171 e1157 => ?_
                have hx1171n : l1170.length = 8 := by rw [hx1171]; rfl
                have F11 := an F10 (an f1169 hx1171)
                refine goR F11 ?_
                revert e1157; refine bK fun y1172 hx1173 e1157 => ?_
                refine cA F11 (at_r49_numbers hx1173) ?_
                refine goR F11 ?_
                exact hL1160 (q1163, y1172, (k1146 + 1)) _ _ (Gh.refl _) ⟨e1157, hd1168, pv F11, pv F11, pv F11, pv F11, pv F11, pg⟩ (by simp)
            · obtain ⟨e1111, h58_2, h58_7, h58_9, g58_0, n58_g⟩ := hp
              obtain rfl := sj e1111
              try dsimp only at e1040
              have n58_0 : ¬ (σ57.gen = 0) := by omega
              have F12 := an h58_2 (an h58_7 (an h58_9 (an g58_0 n58_0)))
              refine goR F12 ?_
              exact hL1043 (q1046, l1110, IntKind.i64.wrap (i908 + 1)) _ _ (Gh.refl _) ⟨e1040, pv F12, pv F12, pv F12, pv F12, pg⟩ (by omega)
          · refine goR F6 ?_
            obtain rfl := sj e1040
            try dsimp only at e639
            exact hK641 l907 _ _ (Gh.refl _) ⟨e639, pv F6, pv F6, pv F6, pg⟩
      · obtain ⟨e639, h34_2, h34_7, g34_0, n34_g⟩ := hp
        obtain rfl := sj e639
        try dsimp only at hs
        have n34_0 : ¬ (σ33.gen = 0) := by omega
        have F13 := an h34_2 (an h34_7 (an g34_0 n34_0))
        refine goR F13 ?_
        revert hs; refine bK fun y1174 hx1175 hs => ?_
        refine cA F13 (at_r06_AppendUint hx1175) ?_
        refine goR2 F13 ?_
        revert hs; refine bK fun o1263 e1262 hs => ?_
        refine awp_cutK (fun (v : (List UInt8)) (σ : St) => some (v) = some o1263 ∧ σ.env 7 = .cell (sC v) ∧ (σ33.gen + 2) ≤ σ.gen) (by rfl) (fun Q hK1264 hX1265 => ?_) (fun l1261 σ63 hp => ?_)
        · refine goR F13 ?_
          revert e1262; refine bK fun o1328 e1327 e1262 => ?_
          refine awp_loopW (fun (v : (List Start) × (List UInt8) × Nat) (σ : St) => r49_Digest_L4 fuelN v.1 v.2.1 v.2.2 = some o1328 ∧ v.1 = a0.Threads.drop v.2.2 ∧ σ.env 2 = .cell (.ref (.o 1 0 0) 0) ∧ σ.env 7 = .cell (sC v.2.1) ∧ σ.env 12 = iV .i64 ((v.2.2 : Nat) : Int) ∧ σ.hp (.o 1 0 0) = some (.cells (eA a0)) ∧ (σ33.gen + 2) ≤ σ.gen) (fun v => v.1.length) _ (Gh.frz _ (.o (σ33.gen + 1) 4 0)) (a0.Threads, y1174, 0) ⟨e1327, by simp, pv F13, pv F13, pv F13, pv F13, pg⟩ fun v σ66 hp L1329 hL1330 => ?_
          obtain ⟨q1332, l1306, k1307⟩ := v
          dsimp only at hp hL1330
          obtain ⟨e1327, hd1331, h65_2, h65_7, h65_12, g65_0, n65_g⟩ := hp
          have n65_0 : ¬ (σ66.gen = 0) := by omega
          rcases q1332 with _ | ⟨x1337, q1333⟩
          · have hlt1334 := drop_end hd1331
            rw [r49_Digest_L4] at e1327; try dsimp only at e1327
            have F14 := an h65_2 (an h65_7 (an h65_12 (an g65_0 n65_0)))
            refine goR F14 ?_
            refine condK_f (by simp [ltI]; omega) ?_
            obtain rfl := sj e1327
            try dsimp only at e1262
            exact hK1264 l1306 _ _ (Gh.refl _) ⟨e1262, pv F14, pg⟩
          · obtain ⟨hx1336, hlt1334, hd1338⟩ := drop_next hd1331
            have ew1335 := wrap_succ hlt1334 (hb5).len
            rw [r49_Digest_L4] at e1327; try dsimp only at e1327
            have F15 := an h65_2 (an h65_7 (an h65_12 (an g65_0 (an n65_0 (an hlt1334 ew1335)))))
            refine goR F15 ?_
            refine condK_t (by simp [ltI]; omega) ?_
            have f1345 : partCV Tryd.prog 3 (encL a0.Threads) (k1307 * 2) = some (iV .i64 x1337.Func) := partCV_enc hx1336 (f := 0) (by simp)
            have f1346 : partCV Tryd.prog 3 (encL a0.Threads) (k1307 * 2 + 1) = some (iV .i64 x1337.Arg) := partCV_enc hx1336 (f := 1) (by simp)
            revert e1327; refine lK fun l1347 hx1348 e1327 => ?_
            have hx1348n : l1347.length = 2 := by rw [hx1348]; rfl
            have F16 := an F15 (an f1345 (an f1346 hx1348))
            refine goD F16 ?_
            revert e1327; refine bK fun y1349 hx1350 e1327 => ?_
            refine cA F16 (at_r49_numbers hx1350) ?_
            refine goD F16 ?_
            exact hL1330 (q1333, y1349, (k1307 + 1)) _ _ (Gh.refl _) ⟨e1327, hd1338, pv F16, pv F16, pv F16, pv F16, pg⟩ (by simp)
        · obtain ⟨e1262, h64_7, n64_g⟩ := hp
          obtain rfl := sj e1262
          try dsimp only at hs
          refine goR h64_7 ?_
          revert hs; refine bK fun y1351 hx1352 hs => ?_
          refine cP h64_7 (at_r06_Checksum hx1352) ?_
          refine goR h64_7 ?_
          obtain rfl := sj hs
          exact hQ _ _ (rg h64_7 (Gh.refl _))
end Go.Dc
end
section
set_option linter.all false
namespace Go.Dc
open Go Go.Hw Go.Proofs
set_option maxRecDepth 100000
def r26_back_L1 : List Inst → Nat → Option (Unit ⊕ Bool)
  | [], k45 => some (.inl ())
  | x63 :: q59, k45 => cond (andB (orB (eqI x63.Op 4) (eqI x63.Op 5)) (!(ltI ((k45 : Nat) : Int) x63.N))) (some (.inr true)) (r26_back_L1 q59 (k45 + 1))

def r26_back (a0 : Func) : Option Bool :=
  Option.bind (α := Unit ⊕ Bool) (Option.bind (r26_back_L1 a0.Code 0) (fun o => match o with | .inl _ => some (.inl ()) | .inr r68 => some (.inr r68))) (fun o => match o with | .inl _ => some false | .inr r69 => some r69)

set_option maxHeartbeats 2000000 in
theorem at_r26_back {a0 : Func} {r : Bool} (hs : r26_back a0 = some r) : At Tryd.prog 69 [.agg (eA a0)] (bV r) := by
  refine at_bound (by kernel_rfl) fun hb => ?_
  have hb1 : LenOk (.sl a0.Code.length (encL a0.Code)) := lkc hb
  refine at_code mixed Tryd.func69 (by kernel_rfl) rfl (by kernel_rfl) rfl fun Q hQ => ?_
  rw [r26_back] at hs
  refine goR2 f0 ?_
  revert hs; refine bK fun o34 e33 hs => ?_
  refine awp_cutK (fun (v : Unit) (σ : St) => some (.inl v) = some o34 ∧ 2 ≤ σ.gen) (by rfl) (fun Q hK35 hX36 => ?_) (fun v σ3 hp => ?_)
  · refine goR f0 ?_
    revert e33; refine bK fun o54 e53 e33 => ?_
    refine awp_loopW (fun (v : (List Inst) × Nat) (σ : St) => r26_back_L1 v.1 v.2 = some o54 ∧ v.1 = a0.Code.drop v.2 ∧ σ.env 1 = .cell (.ref (.o 1 0 0) 0) ∧ σ.env 3 = iV .i64 ((v.2 : Nat) : Int) ∧ σ.hp (.o 1 0 0) = some (.cells (eA a0)) ∧ 2 ≤ σ.gen) (fun v => v.1.length) _ (Gh.refl _) (a0.Code, 0) ⟨e53, by simp, pv f0, pv f0, pv f0, pg⟩ fun v σ6 hp L55 hL56 => ?_
    obtain ⟨q58, k45⟩ := v
    dsimp only at hp hL56
    obtain ⟨e53, hd57, h5_1, h5_3, g5_0, n5_g⟩ := hp
    have n5_0 : ¬ (σ6.gen = 0) := by omega
    rcases q58 with _ | ⟨x63, q59⟩
    · have hlt60 := drop_end hd57
      rw [r26_back_L1] at e53; try dsimp only at e53
      have F1 := an h5_1 (an h5_3 (an g5_0 n5_0))
      refine goR F1 ?_
      refine condK_f (by simp [ltI]; omega) ?_
      obtain rfl := sj e53
      try dsimp only at e33
      exact hK35 () _ _ (Gh.refl _) ⟨e33, pg⟩
    · obtain ⟨hx62, hlt60, hd64⟩ := drop_next hd57
      have ew61 := wrap_succ hlt60 (hb1).len
      rw [r26_back_L1] at e53; try dsimp only at e53
      have F2 := an h5_1 (an h5_3 (an g5_0 (an n5_0 (an hlt60 ew61))))
      refine goR F2 ?_
      refine condK_t (by simp [ltI]; omega) ?_
      have f65 : partCV Tryd.prog 68 (encL a0.Code) (k45 * 8) = some (iV .i64 x63.Op) := partCV_enc hx62 (f := 0) (by simp)
      have f66 : partCV Tryd.prog 3 (encL a0.Code) (k45 * 8 + 5) = some (iV .i64 x63.N) := partCV_enc hx62 (f := 5) (by simp)
      have F3 := an F2 (an f65 f66)
      refine goG F3 F3 ?_
      revert e53; refine cS F3 ?_ ?_ <;> intro h67 e53
      · refine goG F3 F3 ?_
        obtain rfl := sj e53
        try dsimp only at e33
        obtain rfl := sj e33
        try dsimp only at hs
        refine hX36 _ _ (by simp) ?_
        refine goG F3 F3 ?_
        obtain rfl := sj hs
        exact hQ _ _ (rg F3 (Gh.refl _))
      · refine goG F3 F3 ?_
        exact hL56 (q59, (k45 + 1)) _ _ (Gh.refl _) ⟨e53, hd64, pv F3, pv F3, pv F3, pg⟩ (by simp)
  · obtain ⟨e33, n4_g⟩ := hp
    obtain rfl := sj e33
    try dsimp only at hs
    refine goR f0 ?_
    obtain rfl := sj hs
    exact hQ _ _ (rg f0 (Gh.refl _))
end Go.Dc
end
section
set_option linter.all false
namespace Go.Dc
open Go Go.Hw Go.Proofs
set_option maxRecDepth 100000
def r26_spawned_L1 : List Inst → Int → Nat → Option Int
  | [], i61, k62 => some (i61)
  | x80 :: q76, i61, k62 => cond (eqI x80.Op 21) (r26_spawned_L1 q76 (IntKind.i64.wrap (i61 + 1)) (k62 + 1)) (r26_spawned_L1 q76 i61 (k62 + 1))

def r26_spawned (a0 : Func) (a1 : Int) : Option Int :=
  Option.bind (α := Int) (Option.bind (r26_spawned_L1 a0.Code 0 0) (fun i69 => some (i69))) (fun i40 => guardO (orB (!(ltI 0 i40)) ((r26_back a0).isSome)) (cond (andB (ltI 0 i40) ((r26_back a0).getD default)) (some (if a1 > i40 then a1 else i40)) (some i40)))

set_option maxHeartbeats 2000000 in
theorem at_r26_spawned {a0 : Func} {a1 : Int} {r : Int} (hs : r26_spawned a0 a1 = some r) : At Tryd.prog 43 [.agg (eA a0), iV .i64 a1] (iV .i64 r) := by
  refine at_bound (by kernel_rfl) fun hb => ?_
  have hb1 : LenOk (.sl a0.Code.length (encL a0.Code)) := lkc hb
  refine at_code mixed Tryd.func43 (by kernel_rfl) rfl (by kernel_rfl) rfl fun Q hQ => ?_
  rw [r26_spawned] at hs
  refine goR2 f0 ?_
  revert hs; refine bK fun o42 e41 hs => ?_
  refine awp_cutK (fun (v : Int) (σ : St) => some (v) = some o42 ∧ σ.env 1 = iV .i64 a1 ∧ σ.env 2 = .cell (.ref (.o 1 0 0) 0) ∧ σ.env 5 = iV .i64 v ∧ σ.hp (.o 1 0 0) = some (.cells (eA a0)) ∧ 3 ≤ σ.gen) (by rfl) (fun Q hK43 hX44 => ?_) (fun i40 σ3 hp => ?_)
  · refine goR f0 ?_
    revert e41; refine bK fun o71 e70 e41 => ?_
    refine awp_loopW (fun (v : (List Inst) × Int × Nat) (σ : St) => r26_spawned_L1 v.1 v.2.1 v.2.2 = some o71 ∧ v.1 = a0.Code.drop v.2.2 ∧ σ.env 1 = iV .i64 a1 ∧ σ.env 2 = .cell (.ref (.o 1 0 0) 0) ∧ σ.env 5 = iV .i64 v.2.1 ∧ σ.env 6 = iV .i64 ((v.2.2 : Nat) : Int) ∧ σ.hp (.o 1 0 0) = some (.cells (eA a0)) ∧ 3 ≤ σ.gen) (fun v => v.1.length) _ (Gh.refl _) (a0.Code, 0, 0) ⟨e70, by simp, pv f0, pv f0, pv f0, pv f0, pv f0, pg⟩ fun v σ6 hp L72 hL73 => ?_
    obtain ⟨q75, i61, k62⟩ := v
    dsimp only at hp hL73
    obtain ⟨e70, hd74, h5_1, h5_2, h5_5, h5_6, g5_0, n5_g⟩ := hp
    have n5_0 : ¬ (σ6.gen = 0) := by omega
    rcases q75 with _ | ⟨x80, q76⟩
    · have hlt77 := drop_end hd74
      rw [r26_spawned_L1] at e70; try dsimp only at e70
      have F1 := an h5_1 (an h5_2 (an h5_5 (an h5_6 (an g5_0 n5_0))))
      refine goR F1 ?_
      refine condK_f (by simp [ltI]; omega) ?_
      obtain rfl := sj e70
      try dsimp only at e41
      exact hK43 i61 _ _ (Gh.refl _) ⟨e41, pv F1, pv F1, pv F1, pv F1, pg⟩
    · obtain ⟨hx79, hlt77, hd81⟩ := drop_next hd74
      have ew78 := wrap_succ hlt77 (hb1).len
      rw [r26_spawned_L1] at e70; try dsimp only at e70
      have F2 := an h5_1 (an h5_2 (an h5_5 (an h5_6 (an g5_0 (an n5_0 (an hlt77 ew78))))))
      refine goR F2 ?_
      refine condK_t (by simp [ltI]; omega) ?_
      have f82 : partCV Tryd.prog 68 (encL a0.Code) (k62 * 8) = some (iV .i64 x80.Op) := partCV_enc hx79 (f := 0) (by simp)
      have F3 := an F2 f82
      refine goR F3 ?_
      revert e70; refine cS F3 ?_ ?_ <;> intro h83 e70
      · refine goR F3 ?_
        exact hL73 (q76, IntKind.i64.wrap (i61 + 1), (k62 + 1)) _ _ (Gh.refl _) ⟨e70, hd81, pv F3, pv F3, pv F3, pv F3, pv F3, pg⟩ (by simp)
      · refine goR F3 ?_
        exact hL73 (q76, i61, (k62 + 1)) _ _ (Gh.refl _) ⟨e70, hd81, pv F3, pv F3, pv F3, pv F3, pv F3, pg⟩ (by simp)
  · obtain ⟨e41, h4_1, h4_2, h4_5, g4_0, n4_g⟩ := hp
    obtain rfl := sj e41
    try dsimp only at hs
    have n4_0 : ¬ (σ3.gen = 0) := by omega
    have F4 := an h4_1 (an h4_2 (an h4_5 (an g4_0 n4_0)))
    refine goG F4 F4 ?_
    obtain ⟨g84, hs⟩ := guardO_some hs
    refine gsel_call (fun hg => at_r26_back (under_call g84 hg)) (fun hg => by (try simp at hg); (first | simp [hg, F4]); try rfl) (fun hg => by (try simp at hg); simp [hg, F4]) (by simp) ?_
    refine goG F4 F4 ?_
    revert hs; refine cS F4 ?_ ?_ <;> intro h85 hs
    · refine goG F4 F4 ?_
      obtain rfl := sj hs
      exact hQ _ _ (rg F4 (Gh.refl _))
    · refine goG F4 F4 ?_
      obtain rfl := sj hs
      exact hQ _ _ (rg F4 (Gh.refl _))
end Go.Dc
end
section
set_option linter.all false
namespace Go.Dc
open Go Go.Hw Go.Proofs
set_option maxRecDepth 100000
def r26_lone_L1 (a0 : Program) (a1 : Int) : List Start → Int → Nat → Option Int
  | [], i91, k92 => some (i91)
  | x115 :: q111, i91, k92 => cond (andB (!(ltI x115.Func 0)) (ltI x115.Func ((a0.Funcs.length : Nat) : Int))) (Option.bind (getI a0.Funcs x115.Func) (fun x119 => Option.bind (r26_spawned x119 a1) (fun y122 => r26_lone_L1 a0 a1 q111 (IntKind.i64.wrap (i91 + y122)) (k92 + 1)))) (r26_lone_L1 a0 a1 q111 i91 (k92 + 1))

def r26_lone_L3 (a0 : Program) (a1 : Int) (i796 : Int) : Nat → Int → Option (Unit ⊕ Bool)
  | 0, _ => none
  | q1002 + 1, i983 => Option.bind (getI a0.Funcs i796) (fun x1006 => cond (ltI i983 ((x1006.Code.length : Nat) : Int)) (Option.bind (getI x1006.Code i983) (fun x1010 => guardO (orB (!(andB (andB (eqI x1010.Op 21) (!(ltI x1010.Obj 0))) (ltI x1010.Obj ((a0.Funcs.length : Nat) : Int)))) (inB x1010.Obj a0.Funcs.length)) (guardO (orB (!(andB (andB (eqI x1010.Op 21) (!(ltI x1010.Obj 0))) (ltI x1010.Obj ((a0.Funcs.length : Nat) : Int)))) ((r26_spawned (gd a0.Funcs ((x1010.Obj).toNat)) a1).isSome)) (cond (andB (andB (andB (eqI x1010.Op 21) (!(ltI x1010.Obj 0))) (ltI x1010.Obj ((a0.Funcs.length : Nat) : Int))) (ltI 0 ((r26_spawned (gd a0.Funcs ((x1010.Obj).toNat)) a1).getD default))) (some (.inr false)) (r26_lone_L3 a0 a1 i796 q1002 (IntKind.i64.wrap (i983 + 1))))))) (some (.inl ())))

def r26_lone_L2 (fuelN : Nat) (a0 : Program) (a1 : Int) : Nat → Int → Option (Unit ⊕ Bool)
  | 0, _ => none
  | q913 + 1, i796 => cond (ltI i796 ((a0.Funcs.length : Nat) : Int)) (Option.bind (α := Unit ⊕ Bool) (Option.bind (r26_lone_L3 a0 a1 i796 fuelN 0) (fun o => match o with | .inl _ => some (.inl ()) | .inr r1017 => some (.inr r1017))) (fun o => match o with | .inl _ => r26_lone_L2 fuelN a0 a1 q913 (IntKind.i64.wrap (i796 + 1)) | .inr r1018 => some (.inr r1018))) (some (.inl ()))

def r26_lone (fuelN : Nat) (a0 : Program) (a1 : Int) : Option Bool :=
  Option.bind (α := Int) (Option.bind (r26_lone_L1 a0 a1 a0.Threads ((a0.Threads.length : Nat) : Int) 0) (fun i104 => some (i104))) (fun i60 => Option.bind (α := Unit ⊕ Bool) (Option.bind (r26_lone_L2 fuelN a0 a1 fuelN 0) (fun o => match o with | .inl _ => some (.inl ()) | .inr r1019 => some (.inr r1019))) (fun o => match o with | .inl _ => some (!(ltI 5 i60)) | .inr r1020 => some r1020))

set_option maxHeartbeats 2000000 in
theorem at_r26_lone {fuelN : Nat} {a0 : Program} {a1 : Int} {r : Bool} (hs : r26_lone fuelN a0 a1 = some r) : At Tryd.prog 17 [.agg (eA a0), iV .i64 a1] (bV r) := by
  refine at_bound (by kernel_rfl) fun hb => ?_
  have hb1 : LenOk (.sl a0.Vars.length (encL a0.Vars)) := lkc hb
  have hb2 : LenOk (.sl a0.Mutexes.length (encL a0.Mutexes)) := lkc hb
  have hb3 : LenOk (.sl a0.Conds.length (encL a0.Conds)) := lkc hb
  have hb4 : LenOk (.sl a0.Funcs.length (encL a0.Funcs)) := lkc hb
  have hb5 : LenOk (.sl a0.Threads.length (encL a0.Threads)) := lkc hb
  refine at_code mixed Tryd.func17 (by kernel_rfl) rfl (by kernel_rfl) rfl fun Q hQ => ?_
  rw [r26_lone] at hs
  refine goR2 f0 ?_
  revert hs; refine bK fun o62 e61 hs => ?_
  refine awp_cutK (fun (v : Int) (σ : St) => some (v) = some o62 ∧ σ.env 1 = iV .i64 a1 ∧ σ.env 2 = .cell (.ref (.o 1 0 0) 0) ∧ σ.env 5 = iV .i64 v ∧ σ.hp (.o 1 0 0) = some (.cells (eA a0)) ∧ 3 ≤ σ.gen) (by rfl) (fun Q hK63 hX64 => ?_) (fun i60 σ3 hp => ?_)
  · refine goR f0 ?_
    revert e61; refine bK fun o106 e105 e61 => ?_
    refine awp_loopW (fun (v : (List Start) × Int × Nat) (σ : St) => r26_lone_L1 a0 a1 v.1 v.2.1 v.2.2 = some o106 ∧ v.1 = a0.Threads.drop v.2.2 ∧ σ.env 1 = iV .i64 a1 ∧ σ.env 2 = .cell (.ref (.o 1 0 0) 0) ∧ σ.env 5 = iV .i64 v.2.1 ∧ σ.env 6 = iV .i64 ((v.2.2 : Nat) : Int) ∧ σ.hp (.o 1 0 0) = some (.cells (eA a0)) ∧ 3 ≤ σ.gen) (fun v => v.1.length) _ (Gh.refl _) (a0.Threads, ((a0.Threads.length : Nat) : Int), 0) ⟨e105, by simp, pv f0, pv f0, pv f0, pv f0, pv f0, pg⟩ fun v σ6 hp L107 hL108 => ?_
    obtain ⟨q110, i91, k92⟩ := v
    dsimp only at hp hL108
    obtain ⟨e105, hd109, h5_1, h5_2, h5_5, h5_6, g5_0, n5_g⟩ := hp
    have n5_0 : ¬ (σ6.gen = 0) := by omega
    rcases q110 with _ | ⟨x115, q111⟩
    · have hlt112 := drop_end hd109
      rw [r26_lone_L1] at e105; try dsimp only at e105
      have F1 := an h5_1 (an h5_2 (an h5_5 (an h5_6 (an g5_0 n5_0))))
      refine goR F1 ?_
      refine condK_f (by simp [ltI]; omega) ?_
      obtain rfl := sj e105
      try dsimp only at e61
      exact hK63 i91 _ _ (Gh.refl _) ⟨e61, pv F1, pv F1, pv F1, pv F1, pg⟩
    · obtain ⟨hx114, hlt112, hd116⟩ := drop_next hd109
      have ew113 := wrap_succ hlt112 (hb5).len
      rw [r26_lone_L1] at e105; try dsimp only at e105
      have F2 := an h5_1 (an h5_2 (an h5_5 (an h5_6 (an g5_0 (an n5_0 (an hlt112 ew113))))))
      refine goR F2 ?_
      refine condK_t (by simp [ltI]; omega) ?_
      have f117 : partCV Tryd.prog 3 (encL a0.Threads) (k92 * 2) = some (iV .i64 x115.Func) := partCV_enc hx114 (f := 0) (by simp)
      have F3 := an F2 f117
      refine goG F3 F3 ?_
      revert e105; refine cS F3 ?_ ?_ <;> intro h118 e105
      · revert e105; refine bK fun x119 hx120 e105 => ?_
        obtain ⟨hx120a, hx120b, hx120c, hx120d⟩ := getI_some hx120
        have f121 : partCV Tryd.prog 56 (encL a0.Funcs) (((x115.Func).toNat) * 2) = some (.agg (eA x119)) := partCV_enc hx120d (f := 0) (by simp)
        have F4 := an F3 f121
        have F5 := an F4 (an hx120a hx120b)
        refine goG F4 F5 ?_
        revert e105; refine bK fun y122 hx123 e105 => ?_
        refine cP F4 (at_r26_spawned hx123) ?_
        refine goG F4 F5 ?_
        exact hL108 (q111, IntKind.i64.wrap (i91 + y122), (k92 + 1)) _ _ (Gh.refl _) ⟨e105, hd116, pv F4, pv F4, pv F4, pv F4, pv F4, pg⟩ (by simp)
      · refine goG F3 F3 ?_
        exact hL108 (q111, i91, (k92 + 1)) _ _ (Gh.refl _) ⟨e105, hd116, pv F3, pv F3, pv F3, pv F3, pv F3, pg⟩ (by simp)
  · obtain ⟨e61, h4_1, h4_2, h4_5, g4_0, n4_g⟩ := hp
    obtain rfl := sj e61
    try dsimp only at hs
    have n4_0 : ¬ (σ3.gen = 0) := by omega
    have F6 := an h4_1 (an h4_2 (an h4_5 (an g4_0 n4_0)))
    refine goR2 F6 ?_
    revert hs; refine bK fun o571 e570 hs => ?_
    refine awp_cutK (fun (v : Unit) (σ : St) => some (.inl v) = some o571 ∧ σ.env 5 = iV .i64 i60 ∧ (σ3.gen + 1) ≤ σ.gen) (by rfl) (fun Q hK572 hX573 => ?_) (fun v σ33 hp => ?_)
    · refine goR F6 ?_
      revert e570; refine bK fun o908 e907 e570 => ?_
      refine awp_loopW (fun (v : Nat × Int) (σ : St) => r26_lone_L2 fuelN a0 a1 v.1 v.2 = some o908 ∧ σ.env 1 = iV .i64 a1 ∧ σ.env 2 = .cell (.ref (.o 1 0 0) 0) ∧ σ.env 5 = iV .i64 i60 ∧ σ.env 8 = iV .i64 v.2 ∧ σ.hp (.o 1 0 0) = some (.cells (eA a0)) ∧ (σ3.gen + 1) ≤ σ.gen) (fun v => v.1) _ (Gh.refl _) (fuelN, 0) ⟨e907, pv F6, pv F6, pv F6, pv F6, pv F6, pg⟩ fun v σ54 hp L909 hL910 => ?_
      obtain ⟨q912, i796⟩ := v
      dsimp only at hp hL910
      obtain ⟨e907, h53_1, h53_2, h53_5, h53_8, g53_0, n53_g⟩ := hp
      have n53_0 : ¬ (σ54.gen = 0) := by omega
      rcases q912 with _ | q913
      · rw [r26_lone_L2] at e907; cases e907
      · rw [r26_lone_L2] at e907; try dsimp only at e907
        have F7 := an h53_1 (an h53_2 (an h53_5 (an h53_8 (an g53_0 n53_0))))
        refine goR F7 ?_
        revert e907; refine cS F7 ?_ ?_ <;> intro h917 e907
        · refine goR2 F7 ?_
          revert e907; refine bK fun o967 e966 e907 => ?_
          refine awp_cutK (fun (v : Unit) (σ : St) => some (.inl v) = some o967 ∧ σ.env 1 = iV .i64 a1 ∧ σ.env 2 = .cell (.ref (.o 1 0 0) 0) ∧ σ.env 5 = iV .i64 i60 ∧ σ.env 8 = iV .i64 i796 ∧ σ.hp (.o 1 0 0) = some (.cells (eA a0)) ∧ (σ54.gen + 1) ≤ σ.gen) (by rfl) (fun Q hK968 hX969 => ?_) (fun v σ57 hp => ?_)
          · refine goR F7 ?_
            revert e966; refine bK fun o997 e996 e966 => ?_
            refine awp_loopW (fun (v : Nat × Int) (σ : St) => r26_lone_L3 a0 a1 i796 v.1 v.2 = some o997 ∧ σ.env 1 = iV .i64 a1 ∧ σ.env 2 = .cell (.ref (.o 1 0 0) 0) ∧ σ.env 5 = iV .i64 i60 ∧ σ.env 8 = iV .i64 i796 ∧ σ.env 9 = iV .i64 v.2 ∧ σ.hp (.o 1 0 0) = some (.cells (eA a0)) ∧ (σ54.gen + 2) ≤ σ.gen) (fun v => v.1) _ (Gh.refl _) (fuelN, 0) ⟨e996, pv F7, pv F7, pv F7, pv F7, pv F7, pv F7, pg⟩ fun v σ60 hp L998 hL999 => ?_
            obtain ⟨q1001, i983⟩ := v
            dsimp only at hp hL999
            obtain ⟨e996, h59_1, h59_2, h59_5, h59_8, h59_9, g59_0, n59_g⟩ := hp
            have n59_0 : ¬ (σ60.gen = 0) := by omega
            rcases q1001 with _ | q1002
            · rw [r26_lone_L3] at e996; cases e996
            · rw [r26_lone_L3] at e996; try dsimp only at e996
              revert e996; refine bK fun x1006 hx1007 e996 => ?_
              obtain ⟨hx1007a, hx1007b, hx1007c, hx1007d⟩ := getI_some hx1007
              have f1008 : partCV Tryd.prog 54 (encL a0.Funcs) (((i796).toNat) * 2 + 1) = some (.cell (sC x1006.Code)) := partCV_enc hx1007d (f := 1) (by simp)
              have F8 := an h59_1 (an h59_2 (an h59_5 (an h59_8 (an h59_9 (an g59_0 (an n59_0 f1008))))))
              refine goR F8 ?_
              revert e996; refine cS F8 ?_ ?_ <;> intro h1009 e996
              · revert e996; refine bK fun x1010 hx1011 e996 => ?_
                obtain ⟨hx1011a, hx1011b, hx1011c, hx1011d⟩ := getI_some hx1011
                have f1012 : partCV Tryd.prog 72 (encL x1006.Code) (((i983).toNat) * 8) = some (.agg (eA x1010)) := partCV_enc hx1011d (f := 0) (by simp)
                obtain ⟨g1013, e996⟩ := guardO_some e996
                have g1013a : (andB (andB (eqI x1010.Op 21) (!(ltI x1010.Obj 0))) (ltI x1010.Obj ((a0.Funcs.length : Nat) : Int))) = true → 0 ≤ x1010.Obj := fun hg => (under_elem g1013 hg).1
                have g1013b : (andB (andB (eqI x1010.Op 21) (!(ltI x1010.Obj 0))) (ltI x1010.Obj ((a0.Funcs.length : Nat) : Int))) = true → x1010.Obj < (a0.Funcs.length : Int) := fun hg => (under_elem g1013 hg).2.1
                have g1013n : (andB (andB (eqI x1010.Op 21) (!(ltI x1010.Obj 0))) (ltI x1010.Obj ((a0.Funcs.length : Nat) : Int))) = true → (x1010.Obj).toNat < a0.Funcs.length := fun hg => by simpa using (under_elem g1013 hg).2.2.1
                have g1013c : (andB (andB (eqI x1010.Op 21) (!(ltI x1010.Obj 0))) (ltI x1010.Obj ((a0.Funcs.length : Nat) : Int))) = true → a0.Funcs[(x1010.Obj).toNat]? = some (gd a0.Funcs ((x1010.Obj).toNat)) := fun hg => by simpa using (under_elem g1013 hg).2.2.2
                have f1014 : (andB (andB (eqI x1010.Op 21) (!(ltI x1010.Obj 0))) (ltI x1010.Obj ((a0.Funcs.length : Nat) : Int))) = true → partCV Tryd.prog 56 (encL a0.Funcs) (((x1010.Obj).toNat) * 2) = some (.agg [tC ((gd a0.Funcs ((x1010.Obj).toNat)).Name), sC ((gd a0.Funcs ((x1010.Obj).toNat)).Code)]) := fun hg => partCV_enc (g1013c hg) (f := 0) (by simp)
                have F9 := an F8 (an f1012 (an g1013a (an g1013b (an g1013n f1014))))
                have F10 := an F9 (an hx1007a (an hx1007b (an hx1011a hx1011b)))
                refine goG F9 F10 ?_
                obtain ⟨g1015, e996⟩ := guardO_some e996
                refine gsel_call (fun hg => at_r26_spawned (under_call g1015 hg)) (fun hg => by (try simp at hg); (first | simp [hg, F9]); try rfl) (fun hg => by (try simp at hg); simp [hg, F9]) (by simp) ?_
                refine goG F9 F10 ?_
                revert e996; refine cS F9 ?_ ?_ <;> intro h1016 e996
                · refine goG F9 F10 ?_
                  obtain rfl := sj e996
                  try dsimp only at e966
                  obtain rfl := sj e966
                  try dsimp only at e907
                  refine hX969 _ _ (by simp) ?_
                  refine goG F9 F10 ?_
                  obtain rfl := sj e907
                  try dsimp only at e570
                  obtain rfl := sj e570
                  try dsimp only at hs
                  refine hX573 _ _ (by simp) ?_
                  refine goG F9 F10 ?_
                  obtain rfl := sj hs
                  exact hQ _ _ (rg F9 (Gh.refl _))
                · refine goG F9 F10 ?_
                  exact hL999 (q1002, IntKind.i64.wrap (i983 + 1)) _ _ (Gh.refl _) ⟨e996, pv F9, pv F9, pv F9, pv F9, pv F9, pv F9, pg⟩ (by omega)
              · refine goR F8 ?_
                obtain rfl := sj e996
                try dsimp only at e966
                exact hK968 () _ _ (Gh.refl _) ⟨e966, pv F8, pv F8, pv F8, pv F8, pv F8, pg⟩
          · obtain ⟨e966, h58_1, h58_2, h58_5, h58_8, g58_0, n58_g⟩ := hp
            obtain rfl := sj e966
            try dsimp only at e907
            have n58_0 : ¬ (σ57.gen = 0) := by omega
            have F11 := an h58_1 (an h58_2 (an h58_5 (an h58_8 (an g58_0 n58_0))))
            refine goR F11 ?_
            exact hL910 (q913, IntKind.i64.wrap (i796 + 1)) _ _ (Gh.refl _) ⟨e907, pv F11, pv F11, pv F11, pv F11, pv F11, pg⟩ (by omega)
        · refine goR F7 ?_
          obtain rfl := sj e907
          try dsimp only at e570
          exact hK572 () _ _ (Gh.refl _) ⟨e570, pv F7, pg⟩
    · obtain ⟨e570, h34_5, n34_g⟩ := hp
      obtain rfl := sj e570
      try dsimp only at hs
      refine goR h34_5 ?_
      obtain rfl := sj hs
      exact hQ _ _ (rg h34_5 (Gh.refl _))
end Go.Dc
end
section
set_option linter.all false
namespace Go.Dc
open Go Go.Hw Go.Proofs
set_option maxRecDepth 100000
def r26_Small_L1 : List Func → Nat → Option (Unit ⊕ Bool)
  | [], k42 => some (.inl ())
  | x59 :: q55, k42 => cond (ltI 12 ((x59.Code.length : Nat) : Int)) (some (.inr false)) (r26_Small_L1 q55 (k42 + 1))

def r26_Small (fuelN : Nat) (a0 : Program) (a1 : Int) : Option Bool :=
  cond (orB (orB (orB (orB (orB (ltI 4 ((a0.Funcs.length : Nat) : Int)) (ltI 4 ((a0.Threads.length : Nat) : Int))) (ltI 8 a1)) (ltI 8 ((a0.Vars.length : Nat) : Int))) (ltI 4 ((a0.Mutexes.length : Nat) : Int))) (ltI 4 ((a0.Conds.length : Nat) : Int))) (some false) (Option.bind (α := Unit ⊕ Bool) (Option.bind (r26_Small_L1 a0.Funcs 0) (fun o => match o with | .inl _ => some (.inl ()) | .inr r63 => some (.inr r63))) (fun o => match o with | .inl _ => Option.bind (r26_lone fuelN a0 a1) (fun y64 => some y64) | .inr r66 => some r66))

set_option maxHeartbeats 2000000 in
theorem at_r26_Small {fuelN : Nat} {a0 : Program} {a1 : Int} {r : Bool} (hs : r26_Small fuelN a0 a1 = some r) : At Tryd.prog 6 [.agg (eA a0), iV .i64 a1] (bV r) := by
  refine at_bound (by kernel_rfl) fun hb => ?_
  have hb1 : LenOk (.sl a0.Vars.length (encL a0.Vars)) := lkc hb
  have hb2 : LenOk (.sl a0.Mutexes.length (encL a0.Mutexes)) := lkc hb
  have hb3 : LenOk (.sl a0.Conds.length (encL a0.Conds)) := lkc hb
  have hb4 : LenOk (.sl a0.Funcs.length (encL a0.Funcs)) := lkc hb
  have hb5 : LenOk (.sl a0.Threads.length (encL a0.Threads)) := lkc hb
  refine at_code mixed Tryd.func6 (by kernel_rfl) rfl (by kernel_rfl) rfl fun Q hQ => ?_
  rw [r26_Small] at hs
  refine goG f0 f0 ?_
  revert hs; refine cS f0 ?_ ?_ <;> intro h1 hs
  · refine goG f0 f0 ?_
    obtain rfl := sj hs
    exact hQ _ _ (rg f0 (Gh.refl _))
  · refine goG2 f0 f0 ?_
    revert hs; refine bK fun o32 e31 hs => ?_
    refine awp_cutK (fun (v : Unit) (σ : St) => some (.inl v) = some o32 ∧ σ.env 1 = iV .i64 a1 ∧ σ.env 2 = .cell (.ref (.o 1 0 0) 0) ∧ σ.hp (.o 1 0 0) = some (.cells (eA a0)) ∧ 3 ≤ σ.gen) (by rfl) (fun Q hK33 hX34 => ?_) (fun v σ3 hp => ?_)
    · refine goG f0 f0 ?_
      revert e31; refine bK fun o50 e49 e31 => ?_
      refine awp_loopW (fun (v : (List Func) × Nat) (σ : St) => r26_Small_L1 v.1 v.2 = some o50 ∧ v.1 = a0.Funcs.drop v.2 ∧ σ.env 1 = iV .i64 a1 ∧ σ.env 2 = .cell (.ref (.o 1 0 0) 0) ∧ σ.env 5 = iV .i64 ((v.2 : Nat) : Int) ∧ σ.hp (.o 1 0 0) = some (.cells (eA a0)) ∧ 3 ≤ σ.gen) (fun v => v.1.length) _ (Gh.refl _) (a0.Funcs, 0) ⟨e49, by simp, pv f0, pv f0, pv f0, pv f0, pg⟩ fun v σ6 hp L51 hL52 => ?_
      obtain ⟨q54, k42⟩ := v
      dsimp only at hp hL52
      obtain ⟨e49, hd53, h5_1, h5_2, h5_5, g5_0, n5_g⟩ := hp
      have n5_0 : ¬ (σ6.gen = 0) := by omega
      rcases q54 with _ | ⟨x59, q55⟩
      · have hlt56 := drop_end hd53
        rw [r26_Small_L1] at e49; try dsimp only at e49
        have F1 := an h5_1 (an h5_2 (an h5_5 (an g5_0 n5_0)))
        refine goR F1 ?_
        refine condK_f (by simp [ltI]; omega) ?_
        obtain rfl := sj e49
        try dsimp only at e31
        exact hK33 () _ _ (Gh.refl _) ⟨e31, pv F1, pv F1, pv F1, pg⟩
      · obtain ⟨hx58, hlt56, hd60⟩ := drop_next hd53
        have ew57 := wrap_succ hlt56 (hb4).len
        rw [r26_Small_L1] at e49; try dsimp only at e49
        have F2 := an h5_1 (an h5_2 (an h5_5 (an g5_0 (an n5_0 (an hlt56 ew57)))))
        refine goR F2 ?_
        refine condK_t (by simp [ltI]; omega) ?_
        have f61 : partCV Tryd.prog 54 (encL a0.Funcs) (k42 * 2 + 1) = some (.cell (sC x59.Code)) := partCV_enc hx58 (f := 1) (by simp)
        have F3 := an F2 f61
        refine goR F3 ?_
        revert e49; refine cS F3 ?_ ?_ <;> intro h62 e49
        · refine goR F3 ?_
          obtain rfl := sj e49
          try dsimp only at e31
          obtain rfl := sj e31
          try dsimp only at hs
          refine hX34 _ _ (by simp) ?_
          refine goR F3 ?_
          obtain rfl := sj hs
          exact hQ _ _ (rg F3 (Gh.refl _))
        · refine goR F3 ?_
          exact hL52 (q55, (k42 + 1)) _ _ (Gh.refl _) ⟨e49, hd60, pv F3, pv F3, pv F3, pv F3, pg⟩ (by simp)
    · obtain ⟨e31, h4_1, h4_2, g4_0, n4_g⟩ := hp
      obtain rfl := sj e31
      try dsimp only at hs
      have n4_0 : ¬ (σ3.gen = 0) := by omega
      have F4 := an h4_1 (an h4_2 (an g4_0 n4_0))
      refine goG F4 F4 ?_
      revert hs; refine bK fun y64 hx65 hs => ?_
      refine cP F4 (at_r26_lone hx65) ?_
      refine goG F4 F4 ?_
      obtain rfl := sj hs
      exact hQ _ _ (rg F4 (Gh.refl _))
end Go.Dc
end
section
set_option linter.all false
namespace Go.Dc.Pl
open Go Go.Hw Go.Dc
/-! The size of what is checked. -/
theorem lone1 (p : Program) (a : Int) : ∀ (l : List Start) (i : Int) (k : Nat), ∃ r, r26_lone_L1 p a l i k = some r
  | [], i, k => ⟨i, rfl⟩
  | x :: q, i, k => by
    rw [r26_lone_L1]
    cases h : andB (!(ltI x.Func 0)) (ltI x.Func ((p.Funcs.length : Nat) : Int)) with
    | false => exact lone1 p a q i (k + 1)
    | true =>
      simp only [andB_d, ltI_d, Bool.and_eq_true, Bool.not_eq_true', decide_eq_false_iff_not, decide_eq_true_eq] at h
      obtain ⟨n, hn⟩ : ∃ n : Nat, x.Func = n := ⟨x.Func.toNat, by omega⟩
      rw [cond_true, hn, getI_nat, List.getElem?_eq_getElem (by omega), Option.bind_some]
      obtain ⟨y, hy⟩ : ∃ y, r26_spawned (p.Funcs[n]'(by omega)) a = some y := spawned_ex _ _
      rw [hy]; exact lone1 p a q _ (k + 1)
where
  spawnedL : ∀ (l : List Inst) (i : Int) (k : Nat), ∃ r, r26_spawned_L1 l i k = some r
    | [], i, k => ⟨i, rfl⟩
    | x :: q, i, k => by rw [r26_spawned_L1]; cases eqI x.Op 21 <;> exact spawnedL q _ _
  backL : ∀ (l : List Inst) (k : Nat), ∃ r, r26_back_L1 l k = some r
    | [], k => ⟨_, rfl⟩
    | x :: q, k => by rw [r26_back_L1]; cases andB (orB (eqI x.Op 4) (eqI x.Op 5)) (!(ltI ((k : Nat) : Int) x.N)) <;> first | exact backL q _ | exact ⟨_, rfl⟩
  back_ex (f : Func) : ∃ b, r26_back f = some b := by
    obtain ⟨r, hr⟩ := backL f.Code 0
    rw [r26_back, hr]; cases r <;> exact ⟨_, rfl⟩
  spawned_ex (f : Func) (a : Int) : ∃ y, r26_spawned f a = some y := by
    obtain ⟨r, hr⟩ := spawnedL f.Code 0 0
    obtain ⟨b, hb⟩ := back_ex f
    rw [r26_spawned, hr, hb]
    simp only [Option.bind_some, Option.isSome_some]
    rw [show orB (!ltI 0 r) true = true from orB_t _]
    cases andB (ltI 0 r) ((some b).getD default) <;> exact ⟨_, rfl⟩
theorem lone3 (p : Program) (a : Int) (k : Nat) (f : Func) (hf : p.Funcs[k]? = some f) (hc : f.Code.length ≤ 100) : ∀ (q j : Nat), j ≤ f.Code.length → f.Code.length < j + q → ∃ r, r26_lone_L3 p a (k : Int) q (j : Int) = some r
  | 0, j, h1, h2 => by omega
  | q + 1, j, h1, h2 => by
    rw [r26_lone_L3, getI_nat, hf, Option.bind_some]
    rcases Nat.lt_or_ge j f.Code.length with h | h
    · rw [ltI_d, decide_eq_true (by omega), cond_true, getI_nat, List.getElem?_eq_getElem h, Option.bind_some]
      generalize f.Code[j] = x
      obtain ⟨y, hy⟩ := lone1.spawned_ex (gd p.Funcs x.Obj.toNat) a
      rw [hy]
      have e1 : orB (!(andB (andB (eqI x.Op 21) (!(ltI x.Obj 0))) (ltI x.Obj ((p.Funcs.length : Nat) : Int)))) (inB x.Obj p.Funcs.length) = true := by
        simp only [orB_d, andB_d, ltI_d, inB_d]
        by_cases a : 0 ≤ x.Obj ∧ x.Obj < (p.Funcs.length : Int)
        · simp [a]
        · rw [decide_eq_false a]
          by_cases b : x.Obj < 0
          · simp [b]
          · simp [b]; right; omega
      rw [e1, guardO_t, show (some y).isSome = true from rfl, orB_t, guardO_t, wrapS (by omega)]
      cases andB (andB (andB (eqI x.Op 21) (!(ltI x.Obj 0))) (ltI x.Obj ((p.Funcs.length : Nat) : Int))) (ltI 0 ((some y).getD default)) with
      | true => exact ⟨_, rfl⟩
      | false => exact lone3 p a k f hf hc q (j + 1) (by omega) (by omega)
    · rw [ltI_d, decide_eq_false (by omega)]; exact ⟨_, rfl⟩
theorem lone2 (p : Program) (a : Int) (f : Nat) (hp : p.Funcs.length ≤ 20) (hc : ∀ g ∈ p.Funcs, g.Code.length ≤ 100) (hf : 200 ≤ f) : ∀ (q k : Nat), k ≤ p.Funcs.length → p.Funcs.length < k + q → ∃ r, r26_lone_L2 f p a q (k : Int) = some r
  | 0, k, h1, h2 => by omega
  | q + 1, k, h1, h2 => by
    rw [r26_lone_L2]
    rcases Nat.lt_or_ge k p.Funcs.length with h | h
    · obtain ⟨r, hr⟩ := lone3 p a k _ (List.getElem?_eq_getElem h) (hc _ (List.getElem_mem h)) f 0 (by omega) (by have := hc _ (List.getElem_mem h); omega)
      rw [ltI_d, decide_eq_true (by omega), cond_true, show (0 : Int) = ((0 : Nat) : Int) from rfl, hr, wrapS (by omega)]
      cases r with
      | inl u => exact lone2 p a f hp hc hf q (k + 1) (by omega) (by omega)
      | inr u => exact ⟨_, rfl⟩
    · rw [ltI_d, decide_eq_false (by omega)]; exact ⟨_, rfl⟩
theorem lone_ex (p : Program) (a : Int) {f : Nat} (hp : p.Funcs.length ≤ 20) (hc : ∀ g ∈ p.Funcs, g.Code.length ≤ 100) (hf : 200 ≤ f) : ∃ b, r26_lone f p a = some b := by
  obtain ⟨r, hr⟩ := lone1 p a p.Threads ((p.Threads.length : Nat) : Int) 0
  obtain ⟨s, hs⟩ := lone2 p a f hp hc hf f 0 (by omega) (by omega)
  rw [r26_lone, hr, show (0 : Int) = ((0 : Nat) : Int) from rfl, hs]
  cases s <;> exact ⟨_, rfl⟩
/-- Whether a job is small is answered; and what that says. -/
theorem small26 (p : Program) (a : Int) {f : Nat} (hf : 200 ≤ f) : ∃ b, r26_Small f p a = some b ∧ (b = true → small p = true) := by
  rw [r26_Small]
  cases h : orB (orB (orB (orB (orB (ltI 4 ((p.Funcs.length : Nat) : Int)) (ltI 4 ((p.Threads.length : Nat) : Int))) (ltI 8 a)) (ltI 8 ((p.Vars.length : Nat) : Int))) (ltI 4 ((p.Mutexes.length : Nat) : Int))) (ltI 4 ((p.Conds.length : Nat) : Int)) with
  | true => exact ⟨false, rfl, fun h => by cases h⟩
  | false =>
    simp only [orB_d, ltI_d, Bool.or_eq_false_iff, decide_eq_false_iff_not] at h
    have hs := srch (L := r26_Small_L1) (fun _ (g : Func) => onlyIf (ltI 12 ((g.Code.length : Nat) : Int)) false) (fun _ => rfl) p.Funcs 0 fun j x hx q => by
      rw [r26_Small_L1]; exact step_only _ _ _
    rw [first_onlyC] at hs
    rw [cond_false, hs]
    cases hc : p.Funcs.any fun g => ltI 12 ((g.Code.length : Nat) : Int) with
    | true => exact ⟨false, rfl, fun h => by cases h⟩
    | false =>
      have hc' : ∀ g ∈ p.Funcs, g.Code.length ≤ 12 := fun g hg => by
        have := (List.any_eq_false.1 hc) g hg
        simp [ltI_d] at this; omega
      obtain ⟨b, hb⟩ := lone_ex p a (f := f) (by omega) (fun g hg => by have := hc' g hg; omega) hf
      refine ⟨b, ?_, fun _ => ?_⟩
      · show Option.bind (r26_lone f p a) some = _
        rw [hb]; rfl
      · simp only [small, Bool.and_eq_true, decide_eq_true_eq, Bool.not_eq_true']
        refine ⟨by omega, List.any_eq_false.2 fun g hg => ?_⟩
        have := hc' g hg; simp; omega
/-! Whether a program and a configuration are in order. -/
def cfgE (c : Config) : Int := (program_CheckConfig c).getD 0
theorem own_cfg (c : Config) : program_CheckConfig c = some (cfgE c) := by
  have : (program_CheckConfig c).isSome = true := by
    unfold program_CheckConfig
    cases andB (andB (!(eqI c.Model 1)) (!(eqI c.Model 2))) (!(eqI c.Model 3)) with
    | true => rfl
    | false => cases orB (ltI c.Bound 1) (ltI 32 c.Bound) <;> rfl
  obtain ⟨x, hx⟩ := Option.isSome_iff_exists.1 this
  rw [cfgE, hx]; rfl
theorem ref_cfg (c : Config) : r08_CheckConfig c = some (cfgE c) := own_cfg c
def stdE (p : Program) (c : Config) : Int := cond (!(eqI (chk p).1 0)) (chk p).1 (cond (!(eqI (cfgE c) 0)) (cfgE c) (cond (eqI c.Model 3) 18 0))
theorem own_std {f : Nat} {p : Program} (c : Config) (h : small p = true) : checkpoint_standard (f + 8) p c = some (stdE p c) := by
  rw [checkpoint_standard, own_check h, own_cfg]
  simp only [Option.bind_some, stdE]
  cases eqI (chk p).1 0 <;> cases eqI (cfgE c) 0 <;> cases eqI c.Model 3 <;> rfl
theorem ref_std {f : Nat} {p : Program} (c : Config) (h : small p = true) (hf : 21 ≤ f) : r49_standard f p c = some (stdE p c) := by
  rw [r49_standard, ref_check h hf, ref_cfg]
  simp only [Option.bind_some, stdE]
  cases eqI (chk p).1 0 <;> cases eqI (cfgE c) 0 <;> cases eqI c.Model 3 <;> rfl
theorem std_chk {p : Program} {c : Config} (h : eqI (stdE p c) 0 = true) : eqI (chk p).1 0 = true := by
  unfold stdE at h
  cases h1 : eqI (chk p).1 0 with
  | true => rfl
  | false => rw [h1] at h; simp at h; rw [h] at h1; cases h1
/-! Names of a program that is in order are short. -/
theorem first_none {α β : Type} {f : Nat → α → Option β} : ∀ {l : List α} {k : Nat}, first f l k = none → ∀ j x, l[j]? = some x → f (k + j) x = none
  | [], _, _, j, x, hx => by simp at hx
  | y :: q, k, h, j, x, hx => by
    rw [first_cons] at h
    cases hy : f k y with
    | some r => rw [hy] at h; cases h
    | none =>
      rw [hy] at h
      cases j with
      | zero => simp at hx; subst hx; exact hy
      | succ j => have := first_none h j x (by simpa using hx); rwa [show k + (j + 1) = k + 1 + j by omega]
theorem badName_none {l : List ByteArray} (h : badName l = none) : ∀ x ∈ l, x.size ≤ 16 := fun x hx => by
  obtain ⟨j, hj⟩ := List.getElem?_of_mem hx
  have := first_none h j x hj
  rw [nmF] at this
  split at this
  · cases this
  · rename_i hk
    have : okName x = true := by simpa using hk
    simp only [okName, Bool.and_eq_true, decide_eq_true_eq] at this
    exact this.1.2
theorem names16 {p : Program} (h : eqI (chk p).1 0 = true) : (∀ v ∈ p.Vars, v.Name.size ≤ 16) ∧ (∀ x ∈ p.Mutexes, x.size ≤ 16) ∧ (∀ x ∈ p.Conds, x.size ≤ 16) ∧ ∀ g ∈ p.Funcs, g.Name.size ≤ 16 := by
  have hn : ckN p = none := by
    unfold chk at h
    cases hn : ckN p with
    | none => rfl
    | some r =>
      rw [hn] at h
      have : eqI r.1 0 = false := by
        rw [ckN] at hn
        split at hn
        · rename_i hb; obtain rfl := Option.some.inj hn; have := badName_ne hb; exact this
        · split at hn
          · rename_i hb; obtain rfl := Option.some.inj hn; have := badName_ne hb; exact this
          · split at hn
            · rename_i hb; obtain rfl := Option.some.inj hn; have := badName_ne hb; exact this
            · exact badName_ne hn
      simp [this] at h
  rw [ckN] at hn
  split at hn
  · cases hn
  · rename_i h1
    split at hn
    · cases hn
    · rename_i h2
      split at hn
      · cases hn
      · rename_i h3
        exact ⟨fun v hv => badName_none h1 _ (List.mem_map_of_mem hv), badName_none h2, badName_none h3, fun g hg => badName_none hn _ (List.mem_map_of_mem hg)⟩
end Go.Dc.Pl
end
section
set_option linter.all false
namespace Go.Dc.Pl
open Go Go.Hw Go.Dc
theorem appU_le (b : List UInt8) (n : Int) : (appU b n).length ≤ b.length + 9 := by
  unfold appU; split
  · omega
  · have := uintB_le9 (n := n.toNat) (by omega); simp; omega
theorem appI_le (b : List UInt8) (n : Int) : (appI b n).length ≤ b.length + 9 := by
  unfold appI; split
  · rename_i h; have := uintB_le9 (intCode_le h); simp; omega
  · omega
theorem appS_le (b : List UInt8) {s : ByteArray} (h : s.size ≤ 16) : (appS b s).length ≤ b.length + 25 := by
  have h9 := uintB_le9 (n := s.size) (by omega); have := str_len s
  unfold appS; simp; omega
/-- Bytes appended element by element. -/
theorem foldA {α : Type} {L : List α → List UInt8 → Nat → Option (List UInt8)} (g : List UInt8 → α → List UInt8) (c B : Nat) (ok : α → Prop) (h0 : ∀ b k, L [] b k = some b)
    (h1 : ∀ x q b k, ok x → b.length ≤ B → L (x :: q) b k = L q (g b x) (k + 1)) (hl : ∀ x b, ok x → (g b x).length ≤ b.length + c) :
    ∀ (l : List α) (b : List UInt8) (k : Nat), (∀ x ∈ l, ok x) → b.length + c * l.length ≤ B → L l b k = some (l.foldl g b) ∧ (l.foldl g b).length ≤ b.length + c * l.length
  | [], b, k, _, _ => ⟨h0 b k, by simp⟩
  | x :: q, b, k, ho, hb => by
    have hx := ho x (by simp)
    have hg := hl x b hx
    rw [List.length_cons, Nat.mul_succ] at hb ⊢
    obtain ⟨e1, e2⟩ := foldA g c B ok h0 h1 hl q (g b x) (k + 1) (fun y hy => ho y (by simp [hy])) (by omega)
    refine ⟨by rw [h1 x q b k hx (by omega)]; exact e1, ?_⟩
    show (List.foldl g (g b x) q).length ≤ _
    omega
def numsB (b : List UInt8) (l : List Int) : List UInt8 := l.foldl appI b
theorem own_nums {f : Nat} {b : List UInt8} {l : List Int} (hf : 9 ≤ f) (h : b.length + 9 * l.length ≤ 1000000) : checkpoint_text_1 f l b = some (numsB b l) ∧ (numsB b l).length ≤ b.length + 9 * l.length := by
  have := foldA (L := fun l b k => checkpoint_text_1_L1 f l k b) appI 9 1000000 (fun _ => True) (fun b k => rfl) (fun x q b k _ hb => by
    show checkpoint_text_1_L1 f (x :: q) k b = _
    rw [checkpoint_text_1_L1, own_appI hf (by omega)]; rfl) (fun x b _ => appI_le b x) l b 0 (fun _ _ => trivial) h
  exact ⟨by rw [checkpoint_text_1, this.1]; rfl, this.2⟩
theorem ref_nums {f : Nat} {b : List UInt8} {l : List Int} (hf : 9 ≤ f) (h : b.length + 9 * l.length ≤ 1000000) : r49_numbers f b l = some (numsB b l) := by
  have := foldA (L := r49_numbers_L1 f) appI 9 1000000 (fun _ => True) (fun b k => rfl) (fun x q b k _ hb => by
    rw [r49_numbers_L1, ref_appI hf (by omega)]; rfl) (fun x b _ => appI_le b x) l b 0 (fun _ _ => trivial) h
  rw [r49_numbers, this.1]; rfl
theorem nums_le (b : List UInt8) (l : List Int) : (numsB b l).length ≤ b.length + 9 * l.length := by
  induction l generalizing b with
  | nil => simp [numsB]
  | cons x l ih => have h1 := ih (appI b x); have h2 := appI_le b x; simp only [numsB, List.foldl_cons, List.length_cons] at h1 ⊢; omega
def namesB (b : List UInt8) (l : List ByteArray) : List UInt8 := l.foldl appS (appU b (l.length : Int))
theorem own_namesB {f : Nat} {b : List UInt8} {l : List ByteArray} (hf : 9 ≤ f) (hl : ∀ x ∈ l, x.size ≤ 16) (h : b.length + 9 + 25 * l.length ≤ 1000000) :
    checkpoint_text_3_checkpoint_text_2 f l b = some (namesB b l) ∧ (namesB b l).length ≤ b.length + 9 + 25 * l.length := by
  have hu := appU_le b (l.length : Int)
  have := foldA (L := fun l b k => checkpoint_text_3_checkpoint_text_2_L1 f l k b) appS 25 1000000 (fun x => x.size ≤ 16) (fun b k => rfl) (fun x q b k hx hb => by
    show checkpoint_text_3_checkpoint_text_2_L1 f (x :: q) k b = _
    rw [checkpoint_text_3_checkpoint_text_2_L1, own_appS hf (by omega) (by omega)]; rfl) (fun x b hx => appS_le b hx) l (appU b (l.length : Int)) 0 hl (by omega)
  refine ⟨?_, by have := this.2; unfold namesB; omega⟩
  rw [checkpoint_text_3_checkpoint_text_2, checkpoint_text_2, own_appU hf (by omega)]
  simp only [Option.bind_some, this.1]; rfl
theorem ref_namesB {f : Nat} {b : List UInt8} {l : List ByteArray} (hf : 9 ≤ f) (hl : ∀ x ∈ l, x.size ≤ 16) (h : b.length + 9 + 25 * l.length ≤ 1000000) : r49_names f b l = some (namesB b l) := by
  have hu := appU_le b (l.length : Int)
  have := foldA (L := r49_names_L1 f) appS 25 1000000 (fun x => x.size ≤ 16) (fun b k => rfl) (fun x q b k hx hb => by
    rw [r49_names_L1, ref_appS hf (by omega) (by omega)]; rfl) (fun x b hx => appS_le b hx) l (appU b (l.length : Int)) 0 hl (by omega)
  rw [r49_names, ref_appU hf (by omega)]
  simp only [Option.bind_some, this.1]; rfl
def varB (b : List UInt8) (v : Var) : List UInt8 := numsB (appS b v.Name) [v.Init]
def fieldsI (x : Inst) : List Int := [x.Op, x.A, x.B, x.C, x.Obj, x.N, x.Fn, x.Order]
def instB (b : List UInt8) (x : Inst) : List UInt8 := numsB b (fieldsI x)
def funcB (b : List UInt8) (g : Func) : List UInt8 := g.Code.foldl instB (appU (appS b g.Name) (g.Code.length : Int))
def startB (b : List UInt8) (t : Start) : List UInt8 := numsB b [t.Func, t.Arg]
def textB (p : Program) (c : Config) : List UInt8 :=
  p.Threads.foldl startB (appU (p.Funcs.foldl funcB (appU (namesB (namesB (p.Vars.foldl varB (appU (numsB [] [c.Model, c.Bound]) (p.Vars.length : Int))) p.Mutexes) p.Conds) (p.Funcs.length : Int))) (p.Threads.length : Int))
theorem code_own {f : Nat} (hf : 9 ≤ f) (l : List Inst) (b : List UInt8) (h : b.length + 72 * l.length ≤ 900000) : checkpoint_text_L3 f l 0 b = some (l.foldl instB b) ∧ (l.foldl instB b).length ≤ b.length + 72 * l.length :=
  foldA (L := fun l b k => checkpoint_text_L3 f l k b) instB 72 900000 (fun _ => True) (fun b k => rfl) (fun x q b k _ hb => by
    show checkpoint_text_L3 f (x :: q) k b = _
    rw [checkpoint_text_L3]
    simp only [Option.bind_some]
    rw [(own_nums (l := [x.Op, x.A, x.B, x.C, x.Obj, x.N, x.Fn, x.Order]) hf (by simp; omega)).1]; rfl) (fun x b _ => by have := nums_le b (fieldsI x); simpa [instB, fieldsI] using this) l b 0 (fun _ _ => trivial) h
theorem code_ref {f : Nat} (hf : 9 ≤ f) (l : List Inst) (b : List UInt8) (h : b.length + 72 * l.length ≤ 900000) : r49_Digest_L3 f l b 0 = some (l.foldl instB b) :=
  (foldA (L := r49_Digest_L3 f) instB 72 900000 (fun _ => True) (fun b k => rfl) (fun x q b k _ hb => by
    rw [r49_Digest_L3]
    simp only [Option.bind_some]
    rw [ref_nums (l := [x.Op, x.A, x.B, x.C, x.Obj, x.N, x.Fn, x.Order]) hf (by simp; omega)]; rfl) (fun x b _ => by have := nums_le b (fieldsI x); simpa [instB, fieldsI] using this) l b 0 (fun _ _ => trivial) h).1
theorem funcB_le {b : List UInt8} {g : Func} (h : g.Name.size ≤ 16) : (funcB b g).length ≤ b.length + 34 + 72 * g.Code.length := by
  have h1 := appS_le b h
  have h2 := appU_le (appS b g.Name) (g.Code.length : Int)
  have : ∀ (l : List Inst) (b : List UInt8), (l.foldl instB b).length ≤ b.length + 72 * l.length := fun l => by
    induction l with
    | nil => intro b; simp
    | cons x l ih => intro b; have h3 := ih (instB b x); have h4 := nums_le b (fieldsI x); simp only [List.foldl_cons, List.length_cons]; simp only [instB, fieldsI, List.length_cons, List.length_nil] at h3 h4 ⊢; omega
  have h3 := this g.Code (appU (appS b g.Name) (g.Code.length : Int))
  unfold funcB; omega
theorem zip_foldl {α σ : Type} (g : σ → α → σ) : ∀ (l : List α) (k : Nat) (s : σ), (l.zipIdx k).foldl (fun s x => g s x.1) s = l.foldl g s
  | [], _, _ => rfl
  | x :: l, k, s => by rw [List.zipIdx_cons, List.foldl_cons, List.foldl_cons, zip_foldl g l]
theorem funcs_own {f : Nat} (hf : 200 ≤ f) (p : Program) (hp : p.Funcs.length ≤ 20) (hc : ∀ g ∈ p.Funcs, g.Code.length ≤ 100 ∧ g.Name.size ≤ 16) (b : List UInt8) (hb : b.length ≤ 10000) :
    checkpoint_text_L2 f p f 0 b = some (p.Funcs.foldl funcB b) ∧ (p.Funcs.foldl funcB b).length ≤ 10000 + 7234 * 20 := by
  have h := foldI (L := fun q s i => checkpoint_text_L2 f p q i s) p.Funcs (fun _ g s => funcB s g) (fun k s => s.length ≤ 10000 + 7234 * k) (fun q s _ => by
      show checkpoint_text_L2 f p (q + 1) _ s = _
      rw [checkpoint_text_L2, ltI_d, decide_eq_false (by omega)]; rfl) (fun q k s x hx hs => by
      have hk := getN_some hx
      obtain ⟨c1, c2⟩ := hc x (List.mem_of_getElem? hx)
      have hl := funcB_le (b := s) c2
      have ha := appS_le s c2
      have hu := appU_le (appS s x.Name) (x.Code.length : Int)
      refine ⟨?_, by omega⟩
      show checkpoint_text_L2 f p (q + 1) _ s = checkpoint_text_L2 f p q _ _
      rw [checkpoint_text_L2, ltI_d, decide_eq_true (by omega), cond_true, getI_nat, hx, Option.bind_some, own_appS (by omega) (by omega) (by omega), Option.bind_some, checkpoint_text_2, own_appU (by omega) (by omega)]
      simp only [Option.bind_some]
      rw [(code_own (by omega) x.Code _ (by omega)).1, wrapS (by omega)]; rfl) f 0 b (by omega) (by omega) (by omega)
  rw [List.drop_zero, zip_foldl (fun s g => funcB s g)] at h
  refine ⟨h, ?_⟩
  have : ∀ (l : List Func) (b : List UInt8), (∀ g ∈ l, g.Code.length ≤ 100 ∧ g.Name.size ≤ 16) → (l.foldl funcB b).length ≤ b.length + 7234 * l.length := fun l => by
    induction l with
    | nil => intro b _; simp
    | cons x l ih => intro b hl; have h3 := ih (funcB b x) (fun g hg => hl g (by simp [hg])); have h4 := funcB_le (b := b) (hl x (by simp)).2; have h5 := (hl x (by simp)).1; simp only [List.foldl_cons, List.length_cons]; omega
  have := this p.Funcs b hc
  have e : 7234 * p.Funcs.length ≤ 7234 * 20 := Nat.mul_le_mul_left _ hp
  omega
theorem funcs_ref {f : Nat} (hf : 200 ≤ f) (p : Program) (hp : p.Funcs.length ≤ 20) (hc : ∀ g ∈ p.Funcs, g.Code.length ≤ 100 ∧ g.Name.size ≤ 16) (b : List UInt8) (hb : b.length ≤ 10000) :
    r49_Digest_L2 f p f b 0 = some (p.Funcs.foldl funcB b) := by
  have h := foldI (L := fun q s i => r49_Digest_L2 f p q s i) p.Funcs (fun _ g s => funcB s g) (fun k s => s.length ≤ 10000 + 7234 * k) (fun q s _ => by
      show r49_Digest_L2 f p (q + 1) s _ = _
      rw [r49_Digest_L2, ltI_d, decide_eq_false (by omega)]; rfl) (fun q k s x hx hs => by
      have hk := getN_some hx
      obtain ⟨c1, c2⟩ := hc x (List.mem_of_getElem? hx)
      have hl := funcB_le (b := s) c2
      have ha := appS_le s c2
      have hu := appU_le (appS s x.Name) (x.Code.length : Int)
      refine ⟨?_, by omega⟩
      show r49_Digest_L2 f p (q + 1) s _ = r49_Digest_L2 f p q _ _
      rw [r49_Digest_L2, ltI_d, decide_eq_true (by omega), cond_true, getI_nat, hx, Option.bind_some, ref_appS (by omega) (by omega) (by omega), Option.bind_some, ref_appU (by omega) (by omega)]
      simp only [Option.bind_some]
      rw [code_ref (by omega) x.Code _ (by omega), wrapS (by omega)]; rfl) f 0 b (by omega) (by omega) (by omega)
  rw [List.drop_zero, zip_foldl (fun s g => funcB s g)] at h
  exact h
/-- The text, by both; and its length. -/
theorem text_eq {f : Nat} (hf : 200 ≤ f) {p : Program} (c : Config) (h : small p = true) (hk : eqI (chk p).1 0 = true) :
    checkpoint_text f p c = some (textB p c) ∧ (textB p c).length ≤ 200000 ∧
    (∀ K : List UInt8 → Option (Int × Int), (Option.bind (r49_numbers f [] [c.Model, c.Bound]) fun y6 => Option.bind (r06_AppendUint f y6 ((p.Vars.length : Nat) : Int)) fun y8 => Option.bind (Option.bind (r49_Digest_L1 f p.Vars y8 0) fun l82 => some l82) fun l53 => Option.bind (r49_names f l53 p.Mutexes) fun y101 => Option.bind (r49_names f y101 p.Conds) fun y103 => Option.bind (r06_AppendUint f y103 ((p.Funcs.length : Nat) : Int)) fun y105 => Option.bind (Option.bind (r49_Digest_L2 f p f y105 0) fun l1039 => some l1039) fun l638 => Option.bind (r06_AppendUint f l638 ((p.Threads.length : Nat) : Int)) fun y1174 => Option.bind (Option.bind (r49_Digest_L4 f p.Threads y1174 0) fun l1326 => some l1326) K) = K (textB p c)) := by
  obtain ⟨s1, s2, s3, s4, s5, s6⟩ := small_t h
  obtain ⟨n1, n2, n3, n4⟩ := names16 hk
  have a1 := nums_le [] [c.Model, c.Bound]
  simp only [List.length_nil, List.length_cons] at a1
  have a2 := appU_le (numsB [] [c.Model, c.Bound]) (p.Vars.length : Int)
  have hv := foldA (L := fun l b k => checkpoint_text_L1 f l k b) varB 34 100000 (fun v => v.Name.size ≤ 16) (fun b k => rfl) (fun x q b k hx hb => by
    show checkpoint_text_L1 f (x :: q) k b = _
    have := appS_le b hx
    rw [checkpoint_text_L1, own_appS (by omega) (by omega) (by omega)]
    simp only [Option.bind_some]
    rw [(own_nums (l := [x.Init]) (by omega) (by simp; omega)).1]; rfl) (fun x b hx => by have h1 := appS_le b hx; have h2 := nums_le (appS b x.Name) [x.Init]; simp only [List.length_cons, List.length_nil] at h2; unfold varB; omega)
    p.Vars (appU (numsB [] [c.Model, c.Bound]) (p.Vars.length : Int)) 0 n1 (by omega)
  have hv' := foldA (L := r49_Digest_L1 f) varB 34 100000 (fun v => v.Name.size ≤ 16) (fun b k => rfl) (fun x q b k hx hb => by
    have := appS_le b hx
    rw [r49_Digest_L1, ref_appS (by omega) (by omega) (by omega), Option.bind_some, ref_appI (by omega) (by omega)]; rfl) (fun x b hx => by have h1 := appS_le b hx; have h2 := nums_le (appS b x.Name) [x.Init]; simp only [List.length_cons, List.length_nil] at h2; unfold varB; omega)
    p.Vars (appU (numsB [] [c.Model, c.Bound]) (p.Vars.length : Int)) 0 n1 (by omega)
  obtain ⟨hv1, hv2⟩ := hv
  generalize hV : p.Vars.foldl varB (appU (numsB [] [c.Model, c.Bound]) (p.Vars.length : Int)) = V at hv1 hv2 hv'
  obtain ⟨m1, m2⟩ := own_namesB (f := f) (b := V) (by omega) n2 (by omega)
  have m3 := ref_namesB (f := f) (b := V) (by omega) n2 (by omega)
  obtain ⟨c1, c2⟩ := own_namesB (f := f) (b := namesB V p.Mutexes) (by omega) n3 (by omega)
  have c3 := ref_namesB (f := f) (b := namesB V p.Mutexes) (by omega) n3 (by omega)
  have u1 := appU_le (namesB (namesB V p.Mutexes) p.Conds) (p.Funcs.length : Int)
  obtain ⟨f1, f2⟩ := funcs_own hf p s4 (fun g hg => ⟨s6 g hg, n4 g hg⟩) (appU (namesB (namesB V p.Mutexes) p.Conds) (p.Funcs.length : Int)) (by omega)
  have f3 := funcs_ref hf p s4 (fun g hg => ⟨s6 g hg, n4 g hg⟩) (appU (namesB (namesB V p.Mutexes) p.Conds) (p.Funcs.length : Int)) (by omega)
  generalize hF : p.Funcs.foldl funcB (appU (namesB (namesB V p.Mutexes) p.Conds) (p.Funcs.length : Int)) = F at f1 f2 f3
  have u2 := appU_le F (p.Threads.length : Int)
  have ht := foldA (L := fun l b k => checkpoint_text_L4 f l k b) startB 18 900000 (fun _ => True) (fun b k => rfl) (fun x q b k _ hb => by
    show checkpoint_text_L4 f (x :: q) k b = _
    rw [checkpoint_text_L4]
    simp only [Option.bind_some]
    rw [(own_nums (l := [x.Func, x.Arg]) (by omega) (by simp; omega)).1]; rfl) (fun x b _ => by have := nums_le b [x.Func, x.Arg]; simpa [startB] using this) p.Threads (appU F (p.Threads.length : Int)) 0 (fun _ _ => trivial) (by omega)
  have ht' := foldA (L := r49_Digest_L4 f) startB 18 900000 (fun _ => True) (fun b k => rfl) (fun x q b k _ hb => by
    rw [r49_Digest_L4]
    simp only [Option.bind_some]
    rw [ref_nums (l := [x.Func, x.Arg]) (by omega) (by simp; omega)]; rfl) (fun x b _ => by have := nums_le b [x.Func, x.Arg]; simpa [startB] using this) p.Threads (appU F (p.Threads.length : Int)) 0 (fun _ _ => trivial) (by omega)
  have eT : textB p c = p.Threads.foldl startB (appU F (p.Threads.length : Int)) := by unfold textB; rw [hV, hF]
  refine ⟨?_, by rw [eT]; have := ht.2; omega, fun K => ?_⟩
  · rw [checkpoint_text]
    simp only [Option.bind_some]
    rw [(own_nums (l := [c.Model, c.Bound]) (by omega) (by simp)).1]
    simp only [Option.bind_some, checkpoint_text_2]
    rw [own_appU (by omega) (by omega)]
    simp only [Option.bind_some]
    rw [hv1]
    simp only [Option.bind_some]
    rw [m1]
    simp only [Option.bind_some]
    rw [c1]
    simp only [Option.bind_some]
    rw [own_appU (by omega) (by omega)]
    simp only [Option.bind_some]
    rw [f1]
    simp only [Option.bind_some]
    rw [own_appU (by omega) (by omega)]
    simp only [Option.bind_some]
    rw [ht.1, eT]; rfl
  · rw [ref_nums (by omega) (by simp)]
    simp only [Option.bind_some]
    rw [ref_appU (by omega) (by omega)]
    simp only [Option.bind_some]
    rw [hv'.1]
    simp only [Option.bind_some]
    rw [m3]
    simp only [Option.bind_some]
    rw [c3]
    simp only [Option.bind_some]
    rw [ref_appU (by omega) (by omega)]
    simp only [Option.bind_some]
    rw [f3]
    simp only [Option.bind_some]
    rw [ref_appU (by omega) (by omega)]
    simp only [Option.bind_some]
    rw [ht'.1, eT]; rfl
/-- The digest. -/
def digest (p : Program) (c : Config) : Int × Int := cond (!(eqI (stdE p c) 0)) (0, stdE p c) (((crc (textB p c) : Nat) : Int), 0)
theorem own_digest {f : Nat} (hf : 300000 ≤ f) {p : Program} (c : Config) (h : small p = true) : checkpoint_Digest f p c = some (digest p c) := by
  obtain ⟨f, rfl⟩ : ∃ g, f = g + 8 := ⟨f - 8, by omega⟩
  rw [checkpoint_Digest, own_std c h, Option.bind_some, digest]
  cases hs : eqI (stdE p c) 0 with
  | false => rfl
  | true =>
    obtain ⟨h1, h2, h3⟩ := text_eq (f := f + 8) (by omega) c h (std_chk hs)
    have hc := crc_lt (textB p c)
    rw [Bool.not_true, cond_false, h1, Option.bind_some, own_crc (by omega) (by omega) (by omega), Option.bind_some, wrap_i64 (by omega) (by omega)]; rfl
theorem ref_digest {f : Nat} (hf : 300000 ≤ f) {p : Program} (c : Config) (h : small p = true) : r49_Digest f p c = some (digest p c) := by
  rw [r49_Digest, ref_std c h (by omega), Option.bind_some, digest]
  cases hs : eqI (stdE p c) 0 with
  | false => rfl
  | true =>
    obtain ⟨h1, h2, h3⟩ := text_eq (f := f) (by omega) c h (std_chk hs)
    have hc := crc_lt (textB p c)
    rw [Bool.not_true, cond_false]
    simp only [Option.bind_some]
    rw [h3, ref_crc (by omega) (by omega) (by omega), Option.bind_some, wrap_i64 (by omega) (by omega)]; rfl
end Go.Dc.Pl
end
section
set_option linter.all false
namespace Go.Dc
open Go Go.Hw Go.Proofs
set_option maxRecDepth 100000

def checkpoint_agent (a0 : Int) : Option Bool :=
  some (andB (!(ltI a0 (-2147483648))) (!(ltI 2147483647 a0)))

set_option maxHeartbeats 2000000 in
theorem at_checkpoint_agent {a0 : Int} {r : Bool} (hs : checkpoint_agent a0 = some r) : At Tryd.prog 61 [iV .i64 a0] (bV r) := by
  refine at_bound (by kernel_rfl) fun hb => ?_
  refine at_code mixed Tryd.func61 (by kernel_rfl) rfl (by kernel_rfl) rfl fun Q hQ => ?_
  rw [checkpoint_agent] at hs
  refine goG f0 f0 ?_
  obtain rfl := sj hs
  exact hQ _ _ (rg f0 (Gh.refl _))
end Go.Dc
end
section
set_option linter.all false
namespace Go.Dc
open Go Go.Hw Go.Proofs
set_option maxRecDepth 100000
def checkpoint_shallow_L1 (a1 : Int) (rF62z : Tree → Int → Option Bool) : List Tree → Nat → Option (Unit ⊕ Bool)
  | [], k54 => some (.inl ())
  | x74 :: q70, k54 => Option.bind (checkpoint_agent x74.Agent) (fun y77 => guardO (orB (!y77) ((rF62z x74 (IntKind.i64.wrap (a1 - 1))).isSome)) (cond (orB (!y77) (!((rF62z x74 (IntKind.i64.wrap (a1 - 1))).getD default))) (some (.inr false)) (checkpoint_shallow_L1 a1 rF62z q70 (k54 + 1))))

def checkpoint_shallow_B (rF62z : Tree → Int → Option Bool) (a0 : Tree) (a1 : Int) : Option Bool :=
  cond (andB (ltI 0 ((a0.Kids.length : Nat) : Int)) (eqI a1 0)) (some false) (Option.bind (α := Unit ⊕ Bool) (Option.bind (checkpoint_shallow_L1 a1 rF62z a0.Kids 0) (fun o => match o with | .inl _ => some (.inl ()) | .inr r81 => some (.inr r81))) (fun o => match o with | .inl _ => some true | .inr r82 => some r82))

def checkpoint_shallow : Nat → Tree → Int → Option Bool
  | 0 => fun _ _ => none
  | fuelN + 1 => fun a0 a1 => checkpoint_shallow_B (checkpoint_shallow fuelN) a0 a1

set_option maxHeartbeats 2000000 in
theorem at_checkpoint_shallow_B {rF62z : Tree → Int → Option Bool} (ihrF62z : ∀ (a0 : Tree) (a1 : Int) (r : Bool), rF62z a0 a1 = some r → At Tryd.prog 62 [.agg (eA a0), iV .i64 a1] (bV r)) {a0 : Tree} {a1 : Int} {r : Bool} (hs : checkpoint_shallow_B rF62z a0 a1 = some r) : At Tryd.prog 62 [.agg (eA a0), iV .i64 a1] (bV r) := by
  refine at_bound (by kernel_rfl) fun hb => ?_
  have hb1 : LenOk (.sl a0.Kids.length (encL a0.Kids)) := lkc hb
  refine at_code mixed Tryd.func62 (by kernel_rfl) rfl (by kernel_rfl) rfl fun Q hQ => ?_
  rw [checkpoint_shallow_B] at hs
  refine goG f0 f0 ?_
  revert hs; refine cS f0 ?_ ?_ <;> intro h1 hs
  · refine goG f0 f0 ?_
    obtain rfl := sj hs
    exact hQ _ _ (rg f0 (Gh.refl _))
  · refine goG2 f0 f0 ?_
    revert hs; refine bK fun o41 e40 hs => ?_
    refine awp_cutK (fun (v : Unit) (σ : St) => some (.inl v) = some o41 ∧ 3 ≤ σ.gen) (by rfl) (fun Q hK42 hX43 => ?_) (fun v σ3 hp => ?_)
    · refine goG f0 f0 ?_
      revert e40; refine bK fun o65 e64 e40 => ?_
      refine awp_loopW (fun (v : (List Tree) × Nat) (σ : St) => checkpoint_shallow_L1 a1 rF62z v.1 v.2 = some o65 ∧ v.1 = a0.Kids.drop v.2 ∧ σ.env 1 = iV .i64 a1 ∧ σ.env 16 = .cell (sC a0.Kids) ∧ σ.env 17 = iV .i64 ((a0.Kids.length : Nat) : Int) ∧ σ.env 18 = iV .i64 ((v.2 : Nat) : Int) ∧ 3 ≤ σ.gen) (fun v => v.1.length) _ (Gh.refl _) (a0.Kids, 0) ⟨e64, by simp, pv f0, pv f0, pv f0, pv f0, pg⟩ fun v σ6 hp L66 hL67 => ?_
      obtain ⟨q69, k54⟩ := v
      dsimp only at hp hL67
      obtain ⟨e64, hd68, h5_1, h5_16, h5_17, h5_18, n5_g⟩ := hp
      rcases q69 with _ | ⟨x74, q70⟩
      · have hlt71 := drop_end hd68
        rw [checkpoint_shallow_L1] at e64; try dsimp only at e64
        have F1 := an h5_1 (an h5_16 (an h5_17 h5_18))
        refine goR F1 ?_
        refine condK_f (by simp [ltI]; omega) ?_
        obtain rfl := sj e64
        try dsimp only at e40
        exact hK42 () _ _ (Gh.refl _) ⟨e40, pg⟩
      · obtain ⟨hx73, hlt71, hd75⟩ := drop_next hd68
        have ew72 := wrap_succ hlt71 (hb1).len
        rw [checkpoint_shallow_L1] at e64; try dsimp only at e64
        have F2 := an h5_1 (an h5_16 (an h5_17 (an h5_18 (an hlt71 ew72))))
        refine goR F2 ?_
        refine condK_t (by simp [ltI]; omega) ?_
        have f76 : partCV Tryd.prog 77 (encL a0.Kids) (k54 * 2) = some (.agg (eA x74)) := partCV_enc hx73 (f := 0) (by simp)
        have F3 := an F2 f76
        refine goR F3 ?_
        revert e64; refine bK fun y77 hx78 e64 => ?_
        refine cP F3 (at_checkpoint_agent hx78) ?_
        refine goG F3 F3 ?_
        obtain ⟨g79, e64⟩ := guardO_some e64
        refine gsel_call (fun hg => ihrF62z _ _ _ (under_call g79 hg)) (fun hg => by (try simp at hg); (first | simp [hg, F3]); try rfl) (fun hg => by (try simp at hg); simp [hg, F3]) (by simp) ?_
        refine goG F3 F3 ?_
        revert e64; refine cS F3 ?_ ?_ <;> intro h80 e64
        · refine goG F3 F3 ?_
          obtain rfl := sj e64
          try dsimp only at e40
          obtain rfl := sj e40
          try dsimp only at hs
          refine hX43 _ _ (by simp) ?_
          refine goG F3 F3 ?_
          obtain rfl := sj hs
          exact hQ _ _ (rg F3 (Gh.refl _))
        · refine goG F3 F3 ?_
          exact hL67 (q70, (k54 + 1)) _ _ (Gh.refl _) ⟨e64, hd75, pv F3, pv F3, pv F3, pv F3, pg⟩ (by simp)
    · obtain ⟨e40, n4_g⟩ := hp
      obtain rfl := sj e40
      try dsimp only at hs
      refine goG f0 f0 ?_
      obtain rfl := sj hs
      exact hQ _ _ (rg f0 (Gh.refl _))
theorem at_checkpoint_shallow : ∀ {fuelN : Nat} {a0 : Tree} {a1 : Int} {r : Bool} (hs : checkpoint_shallow fuelN a0 a1 = some r), At Tryd.prog 62 [.agg (eA a0), iV .i64 a1] (bV r)
  | 0, _, _, _, hs => by rw [checkpoint_shallow] at hs; cases hs
  | n + 1, _, _, _, hs => by
    rw [checkpoint_shallow] at hs
    exact at_checkpoint_shallow_B (fun _ _ _ h => at_checkpoint_shallow h) hs
end Go.Dc
end
section
set_option linter.all false
namespace Go.Dc
open Go Go.Hw Go.Proofs
set_option maxRecDepth 100000
def wakeup_Valid_1_wakeup_Valid_1_L2 (x1270 : Tree) : List Tree → Nat → Option (Unit ⊕ Bool)
  | [], k1317 => some (.inl ())
  | x1334 :: q1330, k1317 => cond (eqI x1334.Agent x1270.Agent) (some (.inr false)) (wakeup_Valid_1_wakeup_Valid_1_L2 x1270 q1330 (k1317 + 1))

def wakeup_Valid_1_wakeup_Valid_1_L1 (a0 : List Tree) (rF76q76z : (List Tree) → Option Bool) : Nat → Int → Option (Unit ⊕ Bool)
  | 0, _ => none
  | q1188 + 1, i1013 => cond (ltI i1013 ((a0.length : Nat) : Int)) (Option.bind (α := Unit ⊕ Bool) (Option.bind (getI a0 i1013) (fun x1270 => guardO (slB 0 i1013 a0.length) (Option.bind (some (subL a0 0 i1013)) (fun l1274 => Option.bind (α := Unit ⊕ Bool) (Option.bind (wakeup_Valid_1_wakeup_Valid_1_L2 x1270 l1274 0) (fun o => match o with | .inl _ => some (.inl ()) | .inr r1338 => some (.inr r1338))) (fun o => match o with | .inl _ => Option.bind (rF76q76z x1270.Kids) (fun y1339 => cond (!y1339) (some (.inr false)) (some (.inl ()))) | .inr r1342 => some (.inr r1342)))))) (fun o => match o with | .inl _ => wakeup_Valid_1_wakeup_Valid_1_L1 a0 rF76q76z q1188 (IntKind.i64.wrap (i1013 + 1)) | .inr r1343 => some (.inr r1343))) (some (.inl ()))

def wakeup_Valid_1_wakeup_Valid_1_B (rF76q76z : (List Tree) → Option Bool) (fuelN : Nat) (a0 : List Tree) : Option Bool :=
  Option.bind (α := Unit ⊕ Bool) (Option.bind (wakeup_Valid_1_wakeup_Valid_1_L1 a0 rF76q76z fuelN 0) (fun o => match o with | .inl _ => some (.inl ()) | .inr r1344 => some (.inr r1344))) (fun o => match o with | .inl _ => some true | .inr r1345 => some r1345)

def wakeup_Valid_1_wakeup_Valid_1 : Nat → (List Tree) → Option Bool
  | 0 => fun _ => none
  | fuelN + 1 => fun a0 => wakeup_Valid_1_wakeup_Valid_1_B (wakeup_Valid_1_wakeup_Valid_1 fuelN) fuelN a0

set_option maxHeartbeats 2000000 in
theorem at_wakeup_Valid_1_wakeup_Valid_1_B {rF76q76z : (List Tree) → Option Bool} (ihrF76q76z : ∀ (a0 : List Tree) (r : Bool), rF76q76z a0 = some r → CAt Tryd.prog 76 [.cell (sC a0), .cell (.ref (.a 0) 0)] [.cells [.fn 76 [.inl (.a 0)]]] (.ret (bV r)) [(.a 0, .cells [.fn 76 [.inl (.a 0)]])]) {fuelN : Nat} {a0 : List Tree} {r : Bool} (hs : wakeup_Valid_1_wakeup_Valid_1_B rF76q76z fuelN a0 = some r) : CAt Tryd.prog 76 [.cell (sC a0), .cell (.ref (.a 0) 0)] [.cells [.fn 76 [.inl (.a 0)]]] (.ret (bV r)) [(.a 0, .cells [.fn 76 [.inl (.a 0)]])] := by
  refine at_bound (by kernel_rfl) fun hb => ?_
  have hb1 : LenOk (.sl a0.length (encL a0)) := lkc hb
  refine at_code mixed Tryd.func76 (by kernel_rfl) rfl (by kernel_rfl) rfl fun Q hQ => ?_
  rw [wakeup_Valid_1_wakeup_Valid_1_B] at hs
  refine goR2 f0 ?_
  revert hs; refine bK fun o672 e671 hs => ?_
  refine awp_cutK (fun (v : Unit) (σ : St) => some (.inl v) = some o672 ∧ σ.hp (.a 0) = some (.cells [.fn 76 [.inl (.a 0)]]) ∧ 2 ≤ σ.gen) (by rfl) (fun Q hK673 hX674 => ?_) (fun v σ59 hp => ?_)
  · refine goR f0 ?_
    revert e671; refine bK fun o1183 e1182 e671 => ?_
    refine awp_loopW (fun (v : Nat × Int) (σ : St) => wakeup_Valid_1_wakeup_Valid_1_L1 a0 rF76q76z v.1 v.2 = some o1183 ∧ σ.env 0 = .cell (sC a0) ∧ σ.env 1 = .cell (.ref (.a 0) 0) ∧ σ.env 8 = .cell (sC a0) ∧ σ.env 9 = iV .i64 ((a0.length : Nat) : Int) ∧ σ.env 10 = iV .i64 v.2 ∧ σ.hp (.a 0) = some (.cells [.fn 76 [.inl (.a 0)]]) ∧ 2 ≤ σ.gen) (fun v => v.1) _ (Gh.refl _) (fuelN, 0) ⟨e1182, pv f0, pv f0, pv f0, pv f0, pv f0, pv f0, pg⟩ fun v σ104 hp L1184 hL1185 => ?_
    obtain ⟨q1187, i1013⟩ := v
    dsimp only at hp hL1185
    obtain ⟨e1182, h103_0, h103_1, h103_8, h103_9, h103_10, g103_0, n103_g⟩ := hp
    rcases q1187 with _ | q1188
    · rw [wakeup_Valid_1_wakeup_Valid_1_L1] at e1182; cases e1182
    · rw [wakeup_Valid_1_wakeup_Valid_1_L1] at e1182; try dsimp only at e1182
      have F1 := an h103_0 (an h103_1 (an h103_8 (an h103_9 (an h103_10 g103_0))))
      refine goR F1 ?_
      revert e1182; refine cS F1 ?_ ?_ <;> intro h1192 e1182
      · refine goR2 F1 ?_
        revert e1182; refine bK fun o1267 e1266 e1182 => ?_
        refine awp_cutK (fun (v : Unit) (σ : St) => some (.inl v) = some o1267 ∧ σ.env 0 = .cell (sC a0) ∧ σ.env 1 = .cell (.ref (.a 0) 0) ∧ σ.env 8 = .cell (sC a0) ∧ σ.env 9 = iV .i64 ((a0.length : Nat) : Int) ∧ σ.env 10 = iV .i64 i1013 ∧ σ.hp (.a 0) = some (.cells [.fn 76 [.inl (.a 0)]]) ∧ (σ104.gen + 1) ≤ σ.gen) (by rfl) (fun Q hK1268 hX1269 => ?_) (fun v σ111 hp => ?_)
        · refine goR2 F1 ?_
          refine awp_block ?_
          revert e1266; refine bK fun x1270 hx1271 e1266 => ?_
          obtain ⟨hx1271a, hx1271b, hx1271c, hx1271d⟩ := getI_some hx1271
          have f1272 : partCV Tryd.prog 77 (encL a0) (((i1013).toNat) * 2) = some (.agg (eA x1270)) := partCV_enc hx1271d (f := 0) (by simp)
          obtain ⟨g1273, e1266⟩ := guardO_some e1266
          obtain ⟨g1273a, g1273b, g1273c⟩ := slB_t g1273
          revert e1266; refine lK fun l1274 hx1275 e1266 => ?_
          have f1276n : l1274.length = (i1013 - 0).toNat := by rw [hx1275]; exact subL_len ⟨g1273a, g1273b, g1273c⟩
          have f1276e : ((encL a0).drop ((0 : Int).toNat * 2)).take ((i1013 - 0).toNat * 2) = encL l1274 := by rw [hx1275]; exact subL_enc (α := Tree)
          try simp at f1276n
          try simp at f1276e
          have f1276o : LenOk (.sl l1274.length (encL l1274)) := by rw [hx1275]; exact subL_ok hb1
          have F2 := an F1 (an f1272 (an g1273a (an g1273b (an g1273c (an f1276n f1276e)))))
          refine goR2 F2 ?_
          revert e1266; refine bK fun o1307 e1306 e1266 => ?_
          refine awp_cutK (fun (v : Unit) (σ : St) => some (.inl v) = some o1307 ∧ σ.env 0 = .cell (sC a0) ∧ σ.env 1 = .cell (.ref (.a 0) 0) ∧ σ.env 5 = .cell (.ref (.o (σ104.gen + 2) 3 0) 0) ∧ σ.env 8 = .cell (sC a0) ∧ σ.env 9 = iV .i64 ((a0.length : Nat) : Int) ∧ σ.env 10 = iV .i64 i1013 ∧ σ.hp (.a 0) = some (.cells [.fn 76 [.inl (.a 0)]]) ∧ σ.hp (.o (σ104.gen + 2) 3 0) = some (.cells (eA x1270)) ∧ (σ104.gen + 3) ≤ σ.gen) (by rfl) (fun Q hK1308 hX1309 => ?_) (fun v σ115 hp => ?_)
          · refine goR F2 ?_
            revert e1306; refine bK fun o1325 e1324 e1306 => ?_
            refine awp_loopW (fun (v : (List Tree) × Nat) (σ : St) => wakeup_Valid_1_wakeup_Valid_1_L2 x1270 v.1 v.2 = some o1325 ∧ v.1 = l1274.drop v.2 ∧ σ.env 0 = .cell (sC a0) ∧ σ.env 1 = .cell (.ref (.a 0) 0) ∧ σ.env 5 = .cell (.ref (.o (σ104.gen + 2) 3 0) 0) ∧ σ.env 8 = .cell (sC a0) ∧ σ.env 9 = iV .i64 ((a0.length : Nat) : Int) ∧ σ.env 10 = iV .i64 i1013 ∧ σ.env 17 = .cell (sC l1274) ∧ σ.env 18 = iV .i64 ((l1274.length : Nat) : Int) ∧ σ.env 19 = iV .i64 ((v.2 : Nat) : Int) ∧ σ.hp (.a 0) = some (.cells [.fn 76 [.inl (.a 0)]]) ∧ σ.hp (.o (σ104.gen + 2) 3 0) = some (.cells (eA x1270)) ∧ (σ104.gen + 3) ≤ σ.gen) (fun v => v.1.length) _ (Gh.refl _) (l1274, 0) ⟨e1324, by simp, pv F2, pv F2, pv F2, pv F2, pv F2, pv F2, pv F2, pv F2, pv F2, pv F2, pv F2, pg⟩ fun v σ118 hp L1326 hL1327 => ?_
            obtain ⟨q1329, k1317⟩ := v
            dsimp only at hp hL1327
            obtain ⟨e1324, hd1328, h117_0, h117_1, h117_5, h117_8, h117_9, h117_10, h117_17, h117_18, h117_19, g117_0, g117_1, n117_g⟩ := hp
            have n117_σ104gen_0 : ¬ (σ118.gen = σ104.gen) := by omega
            have n117_σ104gen_0' : ¬ (σ104.gen = σ118.gen) := by omega
            have n117_σ104gen_1 : ¬ (σ118.gen = σ104.gen + 1) := by omega
            have n117_σ104gen_1' : ¬ (σ104.gen + 1 = σ118.gen) := by omega
            have n117_σ104gen_a : ∀ j, ¬ (σ118.gen + j = σ104.gen) := fun j => by omega
            have n117_σ104gen_a' : ∀ j, ¬ (σ104.gen = σ118.gen + j) := fun j => by omega
            rcases q1329 with _ | ⟨x1334, q1330⟩
            · have hlt1331 := drop_end hd1328
              rw [wakeup_Valid_1_wakeup_Valid_1_L2] at e1324; try dsimp only at e1324
              have F3 := an h117_0 (an h117_1 (an h117_5 (an h117_8 (an h117_9 (an h117_10 (an h117_17 (an h117_18 (an h117_19 (an g117_0 (an g117_1 (an n117_σ104gen_0 (an n117_σ104gen_0' (an n117_σ104gen_1 (an n117_σ104gen_1' (an n117_σ104gen_a (an n117_σ104gen_a' f1272))))))))))))))))
              refine goR F3 ?_
              refine condK_f (by simp [ltI]; omega) ?_
              obtain rfl := sj e1324
              try dsimp only at e1306
              exact hK1308 () _ _ (Gh.refl _) ⟨e1306, pv F3, pv F3, pv F3, pv F3, pv F3, pv F3, pv F3, pv F3, pg⟩
            · obtain ⟨hx1333, hlt1331, hd1335⟩ := drop_next hd1328
              have ew1332 := wrap_succ hlt1331 (f1276o).len
              rw [wakeup_Valid_1_wakeup_Valid_1_L2] at e1324; try dsimp only at e1324
              have F4 := an h117_0 (an h117_1 (an h117_5 (an h117_8 (an h117_9 (an h117_10 (an h117_17 (an h117_18 (an h117_19 (an g117_0 (an g117_1 (an n117_σ104gen_0 (an n117_σ104gen_0' (an n117_σ104gen_1 (an n117_σ104gen_1' (an n117_σ104gen_a (an n117_σ104gen_a' (an f1272 (an hlt1331 ew1332))))))))))))))))))
              refine goR F4 ?_
              refine condK_t (by simp [ltI]; omega) ?_
              have f1336 : partCV Tryd.prog 77 (encL l1274) (k1317 * 2) = some (.agg (eA x1334)) := partCV_enc hx1333 (f := 0) (by simp)
              have F5 := an F4 f1336
              refine goR F5 ?_
              revert e1324; refine cS F5 ?_ ?_ <;> intro h1337 e1324
              · refine goR F5 ?_
                obtain rfl := sj e1324
                try dsimp only at e1306
                obtain rfl := sj e1306
                try dsimp only at e1266
                refine hX1309 _ _ (by simp) ?_
                refine goR F5 ?_
                obtain rfl := sj e1266
                try dsimp only at e1182
                refine hX1269 _ _ (by simp) ?_
                refine goR F5 ?_
                obtain rfl := sj e1182
                try dsimp only at e671
                obtain rfl := sj e671
                try dsimp only at hs
                refine hX674 _ _ (by simp) ?_
                refine goR F5 ?_
                obtain rfl := sj hs
                refine hQ _ _ (ret2g _ (Gh.refl _) (by simp [St.frz, St.pur, F5]; rfl) (by first | rfl | (simp [St.frz, St.pur, F5]; done) | (rw [if_pos (by first | omega | (simp; omega))]; simp [St.frz, St.pur, F5]; first | omega | exact List.take_of_length_le (by simp; omega) | skip)) (pv F5))
              · refine goR F5 ?_
                exact hL1327 (q1330, (k1317 + 1)) _ _ (Gh.refl _) ⟨e1324, hd1335, pv F5, pv F5, pv F5, pv F5, pv F5, pv F5, pv F5, pv F5, pv F5, pv F5, pv F5, pg⟩ (by simp)
          · obtain ⟨e1306, h116_0, h116_1, h116_5, h116_8, h116_9, h116_10, g116_0, g116_1, n116_g⟩ := hp
            obtain rfl := sj e1306
            try dsimp only at e1266
            have n116_σ104gen_0 : ¬ (σ115.gen = σ104.gen) := by omega
            have n116_σ104gen_0' : ¬ (σ104.gen = σ115.gen) := by omega
            have n116_σ104gen_1 : ¬ (σ115.gen = σ104.gen + 1) := by omega
            have n116_σ104gen_1' : ¬ (σ104.gen + 1 = σ115.gen) := by omega
            have n116_σ104gen_a : ∀ j, ¬ (σ115.gen + j = σ104.gen) := fun j => by omega
            have n116_σ104gen_a' : ∀ j, ¬ (σ104.gen = σ115.gen + j) := fun j => by omega
            have F6 := an h116_0 (an h116_1 (an h116_5 (an h116_8 (an h116_9 (an h116_10 (an g116_0 (an g116_1 (an n116_σ104gen_0 (an n116_σ104gen_0' (an n116_σ104gen_1 (an n116_σ104gen_1' (an n116_σ104gen_a (an n116_σ104gen_a' f1272)))))))))))))
            refine goR F6 ?_
            revert e1266; refine bK fun y1339 hx1340 e1266 => ?_
            refine cB F6 (ihrF76q76z _ _ hx1340) [.a 0] ?_
            refine goR F6 ?_
            revert e1266; refine cS F6 ?_ ?_ <;> intro h1341 e1266
            · refine goR F6 ?_
              obtain rfl := sj e1266
              try dsimp only at e1182
              refine hX1269 _ _ (by simp) ?_
              refine goR F6 ?_
              obtain rfl := sj e1182
              try dsimp only at e671
              obtain rfl := sj e671
              try dsimp only at hs
              refine hX674 _ _ (by simp) ?_
              refine goR F6 ?_
              obtain rfl := sj hs
              refine hQ _ _ (ret2g _ (Gh.refl _) (by simp [St.frz, St.pur, F6]; rfl) (by first | rfl | (simp [St.frz, St.pur, F6]; done) | (rw [if_pos (by first | omega | (simp; omega))]; simp [St.frz, St.pur, F6]; first | omega | exact List.take_of_length_le (by simp; omega) | skip)) (pv F6))
            · refine goR F6 ?_
              exact hK1268 () _ _ (Gh.refl _) ⟨e1266, pv F6, pv F6, pv F6, pv F6, pv F6, pv F6, pg⟩
        · obtain ⟨e1266, h112_0, h112_1, h112_8, h112_9, h112_10, g112_0, n112_g⟩ := hp
          obtain rfl := sj e1266
          try dsimp only at e1182
          have F7 := an h112_0 (an h112_1 (an h112_8 (an h112_9 (an h112_10 g112_0))))
          refine goR F7 ?_
          exact hL1185 (q1188, IntKind.i64.wrap (i1013 + 1)) _ _ (Gh.refl _) ⟨e1182, pv F7, pv F7, pv F7, pv F7, pv F7, pv F7, pg⟩ (by omega)
      · refine goR F1 ?_
        obtain rfl := sj e1182
        try dsimp only at e671
        exact hK673 () _ _ (Gh.refl _) ⟨e671, pv F1, pg⟩
  · obtain ⟨e671, g60_0, n60_g⟩ := hp
    obtain rfl := sj e671
    try dsimp only at hs
    refine goR g60_0 ?_
    obtain rfl := sj hs
    refine hQ _ _ (ret2g _ (Gh.refl _) (by simp [St.frz, St.pur, g60_0]; rfl) (by first | rfl | (simp [St.frz, St.pur, g60_0]; done) | (rw [if_pos (by first | omega | (simp; omega))]; simp [St.frz, St.pur, g60_0]; first | omega | exact List.take_of_length_le (by simp; omega) | skip)) (pv g60_0))
theorem at_wakeup_Valid_1_wakeup_Valid_1 : ∀ {fuelN : Nat} {a0 : List Tree} {r : Bool} (hs : wakeup_Valid_1_wakeup_Valid_1 fuelN a0 = some r), CAt Tryd.prog 76 [.cell (sC a0), .cell (.ref (.a 0) 0)] [.cells [.fn 76 [.inl (.a 0)]]] (.ret (bV r)) [(.a 0, .cells [.fn 76 [.inl (.a 0)]])]
  | 0, _, _, hs => by rw [wakeup_Valid_1_wakeup_Valid_1] at hs; cases hs
  | n + 1, _, _, hs => by
    rw [wakeup_Valid_1_wakeup_Valid_1] at hs
    exact at_wakeup_Valid_1_wakeup_Valid_1_B (fun _ _ h => at_wakeup_Valid_1_wakeup_Valid_1 h) hs
end Go.Dc
end
section
set_option linter.all false
namespace Go.Dc
open Go Go.Hw Go.Proofs
set_option maxRecDepth 100000

def wakeup_Valid (fuelN : Nat) (a0 : Tree) : Option Bool :=
  cond (eqI a0.Agent 0) (Option.bind (wakeup_Valid_1_wakeup_Valid_1 fuelN a0.Kids) (fun y2 => some y2)) (some false)

set_option maxHeartbeats 2000000 in
theorem at_wakeup_Valid {fuelN : Nat} {a0 : Tree} {r : Bool} (hs : wakeup_Valid fuelN a0 = some r) : At Tryd.prog 63 [.agg (eA a0)] (bV r) := by
  refine at_bound (by kernel_rfl) fun hb => ?_
  have hb1 : LenOk (.sl a0.Kids.length (encL a0.Kids)) := lkc hb
  refine at_code mixed Tryd.func63 (by kernel_rfl) rfl (by kernel_rfl) rfl fun Q hQ => ?_
  rw [wakeup_Valid] at hs
  refine goG f0 f0 ?_
  refine gsel_split (fun h1 => ?_) (fun h1 => ?_)
  · replace hs := condT h1 hs
    refine goG h1 h1 ?_
    revert hs; refine bK fun y2 hx3 hs => ?_
    refine cB h1 (at_wakeup_Valid_1_wakeup_Valid_1 hx3) [.o 2 0 0] ?_
    refine goG h1 h1 ?_
    obtain rfl := sj hs
    exact hQ _ _ (rg h1 (Gh.refl _))
  · replace hs := condF h1 hs
    refine goG h1 h1 ?_
    obtain rfl := sj hs
    exact hQ _ _ (rg h1 (Gh.refl _))
end Go.Dc
end
section
set_option linter.all false
namespace Go.Dc
open Go Go.Hw Go.Proofs
set_option maxRecDepth 100000
def checkpoint_validFrame_L1 (a0 : Frame) : List Int → Nat → Option (Unit ⊕ Bool)
  | [], k60 => some (.inl ())
  | x81 :: q77, k60 => Option.bind (checkpoint_agent x81) (fun y84 => guardO (orB (!(andB (!(orB (!y84) (eqI x81 a0.Agent))) (ltI 0 ((k60 : Nat) : Int)))) (inB (IntKind.i64.wrap (((k60 : Nat) : Int) - 1)) a0.Sleep.length)) (cond (orB (orB (!y84) (eqI x81 a0.Agent)) (andB (ltI 0 ((k60 : Nat) : Int)) (!(ltI (gd a0.Sleep ((IntKind.i64.wrap (((k60 : Nat) : Int) - 1)).toNat)) x81)))) (some (.inr false)) (checkpoint_validFrame_L1 a0 q77 (k60 + 1))))

def checkpoint_validFrame (fuelN : Nat) (a0 : Frame) : Option Bool :=
  Option.bind (checkpoint_agent a0.Agent) (fun y1 => cond (orB (!y1) (ltI 2048 ((a0.Sleep.length : Nat) : Int))) (some false) (Option.bind (α := Unit ⊕ Bool) (Option.bind (checkpoint_validFrame_L1 a0 a0.Sleep 0) (fun o => match o with | .inl _ => some (.inl ()) | .inr r89 => some (.inr r89))) (fun o => match o with | .inl _ => Option.bind (checkpoint_shallow fuelN a0.Tree 512) (fun y90 => guardO (orB (!y90) ((wakeup_Valid fuelN a0.Tree).isSome)) (cond (orB (orB (!y90) (!((wakeup_Valid fuelN a0.Tree).getD default))) (eqI ((a0.Tree.Kids.length : Nat) : Int) 0)) (some false) (Option.bind (a0.Tree.Kids[0]?) (fun x94 => some (andB (eqI x94.Agent a0.Agent) (eqI ((x94.Kids.length : Nat) : Int) 0)))))) | .inr r97 => some r97)))

set_option maxHeartbeats 2000000 in
theorem at_checkpoint_validFrame {fuelN : Nat} {a0 : Frame} {r : Bool} (hs : checkpoint_validFrame fuelN a0 = some r) : At Tryd.prog 40 [.agg (eA a0)] (bV r) := by
  refine at_bound (by kernel_rfl) fun hb => ?_
  have hb1 : LenOk (.sl a0.Sleep.length (encL a0.Sleep)) := lkc hb
  have hb2 : LenOk (.sl a0.Tree.Kids.length (encL a0.Tree.Kids)) := lkc hb
  refine at_code mixed Tryd.func40 (by kernel_rfl) rfl (by kernel_rfl) rfl fun Q hQ => ?_
  rw [checkpoint_validFrame] at hs
  refine goR f0 ?_
  revert hs; refine bK fun y1 hx2 hs => ?_
  refine cP f0 (at_checkpoint_agent hx2) ?_
  refine goG f0 f0 ?_
  revert hs; refine cS f0 ?_ ?_ <;> intro h3 hs
  · refine goG f0 f0 ?_
    obtain rfl := sj hs
    exact hQ _ _ (rg f0 (Gh.refl _))
  · refine goG2 f0 f0 ?_
    revert hs; refine bK fun o46 e45 hs => ?_
    refine awp_cutK (fun (v : Unit) (σ : St) => some (.inl v) = some o46 ∧ σ.env 1 = .cell (.ref (.o 1 0 0) 0) ∧ σ.hp (.o 1 0 0) = some (.cells (eA a0)) ∧ 3 ≤ σ.gen) (by rfl) (fun Q hK47 hX48 => ?_) (fun v σ3 hp => ?_)
    · refine goG f0 f0 ?_
      revert e45; refine bK fun o72 e71 e45 => ?_
      refine awp_loopW (fun (v : (List Int) × Nat) (σ : St) => checkpoint_validFrame_L1 a0 v.1 v.2 = some o72 ∧ v.1 = a0.Sleep.drop v.2 ∧ σ.env 1 = .cell (.ref (.o 1 0 0) 0) ∧ σ.env 17 = .cell (sC a0.Sleep) ∧ σ.env 18 = iV .i64 ((a0.Sleep.length : Nat) : Int) ∧ σ.env 19 = iV .i64 ((v.2 : Nat) : Int) ∧ σ.hp (.o 1 0 0) = some (.cells (eA a0)) ∧ 3 ≤ σ.gen) (fun v => v.1.length) _ (Gh.refl _) (a0.Sleep, 0) ⟨e71, by simp, pv f0, pv f0, pv f0, pv f0, pv f0, pg⟩ fun v σ6 hp L73 hL74 => ?_
      obtain ⟨q76, k60⟩ := v
      dsimp only at hp hL74
      obtain ⟨e71, hd75, h5_1, h5_17, h5_18, h5_19, g5_0, n5_g⟩ := hp
      have n5_0 : ¬ (σ6.gen = 0) := by omega
      rcases q76 with _ | ⟨x81, q77⟩
      · have hlt78 := drop_end hd75
        rw [checkpoint_validFrame_L1] at e71; try dsimp only at e71
        have F1 := an h5_1 (an h5_17 (an h5_18 (an h5_19 (an g5_0 n5_0))))
        refine goR F1 ?_
        refine condK_f (by simp [ltI]; omega) ?_
        obtain rfl := sj e71
        try dsimp only at e45
        exact hK47 () _ _ (Gh.refl _) ⟨e45, pv F1, pv F1, pg⟩
      · obtain ⟨hx80, hlt78, hd82⟩ := drop_next hd75
        have ew79 := wrap_succ hlt78 (hb1).len
        rw [checkpoint_validFrame_L1] at e71; try dsimp only at e71
        have F2 := an h5_1 (an h5_17 (an h5_18 (an h5_19 (an g5_0 (an n5_0 (an hlt78 ew79))))))
        refine goR F2 ?_
        refine condK_t (by simp [ltI]; omega) ?_
        have f83 : partCV Tryd.prog 3 (encL a0.Sleep) (k60) = some (iV .i64 x81) := partCV_enc1 hx80 (by simp)
        have F3 := an F2 f83
        refine goR F3 ?_
        revert e71; refine bK fun y84 hx85 e71 => ?_
        refine cP F3 (at_checkpoint_agent hx85) ?_
        obtain ⟨g86, e71⟩ := guardO_some e71
        have g86a : (andB (!(orB (!y84) (eqI x81 a0.Agent))) (ltI 0 ((k60 : Nat) : Int))) = true → 0 ≤ IntKind.i64.wrap (((k60 : Nat) : Int) - 1) := fun hg => (under_elem g86 hg).1
        have g86b : (andB (!(orB (!y84) (eqI x81 a0.Agent))) (ltI 0 ((k60 : Nat) : Int))) = true → IntKind.i64.wrap (((k60 : Nat) : Int) - 1) < (a0.Sleep.length : Int) := fun hg => (under_elem g86 hg).2.1
        have g86n : (andB (!(orB (!y84) (eqI x81 a0.Agent))) (ltI 0 ((k60 : Nat) : Int))) = true → (IntKind.i64.wrap (((k60 : Nat) : Int) - 1)).toNat < a0.Sleep.length := fun hg => by simpa using (under_elem g86 hg).2.2.1
        have g86c : (andB (!(orB (!y84) (eqI x81 a0.Agent))) (ltI 0 ((k60 : Nat) : Int))) = true → a0.Sleep[(IntKind.i64.wrap (((k60 : Nat) : Int) - 1)).toNat]? = some (gd a0.Sleep ((IntKind.i64.wrap (((k60 : Nat) : Int) - 1)).toNat)) := fun hg => by simpa using (under_elem g86 hg).2.2.2
        have f87 : (andB (!(orB (!y84) (eqI x81 a0.Agent))) (ltI 0 ((k60 : Nat) : Int))) = true → partCV Tryd.prog 3 (encL a0.Sleep) ((IntKind.i64.wrap (((k60 : Nat) : Int) - 1)).toNat) = some (iV .i64 (gd a0.Sleep ((IntKind.i64.wrap (((k60 : Nat) : Int) - 1)).toNat))) := fun hg => partCV_enc1 (g86c hg) (by simp)
        have F4 := an F3 (an g86a (an g86b (an g86n f87)))
        refine goG F4 F4 ?_
        revert e71; refine cS F4 ?_ ?_ <;> intro h88 e71
        · refine goG F4 F4 ?_
          obtain rfl := sj e71
          try dsimp only at e45
          obtain rfl := sj e45
          try dsimp only at hs
          refine hX48 _ _ (by simp) ?_
          refine goG F4 F4 ?_
          obtain rfl := sj hs
          exact hQ _ _ (rg F4 (Gh.refl _))
        · refine goG F4 F4 ?_
          exact hL74 (q77, (k60 + 1)) _ _ (Gh.refl _) ⟨e71, hd82, pv F4, pv F4, pv F4, pv F4, pv F4, pg⟩ (by simp)
    · obtain ⟨e45, h4_1, g4_0, n4_g⟩ := hp
      obtain rfl := sj e45
      try dsimp only at hs
      have n4_0 : ¬ (σ3.gen = 0) := by omega
      have F5 := an h4_1 (an g4_0 n4_0)
      refine goG F5 F5 ?_
      revert hs; refine bK fun y90 hx91 hs => ?_
      refine cP F5 (at_checkpoint_shallow hx91) ?_
      refine goG F5 F5 ?_
      obtain ⟨g92, hs⟩ := guardO_some hs
      refine gsel_call (fun hg => at_wakeup_Valid (under_call g92 hg)) (fun hg => by (try simp at hg); (first | simp [hg, F5]); try rfl) (fun hg => by (try simp at hg); simp [hg, F5]) (by simp) ?_
      refine goG F5 F5 ?_
      revert hs; refine cS F5 ?_ ?_ <;> intro h93 hs
      · refine goG F5 F5 ?_
        obtain rfl := sj hs
        exact hQ _ _ (rg F5 (Gh.refl _))
      · revert hs; refine bK fun x94 hx95 hs => ?_
        have hx95b := getN_some hx95
        have f96 : partCV Tryd.prog 77 (encL a0.Tree.Kids) (0 * 2) = some (.agg (eA x94)) := partCV_enc hx95 (f := 0) (by simp)
        have F6 := an F5 f96
        have F7 := an F6 hx95b
        refine goG F6 F7 ?_
        obtain rfl := sj hs
        exact hQ _ _ (rg F6 (Gh.refl _))
end Go.Dc
end
section
set_option linter.all false
namespace Go.Dc
open Go Go.Hw Go.Proofs
set_option maxRecDepth 100000
def checkpoint_Valid_L1 (fuelN : Nat) : List Frame → Nat → Option (Unit ⊕ Bool)
  | [], k51 => some (.inl ())
  | x70 :: q66, k51 => Option.bind (checkpoint_validFrame fuelN x70) (fun y73 => cond (!y73) (some (.inr false)) (checkpoint_Valid_L1 fuelN q66 (k51 + 1)))

def checkpoint_Valid (fuelN : Nat) (a0 : Snapshot) : Option Bool :=
  cond (orB (orB (orB (orB (ltI a0.Count 0) (ltI 1048576 a0.Count)) (ltI a0.Blocked 0)) (ltI 1048576 a0.Blocked)) (ltI 512 ((a0.Frames.length : Nat) : Int))) (some false) (cond (andB (ltI 0 ((a0.Frames.length : Nat) : Int)) (orB a0.Done (eqI a0.Count 0))) (some false) (Option.bind (α := Unit ⊕ Bool) (Option.bind (checkpoint_Valid_L1 fuelN a0.Frames 0) (fun o => match o with | .inl _ => some (.inl ()) | .inr r76 => some (.inr r76))) (fun o => match o with | .inl _ => some true | .inr r77 => some r77)))

set_option maxHeartbeats 2000000 in
theorem at_checkpoint_Valid {fuelN : Nat} {a0 : Snapshot} {r : Bool} (hs : checkpoint_Valid fuelN a0 = some r) : At Tryd.prog 15 [.agg (eA a0)] (bV r) := by
  refine at_bound (by kernel_rfl) fun hb => ?_
  have hb1 : LenOk (.sl a0.Frames.length (encL a0.Frames)) := lkc hb
  refine at_code mixed Tryd.func15 (by kernel_rfl) rfl (by kernel_rfl) rfl fun Q hQ => ?_
  rw [checkpoint_Valid] at hs
  refine goG f0 f0 ?_
  revert hs; refine cS f0 ?_ ?_ <;> intro h1 hs
  · refine goG f0 f0 ?_
    obtain rfl := sj hs
    exact hQ _ _ (rg f0 (Gh.refl _))
  · refine goG f0 f0 ?_
    revert hs; refine cS f0 ?_ ?_ <;> intro h2 hs
    · refine goG f0 f0 ?_
      obtain rfl := sj hs
      exact hQ _ _ (rg f0 (Gh.refl _))
    · refine goG2 f0 f0 ?_
      revert hs; refine bK fun o39 e38 hs => ?_
      refine awp_cutK (fun (v : Unit) (σ : St) => some (.inl v) = some o39 ∧ 4 ≤ σ.gen) (by rfl) (fun Q hK40 hX41 => ?_) (fun v σ3 hp => ?_)
      · refine goG f0 f0 ?_
        revert e38; refine bK fun o61 e60 e38 => ?_
        refine awp_loopW (fun (v : (List Frame) × Nat) (σ : St) => checkpoint_Valid_L1 fuelN v.1 v.2 = some o61 ∧ v.1 = a0.Frames.drop v.2 ∧ σ.env 43 = .cell (sC a0.Frames) ∧ σ.env 44 = iV .i64 ((a0.Frames.length : Nat) : Int) ∧ σ.env 45 = iV .i64 ((v.2 : Nat) : Int) ∧ 4 ≤ σ.gen) (fun v => v.1.length) _ (Gh.refl _) (a0.Frames, 0) ⟨e60, by simp, pv f0, pv f0, pv f0, pg⟩ fun v σ6 hp L62 hL63 => ?_
        obtain ⟨q65, k51⟩ := v
        dsimp only at hp hL63
        obtain ⟨e60, hd64, h5_43, h5_44, h5_45, n5_g⟩ := hp
        rcases q65 with _ | ⟨x70, q66⟩
        · have hlt67 := drop_end hd64
          rw [checkpoint_Valid_L1] at e60; try dsimp only at e60
          have F1 := an h5_43 (an h5_44 h5_45)
          refine goR F1 ?_
          refine condK_f (by simp [ltI]; omega) ?_
          obtain rfl := sj e60
          try dsimp only at e38
          exact hK40 () _ _ (Gh.refl _) ⟨e38, pg⟩
        · obtain ⟨hx69, hlt67, hd71⟩ := drop_next hd64
          have ew68 := wrap_succ hlt67 (hb1).len
          rw [checkpoint_Valid_L1] at e60; try dsimp only at e60
          have F2 := an h5_43 (an h5_44 (an h5_45 (an hlt67 ew68)))
          refine goR F2 ?_
          refine condK_t (by simp [ltI]; omega) ?_
          have f72 : partCV Tryd.prog 79 (encL a0.Frames) (k51 * 4) = some (.agg (eA x70)) := partCV_enc hx69 (f := 0) (by simp)
          have F3 := an F2 f72
          refine goR F3 ?_
          revert e60; refine bK fun y73 hx74 e60 => ?_
          refine cP F3 (at_checkpoint_validFrame hx74) ?_
          refine goR F3 ?_
          revert e60; refine cS F3 ?_ ?_ <;> intro h75 e60
          · refine goR F3 ?_
            obtain rfl := sj e60
            try dsimp only at e38
            obtain rfl := sj e38
            try dsimp only at hs
            refine hX41 _ _ (by simp) ?_
            refine goR F3 ?_
            obtain rfl := sj hs
            exact hQ _ _ (rg F3 (Gh.refl _))
          · refine goR F3 ?_
            exact hL63 (q66, (k51 + 1)) _ _ (Gh.refl _) ⟨e60, hd71, pv F3, pv F3, pv F3, pg⟩ (by simp)
      · obtain ⟨e38, n4_g⟩ := hp
        obtain rfl := sj e38
        try dsimp only at hs
        refine goG f0 f0 ?_
        obtain rfl := sj hs
        exact hQ _ _ (rg f0 (Gh.refl _))
end Go.Dc
end
section
set_option linter.all false
namespace Go.Dc
open Go Go.Hw Go.Proofs
set_option maxRecDepth 100000

def frame_sumBytes (a0 : Int) : Option (List UInt8) :=
  Option.bind (some ([u8 (IntKind.u8.wrap a0), u8 (IntKind.u8.wrap (shrI .u32 a0 8)), u8 (IntKind.u8.wrap (shrI .u32 a0 16)), u8 (IntKind.u8.wrap (shrI .u32 a0 24))])) (fun l1 => some l1)

set_option maxHeartbeats 2000000 in
theorem at_frame_sumBytes {a0 : Int} {r : (List UInt8)} (hs : frame_sumBytes a0 = some r) : At Tryd.prog 46 [iV .u32 a0] (.cell (sC r)) := by
  refine at_bound (by kernel_rfl) fun hb => ?_
  refine at_code mixed Tryd.func46 (by kernel_rfl) rfl (by kernel_rfl) rfl fun Q hQ => ?_
  rw [frame_sumBytes] at hs
  revert hs; refine lK fun l1 hx2 hs => ?_
  have hx2n : l1.length = 4 := by rw [hx2]; rfl
  refine goR hx2 ?_
  obtain rfl := sj hs
  exact hQ _ _ (rg hx2 (Gh.frz _ (.o 2 11 0)))
end Go.Dc
end
section
set_option linter.all false
namespace Go.Dc
open Go Go.Hw Go.Proofs
set_option maxRecDepth 100000

def frame_Seal (fuelN : Nat) (a0 : List UInt8) : Option (List UInt8) :=
  Option.bind (frame_uintBytes fuelN ((a0.length : Nat) : Int)) (fun y1 => Option.bind (some ([y1, a0])) (fun l3 => Option.bind (frame_join l3) (fun y5 => Option.bind (frame_Checksum fuelN y5) (fun y11 => Option.bind (frame_sumBytes y11) (fun y13 => Option.bind (some ([y5, y13])) (fun l15 => Option.bind (frame_join l15) (fun y17 => some y17)))))))

set_option maxHeartbeats 2000000 in
theorem at_frame_Seal {fuelN : Nat} {a0 : List UInt8} {r : (List UInt8)} (hs : frame_Seal fuelN a0 = some r) : At Tryd.prog 20 [.cell (sC a0)] (.cell (sC r)) := by
  refine at_bound (by kernel_rfl) fun hb => ?_
  have hb1 : LenOk (.sl a0.length (encL a0)) := lkc hb
  refine at_code mixed Tryd.func20 (by kernel_rfl) rfl (by kernel_rfl) rfl fun Q hQ => ?_
  rw [frame_Seal] at hs
  refine goR f0 ?_
  revert hs; refine bK fun y1 hx2 hs => ?_
  refine cP f0 (at_frame_uintBytes hx2) ?_
  revert hs; refine lK fun l3 hx4 hs => ?_
  have hx4n : l3.length = 2 := by rw [hx4]; rfl
  refine goR hx4 ?_
  revert hs; refine bK fun y5 hx6 hs => ?_
  refine cA hx4 (at_frame_join hx6) ?_
  refine goN hx4 ?_
  refine awp_gh (by rfl) (Gh.frz _ (.o 2 5 0)) ?_
  try simp only [St.frz, St.pur]
  refine goR hx4 ?_
  revert hs; refine bK fun y11 hx12 hs => ?_
  refine cP hx4 (at_frame_Checksum hx12) ?_
  refine goR hx4 ?_
  revert hs; refine bK fun y13 hx14 hs => ?_
  refine cP hx4 (at_frame_sumBytes hx14) ?_
  revert hs; refine lK fun l15 hx16 hs => ?_
  have hx16n : l15.length = 2 := by rw [hx16]; rfl
  have F1 := an hx4 hx16
  refine goR F1 ?_
  revert hs; refine bK fun y17 hx18 hs => ?_
  refine cA F1 (at_frame_join hx18) ?_
  refine goR F1 ?_
  obtain rfl := sj hs
  exact hQ _ _ (rg F1 (Gh.frz _ (.o 3 5 0)))
end Go.Dc
end
section
set_option linter.all false
namespace Go.Dc
open Go Go.Hw Go.Proofs
set_option maxRecDepth 100000
def frame_AppendInts_L1 (fuelN : Nat) (a0 : List UInt8) : List Int → (List UInt8) → Nat → Option ((List UInt8) ⊕ (List UInt8))
  | [], l96, k97 => some (.inl l96)
  | x126 :: q122, l96, k97 => Option.bind (frame_inRange x126) (fun y129 => cond (!y129) (Option.bind (some ([a0])) (fun l132 => Option.bind (frame_join l132) (fun y134 => some (.inr y134)))) (Option.bind (frame_intBytes fuelN x126) (fun y136 => guardO (limB 1 (l96.length + y136.length)) (Option.bind (some (l96 ++ y136)) (fun l139 => frame_AppendInts_L1 fuelN a0 q122 l139 (k97 + 1))))))

def frame_AppendInts (fuelN : Nat) (a0 : List UInt8) (a1 : List Int) : Option (List UInt8) :=
  Option.bind (frame_uintBytes fuelN ((a1.length : Nat) : Int)) (fun y1 => Option.bind (some ([a0, y1])) (fun l3 => Option.bind (frame_join l3) (fun y5 => Option.bind (α := (List UInt8) ⊕ (List UInt8)) (Option.bind (frame_AppendInts_L1 fuelN a0 a1 y5 0) (fun o => match o with | .inl l115 => some (.inl l115) | .inr r141 => some (.inr r141))) (fun o => match o with | .inl l72 => some l72 | .inr r142 => some r142))))

set_option maxHeartbeats 2000000 in
theorem at_frame_AppendInts {fuelN : Nat} {a0 : List UInt8} {a1 : List Int} {r : (List UInt8)} (hs : frame_AppendInts fuelN a0 a1 = some r) : CAt Tryd.prog 33 [.cell (sC a0), .cell (sC a1)] [] (.ret (.cell (.sl (.r 0) 0 1 r.length))) [(.r 0, .pure (encL r))] := by
  refine at_bound (by kernel_rfl) fun hb => ?_
  have hb1 : LenOk (.sl a0.length (encL a0)) := lkc hb
  have hb2 : LenOk (.sl a1.length (encL a1)) := lkc hb
  refine at_code mixed Tryd.func33 (by kernel_rfl) rfl (by kernel_rfl) rfl fun Q hQ => ?_
  rw [frame_AppendInts] at hs
  refine goR f0 ?_
  revert hs; refine bK fun y1 hx2 hs => ?_
  refine cP f0 (at_frame_uintBytes hx2) ?_
  revert hs; refine lK fun l3 hx4 hs => ?_
  have hx4n : l3.length = 2 := by rw [hx4]; rfl
  refine goR hx4 ?_
  revert hs; refine bK fun y5 hx6 hs => ?_
  refine cA hx4 (at_frame_join hx6) ?_
  refine goR2 hx4 ?_
  revert hs; refine bK fun o74 e73 hs => ?_
  refine awp_cutK (fun (v : (List UInt8)) (σ : St) => some (.inl v) = some o74 ∧ σ.env 5 = .cell (.sl (.l 2) 0 1 v.length) ∧ σ.hp (.l 2) = some (.pure (encL v)) ∧ 3 ≤ σ.gen) (by rfl) (fun Q hK75 hX76 => ?_) (fun l72 σ3 hp => ?_)
  · refine goR hx4 ?_
    revert e73; refine bK fun o117 e116 e73 => ?_
    refine awp_loopW (fun (v : (List Int) × (List UInt8) × Nat) (σ : St) => frame_AppendInts_L1 fuelN a0 v.1 v.2.1 v.2.2 = some o117 ∧ v.1 = a1.drop v.2.2 ∧ σ.env 0 = .cell (sC a0) ∧ σ.env 5 = .cell (.sl (.l 6) 0 1 v.2.1.length) ∧ σ.env 14 = .cell (sC a1) ∧ σ.env 15 = iV .i64 ((a1.length : Nat) : Int) ∧ σ.env 16 = iV .i64 ((v.2.2 : Nat) : Int) ∧ σ.hp (.l 6) = some (.pure (encL v.2.1)) ∧ 3 ≤ σ.gen) (fun v => v.1.length) _ (Gh.ren _ (.o 2 5 0) (.l 6) (by simp) rfl rfl) (a1, y5, 0) ⟨e116, by simp, pv hx4, pv hx4, pv hx4, pv hx4, pv hx4, pv hx4, pg⟩ fun v σ6 hp L118 hL119 => ?_
    obtain ⟨q121, l96, k97⟩ := v
    dsimp only at hp hL119
    obtain ⟨e116, hd120, h5_0, h5_5, h5_14, h5_15, h5_16, g5_0, n5_g⟩ := hp
    rcases q121 with _ | ⟨x126, q122⟩
    · have hlt123 := drop_end hd120
      rw [frame_AppendInts_L1] at e116; try dsimp only at e116
      have F1 := an h5_0 (an h5_5 (an h5_14 (an h5_15 (an h5_16 g5_0))))
      refine goR F1 ?_
      refine condK_f (by simp [ltI]; omega) ?_
      obtain rfl := sj e116
      try dsimp only at e73
      exact hK75 l96 _ _ (Gh.ren _ (.l 6) (.l 2) (by simp) rfl rfl) ⟨e73, pv F1, pv F1, pg⟩
    · obtain ⟨hx125, hlt123, hd127⟩ := drop_next hd120
      have ew124 := wrap_succ hlt123 (hb2).len
      rw [frame_AppendInts_L1] at e116; try dsimp only at e116
      have F2 := an h5_0 (an h5_5 (an h5_14 (an h5_15 (an h5_16 (an g5_0 (an hlt123 ew124))))))
      refine goR F2 ?_
      refine condK_t (by simp [ltI]; omega) ?_
      have f128 : partCV Tryd.prog 3 (encL a1) (k97) = some (iV .i64 x126) := partCV_enc1 hx125 (by simp)
      have F3 := an F2 f128
      refine goR F3 ?_
      revert e116; refine bK fun y129 hx130 e116 => ?_
      refine cP F3 (at_frame_inRange hx130) ?_
      refine goR F3 ?_
      revert e116; refine cS F3 ?_ ?_ <;> intro h131 e116
      · revert e116; refine lK fun l132 hx133 e116 => ?_
        have hx133n : l132.length = 1 := by rw [hx133]; rfl
        have F4 := an F3 hx133
        refine goR F4 ?_
        revert e116; refine bK fun y134 hx135 e116 => ?_
        refine cA F4 (at_frame_join hx135) ?_
        refine goR F4 ?_
        obtain rfl := sj e116
        try dsimp only at e73
        obtain rfl := sj e73
        try dsimp only at hs
        refine hX76 _ _ (by simp) ?_
        refine goR F4 ?_
        obtain rfl := sj hs
        refine hQ _ _ (ret2g _ (Gh.ren _ (.o (σ6.gen + 4) 2 0) (.r 0) (by simp) rfl rfl) (by simp [St.frz, St.pur, F4]; rfl) (by first | rfl | (simp [St.frz, St.pur, F4]; done) | (rw [if_pos (by first | omega | (simp; omega))]; simp [St.frz, St.pur, F4]; first | omega | exact List.take_of_length_le (by simp; omega) | skip)) (pv F4))
      · refine goR F3 ?_
        revert e116; refine bK fun y136 hx137 e116 => ?_
        refine cP F3 (at_frame_intBytes hx137) ?_
        obtain ⟨g138, e116⟩ := guardO_some e116
        have g138 := limB_t g138
        obtain ⟨g138a, g138b⟩ := g138
        revert e116; refine lK fun l139 hx140 e116 => ?_
        have hx140n : l139.length = (l96.length + y136.length) := by rw [hx140]; simp
        have hx140e : encL l139 = encL l96 ++ encL y136 := by rw [hx140]; simp
        have F5 := an F3 (an hx140n hx140e)
        refine goR F5 ?_
        exact hL119 (q122, l139, (k97 + 1)) _ _ (Gh.ren _ (.o (σ6.gen + 4) 3 0) (.l 6) (by simp) rfl rfl) ⟨e116, hd127, pv F5, pv F5, pv F5, pv F5, pv F5, pv F5, pg⟩ (by simp)
  · obtain ⟨e73, h4_5, g4_0, n4_g⟩ := hp
    obtain rfl := sj e73
    try dsimp only at hs
    have F6 := an h4_5 g4_0
    refine goR F6 ?_
    obtain rfl := sj hs
    refine hQ _ _ (ret2g _ (Gh.ren _ (.l 2) (.r 0) (by simp) rfl rfl) (by simp [St.frz, St.pur, F6]; rfl) (by first | rfl | (simp [St.frz, St.pur, F6]; done) | (rw [if_pos (by first | omega | (simp; omega))]; simp [St.frz, St.pur, F6]; first | omega | exact List.take_of_length_le (by simp; omega) | skip)) (pv F6))
end Go.Dc
end
section
set_option linter.all false
namespace Go.Dc
open Go Go.Hw Go.Proofs
set_option maxRecDepth 100000
def checkpoint_appendTree_L1 (fuelN : Nat) (rF34z : (List UInt8) → Tree → Option (List UInt8)) : List Tree → (List UInt8) → Nat → Option (List UInt8)
  | [], l105, k106 => some (l105)
  | x131 :: q127, l105, k106 => Option.bind (frame_AppendInt fuelN l105 x131.Agent) (fun y138 => Option.bind (rF34z y138 x131) (fun y140 => checkpoint_appendTree_L1 fuelN rF34z q127 y140 (k106 + 1)))

def checkpoint_appendTree_B (rF34z : (List UInt8) → Tree → Option (List UInt8)) (fuelN : Nat) (a0 : List UInt8) (a1 : Tree) : Option (List UInt8) :=
  Option.bind (frame_AppendUint fuelN a0 ((a1.Kids.length : Nat) : Int)) (fun y1 => Option.bind (α := (List UInt8)) (Option.bind (checkpoint_appendTree_L1 fuelN rF34z a1.Kids y1 0) (fun l120 => some (l120))) (fun l70 => some l70))

def checkpoint_appendTree : Nat → (List UInt8) → Tree → Option (List UInt8)
  | 0 => fun _ _ => none
  | fuelN + 1 => fun a0 a1 => checkpoint_appendTree_B (checkpoint_appendTree fuelN) fuelN a0 a1

set_option maxHeartbeats 2000000 in
theorem at_checkpoint_appendTree_B {rF34z : (List UInt8) → Tree → Option (List UInt8)} (ihrF34z : ∀ (a0 : List UInt8) (a1 : Tree) (r : (List UInt8)), rF34z a0 a1 = some r → At Tryd.prog 34 [.cell (sC a0), .agg (eA a1)] (.cell (sC r))) {fuelN : Nat} {a0 : List UInt8} {a1 : Tree} {r : (List UInt8)} (hs : checkpoint_appendTree_B rF34z fuelN a0 a1 = some r) : At Tryd.prog 34 [.cell (sC a0), .agg (eA a1)] (.cell (sC r)) := by
  refine at_bound (by kernel_rfl) fun hb => ?_
  have hb1 : LenOk (.sl a0.length (encL a0)) := lkc hb
  have hb2 : LenOk (.sl a1.Kids.length (encL a1.Kids)) := lkc hb
  refine at_code mixed Tryd.func34 (by kernel_rfl) rfl (by kernel_rfl) rfl fun Q hQ => ?_
  rw [checkpoint_appendTree_B] at hs
  refine goR f0 ?_
  revert hs; refine bK fun y1 hx2 hs => ?_
  refine cA f0 (at_frame_AppendUint hx2) ?_
  refine goR2 f0 ?_
  revert hs; refine bK fun o72 e71 hs => ?_
  refine awp_cutK (fun (v : (List UInt8)) (σ : St) => some (v) = some o72 ∧ σ.env 0 = .cell (sC v) ∧ 3 ≤ σ.gen) (by rfl) (fun Q hK73 hX74 => ?_) (fun l70 σ3 hp => ?_)
  · refine goR f0 ?_
    revert e71; refine bK fun o122 e121 e71 => ?_
    refine awp_loopW (fun (v : (List Tree) × (List UInt8) × Nat) (σ : St) => checkpoint_appendTree_L1 fuelN rF34z v.1 v.2.1 v.2.2 = some o122 ∧ v.1 = a1.Kids.drop v.2.2 ∧ σ.env 0 = .cell (sC v.2.1) ∧ σ.env 13 = .cell (sC a1.Kids) ∧ σ.env 14 = iV .i64 ((a1.Kids.length : Nat) : Int) ∧ σ.env 15 = iV .i64 ((v.2.2 : Nat) : Int) ∧ 3 ≤ σ.gen) (fun v => v.1.length) _ (Gh.frz _ (.o 2 4 0)) (a1.Kids, y1, 0) ⟨e121, by simp, pv f0, pv f0, pv f0, pv f0, pg⟩ fun v σ6 hp L123 hL124 => ?_
    obtain ⟨q126, l105, k106⟩ := v
    dsimp only at hp hL124
    obtain ⟨e121, hd125, h5_0, h5_13, h5_14, h5_15, n5_g⟩ := hp
    rcases q126 with _ | ⟨x131, q127⟩
    · have hlt128 := drop_end hd125
      rw [checkpoint_appendTree_L1] at e121; try dsimp only at e121
      have F1 := an h5_0 (an h5_13 (an h5_14 h5_15))
      refine goR F1 ?_
      refine condK_f (by simp [ltI]; omega) ?_
      obtain rfl := sj e121
      try dsimp only at e71
      exact hK73 l105 _ _ (Gh.refl _) ⟨e71, pv F1, pg⟩
    · obtain ⟨hx130, hlt128, hd132⟩ := drop_next hd125
      have ew129 := wrap_succ hlt128 (hb2).len
      rw [checkpoint_appendTree_L1] at e121; try dsimp only at e121
      have F2 := an h5_0 (an h5_13 (an h5_14 (an h5_15 (an hlt128 ew129))))
      refine goR F2 ?_
      refine condK_t (by simp [ltI]; omega) ?_
      have f133 : partCV Tryd.prog 77 (encL a1.Kids) (k106 * 2) = some (.agg (eA x131)) := partCV_enc hx130 (f := 0) (by simp)
      have F3 := an F2 f133
      refine goD F3 ?_
      revert e121; refine bK fun y138 hx139 e121 => ?_
      refine cA F3 (at_frame_AppendInt hx139) ?_
      refine goD F3 ?_
      revert e121; refine bK fun y140 hx141 e121 => ?_
      refine cA F3 (ihrF34z _ _ _ hx141) ?_
      refine goD F3 ?_
      exact hL124 (q127, y140, (k106 + 1)) _ _ (Gh.refl _) ⟨e121, hd132, pv F3, pv F3, pv F3, pv F3, pg⟩ (by simp)
  · obtain ⟨e71, h4_0, n4_g⟩ := hp
    obtain rfl := sj e71
    try dsimp only at hs
    refine goR h4_0 ?_
    obtain rfl := sj hs
    exact hQ _ _ (rg h4_0 (Gh.refl _))
theorem at_checkpoint_appendTree : ∀ {fuelN : Nat} {a0 : List UInt8} {a1 : Tree} {r : (List UInt8)} (hs : checkpoint_appendTree fuelN a0 a1 = some r), At Tryd.prog 34 [.cell (sC a0), .agg (eA a1)] (.cell (sC r))
  | 0, _, _, _, hs => by rw [checkpoint_appendTree] at hs; cases hs
  | n + 1, _, _, _, hs => by
    rw [checkpoint_appendTree] at hs
    exact at_checkpoint_appendTree_B (fun _ _ _ h => at_checkpoint_appendTree h) hs
end Go.Dc
end
section
set_option linter.all false
namespace Go.Dc
open Go Go.Hw Go.Proofs
set_option maxRecDepth 100000
def checkpoint_Encode_L1 (fuelN : Nat) : List Int → (List UInt8) → Nat → Option (List UInt8)
  | [], l65, k66 => some (l65)
  | x85 :: q81, l65, k66 => Option.bind (frame_AppendUint fuelN l65 x85) (fun y89 => checkpoint_Encode_L1 fuelN q81 y89 (k66 + 1))

def checkpoint_Encode_L2 (fuelN : Nat) : List Frame → (List UInt8) → Nat → Option (List UInt8)
  | [], l181, k182 => some (l181)
  | x205 :: q201, l181, k182 => Option.bind (frame_AppendInt fuelN l181 x205.Agent) (fun y208 => Option.bind (frame_AppendInts fuelN y208 x205.Sleep) (fun y210 => Option.bind (checkpoint_appendTree fuelN y210 x205.Tree) (fun y212 => checkpoint_Encode_L2 fuelN q201 y212 (k182 + 1))))

def checkpoint_Encode (fuelN : Nat) (a0 : Program) (a1 : Config) (a2 : Snapshot) : Option ((List UInt8) × Int) :=
  Option.bind (checkpoint_Digest fuelN a0 a1) (fun y1 => cond (!(eqI y1.2 0)) (some ([], y1.2)) (Option.bind (checkpoint_Valid fuelN a2) (fun y4 => cond (!y4) (some ([], 1)) (Option.bind (α := Nat) (cond a2.Done (some (1)) (some (0))) (fun k8 => Option.bind (some ([y1.1, ((k8 : Nat) : Int), a2.Count, a2.Blocked, ((a2.Frames.length : Nat) : Int)])) (fun l14 => Option.bind (α := (List UInt8)) (guardO (lenB l14.length) (Option.bind (checkpoint_Encode_L1 fuelN l14 [] 0) (fun l74 => some (l74)))) (fun l51 => Option.bind (α := (List UInt8)) (Option.bind (checkpoint_Encode_L2 fuelN a2.Frames l51 0) (fun l194 => some (l194))) (fun l150 => Option.bind (frame_Seal fuelN l150) (fun y214 => some (y214, 0))))))))))

set_option maxHeartbeats 2000000 in
theorem at_checkpoint_Encode {fuelN : Nat} {a0 : Program} {a1 : Config} {a2 : Snapshot} {r : (List UInt8) × Int} (hs : checkpoint_Encode fuelN a0 a1 a2 = some r) : At Tryd.prog 11 [.agg (eA a0), .agg (eA a1), .agg (eA a2)] (.tup [.cell (sC r.1), iV .i64 r.2]) := by
  refine at_bound (by kernel_rfl) fun hb => ?_
  have hb1 : LenOk (.sl a0.Vars.length (encL a0.Vars)) := lkc hb
  have hb2 : LenOk (.sl a0.Mutexes.length (encL a0.Mutexes)) := lkc hb
  have hb3 : LenOk (.sl a0.Conds.length (encL a0.Conds)) := lkc hb
  have hb4 : LenOk (.sl a0.Funcs.length (encL a0.Funcs)) := lkc hb
  have hb5 : LenOk (.sl a0.Threads.length (encL a0.Threads)) := lkc hb
  have hb6 : LenOk (.sl a2.Frames.length (encL a2.Frames)) := lkc hb
  refine at_code mixed Tryd.func11 (by kernel_rfl) rfl (by kernel_rfl) rfl fun Q hQ => ?_
  rw [checkpoint_Encode] at hs
  refine goR f0 ?_
  revert hs; refine bK fun y1 hx2 hs => ?_
  refine cP f0 (at_checkpoint_Digest hx2) ?_
  refine goR f0 ?_
  revert hs; refine cS f0 ?_ ?_ <;> intro h3 hs
  · refine goR f0 ?_
    obtain rfl := sj hs
    exact hQ _ _ (rg f0 (Gh.unz _))
  · refine goR f0 ?_
    revert hs; refine bK fun y4 hx5 hs => ?_
    refine cP f0 (at_checkpoint_Valid hx5) ?_
    refine goR f0 ?_
    revert hs; refine cS f0 ?_ ?_ <;> intro h6 hs
    · refine goR f0 ?_
      obtain rfl := sj hs
      exact hQ _ _ (rg f0 (Gh.unz _))
    · refine goR2 f0 ?_
      revert hs; refine bK fun o10 e9 hs => ?_
      refine awp_cutK (fun (v : Nat) (σ : St) => some (v) = some o10 ∧ σ.env 5 = .cell (.ref (.o 1 2 0) 0) ∧ σ.env 8 = iV .i64 y1.1 ∧ σ.env 10 = iV .i64 ((v : Nat) : Int) ∧ σ.hp (.o 1 2 0) = some (.cells (eA a2)) ∧ 6 ≤ σ.gen) (by rfl) (fun Q hK11 hX12 => ?_) (fun k8 σ1 hp => ?_)
      · refine goR f0 ?_
        revert e9; refine cS f0 ?_ ?_ <;> intro h13 e9
        · refine goR f0 ?_
          exact hK11 1 _ _ (Gh.refl _) ⟨e9, pv f0, pv f0, pv f0, pv f0, pg⟩
        · refine goR f0 ?_
          exact hK11 0 _ _ (Gh.refl _) ⟨e9, pv f0, pv f0, pv f0, pv f0, pg⟩
      · obtain ⟨e9, h2_5, h2_8, h2_10, g2_0, n2_g⟩ := hp
        obtain rfl := sj e9
        try dsimp only at hs
        have n2_0 : ¬ (σ1.gen = 0) := by omega
        revert hs; refine lK fun l14 hx15 hs => ?_
        have hx15n : l14.length = 5 := by rw [hx15]; rfl
        have F1 := an h2_5 (an h2_8 (an h2_10 (an g2_0 (an n2_0 hx15))))
        refine goR2 F1 ?_
        revert hs; refine bK fun o53 e52 hs => ?_
        refine awp_cutK (fun (v : (List UInt8)) (σ : St) => some (v) = some o53 ∧ σ.env 5 = .cell (.ref (.o 1 2 0) 0) ∧ σ.env 11 = .cell (.sl (.l 3) 0 1 v.length) ∧ σ.hp (.l 3) = some (.pure (encL v)) ∧ σ.hp (.o 1 2 0) = some (.cells (eA a2)) ∧ (σ1.gen + 2) ≤ σ.gen) (by rfl) (fun Q hK54 hX55 => ?_) (fun l51 σ5 hp => ?_)
        · refine goR F1 ?_
          obtain ⟨hb86, e52⟩ := guardO_some e52
          revert e52; refine bK fun o76 e75 e52 => ?_
          refine awp_loopW (fun (v : (List Int) × (List UInt8) × Nat) (σ : St) => checkpoint_Encode_L1 fuelN v.1 v.2.1 v.2.2 = some o76 ∧ v.1 = l14.drop v.2.2 ∧ σ.env 5 = .cell (.ref (.o 1 2 0) 0) ∧ σ.env 11 = .cell (.sl (.l 9) 0 1 v.2.1.length) ∧ σ.env 39 = .cell (.sl (.o (σ1.gen + 2) 9 0) 0 1 l14.length) ∧ σ.env 40 = iV .i64 ((l14.length : Nat) : Int) ∧ σ.env 41 = iV .i64 ((v.2.2 : Nat) : Int) ∧ σ.hp (.l 9) = some (.pure (encL v.2.1)) ∧ σ.hp (.o (σ1.gen + 2) 9 0) = some (.pure (encL l14)) ∧ σ.hp (.o 1 2 0) = some (.cells (eA a2)) ∧ (σ1.gen + 2) ≤ σ.gen) (fun v => v.1.length) _ (Gh.void _ (.l 9) 11 1 rfl (by simp [F1])) (l14, [], 0) ⟨e75, by simp, pv F1, pv F1, pv F1, pv F1, pv F1, pv F1, pv F1, pv F1, pg⟩ fun v σ8 hp L77 hL78 => ?_
          obtain ⟨q80, l65, k66⟩ := v
          dsimp only at hp hL78
          obtain ⟨e75, hd79, h7_5, h7_11, h7_39, h7_40, h7_41, g7_0, g7_1, g7_2, n7_g⟩ := hp
          have n7_0 : ¬ (σ8.gen = 0) := by omega
          have n7_σ1gen_0 : ¬ (σ8.gen = σ1.gen) := by omega
          have n7_σ1gen_0' : ¬ (σ1.gen = σ8.gen) := by omega
          have n7_σ1gen_1 : ¬ (σ8.gen = σ1.gen + 1) := by omega
          have n7_σ1gen_1' : ¬ (σ1.gen + 1 = σ8.gen) := by omega
          have n7_σ1gen_a : ∀ j, ¬ (σ8.gen + j = σ1.gen) := fun j => by omega
          have n7_σ1gen_a' : ∀ j, ¬ (σ1.gen = σ8.gen + j) := fun j => by omega
          rcases q80 with _ | ⟨x85, q81⟩
          · have hlt82 := drop_end hd79
            rw [checkpoint_Encode_L1] at e75; try dsimp only at e75
            have F2 := an h7_5 (an h7_11 (an h7_39 (an h7_40 (an h7_41 (an g7_0 (an g7_1 (an g7_2 (an n7_0 (an n7_σ1gen_0 (an n7_σ1gen_0' (an n7_σ1gen_1 (an n7_σ1gen_1' (an n7_σ1gen_a n7_σ1gen_a')))))))))))))
            refine goR F2 ?_
            refine condK_f (by simp [ltI]; omega) ?_
            obtain rfl := sj e75
            try dsimp only at e52
            exact hK54 l65 _ _ (Gh.ren _ (.l 9) (.l 3) (by simp) rfl rfl) ⟨e52, pv F2, pv F2, pv F2, pv F2, pg⟩
          · obtain ⟨hx84, hlt82, hd87⟩ := drop_next hd79
            have ew83 := wrap_succG hlt82 hb86
            rw [checkpoint_Encode_L1] at e75; try dsimp only at e75
            have F3 := an h7_5 (an h7_11 (an h7_39 (an h7_40 (an h7_41 (an g7_0 (an g7_1 (an g7_2 (an n7_0 (an n7_σ1gen_0 (an n7_σ1gen_0' (an n7_σ1gen_1 (an n7_σ1gen_1' (an n7_σ1gen_a (an n7_σ1gen_a' (an hlt82 ew83)))))))))))))))
            refine goR F3 ?_
            refine condK_t (by simp [ltI]; omega) ?_
            have f88 : partCV Tryd.prog 3 (encL l14) (k66) = some (iV .i64 x85) := partCV_enc1 hx84 (by simp)
            have F4 := an F3 f88
            refine goR F4 ?_
            revert e75; refine bK fun y89 hx90 e75 => ?_
            refine cA F4 (at_frame_AppendUint hx90) ?_
            refine goR F4 ?_
            exact hL78 (q81, y89, (k66 + 1)) _ _ (Gh.ren _ (.o (σ8.gen + 3) 2 0) (.l 9) (by simp) rfl rfl) ⟨e75, hd87, pv F4, pv F4, pv F4, pv F4, pv F4, pv F4, pv F4, pv F4, pg⟩ (by simp)
        · obtain ⟨e52, h6_5, h6_11, g6_0, g6_1, n6_g⟩ := hp
          obtain rfl := sj e52
          try dsimp only at hs
          have n6_0 : ¬ (σ5.gen = 0) := by omega
          have F5 := an h6_5 (an h6_11 (an g6_0 (an g6_1 n6_0)))
          refine goR2 F5 ?_
          revert hs; refine bK fun o152 e151 hs => ?_
          refine awp_cutK (fun (v : (List UInt8)) (σ : St) => some (v) = some o152 ∧ σ.env 11 = .cell (sC v) ∧ (σ5.gen + 1) ≤ σ.gen) (by rfl) (fun Q hK153 hX154 => ?_) (fun l150 σ11 hp => ?_)
          · refine goR F5 ?_
            revert e151; refine bK fun o196 e195 e151 => ?_
            refine awp_loopW (fun (v : (List Frame) × (List UInt8) × Nat) (σ : St) => checkpoint_Encode_L2 fuelN v.1 v.2.1 v.2.2 = some o196 ∧ v.1 = a2.Frames.drop v.2.2 ∧ σ.env 11 = .cell (sC v.2.1) ∧ σ.env 50 = .cell (sC a2.Frames) ∧ σ.env 51 = iV .i64 ((a2.Frames.length : Nat) : Int) ∧ σ.env 52 = iV .i64 ((v.2.2 : Nat) : Int) ∧ (σ5.gen + 1) ≤ σ.gen) (fun v => v.1.length) _ (Gh.frz _ (.l 3)) (a2.Frames, l51, 0) ⟨e195, by simp, pv F5, pv F5, pv F5, pv F5, pg⟩ fun v σ14 hp L197 hL198 => ?_
            obtain ⟨q200, l181, k182⟩ := v
            dsimp only at hp hL198
            obtain ⟨e195, hd199, h13_11, h13_50, h13_51, h13_52, n13_g⟩ := hp
            rcases q200 with _ | ⟨x205, q201⟩
            · have hlt202 := drop_end hd199
              rw [checkpoint_Encode_L2] at e195; try dsimp only at e195
              have F6 := an h13_11 (an h13_50 (an h13_51 h13_52))
              refine goR F6 ?_
              refine condK_f (by simp [ltI]; omega) ?_
              obtain rfl := sj e195
              try dsimp only at e151
              exact hK153 l181 _ _ (Gh.refl _) ⟨e151, pv F6, pg⟩
            · obtain ⟨hx204, hlt202, hd206⟩ := drop_next hd199
              have ew203 := wrap_succ hlt202 (hb6).len
              rw [checkpoint_Encode_L2] at e195; try dsimp only at e195
              have F7 := an h13_11 (an h13_50 (an h13_51 (an h13_52 (an hlt202 ew203))))
              refine goR F7 ?_
              refine condK_t (by simp [ltI]; omega) ?_
              have f207 : partCV Tryd.prog 79 (encL a2.Frames) (k182 * 4) = some (.agg (eA x205)) := partCV_enc hx204 (f := 0) (by simp)
              have F8 := an F7 f207
              refine goR F8 ?_
              revert e195; refine bK fun y208 hx209 e195 => ?_
              refine cA F8 (at_frame_AppendInt hx209) ?_
              refine goR F8 ?_
              revert e195; refine bK fun y210 hx211 e195 => ?_
              refine cA F8 (at_frame_AppendInts hx211) ?_
              refine goR F8 ?_
              revert e195; refine bK fun y212 hx213 e195 => ?_
              refine cA F8 (at_checkpoint_appendTree hx213) ?_
              refine goR F8 ?_
              exact hL198 (q201, y212, (k182 + 1)) _ _ (Gh.refl _) ⟨e195, hd206, pv F8, pv F8, pv F8, pv F8, pg⟩ (by simp)
          · obtain ⟨e151, h12_11, n12_g⟩ := hp
            obtain rfl := sj e151
            try dsimp only at hs
            refine goR h12_11 ?_
            revert hs; refine bK fun y214 hx215 hs => ?_
            refine cP h12_11 (at_frame_Seal hx215) ?_
            refine goR h12_11 ?_
            obtain rfl := sj hs
            exact hQ _ _ (rg h12_11 (Gh.refl _))
end Go.Dc
end
section
set_option linter.all false
namespace Go.Dc
open Go Go.Hw Go.Proofs
set_option maxRecDepth 100000
def frame_decode_L1 (a0 : List UInt8) : Nat → Int → Int → Option ((Int × Int) ⊕ (Int × Int × Int))
  | 0, _, _ => none
  | q75 + 1, i57, i58 => cond (eqI i58 9) (some (.inr (0, 0, 2))) (cond (eqI i58 ((a0.length : Nat) : Int)) (some (.inr (0, 0, 22))) (Option.bind (getI a0 i58) (fun x81 => cond (ltI (x81.toNat : Int) 128) (some (.inl (i57, i58))) (guardO (!(ltI (IntKind.i64.wrap (7 * i58)) 0)) (frame_decode_L1 a0 q75 (bits .or .u64 i57 (shlI .u64 (IntKind.u64.wrap (IntKind.u8.wrap ((x81.toNat : Int) - 128))) (IntKind.i64.wrap (7 * i58)))) (IntKind.i64.wrap (i58 + 1)))))))

def frame_decode (fuelN : Nat) (a0 : List UInt8) : Option (Int × Int × Int) :=
  Option.bind (α := (Int × Int) ⊕ (Int × Int × Int)) (Option.bind (frame_decode_L1 a0 fuelN 0 0) (fun o => match o with | .inl (i67, i68) => some (.inl (i67, i68)) | .inr r86 => some (.inr r86))) (fun o => match o with | .inl (i41, i42) => Option.bind (getI a0 i42) (fun x87 => cond (andB (eqI (x87.toNat : Int) 0) (ltI 0 i42)) (some (0, 0, 3)) (guardO (!(ltI (IntKind.i64.wrap (7 * i42)) 0)) (cond (ltI 4611686018427387904 (bits .or .u64 i41 (shlI .u64 (IntKind.u64.wrap (x87.toNat : Int)) (IntKind.i64.wrap (7 * i42))))) (some (0, 0, 2)) (some (IntKind.i64.wrap (bits .or .u64 i41 (shlI .u64 (IntKind.u64.wrap (x87.toNat : Int)) (IntKind.i64.wrap (7 * i42)))), IntKind.i64.wrap (i42 + 1), 0))))) | .inr r93 => some r93)

set_option maxHeartbeats 2000000 in
theorem at_frame_decode {fuelN : Nat} {a0 : List UInt8} {r : Int × Int × Int} (hs : frame_decode fuelN a0 = some r) : At Tryd.prog 56 [.cell (sC a0)] (.tup [iV .i64 r.1, iV .i64 r.2.1, iV .i64 r.2.2]) := by
  refine at_bound (by kernel_rfl) fun hb => ?_
  have hb1 : LenOk (.sl a0.length (encL a0)) := lkc hb
  refine at_code mixed Tryd.func56 (by kernel_rfl) rfl (by kernel_rfl) rfl fun Q hQ => ?_
  rw [frame_decode] at hs
  refine goR2 f0 ?_
  revert hs; refine bK fun o44 e43 hs => ?_
  refine awp_cutK (fun (v : Int × Int) (σ : St) => some (.inl v) = some o44 ∧ σ.env 0 = .cell (sC a0) ∧ σ.env 5 = iV .u64 v.1 ∧ σ.env 6 = iV .i64 v.2 ∧ 3 ≤ σ.gen) (by rfl) (fun Q hK45 hX46 => ?_) (fun v σ3 hp => ?_)
  · refine goR f0 ?_
    revert e43; refine bK fun o70 e69 e43 => ?_
    refine awp_loopW (fun (v : Nat × Int × Int) (σ : St) => frame_decode_L1 a0 v.1 v.2.1 v.2.2 = some o70 ∧ σ.env 0 = .cell (sC a0) ∧ σ.env 5 = iV .u64 v.2.1 ∧ σ.env 6 = iV .i64 v.2.2 ∧ 3 ≤ σ.gen) (fun v => v.1) _ (Gh.refl _) (fuelN, 0, 0) ⟨e69, pv f0, pv f0, pv f0, pg⟩ fun v σ6 hp L71 hL72 => ?_
    obtain ⟨q74, i57, i58⟩ := v
    dsimp only at hp hL72
    obtain ⟨e69, h5_0, h5_5, h5_6, n5_g⟩ := hp
    rcases q74 with _ | q75
    · rw [frame_decode_L1] at e69; cases e69
    · rw [frame_decode_L1] at e69; try dsimp only at e69
      have F1 := an h5_0 (an h5_5 h5_6)
      refine goR F1 ?_
      revert e69; refine cS F1 ?_ ?_ <;> intro h79 e69
      · refine goR F1 ?_
        obtain rfl := sj e69
        try dsimp only at e43
        obtain rfl := sj e43
        try dsimp only at hs
        refine hX46 _ _ (by simp) ?_
        refine goR F1 ?_
        obtain rfl := sj hs
        exact hQ _ _ (rg F1 (Gh.refl _))
      · refine goR F1 ?_
        revert e69; refine cS F1 ?_ ?_ <;> intro h80 e69
        · refine goR F1 ?_
          obtain rfl := sj e69
          try dsimp only at e43
          obtain rfl := sj e43
          try dsimp only at hs
          refine hX46 _ _ (by simp) ?_
          refine goR F1 ?_
          obtain rfl := sj hs
          exact hQ _ _ (rg F1 (Gh.refl _))
        · revert e69; refine bK fun x81 hx82 e69 => ?_
          obtain ⟨hx82a, hx82b, hx82c, hx82d⟩ := getI_some hx82
          have f83 : partCV Tryd.prog 5 (encL a0) ((i58).toNat) = some (iV .u8 (x81.toNat : Int)) := partCV_enc1 hx82d (by simp)
          have F2 := an F1 f83
          refine goR F2 ?_
          revert e69; refine cS F2 ?_ ?_ <;> intro h84 e69
          · refine goR F2 ?_
            obtain rfl := sj e69
            try dsimp only at e43
            exact hK45 (i57, i58) _ _ (Gh.refl _) ⟨e43, pv F2, pv F2, pv F2, pg⟩
          · obtain ⟨g85, e69⟩ := guardO_some e69
            have g85z := shft_t g85
            have F3 := an F2 g85z
            refine goR F3 ?_
            exact hL72 (q75, bits .or .u64 i57 (shlI .u64 (IntKind.u64.wrap (IntKind.u8.wrap ((x81.toNat : Int) - 128))) (IntKind.i64.wrap (7 * i58))), IntKind.i64.wrap (i58 + 1)) _ _ (Gh.refl _) ⟨e69, pv F3, pv F3, pv F3, pg⟩ (by omega)
  · obtain ⟨i41, i42⟩ := v
    dsimp only at hp
    obtain ⟨e43, h4_0, h4_5, h4_6, n4_g⟩ := hp
    obtain rfl := sj e43
    try dsimp only at hs
    revert hs; refine bK fun x87 hx88 hs => ?_
    obtain ⟨hx88a, hx88b, hx88c, hx88d⟩ := getI_some hx88
    have f89 : partCV Tryd.prog 5 (encL a0) ((i42).toNat) = some (iV .u8 (x87.toNat : Int)) := partCV_enc1 hx88d (by simp)
    have F4 := an h4_0 (an h4_5 (an h4_6 f89))
    have F5 := an F4 (an hx88a hx88b)
    refine goG F4 F5 ?_
    revert hs; refine cS F4 ?_ ?_ <;> intro h90 hs
    · refine goG F4 F5 ?_
      obtain rfl := sj hs
      exact hQ _ _ (rg F4 (Gh.refl _))
    · obtain ⟨g91, hs⟩ := guardO_some hs
      have g91z := shft_t g91
      have F6 := an F4 g91z
      have F7 := an F6 (an hx88a hx88b)
      refine goG F6 F7 ?_
      revert hs; refine cS F6 ?_ ?_ <;> intro h92 hs
      · refine goG F6 F7 ?_
        obtain rfl := sj hs
        exact hQ _ _ (rg F6 (Gh.refl _))
      · refine goG F6 F7 ?_
        obtain rfl := sj hs
        exact hQ _ _ (rg F6 (Gh.refl _))
end Go.Dc
end
section
set_option linter.all false
namespace Go.Dc
open Go Go.Hw Go.Proofs
set_option maxRecDepth 100000

def frame_Uint (fuelN : Nat) (a0 : List UInt8) : Option (Int × (List UInt8) × Int) :=
  Option.bind (frame_decode fuelN a0) (fun y1 => cond (!(eqI y1.2.2 0)) (some (0, [], y1.2.2)) (guardO (slB y1.2.1 (a0.length : Int) a0.length) (Option.bind (some (subL a0 y1.2.1 (a0.length : Int))) (fun l5 => Option.bind (some ([l5])) (fun l8 => Option.bind (frame_join l8) (fun y10 => some (y1.1, y10, 0)))))))

set_option maxHeartbeats 2000000 in
theorem at_frame_Uint {fuelN : Nat} {a0 : List UInt8} {r : Int × (List UInt8) × Int} (hs : frame_Uint fuelN a0 = some r) : At Tryd.prog 57 [.cell (sC a0)] (.tup [iV .i64 r.1, .cell (sC r.2.1), iV .i64 r.2.2]) := by
  refine at_bound (by kernel_rfl) fun hb => ?_
  have hb1 : LenOk (.sl a0.length (encL a0)) := lkc hb
  refine at_code mixed Tryd.func57 (by kernel_rfl) rfl (by kernel_rfl) rfl fun Q hQ => ?_
  rw [frame_Uint] at hs
  refine goR f0 ?_
  revert hs; refine bK fun y1 hx2 hs => ?_
  refine cP f0 (at_frame_decode hx2) ?_
  refine goR f0 ?_
  revert hs; refine cS f0 ?_ ?_ <;> intro h3 hs
  · refine goR f0 ?_
    obtain rfl := sj hs
    exact hQ _ _ (rg f0 (Gh.unz _))
  · obtain ⟨g4, hs⟩ := guardO_some hs
    obtain ⟨g4a, g4b, g4c⟩ := slB_t g4
    revert hs; refine lK fun l5 hx6 hs => ?_
    have f7n : l5.length = ((a0.length : Int) - y1.2.1).toNat := by rw [hx6]; exact subL_len ⟨g4a, g4b, g4c⟩
    have f7e : ((encL a0).drop ((y1.2.1 : Int).toNat * 1)).take (((a0.length : Int) - y1.2.1).toNat * 1) = encL l5 := by rw [hx6]; exact subL_enc (α := UInt8)
    try simp at f7n
    try simp at f7e
    have f7o : LenOk (.sl l5.length (encL l5)) := by rw [hx6]; exact subL_ok hb1
    revert hs; refine lK fun l8 hx9 hs => ?_
    have hx9n : l8.length = 1 := by rw [hx9]; rfl
    have F1 := an g4a (an g4b (an g4c (an f7n (an f7e hx9))))
    refine goR F1 ?_
    revert hs; refine bK fun y10 hx11 hs => ?_
    refine cA F1 (at_frame_join hx11) ?_
    refine goR F1 ?_
    obtain rfl := sj hs
    exact hQ _ _ (rg F1 (Gh.frz _ (.o 4 5 0)))
end Go.Dc
end
section
set_option linter.all false
namespace Go.Dc
open Go Go.Hw Go.Proofs
set_option maxRecDepth 100000

def checkpoint_rest_uint_CheckpointDecoder (fuelN : Nat) (a0 : CheckpointDecoder) : Option (Int × CheckpointDecoder) :=
  cond (!(eqI a0.rest.err 0)) (some (0, a0)) (Option.bind (frame_Uint fuelN a0.rest.bytes) (fun y2 => some (y2.1, { a0 with rest := ({ bytes := y2.2.1, err := y2.2.2 } : CheckpointRest) })))

set_option maxHeartbeats 2000000 in
theorem at_checkpoint_rest_uint_CheckpointDecoder {fuelN : Nat} {a0 : CheckpointDecoder} {r : Int × CheckpointDecoder} (hs : checkpoint_rest_uint_CheckpointDecoder fuelN a0 = some r) : CAt Tryd.prog 36 [.cell (.ref (.a 0) 0)] [.cells [sC a0.rest.bytes, nC a0.rest.err, nC a0.done, .own (.sp 4 a0.out.Frames.length (encL a0.out.Frames)), bC a0.out.Done, nC a0.out.Count, nC a0.out.Blocked]] (.ret (iV .i64 r.1)) [(.a 0, .cells [sC r.2.rest.bytes, nC r.2.rest.err, nC r.2.done, .own (.sp 4 r.2.out.Frames.length (encL r.2.out.Frames)), bC r.2.out.Done, nC r.2.out.Count, nC r.2.out.Blocked])] := by
  refine at_bound (by kernel_rfl) fun hb => ?_
  refine at_code mixed Tryd.func36 (by kernel_rfl) rfl (by kernel_rfl) rfl fun Q hQ => ?_
  rw [checkpoint_rest_uint_CheckpointDecoder] at hs
  refine goR f0 ?_
  revert hs; refine cS f0 ?_ ?_ <;> intro h1 hs
  · refine goR f0 ?_
    obtain rfl := sj hs
    refine hQ _ _ (ret2g _ (Gh.refl _) (by simp [St.frz, St.pur]; rfl) (by first | rfl | (simp [St.frz, St.pur]; done) | (rw [if_pos (by first | omega | (simp; omega))]; simp [St.frz, St.pur]; first | omega | exact List.take_of_length_le (by simp; omega) | skip)) (pv f0))
  · refine goR f0 ?_
    revert hs; refine bK fun y2 hx3 hs => ?_
    refine cP f0 (at_frame_Uint hx3) ?_
    refine goR f0 ?_
    obtain rfl := sj hs
    refine hQ _ _ (ret2g _ (Gh.refl _) (by simp [St.frz, St.pur]; rfl) (by first | rfl | (simp [St.frz, St.pur]; done) | (rw [if_pos (by first | omega | (simp; omega))]; simp [St.frz, St.pur]; first | omega | exact List.take_of_length_le (by simp; omega) | skip)) (pv f0))
end Go.Dc
end
section
set_option linter.all false
namespace Go.Dc
open Go Go.Hw Go.Proofs
set_option maxRecDepth 100000
def frame_Open_L1 (a0 : List UInt8) (y1 : Int × Int × Int) : List UInt8 → Nat → Option (Unit ⊕ ((List UInt8) × (List UInt8) × Int))
  | [], k66 => some (.inl ())
  | x86 :: q82, k66 => Option.bind (getI a0 (IntKind.i64.wrap (IntKind.i64.wrap (y1.2.1 + y1.1) + ((k66 : Nat) : Int)))) (fun x90 => cond (!(eqI (x90.toNat : Int) (x86.toNat : Int))) (some (.inr ([], [], 21))) (frame_Open_L1 a0 y1 q82 (k66 + 1)))

def frame_Open (fuelN : Nat) (a0 : List UInt8) : Option ((List UInt8) × (List UInt8) × Int) :=
  Option.bind (frame_decode fuelN a0) (fun y1 => cond (!(eqI y1.2.2 0)) (some ([], [], y1.2.2)) (cond (orB (ltI (IntKind.i64.wrap (((a0.length : Nat) : Int) - y1.2.1)) 4) (ltI (IntKind.i64.wrap (IntKind.i64.wrap (((a0.length : Nat) : Int) - y1.2.1) - 4)) y1.1)) (some ([], [], 22)) (guardO (slB 0 (IntKind.i64.wrap (y1.2.1 + y1.1)) a0.length) (Option.bind (some (subL a0 0 (IntKind.i64.wrap (y1.2.1 + y1.1)))) (fun l6 => Option.bind (frame_Checksum fuelN l6) (fun y9 => Option.bind (frame_sumBytes y9) (fun y11 => Option.bind (α := Unit ⊕ ((List UInt8) × (List UInt8) × Int)) (guardO (lenB y11.length) (Option.bind (frame_Open_L1 a0 y1 y11 0) (fun o => match o with | .inl _ => some (.inl ()) | .inr r94 => some (.inr r94)))) (fun o => match o with | .inl _ => guardO (slB y1.2.1 (IntKind.i64.wrap (y1.2.1 + y1.1)) a0.length) (Option.bind (some (subL a0 y1.2.1 (IntKind.i64.wrap (y1.2.1 + y1.1)))) (fun l112 => Option.bind (some ([l112])) (fun l115 => Option.bind (frame_join l115) (fun y117 => guardO (slB (IntKind.i64.wrap (IntKind.i64.wrap (y1.2.1 + y1.1) + 4)) (a0.length : Int) a0.length) (Option.bind (some (subL a0 (IntKind.i64.wrap (IntKind.i64.wrap (y1.2.1 + y1.1) + 4)) (a0.length : Int))) (fun l120 => Option.bind (some ([l120])) (fun l123 => Option.bind (frame_join l123) (fun y125 => some (y117, y125, 0))))))))) | .inr r127 => some r127))))))))

set_option maxHeartbeats 2000000 in
theorem at_frame_Open {fuelN : Nat} {a0 : List UInt8} {r : (List UInt8) × (List UInt8) × Int} (hs : frame_Open fuelN a0 = some r) : At Tryd.prog 35 [.cell (sC a0)] (.tup [.cell (sC r.1), .cell (sC r.2.1), iV .i64 r.2.2]) := by
  refine at_bound (by kernel_rfl) fun hb => ?_
  have hb1 : LenOk (.sl a0.length (encL a0)) := lkc hb
  refine at_code mixed Tryd.func35 (by kernel_rfl) rfl (by kernel_rfl) rfl fun Q hQ => ?_
  rw [frame_Open] at hs
  refine goR f0 ?_
  revert hs; refine bK fun y1 hx2 hs => ?_
  refine cP f0 (at_frame_decode hx2) ?_
  refine goR f0 ?_
  revert hs; refine cS f0 ?_ ?_ <;> intro h3 hs
  · refine goR f0 ?_
    obtain rfl := sj hs
    exact hQ _ _ (rg f0 (Gh.unz _))
  · refine goG f0 f0 ?_
    revert hs; refine cS f0 ?_ ?_ <;> intro h4 hs
    · refine goG f0 f0 ?_
      obtain rfl := sj hs
      exact hQ _ _ (rg f0 (Gh.unz _))
    · obtain ⟨g5, hs⟩ := guardO_some hs
      obtain ⟨g5a, g5b, g5c⟩ := slB_t g5
      revert hs; refine lK fun l6 hx7 hs => ?_
      have f8n : l6.length = (IntKind.i64.wrap (y1.2.1 + y1.1) - 0).toNat := by rw [hx7]; exact subL_len ⟨g5a, g5b, g5c⟩
      have f8e : ((encL a0).drop ((0 : Int).toNat * 1)).take ((IntKind.i64.wrap (y1.2.1 + y1.1) - 0).toNat * 1) = encL l6 := by rw [hx7]; exact subL_enc (α := UInt8)
      try simp at f8n
      try simp at f8e
      have f8o : LenOk (.sl l6.length (encL l6)) := by rw [hx7]; exact subL_ok hb1
      have F1 := an g5a (an g5b (an g5c (an f8n f8e)))
      refine goG F1 F1 ?_
      revert hs; refine bK fun y9 hx10 hs => ?_
      refine cP F1 (at_frame_Checksum hx10) ?_
      refine goG F1 F1 ?_
      revert hs; refine bK fun y11 hx12 hs => ?_
      refine cP F1 (at_frame_sumBytes hx12) ?_
      refine goG2 F1 F1 ?_
      revert hs; refine bK fun o53 e52 hs => ?_
      refine awp_cutK (fun (v : Unit) (σ : St) => some (.inl v) = some o53 ∧ σ.env 0 = .cell (sC a0) ∧ σ.env 6 = iV .i64 y1.2.1 ∧ σ.env 8 = iV .i64 (IntKind.i64.wrap (y1.2.1 + y1.1)) ∧ 6 ≤ σ.gen) (by rfl) (fun Q hK54 hX55 => ?_) (fun v σ3 hp => ?_)
      · refine goG F1 F1 ?_
        obtain ⟨hb87, e52⟩ := guardO_some e52
        revert e52; refine bK fun o77 e76 e52 => ?_
        refine awp_loopW (fun (v : (List UInt8) × Nat) (σ : St) => frame_Open_L1 a0 y1 v.1 v.2 = some o77 ∧ v.1 = y11.drop v.2 ∧ σ.env 0 = .cell (sC a0) ∧ σ.env 6 = iV .i64 y1.2.1 ∧ σ.env 8 = iV .i64 (IntKind.i64.wrap (y1.2.1 + y1.1)) ∧ σ.env 41 = .cell (sC y11) ∧ σ.env 42 = iV .i64 ((y11.length : Nat) : Int) ∧ σ.env 43 = iV .i64 ((v.2 : Nat) : Int) ∧ 6 ≤ σ.gen) (fun v => v.1.length) _ (Gh.refl _) (y11, 0) ⟨e76, by simp, pv F1, pv F1, pv F1, pv F1, pv F1, pv F1, pg⟩ fun v σ6 hp L78 hL79 => ?_
        obtain ⟨q81, k66⟩ := v
        dsimp only at hp hL79
        obtain ⟨e76, hd80, h5_0, h5_6, h5_8, h5_41, h5_42, h5_43, n5_g⟩ := hp
        rcases q81 with _ | ⟨x86, q82⟩
        · have hlt83 := drop_end hd80
          rw [frame_Open_L1] at e76; try dsimp only at e76
          have F2 := an h5_0 (an h5_6 (an h5_8 (an h5_41 (an h5_42 h5_43))))
          refine goR F2 ?_
          refine condK_f (by simp [ltI]; omega) ?_
          obtain rfl := sj e76
          try dsimp only at e52
          exact hK54 () _ _ (Gh.refl _) ⟨e52, pv F2, pv F2, pv F2, pg⟩
        · obtain ⟨hx85, hlt83, hd88⟩ := drop_next hd80
          have ew84 := wrap_succG hlt83 hb87
          rw [frame_Open_L1] at e76; try dsimp only at e76
          have F3 := an h5_0 (an h5_6 (an h5_8 (an h5_41 (an h5_42 (an h5_43 (an hlt83 ew84))))))
          refine goR F3 ?_
          refine condK_t (by simp [ltI]; omega) ?_
          have f89 : partCV Tryd.prog 5 (encL y11) (k66) = some (iV .u8 (x86.toNat : Int)) := partCV_enc1 hx85 (by simp)
          revert e76; refine bK fun x90 hx91 e76 => ?_
          obtain ⟨hx91a, hx91b, hx91c, hx91d⟩ := getI_some hx91
          have f92 : partCV Tryd.prog 5 (encL a0) ((IntKind.i64.wrap (IntKind.i64.wrap (y1.2.1 + y1.1) + ((k66 : Nat) : Int))).toNat) = some (iV .u8 (x90.toNat : Int)) := partCV_enc1 hx91d (by simp)
          have F4 := an F3 (an f89 f92)
          refine goR F4 ?_
          revert e76; refine cS F4 ?_ ?_ <;> intro h93 e76
          · refine goR F4 ?_
            obtain rfl := sj e76
            try dsimp only at e52
            obtain rfl := sj e52
            try dsimp only at hs
            refine hX55 _ _ (by simp) ?_
            refine goR F4 ?_
            obtain rfl := sj hs
            exact hQ _ _ (rg F4 (Gh.unz _))
          · refine goR F4 ?_
            exact hL79 (q82, (k66 + 1)) _ _ (Gh.refl _) ⟨e76, hd88, pv F4, pv F4, pv F4, pv F4, pv F4, pv F4, pg⟩ (by simp)
      · obtain ⟨e52, h4_0, h4_6, h4_8, n4_g⟩ := hp
        obtain rfl := sj e52
        try dsimp only at hs
        obtain ⟨g111, hs⟩ := guardO_some hs
        obtain ⟨g111a, g111b, g111c⟩ := slB_t g111
        revert hs; refine lK fun l112 hx113 hs => ?_
        have f114n : l112.length = (IntKind.i64.wrap (y1.2.1 + y1.1) - y1.2.1).toNat := by rw [hx113]; exact subL_len ⟨g111a, g111b, g111c⟩
        have f114e : ((encL a0).drop ((y1.2.1 : Int).toNat * 1)).take ((IntKind.i64.wrap (y1.2.1 + y1.1) - y1.2.1).toNat * 1) = encL l112 := by rw [hx113]; exact subL_enc (α := UInt8)
        try simp at f114n
        try simp at f114e
        have f114o : LenOk (.sl l112.length (encL l112)) := by rw [hx113]; exact subL_ok hb1
        revert hs; refine lK fun l115 hx116 hs => ?_
        have hx116n : l115.length = 1 := by rw [hx116]; rfl
        have F5 := an h4_0 (an h4_6 (an h4_8 (an g111a (an g111b (an g111c (an f114n (an f114e hx116)))))))
        refine goE F5 F5 ?_
        revert hs; refine bK fun y117 hx118 hs => ?_
        refine cA F5 (at_frame_join hx118) ?_
        obtain ⟨g119, hs⟩ := guardO_some hs
        obtain ⟨g119a, g119b, g119c⟩ := slB_t g119
        revert hs; refine lK fun l120 hx121 hs => ?_
        have f122n : l120.length = ((a0.length : Int) - IntKind.i64.wrap (IntKind.i64.wrap (y1.2.1 + y1.1) + 4)).toNat := by rw [hx121]; exact subL_len ⟨g119a, g119b, g119c⟩
        have f122e : ((encL a0).drop ((IntKind.i64.wrap (IntKind.i64.wrap (y1.2.1 + y1.1) + 4) : Int).toNat * 1)).take (((a0.length : Int) - IntKind.i64.wrap (IntKind.i64.wrap (y1.2.1 + y1.1) + 4)).toNat * 1) = encL l120 := by rw [hx121]; exact subL_enc (α := UInt8)
        try simp at f122n
        try simp at f122e
        have f122o : LenOk (.sl l120.length (encL l120)) := by rw [hx121]; exact subL_ok hb1
        revert hs; refine lK fun l123 hx124 hs => ?_
        have hx124n : l123.length = 1 := by rw [hx124]; rfl
        have F6 := an F5 (an g119a (an g119b (an g119c (an f122n (an f122e hx124)))))
        refine goE F6 F6 ?_
        revert hs; refine bK fun y125 hx126 hs => ?_
        refine cA F6 (at_frame_join hx126) ?_
        refine goE F6 F6 ?_
        obtain rfl := sj hs
        exact hQ _ _ (rg F6 ((Gh.frz _ (.o (σ3.gen + 1) 5 0)).trans (Gh.frz _ (.o (σ3.gen + 1) 11 0))))
end Go.Dc
end
section
set_option linter.all false
namespace Go.Dc
open Go Go.Hw Go.Proofs
set_option maxRecDepth 100000

def frame_decodeInt (fuelN : Nat) (a0 : List UInt8) : Option (Int × Int × Int) :=
  Option.bind (frame_decode fuelN a0) (fun y1 => cond (!(eqI y1.2.2 0)) (some (0, 0, y1.2.2)) (cond (eqI (Int.tmod y1.1 2) 0) (some (IntKind.i64.wrap (Int.tdiv y1.1 2), y1.2.1, 0)) (some (IntKind.i64.wrap (Int.tdiv (IntKind.i64.wrap (0 - IntKind.i64.wrap (y1.1 + 1))) 2), y1.2.1, 0))))

set_option maxHeartbeats 2000000 in
theorem at_frame_decodeInt {fuelN : Nat} {a0 : List UInt8} {r : Int × Int × Int} (hs : frame_decodeInt fuelN a0 = some r) : At Tryd.prog 88 [.cell (sC a0)] (.tup [iV .i64 r.1, iV .i64 r.2.1, iV .i64 r.2.2]) := by
  refine at_bound (by kernel_rfl) fun hb => ?_
  have hb1 : LenOk (.sl a0.length (encL a0)) := lkc hb
  refine at_code mixed Tryd.func88 (by kernel_rfl) rfl (by kernel_rfl) rfl fun Q hQ => ?_
  rw [frame_decodeInt] at hs
  refine goR f0 ?_
  revert hs; refine bK fun y1 hx2 hs => ?_
  refine cP f0 (at_frame_decode hx2) ?_
  refine goR f0 ?_
  revert hs; refine cS f0 ?_ ?_ <;> intro h3 hs
  · refine goR f0 ?_
    obtain rfl := sj hs
    exact hQ _ _ (rg f0 (Gh.refl _))
  · refine goR f0 ?_
    revert hs; refine cS f0 ?_ ?_ <;> intro h4 hs
    · refine goR f0 ?_
      obtain rfl := sj hs
      exact hQ _ _ (rg f0 (Gh.refl _))
    · refine goR f0 ?_
      obtain rfl := sj hs
      exact hQ _ _ (rg f0 (Gh.refl _))
end Go.Dc
end
section
set_option linter.all false
namespace Go.Dc
open Go Go.Hw Go.Proofs
set_option maxRecDepth 100000

def frame_Int (fuelN : Nat) (a0 : List UInt8) : Option (Int × (List UInt8) × Int) :=
  Option.bind (frame_decodeInt fuelN a0) (fun y1 => cond (!(eqI y1.2.2 0)) (some (0, [], y1.2.2)) (guardO (slB y1.2.1 (a0.length : Int) a0.length) (Option.bind (some (subL a0 y1.2.1 (a0.length : Int))) (fun l5 => Option.bind (some ([l5])) (fun l8 => Option.bind (frame_join l8) (fun y10 => some (y1.1, y10, 0)))))))

set_option maxHeartbeats 2000000 in
theorem at_frame_Int {fuelN : Nat} {a0 : List UInt8} {r : Int × (List UInt8) × Int} (hs : frame_Int fuelN a0 = some r) : At Tryd.prog 74 [.cell (sC a0)] (.tup [iV .i64 r.1, .cell (sC r.2.1), iV .i64 r.2.2]) := by
  refine at_bound (by kernel_rfl) fun hb => ?_
  have hb1 : LenOk (.sl a0.length (encL a0)) := lkc hb
  refine at_code mixed Tryd.func74 (by kernel_rfl) rfl (by kernel_rfl) rfl fun Q hQ => ?_
  rw [frame_Int] at hs
  refine goR f0 ?_
  revert hs; refine bK fun y1 hx2 hs => ?_
  refine cP f0 (at_frame_decodeInt hx2) ?_
  refine goR f0 ?_
  revert hs; refine cS f0 ?_ ?_ <;> intro h3 hs
  · refine goR f0 ?_
    obtain rfl := sj hs
    exact hQ _ _ (rg f0 (Gh.unz _))
  · obtain ⟨g4, hs⟩ := guardO_some hs
    obtain ⟨g4a, g4b, g4c⟩ := slB_t g4
    revert hs; refine lK fun l5 hx6 hs => ?_
    have f7n : l5.length = ((a0.length : Int) - y1.2.1).toNat := by rw [hx6]; exact subL_len ⟨g4a, g4b, g4c⟩
    have f7e : ((encL a0).drop ((y1.2.1 : Int).toNat * 1)).take (((a0.length : Int) - y1.2.1).toNat * 1) = encL l5 := by rw [hx6]; exact subL_enc (α := UInt8)
    try simp at f7n
    try simp at f7e
    have f7o : LenOk (.sl l5.length (encL l5)) := by rw [hx6]; exact subL_ok hb1
    revert hs; refine lK fun l8 hx9 hs => ?_
    have hx9n : l8.length = 1 := by rw [hx9]; rfl
    have F1 := an g4a (an g4b (an g4c (an f7n (an f7e hx9))))
    refine goR F1 ?_
    revert hs; refine bK fun y10 hx11 hs => ?_
    refine cA F1 (at_frame_join hx11) ?_
    refine goR F1 ?_
    obtain rfl := sj hs
    exact hQ _ _ (rg F1 (Gh.frz _ (.o 4 5 0)))
end Go.Dc
end
