/- Contracts of functions, by their numbers, and the laws that walk them. Conditions: as each states. -/
import Derived.Test.YtihjddokgmjafaaDoorH3
set_option linter.all false
section
set_option linter.all false
namespace Go.Dc
open Go Go.Hw Go.Proofs
set_option maxRecDepth 100000
def inst_Check_L1 (x4 : InstRow) (y8 : (Arr 7 Int)) : Nat → Int → Option (Unit ⊕ Int)
  | 0, _ => none
  | q69 + 1, i55 => cond (ltI i55 7) (guardO (inB i55 7) (guardO (inB i55 7) (cond (andB (!(x4.uses.f ((i55).toNat))) (!(eqI (y8.f ((i55).toNat)) 0))) (some (.inr 9)) (inst_Check_L1 x4 y8 q69 (IntKind.i64.wrap (i55 + 1)))))) (some (.inl ()))

def inst_Check_L2 (a0 : Inst) (x4 : InstRow) : Nat → Int → Option (Unit ⊕ Int)
  | 0, _ => none
  | q139 + 1, i125 => cond (ltI i125 3) (guardO (inB i125 3) (guardO (inB i125 7) (cond (andB (x4.uses.f ((i125).toNat)) (orB (ltI ((Arr.of 3 [a0.A, a0.B, a0.C] : Arr 3 Int).f ((i125).toNat)) 0) (!(ltI ((Arr.of 3 [a0.A, a0.B, a0.C] : Arr 3 Int).f ((i125).toNat)) 8)))) (some (.inr 10)) (inst_Check_L2 a0 x4 q139 (IntKind.i64.wrap (i125 + 1)))))) (some (.inl ()))

def inst_Check (fuelN : Nat) (a0 : Inst) : Option Int :=
  Option.bind (inst_known a0.Op) (fun y1 => cond (!y1) (some 8) (Option.bind (getI rowsTab (IntKind.i64.wrap (a0.Op - 1))) (fun x4 => Option.bind (inst_values a0) (fun y8 => Option.bind (α := Unit ⊕ Int) (Option.bind (inst_Check_L1 x4 y8 fuelN 0) (fun o => match o with | .inl _ => some (.inl ()) | .inr r79 => some (.inr r79))) (fun o => match o with | .inl _ => Option.bind (α := Unit ⊕ Int) (Option.bind (inst_Check_L2 a0 x4 fuelN 0) (fun o => match o with | .inl _ => some (.inl ()) | .inr r149 => some (.inr r149))) (fun o => match o with | .inl _ => cond (andB (x4.uses.f 6) (orB (ltI a0.Order 0) (ltI 2 a0.Order))) (some 13) (guardO (orB (!(x4.uses.f 5)) ((value_Name a0.Fn).isSome)) (cond (andB (x4.uses.f 5) (eqS ((value_Name a0.Fn).getD default) (⟨#[]⟩ : ByteArray))) (some 8) (cond (andB (eqI a0.Op 1) (orB (ltI a0.N (-2147483648)) (ltI 2147483647 a0.N))) (some 2) (some 0)))) | .inr r154 => some r154) | .inr r155 => some r155)))))

set_option maxHeartbeats 2000000 in
theorem at_inst_Check {fuelN : Nat} {a0 : Inst} {r : Int} (hs : inst_Check fuelN a0 = some r) : At Tryd.prog 148 [.agg (eA a0)] (iV .i64 r) := by
  refine at_bound (by kernel_rfl) fun hb => ?_
  refine at_code mixed Tryd.func148 (by kernel_rfl) rfl (by kernel_rfl) rfl fun Q hQ => ?_
  rw [inst_Check] at hs
  refine goR f0 ?_
  revert hs; refine bK fun y1 hx2 hs => ?_
  refine cP f0 (at_inst_known hx2) ?_
  refine goR f0 ?_
  revert hs; refine cS f0 ?_ ?_ <;> intro h3 hs
  · refine goR f0 ?_
    obtain rfl := sj hs
    exact hQ _ _ (rg f0 (Gh.refl _))
  · revert hs; refine bK fun x4 hx5 hs => ?_
    obtain ⟨hx5a, hx5b, hx5c, hx5d⟩ := getI_some hx5
    have t6L : rowsTab.length = 22 := rfl
    have f7 : partCV Tryd.prog 181 (encL rowsTab) (((IntKind.i64.wrap (a0.Op - 1)).toNat) * 8 + 1) = some (.agg [bC (x4.uses.f 0), bC (x4.uses.f 1), bC (x4.uses.f 2), bC (x4.uses.f 3), bC (x4.uses.f 4), bC (x4.uses.f 5), bC (x4.uses.f 6)]) := partCV_enc hx5d (f := 1) (by simp)
    refine goR f7 ?_
    revert hs; refine bK fun y8 hx9 hs => ?_
    refine cP f7 (at_inst_values hx9) ?_
    refine goR2 f7 ?_
    revert hs; refine bK fun o44 e43 hs => ?_
    refine awp_cutK (fun (v : Unit) (σ : St) => some (.inl v) = some o44 ∧ σ.env 1 = .cell (.ref (.o 1 0 0) 0) ∧ σ.env 3 = .cell (.ref (.o 3 6 0) 0) ∧ σ.hp (.o 1 0 0) = some (.cells (eA a0)) ∧ σ.hp (.o 3 6 0) = some (.cells [bC (x4.uses.f 0), bC (x4.uses.f 1), bC (x4.uses.f 2), bC (x4.uses.f 3), bC (x4.uses.f 4), bC (x4.uses.f 5), bC (x4.uses.f 6)]) ∧ 4 ≤ σ.gen) (by rfl) (fun Q hK45 hX46 => ?_) (fun v σ3 hp => ?_)
    · refine goR f7 ?_
      revert e43; refine bK fun o64 e63 e43 => ?_
      refine awp_loopW (fun (v : Nat × Int) (σ : St) => inst_Check_L1 x4 y8 v.1 v.2 = some o64 ∧ σ.env 1 = .cell (.ref (.o 1 0 0) 0) ∧ σ.env 3 = .cell (.ref (.o 3 6 0) 0) ∧ σ.env 19 = .agg [nC (y8.f 0), nC (y8.f 1), nC (y8.f 2), nC (y8.f 3), nC (y8.f 4), nC (y8.f 5), nC (y8.f 6)] ∧ σ.env 20 = iV .i64 v.2 ∧ σ.hp (.o 1 0 0) = some (.cells (eA a0)) ∧ σ.hp (.o 3 6 0) = some (.cells [bC (x4.uses.f 0), bC (x4.uses.f 1), bC (x4.uses.f 2), bC (x4.uses.f 3), bC (x4.uses.f 4), bC (x4.uses.f 5), bC (x4.uses.f 6)]) ∧ 4 ≤ σ.gen) (fun v => v.1) _ (Gh.refl _) (fuelN, 0) ⟨e63, pv f7, pv f7, pv f7, pv f7, pv f7, pv f7, pg⟩ fun v σ6 hp L65 hL66 => ?_
      obtain ⟨q68, i55⟩ := v
      dsimp only at hp hL66
      obtain ⟨e63, h5_1, h5_3, h5_19, h5_20, g5_0, g5_1, n5_g⟩ := hp
      have n5_0 : ¬ (σ6.gen = 0) := by omega
      have n5_1 : ¬ (σ6.gen = 1) := by omega
      have n5_2 : ¬ (σ6.gen = 2) := by omega
      rcases q68 with _ | q69
      · rw [inst_Check_L1] at e63; cases e63
      · rw [inst_Check_L1] at e63; try dsimp only at e63
        have F1 := an h5_1 (an h5_3 (an h5_19 (an h5_20 (an g5_0 (an g5_1 (an n5_0 (an n5_1 (an n5_2 f7))))))))
        refine goR F1 ?_
        revert e63; refine cS F1 ?_ ?_ <;> intro h73 e63
        · obtain ⟨g74, e63⟩ := guardO_some e63
          have g74a : 0 ≤ i55 := (inB_t g74).1
          have g74b : i55 < 7 := (inB_t g74).2.1
          have g74n : (i55).toNat < 7 :=  by simpa using (inB_t g74).2.2
          have f75 : ([nC (y8.f 0), nC (y8.f 1), nC (y8.f 2), nC (y8.f 3), nC (y8.f 4), nC (y8.f 5), nC (y8.f 6)] : List AC)[(i55).toNat]? = some (nC (y8.f ((i55).toNat))) := arr_read (n := 7) (fun j => (nC (y8.f j) : AC)) g74n
          have f75t := take_one f75
          have f75g := get_of f75
          obtain ⟨g76, e63⟩ := guardO_some e63
          have g76a : 0 ≤ i55 := (inB_t g76).1
          have g76b : i55 < 7 := (inB_t g76).2.1
          have g76n : (i55).toNat < 7 :=  by simpa using (inB_t g76).2.2
          have f77 : ([bC (x4.uses.f 0), bC (x4.uses.f 1), bC (x4.uses.f 2), bC (x4.uses.f 3), bC (x4.uses.f 4), bC (x4.uses.f 5), bC (x4.uses.f 6)] : List AC)[(i55).toNat]? = some (bC (x4.uses.f ((i55).toNat))) := arr_read (n := 7) (fun j => (bC (x4.uses.f j) : AC)) g76n
          have f77t := take_one f77
          have f77g := get_of f77
          have F2 := an F1 (an g74a (an g74b (an g74n (an f75 (an f75t (an f75g (an g76a (an g76b (an g76n (an f77 (an f77t f77g)))))))))))
          have F3 := an F2 (an hx5a hx5b)
          refine goG F2 F3 ?_
          revert e63; refine cS F2 ?_ ?_ <;> intro h78 e63
          · refine goG F2 F3 ?_
            obtain rfl := sj e63
            try dsimp only at e43
            obtain rfl := sj e43
            try dsimp only at hs
            refine hX46 _ _ (by simp) ?_
            refine goG F2 F3 ?_
            obtain rfl := sj hs
            exact hQ _ _ (rg F2 (Gh.refl _))
          · refine goG F2 F3 ?_
            exact hL66 (q69, IntKind.i64.wrap (i55 + 1)) _ _ (Gh.refl _) ⟨e63, pv F2, pv F2, pv F2, pv F2, pv F2, pv F2, pg⟩ (by omega)
        · refine goR F1 ?_
          obtain rfl := sj e63
          try dsimp only at e43
          exact hK45 () _ _ (Gh.refl _) ⟨e43, pv F1, pv F1, pv F1, pv F1, pg⟩
    · obtain ⟨e43, h4_1, h4_3, g4_0, g4_1, n4_g⟩ := hp
      obtain rfl := sj e43
      try dsimp only at hs
      have n4_0 : ¬ (σ3.gen = 0) := by omega
      have n4_1 : ¬ (σ3.gen = 1) := by omega
      have n4_2 : ¬ (σ3.gen = 2) := by omega
      have F4 := an h4_1 (an h4_3 (an g4_0 (an g4_1 (an n4_0 (an n4_1 (an n4_2 f7))))))
      refine goR2 F4 ?_
      revert hs; refine bK fun o114 e113 hs => ?_
      refine awp_cutK (fun (v : Unit) (σ : St) => some (.inl v) = some o114 ∧ σ.env 1 = .cell (.ref (.o 1 0 0) 0) ∧ σ.env 3 = .cell (.ref (.o 3 6 0) 0) ∧ σ.hp (.o 1 0 0) = some (.cells (eA a0)) ∧ σ.hp (.o 3 6 0) = some (.cells [bC (x4.uses.f 0), bC (x4.uses.f 1), bC (x4.uses.f 2), bC (x4.uses.f 3), bC (x4.uses.f 4), bC (x4.uses.f 5), bC (x4.uses.f 6)]) ∧ (σ3.gen + 1) ≤ σ.gen) (by rfl) (fun Q hK115 hX116 => ?_) (fun v σ9 hp => ?_)
      · refine goR F4 ?_
        revert e113; refine bK fun o134 e133 e113 => ?_
        refine awp_loopW (fun (v : Nat × Int) (σ : St) => inst_Check_L2 a0 x4 v.1 v.2 = some o134 ∧ σ.env 1 = .cell (.ref (.o 1 0 0) 0) ∧ σ.env 3 = .cell (.ref (.o 3 6 0) 0) ∧ σ.env 39 = .agg [nC a0.A, nC a0.B, nC a0.C] ∧ σ.env 40 = iV .i64 v.2 ∧ σ.hp (.o 1 0 0) = some (.cells (eA a0)) ∧ σ.hp (.o 3 6 0) = some (.cells [bC (x4.uses.f 0), bC (x4.uses.f 1), bC (x4.uses.f 2), bC (x4.uses.f 3), bC (x4.uses.f 4), bC (x4.uses.f 5), bC (x4.uses.f 6)]) ∧ (σ3.gen + 1) ≤ σ.gen) (fun v => v.1) _ (Gh.refl _) (fuelN, 0) ⟨e133, pv F4, pv F4, pv F4, pv F4, pv F4, pv F4, pg⟩ fun v σ12 hp L135 hL136 => ?_
        obtain ⟨q138, i125⟩ := v
        dsimp only at hp hL136
        obtain ⟨e133, h11_1, h11_3, h11_39, h11_40, g11_0, g11_1, n11_g⟩ := hp
        have n11_0 : ¬ (σ12.gen = 0) := by omega
        have n11_1 : ¬ (σ12.gen = 1) := by omega
        have n11_2 : ¬ (σ12.gen = 2) := by omega
        rcases q138 with _ | q139
        · rw [inst_Check_L2] at e133; cases e133
        · rw [inst_Check_L2] at e133; try dsimp only at e133
          have F5 := an h11_1 (an h11_3 (an h11_39 (an h11_40 (an g11_0 (an g11_1 (an n11_0 (an n11_1 (an n11_2 f7))))))))
          refine goR F5 ?_
          revert e133; refine cS F5 ?_ ?_ <;> intro h143 e133
          · obtain ⟨g144, e133⟩ := guardO_some e133
            have g144a : 0 ≤ i125 := (inB_t g144).1
            have g144b : i125 < 3 := (inB_t g144).2.1
            have g144n : (i125).toNat < 3 :=  by simpa using (inB_t g144).2.2
            have f145 : ([nC a0.A, nC a0.B, nC a0.C] : List AC)[(i125).toNat]? = some (nC ((Arr.of 3 [a0.A, a0.B, a0.C] : Arr 3 Int).f ((i125).toNat))) := arr_readL (n := 3) ([a0.A, a0.B, a0.C] : List Int) (fun y => (nC y : AC)) g144n
            have f145t := take_one f145
            have f145g := get_of f145
            obtain ⟨g146, e133⟩ := guardO_some e133
            have g146a : 0 ≤ i125 := (inB_t g146).1
            have g146b : i125 < 7 := (inB_t g146).2.1
            have g146n : (i125).toNat < 7 :=  by simpa using (inB_t g146).2.2
            have f147 : ([bC (x4.uses.f 0), bC (x4.uses.f 1), bC (x4.uses.f 2), bC (x4.uses.f 3), bC (x4.uses.f 4), bC (x4.uses.f 5), bC (x4.uses.f 6)] : List AC)[(i125).toNat]? = some (bC (x4.uses.f ((i125).toNat))) := arr_read (n := 7) (fun j => (bC (x4.uses.f j) : AC)) g146n
            have f147t := take_one f147
            have f147g := get_of f147
            have F6 := an F5 (an g144a (an g144b (an g144n (an f145 (an f145t (an f145g (an g146a (an g146b (an g146n (an f147 (an f147t f147g)))))))))))
            have F7 := an F6 (an hx5a hx5b)
            refine goG F6 F7 ?_
            revert e133; refine cS F6 ?_ ?_ <;> intro h148 e133
            · refine goG F6 F7 ?_
              obtain rfl := sj e133
              try dsimp only at e113
              obtain rfl := sj e113
              try dsimp only at hs
              refine hX116 _ _ (by simp) ?_
              refine goG F6 F7 ?_
              obtain rfl := sj hs
              exact hQ _ _ (rg F6 (Gh.refl _))
            · refine goG F6 F7 ?_
              exact hL136 (q139, IntKind.i64.wrap (i125 + 1)) _ _ (Gh.refl _) ⟨e133, pv F6, pv F6, pv F6, pv F6, pv F6, pv F6, pg⟩ (by omega)
          · refine goR F5 ?_
            obtain rfl := sj e133
            try dsimp only at e113
            exact hK115 () _ _ (Gh.refl _) ⟨e113, pv F5, pv F5, pv F5, pv F5, pg⟩
      · obtain ⟨e113, h10_1, h10_3, g10_0, g10_1, n10_g⟩ := hp
        obtain rfl := sj e113
        try dsimp only at hs
        have n10_0 : ¬ (σ9.gen = 0) := by omega
        have n10_1 : ¬ (σ9.gen = 1) := by omega
        have n10_2 : ¬ (σ9.gen = 2) := by omega
        have F8 := an h10_1 (an h10_3 (an g10_0 (an g10_1 (an n10_0 (an n10_1 (an n10_2 f7))))))
        have F9 := an F8 (an hx5a hx5b)
        refine goG F8 F9 ?_
        revert hs; refine cS F8 ?_ ?_ <;> intro h150 hs
        · refine goG F8 F9 ?_
          obtain rfl := sj hs
          exact hQ _ _ (rg F8 (Gh.refl _))
        · refine goG F8 F9 ?_
          obtain ⟨g151, hs⟩ := guardO_some hs
          refine gsel_call (fun hg => at_value_Name (under_call g151 hg)) (fun hg => by (try simp at hg); (first | simp [hg, F8]); try rfl) (fun hg => by (try simp at hg); simp [hg, F8]) (by simp) ?_
          refine goG F8 F9 ?_
          revert hs; refine cS F8 ?_ ?_ <;> intro h152 hs
          · refine goG F8 F9 ?_
            obtain rfl := sj hs
            exact hQ _ _ (rg F8 (Gh.refl _))
          · refine goG F8 F9 ?_
            revert hs; refine cS F8 ?_ ?_ <;> intro h153 hs
            · refine goG F8 F9 ?_
              obtain rfl := sj hs
              exact hQ _ _ (rg F8 (Gh.refl _))
            · refine goG F8 F9 ?_
              obtain rfl := sj hs
              exact hQ _ _ (rg F8 (Gh.refl _))
end Go.Dc
end
section
set_option linter.all false
namespace Go.Dc
open Go Go.Hw Go.Proofs
set_option maxRecDepth 100000

def r07_fields  : Option (List ByteArray) :=
  Option.bind (some ([(⟨#[65, 78]⟩ : ByteArray), (⟨#[65, 66]⟩ : ByteArray), (⟨#[70, 65, 66, 67]⟩ : ByteArray), (⟨#[78]⟩ : ByteArray), (⟨#[66, 78]⟩ : ByteArray), (⟨#[66]⟩ : ByteArray), (⟨#[]⟩ : ByteArray), (⟨#[65, 79, 82]⟩ : ByteArray), (⟨#[79, 66, 82]⟩ : ByteArray), (⟨#[65, 79, 66, 82]⟩ : ByteArray), (⟨#[65, 79, 66, 82]⟩ : ByteArray), (⟨#[65, 79, 66, 67, 82]⟩ : ByteArray), (⟨#[]⟩ : ByteArray), (⟨#[65, 79, 70, 66, 82]⟩ : ByteArray), (⟨#[79]⟩ : ByteArray), (⟨#[79]⟩ : ByteArray), (⟨#[65, 79]⟩ : ByteArray), (⟨#[79, 78]⟩ : ByteArray), (⟨#[79]⟩ : ByteArray), (⟨#[79]⟩ : ByteArray), (⟨#[65, 79, 66]⟩ : ByteArray), (⟨#[66]⟩ : ByteArray)])) (fun l1 => some l1)

set_option maxHeartbeats 2000000 in
theorem at_r07_fields  {r : (List ByteArray)} (hs : r07_fields = some r) : At Tryd.prog 154 [] (.cell (sC r)) := by
  refine at_bound (by kernel_rfl) fun hb => ?_
  refine at_code mixed Tryd.func154 (by kernel_rfl) rfl (by kernel_rfl) rfl fun Q hQ => ?_
  rw [r07_fields] at hs
  revert hs; refine lK fun l1 hx2 hs => ?_
  have hx2n : l1.length = 22 := by rw [hx2]; rfl
  refine goR hx2 ?_
  obtain rfl := sj hs
  exact hQ _ _ (rg hx2 (Gh.frz _ (.o 2 0 0)))
end Go.Dc
end
section
set_option linter.all false
namespace Go.Dc
open Go Go.Hw Go.Proofs
set_option maxRecDepth 100000
def r07_has_L1 (a1 : UInt8) (x4 : ByteArray) : Nat → Nat → Option (Unit ⊕ Bool)
  | 0, k44 => some (.inl ())
  | q56 + 1, k44 => Option.bind (x4[k44]?) (fun c61 => cond (eqI (c61.toNat : Int) (a1.toNat : Int)) (some (.inr true)) (r07_has_L1 a1 x4 q56 (k44 + 1)))

def r07_has (a0 : Int) (a1 : UInt8) : Option Bool :=
  cond (orB (ltI a0 1) (ltI 22 a0)) (some false) (Option.bind (r07_fields) (fun y2 => Option.bind (getI y2 (IntKind.i64.wrap (a0 - 1))) (fun x4 => Option.bind (α := Unit ⊕ Bool) (guardO (lenB x4.size) (Option.bind (r07_has_L1 a1 x4 x4.size 0) (fun o => match o with | .inl _ => some (.inl ()) | .inr r64 => some (.inr r64)))) (fun o => match o with | .inl _ => some false | .inr r65 => some r65))))

set_option maxHeartbeats 2000000 in
theorem at_r07_has {a0 : Int} {a1 : UInt8} {r : Bool} (hs : r07_has a0 a1 = some r) : At Tryd.prog 114 [iV .i64 a0, iV .u8 (a1.toNat : Int)] (bV r) := by
  refine at_bound (by kernel_rfl) fun hb => ?_
  refine at_code mixed Tryd.func114 (by kernel_rfl) rfl (by kernel_rfl) rfl fun Q hQ => ?_
  rw [r07_has] at hs
  refine goG f0 f0 ?_
  revert hs; refine cS f0 ?_ ?_ <;> intro h1 hs
  · refine goG f0 f0 ?_
    obtain rfl := sj hs
    exact hQ _ _ (rg f0 (Gh.refl _))
  · refine goG f0 f0 ?_
    revert hs; refine bK fun y2 hx3 hs => ?_
    refine cP f0 (at_r07_fields hx3) ?_
    revert hs; refine bK fun x4 hx5 hs => ?_
    obtain ⟨hx5a, hx5b, hx5c, hx5d⟩ := getI_some hx5
    have f6 : partCV Tryd.prog 9 (encL y2) ((IntKind.i64.wrap (a0 - 1)).toNat) = some (sV x4) := partCV_enc1 hx5d (by simp)
    have F1 := an f6 (an hx5a hx5b)
    refine goG2 f6 F1 ?_
    revert hs; refine bK fun o35 e34 hs => ?_
    refine awp_cutK (fun (v : Unit) (σ : St) => some (.inl v) = some o35 ∧ 4 ≤ σ.gen) (by rfl) (fun Q hK36 hX37 => ?_) (fun v σ3 hp => ?_)
    · refine goG f6 F1 ?_
      obtain ⟨hb60, e34⟩ := guardO_some e34
      revert e34; refine bK fun o51 e50 e34 => ?_
      refine awp_loopW (fun (v : Nat × Nat) (σ : St) => r07_has_L1 a1 x4 v.1 v.2 = some o51 ∧ v.1 + v.2 = x4.size ∧ σ.env 1 = iV .u8 (a1.toNat : Int) ∧ σ.env 5 = sV x4 ∧ σ.env 6 = iV .i64 ((v.2 : Nat) : Int) ∧ 4 ≤ σ.gen) (fun v => v.1) _ (Gh.refl _) (x4.size, 0) ⟨e50, by first | omega | simp | (simp; omega), pv f6, pv f6, pv f6, pg⟩ fun v σ6 hp L52 hL53 => ?_
      obtain ⟨q55, k44⟩ := v
      dsimp only at hp hL53
      obtain ⟨e50, hd54, h5_1, h5_5, h5_6, n5_g⟩ := hp
      rcases q55 with _ | q56
      · have hlt57 : ¬ k44 < x4.size := by omega
        rw [r07_has_L1] at e50; try dsimp only at e50
        have F2 := an h5_1 (an h5_5 (an h5_6 f6))
        refine goR F2 ?_
        refine condK_f (by simp [ltI]; omega) ?_
        obtain rfl := sj e50
        try dsimp only at e34
        exact hK36 () _ _ (Gh.refl _) ⟨e34, pg⟩
      · have hlt57 : k44 < x4.size := by omega
        have ew58 := wrap_succG hlt57 hb60
        rw [r07_has_L1] at e50; try dsimp only at e50
        have F3 := an h5_1 (an h5_5 (an h5_6 (an f6 (an hlt57 ew58))))
        refine goR F3 ?_
        refine condK_t (by simp [ltI]; omega) ?_
        revert e50; refine bK fun c61 hx62 e50 => ?_
        have hx62b := getB_some hx62
        have hx62g := getB_eq hx62
        have F4 := an F3 (an hx62 hx62g)
        refine goR F4 ?_
        revert e50; refine cS F4 ?_ ?_ <;> intro h63 e50
        · refine goR F4 ?_
          obtain rfl := sj e50
          try dsimp only at e34
          obtain rfl := sj e34
          try dsimp only at hs
          refine hX37 _ _ (by simp) ?_
          refine goR F4 ?_
          obtain rfl := sj hs
          exact hQ _ _ (rg F4 (Gh.refl _))
        · refine goR F4 ?_
          exact hL53 (q56, (k44 + 1)) _ _ (Gh.refl _) ⟨e50, (by first | omega | (simp; omega)), pv F4, pv F4, pv F4, pg⟩ (by omega)
    · obtain ⟨e34, n4_g⟩ := hp
      obtain rfl := sj e34
      try dsimp only at hs
      refine goG f6 F1 ?_
      obtain rfl := sj hs
      exact hQ _ _ (rg f6 (Gh.refl _))
end Go.Dc
end
section
set_option linter.all false
namespace Go.Dc
open Go Go.Hw Go.Proofs
set_option maxRecDepth 100000

def r07_register (a0 : Int) : Option Bool :=
  some (andB (!(ltI a0 0)) (ltI a0 8))

set_option maxHeartbeats 2000000 in
theorem at_r07_register {a0 : Int} {r : Bool} (hs : r07_register a0 = some r) : At Tryd.prog 152 [iV .i64 a0] (bV r) := by
  refine at_bound (by kernel_rfl) fun hb => ?_
  refine at_code mixed Tryd.func152 (by kernel_rfl) rfl (by kernel_rfl) rfl fun Q hQ => ?_
  rw [r07_register] at hs
  refine goG f0 f0 ?_
  obtain rfl := sj hs
  exact hQ _ _ (rg f0 (Gh.refl _))
end Go.Dc
end
section
set_option linter.all false
namespace Go.Dc
open Go Go.Hw Go.Proofs
set_option maxRecDepth 100000

def r01_Name (a0 : Int) : Option ByteArray :=
  cond (eqI a0 1) (some (⟨#[97, 100, 100]⟩ : ByteArray)) (cond (eqI a0 2) (some (⟨#[115, 117, 98]⟩ : ByteArray)) (cond (eqI a0 3) (some (⟨#[109, 117, 108]⟩ : ByteArray)) (cond (eqI a0 4) (some (⟨#[97, 110, 100]⟩ : ByteArray)) (cond (eqI a0 5) (some (⟨#[111, 114]⟩ : ByteArray)) (cond (eqI a0 6) (some (⟨#[120, 111, 114]⟩ : ByteArray)) (cond (eqI a0 7) (some (⟨#[101, 113]⟩ : ByteArray)) (cond (eqI a0 8) (some (⟨#[110, 101]⟩ : ByteArray)) (cond (eqI a0 9) (some (⟨#[108, 116]⟩ : ByteArray)) (cond (eqI a0 10) (some (⟨#[108, 101]⟩ : ByteArray)) (some (⟨#[]⟩ : ByteArray)))))))))))

set_option maxHeartbeats 2000000 in
theorem at_r01_Name {a0 : Int} {r : ByteArray} (hs : r01_Name a0 = some r) : At Tryd.prog 153 [iV .i64 a0] (sV r) := by
  refine at_bound (by kernel_rfl) fun hb => ?_
  refine at_code mixed Tryd.func153 (by kernel_rfl) rfl (by kernel_rfl) rfl fun Q hQ => ?_
  rw [r01_Name] at hs
  refine goR f0 ?_
  revert hs; refine cS f0 ?_ ?_ <;> intro h1 hs
  · refine goR f0 ?_
    obtain rfl := sj hs
    exact hQ _ _ (rg f0 (Gh.refl _))
  · refine goR f0 ?_
    revert hs; refine cS f0 ?_ ?_ <;> intro h2 hs
    · refine goR f0 ?_
      obtain rfl := sj hs
      exact hQ _ _ (rg f0 (Gh.refl _))
    · refine goR f0 ?_
      revert hs; refine cS f0 ?_ ?_ <;> intro h3 hs
      · refine goR f0 ?_
        obtain rfl := sj hs
        exact hQ _ _ (rg f0 (Gh.refl _))
      · refine goR f0 ?_
        revert hs; refine cS f0 ?_ ?_ <;> intro h4 hs
        · refine goR f0 ?_
          obtain rfl := sj hs
          exact hQ _ _ (rg f0 (Gh.refl _))
        · refine goR f0 ?_
          revert hs; refine cS f0 ?_ ?_ <;> intro h5 hs
          · refine goR f0 ?_
            obtain rfl := sj hs
            exact hQ _ _ (rg f0 (Gh.refl _))
          · refine goR f0 ?_
            revert hs; refine cS f0 ?_ ?_ <;> intro h6 hs
            · refine goR f0 ?_
              obtain rfl := sj hs
              exact hQ _ _ (rg f0 (Gh.refl _))
            · refine goR f0 ?_
              revert hs; refine cS f0 ?_ ?_ <;> intro h7 hs
              · refine goR f0 ?_
                obtain rfl := sj hs
                exact hQ _ _ (rg f0 (Gh.refl _))
              · refine goR f0 ?_
                revert hs; refine cS f0 ?_ ?_ <;> intro h8 hs
                · refine goR f0 ?_
                  obtain rfl := sj hs
                  exact hQ _ _ (rg f0 (Gh.refl _))
                · refine goR f0 ?_
                  revert hs; refine cS f0 ?_ ?_ <;> intro h9 hs
                  · refine goR f0 ?_
                    obtain rfl := sj hs
                    exact hQ _ _ (rg f0 (Gh.refl _))
                  · refine goR f0 ?_
                    revert hs; refine cS f0 ?_ ?_ <;> intro h10 hs
                    · refine goR f0 ?_
                      obtain rfl := sj hs
                      exact hQ _ _ (rg f0 (Gh.refl _))
                    · refine goR f0 ?_
                      obtain rfl := sj hs
                      exact hQ _ _ (rg f0 (Gh.refl _))
end Go.Dc
end
section
set_option linter.all false
namespace Go.Dc
open Go Go.Hw Go.Proofs
set_option maxRecDepth 100000

def r07_Check (a0 : Inst) : Option Int :=
  cond (orB (ltI a0.Op 1) (ltI 22 a0.Op)) (some 8) (Option.bind (r07_has a0.Op 65) (fun y2 => guardO (orB (!(!(andB (!y2) (!(eqI a0.A 0))))) ((r07_has a0.Op 66).isSome)) (guardO (orB (!(!(orB (andB (!y2) (!(eqI a0.A 0))) (andB (!((r07_has a0.Op 66).getD default)) (!(eqI a0.B 0)))))) ((r07_has a0.Op 67).isSome)) (guardO (orB (!(!(orB (orB (andB (!y2) (!(eqI a0.A 0))) (andB (!((r07_has a0.Op 66).getD default)) (!(eqI a0.B 0)))) (andB (!((r07_has a0.Op 67).getD default)) (!(eqI a0.C 0)))))) ((r07_has a0.Op 79).isSome)) (guardO (orB (!(!(orB (orB (orB (andB (!y2) (!(eqI a0.A 0))) (andB (!((r07_has a0.Op 66).getD default)) (!(eqI a0.B 0)))) (andB (!((r07_has a0.Op 67).getD default)) (!(eqI a0.C 0)))) (andB (!((r07_has a0.Op 79).getD default)) (!(eqI a0.Obj 0)))))) ((r07_has a0.Op 78).isSome)) (guardO (orB (!(!(orB (orB (orB (orB (andB (!y2) (!(eqI a0.A 0))) (andB (!((r07_has a0.Op 66).getD default)) (!(eqI a0.B 0)))) (andB (!((r07_has a0.Op 67).getD default)) (!(eqI a0.C 0)))) (andB (!((r07_has a0.Op 79).getD default)) (!(eqI a0.Obj 0)))) (andB (!((r07_has a0.Op 78).getD default)) (!(eqI a0.N 0)))))) ((r07_has a0.Op 70).isSome)) (guardO (orB (!(!(orB (orB (orB (orB (orB (andB (!y2) (!(eqI a0.A 0))) (andB (!((r07_has a0.Op 66).getD default)) (!(eqI a0.B 0)))) (andB (!((r07_has a0.Op 67).getD default)) (!(eqI a0.C 0)))) (andB (!((r07_has a0.Op 79).getD default)) (!(eqI a0.Obj 0)))) (andB (!((r07_has a0.Op 78).getD default)) (!(eqI a0.N 0)))) (andB (!((r07_has a0.Op 70).getD default)) (!(eqI a0.Fn 0)))))) ((r07_has a0.Op 82).isSome)) (cond (orB (orB (orB (orB (orB (orB (andB (!y2) (!(eqI a0.A 0))) (andB (!((r07_has a0.Op 66).getD default)) (!(eqI a0.B 0)))) (andB (!((r07_has a0.Op 67).getD default)) (!(eqI a0.C 0)))) (andB (!((r07_has a0.Op 79).getD default)) (!(eqI a0.Obj 0)))) (andB (!((r07_has a0.Op 78).getD default)) (!(eqI a0.N 0)))) (andB (!((r07_has a0.Op 70).getD default)) (!(eqI a0.Fn 0)))) (andB (!((r07_has a0.Op 82).getD default)) (!(eqI a0.Order 0)))) (some 9) (Option.bind (r07_register a0.A) (fun y11 => guardO (orB (!y11) ((r07_register a0.B).isSome)) (guardO (orB (!(!(orB (!y11) (!((r07_register a0.B).getD default))))) ((r07_register a0.C).isSome)) (cond (orB (orB (!y11) (!((r07_register a0.B).getD default))) (!((r07_register a0.C).getD default))) (some 10) (cond (orB (ltI a0.Order 0) (ltI 2 a0.Order)) (some 13) (Option.bind (r07_has a0.Op 70) (fun y17 => guardO (orB (!y17) ((r01_Name a0.Fn).isSome)) (cond (andB y17 (eqS ((r01_Name a0.Fn).getD default) (⟨#[]⟩ : ByteArray))) (some 8) (cond (andB (eqI a0.Op 1) (orB (ltI a0.N (-2147483648)) (ltI 2147483647 a0.N))) (some 2) (some 0))))))))))))))))))

set_option maxHeartbeats 2000000 in
theorem at_r07_Check {a0 : Inst} {r : Int} (hs : r07_Check a0 = some r) : At Tryd.prog 113 [.agg (eA a0)] (iV .i64 r) := by
  refine at_bound (by kernel_rfl) fun hb => ?_
  refine at_code mixed Tryd.func113 (by kernel_rfl) rfl (by kernel_rfl) rfl fun Q hQ => ?_
  rw [r07_Check] at hs
  refine goG f0 f0 ?_
  revert hs; refine cS f0 ?_ ?_ <;> intro h1 hs
  · refine goG f0 f0 ?_
    obtain rfl := sj hs
    exact hQ _ _ (rg f0 (Gh.refl _))
  · refine goG f0 f0 ?_
    revert hs; refine bK fun y2 hx3 hs => ?_
    refine cP f0 (at_r07_has hx3) ?_
    refine goG f0 f0 ?_
    obtain ⟨g4, hs⟩ := guardO_some hs
    refine gsel_call (fun hg => at_r07_has (under_call g4 hg)) (fun hg => by (try simp at hg); (first | simp [hg, id]); try rfl) (fun hg => by (try simp at hg); simp [hg, id]) (by simp) ?_
    refine goG f0 f0 ?_
    obtain ⟨g5, hs⟩ := guardO_some hs
    refine gsel_call (fun hg => at_r07_has (under_call g5 hg)) (fun hg => by (try simp at hg); (first | simp [hg, id]); try rfl) (fun hg => by (try simp at hg); simp [hg, id]) (by simp) ?_
    refine goG f0 f0 ?_
    obtain ⟨g6, hs⟩ := guardO_some hs
    refine gsel_call (fun hg => at_r07_has (under_call g6 hg)) (fun hg => by (try simp at hg); (first | simp [hg, id]); try rfl) (fun hg => by (try simp at hg); simp [hg, id]) (by simp) ?_
    refine goG f0 f0 ?_
    obtain ⟨g7, hs⟩ := guardO_some hs
    refine gsel_call (fun hg => at_r07_has (under_call g7 hg)) (fun hg => by (try simp at hg); (first | simp [hg, id]); try rfl) (fun hg => by (try simp at hg); simp [hg, id]) (by simp) ?_
    refine goG f0 f0 ?_
    obtain ⟨g8, hs⟩ := guardO_some hs
    refine gsel_call (fun hg => at_r07_has (under_call g8 hg)) (fun hg => by (try simp at hg); (first | simp [hg, id]); try rfl) (fun hg => by (try simp at hg); simp [hg, id]) (by simp) ?_
    refine goG f0 f0 ?_
    obtain ⟨g9, hs⟩ := guardO_some hs
    refine gsel_call (fun hg => at_r07_has (under_call g9 hg)) (fun hg => by (try simp at hg); (first | simp [hg, id]); try rfl) (fun hg => by (try simp at hg); simp [hg, id]) (by simp) ?_
    refine goG f0 f0 ?_
    revert hs; refine cS f0 ?_ ?_ <;> intro h10 hs
    · refine goG f0 f0 ?_
      obtain rfl := sj hs
      exact hQ _ _ (rg f0 (Gh.refl _))
    · refine goG f0 f0 ?_
      revert hs; refine bK fun y11 hx12 hs => ?_
      refine cP f0 (at_r07_register hx12) ?_
      refine goG f0 f0 ?_
      obtain ⟨g13, hs⟩ := guardO_some hs
      refine gsel_call (fun hg => at_r07_register (under_call g13 hg)) (fun hg => by (try simp at hg); (first | simp [hg, id]); try rfl) (fun hg => by (try simp at hg); simp [hg, id]) (by simp) ?_
      refine goG f0 f0 ?_
      obtain ⟨g14, hs⟩ := guardO_some hs
      refine gsel_call (fun hg => at_r07_register (under_call g14 hg)) (fun hg => by (try simp at hg); (first | simp [hg, id]); try rfl) (fun hg => by (try simp at hg); simp [hg, id]) (by simp) ?_
      refine goG f0 f0 ?_
      revert hs; refine cS f0 ?_ ?_ <;> intro h15 hs
      · refine goG f0 f0 ?_
        obtain rfl := sj hs
        exact hQ _ _ (rg f0 (Gh.refl _))
      · refine goG f0 f0 ?_
        revert hs; refine cS f0 ?_ ?_ <;> intro h16 hs
        · refine goG f0 f0 ?_
          obtain rfl := sj hs
          exact hQ _ _ (rg f0 (Gh.refl _))
        · refine goG f0 f0 ?_
          revert hs; refine bK fun y17 hx18 hs => ?_
          refine cP f0 (at_r07_has hx18) ?_
          refine goG f0 f0 ?_
          obtain ⟨g19, hs⟩ := guardO_some hs
          refine gsel_call (fun hg => at_r01_Name (under_call g19 hg)) (fun hg => by (try simp at hg); (first | simp [hg, id]); try rfl) (fun hg => by (try simp at hg); simp [hg, id]) (by simp) ?_
          refine goG f0 f0 ?_
          revert hs; refine cS f0 ?_ ?_ <;> intro h20 hs
          · refine goG f0 f0 ?_
            obtain rfl := sj hs
            exact hQ _ _ (rg f0 (Gh.refl _))
          · refine goG f0 f0 ?_
            revert hs; refine cS f0 ?_ ?_ <;> intro h21 hs
            · refine goG f0 f0 ?_
              obtain rfl := sj hs
              exact hQ _ _ (rg f0 (Gh.refl _))
            · refine goG f0 f0 ?_
              obtain rfl := sj hs
              exact hQ _ _ (rg f0 (Gh.refl _))
end Go.Dc
end
section
set_option linter.all false
namespace Go.Dc.Pl
open Go Go.Hw Go.Dc
set_option maxRecDepth 100000
def hasB (op : Int) (c : UInt8) : Bool := (r07_has op c).getD false
theorem ops22 {op : Int} (h1 : 1 ≤ op) (h2 : op ≤ 22) : op ∈ (List.range 22).map fun n => ((n + 1 : Nat) : Int) := by
  simp only [List.mem_map, List.mem_range]; exact ⟨(op - 1).toNat, by omega, by omega⟩
/-- A row of the table of instructions and the letters of the same instruction. -/
def rowB (op : Int) : Bool := match getI rowsTab (IntKind.i64.wrap (op - 1)) with
  | none => false
  | some r => decide (r07_has op 65 = some (r.uses.f 0)) && decide (r07_has op 66 = some (r.uses.f 1)) && decide (r07_has op 67 = some (r.uses.f 2)) && decide (r07_has op 79 = some (r.uses.f 3)) && decide (r07_has op 78 = some (r.uses.f 4)) && decide (r07_has op 70 = some (r.uses.f 5)) && decide (r07_has op 82 = some (r.uses.f 6))
theorem rowsB : (((List.range 22).map fun n => ((n + 1 : Nat) : Int)).all rowB) = true := by kernel_rfl
theorem row_ex {op : Int} (h1 : 1 ≤ op) (h2 : op ≤ 22) : ∃ r : InstRow, getI rowsTab (IntKind.i64.wrap (op - 1)) = some r ∧ r07_has op 65 = some (r.uses.f 0) ∧ r07_has op 66 = some (r.uses.f 1) ∧ r07_has op 67 = some (r.uses.f 2) ∧
    r07_has op 79 = some (r.uses.f 3) ∧ r07_has op 78 = some (r.uses.f 4) ∧ r07_has op 70 = some (r.uses.f 5) ∧ r07_has op 82 = some (r.uses.f 6) := by
  have h := List.all_eq_true.1 rowsB op (ops22 h1 h2)
  rw [rowB] at h
  split at h
  · cases h
  · rename_i r hr; simp only [Bool.and_eq_true, decide_eq_true_eq] at h; obtain ⟨⟨⟨⟨⟨⟨a, b⟩, c⟩, d⟩, e⟩, f⟩, g⟩ := h; exact ⟨r, hr, a, b, c, d, e, f, g⟩
def noName (n : Int) : Bool := orB (ltI n 1) (ltI 10 n)
theorem ops10 {op : Int} (h1 : 1 ≤ op) (h2 : op ≤ 10) : op ∈ (List.range 10).map fun n => ((n + 1 : Nat) : Int) := by
  simp only [List.mem_map, List.mem_range]; exact ⟨(op - 1).toNat, by omega, by omega⟩
theorem names_some : (((List.range 10).map fun n => ((n + 1 : Nat) : Int)).all fun n => match value_Name n, r01_Name n with | some a, some b => a.size != 0 && b.size != 0 | _, _ => false) = true := by kernel_rfl
theorem eqS_data (a b : ByteArray) : eqS a b = (a.data.toList == b.data.toList) := by unfold eqS; rw [ByteArray.toList_eq, ByteArray.toList_eq]
theorem str_len (s : ByteArray) : s.size = s.data.toList.length := by rw [Array.length_toList]; rfl
theorem eqS_empty (a : ByteArray) : eqS a ⟨#[]⟩ = decide (a.size = 0) := by
  rw [eqS_data, str_len]
  cases h : a.data.toList with
  | nil => rfl
  | cons x l => rfl
theorem eqS_refl (a : ByteArray) : eqS a a = true := by simp [eqS]
theorem names_eq (n : Int) : ∃ a b, value_Name n = some a ∧ r01_Name n = some b ∧ eqS a ⟨#[]⟩ = noName n ∧ eqS b ⟨#[]⟩ = noName n := by
  by_cases h : 1 ≤ n ∧ n ≤ 10
  · have h2 := List.all_eq_true.1 names_some n (ops10 h.1 h.2)
    have h3 : noName n = false := by simp [noName, orB_d, ltI_d]; omega
    split at h2
    · rename_i a b ha hb
      simp at h2
      exact ⟨a, b, ha, hb, by rw [eqS_empty, h3]; simpa using h2.1, by rw [eqS_empty, h3]; simpa using h2.2⟩
    · cases h2
  · have h3 : noName n = true := by simp [noName, orB_d, ltI_d]; omega
    refine ⟨⟨#[]⟩, ⟨#[]⟩, ?_, ?_, by rw [h3, eqS_refl], by rw [h3, eqS_refl]⟩
    · rw [value_Name, show orB (ltI n 1) (ltI 10 n) = true from h3]; rfl
    · simp only [r01_Name, eqI_d]
      have h4 : n < 1 ∨ 10 < n := by omega
      simp [show n ≠ 1 by omega, show n ≠ 2 by omega, show n ≠ 3 by omega, show n ≠ 4 by omega, show n ≠ 5 by omega, show n ≠ 6 by omega, show n ≠ 7 by omega, show n ≠ 8 by omega, show n ≠ 9 by omega, show n ≠ 10 by omega]
theorem inst_L1 (r : InstRow) (y : Arr 7 Int) (fuel : Nat) : inst_Check_L1 r y (fuel + 8) 0 = some (toS (onlyIf (((List.range 7).zipIdx 0).any fun x => andB (!(r.uses.f x.2)) (!(eqI (y.f x.2) 0))) 9)) := by
  have h := srchI (L := inst_Check_L1 r y) (List.range 7) (fun k _ => onlyIf (andB (!(r.uses.f k)) (!(eqI (y.f k) 0))) 9) (fun q => by rw [inst_Check_L1]; rfl) (fun q k x hx => by
    have hk := getN_some hx
    rw [List.length_range] at hk
    rw [inst_Check_L1, ltI_d, show decide ((k : Int) < 7) = true by simp; omega, cond_true, show inB (k : Int) 7 = true by simp [inB_d]; omega, guardO_t, guardO_t, Int.toNat_natCast, wrapS (by omega)]
    exact step_only _ _ _) (fuel + 8) 0 (by simp) (by simp)
  rw [List.drop_zero, first_only (fun k (_ : Nat) => andB (!(r.uses.f k)) (!(eqI (y.f k) 0)))] at h
  exact h
theorem inst_L2 (a : Inst) (r : InstRow) (fuel : Nat) : inst_Check_L2 a r (fuel + 8) 0 = some (toS (onlyIf (((List.range 3).zipIdx 0).any fun x => andB (r.uses.f x.2) (orB (ltI ((Arr.of 3 [a.A, a.B, a.C] : Arr 3 Int).f x.2) 0) (!(ltI ((Arr.of 3 [a.A, a.B, a.C] : Arr 3 Int).f x.2) 8)))) 10)) := by
  have h := srchI (L := inst_Check_L2 a r) (List.range 3) (fun k _ => onlyIf (andB (r.uses.f k) (orB (ltI ((Arr.of 3 [a.A, a.B, a.C] : Arr 3 Int).f k) 0) (!(ltI ((Arr.of 3 [a.A, a.B, a.C] : Arr 3 Int).f k) 8)))) 10) (fun q => by rw [inst_Check_L2]; rfl) (fun q k x hx => by
    have hk := getN_some hx
    rw [List.length_range] at hk
    rw [inst_Check_L2, ltI_d, show decide ((k : Int) < 3) = true by simp; omega, cond_true, show inB (k : Int) 3 = true by simp [inB_d]; omega, show inB (k : Int) 7 = true by simp [inB_d]; omega, guardO_t, guardO_t, Int.toNat_natCast, wrapS (by omega)]
    exact step_only _ _ _) (fuel + 8) 0 (by simp) (by simp)
  rw [List.drop_zero, first_only (fun k (_ : Nat) => andB (r.uses.f k) (orB (ltI ((Arr.of 3 [a.A, a.B, a.C] : Arr 3 Int).f k) 0) (!(ltI ((Arr.of 3 [a.A, a.B, a.C] : Arr 3 Int).f k) 8)))) ] at h
  exact h
theorem orB_t (b : Bool) : orB b true = true := by cases b <;> rfl
theorem reg_eq {u : Bool} {n : Int} (h : andB (!u) (!eqI n 0) = false) : andB u (orB (ltI n 0) (!ltI n 8)) = !andB (!ltI n 0) (ltI n 8) := by
  cases u
  · have : n = 0 := by simpa [andB_d, eqI_d] using h
    subst this; decide
  · simp [andB_d, orB_d]
theorem ord_eq {u : Bool} {n : Int} (h : andB (!u) (!eqI n 0) = false) : andB u (orB (ltI n 0) (ltI 2 n)) = orB (ltI n 0) (ltI 2 n) := by
  cases u
  · have : n = 0 := by simpa [andB_d, eqI_d] using h
    subst this; decide
  · simp [andB_d, orB_d]
/-- What an instruction's check answers. -/
def icode (x : Inst) : Int := (r07_Check x).getD 0
theorem check_eq (fuel : Nat) (x : Inst) : inst_Check (fuel + 8) x = some (icode x) ∧ r07_Check x = some (icode x) := by
  suffices h : ∃ r, inst_Check (fuel + 8) x = some r ∧ r07_Check x = some r by obtain ⟨r, a, b⟩ := h; rw [icode, b]; exact ⟨a, rfl⟩
  by_cases hop : 1 ≤ x.Op ∧ x.Op ≤ 22
  · obtain ⟨r, hr, h0, h1, h2, h3, h4, h5, h6⟩ := row_ex hop.1 hop.2
    obtain ⟨na, nb, hna, hnb, hea, heb⟩ := names_eq x.Fn
    simp only [inst_Check, inst_known, r07_Check, Option.bind_some, hr, h0, h1, h2, h3, h4, h5, h6, hna, hnb, Option.getD_some, Option.isSome_some, hea, heb, r07_register]
    rw [show (andB (!(ltI x.Op 1)) (!(ltI 22 x.Op))) = true by simp [andB_d, ltI_d]; omega, show orB (ltI x.Op 1) (ltI 22 x.Op) = false by simp [orB_d, ltI_d]; omega]
    simp only [inst_values, Option.bind_some, Bool.not_true, cond_false, inst_L1, inst_L2]
    simp only [show (List.range 7).zipIdx 0 = [(0, 0), (1, 1), (2, 2), (3, 3), (4, 4), (5, 5), (6, 6)] from rfl, show (List.range 3).zipIdx 0 = [(0, 0), (1, 1), (2, 2)] from rfl, List.any_cons, List.any_nil, arr_of_f, List.getD_cons_zero, List.getD_cons_succ, Bool.or_false]
    generalize r.uses.f 0 = u0, r.uses.f 1 = u1, r.uses.f 2 = u2, r.uses.f 3 = u3, r.uses.f 4 = u4, r.uses.f 5 = u5, r.uses.f 6 = u6
    simp only [orB_t, guardO_t]
    have p1 : ∀ a b c d e f g : Bool, (a || (b || (c || (d || (e || (f || g)))))) = orB (orB (orB (orB (orB (orB a b) c) d) e) f) g := by decide
    have p2 : ∀ a b c : Bool, (a || (b || c)) = orB (orB a b) c := by decide
    rw [p1, p2]
    cases ha : orB (orB (orB (orB (orB (orB (andB (!u0) (!eqI x.A 0)) (andB (!u1) (!eqI x.B 0))) (andB (!u2) (!eqI x.C 0))) (andB (!u3) (!eqI x.Obj 0))) (andB (!u4) (!eqI x.N 0))) (andB (!u5) (!eqI x.Fn 0))) (andB (!u6) (!eqI x.Order 0))
    · simp only [orB_d, Bool.or_eq_false_iff] at ha
      obtain ⟨⟨⟨⟨⟨⟨a0, a1⟩, a2⟩, _⟩, _⟩, _⟩, a6⟩ := ha
      rw [reg_eq a0, reg_eq a1, reg_eq a2, ord_eq a6]
      cases orB (orB (!andB (!ltI x.A 0) (ltI x.A 8)) (!andB (!ltI x.B 0) (ltI x.B 8))) (!andB (!ltI x.C 0) (ltI x.C 8))
      · cases orB (ltI x.Order 0) (ltI 2 x.Order)
        · cases andB u5 (noName x.Fn)
          · cases andB (eqI x.Op 1) (orB (ltI x.N (-2147483648)) (ltI 2147483647 x.N))
            · exact ⟨_, rfl, rfl⟩
            · exact ⟨_, rfl, rfl⟩
          · exact ⟨_, rfl, rfl⟩
        · exact ⟨_, rfl, rfl⟩
      · exact ⟨_, rfl, rfl⟩
    · exact ⟨_, rfl, rfl⟩
  · refine ⟨8, ?_, ?_⟩
    · rw [inst_Check, inst_known, show (andB (!(ltI x.Op 1)) (!(ltI 22 x.Op))) = false by simp [andB_d, ltI_d]; omega]; rfl
    · rw [r07_Check, show orB (ltI x.Op 1) (ltI 22 x.Op) = true by simp [orB_d, ltI_d]; omega]; rfl
end Go.Dc.Pl
end
section
set_option linter.all false
namespace Go.Dc
open Go Go.Hw Go.Proofs
set_option maxRecDepth 100000

def program_value (a0 : Int) : Option Bool :=
  some (andB (!(ltI a0 (-2147483648))) (!(ltI 2147483647 a0)))

end Go.Dc
end
section
set_option linter.all false
namespace Go.Dc
open Go Go.Hw Go.Proofs
set_option maxRecDepth 100000
def program_checkObjects_L1 : List Var → Nat → Option (Unit ⊕ (Int × ProgramPlace))
  | [], k50 => some (.inl ())
  | x69 :: q65, k50 => Option.bind (program_value x69.Init) (fun y72 => cond (!y72) (some (.inr (2, ({ fn := (-1), inst := (-1) } : ProgramPlace)))) (program_checkObjects_L1 q65 (k50 + 1)))

def program_checkObjects (a0 : Program) : Option (Int × ProgramPlace) :=
  cond (orB (orB (orB (ltI 8 ((a0.Vars.length : Nat) : Int)) (ltI 4 ((a0.Mutexes.length : Nat) : Int))) (ltI 4 ((a0.Conds.length : Nat) : Int))) (ltI 8 ((a0.Funcs.length : Nat) : Int))) (some (4, ({ fn := (-1), inst := (-1) } : ProgramPlace))) (Option.bind (α := Unit ⊕ (Int × ProgramPlace)) (Option.bind (program_checkObjects_L1 a0.Vars 0) (fun o => match o with | .inl _ => some (.inl ()) | .inr r75 => some (.inr r75))) (fun o => match o with | .inl _ => some (0, ({ fn := (-1), inst := (-1) } : ProgramPlace)) | .inr r76 => some r76))

end Go.Dc
end
section
set_option linter.all false
namespace Go.Dc
open Go Go.Hw Go.Proofs
set_option maxRecDepth 100000

def program_checkCode_1 (a0 : Func) : Option Bool :=
  some (ltI 64 ((a0.Code.length : Nat) : Int))

end Go.Dc
end
section
set_option linter.all false
namespace Go.Dc
open Go Go.Hw Go.Proofs
set_option maxRecDepth 100000
def slices_IndexFunc_api_Func_program_checkCode_1_L1 : List Func → Nat → Option (Unit ⊕ Int)
  | [], k49 => some (.inl ())
  | x68 :: q64, k49 => Option.bind (program_checkCode_1 x68) (fun y71 => cond y71 (some (.inr ((k49 : Nat) : Int))) (slices_IndexFunc_api_Func_program_checkCode_1_L1 q64 (k49 + 1)))

def slices_IndexFunc_api_Func_program_checkCode_1 (a0 : List Func) : Option Int :=
  Option.bind (α := Unit ⊕ Int) (Option.bind (slices_IndexFunc_api_Func_program_checkCode_1_L1 a0 0) (fun o => match o with | .inl _ => some (.inl ()) | .inr r74 => some (.inr r74))) (fun o => match o with | .inl _ => some (-1) | .inr r75 => some r75)

end Go.Dc
end
section
set_option linter.all false
namespace Go.Dc
open Go Go.Hw Go.Proofs
set_option maxRecDepth 100000

def program_instructions (a0 : Program) : Option Program :=
  some a0

end Go.Dc
end
section
set_option linter.all false
namespace Go.Dc
open Go Go.Hw Go.Proofs
set_option maxRecDepth 100000

def program_objects (a0 : Program) (a1 : Int) : Option Int :=
  Option.bind (α := Unit ⊕ Int) (Option.bind (α := Bool) (cond (eqI a1 8) (some (eqI a1 8)) (cond (eqI a1 9) (some (eqI a1 9)) (cond (eqI a1 10) (some (eqI a1 10)) (cond (eqI a1 11) (some (eqI a1 11)) (cond (eqI a1 12) (some (eqI a1 12)) (some (eqI a1 14))))))) (fun b40 => cond b40 (some (.inr ((a0.Vars.length : Nat) : Int))) (Option.bind (α := Bool) (cond (eqI a1 15) (some (eqI a1 15)) (cond (eqI a1 16) (some (eqI a1 16)) (some (eqI a1 17)))) (fun b53 => cond b53 (some (.inr ((a0.Mutexes.length : Nat) : Int))) (cond (eqI a1 18) (some (.inr ((a0.Conds.length : Nat) : Int))) (cond (eqI a1 19) (some (.inr ((a0.Conds.length : Nat) : Int))) (cond (eqI a1 20) (some (.inr ((a0.Conds.length : Nat) : Int))) (cond (eqI a1 21) (some (.inr ((a0.Funcs.length : Nat) : Int))) (some (.inl ())))))))))) (fun o => match o with | .inl _ => some (-1) | .inr r65 => some r65)

end Go.Dc
end
section
set_option linter.all false
namespace Go.Dc
open Go Go.Hw Go.Proofs
set_option maxRecDepth 100000

def program_checkInst (fuelN : Nat) (a0 : Program) (a1 : Inst) (a2 : Int) : Option Int :=
  Option.bind (inst_Check fuelN a1) (fun y1 => cond (!(eqI y1 0)) (some y1) (Option.bind (program_objects a0 a1.Op) (fun y4 => cond (andB (!(ltI y4 0)) (orB (ltI a1.Obj 0) (!(ltI a1.Obj y4)))) (some 11) (cond (andB (eqI a1.Op 18) (orB (ltI a1.N 0) (!(ltI a1.N ((a0.Mutexes.length : Nat) : Int))))) (some 11) (cond (andB (orB (eqI a1.Op 4) (eqI a1.Op 5)) (orB (ltI a1.N 0) (ltI a2 a1.N))) (some 12) (some 0))))))

end Go.Dc
end
section
set_option linter.all false
namespace Go.Dc
open Go Go.Hw Go.Proofs
set_option maxRecDepth 100000
def insC (a : Nat) : Nat → List Inst → List (ProgramPlace × Inst)
  | _, [] => []
  | b, i :: r => (⟨(a : Int), (b : Int)⟩, i) :: insC a (b + 1) r
def insF : Nat → List Func → List (ProgramPlace × Inst)
  | _, [] => []
  | a, f :: r => insC a 0 f.Code ++ insF (a + 1) r
def it_instructions (p : Program) : Option (List (ProgramPlace × Inst)) :=
  guardO (lenB p.Funcs.length && p.Funcs.all fun f => lenB f.Code.length) (some (insF 0 p.Funcs))
abbrev insEv : ProgramPlace × Inst → List EV := fun y => ([.agg [.c (.int .i64 y.1.fn), .c (.int .i64 y.1.inst)], .agg [.c (.int .i64 y.2.Op), .c (.int .i64 y.2.A), .c (.int .i64 y.2.B), .c (.int .i64 y.2.C), .c (.int .i64 y.2.Obj), .c (.int .i64 y.2.N), .c (.int .i64 y.2.Fn), .c (.int .i64 y.2.Order)]] : List EV)
end Go.Dc
end
section
set_option linter.all false
namespace Go.Dc
open Go Go.Hw Go.Proofs
set_option maxRecDepth 100000
def program_checkCode_L1 (fuelN : Nat) (a0 : Program) (y1 : Int) : List (ProgramPlace × Inst) → Option (Unit ⊕ (Unit ⊕ (Int × ProgramPlace)))
  | [] => some (.inl ())
  | y7 :: q28 => cond (eqI y7.1.fn y1) (some (.inr (.inl ()))) (Option.bind (getI a0.Funcs y7.1.fn) (fun x36 => Option.bind (program_checkInst fuelN a0 y7.2 ((x36.Code.length : Nat) : Int)) (fun y39 => cond (!(eqI y39 0)) (some (.inr (.inr (y39, y7.1)))) (program_checkCode_L1 fuelN a0 y1 q28))))

def program_checkCode (fuelN : Nat) (a0 : Program) : Option (Int × ProgramPlace) :=
  Option.bind (slices_IndexFunc_api_Func_program_checkCode_1 a0.Funcs) (fun y1 => Option.bind (program_instructions a0) (fun y3 => Option.bind (it_instructions y3) (fun xs5 => Option.bind (program_checkCode_L1 fuelN a0 y1 xs5) (fun o => match o with | .inl _ => cond (!(ltI y1 0)) (some (4, ({ fn := y1, inst := (-1) } : ProgramPlace))) (some (0, ({ fn := (-1), inst := (-1) } : ProgramPlace))) | .inr (.inl _) => cond (!(ltI y1 0)) (some (4, ({ fn := y1, inst := (-1) } : ProgramPlace))) (some (0, ({ fn := (-1), inst := (-1) } : ProgramPlace))) | .inr (.inr r45) => some r45))))

end Go.Dc
end
section
set_option linter.all false
namespace Go.Dc
open Go Go.Hw Go.Proofs
set_option maxRecDepth 100000
def program_checkThreads_L1 (a0 : Program) : List Start → Nat → Option (Unit ⊕ (Int × ProgramPlace))
  | [], k54 => some (.inl ())
  | x74 :: q70, k54 => cond (orB (ltI x74.Func 0) (!(ltI x74.Func ((a0.Funcs.length : Nat) : Int)))) (some (.inr (11, ({ fn := (-1), inst := (-1) } : ProgramPlace)))) (Option.bind (program_value x74.Arg) (fun y78 => cond (!y78) (some (.inr (2, ({ fn := (-1), inst := (-1) } : ProgramPlace)))) (program_checkThreads_L1 a0 q70 (k54 + 1))))

def program_checkThreads (a0 : Program) : Option (Int × ProgramPlace) :=
  cond (orB (ltI ((a0.Threads.length : Nat) : Int) 1) (ltI 8 ((a0.Threads.length : Nat) : Int))) (some (4, ({ fn := (-1), inst := (-1) } : ProgramPlace))) (Option.bind (α := Unit ⊕ (Int × ProgramPlace)) (Option.bind (program_checkThreads_L1 a0 a0.Threads 0) (fun o => match o with | .inl _ => some (.inl ()) | .inr r81 => some (.inr r81))) (fun o => match o with | .inl _ => some (0, ({ fn := (-1), inst := (-1) } : ProgramPlace)) | .inr r82 => some r82))

end Go.Dc
end
section
set_option linter.all false
namespace Go.Dc
open Go Go.Hw Go.Proofs
set_option maxRecDepth 100000

def program_Check (fuelN : Nat) (a0 : Program) : Option (Int × Int × Int) :=
  Option.bind (program_checkNames a0) (fun y1 => Option.bind (α := Int × Int × Int) (cond (eqI y1.1 0) (Option.bind (program_checkObjects a0) (fun y15 => some ((y15.1, y15.2.fn, y15.2.inst)))) (some ((y1.1, y1.2.fn, y1.2.inst)))) (fun o => match o with | (i6, i7, i9) => Option.bind (α := Int × Int × Int) (cond (eqI i6 0) (Option.bind (program_checkCode fuelN a0) (fun y28 => some ((y28.1, y28.2.fn, y28.2.inst)))) (some ((i6, i7, i9)))) (fun o => match o with | (i20, i21, i22) => cond (eqI i20 0) (Option.bind (program_checkThreads a0) (fun y31 => cond (!(eqI y31.1 0)) (some (y31.1, y31.2.fn, y31.2.inst)) (some (0, (-1), (-1))))) (cond (!(eqI i20 0)) (some (i20, i21, i22)) (some (0, (-1), (-1)))))))

end Go.Dc
end
section
set_option linter.all false
namespace Go.Dc
open Go Go.Hw Go.Proofs
set_option maxRecDepth 100000

def r08_value (a0 : Int) : Option Bool :=
  some (andB (!(ltI a0 (-2147483648))) (!(ltI 2147483647 a0)))

end Go.Dc
end
section
set_option linter.all false
namespace Go.Dc
open Go Go.Hw Go.Proofs
set_option maxRecDepth 100000

def r08_exists (a0 : Program) (a1 : Inst) : Option Bool :=
  Option.bind (α := Nat ⊕ Bool) (Option.bind (α := Bool) (cond (eqI a1.Op 8) (some (eqI a1.Op 8)) (cond (eqI a1.Op 9) (some (eqI a1.Op 9)) (cond (eqI a1.Op 10) (some (eqI a1.Op 10)) (cond (eqI a1.Op 11) (some (eqI a1.Op 11)) (cond (eqI a1.Op 12) (some (eqI a1.Op 12)) (some (eqI a1.Op 14))))))) (fun b42 => cond b42 (some (.inl a0.Vars.length)) (Option.bind (α := Bool) (cond (eqI a1.Op 15) (some (eqI a1.Op 15)) (cond (eqI a1.Op 16) (some (eqI a1.Op 16)) (some (eqI a1.Op 17)))) (fun b55 => cond b55 (some (.inl a0.Mutexes.length)) (cond (eqI a1.Op 18) (cond (orB (ltI a1.N 0) (!(ltI a1.N ((a0.Mutexes.length : Nat) : Int)))) (some (.inr false)) (some (.inl a0.Conds.length))) (cond (eqI a1.Op 19) (some (.inl a0.Conds.length)) (cond (eqI a1.Op 20) (some (.inl a0.Conds.length)) (cond (eqI a1.Op 21) (some (.inl a0.Funcs.length)) (some (.inr true)))))))))) (fun o => match o with | .inl k32 => some (andB (!(ltI a1.Obj 0)) (ltI a1.Obj ((k32 : Nat) : Int))) | .inr r68 => some r68)

end Go.Dc
end
section
set_option linter.all false
namespace Go.Dc
open Go Go.Hw Go.Proofs
set_option maxRecDepth 100000
def r08_code_L1 (a0 : Program) (a1 : Func) : List Inst → Nat → Option (Unit ⊕ (Int × Int))
  | [], k66 => some (.inl ())
  | x89 :: q85, k66 => Option.bind (r07_Check x89) (fun y92 => cond (!(eqI y92 0)) (some (.inr (y92, ((k66 : Nat) : Int)))) (Option.bind (r08_exists a0 x89) (fun y95 => cond (!y95) (some (.inr (11, ((k66 : Nat) : Int)))) (cond (andB (orB (eqI x89.Op 4) (eqI x89.Op 5)) (orB (ltI x89.N 0) (ltI ((a1.Code.length : Nat) : Int) x89.N))) (some (.inr (12, ((k66 : Nat) : Int)))) (r08_code_L1 a0 a1 q85 (k66 + 1))))))

def r08_code (a0 : Program) (a1 : Func) : Option (Int × Int) :=
  cond (ltI 64 ((a1.Code.length : Nat) : Int)) (some (4, (-1))) (Option.bind (α := Unit ⊕ (Int × Int)) (Option.bind (r08_code_L1 a0 a1 a1.Code 0) (fun o => match o with | .inl _ => some (.inl ()) | .inr r99 => some (.inr r99))) (fun o => match o with | .inl _ => some (0, (-1)) | .inr r100 => some r100))

end Go.Dc
end
section
set_option linter.all false
namespace Go.Dc
open Go Go.Hw Go.Proofs
set_option maxRecDepth 100000
def r08_threads_L1 (a0 : Program) : List Start → Nat → Option (Unit ⊕ Int)
  | [], k68 => some (.inl ())
  | x92 :: q88, k68 => cond (orB (ltI x92.Func 0) (!(ltI x92.Func ((a0.Funcs.length : Nat) : Int)))) (some (.inr 11)) (Option.bind (r08_value x92.Arg) (fun y98 => cond (!y98) (some (.inr 2)) (r08_threads_L1 a0 q88 (k68 + 1))))

def r08_threads (a0 : Program) : Option Int :=
  cond (orB (ltI ((a0.Threads.length : Nat) : Int) 1) (ltI 8 ((a0.Threads.length : Nat) : Int))) (some 4) (Option.bind (α := Unit ⊕ Int) (Option.bind (r08_threads_L1 a0 a0.Threads 0) (fun o => match o with | .inl _ => some (.inl ()) | .inr r101 => some (.inr r101))) (fun o => match o with | .inl _ => some 0 | .inr r102 => some r102))

end Go.Dc
end
section
set_option linter.all false
namespace Go.Dc
open Go Go.Hw Go.Proofs
set_option maxRecDepth 100000
def r08_Check_L1 : List Var → Nat → Option (Unit ⊕ (Int × Int × Int))
  | [], k64 => some (.inl ())
  | x83 :: q79, k64 => Option.bind (r08_value x83.Init) (fun y86 => cond (!y86) (some (.inr (2, (-1), (-1)))) (r08_Check_L1 q79 (k64 + 1)))

def r08_Check_L2 (a0 : Program) : List Func → Nat → Option (Unit ⊕ (Int × Int × Int))
  | [], k156 => some (.inl ())
  | x180 :: q176, k156 => Option.bind (r08_code a0 x180) (fun y186 => cond (!(eqI y186.1 0)) (some (.inr (y186.1, ((k156 : Nat) : Int), y186.2))) (r08_Check_L2 a0 q176 (k156 + 1)))

def r08_Check (fuelN : Nat) (a0 : Program) : Option (Int × Int × Int) :=
  Option.bind (r08_lists a0) (fun y1 => Option.bind (r08_names fuelN y1.1) (fun y3 => cond (!(eqI y3.2 0)) (some (y3.2, (-1), (-1))) (Option.bind (r08_names fuelN a0.Mutexes) (fun y6 => cond (!(eqI y6.2 0)) (some (y6.2, (-1), (-1))) (Option.bind (r08_names fuelN a0.Conds) (fun y9 => cond (!(eqI y9.2 0)) (some (y9.2, (-1), (-1))) (Option.bind (r08_names fuelN y1.2) (fun y12 => cond (!(eqI y12.2 0)) (some (y12.2, y12.1, (-1))) (cond (orB (orB (orB (ltI 8 ((a0.Vars.length : Nat) : Int)) (ltI 4 ((a0.Mutexes.length : Nat) : Int))) (ltI 4 ((a0.Conds.length : Nat) : Int))) (ltI 8 ((a0.Funcs.length : Nat) : Int))) (some (4, (-1), (-1))) (Option.bind (α := Unit ⊕ (Int × Int × Int)) (Option.bind (r08_Check_L1 a0.Vars 0) (fun o => match o with | .inl _ => some (.inl ()) | .inr r89 => some (.inr r89))) (fun o => match o with | .inl _ => Option.bind (α := Unit ⊕ (Int × Int × Int)) (Option.bind (r08_Check_L2 a0 a0.Funcs 0) (fun o => match o with | .inl _ => some (.inl ()) | .inr r189 => some (.inr r189))) (fun o => match o with | .inl _ => Option.bind (r08_threads a0) (fun y190 => some (y190, (-1), (-1))) | .inr r192 => some r192) | .inr r193 => some r193)))))))))))

end Go.Dc
end
section
set_option linter.all false
namespace Go.Dc.Pl
open Go Go.Hw Go.Dc
set_option maxRecDepth 100000
def exs (p : Program) (x : Inst) : Bool := (r08_exists p x).getD false
def ci (p : Program) (x : Inst) (n : Nat) : Int := cond (!(eqI (icode x) 0)) (icode x) (cond (!(exs p x)) 11 (cond (andB (orB (eqI x.Op 4) (eqI x.Op 5)) (orB (ltI x.N 0) (ltI (n : Int) x.N))) 12 0))
/-- The first instruction of a function that is wrong. -/
def cI (p : Program) (n j : Nat) (x : Inst) : Option (Int × Int) := onlyIf (!(eqI (ci p x n) 0)) (ci p x n, (j : Int))
def cF (p : Program) (k : Nat) (f : Func) : Option (Int × Int × Int) := cond (ltI 64 ((f.Code.length : Nat) : Int)) (some (4, (k : Int), -1)) ((first (cI p f.Code.length) f.Code 0).map fun r => (r.1, (k : Int), r.2))
end Go.Dc.Pl
end
section
set_option linter.all false
namespace Go.Dc.Pl
open Go Go.Hw Go.Dc
set_option maxRecDepth 100000
def bigF (k : Nat) (f : Func) : Option Int := onlyIf (ltI 64 ((f.Code.length : Nat) : Int)) (k : Int)
def finC (y : Int) (o : Unit ⊕ (Unit ⊕ (Int × ProgramPlace))) : Option (Int × ProgramPlace) := match o with
  | .inl _ => cond (!(ltI y 0)) (some (4, ({ fn := y, inst := -1 } : ProgramPlace))) (some (0, ({ fn := -1, inst := -1 } : ProgramPlace)))
  | .inr (.inl _) => cond (!(ltI y 0)) (some (4, ({ fn := y, inst := -1 } : ProgramPlace))) (some (0, ({ fn := -1, inst := -1 } : ProgramPlace)))
  | .inr (.inr r) => some r
def plc (r : Int × Int × Int) : Int × ProgramPlace := (r.1, { fn := r.2.1, inst := r.2.2 })
/-- Names of a program: the first that is wrong. -/
def ckN (p : Program) : Option (Int × Int) := match badName (p.Vars.map Var.Name) with
  | some r => some (r.1, -1)
  | none => match badName p.Mutexes with
    | some r => some (r.1, -1)
    | none => match badName p.Conds with
      | some r => some (r.1, -1)
      | none => badName (p.Funcs.map Func.Name)
def limP (p : Program) : Bool := orB (orB (orB (ltI 8 ((p.Vars.length : Nat) : Int)) (ltI 4 ((p.Mutexes.length : Nat) : Int))) (ltI 4 ((p.Conds.length : Nat) : Int))) (ltI 8 ((p.Funcs.length : Nat) : Int))
def badV (n : Int) : Bool := !(andB (!(ltI n (-2147483648))) (!(ltI 2147483647 n)))
def ckO (p : Program) : Int := cond (limP p) 4 (cond (p.Vars.any fun v => badV v.Init) 2 0)
def thF (p : Program) (x : Start) : Option Int := cond (orB (ltI x.Func 0) (!(ltI x.Func ((p.Funcs.length : Nat) : Int)))) (some 11) (onlyIf (badV x.Arg) 2)
def ckT (p : Program) : Int := cond (orB (ltI ((p.Threads.length : Nat) : Int) 1) (ltI 8 ((p.Threads.length : Nat) : Int))) 4 ((first (fun _ => thF p) p.Threads 0).getD 0)
/-- What both checks answer. -/
def chk (p : Program) : Int × Int × Int := match ckN p with
  | some r => (r.1, r.2, -1)
  | none => cond (!(eqI (ckO p) 0)) (ckO p, -1, -1) (match first (cF p) p.Funcs 0 with | some r => r | none => (ckT p, -1, -1))
end Go.Dc.Pl
end
section
set_option linter.all false
namespace Go.Dc.Pl
open Go Go.Hw Go.Dc
set_option maxRecDepth 100000
/-- What an instruction with these operands must satisfy. -/
structure InstOk (x : Inst) (uA uB uC uO uN uF uR : Bool) : Prop where
  zA : uA = false → x.A = 0
  zB : uB = false → x.B = 0
  zC : uC = false → x.C = 0
  zO : uO = false → x.Obj = 0
  zN : uN = false → x.N = 0
  zF : uF = false → x.Fn = 0
  zR : uR = false → x.Order = 0
  A : 0 ≤ x.A ∧ x.A < 8
  B : 0 ≤ x.B ∧ x.B < 8
  C : 0 ≤ x.C ∧ x.C < 8
  R : 0 ≤ x.Order ∧ x.Order ≤ 2
  F : uF = true → 1 ≤ x.Fn ∧ x.Fn ≤ 10
  N : x.Op = 1 → -2147483648 ≤ x.N ∧ x.N ≤ 2147483647
theorem ic_aux {c : Bool} {k : Int} {a : Option Int} (hk : k ≠ 0) : (eqI ((cond c (some k) a).getD 0) 0 = true) ↔ (c = false ∧ eqI (a.getD 0) 0 = true) := by
  cases c <;> simp [eqI, hk]
theorem icode_iff {x : Inst} (h1 : 1 ≤ x.Op) (h2 : x.Op ≤ 22) {uA uB uC uO uN uF uR : Bool} (hA : r07_has x.Op 65 = some uA) (hB : r07_has x.Op 66 = some uB) (hC : r07_has x.Op 67 = some uC)
    (hO : r07_has x.Op 79 = some uO) (hN : r07_has x.Op 78 = some uN) (hF : r07_has x.Op 70 = some uF) (hR : r07_has x.Op 82 = some uR) : eqI (icode x) 0 = true ↔ InstOk x uA uB uC uO uN uF uR := by
  obtain ⟨na, nb, hna, hnb, hea, heb⟩ := names_eq x.Fn
  have e : icode x = (cond (orB (orB (orB (orB (orB (orB (andB (!uA) (!(eqI x.A 0))) (andB (!uB) (!(eqI x.B 0)))) (andB (!uC) (!(eqI x.C 0)))) (andB (!uO) (!(eqI x.Obj 0)))) (andB (!uN) (!(eqI x.N 0)))) (andB (!uF) (!(eqI x.Fn 0)))) (andB (!uR) (!(eqI x.Order 0)))) (some 9)
      (cond (orB (orB (!(andB (!ltI x.A 0) (ltI x.A 8))) (!(andB (!ltI x.B 0) (ltI x.B 8)))) (!(andB (!ltI x.C 0) (ltI x.C 8)))) (some 10) (cond (orB (ltI x.Order 0) (ltI 2 x.Order)) (some 13) (cond (andB uF (noName x.Fn)) (some 8) (cond (andB (eqI x.Op 1) (orB (ltI x.N (-2147483648)) (ltI 2147483647 x.N))) (some 2) (some 0)))))).getD 0 := by
    rw [icode, r07_Check, show orB (ltI x.Op 1) (ltI 22 x.Op) = false by simp [orB_d, ltI_d]; omega]
    simp only [hA, hB, hC, hO, hN, hF, hR, hnb, heb, Option.bind_some, Option.isSome_some, Option.getD_some, orB_t, guardO_t, cond_false, r07_register]
  rw [e, ic_aux (by decide), ic_aux (by decide), ic_aux (by decide), ic_aux (by decide), ic_aux (by decide)]
  simp only [orB_d, andB_d, eqI_d, ltI_d, noName, Bool.or_eq_false_iff, Bool.and_eq_false_imp, Bool.not_eq_true', Bool.not_eq_false', decide_eq_true_eq, decide_eq_false_iff_not, Bool.not_eq_eq_eq_not, Bool.not_true, Bool.not_false, Bool.and_eq_true, Option.getD_some, decide_true, and_true]
  constructor
  · rintro ⟨⟨⟨⟨⟨⟨⟨a, b⟩, c⟩, o⟩, n⟩, f⟩, r⟩, ⟨⟨ra, rb⟩, rc⟩, ro, rf, rn⟩
    refine ⟨a, b, c, o, n, f, r, by omega, by omega, by omega, by omega, fun h => ?_, fun h => ?_⟩
    · have := rf h; omega
    · have := rn h; omega
  · intro h
    obtain ⟨a, b, c, o, n, f, r, ra, rb, rc, ro, rf, rn⟩ := h
    refine ⟨⟨⟨⟨⟨⟨⟨a, b⟩, c⟩, o⟩, n⟩, f⟩, r⟩, ⟨⟨by omega, by omega⟩, by omega⟩, by omega, fun h => ?_, fun h => ?_⟩
    · have := rf h; omega
    · have := rn h; omega
theorem first_none_iff {α β : Type} {f : Nat → α → Option β} : ∀ {l : List α} {k : Nat}, first f l k = none ↔ ∀ j x, l[j]? = some x → f (k + j) x = none
  | [], k => by simp
  | x :: q, k => by
    rw [first_cons]
    constructor
    · intro h j y hy
      cases hc : f k x with
      | some r => rw [hc] at h; cases h
      | none =>
        rw [hc] at h
        cases j with
        | zero => obtain rfl := Option.some.inj hy; exact hc
        | succ j => have := first_none_iff.1 h j y (by simpa using hy); rwa [show k + (j + 1) = k + 1 + j by omega]
    · intro h
      rw [show f k x = none from h 0 x rfl]
      exact first_none_iff.2 fun j y hy => by have := h (j + 1) y (by simpa using hy); rwa [show k + 1 + j = k + (j + 1) by omega]
end Go.Dc.Pl
end
section
set_option linter.all false
namespace Go.Dc
open Go Go.Hw Go.Proofs
set_option maxRecDepth 100000
def cfg_check_L1 (fuelN : Nat) (a0 : Func) : List Inst → Nat → Option (Unit ⊕ Int)
  | [], k54 => some (.inl ())
  | x74 :: q70, k54 => Option.bind (inst_Check fuelN x74) (fun y77 => cond (!(eqI y77 0)) (some (.inr y77)) (cond (andB (orB (eqI x74.Op 4) (eqI x74.Op 5)) (orB (ltI x74.N 0) (ltI ((a0.Code.length : Nat) : Int) x74.N))) (some (.inr 12)) (cfg_check_L1 fuelN a0 q70 (k54 + 1))))

def cfg_check (fuelN : Nat) (a0 : Func) : Option Int :=
  cond (ltI 64 ((a0.Code.length : Nat) : Int)) (some 4) (Option.bind (α := Unit ⊕ Int) (Option.bind (cfg_check_L1 fuelN a0 a0.Code 0) (fun o => match o with | .inl _ => some (.inl ()) | .inr r81 => some (.inr r81))) (fun o => match o with | .inl _ => some 0 | .inr r82 => some r82))

set_option maxHeartbeats 2000000 in
theorem at_cfg_check {fuelN : Nat} {a0 : Func} {r : Int} (hs : cfg_check fuelN a0 = some r) : At Tryd.prog 106 [.agg (eA a0)] (iV .i64 r) := by
  refine at_bound (by kernel_rfl) fun hb => ?_
  have hb1 : LenOk (.sl a0.Code.length (encL a0.Code)) := lkc hb
  refine at_code mixed Tryd.func106 (by kernel_rfl) rfl (by kernel_rfl) rfl fun Q hQ => ?_
  rw [cfg_check] at hs
  refine goR f0 ?_
  revert hs; refine cS f0 ?_ ?_ <;> intro h1 hs
  · refine goR f0 ?_
    obtain rfl := sj hs
    exact hQ _ _ (rg f0 (Gh.refl _))
  · refine goR2 f0 ?_
    revert hs; refine bK fun o41 e40 hs => ?_
    refine awp_cutK (fun (v : Unit) (σ : St) => some (.inl v) = some o41 ∧ 3 ≤ σ.gen) (by rfl) (fun Q hK42 hX43 => ?_) (fun v σ3 hp => ?_)
    · refine goR f0 ?_
      revert e40; refine bK fun o65 e64 e40 => ?_
      refine awp_loopW (fun (v : (List Inst) × Nat) (σ : St) => cfg_check_L1 fuelN a0 v.1 v.2 = some o65 ∧ v.1 = a0.Code.drop v.2 ∧ σ.env 1 = .cell (.ref (.o 1 0 0) 0) ∧ σ.env 11 = .cell (sC a0.Code) ∧ σ.env 12 = iV .i64 ((a0.Code.length : Nat) : Int) ∧ σ.env 13 = iV .i64 ((v.2 : Nat) : Int) ∧ σ.hp (.o 1 0 0) = some (.cells (eA a0)) ∧ 3 ≤ σ.gen) (fun v => v.1.length) _ (Gh.refl _) (a0.Code, 0) ⟨e64, by simp, pv f0, pv f0, pv f0, pv f0, pv f0, pg⟩ fun v σ6 hp L66 hL67 => ?_
      obtain ⟨q69, k54⟩ := v
      dsimp only at hp hL67
      obtain ⟨e64, hd68, h5_1, h5_11, h5_12, h5_13, g5_0, n5_g⟩ := hp
      have n5_0 : ¬ (σ6.gen = 0) := by omega
      rcases q69 with _ | ⟨x74, q70⟩
      · have hlt71 := drop_end hd68
        rw [cfg_check_L1] at e64; try dsimp only at e64
        have F1 := an h5_1 (an h5_11 (an h5_12 (an h5_13 (an g5_0 n5_0))))
        refine goR F1 ?_
        refine condK_f (by simp [ltI]; omega) ?_
        obtain rfl := sj e64
        try dsimp only at e40
        exact hK42 () _ _ (Gh.refl _) ⟨e40, pg⟩
      · obtain ⟨hx73, hlt71, hd75⟩ := drop_next hd68
        have ew72 := wrap_succ hlt71 (hb1).len
        rw [cfg_check_L1] at e64; try dsimp only at e64
        have F2 := an h5_1 (an h5_11 (an h5_12 (an h5_13 (an g5_0 (an n5_0 (an hlt71 ew72))))))
        refine goR F2 ?_
        refine condK_t (by simp [ltI]; omega) ?_
        have f76 : partCV Tryd.prog 83 (encL a0.Code) (k54 * 8) = some (.agg (eA x74)) := partCV_enc hx73 (f := 0) (by simp)
        have F3 := an F2 f76
        refine goR F3 ?_
        revert e64; refine bK fun y77 hx78 e64 => ?_
        refine cP F3 (at_inst_Check hx78) ?_
        refine goR F3 ?_
        revert e64; refine cS F3 ?_ ?_ <;> intro h79 e64
        · refine goR F3 ?_
          obtain rfl := sj e64
          try dsimp only at e40
          obtain rfl := sj e40
          try dsimp only at hs
          refine hX43 _ _ (by simp) ?_
          refine goR F3 ?_
          obtain rfl := sj hs
          exact hQ _ _ (rg F3 (Gh.refl _))
        · refine goG F3 F3 ?_
          revert e64; refine cS F3 ?_ ?_ <;> intro h80 e64
          · refine goG F3 F3 ?_
            obtain rfl := sj e64
            try dsimp only at e40
            obtain rfl := sj e40
            try dsimp only at hs
            refine hX43 _ _ (by simp) ?_
            refine goG F3 F3 ?_
            obtain rfl := sj hs
            exact hQ _ _ (rg F3 (Gh.refl _))
          · refine goG F3 F3 ?_
            exact hL67 (q70, (k54 + 1)) _ _ (Gh.refl _) ⟨e64, hd75, pv F3, pv F3, pv F3, pv F3, pv F3, pg⟩ (by simp)
    · obtain ⟨e40, n4_g⟩ := hp
      obtain rfl := sj e40
      try dsimp only at hs
      refine goR f0 ?_
      obtain rfl := sj hs
      exact hQ _ _ (rg f0 (Gh.refl _))
end Go.Dc
end
section
set_option linter.all false
namespace Go.Dc
open Go Go.Hw Go.Proofs
set_option maxRecDepth 100000
def cfg_sorted_L1 (a1 : Map Int Bool) : Nat → (List Int) → Nat → Option (List Int)
  | 0, l53, k54 => some (l53)
  | q70 + 1, l53, k54 => cond (mval a1 ((k54 : Nat) : Int) false) (Option.bind (some ([((k54 : Nat) : Int)])) (fun l75 => guardO (limB 8 (l53.length + l75.length)) (Option.bind (some (l53 ++ l75)) (fun l78 => cfg_sorted_L1 a1 q70 l78 (k54 + 1))))) (cfg_sorted_L1 a1 q70 l53 (k54 + 1))

def cfg_sorted (a0 : Func) (a1 : Map Int Bool) : Option (List Int) :=
  Option.bind (α := (List Int)) (Option.bind (cfg_sorted_L1 a1 a0.Code.length [] 0) (fun l63 => some (l63))) (fun l38 => some l38)

set_option maxHeartbeats 2000000 in
theorem at_cfg_sorted {a0 : Func} {a1 : Map Int Bool} {r : (List Int)} (hs : cfg_sorted a0 a1 = some r) : CAt Tryd.prog 107 [.agg (eA a0), .cell (.mp (.a 0))] [.map (mK a1) (mV a1)] (.ret (.cell (sC r))) [(.a 0, .map (mK a1) (mV a1))] := by
  refine at_bound (by kernel_rfl) fun hb => ?_
  have hb1 : LenOk (.sl a0.Code.length (encL a0.Code)) := lkc hb
  refine at_code mixed Tryd.func107 (by kernel_rfl) rfl (by kernel_rfl) rfl fun Q hQ => ?_
  rw [cfg_sorted] at hs
  refine goR2 f0 ?_
  revert hs; refine bK fun o40 e39 hs => ?_
  refine awp_cutK (fun (v : (List Int)) (σ : St) => some (v) = some o40 ∧ σ.env 5 = .cell (.sl (.l 2) 0 1 v.length) ∧ σ.hp (.l 2) = some (.pure (encL v)) ∧ σ.hp (.a 0) = some (.map (mK a1) (mV a1)) ∧ 3 ≤ σ.gen) (by rfl) (fun Q hK41 hX42 => ?_) (fun l38 σ3 hp => ?_)
  · refine goR f0 ?_
    revert e39; refine bK fun o65 e64 e39 => ?_
    refine awp_loopW (fun (v : Nat × (List Int) × Nat) (σ : St) => cfg_sorted_L1 a1 v.1 v.2.1 v.2.2 = some o65 ∧ v.1 + v.2.2 = a0.Code.length ∧ σ.env 1 = .cell (.mp (.a 0)) ∧ σ.env 5 = .cell (.sl (.l 6) 0 1 v.2.1.length) ∧ σ.env 9 = iV .i64 ((a0.Code.length : Nat) : Int) ∧ σ.env 10 = iV .i64 ((v.2.2 : Nat) : Int) ∧ σ.hp (.l 6) = some (.pure (encL v.2.1)) ∧ σ.hp (.a 0) = some (.map (mK a1) (mV a1)) ∧ 3 ≤ σ.gen) (fun v => v.1) _ (Gh.void _ (.l 6) 5 1 rfl (by simp)) (a0.Code.length, [], 0) ⟨e64, by first | omega | simp | (simp; omega), pv f0, pv f0, pv f0, pv f0, pv f0, pv f0, pg⟩ fun v σ6 hp L66 hL67 => ?_
    obtain ⟨q69, l53, k54⟩ := v
    dsimp only at hp hL67
    obtain ⟨e64, hd68, h5_1, h5_5, h5_9, h5_10, g5_0, g5_1, n5_g⟩ := hp
    rcases q69 with _ | q70
    · have hlt71 : ¬ k54 < a0.Code.length := by omega
      rw [cfg_sorted_L1] at e64; try dsimp only at e64
      have F1 := an h5_1 (an h5_5 (an h5_9 (an h5_10 (an g5_0 g5_1))))
      refine goR F1 ?_
      refine condK_f (by simp [ltI]; omega) ?_
      obtain rfl := sj e64
      try dsimp only at e39
      exact hK41 l53 _ _ (Gh.ren _ (.l 6) (.l 2) (by simp) rfl rfl) ⟨e39, pv F1, pv F1, pv F1, pg⟩
    · have hlt71 : k54 < a0.Code.length := by omega
      have ew72 := wrap_succ hlt71 (hb1).len
      rw [cfg_sorted_L1] at e64; try dsimp only at e64
      have F2 := an h5_1 (an h5_5 (an h5_9 (an h5_10 (an g5_0 (an g5_1 (an hlt71 ew72))))))
      refine goR F2 ?_
      refine condK_t (by simp [ltI]; omega) ?_
      refine goR F2 ?_
      revert e64; refine cS F2 ?_ ?_ <;> intro h74 e64
      · revert e64; refine lK fun l75 hx76 e64 => ?_
        have hx76n : l75.length = 1 := by rw [hx76]; rfl
        obtain ⟨g77, e64⟩ := guardO_some e64
        have g77 := limB_t g77
        obtain ⟨g77a, g77b⟩ := g77
        revert e64; refine lK fun l78 hx79 e64 => ?_
        have hx79n : l78.length = (l53.length + l75.length) := by rw [hx79]; simp
        have hx79e : encL l78 = encL l53 ++ encL l75 := by rw [hx79]; simp
        have F3 := an F2 (an hx76 (an hx79n hx79e))
        refine goR F3 ?_
        exact hL67 (q70, l78, (k54 + 1)) _ _ (Gh.ren _ (.o (σ6.gen + 4) 3 0) (.l 6) (by simp) rfl rfl) ⟨e64, (by first | omega | (simp; omega)), pv F3, pv F3, pv F3, pv F3, pv F3, pv F3, pg⟩ (by omega)
      · refine goR F2 ?_
        exact hL67 (q70, l53, (k54 + 1)) _ _ (Gh.refl _) ⟨e64, (by first | omega | (simp; omega)), pv F2, pv F2, pv F2, pv F2, pv F2, pv F2, pg⟩ (by omega)
  · obtain ⟨e39, h4_5, g4_0, g4_1, n4_g⟩ := hp
    obtain rfl := sj e39
    try dsimp only at hs
    have F4 := an h4_5 (an g4_0 g4_1)
    refine goR F4 ?_
    obtain rfl := sj hs
    refine hQ _ _ (ret2g _ (Gh.frz _ (.l 2)) (by simp [St.frz, St.pur, F4]; rfl) (by first | rfl | (simp [St.frz, St.pur, F4]; done) | (rw [if_pos (by first | omega | (simp; omega))]; simp [St.frz, St.pur, F4]; first | omega | exact List.take_of_length_le (by simp; omega) | skip)) (pv F4))
end Go.Dc
end
section
set_option linter.all false
namespace Go.Dc
open Go Go.Hw Go.Proofs
set_option maxRecDepth 100000
def cfg_Leaders_L1 : List Inst → Nat → (Map Int Bool) → Option (Map Int Bool)
  | [], k165, m166 => some (m166)
  | x201 :: q197, k165, m166 => cond (eqI x201.Op 4) (Option.bind (some (mpt m166 x201.N true)) (fun m205 => Option.bind (some (mpt m205 (((k165 + 1) : Nat) : Int) true)) (fun m208 => cfg_Leaders_L1 q197 (k165 + 1) m208))) (cond (eqI x201.Op 5) (Option.bind (some (mpt m166 x201.N true)) (fun m212 => Option.bind (some (mpt m212 (((k165 + 1) : Nat) : Int) true)) (fun m215 => cfg_Leaders_L1 q197 (k165 + 1) m215))) (cond (eqI x201.Op 7) (Option.bind (some (mpt m166 (((k165 + 1) : Nat) : Int) true)) (fun m219 => cfg_Leaders_L1 q197 (k165 + 1) m219)) (cfg_Leaders_L1 q197 (k165 + 1) m166)))

def cfg_Leaders (fuelN : Nat) (a0 : Func) : Option ((List Int) × Int) :=
  Option.bind (cfg_check fuelN a0) (fun y1 => cond (!(eqI y1 0)) (some ([], y1)) (Option.bind (some (mpt ([] : Map Int Bool) 0 true)) (fun m4 => Option.bind (α := (Map Int Bool)) (Option.bind (cfg_Leaders_L1 a0.Code 0 m4) (fun m190 => some (m190))) (fun m112 => Option.bind (cfg_sorted a0 m112) (fun y222 => some (y222, 0))))))

set_option maxHeartbeats 2000000 in
theorem at_cfg_Leaders {fuelN : Nat} {a0 : Func} {r : (List Int) × Int} (hs : cfg_Leaders fuelN a0 = some r) : At Tryd.prog 51 [.agg (eA a0)] (.tup [.cell (sC r.1), iV .i64 r.2]) := by
  refine at_bound (by kernel_rfl) fun hb => ?_
  have hb1 : LenOk (.sl a0.Code.length (encL a0.Code)) := lkc hb
  refine at_code mixed Tryd.func51 (by kernel_rfl) rfl (by kernel_rfl) rfl fun Q hQ => ?_
  rw [cfg_Leaders] at hs
  refine goR f0 ?_
  revert hs; refine bK fun y1 hx2 hs => ?_
  refine cP f0 (at_cfg_check hx2) ?_
  refine goR f0 ?_
  revert hs; refine cS f0 ?_ ?_ <;> intro h3 hs
  · refine goR f0 ?_
    obtain rfl := sj hs
    exact hQ _ _ (rg f0 (Gh.unz _))
  · revert hs; refine lK fun m4 hx5 hs => ?_
    have f6 := hx5.symm
    try push_cast at f6
    refine goR2 f6 ?_
    revert hs; refine bK fun o114 e113 hs => ?_
    refine awp_cutK (fun (v : (Map Int Bool)) (σ : St) => some (v) = some o114 ∧ σ.env 1 = .cell (.ref (.o 1 0 0) 0) ∧ σ.env 5 = .cell (.mp (.o 4 0 0)) ∧ σ.hp (.o 1 0 0) = some (.cells (eA a0)) ∧ σ.hp (.o 4 0 0) = some (.map (mK v) (mV v)) ∧ 5 ≤ σ.gen) (by rfl) (fun Q hK115 hX116 => ?_) (fun m112 σ3 hp => ?_)
    · refine goR f6 ?_
      revert e113; refine bK fun o192 e191 e113 => ?_
      refine awp_loopW (fun (v : (List Inst) × Nat × (Map Int Bool)) (σ : St) => cfg_Leaders_L1 v.1 v.2.1 v.2.2 = some o192 ∧ v.1 = a0.Code.drop v.2.1 ∧ σ.env 1 = .cell (.ref (.o 1 0 0) 0) ∧ σ.env 5 = .cell (.mp (.o 4 0 0)) ∧ σ.env 16 = .cell (sC a0.Code) ∧ σ.env 17 = iV .i64 ((a0.Code.length : Nat) : Int) ∧ σ.env 18 = iV .i64 ((v.2.1 : Nat) : Int) ∧ σ.hp (.o 1 0 0) = some (.cells (eA a0)) ∧ σ.hp (.o 4 0 0) = some (.map (mK v.2.2) (mV v.2.2)) ∧ 5 ≤ σ.gen) (fun v => v.1.length) _ (Gh.refl _) (a0.Code, 0, m4) ⟨e191, by simp, pv f6, pv f6, pv f6, pv f6, pv f6, pv f6, pv f6, pg⟩ fun v σ6 hp L193 hL194 => ?_
      obtain ⟨q196, k165, m166⟩ := v
      dsimp only at hp hL194
      obtain ⟨e191, hd195, h5_1, h5_5, h5_16, h5_17, h5_18, g5_0, g5_1, n5_g⟩ := hp
      have n5_0 : ¬ (σ6.gen = 0) := by omega
      have n5_1 : ¬ (σ6.gen = 1) := by omega
      have n5_2 : ¬ (σ6.gen = 2) := by omega
      have n5_3 : ¬ (σ6.gen = 3) := by omega
      rcases q196 with _ | ⟨x201, q197⟩
      · have hlt198 := drop_end hd195
        rw [cfg_Leaders_L1] at e191; try dsimp only at e191
        have F1 := an h5_1 (an h5_5 (an h5_16 (an h5_17 (an h5_18 (an g5_0 (an g5_1 (an n5_0 (an n5_1 (an n5_2 n5_3)))))))))
        refine goR F1 ?_
        refine condK_f (by simp [ltI]; omega) ?_
        obtain rfl := sj e191
        try dsimp only at e113
        exact hK115 m166 _ _ (Gh.refl _) ⟨e113, pv F1, pv F1, pv F1, pv F1, pg⟩
      · obtain ⟨hx200, hlt198, hd202⟩ := drop_next hd195
        have ew199 := wrap_succ hlt198 (hb1).len
        rw [cfg_Leaders_L1] at e191; try dsimp only at e191
        have F2 := an h5_1 (an h5_5 (an h5_16 (an h5_17 (an h5_18 (an g5_0 (an g5_1 (an n5_0 (an n5_1 (an n5_2 (an n5_3 (an hlt198 ew199)))))))))))
        refine goR F2 ?_
        refine condK_t (by simp [ltI]; omega) ?_
        have f203 : partCV Tryd.prog 83 (encL a0.Code) (k165 * 8) = some (.agg (eA x201)) := partCV_enc hx200 (f := 0) (by simp)
        have F3 := an F2 f203
        refine goR F3 ?_
        revert e191; refine cS F3 ?_ ?_ <;> intro h204 e191
        · refine goR F3 ?_
          refine condK_t (by first | exact h204 | simpa using h204) ?_
          revert e191; refine lK fun m205 hx206 e191 => ?_
          have f207 := hx206.symm
          try push_cast at f207
          revert e191; refine lK fun m208 hx209 e191 => ?_
          have f210 := hx209.symm
          try push_cast at f210
          have F4 := an F3 (an f207 f210)
          refine goR F4 ?_
          exact hL194 (q197, (k165 + 1), m208) _ _ (Gh.refl _) ⟨e191, hd202, pv F4, pv F4, pv F4, pv F4, pv F4, pv F4, pv F4, pg⟩ (by simp)
        · refine goR F3 ?_
          revert e191; refine cS F3 ?_ ?_ <;> intro h211 e191
          · revert e191; refine lK fun m212 hx213 e191 => ?_
            have f214 := hx213.symm
            try push_cast at f214
            revert e191; refine lK fun m215 hx216 e191 => ?_
            have f217 := hx216.symm
            try push_cast at f217
            have F5 := an F3 (an f214 f217)
            refine goR F5 ?_
            exact hL194 (q197, (k165 + 1), m215) _ _ (Gh.refl _) ⟨e191, hd202, pv F5, pv F5, pv F5, pv F5, pv F5, pv F5, pv F5, pg⟩ (by simp)
          · refine goR F3 ?_
            revert e191; refine cS F3 ?_ ?_ <;> intro h218 e191
            · revert e191; refine lK fun m219 hx220 e191 => ?_
              have f221 := hx220.symm
              try push_cast at f221
              have F6 := an F3 f221
              refine goR F6 ?_
              exact hL194 (q197, (k165 + 1), m219) _ _ (Gh.refl _) ⟨e191, hd202, pv F6, pv F6, pv F6, pv F6, pv F6, pv F6, pv F6, pg⟩ (by simp)
            · refine goR F3 ?_
              exact hL194 (q197, (k165 + 1), m166) _ _ (Gh.refl _) ⟨e191, hd202, pv F3, pv F3, pv F3, pv F3, pv F3, pv F3, pv F3, pg⟩ (by simp)
    · obtain ⟨e113, h4_1, h4_5, g4_0, g4_1, n4_g⟩ := hp
      obtain rfl := sj e113
      try dsimp only at hs
      have n4_0 : ¬ (σ3.gen = 0) := by omega
      have n4_1 : ¬ (σ3.gen = 1) := by omega
      have n4_2 : ¬ (σ3.gen = 2) := by omega
      have n4_3 : ¬ (σ3.gen = 3) := by omega
      have F7 := an h4_1 (an h4_5 (an g4_0 (an g4_1 (an n4_0 (an n4_1 (an n4_2 n4_3))))))
      refine goR F7 ?_
      revert hs; refine bK fun y222 hx223 hs => ?_
      refine cB F7 (at_cfg_sorted hx223) [.o 4 0 0] ?_
      refine goR F7 ?_
      obtain rfl := sj hs
      exact hQ _ _ (rg F7 (Gh.refl _))
end Go.Dc
end
section
set_option linter.all false
namespace Go.Dc
open Go Go.Hw Go.Proofs
set_option maxRecDepth 100000
def slices_Index_int_L1 (a1 : Int) : List Int → Nat → Option (Unit ⊕ Int)
  | [], k41 => some (.inl ())
  | x58 :: q54, k41 => cond (eqI a1 x58) (some (.inr ((k41 : Nat) : Int))) (slices_Index_int_L1 a1 q54 (k41 + 1))

def slices_Index_int (a0 : List Int) (a1 : Int) : Option Int :=
  Option.bind (α := Unit ⊕ Int) (Option.bind (slices_Index_int_L1 a1 a0 0) (fun o => match o with | .inl _ => some (.inl ()) | .inr r62 => some (.inr r62))) (fun o => match o with | .inl _ => some (-1) | .inr r63 => some r63)

set_option maxHeartbeats 2000000 in
theorem at_slices_Index_int {a0 : List Int} {a1 : Int} {r : Int} (hs : slices_Index_int a0 a1 = some r) : At Tryd.prog 108 [.cell (sC a0), iV .i64 a1] (iV .i64 r) := by
  refine at_bound (by kernel_rfl) fun hb => ?_
  have hb1 : LenOk (.sl a0.length (encL a0)) := lkc hb
  refine at_code mixed Tryd.func108 (by kernel_rfl) rfl (by kernel_rfl) rfl fun Q hQ => ?_
  rw [slices_Index_int] at hs
  refine goR2 f0 ?_
  revert hs; refine bK fun o31 e30 hs => ?_
  refine awp_cutK (fun (v : Unit) (σ : St) => some (.inl v) = some o31 ∧ 2 ≤ σ.gen) (by rfl) (fun Q hK32 hX33 => ?_) (fun v σ3 hp => ?_)
  · refine goR f0 ?_
    revert e30; refine bK fun o49 e48 e30 => ?_
    refine awp_loopW (fun (v : (List Int) × Nat) (σ : St) => slices_Index_int_L1 a1 v.1 v.2 = some o49 ∧ v.1 = a0.drop v.2 ∧ σ.env 0 = .cell (sC a0) ∧ σ.env 1 = iV .i64 a1 ∧ σ.env 7 = iV .i64 ((a0.length : Nat) : Int) ∧ σ.env 8 = iV .i64 ((v.2 : Nat) : Int) ∧ 2 ≤ σ.gen) (fun v => v.1.length) _ (Gh.refl _) (a0, 0) ⟨e48, by simp, pv f0, pv f0, pv f0, pv f0, pg⟩ fun v σ6 hp L50 hL51 => ?_
    obtain ⟨q53, k41⟩ := v
    dsimp only at hp hL51
    obtain ⟨e48, hd52, h5_0, h5_1, h5_7, h5_8, n5_g⟩ := hp
    rcases q53 with _ | ⟨x58, q54⟩
    · have hlt55 := drop_end hd52
      rw [slices_Index_int_L1] at e48; try dsimp only at e48
      have F1 := an h5_0 (an h5_1 (an h5_7 h5_8))
      refine goR F1 ?_
      refine condK_f (by simp [ltI]; omega) ?_
      obtain rfl := sj e48
      try dsimp only at e30
      exact hK32 () _ _ (Gh.refl _) ⟨e30, pg⟩
    · obtain ⟨hx57, hlt55, hd59⟩ := drop_next hd52
      have ew56 := wrap_succ hlt55 (hb1).len
      rw [slices_Index_int_L1] at e48; try dsimp only at e48
      have F2 := an h5_0 (an h5_1 (an h5_7 (an h5_8 (an hlt55 ew56))))
      refine goR F2 ?_
      refine condK_t (by simp [ltI]; omega) ?_
      have f60 : partCV Tryd.prog 3 (encL a0) (k41) = some (iV .i64 x58) := partCV_enc1 hx57 (by simp)
      have F3 := an F2 f60
      refine goR F3 ?_
      revert e48; refine cS F3 ?_ ?_ <;> intro h61 e48
      · refine goR F3 ?_
        obtain rfl := sj e48
        try dsimp only at e30
        obtain rfl := sj e30
        try dsimp only at hs
        refine hX33 _ _ (by simp) ?_
        refine goR F3 ?_
        obtain rfl := sj hs
        exact hQ _ _ (rg F3 (Gh.refl _))
      · refine goR F3 ?_
        exact hL51 (q54, (k41 + 1)) _ _ (Gh.refl _) ⟨e48, hd59, pv F3, pv F3, pv F3, pv F3, pg⟩ (by simp)
  · obtain ⟨e30, n4_g⟩ := hp
    obtain rfl := sj e30
    try dsimp only at hs
    refine goR f0 ?_
    obtain rfl := sj hs
    exact hQ _ _ (rg f0 (Gh.refl _))
end Go.Dc
end
section
set_option linter.all false
namespace Go.Dc
open Go Go.Hw Go.Proofs
set_option maxRecDepth 100000

def slices_Contains_int (a0 : List Int) (a1 : Int) : Option Bool :=
  Option.bind (slices_Index_int a0 a1) (fun y1 => some (!(ltI y1 0)))

set_option maxHeartbeats 2000000 in
theorem at_slices_Contains_int {a0 : List Int} {a1 : Int} {r : Bool} (hs : slices_Contains_int a0 a1 = some r) : At Tryd.prog 52 [.cell (sC a0), iV .i64 a1] (bV r) := by
  refine at_bound (by kernel_rfl) fun hb => ?_
  have hb1 : LenOk (.sl a0.length (encL a0)) := lkc hb
  refine at_code mixed Tryd.func52 (by kernel_rfl) rfl (by kernel_rfl) rfl fun Q hQ => ?_
  rw [slices_Contains_int] at hs
  refine goR f0 ?_
  revert hs; refine bK fun y1 hx2 hs => ?_
  refine cP f0 (at_slices_Index_int hx2) ?_
  refine goR f0 ?_
  obtain rfl := sj hs
  exact hQ _ _ (rg f0 (Gh.refl _))
end Go.Dc
end
section
set_option linter.all false
namespace Go.Dc
open Go Go.Hw Go.Proofs
set_option maxRecDepth 100000
def r12_Check_L1 (a0 : Func) : List Inst → Nat → Option (Unit ⊕ Int)
  | [], k66 => some (.inl ())
  | x89 :: q85, k66 => Option.bind (r07_Check x89) (fun y92 => cond (!(eqI y92 0)) (some (.inr y92)) (cond (andB (orB (eqI x89.Op 4) (eqI x89.Op 5)) (orB (ltI x89.N 0) (ltI ((a0.Code.length : Nat) : Int) x89.N))) (some (.inr 12)) (r12_Check_L1 a0 q85 (k66 + 1))))

def r12_Check (a0 : Func) : Option Int :=
  cond (ltI 64 ((a0.Code.length : Nat) : Int)) (some 4) (Option.bind (α := Unit ⊕ Int) (Option.bind (r12_Check_L1 a0 a0.Code 0) (fun o => match o with | .inl _ => some (.inl ()) | .inr r99 => some (.inr r99))) (fun o => match o with | .inl _ => some 0 | .inr r100 => some r100))

set_option maxHeartbeats 2000000 in
theorem at_r12_Check {a0 : Func} {r : Int} (hs : r12_Check a0 = some r) : At Tryd.prog 63 [.agg (eA a0)] (iV .i64 r) := by
  refine at_bound (by kernel_rfl) fun hb => ?_
  have hb1 : LenOk (.sl a0.Code.length (encL a0.Code)) := lkc hb
  refine at_code mixed Tryd.func63 (by kernel_rfl) rfl (by kernel_rfl) rfl fun Q hQ => ?_
  rw [r12_Check] at hs
  refine goR f0 ?_
  revert hs; refine cS f0 ?_ ?_ <;> intro h1 hs
  · refine goR f0 ?_
    obtain rfl := sj hs
    exact hQ _ _ (rg f0 (Gh.refl _))
  · refine goR2 f0 ?_
    revert hs; refine bK fun o50 e49 hs => ?_
    refine awp_cutK (fun (v : Unit) (σ : St) => some (.inl v) = some o50 ∧ 3 ≤ σ.gen) (by rfl) (fun Q hK51 hX52 => ?_) (fun v σ3 hp => ?_)
    · refine goR f0 ?_
      revert e49; refine bK fun o80 e79 e49 => ?_
      refine awp_loopW (fun (v : (List Inst) × Nat) (σ : St) => r12_Check_L1 a0 v.1 v.2 = some o80 ∧ v.1 = a0.Code.drop v.2 ∧ σ.env 1 = .cell (.ref (.o 1 0 0) 0) ∧ σ.env 3 = iV .i64 ((v.2 : Nat) : Int) ∧ σ.hp (.o 1 0 0) = some (.cells (eA a0)) ∧ 3 ≤ σ.gen) (fun v => v.1.length) _ (Gh.refl _) (a0.Code, 0) ⟨e79, by simp, pv f0, pv f0, pv f0, pg⟩ fun v σ6 hp L81 hL82 => ?_
      obtain ⟨q84, k66⟩ := v
      dsimp only at hp hL82
      obtain ⟨e79, hd83, h5_1, h5_3, g5_0, n5_g⟩ := hp
      have n5_0 : ¬ (σ6.gen = 0) := by omega
      rcases q84 with _ | ⟨x89, q85⟩
      · have hlt86 := drop_end hd83
        rw [r12_Check_L1] at e79; try dsimp only at e79
        have F1 := an h5_1 (an h5_3 (an g5_0 n5_0))
        refine goR F1 ?_
        refine condK_f (by simp [ltI]; omega) ?_
        obtain rfl := sj e79
        try dsimp only at e49
        exact hK51 () _ _ (Gh.refl _) ⟨e49, pg⟩
      · obtain ⟨hx88, hlt86, hd90⟩ := drop_next hd83
        have ew87 := wrap_succ hlt86 (hb1).len
        rw [r12_Check_L1] at e79; try dsimp only at e79
        have F2 := an h5_1 (an h5_3 (an g5_0 (an n5_0 (an hlt86 ew87))))
        refine goR F2 ?_
        refine condK_t (by simp [ltI]; omega) ?_
        have f91 : partCV Tryd.prog 83 (encL a0.Code) (k66 * 8) = some (.agg (eA x89)) := partCV_enc hx88 (f := 0) (by simp)
        have F3 := an F2 f91
        refine goR F3 ?_
        revert e79; refine bK fun y92 hx93 e79 => ?_
        refine cP F3 (at_r07_Check hx93) ?_
        refine goR F3 ?_
        revert e79; refine cS F3 ?_ ?_ <;> intro h94 e79
        · refine goR F3 ?_
          obtain rfl := sj e79
          try dsimp only at e49
          obtain rfl := sj e49
          try dsimp only at hs
          refine hX52 _ _ (by simp) ?_
          refine goR F3 ?_
          obtain rfl := sj hs
          exact hQ _ _ (rg F3 (Gh.refl _))
        · have f95 : partCV Tryd.prog 81 (encL a0.Code) (k66 * 8) = some (iV .i64 x89.Op) := partCV_enc hx88 (f := 0) (by simp)
          have f97 : partCV Tryd.prog 3 (encL a0.Code) (k66 * 8 + 5) = some (iV .i64 x89.N) := partCV_enc hx88 (f := 5) (by simp)
          have F4 := an F3 (an f95 f97)
          refine goE F4 F4 ?_
          revert e79; refine cS F4 ?_ ?_ <;> intro h98 e79
          · refine goE F4 F4 ?_
            obtain rfl := sj e79
            try dsimp only at e49
            obtain rfl := sj e49
            try dsimp only at hs
            refine hX52 _ _ (by simp) ?_
            refine goE F4 F4 ?_
            obtain rfl := sj hs
            exact hQ _ _ (rg F4 (Gh.refl _))
          · refine goE F4 F4 ?_
            exact hL82 (q85, (k66 + 1)) _ _ (Gh.refl _) ⟨e79, hd90, pv F4, pv F4, pv F4, pg⟩ (by simp)
    · obtain ⟨e49, n4_g⟩ := hp
      obtain rfl := sj e49
      try dsimp only at hs
      refine goR f0 ?_
      obtain rfl := sj hs
      exact hQ _ _ (rg f0 (Gh.refl _))
end Go.Dc
end
section
set_option linter.all false
namespace Go.Dc
open Go Go.Hw Go.Proofs
set_option maxRecDepth 100000
def r12_Leaders_L1 : List Inst → (List Bool) → Nat → Option (List Bool)
  | [], l177, k178 => some (l177)
  | x214 :: q210, l177, k178 => cond (orB (eqI x214.Op 4) (eqI x214.Op 5)) (Option.bind (getI l177 x214.N) (fun x219 => Option.bind (some (l177.set ((x214.N).toNat) true)) (fun l221 => cond (orB (orB (eqI x214.Op 4) (eqI x214.Op 5)) (eqI x214.Op 7)) (Option.bind (l221[(k178 + 1)]?) (fun x225 => Option.bind (some (l221.set (k178 + 1) true)) (fun l227 => r12_Leaders_L1 q210 l227 (k178 + 1)))) (r12_Leaders_L1 q210 l221 (k178 + 1))))) (cond (orB (orB (eqI x214.Op 4) (eqI x214.Op 5)) (eqI x214.Op 7)) (Option.bind (l177[(k178 + 1)]?) (fun x231 => Option.bind (some (l177.set (k178 + 1) true)) (fun l233 => r12_Leaders_L1 q210 l233 (k178 + 1)))) (r12_Leaders_L1 q210 l177 (k178 + 1)))

def r12_Leaders_L2 (l122 : List Bool) : Nat → (List Int) → Nat → Option (List Int)
  | 0, l300, k301 => some (l300)
  | q320 + 1, l300, k301 => Option.bind (l122[k301]?) (fun x324 => cond x324 (Option.bind (some ([((k301 : Nat) : Int)])) (fun l328 => guardO (limB 8 (l300.length + l328.length)) (Option.bind (some (l300 ++ l328)) (fun l331 => r12_Leaders_L2 l122 q320 l331 (k301 + 1))))) (r12_Leaders_L2 l122 q320 l300 (k301 + 1)))

def r12_Leaders (a0 : Func) : Option ((List Int) × Int) :=
  Option.bind (r12_Check a0) (fun y1 => cond (!(eqI y1 0)) (some ([], y1)) (guardO (mkB2 1 (IntKind.i64.wrap (((a0.Code.length : Nat) : Int) + 1))) (Option.bind (some (List.replicate ((IntKind.i64.wrap (((a0.Code.length : Nat) : Int) + 1)).toNat) false)) (fun l5 => Option.bind (l5[0]?) (fun x8 => Option.bind (some (l5.set 0 true)) (fun l10 => Option.bind (α := (List Bool)) (Option.bind (r12_Leaders_L1 a0.Code l10 0) (fun l203 => some (l203))) (fun l122 => Option.bind (α := (List Int)) (Option.bind (r12_Leaders_L2 l122 a0.Code.length [] 0) (fun l313 => some (l313))) (fun l282 => some (l282, 0)))))))))

end Go.Dc
end
section
set_option linter.all false
namespace Go.Dc
open Go Go.Hw Go.Proofs
set_option maxRecDepth 100000
def r15_leaders_L1 : List Int → (List Bool) → Nat → Option (List Bool)
  | [], l88, k89 => some (l88)
  | x111 :: q107, l88, k89 => Option.bind (getI l88 x111) (fun x115 => Option.bind (some (l88.set ((x111).toNat) true)) (fun l117 => r15_leaders_L1 q107 l117 (k89 + 1)))

def r15_leaders (a0 : Func) : Option (List Bool) :=
  guardO (mkB2 1 ((a0.Code.length : Nat) : Int)) (Option.bind (some (List.replicate a0.Code.length false)) (fun l2 => Option.bind (r12_Leaders a0) (fun y5 => Option.bind (α := (List Bool)) (guardO (lenB y5.1.length) (Option.bind (r15_leaders_L1 y5.1 l2 0) (fun l100 => some (l100)))) (fun l61 => some l61))))

end Go.Dc
end
section
set_option linter.all false
namespace Go.Dc
open Go Go.Hw Go.Proofs
set_option maxRecDepth 100000

def r15_Check (a0 : Func) : Option Int :=
  Option.bind (r12_Check a0) (fun y1 => some y1)

set_option maxHeartbeats 2000000 in
theorem at_r15_Check {a0 : Func} {r : Int} (hs : r15_Check a0 = some r) : At Tryd.prog 24 [.agg (eA a0)] (iV .i64 r) := by
  refine at_bound (by kernel_rfl) fun hb => ?_
  have hb1 : LenOk (.sl a0.Code.length (encL a0.Code)) := lkc hb
  refine at_code mixed Tryd.func24 (by kernel_rfl) rfl (by kernel_rfl) rfl fun Q hQ => ?_
  rw [r15_Check] at hs
  refine goR f0 ?_
  revert hs; refine bK fun y1 hx2 hs => ?_
  refine cP f0 (at_r12_Check hx2) ?_
  refine goR f0 ?_
  obtain rfl := sj hs
  exact hQ _ _ (rg f0 (Gh.refl _))
end Go.Dc
end
section
set_option linter.all false
namespace Go.Dc.Pl
open Go Go.Hw Go.Dc
set_option maxRecDepth 100000
theorem lenB_small {n : Nat} (h : n ≤ 100) : lenB n = true := decide_eq_true (by omega)
theorem limB_small {b n : Nat} (hb : b ≤ 100) (h : n ≤ 100) : limB b n = true := decide_eq_true ⟨by omega, Nat.le_trans (Nat.mul_le_mul h hb) (by decide)⟩
section maps
variable {ν : Type} [VEnc ν]
theorem mlk_mpt (k : Int) (v : ν) (j : Int) : ∀ m : Map Int ν, mlk (mpt m k v) j = if k = j then some v else mlk m j
  | [] => by simp [mpt, mlk]
  | (a, b) :: q => by
    rw [mpt]
    by_cases e : a = k
    · subst e; rw [if_pos rfl]; by_cases f : a = j <;> simp [mlk, f]
    · rw [if_neg e, mlk, mlk_mpt k v j q]
      by_cases f : a = j
      · subst f; simp [mlk, Ne.symm e]
      · simp [mlk, f]
def uq (m : Map Int ν) : Prop := (m.map Prod.fst).Nodup
theorem mlk_none {m : Map Int ν} {k : Int} (h : k ∉ m.map Prod.fst) : mlk m k = none := by
  induction m with
  | nil => rfl
  | cons a q ih =>
    obtain ⟨a, b⟩ := a
    simp at h
    rw [mlk, if_neg (by omega)]; exact ih (by simp; exact h.2)
theorem mem_mpt (k : Int) (v : ν) (j : Int) : ∀ m : Map Int ν, j ∈ (mpt m k v).map Prod.fst ↔ j = k ∨ j ∈ m.map Prod.fst
  | [] => by simp [mpt]
  | (a, b) :: q => by
    rw [mpt]
    by_cases e : a = k
    · subst e; simp
    · rw [if_neg e, List.map_cons, List.mem_cons, mem_mpt k v j q]; simp only [List.map_cons, List.mem_cons]; constructor <;> (rintro (h | h | h) <;> simp [h])
theorem uq_mpt {k : Int} {v : ν} : ∀ {m : Map Int ν}, uq m → uq (mpt m k v)
  | [], _ => by simp [mpt, uq]
  | (a, b) :: q, h => by
    rw [mpt]
    by_cases e : a = k
    · subst e; simpa [uq] using h
    · rw [if_neg e]
      unfold uq at h ⊢
      rw [List.map_cons, List.nodup_cons] at h ⊢
      refine ⟨?_, uq_mpt h.2⟩
      rw [mem_mpt]; rintro (h1 | h1)
      · exact e h1
      · exact h.1 h1
theorem mem_mdl (k j : Int) : ∀ m : Map Int ν, j ∈ (mdl m k).map Prod.fst → j ∈ m.map Prod.fst
  | [], h => by simp [mdl] at h
  | (a, b) :: q, h => by
    rw [mdl] at h
    by_cases e : a = k
    · rw [if_pos e] at h; rw [List.map_cons]; exact List.mem_cons_of_mem _ h
    · rw [if_neg e, List.map_cons, List.mem_cons] at h
      rw [List.map_cons, List.mem_cons]
      exact h.imp id (mem_mdl k j q)
theorem uq_mdl {k : Int} : ∀ {m : Map Int ν}, uq m → uq (mdl m k)
  | [], _ => by simp [mdl, uq]
  | (a, b) :: q, h => by
    rw [mdl]
    by_cases e : a = k
    · rw [if_pos e]; unfold uq at h ⊢; rw [List.map_cons, List.nodup_cons] at h; exact h.2
    · rw [if_neg e]
      unfold uq at h ⊢
      rw [List.map_cons, List.nodup_cons] at h ⊢
      exact ⟨fun h1 => h.1 (mem_mdl _ _ _ h1), uq_mdl h.2⟩
theorem mlk_mdl (k j : Int) : ∀ {m : Map Int ν}, uq m → mlk (mdl m k) j = if k = j then none else mlk m j
  | [], _ => by simp [mdl, mlk]
  | (a, b) :: q, h => by
    unfold uq at h; rw [List.map_cons, List.nodup_cons] at h
    rw [mdl]
    by_cases e : a = k
    · subst e
      rw [if_pos rfl, mlk]
      by_cases f : a = j
      · subst f; rw [if_pos rfl]; exact mlk_none h.1
      · rw [if_neg f, if_neg f]
    · rw [if_neg e, mlk, mlk_mdl k j h.2, mlk]
      by_cases f : a = j
      · subst f; simp [Ne.symm e]
      · simp [f]
theorem mval_mpt (m : Map Int Bool) (k : Int) (v : Bool) (j : Int) (z : Bool) : mval (mpt m k v) j z = if k = j then v else mval m j z := by
  simp only [mval, mlk_mpt]; split <;> rfl
end maps

/-- What is wrong with an instruction of a function of n instructions. -/
def cT (n : Nat) (x : Inst) : Option Int := cond (!(eqI (icode x) 0)) (some (icode x)) (onlyIf (andB (orB (eqI x.Op 4) (eqI x.Op 5)) (orB (ltI x.N 0) (ltI (n : Int) x.N))) 12)
def fck (f : Func) : Int := cond (ltI 64 ((f.Code.length : Nat) : Int)) 4 ((first (fun _ => cT f.Code.length) f.Code 0).getD 0)
theorem cfg_ck (fuel : Nat) (f : Func) : cfg_check (fuel + 8) f = some (fck f) := by
  have h := srch (L := cfg_check_L1 (fuel + 8) f) (fun _ => cT f.Code.length) (fun _ => rfl) f.Code 0 fun j x _ q => by
    rw [cfg_check_L1, (check_eq fuel x).1, Option.bind_some, cT]
    cases eqI (icode x) 0
    · rfl
    · simp only [Bool.not_true, cond_false]; exact step_only _ _ _
  rw [cfg_check, h, fck]
  cases ltI 64 ((f.Code.length : Nat) : Int)
  · cases first (fun _ => cT f.Code.length) f.Code 0 <;> rfl
  · rfl
theorem r12_ck (f : Func) : r12_Check f = some (fck f) := by
  have h := srch (L := r12_Check_L1 f) (fun _ => cT f.Code.length) (fun _ => rfl) f.Code 0 fun j x _ q => by
    rw [r12_Check_L1, (check_eq 0 x).2, Option.bind_some, cT]
    cases eqI (icode x) 0
    · rfl
    · simp only [Bool.not_true, cond_false]; exact step_only _ _ _
  rw [r12_Check, h, fck]
  cases ltI 64 ((f.Code.length : Nat) : Int)
  · cases first (fun _ => cT f.Code.length) f.Code 0 <;> rfl
  · rfl
theorem r15_ck (f : Func) : r15_Check f = some (fck f) := by rw [r15_Check, r12_ck]; rfl
theorem cT_none {n : Nat} {x : Inst} : cT n x = none ↔ eqI (icode x) 0 = true ∧ (x.Op = 4 ∨ x.Op = 5 → 0 ≤ x.N ∧ x.N ≤ n) := by
  rw [cT]
  cases h : eqI (icode x) 0
  · simp
  · simp only [Bool.not_true, cond_false, onlyIf]
    rw [andB_d, orB_d, orB_d, eqI_d, eqI_d, ltI_d, ltI_d]
    cases hc : ((decide (x.Op = 4) || decide (x.Op = 5)) && (decide (x.N < 0) || decide ((n : Int) < x.N)))
    · simp at hc; simp; omega
    · simp at hc; simp; omega
theorem cT_ne {n : Nat} {x : Inst} {r : Int} (h : cT n x = some r) : r ≠ 0 := by
  rw [cT] at h
  cases e : eqI (icode x) 0
  · rw [e] at h; cases h; intro h0; rw [h0] at e; simp [eqI] at e
  · rw [e] at h
    simp only [Bool.not_true, cond_false, onlyIf] at h
    revert h; cases (andB (orB (eqI x.Op 4) (eqI x.Op 5)) (orB (ltI x.N 0) (ltI (n : Int) x.N))) <;> simp
    rintro rfl; decide
/-- The functions without errors. -/
structure Fok (f : Func) : Prop where
  len : f.Code.length ≤ 64
  ic : ∀ x ∈ f.Code, icode x = 0
  tgt : ∀ x ∈ f.Code, x.Op = 4 ∨ x.Op = 5 → 0 ≤ x.N ∧ x.N ≤ f.Code.length
theorem fck_iff {f : Func} : fck f = 0 ↔ Fok f := by
  rw [fck]
  by_cases hl : f.Code.length ≤ 64
  · rw [show ltI 64 ((f.Code.length : Nat) : Int) = false by rw [ltI_d]; simp; omega, cond_false]
    constructor
    · intro h
      have hn : first (fun _ => cT f.Code.length) f.Code 0 = none := by
        cases hf : first (fun _ => cT f.Code.length) f.Code 0 with
        | none => rfl
        | some r =>
          obtain ⟨j, x, _, hx⟩ := first_some hf
          rw [hf] at h
          exact absurd h (cT_ne hx)
      rw [first_none_iff] at hn
      refine ⟨hl, ?_, ?_⟩ <;> intro x hx <;> obtain ⟨j, hj⟩ := List.getElem?_of_mem hx <;> have := cT_none.1 (hn j x hj)
      · have := this.1; simpa [eqI] using this
      · exact this.2
    · intro h
      rw [first_none_iff.2]; rfl
      intro j x hx
      have hm := List.mem_of_getElem? hx
      exact cT_none.2 ⟨by rw [h.ic x hm]; rfl, h.tgt x hm⟩
  · rw [show ltI 64 ((f.Code.length : Nat) : Int) = true by rw [ltI_d]; simp; omega, cond_true]
    constructor
    · intro h; cases h
    · intro h; exact absurd h.len hl

/-- Whether an instruction of q (placed from k on) makes i a leader. -/
def ldq : List Inst → Nat → Nat → Bool
  | [], _, _ => false
  | x :: q, k, i => ((decide (x.Op = 4) || decide (x.Op = 5)) && decide (x.N = i)) || ((decide (x.Op = 4) || decide (x.Op = 5) || decide (x.Op = 7)) && decide (k + 1 = i)) || ldq q (k + 1) i
def lead (f : Func) (i : Nat) : Bool := decide (0 = i) || ldq f.Code 0 i
def ldL (f : Func) : List Int := ((List.range f.Code.length).filter (lead f)).map fun k : Nat => (k : Int)
theorem cfg_L1 : ∀ (q : List Inst) (k : Nat) (m : Map Int Bool), ∃ m', cfg_Leaders_L1 q k m = some m' ∧ ∀ i : Nat, mval m' i false = (mval m i false || ldq q k i)
  | [], k, m => ⟨m, rfl, fun i => by simp [ldq]⟩
  | x :: q, k, m => by
    have hk : ∀ i : Nat, (((k + 1 : Nat) : Int) = (i : Int)) ↔ k + 1 = i := fun i => by omega
    rw [cfg_Leaders_L1]
    simp only [eqI_d, cond_eq_ite, decide_eq_true_eq, Option.bind_some, ldq]
    by_cases h4 : x.Op = 4
    · rw [if_pos h4]
      obtain ⟨m', e, h⟩ := cfg_L1 q (k + 1) (mpt (mpt m x.N true) ((k + 1 : Nat) : Int) true)
      refine ⟨m', e, fun i => ?_⟩
      rw [h, mval_mpt, mval_mpt]
      simp only [hk, h4]
      by_cases a : k + 1 = i <;> by_cases b : x.N = i <;> simp [a, b]
    · rw [if_neg h4]
      by_cases h5 : x.Op = 5
      · rw [if_pos h5]
        obtain ⟨m', e, h⟩ := cfg_L1 q (k + 1) (mpt (mpt m x.N true) ((k + 1 : Nat) : Int) true)
        refine ⟨m', e, fun i => ?_⟩
        rw [h, mval_mpt, mval_mpt]
        simp only [hk, h5]
        by_cases a : k + 1 = i <;> by_cases b : x.N = i <;> simp [a, b]
      · rw [if_neg h5]
        by_cases h7 : x.Op = 7
        · rw [if_pos h7]
          obtain ⟨m', e, h⟩ := cfg_L1 q (k + 1) (mpt m ((k + 1 : Nat) : Int) true)
          refine ⟨m', e, fun i => ?_⟩
          rw [h, mval_mpt]
          simp only [hk, h7]
          by_cases a : k + 1 = i <;> simp [a]
        · rw [if_neg h7]
          obtain ⟨m', e, h⟩ := cfg_L1 q (k + 1) m
          exact ⟨m', e, fun i => by rw [h]; simp [h4, h5, h7]⟩
theorem sorted_L1 (m : Map Int Bool) : ∀ (q : Nat) (l : List Int) (k : Nat), l.length + q ≤ 64 → cfg_sorted_L1 m q l k = some (l ++ ((List.range' k q).filter fun i => mval m (i : Nat) false).map fun i : Nat => (i : Int))
  | 0, l, k, _ => by simp [cfg_sorted_L1]
  | q + 1, l, k, h => by
    rw [cfg_sorted_L1, List.range'_succ, List.filter_cons]
    cases hv : mval m ((k : Nat) : Int) false
    · rw [cond_false, sorted_L1 m q l (k + 1) (by omega)]; simp
    · rw [cond_true, Option.bind_some, Option.bind_some, limB_small (by decide) (by simp; omega), guardO_t, sorted_L1 m q _ (k + 1) (by simp; omega)]; simp
theorem cfg_sort {f : Func} (h : f.Code.length ≤ 64) (m : Map Int Bool) : cfg_sorted f m = some (((List.range f.Code.length).filter fun i => mval m (i : Nat) false).map fun i : Nat => (i : Int)) := by
  rw [cfg_sorted, sorted_L1 m _ [] 0 (by simpa using h)]
  simp [List.range_eq_range']
theorem cfg_leaders (fuel : Nat) (f : Func) : cfg_Leaders (fuel + 8) f = some (if fck f = 0 then (ldL f, 0) else ([], fck f)) := by
  rw [cfg_Leaders, cfg_ck, Option.bind_some, eqI_d]
  by_cases h : fck f = 0
  · obtain ⟨m', e, hm⟩ := cfg_L1 f.Code 0 (mpt ([] : Map Int Bool) 0 true)
    rw [Option.bind_some, e, Option.bind_some, Option.bind_some, cfg_sort (fck_iff.1 h).len]
    simp only [h, if_true]
    simp only [decide_true, Bool.not_true, cond_false, Option.bind_some]
    refine congrArg (fun l => some (l, (0 : Int))) ?_
    refine congrArg (fun p => (List.filter p (List.range f.Code.length)).map fun k : Nat => (k : Int)) (funext fun i => ?_)
    rw [hm, mval_mpt, lead]
    have : ((0 : Int) = (i : Int)) ↔ 0 = i := by omega
    simp only [this]
    by_cases a : 0 = i <;> simp [a, mval, mlk]
  · simp [h]
end Go.Dc.Pl
end
section
set_option linter.all false
namespace Go.Dc.Pl
open Go Go.Hw Go.Dc
set_option maxRecDepth 100000
theorem contains_int (l : List Int) (a : Int) : slices_Contains_int l a = some (l.any (eqI a)) := by
  have h := srch (L := slices_Index_int_L1 a) (fun k x => onlyIf (eqI a x) (k : Int)) (fun _ => rfl) l 0 fun j x hx q => by rw [slices_Index_int_L1]; exact step_only _ _ _
  have e : slices_Index_int l a = some (((first (fun k x => onlyIf (eqI a x) (k : Int)) l 0).getD (-1))) := by
    rw [slices_Index_int, h]
    cases first (fun k x => onlyIf (eqI a x) (k : Int)) l 0 <;> rfl
  rw [slices_Contains_int, e, ← first_isSome (eqI a) (fun k _ => (k : Int)) l 0, Option.bind_some]
  have := first_nonneg (eqI a) l 0
  cases h : first (fun k x => onlyIf (eqI a x) (k : Int)) l 0 with
  | none => rfl
  | some r => have := this r h; simp [ltI_d]; omega
theorem contains_ld {f : Func} {k : Nat} (h : k < f.Code.length) : slices_Contains_int (ldL f) (k : Int) = some (lead f k) := by
  rw [contains_int]
  congr 1
  rw [Bool.eq_iff_iff, List.any_eq_true]
  constructor
  · rintro ⟨x, hx, e⟩
    unfold ldL at hx
    obtain ⟨j, hj, rfl⟩ := List.mem_map.1 hx
    obtain ⟨_, hj⟩ := List.mem_filter.1 hj
    have : k = j := by simp [eqI] at e; omega
    subst this; exact hj
  · intro hl
    exact ⟨(k : Int), by unfold ldL; exact List.mem_map.2 ⟨k, List.mem_filter.2 ⟨List.mem_range.2 h, hl⟩, rfl⟩, by simp [eqI]⟩
end Go.Dc.Pl
end
section
set_option linter.all false
namespace Go.Dc
open Go Go.Hw Go.Proofs
set_option maxRecDepth 100000

def value_Wrap (a0 : Int) : Option Int :=
  some (IntKind.i64.wrap (IntKind.i32.wrap (IntKind.u32.wrap a0)))

set_option maxHeartbeats 2000000 in
theorem at_value_Wrap {a0 : Int} {r : Int} (hs : value_Wrap a0 = some r) : At Tryd.prog 180 [iV .i64 a0] (iV .i64 r) := by
  refine at_bound (by kernel_rfl) fun hb => ?_
  refine at_code mixed Tryd.func180 (by kernel_rfl) rfl (by kernel_rfl) rfl fun Q hQ => ?_
  rw [value_Wrap] at hs
  refine goR f0 ?_
  obtain rfl := sj hs
  exact hQ _ _ (rg f0 (Gh.refl _))
end Go.Dc
end
section
set_option linter.all false
namespace Go.Dc
open Go Go.Hw Go.Proofs
set_option maxRecDepth 100000

def value_truth (a0 : Bool) : Option Int :=
  cond a0 (some 1) (some 0)

set_option maxHeartbeats 2000000 in
theorem at_value_truth {a0 : Bool} {r : Int} (hs : value_truth a0 = some r) : At Tryd.prog 181 [bV a0] (iV .i64 r) := by
  refine at_bound (by kernel_rfl) fun hb => ?_
  refine at_code mixed Tryd.func181 (by kernel_rfl) rfl (by kernel_rfl) rfl fun Q hQ => ?_
  rw [value_truth] at hs
  refine goR f0 ?_
  revert hs; refine cS f0 ?_ ?_ <;> intro h1 hs
  · refine goR f0 ?_
    obtain rfl := sj hs
    exact hQ _ _ (rg f0 (Gh.refl _))
  · refine goR f0 ?_
    obtain rfl := sj hs
    exact hQ _ _ (rg f0 (Gh.refl _))
end Go.Dc
end
section
set_option linter.all false
namespace Go.Dc
open Go Go.Hw Go.Proofs
set_option maxRecDepth 100000

def value_Apply (a0 : Int) (a1 : Int) (a2 : Int) : Option (Int × Int) :=
  Option.bind (value_Wrap a1) (fun y1 => Option.bind (value_Wrap a2) (fun y3 => cond (eqI a0 1) (Option.bind (value_Wrap (IntKind.i64.wrap (y1 + y3))) (fun y6 => some (y6, 0))) (cond (eqI a0 2) (Option.bind (value_Wrap (IntKind.i64.wrap (y1 - y3))) (fun y9 => some (y9, 0))) (cond (eqI a0 3) (Option.bind (value_Wrap (IntKind.i64.wrap (y1 * y3))) (fun y12 => some (y12, 0))) (cond (eqI a0 4) (Option.bind (value_Wrap (bits .and .i64 y1 y3)) (fun y15 => some (y15, 0))) (cond (eqI a0 5) (Option.bind (value_Wrap (bits .or .i64 y1 y3)) (fun y18 => some (y18, 0))) (cond (eqI a0 6) (Option.bind (value_Wrap (bits .xor .i64 y1 y3)) (fun y21 => some (y21, 0))) (cond (eqI a0 7) (Option.bind (value_truth (eqI y1 y3)) (fun y24 => some (y24, 0))) (cond (eqI a0 8) (Option.bind (value_truth (!(eqI y1 y3))) (fun y27 => some (y27, 0))) (cond (eqI a0 9) (Option.bind (value_truth (ltI y1 y3)) (fun y30 => some (y30, 0))) (cond (eqI a0 10) (Option.bind (value_truth (!(ltI y3 y1))) (fun y33 => some (y33, 0))) (some (0, 8)))))))))))))

set_option maxHeartbeats 2000000 in
theorem at_value_Apply {a0 : Int} {a1 : Int} {a2 : Int} {r : Int × Int} (hs : value_Apply a0 a1 a2 = some r) : At Tryd.prog 149 [iV .i64 a0, iV .i64 a1, iV .i64 a2] (.tup [iV .i64 r.1, iV .i64 r.2]) := by
  refine at_bound (by kernel_rfl) fun hb => ?_
  refine at_code mixed Tryd.func149 (by kernel_rfl) rfl (by kernel_rfl) rfl fun Q hQ => ?_
  rw [value_Apply] at hs
  refine goR f0 ?_
  revert hs; refine bK fun y1 hx2 hs => ?_
  refine cP f0 (at_value_Wrap hx2) ?_
  refine goR f0 ?_
  revert hs; refine bK fun y3 hx4 hs => ?_
  refine cP f0 (at_value_Wrap hx4) ?_
  refine goR f0 ?_
  revert hs; refine cS f0 ?_ ?_ <;> intro h5 hs
  · refine goR f0 ?_
    revert hs; refine bK fun y6 hx7 hs => ?_
    refine cP f0 (at_value_Wrap hx7) ?_
    refine goR f0 ?_
    obtain rfl := sj hs
    exact hQ _ _ (rg f0 (Gh.refl _))
  · refine goR f0 ?_
    revert hs; refine cS f0 ?_ ?_ <;> intro h8 hs
    · refine goR f0 ?_
      revert hs; refine bK fun y9 hx10 hs => ?_
      refine cP f0 (at_value_Wrap hx10) ?_
      refine goR f0 ?_
      obtain rfl := sj hs
      exact hQ _ _ (rg f0 (Gh.refl _))
    · refine goR f0 ?_
      revert hs; refine cS f0 ?_ ?_ <;> intro h11 hs
      · refine goR f0 ?_
        revert hs; refine bK fun y12 hx13 hs => ?_
        refine cP f0 (at_value_Wrap hx13) ?_
        refine goR f0 ?_
        obtain rfl := sj hs
        exact hQ _ _ (rg f0 (Gh.refl _))
      · refine goR f0 ?_
        revert hs; refine cS f0 ?_ ?_ <;> intro h14 hs
        · refine goR f0 ?_
          revert hs; refine bK fun y15 hx16 hs => ?_
          refine cP f0 (at_value_Wrap hx16) ?_
          refine goR f0 ?_
          obtain rfl := sj hs
          exact hQ _ _ (rg f0 (Gh.refl _))
        · refine goR f0 ?_
          revert hs; refine cS f0 ?_ ?_ <;> intro h17 hs
          · refine goR f0 ?_
            revert hs; refine bK fun y18 hx19 hs => ?_
            refine cP f0 (at_value_Wrap hx19) ?_
            refine goR f0 ?_
            obtain rfl := sj hs
            exact hQ _ _ (rg f0 (Gh.refl _))
          · refine goR f0 ?_
            revert hs; refine cS f0 ?_ ?_ <;> intro h20 hs
            · refine goR f0 ?_
              revert hs; refine bK fun y21 hx22 hs => ?_
              refine cP f0 (at_value_Wrap hx22) ?_
              refine goR f0 ?_
              obtain rfl := sj hs
              exact hQ _ _ (rg f0 (Gh.refl _))
            · refine goR f0 ?_
              revert hs; refine cS f0 ?_ ?_ <;> intro h23 hs
              · refine goR f0 ?_
                revert hs; refine bK fun y24 hx25 hs => ?_
                refine cP f0 (at_value_truth hx25) ?_
                refine goR f0 ?_
                obtain rfl := sj hs
                exact hQ _ _ (rg f0 (Gh.refl _))
              · refine goR f0 ?_
                revert hs; refine cS f0 ?_ ?_ <;> intro h26 hs
                · refine goR f0 ?_
                  revert hs; refine bK fun y27 hx28 hs => ?_
                  refine cP f0 (at_value_truth hx28) ?_
                  refine goR f0 ?_
                  obtain rfl := sj hs
                  exact hQ _ _ (rg f0 (Gh.refl _))
                · refine goR f0 ?_
                  revert hs; refine cS f0 ?_ ?_ <;> intro h29 hs
                  · refine goR f0 ?_
                    revert hs; refine bK fun y30 hx31 hs => ?_
                    refine cP f0 (at_value_truth hx31) ?_
                    refine goR f0 ?_
                    obtain rfl := sj hs
                    exact hQ _ _ (rg f0 (Gh.refl _))
                  · refine goR f0 ?_
                    revert hs; refine cS f0 ?_ ?_ <;> intro h32 hs
                    · refine goR f0 ?_
                      revert hs; refine bK fun y33 hx34 hs => ?_
                      refine cP f0 (at_value_truth hx34) ?_
                      refine goR f0 ?_
                      obtain rfl := sj hs
                      exact hQ _ _ (rg f0 (Gh.refl _))
                    · refine goR f0 ?_
                      obtain rfl := sj hs
                      exact hQ _ _ (rg f0 (Gh.refl _))
end Go.Dc
end
section
set_option linter.all false
namespace Go.Dc
open Go Go.Hw Go.Proofs
set_option maxRecDepth 100000

def r01_Wrap (a0 : Int) : Option Int :=
  cond (ltI (Int.tmod a0 4294967296) 0) (cond (ltI 2147483647 (IntKind.i64.wrap (Int.tmod a0 4294967296 + 4294967296))) (some (IntKind.i64.wrap (IntKind.i64.wrap (Int.tmod a0 4294967296 + 4294967296) - 4294967296))) (some (IntKind.i64.wrap (Int.tmod a0 4294967296 + 4294967296)))) (cond (ltI 2147483647 (Int.tmod a0 4294967296)) (some (IntKind.i64.wrap (Int.tmod a0 4294967296 - 4294967296))) (some (Int.tmod a0 4294967296)))

set_option maxHeartbeats 2000000 in
theorem at_r01_Wrap {a0 : Int} {r : Int} (hs : r01_Wrap a0 = some r) : At Tryd.prog 23 [iV .i64 a0] (iV .i64 r) := by
  refine at_bound (by kernel_rfl) fun hb => ?_
  refine at_code mixed Tryd.func23 (by kernel_rfl) rfl (by kernel_rfl) rfl fun Q hQ => ?_
  rw [r01_Wrap] at hs
  refine goR f0 ?_
  revert hs; refine cS f0 ?_ ?_ <;> intro h1 hs
  · refine goR f0 ?_
    revert hs; refine cS f0 ?_ ?_ <;> intro h2 hs
    · refine goR f0 ?_
      obtain rfl := sj hs
      exact hQ _ _ (rg f0 (Gh.refl _))
    · refine goR f0 ?_
      obtain rfl := sj hs
      exact hQ _ _ (rg f0 (Gh.refl _))
  · refine goR f0 ?_
    revert hs; refine cS f0 ?_ ?_ <;> intro h3 hs
    · refine goR f0 ?_
      obtain rfl := sj hs
      exact hQ _ _ (rg f0 (Gh.refl _))
    · refine goR f0 ?_
      obtain rfl := sj hs
      exact hQ _ _ (rg f0 (Gh.refl _))
end Go.Dc
end
section
set_option linter.all false
namespace Go.Dc
open Go Go.Hw Go.Proofs
set_option maxRecDepth 100000
def r01_bits_L1 (a2 : Arr 4 Int) : Nat → Int → Int → Int → Int → Int → Option Int
  | 0, _, _, _, _, _ => none
  | q79 + 1, i62, i63, i65, i66, i67 => cond (ltI i67 32) (guardO (inB (IntKind.i64.wrap (IntKind.i64.wrap (2 * Int.tmod i62 2) + Int.tmod i63 2)) 4) (r01_bits_L1 a2 q79 (IntKind.i64.wrap (Int.tdiv i62 2)) (IntKind.i64.wrap (Int.tdiv i63 2)) (IntKind.i64.wrap (i65 + IntKind.i64.wrap (i66 * (a2.f ((IntKind.i64.wrap (IntKind.i64.wrap (2 * Int.tmod i62 2) + Int.tmod i63 2)).toNat))))) (IntKind.i64.wrap (2 * i66)) (IntKind.i64.wrap (i67 + 1)))) (some (i65))

def r01_bits (fuelN : Nat) (a0 : Int) (a1 : Int) (a2 : Arr 4 Int) : Option Int :=
  Option.bind (α := Int) (cond (ltI a0 0) (some (IntKind.i64.wrap (a0 + 4294967296))) (some (a0))) (fun i2 => Option.bind (α := Int) (cond (ltI a1 0) (some (IntKind.i64.wrap (a1 + 4294967296))) (some (a1))) (fun i9 => Option.bind (α := Int) (Option.bind (r01_bits_L1 a2 fuelN i2 i9 0 1 0) (fun i72 => some (i72))) (fun i48 => Option.bind (r01_Wrap i48) (fun y86 => some y86))))

set_option maxHeartbeats 2000000 in
theorem at_r01_bits {fuelN : Nat} {a0 : Int} {a1 : Int} {a2 : Arr 4 Int} {r : Int} (hs : r01_bits fuelN a0 a1 a2 = some r) : At Tryd.prog 150 [iV .i64 a0, iV .i64 a1, .agg [nC (a2.f 0), nC (a2.f 1), nC (a2.f 2), nC (a2.f 3)]] (iV .i64 r) := by
  refine at_bound (by kernel_rfl) fun hb => ?_
  refine at_code mixed Tryd.func150 (by kernel_rfl) rfl (by kernel_rfl) rfl fun Q hQ => ?_
  rw [r01_bits] at hs
  refine goR2 f0 ?_
  revert hs; refine bK fun o4 e3 hs => ?_
  refine awp_cutK (fun (v : Int) (σ : St) => some (v) = some o4 ∧ σ.env 0 = iV .i64 v ∧ σ.env 1 = iV .i64 a1 ∧ σ.env 5 = .cell (.ref (.o 1 0 0) 0) ∧ σ.hp (.o 1 0 0) = some (.cells [nC (a2.f 0), nC (a2.f 1), nC (a2.f 2), nC (a2.f 3)]) ∧ 2 ≤ σ.gen) (by rfl) (fun Q hK5 hX6 => ?_) (fun i2 σ1 hp => ?_)
  · refine goR f0 ?_
    revert e3; refine cS f0 ?_ ?_ <;> intro h7 e3
    · refine goR f0 ?_
      exact hK5 (IntKind.i64.wrap (a0 + 4294967296)) _ _ (Gh.refl _) ⟨e3, pv f0, pv f0, pv f0, pv f0, pg⟩
    · refine goR f0 ?_
      exact hK5 a0 _ _ (Gh.refl _) ⟨e3, pv f0, pv f0, pv f0, pv f0, pg⟩
  · obtain ⟨e3, h2_0, h2_1, h2_5, g2_0, n2_g⟩ := hp
    obtain rfl := sj e3
    try dsimp only at hs
    have n2_0 : ¬ (σ1.gen = 0) := by omega
    have F1 := an h2_0 (an h2_1 (an h2_5 (an g2_0 n2_0)))
    refine goR2 F1 ?_
    revert hs; refine bK fun o11 e10 hs => ?_
    refine awp_cutK (fun (v : Int) (σ : St) => some (v) = some o11 ∧ σ.env 0 = iV .i64 i2 ∧ σ.env 1 = iV .i64 v ∧ σ.env 5 = .cell (.ref (.o 1 0 0) 0) ∧ σ.hp (.o 1 0 0) = some (.cells [nC (a2.f 0), nC (a2.f 1), nC (a2.f 2), nC (a2.f 3)]) ∧ (σ1.gen + 1) ≤ σ.gen) (by rfl) (fun Q hK12 hX13 => ?_) (fun i9 σ3 hp => ?_)
    · refine goR F1 ?_
      revert e10; refine cS F1 ?_ ?_ <;> intro h14 e10
      · refine goR F1 ?_
        exact hK12 (IntKind.i64.wrap (a1 + 4294967296)) _ _ (Gh.refl _) ⟨e10, pv F1, pv F1, pv F1, pv F1, pg⟩
      · refine goR F1 ?_
        exact hK12 a1 _ _ (Gh.refl _) ⟨e10, pv F1, pv F1, pv F1, pv F1, pg⟩
    · obtain ⟨e10, h4_0, h4_1, h4_5, g4_0, n4_g⟩ := hp
      obtain rfl := sj e10
      try dsimp only at hs
      have n4_0 : ¬ (σ3.gen = 0) := by omega
      have F2 := an h4_0 (an h4_1 (an h4_5 (an g4_0 n4_0)))
      refine goR2 F2 ?_
      revert hs; refine bK fun o50 e49 hs => ?_
      refine awp_cutK (fun (v : Int) (σ : St) => some (v) = some o50 ∧ σ.env 7 = iV .i64 v ∧ (σ3.gen + 3) ≤ σ.gen) (by rfl) (fun Q hK51 hX52 => ?_) (fun i48 σ7 hp => ?_)
      · refine goR F2 ?_
        revert e49; refine bK fun o74 e73 e49 => ?_
        refine awp_loopW (fun (v : Nat × Int × Int × Int × Int × Int) (σ : St) => r01_bits_L1 a2 v.1 v.2.1 v.2.2.1 v.2.2.2.1 v.2.2.2.2.1 v.2.2.2.2.2 = some o74 ∧ σ.env 0 = iV .i64 v.2.1 ∧ σ.env 1 = iV .i64 v.2.2.1 ∧ σ.env 5 = .cell (.ref (.o 1 0 0) 0) ∧ σ.env 7 = iV .i64 v.2.2.2.1 ∧ σ.env 8 = iV .i64 v.2.2.2.2.1 ∧ σ.env 9 = iV .i64 v.2.2.2.2.2 ∧ σ.hp (.o 1 0 0) = some (.cells [nC (a2.f 0), nC (a2.f 1), nC (a2.f 2), nC (a2.f 3)]) ∧ (σ3.gen + 3) ≤ σ.gen) (fun v => v.1) _ (Gh.refl _) (fuelN, i2, i9, 0, 1, 0) ⟨e73, pv F2, pv F2, pv F2, pv F2, pv F2, pv F2, pv F2, pg⟩ fun v σ10 hp L75 hL76 => ?_
        obtain ⟨q78, i62, i63, i65, i66, i67⟩ := v
        dsimp only at hp hL76
        obtain ⟨e73, h9_0, h9_1, h9_5, h9_7, h9_8, h9_9, g9_0, n9_g⟩ := hp
        have n9_0 : ¬ (σ10.gen = 0) := by omega
        rcases q78 with _ | q79
        · rw [r01_bits_L1] at e73; cases e73
        · rw [r01_bits_L1] at e73; try dsimp only at e73
          have F3 := an h9_0 (an h9_1 (an h9_5 (an h9_7 (an h9_8 (an h9_9 (an g9_0 n9_0))))))
          refine goR F3 ?_
          revert e73; refine cS F3 ?_ ?_ <;> intro h83 e73
          · obtain ⟨g84, e73⟩ := guardO_some e73
            have g84a : 0 ≤ IntKind.i64.wrap (IntKind.i64.wrap (2 * Int.tmod i62 2) + Int.tmod i63 2) := (inB_t g84).1
            have g84b : IntKind.i64.wrap (IntKind.i64.wrap (2 * Int.tmod i62 2) + Int.tmod i63 2) < 4 := (inB_t g84).2.1
            have g84n : (IntKind.i64.wrap (IntKind.i64.wrap (2 * Int.tmod i62 2) + Int.tmod i63 2)).toNat < 4 :=  by simpa using (inB_t g84).2.2
            have f85 : ([nC (a2.f 0), nC (a2.f 1), nC (a2.f 2), nC (a2.f 3)] : List AC)[(IntKind.i64.wrap (IntKind.i64.wrap (2 * Int.tmod i62 2) + Int.tmod i63 2)).toNat]? = some (nC (a2.f ((IntKind.i64.wrap (IntKind.i64.wrap (2 * Int.tmod i62 2) + Int.tmod i63 2)).toNat))) := arr_read (n := 4) (fun j => (nC (a2.f j) : AC)) g84n
            have f85t := take_one f85
            have f85g := get_of f85
            have F4 := an F3 (an g84a (an g84b (an g84n (an f85 (an f85t f85g)))))
            refine goR F4 ?_
            exact hL76 (q79, IntKind.i64.wrap (Int.tdiv i62 2), IntKind.i64.wrap (Int.tdiv i63 2), IntKind.i64.wrap (i65 + IntKind.i64.wrap (i66 * (a2.f ((IntKind.i64.wrap (IntKind.i64.wrap (2 * Int.tmod i62 2) + Int.tmod i63 2)).toNat)))), IntKind.i64.wrap (2 * i66), IntKind.i64.wrap (i67 + 1)) _ _ (Gh.refl _) ⟨e73, pv F4, pv F4, pv F4, pv F4, pv F4, pv F4, pv F4, pg⟩ (by omega)
          · refine goR F3 ?_
            obtain rfl := sj e73
            try dsimp only at e49
            exact hK51 i65 _ _ (Gh.refl _) ⟨e49, pv F3, pg⟩
      · obtain ⟨e49, h8_7, n8_g⟩ := hp
        obtain rfl := sj e49
        try dsimp only at hs
        refine goR h8_7 ?_
        revert hs; refine bK fun y86 hx87 hs => ?_
        refine cP h8_7 (at_r01_Wrap hx87) ?_
        refine goR h8_7 ?_
        obtain rfl := sj hs
        exact hQ _ _ (rg h8_7 (Gh.refl _))
end Go.Dc
end
section
set_option linter.all false
namespace Go.Dc
open Go Go.Hw Go.Proofs
set_option maxRecDepth 100000

def r01_truth (a0 : Bool) : Option Int :=
  cond a0 (some 1) (some 0)

set_option maxHeartbeats 2000000 in
theorem at_r01_truth {a0 : Bool} {r : Int} (hs : r01_truth a0 = some r) : At Tryd.prog 151 [bV a0] (iV .i64 r) := by
  refine at_bound (by kernel_rfl) fun hb => ?_
  refine at_code mixed Tryd.func151 (by kernel_rfl) rfl (by kernel_rfl) rfl fun Q hQ => ?_
  rw [r01_truth] at hs
  refine goR f0 ?_
  revert hs; refine cS f0 ?_ ?_ <;> intro h1 hs
  · refine goR f0 ?_
    obtain rfl := sj hs
    exact hQ _ _ (rg f0 (Gh.refl _))
  · refine goR f0 ?_
    obtain rfl := sj hs
    exact hQ _ _ (rg f0 (Gh.refl _))
end Go.Dc
end
section
set_option linter.all false
namespace Go.Dc
open Go Go.Hw Go.Proofs
set_option maxRecDepth 100000

def r01_Apply (fuelN : Nat) (a0 : Int) (a1 : Int) (a2 : Int) : Option (Int × Int) :=
  Option.bind (r01_Wrap a1) (fun y1 => Option.bind (r01_Wrap a2) (fun y3 => cond (eqI a0 1) (Option.bind (r01_Wrap (IntKind.i64.wrap (y1 + y3))) (fun y6 => some (y6, 0))) (cond (eqI a0 2) (Option.bind (r01_Wrap (IntKind.i64.wrap (y1 - y3))) (fun y9 => some (y9, 0))) (cond (eqI a0 3) (Option.bind (r01_Wrap (IntKind.i64.wrap (y1 * y3))) (fun y12 => some (y12, 0))) (cond (eqI a0 4) (Option.bind (r01_bits fuelN y1 y3 (Arr.of 4 [0, 0, 0, 1])) (fun y15 => some (y15, 0))) (cond (eqI a0 5) (Option.bind (r01_bits fuelN y1 y3 (Arr.of 4 [0, 1, 1, 1])) (fun y18 => some (y18, 0))) (cond (eqI a0 6) (Option.bind (r01_bits fuelN y1 y3 (Arr.of 4 [0, 1, 1, 0])) (fun y21 => some (y21, 0))) (cond (eqI a0 7) (Option.bind (r01_truth (eqI y1 y3)) (fun y24 => some (y24, 0))) (cond (eqI a0 8) (Option.bind (r01_truth (!(eqI y1 y3))) (fun y27 => some (y27, 0))) (cond (eqI a0 9) (Option.bind (r01_truth (ltI y1 y3)) (fun y30 => some (y30, 0))) (cond (eqI a0 10) (Option.bind (r01_truth (!(ltI y3 y1))) (fun y33 => some (y33, 0))) (some (0, 8)))))))))))))

set_option maxHeartbeats 2000000 in
theorem at_r01_Apply {fuelN : Nat} {a0 : Int} {a1 : Int} {a2 : Int} {r : Int × Int} (hs : r01_Apply fuelN a0 a1 a2 = some r) : At Tryd.prog 112 [iV .i64 a0, iV .i64 a1, iV .i64 a2] (.tup [iV .i64 r.1, iV .i64 r.2]) := by
  refine at_bound (by kernel_rfl) fun hb => ?_
  refine at_code mixed Tryd.func112 (by kernel_rfl) rfl (by kernel_rfl) rfl fun Q hQ => ?_
  rw [r01_Apply] at hs
  refine goR f0 ?_
  revert hs; refine bK fun y1 hx2 hs => ?_
  refine cP f0 (at_r01_Wrap hx2) ?_
  refine goR f0 ?_
  revert hs; refine bK fun y3 hx4 hs => ?_
  refine cP f0 (at_r01_Wrap hx4) ?_
  refine goR f0 ?_
  revert hs; refine cS f0 ?_ ?_ <;> intro h5 hs
  · refine goR f0 ?_
    revert hs; refine bK fun y6 hx7 hs => ?_
    refine cP f0 (at_r01_Wrap hx7) ?_
    refine goR f0 ?_
    obtain rfl := sj hs
    exact hQ _ _ (rg f0 (Gh.refl _))
  · refine goR f0 ?_
    revert hs; refine cS f0 ?_ ?_ <;> intro h8 hs
    · refine goR f0 ?_
      revert hs; refine bK fun y9 hx10 hs => ?_
      refine cP f0 (at_r01_Wrap hx10) ?_
      refine goR f0 ?_
      obtain rfl := sj hs
      exact hQ _ _ (rg f0 (Gh.refl _))
    · refine goR f0 ?_
      revert hs; refine cS f0 ?_ ?_ <;> intro h11 hs
      · refine goR f0 ?_
        revert hs; refine bK fun y12 hx13 hs => ?_
        refine cP f0 (at_r01_Wrap hx13) ?_
        refine goR f0 ?_
        obtain rfl := sj hs
        exact hQ _ _ (rg f0 (Gh.refl _))
      · refine goR f0 ?_
        revert hs; refine cS f0 ?_ ?_ <;> intro h14 hs
        · refine goR f0 ?_
          revert hs; refine bK fun y15 hx16 hs => ?_
          refine cP f0 (at_r01_bits hx16) ?_
          refine goR f0 ?_
          obtain rfl := sj hs
          exact hQ _ _ (rg f0 (Gh.refl _))
        · refine goR f0 ?_
          revert hs; refine cS f0 ?_ ?_ <;> intro h17 hs
          · refine goR f0 ?_
            revert hs; refine bK fun y18 hx19 hs => ?_
            refine cP f0 (at_r01_bits hx19) ?_
            refine goR f0 ?_
            obtain rfl := sj hs
            exact hQ _ _ (rg f0 (Gh.refl _))
          · refine goR f0 ?_
            revert hs; refine cS f0 ?_ ?_ <;> intro h20 hs
            · refine goR f0 ?_
              revert hs; refine bK fun y21 hx22 hs => ?_
              refine cP f0 (at_r01_bits hx22) ?_
              refine goR f0 ?_
              obtain rfl := sj hs
              exact hQ _ _ (rg f0 (Gh.refl _))
            · refine goR f0 ?_
              revert hs; refine cS f0 ?_ ?_ <;> intro h23 hs
              · refine goR f0 ?_
                revert hs; refine bK fun y24 hx25 hs => ?_
                refine cP f0 (at_r01_truth hx25) ?_
                refine goR f0 ?_
                obtain rfl := sj hs
                exact hQ _ _ (rg f0 (Gh.refl _))
              · refine goR f0 ?_
                revert hs; refine cS f0 ?_ ?_ <;> intro h26 hs
                · refine goR f0 ?_
                  revert hs; refine bK fun y27 hx28 hs => ?_
                  refine cP f0 (at_r01_truth hx28) ?_
                  refine goR f0 ?_
                  obtain rfl := sj hs
                  exact hQ _ _ (rg f0 (Gh.refl _))
                · refine goR f0 ?_
                  revert hs; refine cS f0 ?_ ?_ <;> intro h29 hs
                  · refine goR f0 ?_
                    revert hs; refine bK fun y30 hx31 hs => ?_
                    refine cP f0 (at_r01_truth hx31) ?_
                    refine goR f0 ?_
                    obtain rfl := sj hs
                    exact hQ _ _ (rg f0 (Gh.refl _))
                  · refine goR f0 ?_
                    revert hs; refine cS f0 ?_ ?_ <;> intro h32 hs
                    · refine goR f0 ?_
                      revert hs; refine bK fun y33 hx34 hs => ?_
                      refine cP f0 (at_r01_truth hx34) ?_
                      refine goR f0 ?_
                      obtain rfl := sj hs
                      exact hQ _ _ (rg f0 (Gh.refl _))
                    · refine goR f0 ?_
                      obtain rfl := sj hs
                      exact hQ _ _ (rg f0 (Gh.refl _))
end Go.Dc
end
section
set_option linter.all false
namespace Go.Dc.Pl
open Go Go.Hw Go.Dc
set_option maxRecDepth 100000
def w32 (a : Int) : Int := (a + 2147483648) % 4294967296 - 2147483648
theorem w32_lo (a : Int) : -2147483648 ≤ w32 a ∧ w32 a ≤ 2147483647 := by unfold w32; omega
theorem own_wrap (a : Int) : value_Wrap a = some (w32 a) := by
  rw [value_Wrap, IntKind.wrap_u32, IntKind.wrap_i32, IntKind.wrap_i64, w32]
  congr 1; omega
theorem ref_wrap (a : Int) : r01_Wrap a = some (w32 a) := by
  have ht : Int.tmod a 4294967296 = if 0 ≤ a then a % 4294967296 else -((-a) % 4294967296) := by
    split
    · exact Int.tmod_eq_emod_of_nonneg ‹_›
    · rw [show a = -(-a) by omega, Int.neg_tmod, Int.tmod_eq_emod_of_nonneg (by omega)]; simp
  rw [r01_Wrap, ht, w32]
  simp only [ltI_d, cond_eq_ite, decide_eq_true_eq, IntKind.wrap_i64]
  split <;> split <;> (try split) <;> congr 1 <;> omega
theorem own_truth (b : Bool) : value_truth b = some (cond b 1 0) := by cases b <;> rfl
theorem ref_truth (b : Bool) : r01_truth b = some (cond b 1 0) := by cases b <;> rfl
theorem bits_L1 (t : Arr 4 Int) (op : Nat → Nat → Nat) (h0 : op 0 0 = 0) (hop : ∀ x y, op x y = 2 * op (x / 2) (y / 2) + op (x % 2) (y % 2)) (hb : ∀ x y, x < 2 → y < 2 → op x y < 2 ∧ t.f (2 * x + y) = (op x y : Nat)) :
    ∀ (r q x y acc i : Nat), r < q → r + i = 32 → x < 2 ^ r → y < 2 ^ r → acc < 2 ^ i → r01_bits_L1 t q (x : Int) (y : Int) (acc : Int) ((2 ^ i : Nat) : Int) (i : Int) = some ((acc + 2 ^ i * op x y : Nat) : Int)
  | r, 0, x, y, acc, i, hq, _, _, _, _ => absurd hq (by omega)
  | 0, q + 1, x, y, acc, i, hq, hi, hx, hy, ha => by
    rw [r01_bits_L1, ltI_d, show decide ((i : Int) < 32) = false by simp; omega, cond_false]
    have : x = 0 := by simpa using hx
    have : y = 0 := by simpa using hy
    subst x y; rw [h0]; simp
  | r + 1, q + 1, x, y, acc, i, hq, hi, hx, hy, ha => by
    have hp : (2 : Nat) ^ i ≤ 2 ^ 31 := Nat.pow_le_pow_right (by decide) (by omega)
    have hp' : (2 : Nat) ^ 31 = 2147483648 := by decide
    have hm := hb (x % 2) (y % 2) (by omega) (by omega)
    have hs : (2 : Nat) ^ (i + 1) = 2 * 2 ^ i := by rw [Nat.pow_succ]; omega
    have hr : (2 : Nat) ^ (r + 1) = 2 * 2 ^ r := by rw [Nat.pow_succ]; omega
    have e1 : IntKind.i64.wrap (2 * Int.tmod (x : Int) 2) = ((2 * (x % 2) : Nat) : Int) := by
      rw [Int.tmod_eq_emod_of_nonneg (by omega), IntKind.wrap_i64]; omega
    have e2 : IntKind.i64.wrap (((2 * (x % 2) : Nat) : Int) + Int.tmod (y : Int) 2) = ((2 * (x % 2) + y % 2 : Nat) : Int) := by
      rw [Int.tmod_eq_emod_of_nonneg (by omega), IntKind.wrap_i64]; omega
    have e3 : ∀ z : Nat, z < 2 ^ (r + 1) → IntKind.i64.wrap (Int.tdiv (z : Int) 2) = ((z / 2 : Nat) : Int) := fun z hz => by
      have : (2 : Nat) ^ (r + 1) ≤ 2 ^ 32 := Nat.pow_le_pow_right (by decide) (by omega)
      have h32 : (2 : Nat) ^ 32 = 4294967296 := by decide
      rw [Int.tdiv_eq_ediv_of_nonneg (by omega), IntKind.wrap_i64]; omega
    generalize hu : op (x % 2) (y % 2) = u at hm
    have hpu : 2 ^ i * u ≤ 2 ^ i := by
      have : u ≤ 1 := by omega
      calc 2 ^ i * u ≤ 2 ^ i * 1 := Nat.mul_le_mul_left _ this
        _ = 2 ^ i := Nat.mul_one _
    have e4 : IntKind.i64.wrap (((2 ^ i : Nat) : Int) * (u : Int)) = ((2 ^ i * u : Nat) : Int) := by
      rw [← Int.natCast_mul, IntKind.wrap_i64]; generalize 2 ^ i * u = w at *; omega
    have e5 : IntKind.i64.wrap ((acc : Int) + ((2 ^ i * u : Nat) : Int)) = ((acc + 2 ^ i * u : Nat) : Int) := by
      rw [← Int.natCast_add, IntKind.wrap_i64]; generalize 2 ^ i * u = w at *; omega
    have e6 : IntKind.i64.wrap (2 * ((2 ^ i : Nat) : Int)) = ((2 ^ (i + 1) : Nat) : Int) := by
      rw [hs, IntKind.wrap_i64]; generalize 2 ^ i = w at *; omega
    rw [r01_bits_L1, ltI_d, show decide ((i : Int) < 32) = true by simp; omega, cond_true, e1, e2, e3 x hx, e3 y hy, e6, Int.toNat_natCast, hm.2, e4, e5, wrapS (by omega), show inB ((2 * (x % 2) + y % 2 : Nat) : Int) 4 = true by simp [inB_d]; omega, guardO_t,
      bits_L1 t op h0 hop hb r q (x / 2) (y / 2) _ (i + 1) (by omega) (by omega) (by omega) (by omega) (by rw [hs]; generalize 2 ^ i * u = w at *; generalize 2 ^ i = v at *; omega)]
    rw [hop x y, hu, hs]
    congr 2
    rw [Nat.mul_add, Nat.mul_assoc 2, Nat.mul_left_comm, Nat.mul_comm 2]; omega
theorem u32_of {a : Int} (h1 : -2147483648 ≤ a) (h2 : a ≤ 2147483647) : ∃ x : Nat, x < 2 ^ 32 ∧ (a % 4294967296) = x ∧ (cond (ltI a 0) (some (IntKind.i64.wrap (a + 4294967296))) (some a) : Option Int) = some (x : Int) := by
  refine ⟨(a % 4294967296).toNat, by omega, by omega, ?_⟩
  rw [ltI_d, cond_eq_ite]
  split
  · rename_i h; simp at h; rw [IntKind.wrap_i64]; congr 1; omega
  · rename_i h; simp at h; congr 1; omega
theorem ref_bits (fuel : Nat) (t : Arr 4 Int) (op : Nat → Nat → Nat) (h0 : op 0 0 = 0) (hop : ∀ x y, op x y = 2 * op (x / 2) (y / 2) + op (x % 2) (y % 2)) (hb : ∀ x y, x < 2 → y < 2 → op x y < 2 ∧ t.f (2 * x + y) = (op x y : Nat))
    {a b : Int} (a1 : -2147483648 ≤ a) (a2 : a ≤ 2147483647) (b1 : -2147483648 ≤ b) (b2 : b ≤ 2147483647) : r01_bits (fuel + 40) a b t = some (w32 ((op (a % 4294967296).toNat (b % 4294967296).toNat : Nat) : Int)) := by
  obtain ⟨x, hx, ex, cx⟩ := u32_of a1 a2
  obtain ⟨y, hy, ey, cy⟩ := u32_of b1 b2
  rw [r01_bits, cx, Option.bind_some, cy, Option.bind_some]
  have := bits_L1 t op h0 hop hb 32 (fuel + 40) x y 0 0 (by omega) (by omega) hx hy (by decide)
  rw [show ((0 : Nat) : Int) = 0 from rfl, show (((2 ^ 0 : Nat)) : Int) = 1 from rfl] at this
  rw [this, Option.bind_some, Option.bind_some, ref_wrap, Option.bind_some, ex, ey]
  simp
theorem ofInt64 (a : Int) : (BitVec.ofInt 64 a).toNat = (a % 18446744073709551616).toNat := by simp [BitVec.toNat_ofInt]
theorem w32_mod {z z' : Nat} (h : z % 4294967296 = z') : w32 (IntKind.i64.wrap (z : Int)) = w32 (z' : Int) := by
  subst h
  rw [IntKind.wrap_i64]
  unfold w32
  omega
theorem m32 {a : Int} : (a % 18446744073709551616).toNat % 4294967296 = (a % 4294967296).toNat := by omega
theorem and_own (a b : Int) : w32 (bits .and .i64 a b) = w32 (((a % 4294967296).toNat &&& (b % 4294967296).toNat : Nat) : Int) := by
  rw [show bits .and .i64 a b = IntKind.i64.wrap (((BitVec.ofInt 64 a) &&& (BitVec.ofInt 64 b)).toNat : Nat) from rfl, BitVec.toNat_and, ofInt64, ofInt64]
  refine w32_mod ?_
  have h := @Nat.and_mod_two_pow (a % 18446744073709551616).toNat (b % 18446744073709551616).toNat 32
  rw [show (2 : Nat) ^ 32 = 4294967296 from by decide, m32, m32] at h
  exact h
theorem or_own (a b : Int) : w32 (bits .or .i64 a b) = w32 (((a % 4294967296).toNat ||| (b % 4294967296).toNat : Nat) : Int) := by
  rw [show bits .or .i64 a b = IntKind.i64.wrap (((BitVec.ofInt 64 a) ||| (BitVec.ofInt 64 b)).toNat : Nat) from rfl, BitVec.toNat_or, ofInt64, ofInt64]
  refine w32_mod ?_
  have h := @Nat.or_mod_two_pow (a % 18446744073709551616).toNat (b % 18446744073709551616).toNat 32
  rw [show (2 : Nat) ^ 32 = 4294967296 from by decide, m32, m32] at h
  exact h
theorem xor_own (a b : Int) : w32 (bits .xor .i64 a b) = w32 (((a % 4294967296).toNat ^^^ (b % 4294967296).toNat : Nat) : Int) := by
  rw [show bits .xor .i64 a b = IntKind.i64.wrap (((BitVec.ofInt 64 a) ^^^ (BitVec.ofInt 64 b)).toNat : Nat) from rfl, BitVec.toNat_xor, ofInt64, ofInt64]
  refine w32_mod ?_
  have h := @Nat.xor_mod_two_pow (a % 18446744073709551616).toNat (b % 18446744073709551616).toNat 32
  rw [show (2 : Nat) ^ 32 = 4294967296 from by decide, m32, m32] at h
  exact h
theorem two_of {P : Nat → Nat → Prop} (h : P 0 0 ∧ P 0 1 ∧ P 1 0 ∧ P 1 1) : ∀ x y, x < 2 → y < 2 → P x y := by
  intro x y hx hy
  rcases (by omega : x = 0 ∨ x = 1) with rfl | rfl <;> rcases (by omega : y = 0 ∨ y = 1) with rfl | rfl
  · exact h.1
  · exact h.2.1
  · exact h.2.2.1
  · exact h.2.2.2
theorem hop_of (op : Nat → Nat → Nat) (f : Bool → Bool → Bool) (hl : ∀ x y, x < 2 → y < 2 → op x y < 2) (h : ∀ x y i, (op x y).testBit i = f (x.testBit i) (y.testBit i)) (x y : Nat) : op x y = 2 * op (x / 2) (y / 2) + op (x % 2) (y % 2) := by
  have hlt : op (x % 2) (y % 2) < 2 := hl _ _ (by omega) (by omega)
  apply Nat.eq_of_testBit_eq
  intro i
  cases i with
  | zero =>
    rw [h, Nat.testBit_zero, Nat.testBit_zero, Nat.testBit_zero]
    have h0 := h (x % 2) (y % 2) 0
    rw [Nat.testBit_zero, Nat.testBit_zero, Nat.testBit_zero, Nat.mod_mod, Nat.mod_mod] at h0
    rw [← h0]; congr 1; rw [Nat.mul_add_mod]
  | succ i =>
    rw [h, Nat.testBit_succ, Nat.testBit_succ, Nat.testBit_succ, show (2 * op (x / 2) (y / 2) + op (x % 2) (y % 2)) / 2 = op (x / 2) (y / 2) by omega, h]
theorem apply_same (fuel : Nat) (n a b : Int) : value_Apply n a b = r01_Apply (fuel + 40) n a b := by
  rw [value_Apply, r01_Apply, own_wrap, own_wrap, ref_wrap, ref_wrap]
  simp only [Option.bind_some, own_wrap, ref_wrap, own_truth, ref_truth]
  have A := w32_lo a
  have B := w32_lo b
  rw [ref_bits fuel (Arr.of 4 [0, 0, 0, 1]) (fun x y => x &&& y) rfl (hop_of (fun x y => x &&& y) (· && ·) (two_of ⟨by decide, by decide, by decide, by decide⟩) fun x y i => Nat.testBit_and ..) (two_of ⟨by decide, by decide, by decide, by decide⟩) A.1 A.2 B.1 B.2,
    ref_bits fuel (Arr.of 4 [0, 1, 1, 1]) (fun x y => x ||| y) rfl (hop_of (fun x y => x ||| y) (· || ·) (two_of ⟨by decide, by decide, by decide, by decide⟩) fun x y i => Nat.testBit_or ..) (two_of ⟨by decide, by decide, by decide, by decide⟩) A.1 A.2 B.1 B.2,
    ref_bits fuel (Arr.of 4 [0, 1, 1, 0]) (fun x y => x ^^^ y) rfl (hop_of (fun x y => x ^^^ y) (· ^^ ·) (two_of ⟨by decide, by decide, by decide, by decide⟩) fun x y i => Nat.testBit_xor ..) (two_of ⟨by decide, by decide, by decide, by decide⟩) A.1 A.2 B.1 B.2]
  simp only [Option.bind_some, and_own, or_own, xor_own]
/-- The value of a calculation. -/
def app (n a b : Int) : Int := ((value_Apply n a b).getD default).1
theorem app_eq {n : Int} (h1 : 1 ≤ n) (h2 : n ≤ 10) (a b : Int) : value_Apply n a b = some (app n a b, 0) ∧ -2147483648 ≤ app n a b ∧ app n a b ≤ 2147483647 := by
  have ht : ∀ b : Bool, -2147483648 ≤ (cond b (1 : Int) 0) ∧ (cond b (1 : Int) 0) ≤ 2147483647 := fun b => by cases b <;> decide
  have hn : n = 1 ∨ n = 2 ∨ n = 3 ∨ n = 4 ∨ n = 5 ∨ n = 6 ∨ n = 7 ∨ n = 8 ∨ n = 9 ∨ n = 10 := by omega
  unfold app
  rw [value_Apply]
  simp only [own_wrap, own_truth, Option.bind_some, eqI_d]
  rcases hn with rfl | rfl | rfl | rfl | rfl | rfl | rfl | rfl | rfl | rfl <;> simp only [Int.reduceEq, decide_true, decide_false, cond_true, cond_false, Option.getD_some, ht, w32_lo, and_self]
end Go.Dc.Pl
end
section
set_option linter.all false
namespace Go.Dc
open Go Go.Hw Go.Proofs
set_option maxRecDepth 100000

def simplify_known_both (a0 : Map Int Int) (a1 : Inst) : Option (Int × Bool) :=
  cond (orB (!(mhas a0 a1.B)) (!(mhas a0 a1.C))) (some (0, false)) (Option.bind (value_Apply a1.Fn (mval a0 a1.B 0) (mval a0 a1.C 0)) (fun y2 => some (y2.1, eqI y2.2 0)))

set_option maxHeartbeats 2000000 in
theorem at_simplify_known_both {a0 : Map Int Int} {a1 : Inst} {r : Int × Bool} (hs : simplify_known_both a0 a1 = some r) : CAt Tryd.prog 109 [.cell (.mp (.a 0)), .agg (eA a1)] [.map (mK a0) (mV a0)] (.ret (.tup [iV .i64 r.1, bV r.2])) [(.a 0, .map (mK a0) (mV a0))] := by
  refine at_bound (by kernel_rfl) fun hb => ?_
  refine at_code mixed Tryd.func109 (by kernel_rfl) rfl (by kernel_rfl) rfl fun Q hQ => ?_
  rw [simplify_known_both] at hs
  refine goG f0 f0 ?_
  revert hs; refine cS f0 ?_ ?_ <;> intro h1 hs
  · refine goG f0 f0 ?_
    obtain rfl := sj hs
    refine hQ _ _ (ret2g _ (Gh.refl _) (by simp [St.frz, St.pur]; rfl) (by first | rfl | (simp [St.frz, St.pur]; done) | (rw [if_pos (by first | omega | (simp; omega))]; simp [St.frz, St.pur]; first | omega | exact List.take_of_length_le (by simp; omega) | skip)) (pv f0))
  · refine goG f0 f0 ?_
    revert hs; refine bK fun y2 hx3 hs => ?_
    refine cP f0 (at_value_Apply hx3) ?_
    refine goG f0 f0 ?_
    obtain rfl := sj hs
    refine hQ _ _ (ret2g _ (Gh.refl _) (by simp [St.frz, St.pur]; rfl) (by first | rfl | (simp [St.frz, St.pur]; done) | (rw [if_pos (by first | omega | (simp; omega))]; simp [St.frz, St.pur]; first | omega | exact List.take_of_length_le (by simp; omega) | skip)) (pv f0))
end Go.Dc
end
section
set_option linter.all false
namespace Go.Dc
open Go Go.Hw Go.Proofs
set_option maxRecDepth 100000

def simplify_known_fold (a0 : Map Int Int) (a1 : Inst) (a2 : Int) : Option Inst :=
  cond (eqI a1.Op 2) (cond (mhas a0 a1.B) (some ({ Op := 1, A := a1.A, B := 0, C := 0, Obj := 0, N := (mval a0 a1.B 0), Fn := 0, Order := 0 } : Inst)) (some a1)) (cond (eqI a1.Op 3) (Option.bind (simplify_known_both a0 a1) (fun y4 => cond y4.2 (some ({ Op := 1, A := a1.A, B := 0, C := 0, Obj := 0, N := y4.1, Fn := 0, Order := 0 } : Inst)) (some a1))) (cond (eqI a1.Op 5) (cond (andB (mhas a0 a1.B) (!(eqI (mval a0 a1.B 0) 0))) (some ({ Op := 4, A := 0, B := 0, C := 0, Obj := 0, N := a1.N, Fn := 0, Order := 0 } : Inst)) (cond (!(mhas a0 a1.B)) (some a1) (cond (andB (mhas a0 a1.B) (orB (eqI a1.Op 5) (!(eqI (mval a0 a1.B 0) 0)))) (some ({ Op := 4, A := 0, B := 0, C := 0, Obj := 0, N := IntKind.i64.wrap (a2 + 1), Fn := 0, Order := 0 } : Inst)) (some a1)))) (cond (eqI a1.Op 6) (cond (andB (mhas a0 a1.B) (orB (eqI a1.Op 5) (!(eqI (mval a0 a1.B 0) 0)))) (some ({ Op := 4, A := 0, B := 0, C := 0, Obj := 0, N := IntKind.i64.wrap (a2 + 1), Fn := 0, Order := 0 } : Inst)) (some a1)) (some a1))))

set_option maxHeartbeats 2000000 in
theorem at_simplify_known_fold {a0 : Map Int Int} {a1 : Inst} {a2 : Int} {r : Inst} (hs : simplify_known_fold a0 a1 a2 = some r) : CAt Tryd.prog 53 [.cell (.mp (.a 0)), .agg (eA a1), iV .i64 a2] [.map (mK a0) (mV a0)] (.ret (.agg (eA r))) [(.a 0, .map (mK a0) (mV a0))] := by
  refine at_bound (by kernel_rfl) fun hb => ?_
  refine at_code mixed Tryd.func53 (by kernel_rfl) rfl (by kernel_rfl) rfl fun Q hQ => ?_
  rw [simplify_known_fold] at hs
  refine goR f0 ?_
  revert hs; refine cS f0 ?_ ?_ <;> intro h1 hs
  · refine goR f0 ?_
    revert hs; refine cS f0 ?_ ?_ <;> intro h2 hs
    · refine goR f0 ?_
      obtain rfl := sj hs
      refine hQ _ _ (ret2g _ (Gh.refl _) (by simp [St.frz, St.pur]; rfl) (by first | rfl | (simp [St.frz, St.pur]; done) | (rw [if_pos (by first | omega | (simp; omega))]; simp [St.frz, St.pur]; first | omega | exact List.take_of_length_le (by simp; omega) | skip)) (pv f0))
    · refine goR f0 ?_
      obtain rfl := sj hs
      refine hQ _ _ (ret2g _ (Gh.refl _) (by simp [St.frz, St.pur]; rfl) (by first | rfl | (simp [St.frz, St.pur]; done) | (rw [if_pos (by first | omega | (simp; omega))]; simp [St.frz, St.pur]; first | omega | exact List.take_of_length_le (by simp; omega) | skip)) (pv f0))
  · refine goR f0 ?_
    revert hs; refine cS f0 ?_ ?_ <;> intro h3 hs
    · refine goR f0 ?_
      revert hs; refine bK fun y4 hx5 hs => ?_
      refine cB f0 (at_simplify_known_both hx5) [.a 0] ?_
      refine goR f0 ?_
      revert hs; refine cS f0 ?_ ?_ <;> intro h6 hs
      · refine goR f0 ?_
        obtain rfl := sj hs
        refine hQ _ _ (ret2g _ (Gh.refl _) (by simp [St.frz, St.pur]; rfl) (by first | rfl | (simp [St.frz, St.pur]; done) | (rw [if_pos (by first | omega | (simp; omega))]; simp [St.frz, St.pur]; first | omega | exact List.take_of_length_le (by simp; omega) | skip)) (pv f0))
      · refine goR f0 ?_
        obtain rfl := sj hs
        refine hQ _ _ (ret2g _ (Gh.refl _) (by simp [St.frz, St.pur]; rfl) (by first | rfl | (simp [St.frz, St.pur]; done) | (rw [if_pos (by first | omega | (simp; omega))]; simp [St.frz, St.pur]; first | omega | exact List.take_of_length_le (by simp; omega) | skip)) (pv f0))
    · refine goR f0 ?_
      revert hs; refine cS f0 ?_ ?_ <;> intro h7 hs
      · refine goG f0 f0 ?_
        revert hs; refine cS f0 ?_ ?_ <;> intro h8 hs
        · refine goG f0 f0 ?_
          obtain rfl := sj hs
          refine hQ _ _ (ret2g _ (Gh.refl _) (by simp [St.frz, St.pur]; rfl) (by first | rfl | (simp [St.frz, St.pur]; done) | (rw [if_pos (by first | omega | (simp; omega))]; simp [St.frz, St.pur]; first | omega | exact List.take_of_length_le (by simp; omega) | skip)) (pv f0))
        · refine goG f0 f0 ?_
          revert hs; refine cS f0 ?_ ?_ <;> intro h9 hs
          · refine goG f0 f0 ?_
            obtain rfl := sj hs
            refine hQ _ _ (ret2g _ (Gh.refl _) (by simp [St.frz, St.pur]; rfl) (by first | rfl | (simp [St.frz, St.pur]; done) | (rw [if_pos (by first | omega | (simp; omega))]; simp [St.frz, St.pur]; first | omega | exact List.take_of_length_le (by simp; omega) | skip)) (pv f0))
          · refine goG f0 f0 ?_
            revert hs; refine cS f0 ?_ ?_ <;> intro h10 hs
            · refine goG f0 f0 ?_
              obtain rfl := sj hs
              refine hQ _ _ (ret2g _ (Gh.refl _) (by simp [St.frz, St.pur]; rfl) (by first | rfl | (simp [St.frz, St.pur]; done) | (rw [if_pos (by first | omega | (simp; omega))]; simp [St.frz, St.pur]; first | omega | exact List.take_of_length_le (by simp; omega) | skip)) (pv f0))
            · refine goG f0 f0 ?_
              obtain rfl := sj hs
              refine hQ _ _ (ret2g _ (Gh.refl _) (by simp [St.frz, St.pur]; rfl) (by first | rfl | (simp [St.frz, St.pur]; done) | (rw [if_pos (by first | omega | (simp; omega))]; simp [St.frz, St.pur]; first | omega | exact List.take_of_length_le (by simp; omega) | skip)) (pv f0))
      · refine goR f0 ?_
        revert hs; refine cS f0 ?_ ?_ <;> intro h11 hs
        · refine goG f0 f0 ?_
          revert hs; refine cS f0 ?_ ?_ <;> intro h12 hs
          · refine goG f0 f0 ?_
            obtain rfl := sj hs
            refine hQ _ _ (ret2g _ (Gh.refl _) (by simp [St.frz, St.pur]; rfl) (by first | rfl | (simp [St.frz, St.pur]; done) | (rw [if_pos (by first | omega | (simp; omega))]; simp [St.frz, St.pur]; first | omega | exact List.take_of_length_le (by simp; omega) | skip)) (pv f0))
          · refine goG f0 f0 ?_
            obtain rfl := sj hs
            refine hQ _ _ (ret2g _ (Gh.refl _) (by simp [St.frz, St.pur]; rfl) (by first | rfl | (simp [St.frz, St.pur]; done) | (rw [if_pos (by first | omega | (simp; omega))]; simp [St.frz, St.pur]; first | omega | exact List.take_of_length_le (by simp; omega) | skip)) (pv f0))
        · refine goR f0 ?_
          obtain rfl := sj hs
          refine hQ _ _ (ret2g _ (Gh.refl _) (by simp [St.frz, St.pur]; rfl) (by first | rfl | (simp [St.frz, St.pur]; done) | (rw [if_pos (by first | omega | (simp; omega))]; simp [St.frz, St.pur]; first | omega | exact List.take_of_length_le (by simp; omega) | skip)) (pv f0))
end Go.Dc
end
section
set_option linter.all false
namespace Go.Dc
open Go Go.Hw Go.Proofs
set_option maxRecDepth 100000

def inst_Defines (fuelN : Nat) (a0 : Inst) : Option (Int × Bool) :=
  Option.bind (inst_Check fuelN a0) (fun y1 => guardO (orB (!(eqI y1 0)) (inB (IntKind.i64.wrap (a0.Op - 1)) rowsTab.length)) (cond (orB (!(eqI y1 0)) (!(((gd rowsTab ((IntKind.i64.wrap (a0.Op - 1)).toNat)).uses).f 0))) (some (0, false)) (some (a0.A, true))))

set_option maxHeartbeats 2000000 in
theorem at_inst_Defines {fuelN : Nat} {a0 : Inst} {r : Int × Bool} (hs : inst_Defines fuelN a0 = some r) : At Tryd.prog 110 [.agg (eA a0)] (.tup [iV .i64 r.1, bV r.2]) := by
  refine at_bound (by kernel_rfl) fun hb => ?_
  refine at_code mixed Tryd.func110 (by kernel_rfl) rfl (by kernel_rfl) rfl fun Q hQ => ?_
  rw [inst_Defines] at hs
  refine goR f0 ?_
  revert hs; refine bK fun y1 hx2 hs => ?_
  refine cP f0 (at_inst_Check hx2) ?_
  obtain ⟨g3, hs⟩ := guardO_some hs
  have g3a : (eqI y1 0) = true → 0 ≤ IntKind.i64.wrap (a0.Op - 1) := fun hg => (under_elem g3 hg).1
  have g3b : (eqI y1 0) = true → IntKind.i64.wrap (a0.Op - 1) < (rowsTab.length : Int) := fun hg => (under_elem g3 hg).2.1
  have g3n : (eqI y1 0) = true → (IntKind.i64.wrap (a0.Op - 1)).toNat < rowsTab.length := fun hg => by simpa using (under_elem g3 hg).2.2.1
  have g3c : (eqI y1 0) = true → rowsTab[(IntKind.i64.wrap (a0.Op - 1)).toNat]? = some (gd rowsTab ((IntKind.i64.wrap (a0.Op - 1)).toNat)) := fun hg => by simpa using (under_elem g3 hg).2.2.2
  have t4L : rowsTab.length = 22 := rfl
  have t4M : (eqI y1 0) = true → IntKind.i64.wrap (a0.Op - 1) < (22 : Int) := fun hg => by have h3 := g3b hg; rwa [show ((rowsTab.length : Nat) : Int) = 22 from rfl] at h3
  have f5 : (eqI y1 0) = true → partCV Tryd.prog 4 (encL rowsTab) (((IntKind.i64.wrap (a0.Op - 1)).toNat) * 8 + 1) = some (bV (((gd rowsTab ((IntKind.i64.wrap (a0.Op - 1)).toNat)).uses).f 0)) := fun hg => partCV_enc (g3c hg) (f := 1) (by simp)
  have F1 := an g3a (an g3b (an g3n (an t4M f5)))
  refine goG F1 F1 ?_
  revert hs; refine cS F1 ?_ ?_ <;> intro h6 hs
  · refine goG F1 F1 ?_
    obtain rfl := sj hs
    exact hQ _ _ (rg F1 (Gh.refl _))
  · refine goG F1 F1 ?_
    obtain rfl := sj hs
    exact hQ _ _ (rg F1 (Gh.refl _))
end Go.Dc
end
section
set_option linter.all false
namespace Go.Dc
open Go Go.Hw Go.Proofs
set_option maxRecDepth 100000

def simplify_known_after (fuelN : Nat) (a0 : Map Int Int) (a1 : Inst) : Option (Map Int Int) :=
  Option.bind (inst_Defines fuelN a1) (fun y1 => cond (!y1.2) (some a0) (Option.bind (α := Int × Bool) (cond (eqI a1.Op 1) (some ((a1.N, true))) (cond (eqI a1.Op 2) (some (((mval a0 a1.B 0), mhas a0 a1.B))) (cond (eqI a1.Op 3) (Option.bind (simplify_known_both a0 a1) (fun y18 => some ((y18.1, y18.2)))) (some ((0, false)))))) (fun o => match o with | (i9, b10) => cond b10 (Option.bind (some (mpt a0 y1.1 i9)) (fun m21 => some m21)) (Option.bind (some (mdl a0 y1.1)) (fun m24 => some m24)))))

set_option maxHeartbeats 2000000 in
theorem at_simplify_known_after {fuelN : Nat} {a0 : Map Int Int} {a1 : Inst} {r : (Map Int Int)} (hs : simplify_known_after fuelN a0 a1 = some r) : CAt Tryd.prog 54 [.cell (.mp (.a 0)), .agg (eA a1)] [.map (mK a0) (mV a0)] (.ret (.tup [])) [(.a 0, .map (mK r) (mV r))] := by
  refine at_bound (by kernel_rfl) fun hb => ?_
  refine at_code mixed Tryd.func54 (by kernel_rfl) rfl (by kernel_rfl) rfl fun Q hQ => ?_
  rw [simplify_known_after] at hs
  refine goR f0 ?_
  revert hs; refine bK fun y1 hx2 hs => ?_
  refine cP f0 (at_inst_Defines hx2) ?_
  refine goR f0 ?_
  revert hs; refine cS f0 ?_ ?_ <;> intro h3 hs
  · refine goR f0 ?_
    obtain rfl := sj hs
    refine hQ _ _ (ret2g _ (Gh.refl _) (by simp [St.frz, St.pur]; rfl) (by first | rfl | (simp [St.frz, St.pur]; done) | (rw [if_pos (by first | omega | (simp; omega))]; simp [St.frz, St.pur]; first | omega | exact List.take_of_length_le (by simp; omega) | skip)) (pv f0))
  · refine goR2 f0 ?_
    revert hs; refine bK fun o12 e11 hs => ?_
    refine awp_cutK (fun (v : Int × Bool) (σ : St) => some (v) = some o12 ∧ σ.env 0 = .cell (.mp (.a 0)) ∧ σ.env 4 = iV .i64 y1.1 ∧ σ.env 6 = iV .i64 v.1 ∧ σ.env 7 = bV v.2 ∧ σ.hp (.a 0) = some (.map (mK a0) (mV a0)) ∧ 5 ≤ σ.gen) (by rfl) (fun Q hK13 hX14 => ?_) (fun v σ1 hp => ?_)
    · refine goR f0 ?_
      revert e11; refine cS f0 ?_ ?_ <;> intro h15 e11
      · refine goR f0 ?_
        exact hK13 (a1.N, true) _ _ (Gh.refl _) ⟨e11, pv f0, pv f0, pv f0, pv f0, pv f0, pg⟩
      · refine goR f0 ?_
        revert e11; refine cS f0 ?_ ?_ <;> intro h16 e11
        · refine goR f0 ?_
          exact hK13 ((mval a0 a1.B 0), mhas a0 a1.B) _ _ (Gh.refl _) ⟨e11, pv f0, pv f0, pv f0, pv f0, pv f0, pg⟩
        · refine goR f0 ?_
          revert e11; refine cS f0 ?_ ?_ <;> intro h17 e11
          · refine goR f0 ?_
            revert e11; refine bK fun y18 hx19 e11 => ?_
            refine cB f0 (at_simplify_known_both hx19) [.a 0] ?_
            refine goR f0 ?_
            exact hK13 (y18.1, y18.2) _ _ (Gh.refl _) ⟨e11, pv f0, pv f0, pv f0, pv f0, pv f0, pg⟩
          · refine goR f0 ?_
            exact hK13 (0, false) _ _ (Gh.refl _) ⟨e11, pv f0, pv f0, pv f0, pv f0, pv f0, pg⟩
    · obtain ⟨i9, b10⟩ := v
      dsimp only at hp
      obtain ⟨e11, h2_0, h2_4, h2_6, h2_7, g2_0, n2_g⟩ := hp
      obtain rfl := sj e11
      try dsimp only at hs
      have F1 := an h2_0 (an h2_4 (an h2_6 (an h2_7 g2_0)))
      refine goR F1 ?_
      revert hs; refine cS F1 ?_ ?_ <;> intro h20 hs
      · revert hs; refine lK fun m21 hx22 hs => ?_
        have f23 := hx22.symm
        try push_cast at f23
        have F2 := an F1 f23
        refine goR F2 ?_
        obtain rfl := sj hs
        refine hQ _ _ (ret2g _ (Gh.refl _) (by simp [St.frz, St.pur, F2]; rfl) (by first | rfl | (simp [St.frz, St.pur, F2]; done) | (rw [if_pos (by first | omega | (simp; omega))]; simp [St.frz, St.pur, F2]; first | omega | exact List.take_of_length_le (by simp; omega) | skip)) (pv F2))
      · revert hs; refine lK fun m24 hx25 hs => ?_
        have f26 := hx25.symm
        try push_cast at f26
        have F3 := an F1 f26
        refine goR F3 ?_
        obtain rfl := sj hs
        refine hQ _ _ (ret2g _ (Gh.refl _) (by simp [St.frz, St.pur, F3]; rfl) (by first | rfl | (simp [St.frz, St.pur, F3]; done) | (rw [if_pos (by first | omega | (simp; omega))]; simp [St.frz, St.pur, F3]; first | omega | exact List.take_of_length_le (by simp; omega) | skip)) (pv F3))
end Go.Dc
end
section
set_option linter.all false
namespace Go.Dc
open Go Go.Hw Go.Proofs
set_option maxRecDepth 100000
def simplify_Fold_L1 (fuelN : Nat) (y1 : (List Int) × Int) : List Inst → Nat → (List Inst) → (Map Int Int) → Option (List Inst)
  | [], k265, l266, m267 => some (l266)
  | x319 :: q315, k265, l266, m267 => Option.bind (slices_Contains_int y1.1 ((k265 : Nat) : Int)) (fun y322 => cond y322 (Option.bind (simplify_known_fold ([] : Map Int Int) x319 ((k265 : Nat) : Int)) (fun y332 => Option.bind (some ([y332])) (fun l334 => guardO (limB 64 (l266.length + l334.length)) (Option.bind (some (l266 ++ l334)) (fun l337 => Option.bind (simplify_known_after fuelN ([] : Map Int Int) x319) (fun y339 => simplify_Fold_L1 fuelN y1 q315 (k265 + 1) l337 y339)))))) (Option.bind (simplify_known_fold m267 x319 ((k265 : Nat) : Int)) (fun y348 => Option.bind (some ([y348])) (fun l350 => guardO (limB 64 (l266.length + l350.length)) (Option.bind (some (l266 ++ l350)) (fun l353 => Option.bind (simplify_known_after fuelN m267 x319) (fun y355 => simplify_Fold_L1 fuelN y1 q315 (k265 + 1) l353 y355)))))))

def simplify_Fold (fuelN : Nat) (a0 : Func) : Option (Func × Int) :=
  Option.bind (cfg_Leaders fuelN a0) (fun y1 => cond (!(eqI y1.2 0)) (some (({ Name := (⟨#[]⟩ : ByteArray), Code := [] } : Func), y1.2)) (Option.bind (α := (List Inst)) (Option.bind (simplify_Fold_L1 fuelN y1 a0.Code 0 [] ([] : Map Int Int)) (fun l308 => some (l308))) (fun l178 => some ({ a0 with Code := l178 }, 0))))

set_option maxHeartbeats 2000000 in
theorem at_simplify_Fold {fuelN : Nat} {a0 : Func} {r : Func × Int} (hs : simplify_Fold fuelN a0 = some r) : At Tryd.prog 16 [.agg (eA a0)] (.tup [.agg (eA r.1), iV .i64 r.2]) := by
  refine at_bound (by kernel_rfl) fun hb => ?_
  have hb1 : LenOk (.sl a0.Code.length (encL a0.Code)) := lkc hb
  refine at_code mixed Tryd.func16 (by kernel_rfl) rfl (by kernel_rfl) rfl fun Q hQ => ?_
  rw [simplify_Fold] at hs
  refine goR f0 ?_
  revert hs; refine bK fun y1 hx2 hs => ?_
  refine cP f0 (at_cfg_Leaders hx2) ?_
  refine goR f0 ?_
  revert hs; refine cS f0 ?_ ?_ <;> intro h3 hs
  · refine goR f0 ?_
    obtain rfl := sj hs
    exact hQ _ _ (rg f0 (Gh.unz _))
  · refine goR2 f0 ?_
    revert hs; refine bK fun o180 e179 hs => ?_
    refine awp_cutK (fun (v : (List Inst)) (σ : St) => some (v) = some o180 ∧ σ.env 2 = .cell (.ref (.o 1 1 0) 0) ∧ σ.env 6 = .cell (.ref (.o 4 3 0) 0) ∧ σ.hp (.o 1 1 0) = some (.cells [tC (⟨#[]⟩ : ByteArray), .z]) ∧ σ.hp (.l 4) = some (.pure (encL v)) ∧ σ.hp (.o 4 3 0) = some (.cells [tC a0.Name, .sl (.l 4) 0 8 v.length]) ∧ 6 ≤ σ.gen) (by rfl) (fun Q hK181 hX182 => ?_) (fun l178 σ3 hp => ?_)
    · refine goR f0 ?_
      revert e179; refine bK fun o310 e309 e179 => ?_
      refine awp_loopW (fun (v : (List Inst) × Nat × (List Inst) × (Map Int Int)) (σ : St) => simplify_Fold_L1 fuelN y1 v.1 v.2.1 v.2.2.1 v.2.2.2 = some o310 ∧ v.1 = a0.Code.drop v.2.1 ∧ σ.env 2 = .cell (.ref (.o 1 1 0) 0) ∧ σ.env 4 = .cell (sC y1.1) ∧ σ.env 6 = .cell (.ref (.o 4 3 0) 0) ∧ σ.env 7 = .cell (.mp (.l 9)) ∧ σ.env 24 = .cell (sC a0.Code) ∧ σ.env 25 = iV .i64 ((a0.Code.length : Nat) : Int) ∧ σ.env 26 = iV .i64 ((v.2.1 : Nat) : Int) ∧ σ.hp (.o 1 1 0) = some (.cells [tC (⟨#[]⟩ : ByteArray), .z]) ∧ σ.hp (.l 10) = some (.pure (encL v.2.2.1)) ∧ σ.hp (.o 4 3 0) = some (.cells [tC a0.Name, .sl (.l 10) 0 8 v.2.2.1.length]) ∧ σ.hp (.l 9) = some (.map (mK v.2.2.2) (mV v.2.2.2)) ∧ 6 ≤ σ.gen) (fun v => v.1.length) _ ((Gh.voidB _ (.l 10) (.o 4 3 0) 1 8 rfl (by simp; rfl) (by first | rfl | simp) (by simp)).trans (Gh.ren _ (.o 5 0 0) (.l 9) (by simp) rfl rfl)) (a0.Code, 0, [], ([] : Map Int Int)) ⟨e309, by simp, pv f0, pv f0, pv f0, pv f0, pv f0, pv f0, pv f0, pv f0, pv f0, pv f0, pv f0, pg⟩ fun v σ6 hp L311 hL312 => ?_
      obtain ⟨q314, k265, l266, m267⟩ := v
      dsimp only at hp hL312
      obtain ⟨e309, hd313, h5_2, h5_4, h5_6, h5_7, h5_24, h5_25, h5_26, g5_0, g5_1, g5_2, g5_3, n5_g⟩ := hp
      have n5_0 : ¬ (σ6.gen = 0) := by omega
      have n5_1 : ¬ (σ6.gen = 1) := by omega
      have n5_2 : ¬ (σ6.gen = 2) := by omega
      have n5_3 : ¬ (σ6.gen = 3) := by omega
      rcases q314 with _ | ⟨x319, q315⟩
      · have hlt316 := drop_end hd313
        rw [simplify_Fold_L1] at e309; try dsimp only at e309
        have F1 := an h5_2 (an h5_4 (an h5_6 (an h5_7 (an h5_24 (an h5_25 (an h5_26 (an g5_0 (an g5_1 (an g5_2 (an g5_3 (an n5_0 (an n5_1 (an n5_2 n5_3)))))))))))))
        refine goR F1 ?_
        refine condK_f (by simp [ltI]; omega) ?_
        obtain rfl := sj e309
        try dsimp only at e179
        exact hK181 l266 _ _ (Gh.ren _ (.l 10) (.l 4) (by simp) rfl rfl) ⟨e179, pv F1, pv F1, pv F1, pv F1, pv F1, pg⟩
      · obtain ⟨hx318, hlt316, hd320⟩ := drop_next hd313
        have ew317 := wrap_succ hlt316 (hb1).len
        rw [simplify_Fold_L1] at e309; try dsimp only at e309
        have F2 := an h5_2 (an h5_4 (an h5_6 (an h5_7 (an h5_24 (an h5_25 (an h5_26 (an g5_0 (an g5_1 (an g5_2 (an g5_3 (an n5_0 (an n5_1 (an n5_2 (an n5_3 (an hlt316 ew317)))))))))))))))
        refine goR F2 ?_
        refine condK_t (by simp [ltI]; omega) ?_
        have f321 : partCV Tryd.prog 83 (encL a0.Code) (k265 * 8) = some (.agg (eA x319)) := partCV_enc hx318 (f := 0) (by simp)
        have F3 := an F2 f321
        refine goR F3 ?_
        revert e309; refine bK fun y322 hx323 e309 => ?_
        refine cP F3 (at_slices_Contains_int hx323) ?_
        refine goR F3 ?_
        revert e309; refine cS F3 ?_ ?_ <;> intro h324 e309
        · refine goD F3 ?_
          revert e309; refine bK fun y332 hx333 e309 => ?_
          refine cB F3 (at_simplify_known_fold hx333) [.o (σ6.gen + 4) 0 0] ?_
          revert e309; refine lK fun l334 hx335 e309 => ?_
          have hx335n : l334.length = 1 := by rw [hx335]; rfl
          obtain ⟨g336, e309⟩ := guardO_some e309
          have g336 := limB_t g336
          obtain ⟨g336a, g336b⟩ := g336
          revert e309; refine lK fun l337 hx338 e309 => ?_
          have hx338n : l337.length = (l266.length + l334.length) := by rw [hx338]; simp
          have hx338e : encL l337 = encL l266 ++ encL l334 := by rw [hx338]; simp
          have F4 := an F3 (an hx335 (an hx338n hx338e))
          refine goD F4 ?_
          revert e309; refine bK fun y339 hx340 e309 => ?_
          refine cB F4 (at_simplify_known_after hx340) [.o (σ6.gen + 4) 0 0] ?_
          refine goD F4 ?_
          exact hL312 (q315, (k265 + 1), l337, y339) _ _ ((Gh.ren _ (.o (σ6.gen + 4) 0 0) (.l 9) (by simp) rfl rfl).trans (Gh.ren _ (.o (σ6.gen + 5) 7 0) (.l 10) (by simp) rfl rfl)) ⟨e309, hd320, pv F4, pv F4, pv F4, pv F4, pv F4, pv F4, pv F4, pv F4, pv F4, pv F4, pv F4, pg⟩ (by simp)
        · refine goD F3 ?_
          revert e309; refine bK fun y348 hx349 e309 => ?_
          refine cB F3 (at_simplify_known_fold hx349) [.l 9] ?_
          revert e309; refine lK fun l350 hx351 e309 => ?_
          have hx351n : l350.length = 1 := by rw [hx351]; rfl
          obtain ⟨g352, e309⟩ := guardO_some e309
          have g352 := limB_t g352
          obtain ⟨g352a, g352b⟩ := g352
          revert e309; refine lK fun l353 hx354 e309 => ?_
          have hx354n : l353.length = (l266.length + l350.length) := by rw [hx354]; simp
          have hx354e : encL l353 = encL l266 ++ encL l350 := by rw [hx354]; simp
          have F5 := an F3 (an hx351 (an hx354n hx354e))
          refine goD F5 ?_
          revert e309; refine bK fun y355 hx356 e309 => ?_
          refine cB F5 (at_simplify_known_after hx356) [.l 9] ?_
          refine goD F5 ?_
          exact hL312 (q315, (k265 + 1), l353, y355) _ _ (Gh.ren _ (.o (σ6.gen + 4) 7 0) (.l 10) (by simp) rfl rfl) ⟨e309, hd320, pv F5, pv F5, pv F5, pv F5, pv F5, pv F5, pv F5, pv F5, pv F5, pv F5, pv F5, pg⟩ (by simp)
    · obtain ⟨e179, h4_2, h4_6, g4_0, g4_1, g4_2, n4_g⟩ := hp
      obtain rfl := sj e179
      try dsimp only at hs
      have n4_0 : ¬ (σ3.gen = 0) := by omega
      have n4_1 : ¬ (σ3.gen = 1) := by omega
      have n4_2 : ¬ (σ3.gen = 2) := by omega
      have n4_3 : ¬ (σ3.gen = 3) := by omega
      have F6 := an h4_2 (an h4_6 (an g4_0 (an g4_1 (an g4_2 (an n4_0 (an n4_1 (an n4_2 n4_3)))))))
      refine goR F6 ?_
      obtain rfl := sj hs
      exact hQ _ _ (rg F6 (Gh.frz _ (.l 4)))
end Go.Dc
end
section
set_option linter.all false
namespace Go.Dc
open Go Go.Hw Go.Proofs
set_option maxRecDepth 100000

def r15_folded (fuelN : Nat) (a0 : Inst) (a1 : Int) (a2 : Arr 8 R15Fact) : Option Inst :=
  cond (eqI a0.Op 2) (guardO (inB a0.B 8) (cond ((a2.f ((a0.B).toNat)).Known) (guardO (inB a0.B 8) (some ({ Op := 1, A := a0.A, B := 0, C := 0, Obj := 0, N := (a2.f ((a0.B).toNat)).Value, Fn := 0, Order := 0 } : Inst))) (some a0))) (cond (eqI a0.Op 3) (guardO (inB a0.B 8) (guardO (orB (!((a2.f ((a0.B).toNat)).Known)) (inB a0.C 8)) (cond (andB ((a2.f ((a0.B).toNat)).Known) ((a2.f ((a0.C).toNat)).Known)) (guardO (inB a0.B 8) (guardO (inB a0.C 8) (Option.bind (r01_Apply fuelN a0.Fn ((a2.f ((a0.B).toNat)).Value) ((a2.f ((a0.C).toNat)).Value)) (fun y25 => some ({ Op := 1, A := a0.A, B := 0, C := 0, Obj := 0, N := y25.1, Fn := 0, Order := 0 } : Inst))))) (some a0)))) (cond (eqI a0.Op 5) (guardO (inB a0.B 8) (guardO (orB (!((a2.f ((a0.B).toNat)).Known)) (inB a0.B 8)) (cond (andB ((a2.f ((a0.B).toNat)).Known) (!(eqI ((a2.f ((a0.B).toNat)).Value) 0))) (some ({ Op := 4, A := 0, B := 0, C := 0, Obj := 0, N := a0.N, Fn := 0, Order := 0 } : Inst)) (guardO (inB a0.B 8) (cond ((a2.f ((a0.B).toNat)).Known) (some ({ Op := 4, A := 0, B := 0, C := 0, Obj := 0, N := IntKind.i64.wrap (a1 + 1), Fn := 0, Order := 0 } : Inst)) (some a0)))))) (cond (eqI a0.Op 6) (guardO (inB a0.B 8) (guardO (orB (!((a2.f ((a0.B).toNat)).Known)) (inB a0.B 8)) (cond (andB ((a2.f ((a0.B).toNat)).Known) (!(eqI ((a2.f ((a0.B).toNat)).Value) 0))) (some ({ Op := 4, A := 0, B := 0, C := 0, Obj := 0, N := IntKind.i64.wrap (a1 + 1), Fn := 0, Order := 0 } : Inst)) (some a0)))) (some a0))))

end Go.Dc
end
section
set_option linter.all false
namespace Go.Dc
open Go Go.Hw Go.Proofs
set_option maxRecDepth 100000

def r07_Defines (a0 : Inst) : Option (Int × Bool) :=
  Option.bind (r07_Check a0) (fun y1 => guardO (orB (!(eqI y1 0)) ((r07_has a0.Op 65).isSome)) (cond (orB (!(eqI y1 0)) (!((r07_has a0.Op 65).getD default))) (some (0, false)) (some (a0.A, true))))

set_option maxHeartbeats 2000000 in
theorem at_r07_Defines {a0 : Inst} {r : Int × Bool} (hs : r07_Defines a0 = some r) : At Tryd.prog 57 [.agg (eA a0)] (.tup [iV .i64 r.1, bV r.2]) := by
  refine at_bound (by kernel_rfl) fun hb => ?_
  refine at_code mixed Tryd.func57 (by kernel_rfl) rfl (by kernel_rfl) rfl fun Q hQ => ?_
  rw [r07_Defines] at hs
  refine goR f0 ?_
  revert hs; refine bK fun y1 hx2 hs => ?_
  refine cP f0 (at_r07_Check hx2) ?_
  refine goG f0 f0 ?_
  obtain ⟨g3, hs⟩ := guardO_some hs
  refine gsel_call (fun hg => at_r07_has (under_call g3 hg)) (fun hg => by (try simp at hg); (first | simp [hg, id]); try rfl) (fun hg => by (try simp at hg); simp [hg, id]) (by simp) ?_
  refine goG f0 f0 ?_
  revert hs; refine cS f0 ?_ ?_ <;> intro h4 hs
  · refine goG f0 f0 ?_
    obtain rfl := sj hs
    exact hQ _ _ (rg f0 (Gh.refl _))
  · refine goG f0 f0 ?_
    obtain rfl := sj hs
    exact hQ _ _ (rg f0 (Gh.refl _))
end Go.Dc
end
section
set_option linter.all false
namespace Go.Dc
open Go Go.Hw Go.Proofs
set_option maxRecDepth 100000
def r15_Fold_L1 (fuelN : Nat) (a0 : Func) (y4 : (List Bool)) : Nat → Int → (List Inst) → (Arr 8 R15Fact) → Option (List Inst)
  | 0, _, _, _ => none
  | q467 + 1, i408, l409, r410 => cond (ltI i408 ((a0.Code.length : Nat) : Int)) (Option.bind (getI y4 i408) (fun x472 => Option.bind (α := (Arr 8 R15Fact)) (cond x472 (some ((Arr.of 8 [({ Known := false, Value := 0 } : R15Fact), ({ Known := false, Value := 0 } : R15Fact), ({ Known := false, Value := 0 } : R15Fact), ({ Known := false, Value := 0 } : R15Fact), ({ Known := false, Value := 0 } : R15Fact), ({ Known := false, Value := 0 } : R15Fact), ({ Known := false, Value := 0 } : R15Fact), ({ Known := false, Value := 0 } : R15Fact)]))) (some (r410))) (fun r476 => Option.bind (getI a0.Code i408) (fun x487 => Option.bind (r15_folded fuelN x487 i408 r476) (fun y490 => Option.bind (some ([y490])) (fun l492 => guardO (limB 64 (l409.length + l492.length)) (Option.bind (some (l409 ++ l492)) (fun l495 => Option.bind (r07_Defines y490) (fun y497 => cond y497.2 (guardO (inB y497.1 8) (Option.bind (some (r476.set ((y497.1).toNat) ({ Known := eqI y490.Op 1, Value := 0 } : R15Fact))) (fun r501 => cond (eqI y490.Op 1) (guardO (inB y497.1 8) (Option.bind (some (r501.set ((y497.1).toNat) ({ Known := (r501.f ((y497.1).toNat)).Known, Value := y490.N } : R15Fact))) (fun r507 => r15_Fold_L1 fuelN a0 y4 q467 (IntKind.i64.wrap (i408 + 1)) l495 r507))) (r15_Fold_L1 fuelN a0 y4 q467 (IntKind.i64.wrap (i408 + 1)) l495 r501)))) (cond (eqI y490.Op 1) (guardO (inB y497.1 8) (Option.bind (some (r476.set ((y497.1).toNat) ({ Known := (r476.f ((y497.1).toNat)).Known, Value := y490.N } : R15Fact))) (fun r513 => r15_Fold_L1 fuelN a0 y4 q467 (IntKind.i64.wrap (i408 + 1)) l495 r513))) (r15_Fold_L1 fuelN a0 y4 q467 (IntKind.i64.wrap (i408 + 1)) l495 r476))))))))))) (some (l409))

def r15_Fold (fuelN : Nat) (a0 : Func) : Option (Func × Int) :=
  Option.bind (r15_Check a0) (fun y1 => cond (!(eqI y1 0)) (some (({ Name := (⟨#[]⟩ : ByteArray), Code := [] } : Func), y1)) (Option.bind (r15_leaders a0) (fun y4 => Option.bind (α := (List Inst)) (Option.bind (r15_Fold_L1 fuelN a0 y4 fuelN 0 [] (Arr.of 8 [({ Known := false, Value := 0 } : R15Fact), ({ Known := false, Value := 0 } : R15Fact), ({ Known := false, Value := 0 } : R15Fact), ({ Known := false, Value := 0 } : R15Fact), ({ Known := false, Value := 0 } : R15Fact), ({ Known := false, Value := 0 } : R15Fact), ({ Known := false, Value := 0 } : R15Fact), ({ Known := false, Value := 0 } : R15Fact)])) (fun l460 => some (l460))) (fun l259 => some ({ a0 with Code := l259 }, 0)))))

end Go.Dc
end
section
set_option linter.all false
namespace Go.Dc
open Go Go.Hw Go.Proofs
set_option maxRecDepth 100000
def r15_SameCode_L1 (a1 : Func) : List Inst → Nat → Option (Unit ⊕ Bool)
  | [], k76 => some (.inl ())
  | x102 :: q98, k76 => Option.bind (a1.Code[k76]?) (fun x109 => cond (!(andB (eqI x102.Op x109.Op) (andB (eqI x102.A x109.A) (andB (eqI x102.B x109.B) (andB (eqI x102.C x109.C) (andB (eqI x102.Obj x109.Obj) (andB (eqI x102.N x109.N) (andB (eqI x102.Fn x109.Fn) (andB (eqI x102.Order x109.Order) true))))))))) (some (.inr false)) (r15_SameCode_L1 a1 q98 (k76 + 1)))

def r15_SameCode (a0 : Func) (a1 : Func) : Option Bool :=
  cond (orB (!(eqS a0.Name a1.Name)) (!(eqI ((a0.Code.length : Nat) : Int) ((a1.Code.length : Nat) : Int)))) (some false) (Option.bind (α := Unit ⊕ Bool) (Option.bind (r15_SameCode_L1 a1 a0.Code 0) (fun o => match o with | .inl _ => some (.inl ()) | .inr r113 => some (.inr r113))) (fun o => match o with | .inl _ => some true | .inr r114 => some r114))

set_option maxHeartbeats 2000000 in
theorem at_r15_SameCode {a0 : Func} {a1 : Func} {r : Bool} (hs : r15_SameCode a0 a1 = some r) : At Tryd.prog 18 [.agg (eA a0), .agg (eA a1)] (bV r) := by
  refine at_bound (by kernel_rfl) fun hb => ?_
  have hb1 : LenOk (.sl a0.Code.length (encL a0.Code)) := lkc hb
  have hb2 : LenOk (.sl a1.Code.length (encL a1.Code)) := lkc hb
  refine at_code mixed Tryd.func18 (by kernel_rfl) rfl (by kernel_rfl) rfl fun Q hQ => ?_
  rw [r15_SameCode] at hs
  refine goG f0 f0 ?_
  revert hs; refine cS f0 ?_ ?_ <;> intro h1 hs
  · refine goG f0 f0 ?_
    obtain rfl := sj hs
    exact hQ _ _ (rg f0 (Gh.refl _))
  · refine goG2 f0 f0 ?_
    revert hs; refine bK fun o57 e56 hs => ?_
    refine awp_cutK (fun (v : Unit) (σ : St) => some (.inl v) = some o57 ∧ 3 ≤ σ.gen) (by rfl) (fun Q hK58 hX59 => ?_) (fun v σ3 hp => ?_)
    · refine goG f0 f0 ?_
      revert e56; refine bK fun o93 e92 e56 => ?_
      refine awp_loopW (fun (v : (List Inst) × Nat) (σ : St) => r15_SameCode_L1 a1 v.1 v.2 = some o93 ∧ v.1 = a0.Code.drop v.2 ∧ σ.env 2 = .cell (.ref (.o 1 0 0) 0) ∧ σ.env 3 = .cell (.ref (.o 1 1 0) 0) ∧ σ.env 5 = iV .i64 ((v.2 : Nat) : Int) ∧ σ.hp (.o 1 0 0) = some (.cells (eA a0)) ∧ σ.hp (.o 1 1 0) = some (.cells (eA a1)) ∧ 3 ≤ σ.gen) (fun v => v.1.length) _ (Gh.refl _) (a0.Code, 0) ⟨e92, by simp, pv f0, pv f0, pv f0, pv f0, pv f0, pg⟩ fun v σ6 hp L94 hL95 => ?_
      obtain ⟨q97, k76⟩ := v
      dsimp only at hp hL95
      obtain ⟨e92, hd96, h5_2, h5_3, h5_5, g5_0, g5_1, n5_g⟩ := hp
      have n5_0 : ¬ (σ6.gen = 0) := by omega
      rcases q97 with _ | ⟨x102, q98⟩
      · have hlt99 := drop_end hd96
        rw [r15_SameCode_L1] at e92; try dsimp only at e92
        have F1 := an h5_2 (an h5_3 (an h5_5 (an g5_0 (an g5_1 n5_0))))
        refine goR F1 ?_
        refine condK_f (by simp [ltI]; omega) ?_
        obtain rfl := sj e92
        try dsimp only at e56
        exact hK58 () _ _ (Gh.refl _) ⟨e56, pg⟩
      · obtain ⟨hx101, hlt99, hd103⟩ := drop_next hd96
        have ew100 := wrap_succ hlt99 (hb1).len
        rw [r15_SameCode_L1] at e92; try dsimp only at e92
        have F2 := an h5_2 (an h5_3 (an h5_5 (an g5_0 (an g5_1 (an n5_0 (an hlt99 ew100))))))
        refine goR F2 ?_
        refine condK_t (by simp [ltI]; omega) ?_
        have f108 : partCV Tryd.prog 83 (encL a0.Code) (k76 * 8) = some (.agg (eA x102)) := partCV_enc hx101 (f := 0) (by simp)
        revert e92; refine bK fun x109 hx110 e92 => ?_
        have hx110b := getN_some hx110
        have f111 : partCV Tryd.prog 83 (encL a1.Code) (k76 * 8) = some (.agg (eA x109)) := partCV_enc hx110 (f := 0) (by simp)
        have F3 := an F2 (an f108 f111)
        refine goD F3 ?_
        revert e92; refine cS F3 ?_ ?_ <;> intro h112 e92
        · refine goD F3 ?_
          obtain rfl := sj e92
          try dsimp only at e56
          obtain rfl := sj e56
          try dsimp only at hs
          refine hX59 _ _ (by simp) ?_
          refine goD F3 ?_
          obtain rfl := sj hs
          exact hQ _ _ (rg F3 (Gh.refl _))
        · refine goD F3 ?_
          exact hL95 (q98, (k76 + 1)) _ _ (Gh.refl _) ⟨e92, hd103, pv F3, pv F3, pv F3, pv F3, pv F3, pg⟩ (by simp)
    · obtain ⟨e56, n4_g⟩ := hp
      obtain rfl := sj e56
      try dsimp only at hs
      refine goG f0 f0 ?_
      obtain rfl := sj hs
      exact hQ _ _ (rg f0 (Gh.refl _))
end Go.Dc
end
section
set_option linter.all false
namespace Go.Dc.Pl
open Go Go.Hw Go.Dc
set_option maxRecDepth 100000
theorem ic_op {x : Inst} (h : icode x = 0) : 1 ≤ x.Op ∧ x.Op ≤ 22 := by
  by_cases hop : 1 ≤ x.Op ∧ x.Op ≤ 22
  · exact hop
  · rw [icode, r07_Check, show orB (ltI x.Op 1) (ltI 22 x.Op) = true by simp [orB_d, ltI_d]; omega] at h
    cases h
theorem ic_ok {x : Inst} (h : icode x = 0) : ∃ uA uB uC uO uN uF uR, InstOk x uA uB uC uO uN uF uR ∧ r07_has x.Op 65 = some uA ∧ r07_has x.Op 66 = some uB ∧ r07_has x.Op 67 = some uC ∧ r07_has x.Op 79 = some uO ∧ r07_has x.Op 78 = some uN ∧ r07_has x.Op 70 = some uF ∧ r07_has x.Op 82 = some uR := by
  obtain ⟨h1, h2⟩ := ic_op h
  obtain ⟨r, _, a, b, c, d, e, f, g⟩ := row_ex h1 h2
  exact ⟨_, _, _, _, _, _, _, (icode_iff h1 h2 a b c d e f g).1 (by rw [h]; rfl), a, b, c, d, e, f, g⟩
structure Regs (x : Inst) : Prop where
  A : 0 ≤ x.A ∧ x.A < 8
  B : 0 ≤ x.B ∧ x.B < 8
  C : 0 ≤ x.C ∧ x.C < 8
  F : x.Op = 3 → 1 ≤ x.Fn ∧ x.Fn ≤ 10
  N : x.Op = 1 → -2147483648 ≤ x.N ∧ x.N ≤ 2147483647
theorem ic_regs {x : Inst} (h : icode x = 0) : Regs x := by
  obtain ⟨uA, uB, uC, uO, uN, uF, uR, o, _, _, _, _, _, hF, _⟩ := ic_ok h
  refine ⟨o.A, o.B, o.C, fun h3 => o.F ?_, o.N⟩
  rw [h3, show r07_has 3 70 = some true from by kernel_rfl] at hF
  exact (Option.some.inj hF).symm
theorem has_some {op : Int} : ∃ b, r07_has op 65 = some b := by
  by_cases hop : 1 ≤ op ∧ op ≤ 22
  · obtain ⟨r, _, a, _⟩ := row_ex hop.1 hop.2; exact ⟨_, a⟩
  · rw [r07_has, show orB (ltI op 1) (ltI 22 op) = true by simp [orB_d, ltI_d]; omega]; exact ⟨_, rfl⟩
theorem has_eq (op : Int) : r07_has op 65 = some (hasB op 65) := by
  obtain ⟨b, h⟩ := has_some (op := op); rw [hasB, h]; rfl
/-- Whether an instruction writes a register. -/
def wrt (x : Inst) : Bool := eqI (icode x) 0 && hasB x.Op 65
theorem ref_def (x : Inst) : r07_Defines x = some (cond (wrt x) (x.A, true) (0, false)) := by
  rw [r07_Defines, (check_eq 0 x).2, Option.bind_some, has_eq, wrt]
  cases eqI (icode x) 0 <;> cases hasB x.Op 65 <;> rfl
theorem own_def (fuel : Nat) (x : Inst) : inst_Defines (fuel + 8) x = some (cond (wrt x) (x.A, true) (0, false)) := by
  rw [inst_Defines, (check_eq fuel x).1, Option.bind_some, wrt]
  cases h : eqI (icode x) 0
  · rfl
  · obtain ⟨h1, h2⟩ := ic_op (x := x) (by simpa [eqI] using h)
    obtain ⟨r, hr, a, _⟩ := row_ex h1 h2
    have hg : inB (IntKind.i64.wrap (x.Op - 1)) rowsTab.length = true ∧ gd rowsTab ((IntKind.i64.wrap (x.Op - 1)).toNat) = r := by
      revert hr; unfold getI; split
      · rename_i hn; intro hr
        obtain ⟨hl, e⟩ := List.getElem?_eq_some_iff.1 hr
        refine ⟨by rw [inB_d]; simp; omega, ?_⟩
        unfold gd; rw [List.getD_eq_getElem?_getD, hr]; rfl
      · intro hr; cases hr
    rw [hg.1, hg.2, hasB, a]
    cases r.uses.f 0 <;> rfl
theorem hasB_t {op : Int} (h : op = 1 ∨ op = 2 ∨ op = 3) : hasB op 65 = true := by rcases h with rfl | rfl | rfl <;> kernel_rfl
theorem hasB_f {op : Int} (h : op = 4 ∨ op = 5 ∨ op = 6) : hasB op 65 = false := by rcases h with rfl | rfl | rfl <;> kernel_rfl
def cst (a n : Int) : Inst := { Op := 1, A := a, B := 0, C := 0, Obj := 0, N := n, Fn := 0, Order := 0 }
def jmp (n : Int) : Inst := { Op := 4, A := 0, B := 0, C := 0, Obj := 0, N := n, Fn := 0, Order := 0 }
theorem z8 : (0 : Int) ≤ 0 ∧ (0 : Int) < 8 := by decide
theorem z2 : (0 : Int) ≤ 0 ∧ (0 : Int) ≤ 2 := by decide
theorem o22 : (1 : Int) ≤ 1 ∧ (1 : Int) ≤ 22 := by decide
theorem f22 : (1 : Int) ≤ 4 ∧ (4 : Int) ≤ 22 := by decide
theorem cst_ok {a n : Int} (ha : 0 ≤ a ∧ a < 8) (hn : -2147483648 ≤ n ∧ n ≤ 2147483647) : icode (cst a n) = 0 := by
  have := (icode_iff (x := cst a n) o22.1 o22.2 (show r07_has 1 65 = some true by kernel_rfl) (show r07_has 1 66 = some false by kernel_rfl) (show r07_has 1 67 = some false by kernel_rfl) (show r07_has 1 79 = some false by kernel_rfl) (show r07_has 1 78 = some true by kernel_rfl) (show r07_has 1 70 = some false by kernel_rfl) (show r07_has 1 82 = some false by kernel_rfl)).2
    ⟨nofun, fun _ => rfl, fun _ => rfl, fun _ => rfl, nofun, fun _ => rfl, fun _ => rfl, ha, z8, z8, z2, nofun, fun _ => hn⟩
  simpa [eqI] using this
theorem jmp_ok (n : Int) : icode (jmp n) = 0 := by
  have := (icode_iff (x := jmp n) f22.1 f22.2 (show r07_has 4 65 = some false by kernel_rfl) (show r07_has 4 66 = some false by kernel_rfl) (show r07_has 4 67 = some false by kernel_rfl) (show r07_has 4 79 = some false by kernel_rfl) (show r07_has 4 78 = some true by kernel_rfl) (show r07_has 4 70 = some false by kernel_rfl) (show r07_has 4 82 = some false by kernel_rfl)).2
    ⟨fun _ => rfl, fun _ => rfl, fun _ => rfl, fun _ => rfl, nofun, fun _ => rfl, fun _ => rfl, z8, z8, z8, z2, nofun, fun h => absurd (show (4 : Int) = 1 from h) (by decide)⟩
  simpa [eqI] using this

/-- What is known of the registers. -/
abbrev Kn := Int → Option Int
def ksel (K : Kn) (x : Inst) (at_ : Int) : Inst :=
  if x.Op = 2 then (match K x.B with | some v => cst x.A v | none => x)
  else if x.Op = 3 then (match K x.B, K x.C with | some v, some w => cst x.A (app x.Fn v w) | _, _ => x)
  else if x.Op = 5 then (match K x.B with | some v => if v ≠ 0 then jmp x.N else jmp (at_ + 1) | none => x)
  else if x.Op = 6 then (match K x.B with | some v => if v ≠ 0 then jmp (at_ + 1) else x | none => x)
  else x
/-- What an instruction leaves known. -/
def kval (K : Kn) (x : Inst) : Option Int :=
  if x.Op = 1 then some x.N else if x.Op = 2 then K x.B else if x.Op = 3 then (match K x.B, K x.C with | some v, some w => some (app x.Fn v w) | _, _ => none) else none
def kset (K : Kn) (a : Int) (v : Option Int) : Kn := fun j => if j = a then v else K j
def kaft (K : Kn) (x : Inst) : Kn := if wrt x = true then kset K x.A (kval K x) else K
def K0 : Kn := fun _ => none
structure KOk (K : Kn) : Prop where
  b : ∀ j v, K j = some v → -2147483648 ≤ v ∧ v ≤ 2147483647
structure RelM (m : Map Int Int) (K : Kn) : Prop where
  u : uq m
  h : ∀ j, mlk m j = K j
def RelR (r : Arr 8 R15Fact) (K : Kn) : Prop := ∀ k : Nat, k < 8 → K (k : Int) = cond (r.f k).Known (some (r.f k).Value) none
theorem K0_ok : KOk K0 := ⟨fun _ _ h => by cases h⟩
theorem m0 : RelM [] K0 := ⟨by simp [uq], fun _ => rfl⟩
theorem kaft_ok {K : Kn} {x : Inst} (hk : KOk K) (hx : icode x = 0) : KOk (kaft K x) := by
  unfold kaft
  split
  · refine ⟨fun j v h => ?_⟩
    unfold kset at h
    split at h
    · unfold kval at h
      split at h
      · cases h; exact (ic_regs hx).N ‹_›
      · split at h
        · exact hk.b _ _ h
        · split at h
          · split at h
            · cases h; obtain ⟨a, b⟩ := (ic_regs hx).F ‹_›; exact (app_eq a b _ _).2
            · cases h
          · cases h
    · exact hk.b _ _ h
  · exact hk
theorem relM_put {m : Map Int Int} {K : Kn} (h : RelM m K) (a v : Int) : RelM (mpt m a v) (kset K a (some v)) := by
  refine ⟨uq_mpt h.u, fun j => ?_⟩
  rw [mlk_mpt, h.h, kset]
  by_cases e : j = a
  · rw [if_pos e, if_pos e.symm]
  · rw [if_neg (Ne.symm e), if_neg e]
theorem relM_del {m : Map Int Int} {K : Kn} (h : RelM m K) (a : Int) : RelM (mdl m a) (kset K a none) := by
  refine ⟨uq_mdl h.u, fun j => ?_⟩
  rw [mlk_mdl _ _ h.u, h.h, kset]
  by_cases e : j = a
  · rw [if_pos e, if_pos e.symm]
  · rw [if_neg (Ne.symm e), if_neg e]
theorem both_eq {m : Map Int Int} {K : Kn} (h : RelM m K) {x : Inst} (hx : icode x = 0) (h3 : x.Op = 3) : simplify_known_both m x = some (match K x.B, K x.C with | some v, some w => (app x.Fn v w, true) | _, _ => (0, false)) := by
  rw [simplify_known_both]
  simp only [mhas, mval, h.h]
  obtain ⟨a, b⟩ := (ic_regs hx).F h3
  cases K x.B with
  | none => simp [orB]
  | some v =>
    cases K x.C with
    | none => simp [orB]
    | some w => simp [orB, (app_eq a b v w).1, eqI]
theorem own_fold {m : Map Int Int} {K : Kn} (h : RelM m K) {x : Inst} (hx : icode x = 0) {k : Nat} (hk : k ≤ 100) : simplify_known_fold m x (k : Int) = some (ksel K x (k : Int)) := by
  rw [simplify_known_fold, wrapS (by omega)]
  simp only [mhas, mval, h.h, ksel, eqI_d, cond_eq_ite, decide_eq_true_eq]
  by_cases h2 : x.Op = 2
  · simp only [h2, if_true]; cases K x.B <;> rfl
  · simp only [h2, if_false]
    by_cases h3 : x.Op = 3
    · simp only [h3, if_true]
      rw [both_eq h hx h3]
      cases K x.B with
      | none => rfl
      | some v => cases K x.C <;> rfl
    · simp only [h3, if_false]
      by_cases h5 : x.Op = 5
      · simp only [h5, if_true]
        cases hb : K x.B with
        | none => simp [andB]
        | some v => by_cases hv : v = 0 <;> simp [andB, orB, hv, jmp]
      · simp only [h5, if_false]
        by_cases h6 : x.Op = 6
        · simp only [h6, if_true]
          cases hb : K x.B with
          | none => simp [andB]
          | some v => by_cases hv : v = 0 <;> simp [andB, orB, hv, jmp]
        · simp only [h6, if_false]
theorem own_after (fuel : Nat) {m : Map Int Int} {K : Kn} (h : RelM m K) {x : Inst} (hx : icode x = 0) : ∃ m', simplify_known_after (fuel + 8) m x = some m' ∧ RelM m' (kaft K x) := by
  rw [simplify_known_after, own_def, Option.bind_some, kaft]
  cases hw : wrt x
  · exact ⟨m, rfl, by simpa using h⟩
  · simp only [if_true, cond_true, Bool.not_true, cond_false]
    simp only [mhas, mval, h.h, kval, eqI_d, cond_eq_ite, decide_eq_true_eq]
    by_cases h1 : x.Op = 1
    · simp only [h1, if_true]; exact ⟨_, rfl, relM_put h _ _⟩
    · simp only [h1, if_false]
      by_cases h2 : x.Op = 2
      · simp only [h2, if_true]
        cases hb : K x.B with
        | none => exact ⟨_, rfl, relM_del h _⟩
        | some v => exact ⟨_, rfl, relM_put h _ _⟩
      · simp only [h2, if_false]
        by_cases h3 : x.Op = 3
        · simp only [h3, if_true]
          rw [both_eq h hx h3]
          cases hb : K x.B with
          | none => exact ⟨_, rfl, relM_del h _⟩
          | some v =>
            cases hc : K x.C with
            | none => exact ⟨_, rfl, relM_del h _⟩
            | some w => exact ⟨_, rfl, relM_put h _ _⟩
        · simp only [h3, if_false]; exact ⟨_, rfl, relM_del h _⟩
/-- What the reference does with its facts. -/
def rupd (r : Arr 8 R15Fact) (y : Inst) : Arr 8 R15Fact :=
  if wrt y = true then (if y.Op = 1 then (r.set y.A.toNat { Known := true, Value := 0 }).set y.A.toNat { Known := true, Value := y.N } else r.set y.A.toNat { Known := false, Value := 0 }) else r
theorem wrt_of {x : Inst} (h : icode x = 0) : wrt x = hasB x.Op 65 := by rw [wrt, h]; rfl
/-- The code that Fold makes. -/
def foldC (f : Func) : List Inst → Nat → Kn → List Inst
  | [], _, _ => []
  | x :: q, k, K => let K' := if lead f k = true then K0 else K; ksel K' x (k : Int) :: foldC f q (k + 1) (kaft K' x)
def foldF (f : Func) : Func := { f with Code := foldC f f.Code 0 K0 }
theorem foldC_len (f : Func) : ∀ (q : List Inst) (k : Nat) (K : Kn), (foldC f q k K).length = q.length
  | [], _, _ => rfl
  | x :: q, k, K => by rw [foldC, List.length_cons, List.length_cons, foldC_len f q]
theorem own_loop (fuel : Nat) {f : Func} (hf : Fok f) (e : Int) : ∀ (q : List Inst) (k : Nat) (l : List Inst) (m : Map Int Int) (K : Kn), k + q.length = f.Code.length → l.length = k → (∀ x ∈ q, icode x = 0) → RelM m K →
    simplify_Fold_L1 (fuel + 8) (ldL f, e) q k l m = some (l ++ foldC f q k K)
  | [], k, l, m, K, _, _, _, _ => by rw [simplify_Fold_L1, foldC, List.append_nil]
  | x :: q, k, l, m, K, hk, hl, hx, hm => by
    have hlen := hf.len
    rw [List.length_cons] at hk
    have hx0 := hx x List.mem_cons_self
    have hxq := fun y hy => hx y (List.mem_cons_of_mem _ hy)
    have step : ∀ (m : Map Int Int) (K : Kn), RelM m K → ∃ m', simplify_known_fold m x (k : Int) = some (ksel K x k) ∧ simplify_known_after (fuel + 8) m x = some m' ∧ simplify_Fold_L1 (fuel + 8) (ldL f, e) q (k + 1) (l ++ [ksel K x k]) m' = some (l ++ (ksel K x k :: foldC f q (k + 1) (kaft K x))) := by
      intro m K hm
      obtain ⟨m', e1, h1⟩ := own_after fuel hm hx0
      refine ⟨m', own_fold hm hx0 (by omega), e1, ?_⟩
      rw [own_loop fuel hf e q (k + 1) _ m' _ (by omega) (by simp; omega) hxq h1, List.append_assoc]; rfl
    have hlim : limB 64 (l.length + 1) = true := limB_small (by decide) (by omega)
    rw [simplify_Fold_L1, contains_ld (by omega), Option.bind_some, foldC]
    cases lead f k
    · obtain ⟨m', a, b, c⟩ := step m K hm
      rw [cond_false, a, Option.bind_some, Option.bind_some, List.length_singleton, hlim, guardO_t, Option.bind_some, b, Option.bind_some, c]; rfl
    · obtain ⟨m', a, b, c⟩ := step [] K0 m0
      rw [cond_true, a, Option.bind_some, Option.bind_some, List.length_singleton, hlim, guardO_t, Option.bind_some, b, Option.bind_some, c]; rfl
theorem own_Fold (fuel : Nat) (f : Func) : simplify_Fold (fuel + 8) f = some (if fck f = 0 then (foldF f, 0) else ({ Name := ⟨#[]⟩, Code := [] }, fck f)) := by
  rw [simplify_Fold, cfg_leaders, Option.bind_some]
  by_cases h : fck f = 0
  · rw [if_pos h, if_pos h]
    show cond (!(eqI 0 0)) _ _ = _
    rw [show (!(eqI 0 0)) = false from rfl, cond_false, own_loop fuel (fck_iff.1 h) 0 f.Code 0 [] [] K0 (by omega) rfl (fck_iff.1 h).ic m0]; rfl
  · rw [if_neg h, if_neg h]
    show cond (!(eqI (fck f) 0)) _ _ = _
    rw [show (!(eqI (fck f) 0)) = true by simp [eqI_d, h], cond_true]
end Go.Dc.Pl
end
section
set_option linter.all false
namespace Go.Dc
open Go Go.Hw Go.Proofs
set_option maxRecDepth 100000

def cfg_successors (a0 : Func) (a1 : Int) : Option (Func × Int) :=
  some (a0, a1)

set_option maxHeartbeats 2000000 in
theorem at_cfg_successors {a0 : Func} {a1 : Int} {r : Func × Int} (hs : cfg_successors a0 a1 = some r) : At Tryd.prog 155 [.agg (eA a0), iV .i64 a1] (.cell (.fn 182 [.inr (.bx [.c (.string r.1.Name), .sl r.1.Code.length (encL r.1.Code)]), .inr (.bx [.c (.int .i64 r.2)])])) := by
  refine at_bound (by kernel_rfl) fun hb => ?_
  have hb1 : LenOk (.sl a0.Code.length (encL a0.Code)) := lkc hb
  refine at_code mixed Tryd.func155 (by kernel_rfl) rfl (by kernel_rfl) rfl fun Q hQ => ?_
  rw [cfg_successors] at hs
  refine goR f0 ?_
  obtain rfl := sj hs
  exact hQ _ _ (rg f0 ((Gh.frz _ (.o 1 0 0)).trans (Gh.frz _ (.o 1 1 0))))
end Go.Dc
end
section
set_option linter.all false
namespace Go.Dc
open Go Go.Hw Go.Proofs
set_option maxRecDepth 100000
def it_successors (f : Func) (n : Int) : Option (List Int) :=
  Option.bind (getI f.Code n) fun x => cond (eqI x.Op 4) (some [x.N]) (cond (eqI x.Op 5) (some ((if IntKind.i64.wrap (n + 1) < x.N then IntKind.i64.wrap (n + 1) else x.N) :: cond (!(eqI (if IntKind.i64.wrap (n + 1) < x.N then IntKind.i64.wrap (n + 1) else x.N) (if IntKind.i64.wrap (n + 1) > x.N then IntKind.i64.wrap (n + 1) else x.N))) [if IntKind.i64.wrap (n + 1) > x.N then IntKind.i64.wrap (n + 1) else x.N] []))
    (cond (eqI x.Op 7) (some [((f.Code.length : Nat) : Int)]) (some [IntKind.i64.wrap (n + 1)])))
abbrev sucEv : Int → List EV := fun y => ([.cell (.c (.int .i64 y))] : List EV)
set_option maxHeartbeats 2000000 in
theorem seq_successors {f : Func} {n : Int} {xs : List Int} (h : it_successors f n = some xs) : SeqAt Tryd.prog 182 [.cell (.p (.bx [.c (.string f.Name), .sl f.Code.length (encL f.Code)])), .cell (.p (.bx [.c (.int .i64 n)]))] (xs.map sucEv) := by
  obtain ⟨x, hx, h⟩ := bindO h
  obtain ⟨hxa, hxb, hxc, hxd⟩ := getI_some hx
  refine seq_unbx (by simp; rfl) ?_
  refine seq_code mixed Tryd.func182 (by kernel_rfl) rfl (by kernel_rfl) rfl fun ℓ Q hQ => ?_
  have f1 : partCV Tryd.prog 83 (encL f.Code) (n.toNat * 8) = some (.agg (eA x)) := partCV_enc hxd (f := 0) (by simp)
  have F := an f1 (an hxa hxb)
  refine goR F ?_
  revert h; refine cS F ?_ ?_ <;> intro h1 h
  · refine goR F ?_
    obtain rfl := sj h
    refine ⟨_, ⟨_, rfl, rfl⟩, rfl, ?_, ?_⟩
    · refine goR F ?_
      exact hQ _ _ (seqPost_end (.inl rfl) (by simp; rfl) (by simp; first | exact ⟨rfl, rfl⟩ | exact ⟨rfl, rfl, rfl⟩ | rfl) (by simp))
    · refine goR F ?_
      exact hQ _ _ (seqPost_end (.inl rfl) (by simp; rfl) (by simp; first | exact ⟨rfl, rfl⟩ | exact ⟨rfl, rfl, rfl⟩ | rfl) (by simp))
  · refine goR F ?_
    revert h; refine cS F ?_ ?_ <;> intro h2 h
    · refine goD F ?_
      simp only [gt_iff_lt] at h
      generalize (if IntKind.i64.wrap (n + 1) < x.N then IntKind.i64.wrap (n + 1) else x.N) = lo at h ⊢
      generalize (if x.N < IntKind.i64.wrap (n + 1) then IntKind.i64.wrap (n + 1) else x.N) = hi at h ⊢
      cases hq : eqI lo hi
      · simp only [hq, Bool.not_false, cond_true] at h
        obtain rfl := sj h
        refine ⟨_, ⟨_, rfl, rfl⟩, rfl, ?_, ?_⟩
        · refine condK_t rfl ?_
          refine goR F ?_
          refine ⟨?_, ?_⟩
          · exact hQ _ _ (seqPost_end (.inl rfl) (by simp; rfl) (by simp; first | exact ⟨rfl, rfl⟩ | exact ⟨rfl, rfl, rfl⟩ | rfl) (by simp))
          · exact hQ _ _ (seqPost_end (.inl rfl) (by simp; rfl) (by simp; first | exact ⟨rfl, rfl⟩ | exact ⟨rfl, rfl, rfl⟩ | rfl) (by simp))
        · refine goR F ?_
          exact hQ _ _ (seqPost_end (.inl rfl) (by simp; rfl) (by simp; first | exact ⟨rfl, rfl⟩ | exact ⟨rfl, rfl, rfl⟩ | rfl) (by simp))
      · simp only [hq, Bool.not_true, cond_false] at h
        obtain rfl := sj h
        refine ⟨_, ⟨_, rfl, rfl⟩, rfl, ?_, ?_⟩
        · refine condK_f rfl ?_
          refine goR F ?_
          exact hQ _ _ (seqPost_end (.inl rfl) (by simp; rfl) (by simp; first | exact ⟨rfl, rfl⟩ | exact ⟨rfl, rfl, rfl⟩ | rfl) (by simp))
        · refine goR F ?_
          exact hQ _ _ (seqPost_end (.inl rfl) (by simp; rfl) (by simp; first | exact ⟨rfl, rfl⟩ | exact ⟨rfl, rfl, rfl⟩ | rfl) (by simp))
    · refine goR F ?_
      revert h; refine cS F ?_ ?_ <;> intro h3 h
      · refine goR F ?_
        obtain rfl := sj h
        refine ⟨_, ⟨_, rfl, rfl⟩, rfl, ?_, ?_⟩
        · refine goR F ?_
          exact hQ _ _ (seqPost_end (.inl rfl) (by simp; rfl) (by simp; first | exact ⟨rfl, rfl⟩ | exact ⟨rfl, rfl, rfl⟩ | rfl) (by simp))
        · refine goR F ?_
          exact hQ _ _ (seqPost_end (.inl rfl) (by simp; rfl) (by simp; first | exact ⟨rfl, rfl⟩ | exact ⟨rfl, rfl, rfl⟩ | rfl) (by simp))
      · refine goR F ?_
        obtain rfl := sj h
        refine ⟨_, ⟨_, rfl, rfl⟩, rfl, ?_, ?_⟩
        · refine goR F ?_
          exact hQ _ _ (seqPost_end (.inl rfl) (by simp; rfl) (by simp; first | exact ⟨rfl, rfl⟩ | exact ⟨rfl, rfl, rfl⟩ | rfl) (by simp))
        · refine goR F ?_
          exact hQ _ _ (seqPost_end (.inl rfl) (by simp; rfl) (by simp; first | exact ⟨rfl, rfl⟩ | exact ⟨rfl, rfl, rfl⟩ | rfl) (by simp))
end Go.Dc
end
section
set_option linter.all false
namespace Go.Dc
open Go Go.Hw Go.Proofs
set_option maxRecDepth 100000
def cfg_visit_L2 (a0 : Func) (a1 : Int) : List Int → (List Int) → (Map Int Bool) → Option ((List Int) × (Map Int Bool))
  | [], l315, m316 => some ((l315, m316))
  | y304 :: q336, l315, m316 => cond (andB (andB (ltI y304 ((a0.Code.length : Nat) : Int)) (!(eqI y304 a1))) (!(mval m316 y304 false))) (Option.bind (some (mpt m316 y304 true)) (fun m338 => Option.bind (some ([y304])) (fun l341 => guardO (limB 8 (l315.length + l341.length)) (Option.bind (some (l315 ++ l341)) (fun l344 => cfg_visit_L2 a0 a1 q336 l344 m338))))) (cfg_visit_L2 a0 a1 q336 l315 m316)

def cfg_visit_L1 (a0 : Func) (a1 : Int) : Nat → (List Int) → (Map Int Bool) → Option (Map Int Bool)
  | 0, _, _ => none
  | q288 + 1, l234, m235 => cond (ltI 0 ((l234.length : Nat) : Int)) (Option.bind (getI l234 (IntKind.i64.wrap (((l234.length : Nat) : Int) - 1))) (fun x293 => guardO (slB 0 (IntKind.i64.wrap (((l234.length : Nat) : Int) - 1)) l234.length) (Option.bind (some (subL l234 0 (IntKind.i64.wrap (((l234.length : Nat) : Int) - 1)))) (fun l297 => Option.bind (cfg_successors a0 x293) (fun y300 => Option.bind (it_successors y300.1 y300.2) (fun xs302 => Option.bind (cfg_visit_L2 a0 a1 xs302 l297 m235) (fun o => match o with | (l327, m328) => cfg_visit_L1 a0 a1 q288 l327 m328))))))) (some (m235))

def cfg_visit (fuelN : Nat) (a0 : Func) (a1 : Int) : Option (Map Int Bool) :=
  cond (orB (eqI ((a0.Code.length : Nat) : Int) 0) (eqI a1 0)) (some ([] : Map Int Bool)) (Option.bind (some (mpt ([] : Map Int Bool) 0 true)) (fun m2 => Option.bind (some ([0])) (fun l5 => Option.bind (α := (Map Int Bool)) (Option.bind (cfg_visit_L1 a0 a1 fuelN l5 m2) (fun m281 => some (m281))) (fun m174 => some m174))))

set_option maxHeartbeats 2000000 in
theorem at_cfg_visit {fuelN : Nat} {a0 : Func} {a1 : Int} {r : (Map Int Bool)} (hs : cfg_visit fuelN a0 a1 = some r) : CAt Tryd.prog 115 [.agg (eA a0), iV .i64 a1] [] (.ret (.cell (.mp (.r 0)))) [(.r 0, .map (mK r) (mV r))] := by
  refine at_bound (by kernel_rfl) fun hb => ?_
  have hb1 : LenOk (.sl a0.Code.length (encL a0.Code)) := lkc hb
  refine at_code mixed Tryd.func115 (by kernel_rfl) rfl (by kernel_rfl) rfl fun Q hQ => ?_
  rw [cfg_visit] at hs
  refine goG f0 f0 ?_
  revert hs; refine cS f0 ?_ ?_ <;> intro h1 hs
  · refine goG f0 f0 ?_
    obtain rfl := sj hs
    refine hQ _ _ (ret2g _ (Gh.ren _ (.o 2 0 0) (.r 0) (by simp) rfl rfl) (by simp [St.frz, St.pur]; rfl) (by first | rfl | (simp [St.frz, St.pur]; done) | (rw [if_pos (by first | omega | (simp; omega))]; simp [St.frz, St.pur]; first | omega | exact List.take_of_length_le (by simp; omega) | skip)) (pv f0))
  · revert hs; refine lK fun m2 hx3 hs => ?_
    have f4 := hx3.symm
    try push_cast at f4
    revert hs; refine lK fun l5 hx6 hs => ?_
    have hx6n : l5.length = 1 := by rw [hx6]; rfl
    have F1 := an f4 hx6
    refine goG2 F1 F1 ?_
    revert hs; refine bK fun o176 e175 hs => ?_
    refine awp_cutK (fun (v : (Map Int Bool)) (σ : St) => some (v) = some o176 ∧ σ.env 5 = .cell (.ref (.o 2 1 0) 0) ∧ σ.hp (.o 2 1 0) = some (.cells [.mp (.o 2 0 0)]) ∧ σ.hp (.o 2 0 0) = some (.map (mK v) (mV v)) ∧ 5 ≤ σ.gen) (by rfl) (fun Q hK177 hX178 => ?_) (fun m174 σ6 hp => ?_)
    · refine goG F1 F1 ?_
      revert e175; refine bK fun o283 e282 e175 => ?_
      refine awp_loopW (fun (v : Nat × (List Int) × (Map Int Bool)) (σ : St) => cfg_visit_L1 a0 a1 v.1 v.2.1 v.2.2 = some o283 ∧ σ.env 2 = .cell (.ref (.o 1 0 0) 0) ∧ σ.env 3 = .cell (.ref (.o 1 1 0) 0) ∧ σ.env 5 = .cell (.ref (.o 2 1 0) 0) ∧ σ.env 6 = .cell (.ref (.o 5 1 0) 0) ∧ σ.hp (.o 1 0 0) = some (.cells (eA a0)) ∧ σ.hp (.o 1 1 0) = some (.cells [nC a1]) ∧ σ.hp (.o 2 1 0) = some (.cells [.mp (.o 2 0 0)]) ∧ σ.hp (.l 15) = some (.pure (encL v.2.1)) ∧ σ.hp (.o 5 1 0) = some (.cells [.sl (.l 15) 0 1 v.2.1.length]) ∧ σ.hp (.o 2 0 0) = some (.map (mK v.2.2) (mV v.2.2)) ∧ 5 ≤ σ.gen) (fun v => v.1) _ (Gh.ren _ (.o 5 0 0) (.l 15) (by simp) rfl rfl) (fuelN, l5, m2) ⟨e282, pv F1, pv F1, pv F1, pv F1, pv F1, pv F1, pv F1, pv F1, pv F1, pv F1, pg⟩ fun v σ11 hp L284 hL285 => ?_
      obtain ⟨q287, l234, m235⟩ := v
      dsimp only at hp hL285
      obtain ⟨e282, h10_2, h10_3, h10_5, h10_6, g10_0, g10_1, g10_2, g10_3, g10_4, g10_5, n10_g⟩ := hp
      have n10_0 : ¬ (σ11.gen = 0) := by omega
      have n10_1 : ¬ (σ11.gen = 1) := by omega
      have n10_2 : ¬ (σ11.gen = 2) := by omega
      have n10_3 : ¬ (σ11.gen = 3) := by omega
      have n10_4 : ¬ (σ11.gen = 4) := by omega
      rcases q287 with _ | q288
      · rw [cfg_visit_L1] at e282; cases e282
      · rw [cfg_visit_L1] at e282; try dsimp only at e282
        have F2 := an h10_2 (an h10_3 (an h10_5 (an h10_6 (an g10_0 (an g10_1 (an g10_2 (an g10_3 (an g10_4 (an g10_5 (an n10_0 (an n10_1 (an n10_2 (an n10_3 n10_4)))))))))))))
        refine goR F2 ?_
        revert e282; refine cS F2 ?_ ?_ <;> intro h292 e282
        · revert e282; refine bK fun x293 hx294 e282 => ?_
          obtain ⟨hx294a, hx294b, hx294c, hx294d⟩ := getI_some hx294
          have f295 : partCV Tryd.prog 3 (encL l234) ((IntKind.i64.wrap (((l234.length : Nat) : Int) - 1)).toNat) = some (iV .i64 x293) := partCV_enc1 hx294d (by simp)
          obtain ⟨g296, e282⟩ := guardO_some e282
          obtain ⟨g296a, g296b, g296c⟩ := slB_t g296
          revert e282; refine lK fun l297 hx298 e282 => ?_
          have f299n : l297.length = (IntKind.i64.wrap (((l234.length : Nat) : Int) - 1) - 0).toNat := by rw [hx298]; exact subL_len ⟨g296a, g296b, g296c⟩
          have f299e : ((encL l234).drop ((0 : Int).toNat * 1)).take ((IntKind.i64.wrap (((l234.length : Nat) : Int) - 1) - 0).toNat * 1) = encL l297 := by rw [hx298]; exact subL_enc (α := Int)
          try simp at f299n
          try simp at f299e
          have f299k : (encL l234).take ((IntKind.i64.wrap (((l234.length : Nat) : Int) - 1)).toNat) = encL l297 := by rw [hx298]; simpa [subL] using encL_take l234 (IntKind.i64.wrap (((l234.length : Nat) : Int) - 1)).toNat
          have f299l : (encL l297).take ((IntKind.i64.wrap (((l234.length : Nat) : Int) - 1)).toNat) = encL l297 := by rw [← f299k, List.take_take, Nat.min_self]
          try simp at f299k
          try simp at f299l
          have F3 := an F2 (an f295 (an g296a (an g296b (an g296c (an f299n (an f299e (an f299k f299l)))))))
          refine goN F3 ?_
          refine awp_reg ?_
          refine goN F3 ?_
          refine awp_reg ?_
          refine goN F3 ?_
          refine awp_gh (by rfl) (Gh.cut _ (.l 15) ((IntKind.i64.wrap (((l234.length : Nat) : Int) - 1)).toNat)) ?_
          try simp only [St.frz, St.pur]
          refine goR F3 ?_
          revert e282; refine bK fun y300 hx301 e282 => ?_
          refine cP F3 (at_cfg_successors hx301) ?_
          refine goR F3 ?_
          revert e282; refine bK fun xs302 hx303 e282 => ?_
          revert e282; refine bK fun o330 e329 e282 => ?_
          refine awp_range (gf := 182) (cs := [.bx [.c (.string y300.1.Name), .sl y300.1.Code.length (encL y300.1.Code)], .bx [.c (.int .i64 y300.2)]]) (xs302.map (fun (y : Int) => ([.cell (.c (.int .i64 y))] : List EV))) (fun (k331 : Nat) (hp332 : Go.Hw.Id → Option Blk) (gen333 : Nat) => ∃ v : (List Int) × (Map Int Bool), cfg_visit_L2 a0 a1 (xs302.drop k331) v.1 v.2 = some o330 ∧ hp332 (.o 1 0 0) = some (.cells (eA a0)) ∧ hp332 (.o 1 1 0) = some (.cells [nC a1]) ∧ hp332 (.o 2 1 0) = some (.cells [.mp (.o 2 0 0)]) ∧ hp332 (.l 19) = some (.pure (encL v.1)) ∧ hp332 (.o 5 1 0) = some (.cells [.sl (.l 19) 0 1 v.1.length]) ∧ hp332 (.o 2 0 0) = some (.map (mK v.2) (mV v.2)) ∧ (σ11.gen + 4) ≤ gen333) _ (Gh.ren _ (.l 15) (.l 19) (by simp) rfl rfl) (pv F3) (seq_successors hx303) (fun x hx => by obtain ⟨y, _, rfl⟩ := List.mem_map.1 hx; rfl) ⟨(l297, m235), e329, pv F3, pv F3, pv F3, pv F3, pv F3, pv F3, pg⟩ (fun k331 x hp332 gen333 hx hI => ?_) (fun hp332 gen333 hI => ?_)
          · obtain ⟨⟨l315, m316⟩, e329, g12_0, g12_1, g12_2, g12_3, g12_4, g12_5, n12_g⟩ := hI
            try dsimp only at e329 g12_0 g12_1 g12_2 g12_3 g12_4 g12_5 n12_g
            obtain ⟨y304, hy334, rfl⟩ := map_get hx
            rw [drop_at hy334, cfg_visit_L2] at e329; try dsimp only at e329
            have n12_0 : ¬ (gen333 = 0) := by omega
            have n12_1 : ¬ (gen333 = 1) := by omega
            have n12_2 : ¬ (gen333 = 2) := by omega
            have n12_3 : ¬ (gen333 = 3) := by omega
            have n12_4 : ¬ (gen333 = 4) := by omega
            have F4 := an h10_2 (an h10_3 (an h10_5 (an h10_6 (an n10_0 (an n10_1 (an n10_2 (an n10_3 (an n10_4 (an g12_0 (an g12_1 (an g12_2 (an g12_3 (an g12_4 (an g12_5 (an n12_0 (an n12_1 (an n12_2 (an n12_3 (an n12_4 (an f295 (an g296a (an g296b (an g296c (an f299n (an f299e (an f299k f299l))))))))))))))))))))))))))
            have F5 := an F4 (an hx294a hx294b)
            refine goG F4 F5 ?_
            revert e329; refine cS F4 ?_ ?_ <;> intro h337 e329
            · revert e329; refine lK fun m338 hx339 e329 => ?_
              have f340 := hx339.symm
              try push_cast at f340
              revert e329; refine lK fun l341 hx342 e329 => ?_
              have hx342n : l341.length = 1 := by rw [hx342]; rfl
              obtain ⟨g343, e329⟩ := guardO_some e329
              have g343 := limB_t g343
              obtain ⟨g343a, g343b⟩ := g343
              revert e329; refine lK fun l344 hx345 e329 => ?_
              have hx345n : l344.length = (l315.length + l341.length) := by rw [hx345]; simp
              have hx345e : encL l344 = encL l315 ++ encL l341 := by rw [hx345]; simp
              have F6 := an F4 (an f340 (an hx342 (an hx345n hx345e)))
              have F7 := an F6 (an hx294a hx294b)
              refine goG F6 F7 ?_
              refine rPost_gh (Gh.ren _ (.o (gen333 + 4) 3 0) (.l 19) (by simp) rfl rfl) ⟨l344, m338, e329, pv F6, pv F6, pv F6, pv F6, pv F6, pv F6, pg⟩
            · refine goG F4 F5 ?_
              refine rPost_gh (Gh.refl _) ⟨l315, m316, e329, pv F4, pv F4, pv F4, pv F4, pv F4, pv F4, pg⟩
          · obtain ⟨⟨l315, m316⟩, e329, g12_0, g12_1, g12_2, g12_3, g12_4, g12_5, n12_g⟩ := hI
            try dsimp only at e329 g12_0 g12_1 g12_2 g12_3 g12_4 g12_5 n12_g
            rw [show xs302.drop (xs302.map (fun (y : Int) => ([.cell (.c (.int .i64 y))] : List EV))).length = [] by simp, cfg_visit_L2] at e329; try dsimp only at e329
            have n12_0 : ¬ (gen333 = 0) := by omega
            have n12_1 : ¬ (gen333 = 1) := by omega
            have n12_2 : ¬ (gen333 = 2) := by omega
            have n12_3 : ¬ (gen333 = 3) := by omega
            have n12_4 : ¬ (gen333 = 4) := by omega
            obtain rfl := sj e329
            try dsimp only at e282
            have F8 := an h10_2 (an h10_3 (an h10_5 (an h10_6 (an n10_0 (an n10_1 (an n10_2 (an n10_3 (an n10_4 (an g12_0 (an g12_1 (an g12_2 (an g12_3 (an g12_4 (an g12_5 (an n12_0 (an n12_1 (an n12_2 (an n12_3 (an n12_4 (an f295 (an g296a (an g296b (an g296c (an f299n (an f299e (an f299k f299l))))))))))))))))))))))))))
            refine goR F8 ?_
            exact hL285 (q288, l315, m316) _ _ (Gh.ren _ (.l 19) (.l 15) (by simp) rfl rfl) ⟨e282, pv F8, pv F8, pv F8, pv F8, pv F8, pv F8, pv F8, pv F8, pv F8, pv F8, pg⟩ (by omega)
        · refine goR F2 ?_
          obtain rfl := sj e282
          try dsimp only at e175
          exact hK177 m235 _ _ (Gh.refl _) ⟨e175, pv F2, pv F2, pv F2, pg⟩
    · obtain ⟨e175, h7_5, g7_0, g7_1, n7_g⟩ := hp
      obtain rfl := sj e175
      try dsimp only at hs
      have n7_0 : ¬ (σ6.gen = 0) := by omega
      have n7_1 : ¬ (σ6.gen = 1) := by omega
      have F9 := an h7_5 (an g7_0 (an g7_1 (an n7_0 n7_1)))
      refine goG F9 F9 ?_
      obtain rfl := sj hs
      refine hQ _ _ (ret2g _ (Gh.ren _ (.o 2 0 0) (.r 0) (by simp) rfl rfl) (by simp [St.frz, St.pur, F9]; rfl) (by first | rfl | (simp [St.frz, St.pur, F9]; done) | (rw [if_pos (by first | omega | (simp; omega))]; simp [St.frz, St.pur, F9]; first | omega | exact List.take_of_length_le (by simp; omega) | skip)) (pv F9))
end Go.Dc
end
section
set_option linter.all false
namespace Go.Dc
open Go Go.Hw Go.Proofs
set_option maxRecDepth 100000

def cfg_Reach (fuelN : Nat) (a0 : Func) : Option ((List Int) × Int) :=
  Option.bind (cfg_check fuelN a0) (fun y1 => cond (!(eqI y1 0)) (some ([], y1)) (Option.bind (cfg_visit fuelN a0 (-1)) (fun y8 => Option.bind (cfg_sorted a0 y8) (fun y10 => some (y10, 0)))))

set_option maxHeartbeats 2000000 in
theorem at_cfg_Reach {fuelN : Nat} {a0 : Func} {r : (List Int) × Int} (hs : cfg_Reach fuelN a0 = some r) : At Tryd.prog 61 [.agg (eA a0)] (.tup [.cell (sC r.1), iV .i64 r.2]) := by
  refine at_bound (by kernel_rfl) fun hb => ?_
  have hb1 : LenOk (.sl a0.Code.length (encL a0.Code)) := lkc hb
  refine at_code mixed Tryd.func61 (by kernel_rfl) rfl (by kernel_rfl) rfl fun Q hQ => ?_
  rw [cfg_Reach] at hs
  refine goR f0 ?_
  revert hs; refine bK fun y1 hx2 hs => ?_
  refine cP f0 (at_cfg_check hx2) ?_
  refine goR f0 ?_
  revert hs; refine cS f0 ?_ ?_ <;> intro h3 hs
  · refine goR f0 ?_
    obtain rfl := sj hs
    exact hQ _ _ (rg f0 (Gh.unz _))
  · refine goD f0 ?_
    revert hs; refine bK fun y8 hx9 hs => ?_
    refine cA f0 (at_cfg_visit hx9) ?_
    refine goD f0 ?_
    revert hs; refine bK fun y10 hx11 hs => ?_
    refine cB f0 (at_cfg_sorted hx11) [.o 4 2 0] ?_
    refine goD f0 ?_
    obtain rfl := sj hs
    exact hQ _ _ (rg f0 (Gh.refl _))
end Go.Dc
end
section
set_option linter.all false
namespace Go.Dc
open Go Go.Hw Go.Proofs
set_option maxRecDepth 100000
def simplify_Prune_L2 (x4073 : Inst) : List Int → Int → Nat → Option Int
  | [], i4229, k4230 => some (i4229)
  | x4248 :: q4244, i4229, k4230 => cond (ltI x4248 x4073.N) (simplify_Prune_L2 x4073 q4244 (IntKind.i64.wrap (i4229 + 1)) (k4230 + 1)) (simplify_Prune_L2 x4073 q4244 i4229 (k4230 + 1))

def simplify_Prune_L1 (a0 : Func) (y1 : (List Int) × Int) : Nat → Int → (List Inst) → Option (List Inst)
  | 0, _, _ => none
  | q3872 + 1, i3403, l3404 => cond (ltI i3403 ((y1.1.length : Nat) : Int)) (Option.bind (α := (List Inst)) (Option.bind (getI y1.1 i3403) (fun x4070 => Option.bind (getI a0.Code x4070) (fun x4073 => Option.bind (α := Int) (cond (orB (eqI x4073.Op 4) (eqI x4073.Op 5)) (Option.bind (α := Int) (guardO (lenB y1.1.length) (Option.bind (simplify_Prune_L2 x4073 y1.1 0 0) (fun i4237 => some (i4237)))) (fun i4208 => some (i4208))) (some (x4073.N))) (fun i4162 => Option.bind (some ([{ x4073 with N := i4162 }])) (fun l4253 => guardO (limB 64 (l3404.length + l4253.length)) (Option.bind (some (l3404 ++ l4253)) (fun l4256 => some (l4256)))))))) (fun l4065 => simplify_Prune_L1 a0 y1 q3872 (IntKind.i64.wrap (i3403 + 1)) l4065)) (some (l3404))

def simplify_Prune (fuelN : Nat) (a0 : Func) : Option (Func × Int) :=
  Option.bind (cfg_Reach fuelN a0) (fun y1 => cond (!(eqI y1.2 0)) (some (({ Name := (⟨#[]⟩ : ByteArray), Code := [] } : Func), y1.2)) (Option.bind (α := (List Inst)) (Option.bind (simplify_Prune_L1 a0 y1 fuelN 0 []) (fun l3865 => some (l3865))) (fun l2129 => some ({ a0 with Code := l2129 }, 0))))

set_option maxHeartbeats 2000000 in
theorem at_simplify_Prune {fuelN : Nat} {a0 : Func} {r : Func × Int} (hs : simplify_Prune fuelN a0 = some r) : At Tryd.prog 21 [.agg (eA a0)] (.tup [.agg (eA r.1), iV .i64 r.2]) := by
  refine at_bound (by kernel_rfl) fun hb => ?_
  have hb1 : LenOk (.sl a0.Code.length (encL a0.Code)) := lkc hb
  refine at_code mixed Tryd.func21 (by kernel_rfl) rfl (by kernel_rfl) rfl fun Q hQ => ?_
  rw [simplify_Prune] at hs
  refine goR f0 ?_
  revert hs; refine bK fun y1 hx2 hs => ?_
  refine cP f0 (at_cfg_Reach hx2) ?_
  refine goR f0 ?_
  revert hs; refine cS f0 ?_ ?_ <;> intro h3 hs
  · refine goR f0 ?_
    obtain rfl := sj hs
    exact hQ _ _ (rg f0 (Gh.unz _))
  · refine goR2 f0 ?_
    revert hs; refine bK fun o2131 e2130 hs => ?_
    refine awp_cutK (fun (v : (List Inst)) (σ : St) => some (v) = some o2131 ∧ σ.env 2 = .cell (.ref (.o 1 1 0) 0) ∧ σ.env 6 = .cell (.ref (.o 4 3 0) 0) ∧ σ.hp (.o 1 1 0) = some (.cells [tC (⟨#[]⟩ : ByteArray), .z]) ∧ σ.hp (.l 4) = some (.pure (encL v)) ∧ σ.hp (.o 4 3 0) = some (.cells [tC a0.Name, .sl (.l 4) 0 8 v.length]) ∧ 5 ≤ σ.gen) (by rfl) (fun Q hK2132 hX2133 => ?_) (fun l2129 σ153 hp => ?_)
    · refine goR f0 ?_
      revert e2130; refine bK fun o3867 e3866 e2130 => ?_
      refine awp_loopW (fun (v : Nat × Int × (List Inst)) (σ : St) => simplify_Prune_L1 a0 y1 v.1 v.2.1 v.2.2 = some o3867 ∧ σ.env 1 = .cell (.ref (.o 1 0 0) 0) ∧ σ.env 2 = .cell (.ref (.o 1 1 0) 0) ∧ σ.env 4 = .cell (sC y1.1) ∧ σ.env 6 = .cell (.ref (.o 4 3 0) 0) ∧ σ.env 25 = .cell (sC y1.1) ∧ σ.env 26 = iV .i64 ((y1.1.length : Nat) : Int) ∧ σ.env 27 = iV .i64 v.2.1 ∧ σ.hp (.o 1 0 0) = some (.cells (eA a0)) ∧ σ.hp (.o 1 1 0) = some (.cells [tC (⟨#[]⟩ : ByteArray), .z]) ∧ σ.hp (.l 88) = some (.pure (encL v.2.2)) ∧ σ.hp (.o 4 3 0) = some (.cells [tC a0.Name, .sl (.l 88) 0 8 v.2.2.length]) ∧ 5 ≤ σ.gen) (fun v => v.1) _ (Gh.voidB _ (.l 88) (.o 4 3 0) 1 8 rfl (by simp; rfl) (by first | rfl | simp) (by simp)) (fuelN, 0, []) ⟨e3866, pv f0, pv f0, pv f0, pv f0, pv f0, pv f0, pv f0, pv f0, pv f0, pv f0, pv f0, pg⟩ fun v σ276 hp L3868 hL3869 => ?_
      obtain ⟨q3871, i3403, l3404⟩ := v
      dsimp only at hp hL3869
      obtain ⟨e3866, h275_1, h275_2, h275_4, h275_6, h275_25, h275_26, h275_27, g275_0, g275_1, g275_2, g275_3, n275_g⟩ := hp
      have n275_0 : ¬ (σ276.gen = 0) := by omega
      have n275_1 : ¬ (σ276.gen = 1) := by omega
      have n275_2 : ¬ (σ276.gen = 2) := by omega
      have n275_3 : ¬ (σ276.gen = 3) := by omega
      rcases q3871 with _ | q3872
      · rw [simplify_Prune_L1] at e3866; cases e3866
      · rw [simplify_Prune_L1] at e3866; try dsimp only at e3866
        have F1 := an h275_1 (an h275_2 (an h275_4 (an h275_6 (an h275_25 (an h275_26 (an h275_27 (an g275_0 (an g275_1 (an g275_2 (an g275_3 (an n275_0 (an n275_1 (an n275_2 n275_3)))))))))))))
        refine goR F1 ?_
        revert e3866; refine cS F1 ?_ ?_ <;> intro h3876 e3866
        · refine goR2 F1 ?_
          revert e3866; refine bK fun o4067 e4066 e3866 => ?_
          refine awp_cutK (fun (v : (List Inst)) (σ : St) => some (v) = some o4067 ∧ σ.env 1 = .cell (.ref (.o 1 0 0) 0) ∧ σ.env 2 = .cell (.ref (.o 1 1 0) 0) ∧ σ.env 4 = .cell (sC y1.1) ∧ σ.env 6 = .cell (.ref (.o 4 3 0) 0) ∧ σ.env 25 = .cell (sC y1.1) ∧ σ.env 26 = iV .i64 ((y1.1.length : Nat) : Int) ∧ σ.env 27 = iV .i64 i3403 ∧ σ.hp (.o 1 0 0) = some (.cells (eA a0)) ∧ σ.hp (.o 1 1 0) = some (.cells [tC (⟨#[]⟩ : ByteArray), .z]) ∧ σ.hp (.l 148) = some (.pure (encL v)) ∧ σ.hp (.o 4 3 0) = some (.cells [tC a0.Name, .sl (.l 148) 0 8 v.length]) ∧ (σ276.gen + 1) ≤ σ.gen) (by rfl) (fun Q hK4068 hX4069 => ?_) (fun l4065 σ291 hp => ?_)
          · refine goR2 F1 ?_
            refine awp_block ?_
            revert e4066; refine bK fun x4070 hx4071 e4066 => ?_
            obtain ⟨hx4071a, hx4071b, hx4071c, hx4071d⟩ := getI_some hx4071
            have f4072 : partCV Tryd.prog 3 (encL y1.1) ((i3403).toNat) = some (iV .i64 x4070) := partCV_enc1 hx4071d (by simp)
            revert e4066; refine bK fun x4073 hx4074 e4066 => ?_
            obtain ⟨hx4074a, hx4074b, hx4074c, hx4074d⟩ := getI_some hx4074
            have f4075 : partCV Tryd.prog 83 (encL a0.Code) (((x4070).toNat) * 8) = some (.agg (eA x4073)) := partCV_enc hx4074d (f := 0) (by simp)
            have F2 := an F1 (an f4072 f4075)
            have F3 := an F2 (an hx4071a (an hx4071b (an hx4074a hx4074b)))
            refine goG2 F2 F3 ?_
            revert e4066; refine bK fun o4164 e4163 e4066 => ?_
            refine awp_cutK (fun (v : Int) (σ : St) => some (v) = some o4164 ∧ σ.env 1 = .cell (.ref (.o 1 0 0) 0) ∧ σ.env 2 = .cell (.ref (.o 1 1 0) 0) ∧ σ.env 4 = .cell (sC y1.1) ∧ σ.env 6 = .cell (.ref (.o 4 3 0) 0) ∧ σ.env 9 = .cell (.ref (.o (σ276.gen + 3) 5 0) 0) ∧ σ.env 25 = .cell (sC y1.1) ∧ σ.env 26 = iV .i64 ((y1.1.length : Nat) : Int) ∧ σ.env 27 = iV .i64 i3403 ∧ σ.hp (.o 1 0 0) = some (.cells (eA a0)) ∧ σ.hp (.o 1 1 0) = some (.cells [tC (⟨#[]⟩ : ByteArray), .z]) ∧ σ.hp (.o 4 3 0) = some (.cells [tC a0.Name, .sl (.l 88) 0 8 l3404.length]) ∧ σ.hp (.l 88) = some (.pure (encL l3404)) ∧ σ.hp (.o (σ276.gen + 3) 5 0) = some (.cells [nC x4073.Op, nC x4073.A, nC x4073.B, nC x4073.C, nC x4073.Obj, nC v, nC x4073.Fn, nC x4073.Order]) ∧ (σ276.gen + 4) ≤ σ.gen) (by rfl) (fun Q hK4165 hX4166 => ?_) (fun i4162 σ299 hp => ?_)
            · refine goG F2 F3 ?_
              revert e4163; refine cS F2 ?_ ?_ <;> intro h4167 e4163
              · refine goG2 F2 F3 ?_
                revert e4163; refine bK fun o4210 e4209 e4163 => ?_
                refine awp_cutK (fun (v : Int) (σ : St) => some (v) = some o4210 ∧ σ.env 1 = .cell (.ref (.o 1 0 0) 0) ∧ σ.env 2 = .cell (.ref (.o 1 1 0) 0) ∧ σ.env 4 = .cell (sC y1.1) ∧ σ.env 6 = .cell (.ref (.o 4 3 0) 0) ∧ σ.env 9 = .cell (.ref (.o (σ276.gen + 3) 5 0) 0) ∧ σ.env 10 = iV .i64 v ∧ σ.env 25 = .cell (sC y1.1) ∧ σ.env 26 = iV .i64 ((y1.1.length : Nat) : Int) ∧ σ.env 27 = iV .i64 i3403 ∧ σ.hp (.o 1 0 0) = some (.cells (eA a0)) ∧ σ.hp (.o 1 1 0) = some (.cells [tC (⟨#[]⟩ : ByteArray), .z]) ∧ σ.hp (.o 4 3 0) = some (.cells [tC a0.Name, .sl (.l 88) 0 8 l3404.length]) ∧ σ.hp (.l 88) = some (.pure (encL l3404)) ∧ σ.hp (.o (σ276.gen + 3) 5 0) = some (.cells (eA x4073)) ∧ (σ276.gen + 6) ≤ σ.gen) (by rfl) (fun Q hK4211 hX4212 => ?_) (fun i4208 σ303 hp => ?_)
                · refine goG F2 F3 ?_
                  obtain ⟨hb4249, e4209⟩ := guardO_some e4209
                  revert e4209; refine bK fun o4239 e4238 e4209 => ?_
                  refine awp_loopW (fun (v : (List Int) × Int × Nat) (σ : St) => simplify_Prune_L2 x4073 v.1 v.2.1 v.2.2 = some o4239 ∧ v.1 = y1.1.drop v.2.2 ∧ σ.env 1 = .cell (.ref (.o 1 0 0) 0) ∧ σ.env 2 = .cell (.ref (.o 1 1 0) 0) ∧ σ.env 4 = .cell (sC y1.1) ∧ σ.env 6 = .cell (.ref (.o 4 3 0) 0) ∧ σ.env 9 = .cell (.ref (.o (σ276.gen + 3) 5 0) 0) ∧ σ.env 10 = iV .i64 v.2.1 ∧ σ.env 25 = .cell (sC y1.1) ∧ σ.env 26 = iV .i64 ((y1.1.length : Nat) : Int) ∧ σ.env 27 = iV .i64 i3403 ∧ σ.env 44 = .cell (sC y1.1) ∧ σ.env 45 = iV .i64 ((y1.1.length : Nat) : Int) ∧ σ.env 46 = iV .i64 ((v.2.2 : Nat) : Int) ∧ σ.hp (.o 1 0 0) = some (.cells (eA a0)) ∧ σ.hp (.o 1 1 0) = some (.cells [tC (⟨#[]⟩ : ByteArray), .z]) ∧ σ.hp (.o 4 3 0) = some (.cells [tC a0.Name, .sl (.l 88) 0 8 l3404.length]) ∧ σ.hp (.l 88) = some (.pure (encL l3404)) ∧ σ.hp (.o (σ276.gen + 3) 5 0) = some (.cells (eA x4073)) ∧ (σ276.gen + 6) ≤ σ.gen) (fun v => v.1.length) _ (Gh.refl _) (y1.1, 0, 0) ⟨e4238, by simp, pv F2, pv F2, pv F2, pv F2, pv F2, pv F2, pv F2, pv F2, pv F2, pv F2, pv F2, pv F2, pv F2, pv F2, pv F2, pv F2, pv F2, pg⟩ fun v σ306 hp L4240 hL4241 => ?_
                  obtain ⟨q4243, i4229, k4230⟩ := v
                  dsimp only at hp hL4241
                  obtain ⟨e4238, hd4242, h305_1, h305_2, h305_4, h305_6, h305_9, h305_10, h305_25, h305_26, h305_27, h305_44, h305_45, h305_46, g305_0, g305_1, g305_2, g305_3, g305_4, n305_g⟩ := hp
                  have n305_0 : ¬ (σ306.gen = 0) := by omega
                  have n305_1 : ¬ (σ306.gen = 1) := by omega
                  have n305_2 : ¬ (σ306.gen = 2) := by omega
                  have n305_3 : ¬ (σ306.gen = 3) := by omega
                  have n305_σ276gen_0 : ¬ (σ306.gen = σ276.gen) := by omega
                  have n305_σ276gen_0' : ¬ (σ276.gen = σ306.gen) := by omega
                  have n305_σ276gen_1 : ¬ (σ306.gen = σ276.gen + 1) := by omega
                  have n305_σ276gen_1' : ¬ (σ276.gen + 1 = σ306.gen) := by omega
                  have n305_σ276gen_2 : ¬ (σ306.gen = σ276.gen + 2) := by omega
                  have n305_σ276gen_2' : ¬ (σ276.gen + 2 = σ306.gen) := by omega
                  have n305_σ276gen_3 : ¬ (σ306.gen = σ276.gen + 3) := by omega
                  have n305_σ276gen_3' : ¬ (σ276.gen + 3 = σ306.gen) := by omega
                  have n305_σ276gen_a : ∀ j, ¬ (σ306.gen + j = σ276.gen) := fun j => by omega
                  have n305_σ276gen_a' : ∀ j, ¬ (σ276.gen = σ306.gen + j) := fun j => by omega
                  rcases q4243 with _ | ⟨x4248, q4244⟩
                  · have hlt4245 := drop_end hd4242
                    rw [simplify_Prune_L2] at e4238; try dsimp only at e4238
                    have F4 := an h305_1 (an h305_2 (an h305_4 (an h305_6 (an h305_9 (an h305_10 (an h305_25 (an h305_26 (an h305_27 (an h305_44 (an h305_45 (an h305_46 (an g305_0 (an g305_1 (an g305_2 (an g305_3 (an g305_4 (an n305_0 (an n305_1 (an n305_2 (an n305_3 (an n305_σ276gen_0 (an n305_σ276gen_0' (an n305_σ276gen_1 (an n305_σ276gen_1' (an n305_σ276gen_2 (an n305_σ276gen_2' (an n305_σ276gen_3 (an n305_σ276gen_3' (an n305_σ276gen_a (an n305_σ276gen_a' (an f4072 f4075)))))))))))))))))))))))))))))))
                    refine goR F4 ?_
                    refine condK_f (by simp [ltI]; omega) ?_
                    obtain rfl := sj e4238
                    try dsimp only at e4209
                    exact hK4211 i4229 _ _ (Gh.refl _) ⟨e4209, pv F4, pv F4, pv F4, pv F4, pv F4, pv F4, pv F4, pv F4, pv F4, pv F4, pv F4, pv F4, pv F4, pv F4, pg⟩
                  · obtain ⟨hx4247, hlt4245, hd4250⟩ := drop_next hd4242
                    have ew4246 := wrap_succG hlt4245 hb4249
                    rw [simplify_Prune_L2] at e4238; try dsimp only at e4238
                    have F5 := an h305_1 (an h305_2 (an h305_4 (an h305_6 (an h305_9 (an h305_10 (an h305_25 (an h305_26 (an h305_27 (an h305_44 (an h305_45 (an h305_46 (an g305_0 (an g305_1 (an g305_2 (an g305_3 (an g305_4 (an n305_0 (an n305_1 (an n305_2 (an n305_3 (an n305_σ276gen_0 (an n305_σ276gen_0' (an n305_σ276gen_1 (an n305_σ276gen_1' (an n305_σ276gen_2 (an n305_σ276gen_2' (an n305_σ276gen_3 (an n305_σ276gen_3' (an n305_σ276gen_a (an n305_σ276gen_a' (an f4072 (an f4075 (an hlt4245 ew4246)))))))))))))))))))))))))))))))))
                    refine goR F5 ?_
                    refine condK_t (by simp [ltI]; omega) ?_
                    have f4251 : partCV Tryd.prog 3 (encL y1.1) (k4230) = some (iV .i64 x4248) := partCV_enc1 hx4247 (by simp)
                    have F6 := an F5 f4251
                    refine goR F6 ?_
                    revert e4238; refine cS F6 ?_ ?_ <;> intro h4252 e4238
                    · refine goR F6 ?_
                      exact hL4241 (q4244, IntKind.i64.wrap (i4229 + 1), (k4230 + 1)) _ _ (Gh.refl _) ⟨e4238, hd4250, pv F6, pv F6, pv F6, pv F6, pv F6, pv F6, pv F6, pv F6, pv F6, pv F6, pv F6, pv F6, pv F6, pv F6, pv F6, pv F6, pv F6, pg⟩ (by simp)
                    · refine goR F6 ?_
                      exact hL4241 (q4244, i4229, (k4230 + 1)) _ _ (Gh.refl _) ⟨e4238, hd4250, pv F6, pv F6, pv F6, pv F6, pv F6, pv F6, pv F6, pv F6, pv F6, pv F6, pv F6, pv F6, pv F6, pv F6, pv F6, pv F6, pv F6, pg⟩ (by simp)
                · obtain ⟨e4209, h304_1, h304_2, h304_4, h304_6, h304_9, h304_10, h304_25, h304_26, h304_27, g304_0, g304_1, g304_2, g304_3, g304_4, n304_g⟩ := hp
                  obtain rfl := sj e4209
                  try dsimp only at e4163
                  have n304_0 : ¬ (σ303.gen = 0) := by omega
                  have n304_1 : ¬ (σ303.gen = 1) := by omega
                  have n304_2 : ¬ (σ303.gen = 2) := by omega
                  have n304_3 : ¬ (σ303.gen = 3) := by omega
                  have n304_σ276gen_0 : ¬ (σ303.gen = σ276.gen) := by omega
                  have n304_σ276gen_0' : ¬ (σ276.gen = σ303.gen) := by omega
                  have n304_σ276gen_1 : ¬ (σ303.gen = σ276.gen + 1) := by omega
                  have n304_σ276gen_1' : ¬ (σ276.gen + 1 = σ303.gen) := by omega
                  have n304_σ276gen_2 : ¬ (σ303.gen = σ276.gen + 2) := by omega
                  have n304_σ276gen_2' : ¬ (σ276.gen + 2 = σ303.gen) := by omega
                  have n304_σ276gen_3 : ¬ (σ303.gen = σ276.gen + 3) := by omega
                  have n304_σ276gen_3' : ¬ (σ276.gen + 3 = σ303.gen) := by omega
                  have n304_σ276gen_a : ∀ j, ¬ (σ303.gen + j = σ276.gen) := fun j => by omega
                  have n304_σ276gen_a' : ∀ j, ¬ (σ276.gen = σ303.gen + j) := fun j => by omega
                  have F7 := an h304_1 (an h304_2 (an h304_4 (an h304_6 (an h304_9 (an h304_10 (an h304_25 (an h304_26 (an h304_27 (an g304_0 (an g304_1 (an g304_2 (an g304_3 (an g304_4 (an n304_0 (an n304_1 (an n304_2 (an n304_3 (an n304_σ276gen_0 (an n304_σ276gen_0' (an n304_σ276gen_1 (an n304_σ276gen_1' (an n304_σ276gen_2 (an n304_σ276gen_2' (an n304_σ276gen_3 (an n304_σ276gen_3' (an n304_σ276gen_a (an n304_σ276gen_a' (an f4072 f4075))))))))))))))))))))))))))))
                  have F8 := an F7 (an hx4071a (an hx4071b (an hx4074a hx4074b)))
                  refine goG F7 F8 ?_
                  exact hK4165 i4208 _ _ (Gh.refl _) ⟨e4163, pv F7, pv F7, pv F7, pv F7, pv F7, pv F7, pv F7, pv F7, pv F7, pv F7, pv F7, pv F7, pv F7, pg⟩
              · refine goG F2 F3 ?_
                exact hK4165 x4073.N _ _ (Gh.refl _) ⟨e4163, pv F2, pv F2, pv F2, pv F2, pv F2, pv F2, pv F2, pv F2, pv F2, pv F2, pv F2, pv F2, pv F2, pg⟩
            · obtain ⟨e4163, h300_1, h300_2, h300_4, h300_6, h300_9, h300_25, h300_26, h300_27, g300_0, g300_1, g300_2, g300_3, g300_4, n300_g⟩ := hp
              obtain rfl := sj e4163
              try dsimp only at e4066
              have n300_0 : ¬ (σ299.gen = 0) := by omega
              have n300_1 : ¬ (σ299.gen = 1) := by omega
              have n300_2 : ¬ (σ299.gen = 2) := by omega
              have n300_3 : ¬ (σ299.gen = 3) := by omega
              have n300_σ276gen_0 : ¬ (σ299.gen = σ276.gen) := by omega
              have n300_σ276gen_0' : ¬ (σ276.gen = σ299.gen) := by omega
              have n300_σ276gen_1 : ¬ (σ299.gen = σ276.gen + 1) := by omega
              have n300_σ276gen_1' : ¬ (σ276.gen + 1 = σ299.gen) := by omega
              have n300_σ276gen_2 : ¬ (σ299.gen = σ276.gen + 2) := by omega
              have n300_σ276gen_2' : ¬ (σ276.gen + 2 = σ299.gen) := by omega
              have n300_σ276gen_3 : ¬ (σ299.gen = σ276.gen + 3) := by omega
              have n300_σ276gen_3' : ¬ (σ276.gen + 3 = σ299.gen) := by omega
              have n300_σ276gen_a : ∀ j, ¬ (σ299.gen + j = σ276.gen) := fun j => by omega
              have n300_σ276gen_a' : ∀ j, ¬ (σ276.gen = σ299.gen + j) := fun j => by omega
              revert e4066; refine lK fun l4253 hx4254 e4066 => ?_
              have hx4254n : l4253.length = 1 := by rw [hx4254]; rfl
              obtain ⟨g4255, e4066⟩ := guardO_some e4066
              have g4255 := limB_t g4255
              obtain ⟨g4255a, g4255b⟩ := g4255
              revert e4066; refine lK fun l4256 hx4257 e4066 => ?_
              have hx4257n : l4256.length = (l3404.length + l4253.length) := by rw [hx4257]; simp
              have hx4257e : encL l4256 = encL l3404 ++ encL l4253 := by rw [hx4257]; simp
              have F9 := an h300_1 (an h300_2 (an h300_4 (an h300_6 (an h300_9 (an h300_25 (an h300_26 (an h300_27 (an g300_0 (an g300_1 (an g300_2 (an g300_3 (an g300_4 (an n300_0 (an n300_1 (an n300_2 (an n300_3 (an n300_σ276gen_0 (an n300_σ276gen_0' (an n300_σ276gen_1 (an n300_σ276gen_1' (an n300_σ276gen_2 (an n300_σ276gen_2' (an n300_σ276gen_3 (an n300_σ276gen_3' (an n300_σ276gen_a (an n300_σ276gen_a' (an f4072 (an f4075 (an hx4254 (an hx4257n hx4257e))))))))))))))))))))))))))))))
              have F10 := an F9 (an hx4071a (an hx4071b (an hx4074a hx4074b)))
              refine goG F9 F10 ?_
              exact hK4068 l4256 _ _ (Gh.ren _ (.o (σ299.gen + 1) 4 0) (.l 148) (by simp) rfl rfl) ⟨e4066, pv F9, pv F9, pv F9, pv F9, pv F9, pv F9, pv F9, pv F9, pv F9, pv F9, pv F9, pg⟩
          · obtain ⟨e4066, h292_1, h292_2, h292_4, h292_6, h292_25, h292_26, h292_27, g292_0, g292_1, g292_2, g292_3, n292_g⟩ := hp
            obtain rfl := sj e4066
            try dsimp only at e3866
            have n292_0 : ¬ (σ291.gen = 0) := by omega
            have n292_1 : ¬ (σ291.gen = 1) := by omega
            have n292_2 : ¬ (σ291.gen = 2) := by omega
            have n292_3 : ¬ (σ291.gen = 3) := by omega
            have F11 := an h292_1 (an h292_2 (an h292_4 (an h292_6 (an h292_25 (an h292_26 (an h292_27 (an g292_0 (an g292_1 (an g292_2 (an g292_3 (an n292_0 (an n292_1 (an n292_2 n292_3)))))))))))))
            refine goR F11 ?_
            exact hL3869 (q3872, IntKind.i64.wrap (i3403 + 1), l4065) _ _ (Gh.ren _ (.l 148) (.l 88) (by simp) rfl rfl) ⟨e3866, pv F11, pv F11, pv F11, pv F11, pv F11, pv F11, pv F11, pv F11, pv F11, pv F11, pv F11, pg⟩ (by omega)
        · refine goR F1 ?_
          obtain rfl := sj e3866
          try dsimp only at e2130
          exact hK2132 l3404 _ _ (Gh.ren _ (.l 88) (.l 4) (by simp) rfl rfl) ⟨e2130, pv F1, pv F1, pv F1, pv F1, pv F1, pg⟩
    · obtain ⟨e2130, h154_2, h154_6, g154_0, g154_1, g154_2, n154_g⟩ := hp
      obtain rfl := sj e2130
      try dsimp only at hs
      have n154_0 : ¬ (σ153.gen = 0) := by omega
      have n154_1 : ¬ (σ153.gen = 1) := by omega
      have n154_2 : ¬ (σ153.gen = 2) := by omega
      have n154_3 : ¬ (σ153.gen = 3) := by omega
      have F12 := an h154_2 (an h154_6 (an g154_0 (an g154_1 (an g154_2 (an n154_0 (an n154_1 (an n154_2 n154_3)))))))
      refine goR F12 ?_
      obtain rfl := sj hs
      exact hQ _ _ (rg F12 (Gh.frz _ (.l 4)))
end Go.Dc
end
section
set_option linter.all false
namespace Go.Dc
open Go Go.Hw Go.Proofs
set_option maxRecDepth 100000

def law15_exampleHolds (fuelN : Nat)  : Option Bool :=
  Option.bind (some ([({ Op := 1, A := 0, B := 0, C := 0, Obj := 0, N := 2, Fn := 0, Order := 0 } : Inst), ({ Op := 1, A := 1, B := 0, C := 0, Obj := 0, N := 3, Fn := 0, Order := 0 } : Inst), ({ Op := 3, A := 2, B := 0, C := 1, Obj := 0, N := 0, Fn := 1, Order := 0 } : Inst), ({ Op := 5, A := 0, B := 2, C := 0, Obj := 0, N := 0, Fn := 0, Order := 0 } : Inst), ({ Op := 7, A := 0, B := 0, C := 0, Obj := 0, N := 0, Fn := 0, Order := 0 } : Inst)])) (fun l1 => Option.bind (some ([({ Op := 1, A := 0, B := 0, C := 0, Obj := 0, N := 2, Fn := 0, Order := 0 } : Inst), ({ Op := 1, A := 1, B := 0, C := 0, Obj := 0, N := 3, Fn := 0, Order := 0 } : Inst), ({ Op := 1, A := 2, B := 0, C := 0, Obj := 0, N := 5, Fn := 0, Order := 0 } : Inst), ({ Op := 4, A := 0, B := 0, C := 0, Obj := 0, N := 0, Fn := 0, Order := 0 } : Inst), ({ Op := 7, A := 0, B := 0, C := 0, Obj := 0, N := 0, Fn := 0, Order := 0 } : Inst)])) (fun l3 => Option.bind (simplify_Fold fuelN ({ Name := (⟨#[]⟩ : ByteArray), Code := l1 } : Func)) (fun y5 => Option.bind (simplify_Prune fuelN y5.1) (fun y7 => guardO (slB 0 (4 : Int) l3.length) (Option.bind (some (subL l3 0 (4 : Int))) (fun l10 => guardO (orB (!(andB (eqI y5.2 0) (eqI y7.2 0))) ((r15_SameCode y5.1 ({ Name := (⟨#[]⟩ : ByteArray), Code := l3 } : Func)).isSome)) (guardO (orB (!(andB (andB (eqI y5.2 0) (eqI y7.2 0)) ((r15_SameCode y5.1 ({ Name := (⟨#[]⟩ : ByteArray), Code := l3 } : Func)).getD default))) ((r15_SameCode y7.1 ({ Name := (⟨#[]⟩ : ByteArray), Code := l10 } : Func)).isSome)) (some (andB (andB (andB (eqI y5.2 0) (eqI y7.2 0)) ((r15_SameCode y5.1 ({ Name := (⟨#[]⟩ : ByteArray), Code := l3 } : Func)).getD default)) ((r15_SameCode y7.1 ({ Name := (⟨#[]⟩ : ByteArray), Code := l10 } : Func)).getD default))))))))))

set_option maxHeartbeats 2000000 in
theorem at_law15_exampleHolds {fuelN : Nat}  {r : Bool} (hs : law15_exampleHolds fuelN = some r) : At Tryd.prog 15 [] (bV r) := by
  refine at_bound (by kernel_rfl) fun hb => ?_
  refine at_code mixed Tryd.func15 (by kernel_rfl) rfl (by kernel_rfl) rfl fun Q hQ => ?_
  rw [law15_exampleHolds] at hs
  revert hs; refine lK fun l1 hx2 hs => ?_
  have hx2n : l1.length = 5 := by rw [hx2]; rfl
  revert hs; refine lK fun l3 hx4 hs => ?_
  have hx4n : l3.length = 5 := by rw [hx4]; rfl
  have F1 := an hx2 hx4
  refine goN F1 ?_
  refine awp_reg ?_
  refine goN F1 ?_
  refine awp_reg ?_
  refine goN F1 ?_
  refine awp_reg ?_
  refine goN F1 ?_
  refine awp_gh (by rfl) (Gh.frz _ (.o 2 5 0)) ?_
  try simp only [St.frz, St.pur]
  refine goR F1 ?_
  revert hs; refine bK fun y5 hx6 hs => ?_
  refine cP F1 (at_simplify_Fold hx6) ?_
  refine goR F1 ?_
  revert hs; refine bK fun y7 hx8 hs => ?_
  refine cP F1 (at_simplify_Prune hx8) ?_
  refine goN F1 ?_
  refine awp_gh (by rfl) (Gh.frz _ (.o 3 5 0)) ?_
  try simp only [St.frz, St.pur]
  obtain ⟨g9, hs⟩ := guardO_some hs
  obtain ⟨g9a, g9b, g9c⟩ := slB_t g9
  revert hs; refine lK fun l10 hx11 hs => ?_
  have f12n : l10.length = ((4 : Int) - 0).toNat := by rw [hx11]; exact subL_len ⟨g9a, g9b, g9c⟩
  have f12e : ((encL l3).drop ((0 : Int).toNat * 8)).take (((4 : Int) - 0).toNat * 8) = encL l10 := by rw [hx11]; exact subL_enc (α := Inst)
  try simp at f12n
  try simp at f12e
  have h13 : l10 = [({ Op := 1, A := 0, B := 0, C := 0, Obj := 0, N := 2, Fn := 0, Order := 0 } : Inst), ({ Op := 1, A := 1, B := 0, C := 0, Obj := 0, N := 3, Fn := 0, Order := 0 } : Inst), ({ Op := 1, A := 2, B := 0, C := 0, Obj := 0, N := 5, Fn := 0, Order := 0 } : Inst), ({ Op := 4, A := 0, B := 0, C := 0, Obj := 0, N := 0, Fn := 0, Order := 0 } : Inst)] := by rw [hx11, hx4]; rfl
  have F2 := an F1 (an g9a (an g9b (an g9c h13)))
  refine goG F2 F2 ?_
  obtain ⟨g14, hs⟩ := guardO_some hs
  refine gsel_call (fun hg => at_r15_SameCode (under_call g14 hg)) (fun hg => by (try simp at hg); (first | simp [hg, F2]); try rfl) (fun hg => by (try simp at hg); simp [hg, F2]) (by simp) ?_
  refine goG F2 F2 ?_
  obtain ⟨g15, hs⟩ := guardO_some hs
  refine gsel_cast (andB (andB (eqI y5.2 0) (eqI y7.2 0)) ((r15_SameCode y5.1 ({ Name := (⟨#[]⟩ : ByteArray), Code := l3 } : Func)).getD default)) (by first | rfl | simp [F2]) ?_
  refine gsel_call (fun hg => at_r15_SameCode (under_call g15 hg)) (fun hg => by (try simp [F2] at hg); (first | simp [hg, F2]); try rfl) (fun hg => by (try simp [F2] at hg); simp [hg, F2]) (by simp) ?_
  refine goG F2 F2 ?_
  obtain rfl := sj hs
  exact hQ _ _ (rg F2 (Gh.refl _))
end Go.Dc
end
section
set_option linter.all false
namespace Go.Dc
open Go Go.Hw Go.Proofs
set_option maxRecDepth 100000

def law15_SimplifyFolds (fuelN : Nat) (a0 : Func) : Option Bool :=
  cond (ltI 30 ((a0.Code.length : Nat) : Int)) (Option.bind (law15_exampleHolds fuelN) (fun y2 => some y2)) (Option.bind (simplify_Fold fuelN a0) (fun y4 => Option.bind (r15_Fold fuelN a0) (fun y6 => guardO (orB (!(eqI y4.2 y6.2)) ((r15_SameCode y4.1 y6.1).isSome)) (guardO (orB (!(andB (eqI y4.2 y6.2) ((r15_SameCode y4.1 y6.1).getD default))) ((law15_exampleHolds fuelN).isSome)) (some (andB (andB (eqI y4.2 y6.2) ((r15_SameCode y4.1 y6.1).getD default)) ((law15_exampleHolds fuelN).getD default)))))))

end Go.Dc
end
section
set_option linter.all false
namespace Go.Dc.Pl
open Go Go.Hw Go.Dc
set_option maxRecDepth 100000
theorem instB_refl (x : Inst) : andB (eqI x.Op x.Op) (andB (eqI x.A x.A) (andB (eqI x.B x.B) (andB (eqI x.C x.C) (andB (eqI x.Obj x.Obj) (andB (eqI x.N x.N) (andB (eqI x.Fn x.Fn) (andB (eqI x.Order x.Order) true))))))) = true := by simp [eqI, andB]
theorem holds : law15_exampleHolds 1000 = some true := by kernel_rfl
def noF : Func := { Name := ⟨#[]⟩, Code := [] }
theorem eqI_r (e : Int) : eqI e e = true := by simp [eqI]
end Go.Dc.Pl
end
section
set_option linter.all false
namespace Go.Dc
open Go Go.Hw Go.Proofs
set_option maxRecDepth 100000
def slices_Clone_api_Inst (a0 : List Inst) : Option (List Inst) := guardO (limB 64 a0.length) (some a0)

set_option maxHeartbeats 2000000 in
theorem at_slices_Clone_api_Inst {a0 r : List Inst} (hs : slices_Clone_api_Inst a0 = some r) : CAt Tryd.prog 58 [.cell (sC a0)] [] (.ret (.cell (.sl (.r 0) 0 8 r.length))) [(.r 0, .pure (encL r))] := by
  rw [slices_Clone_api_Inst] at hs
  obtain ⟨g1, hs⟩ := guardO_some hs
  obtain rfl := Option.some.inj hs
  obtain ⟨g1a, g1b⟩ := limB_t g1
  refine at_code mixed Tryd.func58 (by kernel_rfl) rfl (by kernel_rfl) rfl fun Q hQ => ?_
  repeat (first | simp | with_reducible first | refine awp_reg ?_ | refine And.intro (by omega) ?_ | refine optF_if (by omega) ?_)
  unfold nilK
  simp only [Tryd.underlying22]
  refine ⟨fun h => ?_, ?_⟩
  · have h0 := encL_nil_of (by simp) h
    subst h0
    repeat (first | simp | with_reducible first | refine awp_reg ?_ | refine And.intro (by omega) ?_ | refine optF_if (by omega) ?_)
    refine hQ _ _ (ret2g _ (Gh.void _ (.r 0) 2 8 rfl (by simp)) (by simp [St.void, St.kil]; rfl) (by first | rfl | simp) (by simp [St.void, St.kil]))
  · repeat (first | simp | with_reducible first | refine awp_reg ?_ | refine And.intro (by omega) ?_ | refine optF_if (by omega) ?_)
    refine hQ _ _ (ret2g _ (Gh.ren _ (.o 3 2 0) (.r 0) (by simp) rfl rfl) (by simp; rfl) (by first | rfl | simp) (by simp))
end Go.Dc
end
section
set_option linter.all false
namespace Go.Dc
open Go Go.Hw Go.Proofs
set_option maxRecDepth 100000
def simplify_final_L1 (a0 : Func) : Nat → Int → Int → Option (Unit ⊕ Int)
  | 0, _, _ => none
  | q69 + 1, i53, i54 => cond (ltI i54 (IntKind.i64.wrap (((a0.Code.length : Nat) : Int) + 1))) (guardO (orB (!(ltI i53 ((a0.Code.length : Nat) : Int))) (inB i53 a0.Code.length)) (cond (orB (!(ltI i53 ((a0.Code.length : Nat) : Int))) (!(eqI ((gd a0.Code ((i53).toNat)).Op) 4))) (some (.inr i53)) (Option.bind (getI a0.Code i53) (fun x77 => simplify_final_L1 a0 q69 x77.N (IntKind.i64.wrap (i54 + 1)))))) (some (.inl ()))

def simplify_final (fuelN : Nat) (a0 : Func) (a1 : Int) : Option Int :=
  Option.bind (α := Unit ⊕ Int) (Option.bind (simplify_final_L1 a0 fuelN a1 0) (fun o => match o with | .inl _ => some (.inl ()) | .inr r80 => some (.inr r80))) (fun o => match o with | .inl _ => some a1 | .inr r81 => some r81)

set_option maxHeartbeats 2000000 in
theorem at_simplify_final {fuelN : Nat} {a0 : Func} {a1 : Int} {r : Int} (hs : simplify_final fuelN a0 a1 = some r) : At Tryd.prog 59 [.agg (eA a0), iV .i64 a1] (iV .i64 r) := by
  refine at_bound (by kernel_rfl) fun hb => ?_
  have hb1 : LenOk (.sl a0.Code.length (encL a0.Code)) := lkc hb
  refine at_code mixed Tryd.func59 (by kernel_rfl) rfl (by kernel_rfl) rfl fun Q hQ => ?_
  rw [simplify_final] at hs
  refine goR2 f0 ?_
  revert hs; refine bK fun o40 e39 hs => ?_
  refine awp_cutK (fun (v : Unit) (σ : St) => some (.inl v) = some o40 ∧ σ.env 1 = iV .i64 a1 ∧ 3 ≤ σ.gen) (by rfl) (fun Q hK41 hX42 => ?_) (fun v σ3 hp => ?_)
  · refine goR f0 ?_
    revert e39; refine bK fun o64 e63 e39 => ?_
    refine awp_loopW (fun (v : Nat × Int × Int) (σ : St) => simplify_final_L1 a0 v.1 v.2.1 v.2.2 = some o64 ∧ σ.env 1 = iV .i64 a1 ∧ σ.env 2 = .cell (.ref (.o 1 0 0) 0) ∧ σ.env 5 = iV .i64 v.2.1 ∧ σ.env 10 = iV .i64 (IntKind.i64.wrap (((a0.Code.length : Nat) : Int) + 1)) ∧ σ.env 11 = iV .i64 v.2.2 ∧ σ.hp (.o 1 0 0) = some (.cells (eA a0)) ∧ 3 ≤ σ.gen) (fun v => v.1) _ (Gh.refl _) (fuelN, a1, 0) ⟨e63, pv f0, pv f0, pv f0, pv f0, pv f0, pv f0, pg⟩ fun v σ6 hp L65 hL66 => ?_
    obtain ⟨q68, i53, i54⟩ := v
    dsimp only at hp hL66
    obtain ⟨e63, h5_1, h5_2, h5_5, h5_10, h5_11, g5_0, n5_g⟩ := hp
    have n5_0 : ¬ (σ6.gen = 0) := by omega
    rcases q68 with _ | q69
    · rw [simplify_final_L1] at e63; cases e63
    · rw [simplify_final_L1] at e63; try dsimp only at e63
      have F1 := an h5_1 (an h5_2 (an h5_5 (an h5_10 (an h5_11 (an g5_0 n5_0)))))
      refine goR F1 ?_
      revert e63; refine cS F1 ?_ ?_ <;> intro h73 e63
      · obtain ⟨g74, e63⟩ := guardO_some e63
        have g74a : (ltI i53 ((a0.Code.length : Nat) : Int)) = true → 0 ≤ i53 := fun hg => (under_elem g74 hg).1
        have g74b : (ltI i53 ((a0.Code.length : Nat) : Int)) = true → i53 < (a0.Code.length : Int) := fun hg => (under_elem g74 hg).2.1
        have g74n : (ltI i53 ((a0.Code.length : Nat) : Int)) = true → (i53).toNat < a0.Code.length := fun hg => by simpa using (under_elem g74 hg).2.2.1
        have g74c : (ltI i53 ((a0.Code.length : Nat) : Int)) = true → a0.Code[(i53).toNat]? = some (gd a0.Code ((i53).toNat)) := fun hg => by simpa using (under_elem g74 hg).2.2.2
        have f75 : (ltI i53 ((a0.Code.length : Nat) : Int)) = true → partCV Tryd.prog 81 (encL a0.Code) (((i53).toNat) * 8) = some (iV .i64 ((gd a0.Code ((i53).toNat)).Op)) := fun hg => partCV_enc (g74c hg) (f := 0) (by simp)
        have F2 := an F1 (an g74a (an g74b (an g74n f75)))
        refine goG F2 F2 ?_
        revert e63; refine cS F2 ?_ ?_ <;> intro h76 e63
        · refine goG F2 F2 ?_
          obtain rfl := sj e63
          try dsimp only at e39
          obtain rfl := sj e39
          try dsimp only at hs
          refine hX42 _ _ (by simp) ?_
          refine goG F2 F2 ?_
          obtain rfl := sj hs
          exact hQ _ _ (rg F2 (Gh.refl _))
        · revert e63; refine bK fun x77 hx78 e63 => ?_
          obtain ⟨hx78a, hx78b, hx78c, hx78d⟩ := getI_some hx78
          have f79 : partCV Tryd.prog 3 (encL a0.Code) (((i53).toNat) * 8 + 5) = some (iV .i64 x77.N) := partCV_enc hx78d (f := 5) (by simp)
          have F3 := an F2 f79
          have F4 := an F3 (an hx78a hx78b)
          refine goG F3 F4 ?_
          exact hL66 (q69, x77.N, IntKind.i64.wrap (i54 + 1)) _ _ (Gh.refl _) ⟨e63, pv F3, pv F3, pv F3, pv F3, pv F3, pv F3, pg⟩ (by omega)
      · refine goR F1 ?_
        obtain rfl := sj e63
        try dsimp only at e39
        exact hK41 () _ _ (Gh.refl _) ⟨e39, pv F1, pg⟩
  · obtain ⟨e39, h4_1, n4_g⟩ := hp
    obtain rfl := sj e39
    try dsimp only at hs
    refine goR h4_1 ?_
    obtain rfl := sj hs
    exact hQ _ _ (rg h4_1 (Gh.refl _))
end Go.Dc
end
section
set_option linter.all false
namespace Go.Dc
open Go Go.Hw Go.Proofs
set_option maxRecDepth 100000
def simplify_Thread_L1 (fuelN : Nat) (a0 : Func) : List Inst → Nat → (List Inst) → Option (List Inst)
  | [], k148, l149 => some (l149)
  | x181 :: q177, k148, l149 => cond (orB (eqI x181.Op 4) (eqI x181.Op 5)) (Option.bind (simplify_final fuelN a0 x181.N) (fun y192 => Option.bind (l149[k148]?) (fun x194 => Option.bind (some (l149.set k148 ({ x194 with N := y192 }))) (fun l196 => simplify_Thread_L1 fuelN a0 q177 (k148 + 1) l196)))) (simplify_Thread_L1 fuelN a0 q177 (k148 + 1) l149)

def simplify_Thread (fuelN : Nat) (a0 : Func) : Option (Func × Int) :=
  Option.bind (cfg_Leaders fuelN a0) (fun y1 => cond (!(eqI y1.2 0)) (some (({ Name := (⟨#[]⟩ : ByteArray), Code := [] } : Func), y1.2)) (Option.bind (slices_Clone_api_Inst a0.Code) (fun y6 => Option.bind (α := (List Inst)) (Option.bind (simplify_Thread_L1 fuelN a0 a0.Code 0 y6) (fun l170 => some (l170))) (fun l101 => some ({ a0 with Code := l101 }, 0)))))

set_option maxHeartbeats 2000000 in
theorem at_simplify_Thread {fuelN : Nat} {a0 : Func} {r : Func × Int} (hs : simplify_Thread fuelN a0 = some r) : At Tryd.prog 19 [.agg (eA a0)] (.tup [.agg (eA r.1), iV .i64 r.2]) := by
  refine at_bound (by kernel_rfl) fun hb => ?_
  have hb1 : LenOk (.sl a0.Code.length (encL a0.Code)) := lkc hb
  refine at_code mixed Tryd.func19 (by kernel_rfl) rfl (by kernel_rfl) rfl fun Q hQ => ?_
  rw [simplify_Thread] at hs
  refine goR f0 ?_
  revert hs; refine bK fun y1 hx2 hs => ?_
  refine cP f0 (at_cfg_Leaders hx2) ?_
  refine goR f0 ?_
  revert hs; refine cS f0 ?_ ?_ <;> intro h3 hs
  · refine goR f0 ?_
    obtain rfl := sj hs
    exact hQ _ _ (rg f0 (Gh.unz _))
  · refine goD f0 ?_
    revert hs; refine bK fun y6 hx7 hs => ?_
    refine cA f0 (at_slices_Clone_api_Inst hx7) ?_
    refine goD2 f0 ?_
    revert hs; refine bK fun o103 e102 hs => ?_
    refine awp_cutK (fun (v : (List Inst)) (σ : St) => some (v) = some o103 ∧ σ.env 2 = .cell (.ref (.o 1 1 0) 0) ∧ σ.env 6 = .cell (.ref (.o 4 6 0) 0) ∧ σ.hp (.o 1 1 0) = some (.cells [tC (⟨#[]⟩ : ByteArray), .z]) ∧ σ.hp (.l 3) = some (.pure (encL v)) ∧ σ.hp (.o 4 6 0) = some (.cells [tC a0.Name, .sl (.l 3) 0 8 v.length]) ∧ 5 ≤ σ.gen) (by rfl) (fun Q hK104 hX105 => ?_) (fun l101 σ3 hp => ?_)
    · refine goD f0 ?_
      revert e102; refine bK fun o172 e171 e102 => ?_
      refine awp_loopW (fun (v : (List Inst) × Nat × (List Inst)) (σ : St) => simplify_Thread_L1 fuelN a0 v.1 v.2.1 v.2.2 = some o172 ∧ v.1 = a0.Code.drop v.2.1 ∧ σ.env 1 = .cell (.ref (.o 1 0 0) 0) ∧ σ.env 2 = .cell (.ref (.o 1 1 0) 0) ∧ σ.env 6 = .cell (.ref (.o 4 6 0) 0) ∧ σ.env 25 = .cell (sC a0.Code) ∧ σ.env 26 = iV .i64 ((a0.Code.length : Nat) : Int) ∧ σ.env 27 = iV .i64 ((v.2.1 : Nat) : Int) ∧ σ.hp (.o 1 0 0) = some (.cells (eA a0)) ∧ σ.hp (.o 1 1 0) = some (.cells [tC (⟨#[]⟩ : ByteArray), .z]) ∧ σ.hp (.l 8) = some (.pure (encL v.2.2)) ∧ σ.hp (.o 4 6 0) = some (.cells [tC a0.Name, .sl (.l 8) 0 8 v.2.2.length]) ∧ 5 ≤ σ.gen) (fun v => v.1.length) _ (Gh.ren _ (.o 4 4 0) (.l 8) (by simp) rfl rfl) (a0.Code, 0, y6) ⟨e171, by simp, pv f0, pv f0, pv f0, pv f0, pv f0, pv f0, pv f0, pv f0, pv f0, pv f0, pg⟩ fun v σ6 hp L173 hL174 => ?_
      obtain ⟨q176, k148, l149⟩ := v
      dsimp only at hp hL174
      obtain ⟨e171, hd175, h5_1, h5_2, h5_6, h5_25, h5_26, h5_27, g5_0, g5_1, g5_2, g5_3, n5_g⟩ := hp
      have n5_0 : ¬ (σ6.gen = 0) := by omega
      have n5_1 : ¬ (σ6.gen = 1) := by omega
      have n5_2 : ¬ (σ6.gen = 2) := by omega
      have n5_3 : ¬ (σ6.gen = 3) := by omega
      rcases q176 with _ | ⟨x181, q177⟩
      · have hlt178 := drop_end hd175
        rw [simplify_Thread_L1] at e171; try dsimp only at e171
        have F1 := an h5_1 (an h5_2 (an h5_6 (an h5_25 (an h5_26 (an h5_27 (an g5_0 (an g5_1 (an g5_2 (an g5_3 (an n5_0 (an n5_1 (an n5_2 n5_3))))))))))))
        refine goR F1 ?_
        refine condK_f (by simp [ltI]; omega) ?_
        obtain rfl := sj e171
        try dsimp only at e102
        exact hK104 l149 _ _ (Gh.ren _ (.l 8) (.l 3) (by simp) rfl rfl) ⟨e102, pv F1, pv F1, pv F1, pv F1, pv F1, pg⟩
      · obtain ⟨hx180, hlt178, hd182⟩ := drop_next hd175
        have ew179 := wrap_succ hlt178 (hb1).len
        rw [simplify_Thread_L1] at e171; try dsimp only at e171
        have F2 := an h5_1 (an h5_2 (an h5_6 (an h5_25 (an h5_26 (an h5_27 (an g5_0 (an g5_1 (an g5_2 (an g5_3 (an n5_0 (an n5_1 (an n5_2 (an n5_3 (an hlt178 ew179))))))))))))))
        refine goR F2 ?_
        refine condK_t (by simp [ltI]; omega) ?_
        have f183 : partCV Tryd.prog 83 (encL a0.Code) (k148 * 8) = some (.agg (eA x181)) := partCV_enc hx180 (f := 0) (by simp)
        have F3 := an F2 f183
        refine goG F3 F3 ?_
        revert e171; refine cS F3 ?_ ?_ <;> intro h184 e171
        · refine goE F3 F3 ?_
          revert e171; refine bK fun y192 hx193 e171 => ?_
          refine cP F3 (at_simplify_final hx193) ?_
          revert e171; refine bK fun x194 hx195 e171 => ?_
          have hx195b := getN_some hx195
          revert e171; refine lK fun l196 hx197 e171 => ?_
          have f198 : setRun (encL l149) (k148 * 8 + 5) [.c (.int .i64 y192)] = encL l196 := hx197 ▸ setRun_enc hx195 (f := 5) (by simp) (by simp [setRun])
          simp only [setRun] at f198
          have f198n : l196.length = l149.length := by rw [hx197]; simp
          have F4 := an F3 (an f198 f198n)
          have F5 := an F4 hx195b
          refine goE F4 F5 ?_
          exact hL174 (q177, (k148 + 1), l196) _ _ (Gh.refl _) ⟨e171, hd182, pv F4, pv F4, pv F4, pv F4, pv F4, pv F4, pv F4, pv F4, pv F4, pv F4, pg⟩ (by simp)
        · refine goG F3 F3 ?_
          exact hL174 (q177, (k148 + 1), l149) _ _ (Gh.refl _) ⟨e171, hd182, pv F3, pv F3, pv F3, pv F3, pv F3, pv F3, pv F3, pv F3, pv F3, pv F3, pg⟩ (by simp)
    · obtain ⟨e102, h4_2, h4_6, g4_0, g4_1, g4_2, n4_g⟩ := hp
      obtain rfl := sj e102
      try dsimp only at hs
      have n4_0 : ¬ (σ3.gen = 0) := by omega
      have n4_1 : ¬ (σ3.gen = 1) := by omega
      have n4_2 : ¬ (σ3.gen = 2) := by omega
      have n4_3 : ¬ (σ3.gen = 3) := by omega
      have F6 := an h4_2 (an h4_6 (an g4_0 (an g4_1 (an g4_2 (an n4_0 (an n4_1 (an n4_2 n4_3)))))))
      refine goD F6 ?_
      obtain rfl := sj hs
      exact hQ _ _ (rg F6 (Gh.frz _ (.l 3)))
end Go.Dc
end
section
set_option linter.all false
namespace Go.Dc
open Go Go.Hw Go.Proofs
set_option maxRecDepth 100000
def r15_final_L1 (a0 : Func) : Nat → Int → Int → Option (Unit ⊕ Int)
  | 0, _, _ => none
  | q69 + 1, i53, i54 => cond (!(ltI ((a0.Code.length : Nat) : Int) i54)) (guardO (orB (!(!(eqI i53 ((a0.Code.length : Nat) : Int)))) (inB i53 a0.Code.length)) (cond (orB (eqI i53 ((a0.Code.length : Nat) : Int)) (!(eqI ((gd a0.Code ((i53).toNat)).Op) 4))) (some (.inr i53)) (Option.bind (getI a0.Code i53) (fun x77 => r15_final_L1 a0 q69 x77.N (IntKind.i64.wrap (i54 + 1)))))) (some (.inl ()))

def r15_final (fuelN : Nat) (a0 : Func) (a1 : Int) : Option Int :=
  Option.bind (α := Unit ⊕ Int) (Option.bind (r15_final_L1 a0 fuelN a1 0) (fun o => match o with | .inl _ => some (.inl ()) | .inr r80 => some (.inr r80))) (fun o => match o with | .inl _ => some a1 | .inr r81 => some r81)

end Go.Dc
end
section
set_option linter.all false
namespace Go.Dc
open Go Go.Hw Go.Proofs
set_option maxRecDepth 100000
def r15_Thread_L1 (fuelN : Nat) (a0 : Func) : List Inst → Nat → (List Inst) → Option (List Inst)
  | [], k132, l133 => some (l133)
  | x163 :: q159, k132, l133 => cond (orB (eqI x163.Op 4) (eqI x163.Op 5)) (Option.bind (r15_final fuelN a0 x163.N) (fun y167 => Option.bind (some ([{ x163 with N := y167 }])) (fun l169 => guardO (limB 64 (l133.length + l169.length)) (Option.bind (some (l133 ++ l169)) (fun l172 => r15_Thread_L1 fuelN a0 q159 (k132 + 1) l172))))) (Option.bind (some ([x163])) (fun l174 => guardO (limB 64 (l133.length + l174.length)) (Option.bind (some (l133 ++ l174)) (fun l177 => r15_Thread_L1 fuelN a0 q159 (k132 + 1) l177))))

def r15_Thread (fuelN : Nat) (a0 : Func) : Option (Func × Int) :=
  Option.bind (r15_Check a0) (fun y1 => cond (!(eqI y1 0)) (some (({ Name := (⟨#[]⟩ : ByteArray), Code := [] } : Func), y1)) (Option.bind (α := (List Inst)) (Option.bind (r15_Thread_L1 fuelN a0 a0.Code 0 []) (fun l152 => some (l152))) (fun l89 => some ({ a0 with Code := l89 }, 0))))

end Go.Dc
end
section
set_option linter.all false
namespace Go.Dc
open Go Go.Hw Go.Proofs
set_option maxRecDepth 100000
def r02_Has_L1 (a1 : Int) : List Int → Nat → Option (Unit ⊕ Bool)
  | [], k41 => some (.inl ())
  | x58 :: q54, k41 => cond (eqI x58 a1) (some (.inr true)) (r02_Has_L1 a1 q54 (k41 + 1))

def r02_Has (a0 : List Int) (a1 : Int) : Option Bool :=
  Option.bind (α := Unit ⊕ Bool) (Option.bind (r02_Has_L1 a1 a0 0) (fun o => match o with | .inl _ => some (.inl ()) | .inr r62 => some (.inr r62))) (fun o => match o with | .inl _ => some false | .inr r63 => some r63)

end Go.Dc
end
section
set_option linter.all false
namespace Go.Dc
open Go Go.Hw Go.Proofs
set_option maxRecDepth 100000
def r02_insert_L1 (a0 : List Int) (a1 : Int) : Nat → Int → Option Int
  | 0, _ => none
  | q47 + 1, i35 => guardO (orB (!(ltI i35 ((a0.length : Nat) : Int))) (inB i35 a0.length)) (cond (andB (ltI i35 ((a0.length : Nat) : Int)) (ltI (gd a0 ((i35).toNat)) a1)) (r02_insert_L1 a0 a1 q47 (IntKind.i64.wrap (i35 + 1))) (some (i35)))

def r02_insert (fuelN : Nat) (a0 : List Int) (a1 : Int) : Option (List Int) :=
  Option.bind (α := Int) (Option.bind (r02_insert_L1 a0 a1 fuelN 0) (fun i40 => some (i40))) (fun i25 => Option.bind (some (([] : List Int))) (fun l54 => guardO (slB 0 i25 a0.length) (Option.bind (some (subL a0 0 i25)) (fun l57 => guardO (limB 8 (l54.length + l57.length)) (Option.bind (some (l54 ++ l57)) (fun l61 => Option.bind (some ([a1])) (fun l63 => guardO (limB 8 (l61.length + l63.length)) (Option.bind (some (l61 ++ l63)) (fun l66 => guardO (slB i25 (a0.length : Int) a0.length) (Option.bind (some (subL a0 i25 (a0.length : Int))) (fun l69 => guardO (limB 8 (l66.length + l69.length)) (Option.bind (some (l66 ++ l69)) (fun l73 => some l73)))))))))))))

end Go.Dc
end
section
set_option linter.all false
namespace Go.Dc
open Go Go.Hw Go.Proofs
set_option maxRecDepth 100000
def r02_Make_L1 (fuelN : Nat) : List Int → (List Int) → Nat → Option (List Int)
  | [], l87, k88 => some (l87)
  | x110 :: q106, l87, k88 => Option.bind (r02_Has l87 x110) (fun y113 => cond (!y113) (Option.bind (r02_insert fuelN l87 x110) (fun y116 => r02_Make_L1 fuelN q106 y116 (k88 + 1))) (r02_Make_L1 fuelN q106 l87 (k88 + 1)))

def r02_Make (fuelN : Nat) (a0 : List Int) : Option (List Int) :=
  Option.bind (some (([] : List Int))) (fun l1 => Option.bind (α := (List Int)) (Option.bind (r02_Make_L1 fuelN a0 l1 0) (fun l99 => some (l99))) (fun l58 => some l58))

end Go.Dc
end
section
set_option linter.all false
namespace Go.Dc
open Go Go.Hw Go.Proofs
set_option maxRecDepth 100000

def r12_successors (fuelN : Nat) (a0 : Func) (a1 : Int) : Option (List Int) :=
  Option.bind (getI a0.Code a1) (fun x1 => cond (eqI x1.Op 4) (Option.bind (some ([x1.N])) (fun l5 => some l5)) (cond (eqI x1.Op 7) (Option.bind (some ([((a0.Code.length : Nat) : Int)])) (fun l8 => some l8)) (cond (eqI x1.Op 5) (Option.bind (some ([x1.N, IntKind.i64.wrap (a1 + 1)])) (fun l11 => Option.bind (r02_Make fuelN l11) (fun y13 => some y13))) (Option.bind (some ([IntKind.i64.wrap (a1 + 1)])) (fun l15 => some l15)))))

end Go.Dc
end
section
set_option linter.all false
namespace Go.Dc
open Go Go.Hw Go.Proofs
set_option maxRecDepth 100000
def r12_Without_L3 (a1 : Int) (i8223 : Int) (y8419 : (List Int)) : Nat → (List Bool) → Int → Option (List Bool)
  | 0, _, _ => none
  | q8457 + 1, l8435, i8436 => guardO (orB (!(ltI i8436 ((y8419.length : Nat) : Int))) (inB i8223 l8435.length)) (cond (andB (ltI i8436 ((y8419.length : Nat) : Int)) (gd l8435 ((i8223).toNat))) (Option.bind (getI y8419 i8436) (fun x8464 => cond (!(eqI x8464 a1)) (Option.bind (getI l8435 x8464) (fun x8468 => Option.bind (some (l8435.set ((x8464).toNat) true)) (fun l8470 => r12_Without_L3 a1 i8223 y8419 q8457 l8470 (IntKind.i64.wrap (i8436 + 1))))) (r12_Without_L3 a1 i8223 y8419 q8457 l8435 (IntKind.i64.wrap (i8436 + 1))))) (some (l8435)))

def r12_Without_L2 (fuelN : Nat) (a0 : Func) (a1 : Int) : Nat → (List Bool) → Int → Option (List Bool)
  | 0, _, _ => none
  | q8355 + 1, l8222, i8223 => cond (ltI i8223 ((a0.Code.length : Nat) : Int)) (Option.bind (α := (List Bool)) (Option.bind (r12_successors fuelN a0 i8223) (fun y8419 => Option.bind (r12_Without_L3 a1 i8223 y8419 fuelN l8222 0) (fun l8450 => some (l8450)))) (fun l8414 => r12_Without_L2 fuelN a0 a1 q8355 l8414 (IntKind.i64.wrap (i8223 + 1)))) (some (l8222))

def r12_Without_L1 (fuelN : Nat) (a0 : Func) (a1 : Int) : Nat → (List Bool) → Int → Option (List Bool)
  | 0, _, _ => none
  | q7469 + 1, l6378, i6379 => cond (ltI i6379 ((a0.Code.length : Nat) : Int)) (Option.bind (α := (List Bool)) (Option.bind (r12_Without_L2 fuelN a0 a1 fuelN l6378 0) (fun l8348 => some (l8348))) (fun l7971 => r12_Without_L1 fuelN a0 a1 q7469 l7971 (IntKind.i64.wrap (i6379 + 1)))) (some (l6378))

def r12_Without (fuelN : Nat) (a0 : Func) (a1 : Int) : Option (List Bool) :=
  guardO (mkB2 1 (IntKind.i64.wrap (((a0.Code.length : Nat) : Int) + 1))) (Option.bind (some (List.replicate ((IntKind.i64.wrap (((a0.Code.length : Nat) : Int) + 1)).toNat) false)) (fun l2 => Option.bind (l2[0]?) (fun x5 => Option.bind (some (l2.set 0 (!(eqI a1 0)))) (fun l7 => Option.bind (α := (List Bool)) (Option.bind (r12_Without_L1 fuelN a0 a1 fuelN l7 0) (fun l7462 => some (l7462))) (fun l4239 => guardO (slB 0 ((a0.Code.length : Nat) : Int) l4239.length) (Option.bind (some (subL l4239 0 ((a0.Code.length : Nat) : Int))) (fun l8474 => some l8474)))))))

end Go.Dc
end
section
set_option linter.all false
namespace Go.Dc
open Go Go.Hw Go.Proofs
set_option maxRecDepth 100000
def r15_Prune_L1 (y4 : (List Bool)) : Nat → (List Int) → Int → Nat → Option ((List Int) × Int)
  | 0, l103, i104, k105 => some ((l103, i104))
  | q125 + 1, l103, i104, k105 => Option.bind (some ([i104])) (fun l129 => guardO (limB 8 (l103.length + l129.length)) (Option.bind (some (l103 ++ l129)) (fun l132 => Option.bind (y4[k105]?) (fun x134 => cond x134 (r15_Prune_L1 y4 q125 l132 (IntKind.i64.wrap (i104 + 1)) (k105 + 1)) (r15_Prune_L1 y4 q125 l132 i104 (k105 + 1))))))

def r15_Prune_L2 (y4 : (List Bool)) (l141 : List Int) : List Inst → Nat → (List Inst) → Option (List Inst)
  | [], k301, l302 => some (l302)
  | x337 :: q333, k301, l302 => Option.bind (y4[k301]?) (fun x340 => cond (!x340) (r15_Prune_L2 y4 l141 q333 (k301 + 1) l302) (cond (orB (eqI x337.Op 4) (eqI x337.Op 5)) (Option.bind (getI l141 x337.N) (fun x345 => Option.bind (some ([{ x337 with N := x345 }])) (fun l348 => guardO (limB 64 (l302.length + l348.length)) (Option.bind (some (l302 ++ l348)) (fun l351 => r15_Prune_L2 y4 l141 q333 (k301 + 1) l351))))) (Option.bind (some ([x337])) (fun l353 => guardO (limB 64 (l302.length + l353.length)) (Option.bind (some (l302 ++ l353)) (fun l356 => r15_Prune_L2 y4 l141 q333 (k301 + 1) l356))))))

def r15_Prune (fuelN : Nat) (a0 : Func) : Option (Func × Int) :=
  Option.bind (r15_Check a0) (fun y1 => cond (!(eqI y1 0)) (some (({ Name := (⟨#[]⟩ : ByteArray), Code := [] } : Func), y1)) (Option.bind (r12_Without fuelN a0 (-1)) (fun y4 => Option.bind (α := (List Int) × Int) (Option.bind (r15_Prune_L1 y4 a0.Code.length [] 0 0) (fun o => match o with | (l117, i118) => some ((l117, i118)))) (fun o => match o with | (l69, i70) => Option.bind (some ([i70])) (fun l138 => guardO (limB 8 (l69.length + l138.length)) (Option.bind (some (l69 ++ l138)) (fun l141 => Option.bind (α := (List Inst)) (Option.bind (r15_Prune_L2 y4 l141 a0.Code 0 []) (fun l326 => some (l326))) (fun l248 => some ({ a0 with Code := l248 }, 0)))))))))

end Go.Dc
end
section
set_option linter.all false
namespace Go.Dc
open Go Go.Hw Go.Proofs
set_option maxRecDepth 100000

def law15_SimplifyJumps (fuelN : Nat) (a0 : Func) : Option Bool :=
  cond (ltI 30 ((a0.Code.length : Nat) : Int)) (Option.bind (law15_exampleHolds fuelN) (fun y2 => some y2)) (Option.bind (simplify_Thread fuelN a0) (fun y4 => Option.bind (r15_Thread fuelN a0) (fun y6 => Option.bind (simplify_Prune fuelN a0) (fun y8 => Option.bind (r15_Prune fuelN a0) (fun y10 => guardO (orB (!(andB (eqI y4.2 y6.2) (eqI y8.2 y10.2))) ((r15_SameCode y4.1 y6.1).isSome)) (guardO (orB (!(andB (andB (eqI y4.2 y6.2) (eqI y8.2 y10.2)) ((r15_SameCode y4.1 y6.1).getD default))) ((r15_SameCode y8.1 y10.1).isSome)) (guardO (orB (!(andB (andB (andB (eqI y4.2 y6.2) (eqI y8.2 y10.2)) ((r15_SameCode y4.1 y6.1).getD default)) ((r15_SameCode y8.1 y10.1).getD default))) ((law15_exampleHolds fuelN).isSome)) (some (andB (andB (andB (andB (eqI y4.2 y6.2) (eqI y8.2 y10.2)) ((r15_SameCode y4.1 y6.1).getD default)) ((r15_SameCode y8.1 y10.1).getD default)) ((law15_exampleHolds fuelN).getD default))))))))))

end Go.Dc
end
