/- Contracts of functions, by their numbers, and the laws that walk them. Conditions: as each states. -/
import Derived.Test.YtihjddokgmjafaaDoorH4
import Derived.Test.YtihjddokgmjafaaDoorH5
import Derived.Test.YtihjddokgmjafaaDoorRows
import Derived.LaidMore
import Derived.MakeChecks
set_option linter.all false
section
set_option linter.all false
namespace Go.Dc
open Go Go.Hw Go.Proofs
set_option maxRecDepth 100000
def law16_AstLocals_L2 (y3839 : (List ByteArray)) : List ByteArray → Nat → Option (Unit ⊕ Bool)
  | [], k3947 => some (.inl ())
  | x3979 :: q3975, k3947 => guardO (slB 0 ((k3947 : Nat) : Int) y3839.length) (Option.bind (some (subL y3839 0 ((k3947 : Nat) : Int))) (fun l3990 => Option.bind (law16_has l3990 x3979) (fun y3994 => cond y3994 (some (.inr false)) (law16_AstLocals_L2 y3839 q3975 (k3947 + 1)))))

def law16_AstLocals_L3 (x3836 : Proc) (y3839 : (List ByteArray)) : Nat → Int → Option (Unit ⊕ Bool)
  | 0, _ => none
  | q4050 + 1, i4021 => cond (!(ltI ((x3836.Body.length : Nat) : Int) i4021)) (guardO (slB 0 i4021 x3836.Body.length) (Option.bind (some (subL x3836.Body 0 i4021)) (fun l4062 => Option.bind (ast_Locals ({ x3836 with Body := l4062 })) (fun y4065 => cond (!(ltI ((y3839.length : Nat) : Int) ((y4065.length : Nat) : Int))) (guardO (slB 0 ((y4065.length : Nat) : Int) y3839.length) (Option.bind (some (subL y3839 0 ((y4065.length : Nat) : Int))) (fun l4069 => Option.bind (r16_Strings y4065 l4069) (fun y4072 => cond (!y4072) (some (.inr false)) (law16_AstLocals_L3 x3836 y3839 q4050 (IntKind.i64.wrap (i4021 + 1))))))) (some (.inr false)))))) (some (.inl ()))

def law16_AstLocals_L1 (fuelN : Nat) (a0 : UnitT) : Nat → Int → Option (Unit ⊕ Bool)
  | 0, _ => none
  | q3586 + 1, i3069 => cond (ltI i3069 ((a0.Procs.length : Nat) : Int)) (Option.bind (α := Unit ⊕ Bool) (Option.bind (getI a0.Procs i3069) (fun x3836 => Option.bind (ast_Locals x3836) (fun y3839 => guardO (orB (!(!(ltI 5 ((y3839.length : Nat) : Int)))) ((law16_bound fuelN x3836.Body y3839).isSome)) (guardO (orB (!(andB (andB (!(orB (ltI 5 ((y3839.length : Nat) : Int)) (!((law16_bound fuelN x3836.Body y3839).getD default)))) (!(eqS x3836.Param (⟨#[]⟩ : ByteArray)))) (!(eqI ((y3839.length : Nat) : Int) 0)))) (inB (0 : Int) y3839.length)) (cond (orB (orB (ltI 5 ((y3839.length : Nat) : Int)) (!((law16_bound fuelN x3836.Body y3839).getD default))) (andB (!(eqS x3836.Param (⟨#[]⟩ : ByteArray))) (orB (eqI ((y3839.length : Nat) : Int) 0) (!(eqS (gd y3839 0) x3836.Param))))) (some (.inr false)) (Option.bind (α := Unit ⊕ Bool) (guardO (lenB y3839.length) (Option.bind (law16_AstLocals_L2 y3839 y3839 0) (fun o => match o with | .inl _ => some (.inl ()) | .inr r3997 => some (.inr r3997)))) (fun o => match o with | .inl _ => Option.bind (law16_AstLocals_L3 x3836 y3839 fuelN 0) (fun o => match o with | .inl _ => some (.inl ()) | .inr r4075 => some (.inr r4075)) | .inr r4076 => some (.inr r4076)))))))) (fun o => match o with | .inl _ => law16_AstLocals_L1 fuelN a0 q3586 (IntKind.i64.wrap (i3069 + 1)) | .inr r4077 => some (.inr r4077))) (some (.inl ()))

def law16_AstLocals (fuelN : Nat) (a0 : UnitT) : Option Bool :=
  Option.bind (r16_Few fuelN a0) (fun y1 => cond (!y1) (Option.bind (law16_awake fuelN) (fun y4 => some y4)) (Option.bind (ast_Check fuelN a0) (fun y6 => cond (!(eqI y6.1 0)) (Option.bind (law16_awake fuelN) (fun y9 => some y9)) (Option.bind (α := Unit ⊕ Bool) (Option.bind (law16_AstLocals_L1 fuelN a0 fuelN 0) (fun o => match o with | .inl _ => some (.inl ()) | .inr r4078 => some (.inr r4078))) (fun o => match o with | .inl _ => Option.bind (law16_awake fuelN) (fun y4079 => some y4079) | .inr r4081 => some r4081)))))

set_option maxHeartbeats 2000000 in
theorem at_law16_AstLocals {fuelN : Nat} {a0 : UnitT} {r : Bool} (hs : law16_AstLocals fuelN a0 = some r) : At Tryd.prog 11 [.agg (eA a0)] (bV r) := by
  refine at_bound (by kernel_rfl) fun hb => ?_
  have hb1 : LenOk (.sl a0.Vars.length (encL a0.Vars)) := lkc hb
  have hb2 : LenOk (.sl a0.Mutexes.length (encL a0.Mutexes)) := lkc hb
  have hb3 : LenOk (.sl a0.Conds.length (encL a0.Conds)) := lkc hb
  have hb4 : LenOk (.sl a0.Procs.length (encL a0.Procs)) := lkc hb
  have hb5 : LenOk (.sl a0.Threads.length (encL a0.Threads)) := lkc hb
  refine at_code mixed Tryd.func11 (by kernel_rfl) rfl (by kernel_rfl) rfl fun Q hQ => ?_
  rw [law16_AstLocals] at hs
  refine goR f0 ?_
  revert hs; refine bK fun y1 hx2 hs => ?_
  refine cP f0 (at_r16_Few hx2) ?_
  refine goR f0 ?_
  revert hs; refine cS f0 ?_ ?_ <;> intro h3 hs
  · refine goR f0 ?_
    revert hs; refine bK fun y4 hx5 hs => ?_
    refine cP f0 (at_law16_awake hx5) ?_
    refine goR f0 ?_
    obtain rfl := sj hs
    exact hQ _ _ (rg f0 (Gh.refl _))
  · refine goR f0 ?_
    revert hs; refine bK fun y6 hx7 hs => ?_
    refine cP f0 (at_ast_Check hx7) ?_
    refine goR f0 ?_
    revert hs; refine cS f0 ?_ ?_ <;> intro h8 hs
    · refine goR f0 ?_
      revert hs; refine bK fun y9 hx10 hs => ?_
      refine cP f0 (at_law16_awake hx10) ?_
      refine goR f0 ?_
      obtain rfl := sj hs
      exact hQ _ _ (rg f0 (Gh.refl _))
    · refine goR2 f0 ?_
      revert hs; refine bK fun o2044 e2043 hs => ?_
      refine awp_cutK (fun (v : Unit) (σ : St) => some (.inl v) = some o2044 ∧ 5 ≤ σ.gen) (by rfl) (fun Q hK2045 hX2046 => ?_) (fun v σ75 hp => ?_)
      · refine goR f0 ?_
        revert e2043; refine bK fun o3581 e3580 e2043 => ?_
        refine awp_loopW (fun (v : Nat × Int) (σ : St) => law16_AstLocals_L1 fuelN a0 v.1 v.2 = some o3581 ∧ σ.env 1 = .cell (.ref (.o 1 0 0) 0) ∧ σ.env 6 = iV .i64 v.2 ∧ σ.hp (.o 1 0 0) = some (.cells (eA a0)) ∧ 5 ≤ σ.gen) (fun v => v.1) _ (Gh.refl _) (fuelN, 0) ⟨e3580, pv f0, pv f0, pv f0, pg⟩ fun v σ132 hp L3582 hL3583 => ?_
        obtain ⟨q3585, i3069⟩ := v
        dsimp only at hp hL3583
        obtain ⟨e3580, h131_1, h131_6, g131_0, n131_g⟩ := hp
        have n131_0 : ¬ (σ132.gen = 0) := by omega
        rcases q3585 with _ | q3586
        · rw [law16_AstLocals_L1] at e3580; cases e3580
        · rw [law16_AstLocals_L1] at e3580; try dsimp only at e3580
          have F1 := an h131_1 (an h131_6 (an g131_0 n131_0))
          refine goR F1 ?_
          revert e3580; refine cS F1 ?_ ?_ <;> intro h3590 e3580
          · refine goR2 F1 ?_
            revert e3580; refine bK fun o3833 e3832 e3580 => ?_
            refine awp_cutK (fun (v : Unit) (σ : St) => some (.inl v) = some o3833 ∧ σ.env 1 = .cell (.ref (.o 1 0 0) 0) ∧ σ.env 6 = iV .i64 i3069 ∧ σ.hp (.o 1 0 0) = some (.cells (eA a0)) ∧ (σ132.gen + 1) ≤ σ.gen) (by rfl) (fun Q hK3834 hX3835 => ?_) (fun v σ141 hp => ?_)
            · refine goR2 F1 ?_
              refine awp_block ?_
              revert e3832; refine bK fun x3836 hx3837 e3832 => ?_
              obtain ⟨hx3837a, hx3837b, hx3837c, hx3837d⟩ := getI_some hx3837
              have f3838 : partCV Tryd.prog 57 (encL a0.Procs) (((i3069).toNat) * 3) = some (.agg (eA x3836)) := partCV_enc hx3837d (f := 0) (by simp)
              have F2 := an F1 f3838
              refine goR F2 ?_
              revert e3832; refine bK fun y3839 hx3840 e3832 => ?_
              refine cP F2 (at_ast_Locals hx3840) ?_
              have F3 := an F2 (an hx3837a hx3837b)
              refine goE F2 F3 ?_
              obtain ⟨g3844, e3832⟩ := guardO_some e3832
              refine dsel_call (fun hg => at_law16_bound (under_call g3844 hg)) (fun hg => by (try simp at hg); (first | simp [hg, F2]); try rfl) (fun hg => by (try simp at hg); simp [hg, F2]) (by simp) ?_
              obtain ⟨g3845, e3832⟩ := guardO_some e3832
              have g3845a : (andB (andB (!(orB (ltI 5 ((y3839.length : Nat) : Int)) (!((law16_bound fuelN x3836.Body y3839).getD default)))) (!(eqS x3836.Param (⟨#[]⟩ : ByteArray)))) (!(eqI ((y3839.length : Nat) : Int) 0))) = true → 0 ≤ (0 : Int) := fun hg => (under_elem g3845 hg).1
              have g3845b : (andB (andB (!(orB (ltI 5 ((y3839.length : Nat) : Int)) (!((law16_bound fuelN x3836.Body y3839).getD default)))) (!(eqS x3836.Param (⟨#[]⟩ : ByteArray)))) (!(eqI ((y3839.length : Nat) : Int) 0))) = true → (0 : Int) < (y3839.length : Int) := fun hg => (under_elem g3845 hg).2.1
              have g3845n : (andB (andB (!(orB (ltI 5 ((y3839.length : Nat) : Int)) (!((law16_bound fuelN x3836.Body y3839).getD default)))) (!(eqS x3836.Param (⟨#[]⟩ : ByteArray)))) (!(eqI ((y3839.length : Nat) : Int) 0))) = true → 0 < y3839.length := fun hg => by simpa using (under_elem g3845 hg).2.2.1
              have g3845c : (andB (andB (!(orB (ltI 5 ((y3839.length : Nat) : Int)) (!((law16_bound fuelN x3836.Body y3839).getD default)))) (!(eqS x3836.Param (⟨#[]⟩ : ByteArray)))) (!(eqI ((y3839.length : Nat) : Int) 0))) = true → y3839[0]? = some (gd y3839 0) := fun hg => by simpa using (under_elem g3845 hg).2.2.2
              have f3846 : (andB (andB (!(orB (ltI 5 ((y3839.length : Nat) : Int)) (!((law16_bound fuelN x3836.Body y3839).getD default)))) (!(eqS x3836.Param (⟨#[]⟩ : ByteArray)))) (!(eqI ((y3839.length : Nat) : Int) 0))) = true → partCV Tryd.prog 9 (encL y3839) (0) = some (sV (gd y3839 0)) := fun hg => partCV_enc1 (g3845c hg) (by simp)
              have F4 := an F2 (an g3845a (an g3845b (an g3845n f3846)))
              have F5 := an F4 (an hx3837a hx3837b)
              refine goE F4 F5 ?_
              revert e3832; refine cS F4 ?_ ?_ <;> intro h3847 e3832
              · refine goE F4 F5 ?_
                obtain rfl := sj e3832
                try dsimp only at e3580
                refine hX3835 _ _ (by simp) ?_
                refine goE F4 F5 ?_
                obtain rfl := sj e3580
                try dsimp only at e2043
                obtain rfl := sj e2043
                try dsimp only at hs
                refine hX2046 _ _ (by simp) ?_
                refine goE F4 F5 ?_
                obtain rfl := sj hs
                exact hQ _ _ (rg F4 (Gh.refl _))
              · refine goE2 F4 F5 ?_
                revert e3832; refine bK fun o3922 e3921 e3832 => ?_
                refine awp_cutK (fun (v : Unit) (σ : St) => some (.inl v) = some o3922 ∧ σ.env 1 = .cell (.ref (.o 1 0 0) 0) ∧ σ.env 6 = iV .i64 i3069 ∧ σ.env 7 = .cell (.ref (.o (σ132.gen + 2) 5 0) 0) ∧ σ.env 8 = .cell (sC y3839) ∧ σ.hp (.o 1 0 0) = some (.cells (eA a0)) ∧ σ.hp (.o (σ132.gen + 2) 5 0) = some (.cells (eA x3836)) ∧ (σ132.gen + 5) ≤ σ.gen) (by rfl) (fun Q hK3923 hX3924 => ?_) (fun v σ145 hp => ?_)
                · refine goE F4 F5 ?_
                  obtain ⟨hb3980, e3921⟩ := guardO_some e3921
                  revert e3921; refine bK fun o3970 e3969 e3921 => ?_
                  refine awp_loopW (fun (v : (List ByteArray) × Nat) (σ : St) => law16_AstLocals_L2 y3839 v.1 v.2 = some o3970 ∧ v.1 = y3839.drop v.2 ∧ σ.env 1 = .cell (.ref (.o 1 0 0) 0) ∧ σ.env 6 = iV .i64 i3069 ∧ σ.env 7 = .cell (.ref (.o (σ132.gen + 2) 5 0) 0) ∧ σ.env 8 = .cell (sC y3839) ∧ σ.env 9 = iV .i64 ((v.2 : Nat) : Int) ∧ σ.hp (.o 1 0 0) = some (.cells (eA a0)) ∧ σ.hp (.o (σ132.gen + 2) 5 0) = some (.cells (eA x3836)) ∧ (σ132.gen + 5) ≤ σ.gen) (fun v => v.1.length) _ (Gh.refl _) (y3839, 0) ⟨e3969, by simp, pv F4, pv F4, pv F4, pv F4, pv F4, pv F4, pv F4, pg⟩ fun v σ148 hp L3971 hL3972 => ?_
                  obtain ⟨q3974, k3947⟩ := v
                  dsimp only at hp hL3972
                  obtain ⟨e3969, hd3973, h147_1, h147_6, h147_7, h147_8, h147_9, g147_0, g147_1, n147_g⟩ := hp
                  have n147_0 : ¬ (σ148.gen = 0) := by omega
                  have n147_σ132gen_0 : ¬ (σ148.gen = σ132.gen) := by omega
                  have n147_σ132gen_0' : ¬ (σ132.gen = σ148.gen) := by omega
                  have n147_σ132gen_1 : ¬ (σ148.gen = σ132.gen + 1) := by omega
                  have n147_σ132gen_1' : ¬ (σ132.gen + 1 = σ148.gen) := by omega
                  have n147_σ132gen_2 : ¬ (σ148.gen = σ132.gen + 2) := by omega
                  have n147_σ132gen_2' : ¬ (σ132.gen + 2 = σ148.gen) := by omega
                  have n147_σ132gen_a : ∀ j, ¬ (σ148.gen + j = σ132.gen) := fun j => by omega
                  have n147_σ132gen_a' : ∀ j, ¬ (σ132.gen = σ148.gen + j) := fun j => by omega
                  rcases q3974 with _ | ⟨x3979, q3975⟩
                  · have hlt3976 := drop_end hd3973
                    rw [law16_AstLocals_L2] at e3969; try dsimp only at e3969
                    have F6 := an h147_1 (an h147_6 (an h147_7 (an h147_8 (an h147_9 (an g147_0 (an g147_1 (an n147_0 (an n147_σ132gen_0 (an n147_σ132gen_0' (an n147_σ132gen_1 (an n147_σ132gen_1' (an n147_σ132gen_2 (an n147_σ132gen_2' (an n147_σ132gen_a (an n147_σ132gen_a' (an f3838 (an g3845a (an g3845b (an g3845n f3846)))))))))))))))))))
                    refine goR F6 ?_
                    refine condK_f (by simp [ltI]; omega) ?_
                    obtain rfl := sj e3969
                    try dsimp only at e3921
                    exact hK3923 () _ _ (Gh.refl _) ⟨e3921, pv F6, pv F6, pv F6, pv F6, pv F6, pv F6, pg⟩
                  · obtain ⟨hx3978, hlt3976, hd3981⟩ := drop_next hd3973
                    have ew3977 := wrap_succG hlt3976 hb3980
                    rw [law16_AstLocals_L2] at e3969; try dsimp only at e3969
                    have F7 := an h147_1 (an h147_6 (an h147_7 (an h147_8 (an h147_9 (an g147_0 (an g147_1 (an n147_0 (an n147_σ132gen_0 (an n147_σ132gen_0' (an n147_σ132gen_1 (an n147_σ132gen_1' (an n147_σ132gen_2 (an n147_σ132gen_2' (an n147_σ132gen_a (an n147_σ132gen_a' (an f3838 (an g3845a (an g3845b (an g3845n (an f3846 (an hlt3976 ew3977)))))))))))))))))))))
                    refine goR F7 ?_
                    refine condK_t (by simp [ltI]; omega) ?_
                    obtain ⟨g3989, e3969⟩ := guardO_some e3969
                    obtain ⟨g3989a, g3989b, g3989c⟩ := slB_t g3989
                    revert e3969; refine lK fun l3990 hx3991 e3969 => ?_
                    have f3992n : l3990.length = (((k3947 : Nat) : Int) - 0).toNat := by rw [hx3991]; exact subL_len ⟨g3989a, g3989b, g3989c⟩
                    have f3992e : ((encL y3839).drop ((0 : Int).toNat * 1)).take ((((k3947 : Nat) : Int) - 0).toNat * 1) = encL l3990 := by rw [hx3991]; exact subL_enc (α := ByteArray)
                    try simp at f3992n
                    try simp at f3992e
                    have f3993 : partCV Tryd.prog 9 (encL y3839) (k3947) = some (sV x3979) := partCV_enc1 hx3978 (by simp)
                    have F8 := an F7 (an g3989a (an g3989b (an g3989c (an f3992n (an f3992e f3993)))))
                    refine goD F8 ?_
                    revert e3969; refine bK fun y3994 hx3995 e3969 => ?_
                    refine cP F8 (at_law16_has hx3995) ?_
                    refine goD F8 ?_
                    revert e3969; refine cS F8 ?_ ?_ <;> intro h3996 e3969
                    · refine goD F8 ?_
                      obtain rfl := sj e3969
                      try dsimp only at e3921
                      obtain rfl := sj e3921
                      try dsimp only at e3832
                      refine hX3924 _ _ (by simp) ?_
                      refine goD F8 ?_
                      obtain rfl := sj e3832
                      try dsimp only at e3580
                      refine hX3835 _ _ (by simp) ?_
                      refine goD F8 ?_
                      obtain rfl := sj e3580
                      try dsimp only at e2043
                      obtain rfl := sj e2043
                      try dsimp only at hs
                      refine hX2046 _ _ (by simp) ?_
                      refine goD F8 ?_
                      obtain rfl := sj hs
                      exact hQ _ _ (rg F8 (Gh.refl _))
                    · refine goD F8 ?_
                      exact hL3972 (q3975, (k3947 + 1)) _ _ (Gh.refl _) ⟨e3969, hd3981, pv F8, pv F8, pv F8, pv F8, pv F8, pv F8, pv F8, pg⟩ (by simp)
                · obtain ⟨e3921, h146_1, h146_6, h146_7, h146_8, g146_0, g146_1, n146_g⟩ := hp
                  obtain rfl := sj e3921
                  try dsimp only at e3832
                  have n146_0 : ¬ (σ145.gen = 0) := by omega
                  have n146_σ132gen_0 : ¬ (σ145.gen = σ132.gen) := by omega
                  have n146_σ132gen_0' : ¬ (σ132.gen = σ145.gen) := by omega
                  have n146_σ132gen_1 : ¬ (σ145.gen = σ132.gen + 1) := by omega
                  have n146_σ132gen_1' : ¬ (σ132.gen + 1 = σ145.gen) := by omega
                  have n146_σ132gen_2 : ¬ (σ145.gen = σ132.gen + 2) := by omega
                  have n146_σ132gen_2' : ¬ (σ132.gen + 2 = σ145.gen) := by omega
                  have n146_σ132gen_a : ∀ j, ¬ (σ145.gen + j = σ132.gen) := fun j => by omega
                  have n146_σ132gen_a' : ∀ j, ¬ (σ132.gen = σ145.gen + j) := fun j => by omega
                  have F9 := an h146_1 (an h146_6 (an h146_7 (an h146_8 (an g146_0 (an g146_1 (an n146_0 (an n146_σ132gen_0 (an n146_σ132gen_0' (an n146_σ132gen_1 (an n146_σ132gen_1' (an n146_σ132gen_2 (an n146_σ132gen_2' (an n146_σ132gen_a (an n146_σ132gen_a' (an f3838 (an g3845a (an g3845b (an g3845n f3846))))))))))))))))))
                  have F10 := an F9 (an hx3837a hx3837b)
                  refine goE F9 F10 ?_
                  revert e3832; refine bK fun o4045 e4044 e3832 => ?_
                  refine awp_loopW (fun (v : Nat × Int) (σ : St) => law16_AstLocals_L3 x3836 y3839 v.1 v.2 = some o4045 ∧ σ.env 1 = .cell (.ref (.o 1 0 0) 0) ∧ σ.env 6 = iV .i64 i3069 ∧ σ.env 7 = .cell (.ref (.o (σ132.gen + 2) 5 0) 0) ∧ σ.env 8 = .cell (sC y3839) ∧ σ.env 10 = iV .i64 v.2 ∧ σ.hp (.o 1 0 0) = some (.cells (eA a0)) ∧ σ.hp (.o (σ132.gen + 2) 5 0) = some (.cells (eA x3836)) ∧ (σ145.gen + 1) ≤ σ.gen) (fun v => v.1) _ (Gh.refl _) (fuelN, 0) ⟨e4044, pv F9, pv F9, pv F9, pv F9, pv F9, pv F9, pv F9, pg⟩ fun v σ150 hp L4046 hL4047 => ?_
                  obtain ⟨q4049, i4021⟩ := v
                  dsimp only at hp hL4047
                  obtain ⟨e4044, h149_1, h149_6, h149_7, h149_8, h149_10, g149_0, g149_1, n149_g⟩ := hp
                  have n149_0 : ¬ (σ150.gen = 0) := by omega
                  have n149_σ132gen_0 : ¬ (σ150.gen = σ132.gen) := by omega
                  have n149_σ132gen_0' : ¬ (σ132.gen = σ150.gen) := by omega
                  have n149_σ132gen_1 : ¬ (σ150.gen = σ132.gen + 1) := by omega
                  have n149_σ132gen_1' : ¬ (σ132.gen + 1 = σ150.gen) := by omega
                  have n149_σ132gen_2 : ¬ (σ150.gen = σ132.gen + 2) := by omega
                  have n149_σ132gen_2' : ¬ (σ132.gen + 2 = σ150.gen) := by omega
                  have n149_σ132gen_a : ∀ j, ¬ (σ150.gen + j = σ132.gen) := fun j => by omega
                  have n149_σ132gen_a' : ∀ j, ¬ (σ132.gen = σ150.gen + j) := fun j => by omega
                  rcases q4049 with _ | q4050
                  · rw [law16_AstLocals_L3] at e4044; cases e4044
                  · rw [law16_AstLocals_L3] at e4044; try dsimp only at e4044
                    have F11 := an h149_1 (an h149_6 (an h149_7 (an h149_8 (an h149_10 (an g149_0 (an g149_1 (an n149_0 (an n149_σ132gen_0 (an n149_σ132gen_0' (an n149_σ132gen_1 (an n149_σ132gen_1' (an n149_σ132gen_2 (an n149_σ132gen_2' (an n149_σ132gen_a (an n149_σ132gen_a' (an f3838 (an g3845a (an g3845b (an g3845n f3846)))))))))))))))))))
                    refine goR F11 ?_
                    revert e4044; refine cS F11 ?_ ?_ <;> intro h4054 e4044
                    · obtain ⟨g4061, e4044⟩ := guardO_some e4044
                      obtain ⟨g4061a, g4061b, g4061c⟩ := slB_t g4061
                      revert e4044; refine lK fun l4062 hx4063 e4044 => ?_
                      have f4064n : l4062.length = (i4021 - 0).toNat := by rw [hx4063]; exact subL_len ⟨g4061a, g4061b, g4061c⟩
                      have f4064e : ((encL x3836.Body).drop ((0 : Int).toNat * 9)).take ((i4021 - 0).toNat * 9) = encL l4062 := by rw [hx4063]; exact subL_enc (α := Stmt)
                      try simp at f4064n
                      try simp at f4064e
                      have f4064o : LenOk (.sl l4062.length (encL l4062)) := by rw [hx4063]; exact subL_ok (LenOk.elem hb4 hx3837d (c := .sl x3836.Body.length (encL x3836.Body)) (by simp))
                      have F12 := an F11 (an g4061a (an g4061b (an g4061c (an f4064n f4064e))))
                      refine goD F12 ?_
                      revert e4044; refine bK fun y4065 hx4066 e4044 => ?_
                      refine cP F12 (at_ast_Locals hx4066) ?_
                      have F13 := an F12 (an hx3837a hx3837b)
                      refine goE F12 F13 ?_
                      refine gsel_split (fun h4067 => ?_) (fun h4067 => ?_)
                      · replace e4044 := condT h4067 e4044
                        simp only [Bool.not_eq_true', Bool.not_eq_false', Bool.not_not] at h4067
                        obtain ⟨g4068, e4044⟩ := guardO_some e4044
                        obtain ⟨g4068a, g4068b, g4068c⟩ := slB_t g4068
                        revert e4044; refine lK fun l4069 hx4070 e4044 => ?_
                        have f4071n : l4069.length = (((y4065.length : Nat) : Int) - 0).toNat := by rw [hx4070]; exact subL_len ⟨g4068a, g4068b, g4068c⟩
                        have f4071e : ((encL y3839).drop ((0 : Int).toNat * 1)).take ((((y4065.length : Nat) : Int) - 0).toNat * 1) = encL l4069 := by rw [hx4070]; exact subL_enc (α := ByteArray)
                        try simp at f4071n
                        try simp at f4071e
                        have F14 := an F12 (an h4067 (an g4068a (an g4068b (an g4068c (an f4071n f4071e)))))
                        have F15 := an F14 (an hx3837a hx3837b)
                        refine goE F14 F15 ?_
                        revert e4044; refine bK fun y4072 hx4073 e4044 => ?_
                        refine cP F14 (at_r16_Strings hx4073) ?_
                        refine goE F14 F15 ?_
                        revert e4044; refine cS F14 ?_ ?_ <;> intro h4074 e4044
                        · refine goE F14 F15 ?_
                          obtain rfl := sj e4044
                          try dsimp only at e3832
                          obtain rfl := sj e3832
                          try dsimp only at e3580
                          refine hX3835 _ _ (by simp) ?_
                          refine goE F14 F15 ?_
                          obtain rfl := sj e3580
                          try dsimp only at e2043
                          obtain rfl := sj e2043
                          try dsimp only at hs
                          refine hX2046 _ _ (by simp) ?_
                          refine goE F14 F15 ?_
                          obtain rfl := sj hs
                          exact hQ _ _ (rg F14 (Gh.refl _))
                        · refine goE F14 F15 ?_
                          exact hL4047 (q4050, IntKind.i64.wrap (i4021 + 1)) _ _ (Gh.refl _) ⟨e4044, pv F14, pv F14, pv F14, pv F14, pv F14, pv F14, pv F14, pg⟩ (by omega)
                      · replace e4044 := condF h4067 e4044
                        simp only [Bool.not_eq_true', Bool.not_eq_false', Bool.not_not] at h4067
                        have F16 := an F12 h4067
                        have F17 := an F16 (an hx3837a hx3837b)
                        refine goE F16 F17 ?_
                        refine goR F16 ?_
                        obtain rfl := sj e4044
                        try dsimp only at e3832
                        obtain rfl := sj e3832
                        try dsimp only at e3580
                        refine hX3835 _ _ (by simp) ?_
                        refine goR F16 ?_
                        obtain rfl := sj e3580
                        try dsimp only at e2043
                        obtain rfl := sj e2043
                        try dsimp only at hs
                        refine hX2046 _ _ (by simp) ?_
                        refine goR F16 ?_
                        obtain rfl := sj hs
                        exact hQ _ _ (rg F16 (Gh.refl _))
                    · refine goR F11 ?_
                      obtain rfl := sj e4044
                      try dsimp only at e3832
                      exact hK3834 () _ _ (Gh.refl _) ⟨e3832, pv F11, pv F11, pv F11, pg⟩
            · obtain ⟨e3832, h142_1, h142_6, g142_0, n142_g⟩ := hp
              obtain rfl := sj e3832
              try dsimp only at e3580
              have n142_0 : ¬ (σ141.gen = 0) := by omega
              have F18 := an h142_1 (an h142_6 (an g142_0 n142_0))
              refine goR F18 ?_
              exact hL3583 (q3586, IntKind.i64.wrap (i3069 + 1)) _ _ (Gh.refl _) ⟨e3580, pv F18, pv F18, pv F18, pg⟩ (by omega)
          · refine goR F1 ?_
            obtain rfl := sj e3580
            try dsimp only at e2043
            exact hK2045 () _ _ (Gh.refl _) ⟨e2043, pg⟩
      · obtain ⟨e2043, n76_g⟩ := hp
        obtain rfl := sj e2043
        try dsimp only at hs
        refine goR f0 ?_
        revert hs; refine bK fun y4079 hx4080 hs => ?_
        refine cP f0 (at_law16_awake hx4080) ?_
        refine goR f0 ?_
        obtain rfl := sj hs
        exact hQ _ _ (rg f0 (Gh.refl _))
end Go.Dc
end
section
set_option linter.all false
namespace Go.Dc.Pl
open Go Go.Hw Go.Dc
theorem eqS_refl (a : ByteArray) : eqS a a = true := by simp [eqS]
theorem isIn_append (a b : List ByteArray) (s : ByteArray) : isIn (a ++ b) s = (isIn a s || isIn b s) := by simp [isIn]
theorem addN_pre (a : List ByteArray) (s : Stmt) : ∃ t, addN a s = a ++ t := by
  unfold addN; split
  · exact ⟨_, rfl⟩
  · exact ⟨[], by simp⟩
theorem addL_pre : ∀ (xs : List (Int × Stmt)) (a : List ByteArray), ∃ t, addL a xs = a ++ t
  | [], a => ⟨[], by simp⟩
  | x :: r, a => by
    obtain ⟨t, ht⟩ := addN_pre a x.2
    obtain ⟨u, hu⟩ := addL_pre r (addN a x.2)
    exact ⟨t ++ u, by rw [addL_cons, hu, ht, List.append_assoc]⟩
theorem addL_in {a : List ByteArray} {s : ByteArray} (xs : List (Int × Stmt)) (h : isIn a s = true) : isIn (addL a xs) s = true := by
  obtain ⟨t, ht⟩ := addL_pre xs a
  rw [ht, isIn_append, h]; rfl
theorem addL_mem : ∀ (xs : List (Int × Stmt)) (a : List ByteArray) (y : Int × Stmt), y ∈ xs → asg y.2.Kind = true → isIn (addL a xs) y.2.Name = true
  | x :: r, a, y, hy, hA => by
    rw [addL_cons]
    rcases List.mem_cons.1 hy with rfl | hy
    · refine addL_in r ?_
      unfold addN
      cases hI : isIn a y.2.Name with
      | true => simp [hI]
      | false => rw [if_pos ⟨hA, rfl⟩, isIn_append, hI]; simp [isIn, eqS_refl]
    · exact addL_mem r _ y hy hA
/-- No word is on the list twice. -/
def Dst (l : List ByteArray) : Prop := ∀ k x, l[k]? = some x → isIn (l.take k) x = false
theorem addN_dst {a : List ByteArray} (h : Dst a) (s : Stmt) : Dst (addN a s) := by
  unfold addN
  split
  · rename_i hc
    intro k x hx
    rcases Nat.lt_trichotomy k a.length with hk | hk | hk
    · rw [List.getElem?_append_left hk] at hx
      rw [List.take_append_of_le_length (by omega)]
      exact h k x hx
    · subst hk
      rw [List.getElem?_append_right (Nat.le_refl _)] at hx
      simp at hx; subst hx
      simpa using hc.2
    · rw [List.getElem?_append_right (by omega), List.getElem?_eq_none (by simp; omega)] at hx; cases hx
  · exact h
theorem addL_dst : ∀ (xs : List (Int × Stmt)) (a : List ByteArray), Dst a → Dst (addL a xs)
  | [], a, h => h
  | x :: r, a, h => by rw [addL_cons]; exact addL_dst r _ (addN_dst h _)
theorem par_dst (p : Proc) : Dst (par p) := by
  intro k x hx
  have : k = 0 := by have := par_len p; have := getN_some hx; omega
  subst this; simp [isIn]
theorem errL_mem {ls : List ByteArray} : ∀ {l : List Expr}, errL ls l = 0 → closL ls l = true
  | [], _ => by simp
  | x :: r, h => by
    rw [errL] at h
    split at h
    · rename_i e
      unfold errE at e
      split at e
      · cases e
      · rw [closL_cons, chk_clos ls x e, errL_mem h]; rfl
    · rename_i e; exact absurd h e
theorem stE_ok {o : Arr 5 (List ByteArray)} {ls : List ByteArray} {lvl : Int} {s : Stmt} (h : stE o ls lvl s = 0) : (asg s.Kind = true ∨ eqS s.Name emp = true) ∧ closL ls s.Exprs = true := by
  unfold stE at h
  split at h
  · cases h
  split at h
  · cases h
  split at h
  · cases h
  rename_i hF
  split at h
  · cases h
  split at h
  · cases h
  split at h
  · cases h
  split at h
  · cases h
  split at h
  · rename_i e
    refine ⟨?_, errL_mem e⟩
    have hF : badF s = false := by simpa using hF
    simp only [badF, Bool.or_eq_false_iff] at hF
    have := hF.1.1.1.1.1.1.1
    revert this; cases asg s.Kind <;> cases eqS s.Name emp <;> simp
  · rename_i e; exact absurd h e
theorem bound_eq (ls : List ByteArray) : ∀ (N : Nat) (l : List Stmt) (n : Int), nSL l + 1 < N → (∀ y ∈ flL n l, (eqS y.2.Name emp = true ∨ isIn ls y.2.Name = true) ∧ closL ls y.2.Exprs = true) → law16_bound N l ls = some true
  | 0, l, n, h, _ => absurd h (by omega)
  | N + 1, l, n, h, hy => by
    have key : ∀ (r : List Stmt) (k : Nat), (∀ x ∈ r, x ∈ l) → (∀ y ∈ flL n r, (eqS y.2.Name emp = true ∨ isIn ls y.2.Name = true) ∧ closL ls y.2.Exprs = true) → law16_bound_L1 N ls (law16_bound N) r k = some (.inl ()) := by
      intro r
      induction r with
      | nil => intro k _ _; rw [law16_bound_L1]
      | cons x r ih =>
        intro k hm hq
        have hx := nSL_mem (hm x (by simp))
        have h1 := nS_eq x
        rw [flL_cons, flS_eq] at hq
        obtain ⟨q1, q2⟩ := hq (n, x) (by simp)
        have b1 := bound_eq ls N x.Body (n + 1) (by omega) fun y hy => hq y (by simp [hy])
        have b2 := bound_eq ls N x.Else (n + 1) (by omega) fun y hy => hq y (by simp [hy])
        rw [law16_bound_L1, show (⟨#[]⟩ : ByteArray) = emp from rfl, has_eq, closed_eq ls N x.Exprs (by omega), b1, b2, ih _ (fun y hy => hm y (by simp [hy])) fun y hy => hq y (by simp [hy])]
        simp only at q1 q2
        rw [q2]
        simp only [Option.isSome_some, Option.getD_some, orB_d, andB_d, Bool.or_true, guardO_t]
        cases h1 : eqS x.Name emp <;> cases h2 : isIn ls x.Name <;> simp_all
    rw [show law16_bound (N + 1) l ls = law16_bound_B (law16_bound N) N l ls from rfl, law16_bound_B, key l 0 (fun _ h => h) hy]; rfl
theorem locP_pre (p : Proc) (n : Nat) : ∃ t, locP p = locP { p with Body := p.Body.take n } ++ t := by
  have e : flL 1 p.Body = flL 1 (p.Body.take n) ++ flL 1 (p.Body.drop n) := by rw [← flL_append, List.take_append_drop]
  obtain ⟨t, ht⟩ := addL_pre (flL 1 (p.Body.drop n)) (addL (par p) (flL 1 (p.Body.take n)))
  exact ⟨t, by unfold locP; rw [e, addL_append, ht]; rfl⟩
theorem nSL_append : ∀ a b : List Stmt, nSL (a ++ b) = nSL a + nSL b
  | [], b => by simp
  | x :: a, b => by simp [nSL_append a b]; omega
theorem nSL_take (l : List Stmt) (n : Nat) : nSL (l.take n) ≤ nSL l := by
  have := nSL_append (l.take n) (l.drop n)
  rw [List.take_append_drop] at this; omega
theorem locals_L3 {N : Nat} {p : Proc} (hb : nSL p.Body ≤ 1048576) : ∀ (q i : Nat), i ≤ p.Body.length + 1 → p.Body.length + 1 < i + q → law16_AstLocals_L3 p (locP p) q (i : Int) = some (.inl ())
  | 0, i, hi, hq => absurd hq (by omega)
  | q + 1, i, hi, hq => by
    have hlen := nSL_len p.Body
    rw [law16_AstLocals_L3, ltI_d]
    rcases Nat.lt_or_ge p.Body.length i with hl | hl
    · rw [show decide (((p.Body.length : Nat) : Int) < (i : Int)) = true from decide_eq_true (by omega)]; rfl
    · rw [show decide (((p.Body.length : Nat) : Int) < (i : Int)) = false from decide_eq_false (by omega)]
      obtain ⟨t, ht⟩ := locP_pre p i
      have hs : slB 0 (i : Int) p.Body.length = true := by simp [slB]; omega
      have hsub : subL p.Body 0 (i : Int) = p.Body.take i := by simp [subL]
      have hm := own_locals (p := { p with Body := p.Body.take i }) (by have := nSL_take p.Body i; simp only; omega)
      rw [Bool.not_false, cond_true, hs, guardO_t, hsub, Option.bind_some, hm, Option.bind_some]
      have hle : (locP { p with Body := p.Body.take i }).length ≤ (locP p).length := by rw [ht]; simp
      rw [ltI_d, show decide (((locP p).length : Int) < ((locP { p with Body := p.Body.take i }).length : Int)) = false from decide_eq_false (by omega), Bool.not_false, cond_true]
      have hs2 : slB 0 ((locP { p with Body := p.Body.take i }).length : Int) (locP p).length = true := by simp [slB]; omega
      have hsub2 : subL (locP p) 0 ((locP { p with Body := p.Body.take i }).length : Int) = locP { p with Body := p.Body.take i } := by
        have : (locP p).take (locP { p with Body := p.Body.take i }).length = locP { p with Body := p.Body.take i } := by rw [ht]; simp
        simpa [subL] using this
      rw [hs2, guardO_t, hsub2, Option.bind_some, strings_refl, Option.bind_some, Bool.not_true, cond_false, wrapS (by omega)]
      exact locals_L3 (N := N) hb q (i + 1) (by omega) (by omega)
theorem proc_ok {o : Arr 5 (List ByteArray)} {p : Proc} (h : (procE o p).1 = 0) : (locP p).length ≤ 5 ∧ ∀ y ∈ flL 1 p.Body, stE o (locP p) y.1 y.2 = 0 := by
  unfold procE at h
  split at h
  · cases h
  split at h
  · cases h
  split at h
  · cases h
  rename_i hl
  have := par_len p
  refine ⟨by omega, fun y hy => ?_⟩
  have key : ∀ (xs : List (Int × Stmt)) (k : Nat), ((first (fe o (locP p)) xs k).getD (0, -1)).1 = 0 → ∀ y ∈ xs, stE o (locP p) y.1 y.2 = 0 := by
    intro xs
    induction xs with
    | nil => intro k _ y hy; cases hy
    | cons x r ih =>
      intro k h y hy
      rw [first_cons] at h
      by_cases e : stE o (locP p) x.1 x.2 = 0
      · rw [show fe o (locP p) k x = none by simp [fe, e]] at h
        rcases List.mem_cons.1 hy with rfl | hy
        · exact e
        · exact ih _ h y hy
      · rw [show fe o (locP p) k x = some (stE o (locP p) x.1 x.2, (k : Int)) by simp [fe, e]] at h
        exact absurd h e
  exact key _ _ h y hy
theorem check_ok {u : UnitT} (h : (checkU u).1 = 0) : ∀ p ∈ u.Procs, (procE (objs u) p).1 = 0 := by
  unfold checkU at h
  cases hh : headE u with
  | some r => rw [hh] at h; exact absurd h (headE_ne hh)
  | none =>
    rw [hh] at h
    simp only at h
    have key : ∀ (l : List Proc) (k : Nat), (∀ r, first (pe (objs u)) l k = some r → r.1 = 0) → ∀ p ∈ l, (procE (objs u) p).1 = 0 := by
      intro l
      induction l with
      | nil => intro k _ p hp; cases hp
      | cons x l ih =>
        intro k hr p hp
        rw [first_cons] at hr
        by_cases e : (procE (objs u) x).1 = 0
        · rw [show pe (objs u) k x = none by simp [pe, e]] at hr
          rcases List.mem_cons.1 hp with rfl | hp
          · exact e
          · exact ih _ hr p hp
        · have := hr ((procE (objs u) x).1, (k : Int), (procE (objs u) x).2) (by simp [pe, e])
          exact absurd this e
    refine key u.Procs 0 fun r hr => ?_
    rw [hr] at h; exact h
theorem locals_L1 {N : Nat} {u : UnitT} (h : Sm u) (hN : 1048580 ≤ N) (hc : (checkU u).1 = 0) : ∀ (q i : Nat), i ≤ u.Procs.length → u.Procs.length < i + q → law16_AstLocals_L1 N u q (i : Int) = some (.inl ())
  | 0, i, hi, hq => absurd hq (by omega)
  | q + 1, i, hi, hq => by
    rw [law16_AstLocals_L1, ltI_d]
    rcases Nat.lt_or_ge i u.Procs.length with hl | hl
    · have hp := h.procs
      rw [decide_eq_true (show (i : Int) < ((u.Procs.length : Nat) : Int) by omega), cond_true, getI_nat, List.getElem?_eq_getElem hl, Option.bind_some]
      have hm := List.getElem_mem hl
      generalize u.Procs[i] = p at hm
      have hb := h.body p hm
      obtain ⟨h5, hst⟩ := proc_ok (check_ok hc p hm)
      have hlen := nSL_len p.Body
      have hbd := bound_eq (locP p) N p.Body 1 (by omega) fun y hy => by
        obtain ⟨e1, e2⟩ := stE_ok (hst y hy)
        refine ⟨e1.elim (fun e => .inr ?_) .inl, e2⟩
        exact addL_mem _ _ y hy e
      rw [own_locals (by omega), Option.bind_some, hbd, show (⟨#[]⟩ : ByteArray) = emp from rfl, ltI_d, decide_eq_false (show ¬ (5 : Int) < ((locP p).length : Int) by omega)]
      have hpar : eqS p.Param emp = false → ∃ t, locP p = p.Param :: t := fun e => by
        obtain ⟨t, ht⟩ := addL_pre (flL 1 p.Body) (par p)
        refine ⟨t, ?_⟩
        unfold locP; rw [ht]; simp [par, e]
      have h2 := srch (L := law16_AstLocals_L2 (locP p)) (fun k x => onlyIf (isIn ((locP p).take k) x) false) (fun _ => rfl) (locP p) 0 fun j x hx q => by
        have hj := getN_some hx
        rw [Nat.zero_add, law16_AstLocals_L2, show slB 0 ((j : Nat) : Int) (locP p).length = true by simp [slB]; omega, guardO_t, show subL (locP p) 0 ((j : Nat) : Int) = (locP p).take j by simp [subL], Option.bind_some, has_eq, Option.bind_some]
        exact step_only _ _ _
      have h2' : first (fun k x => onlyIf (isIn ((locP p).take k) x) false) (locP p) 0 = none := by
        cases hf : first (fun k x => onlyIf (isIn ((locP p).take k) x) false) (locP p) 0 with
        | none => rfl
        | some r =>
          obtain ⟨j, x, hx, e⟩ := first_some hf
          have := addL_dst (flL 1 p.Body) (par p) (par_dst p) j x hx
          rw [show isIn ((locP p).take (0 + j)) x = false by rw [Nat.zero_add]; exact this] at e
          cases e
      rw [h2'] at h2
      have h3 := locals_L3 (N := N) hb N 0 (by omega) (by omega)
      rw [show ((0 : Nat) : Int) = 0 from rfl] at h3
      have hlb : lenB (locP p).length = true := by rw [lenB_d]; simp; omega
      have ih := locals_L1 h hN hc q (i + 1) hl (by omega)
      rw [h2, h3, hlb, wrapS (by omega), ih]
      cases he : eqS p.Param emp with
      | true => simp [orB_d, andB_d, eqI_d]
      | false =>
        obtain ⟨t, ht⟩ := hpar he
        rw [ht]
        simp [orB_d, andB_d, eqI_d, inB_d, gd, eqS_refl, show ¬ ((t.length : Int) + 1 = 0) by omega]
    · rw [decide_eq_false (show ¬ (i : Int) < ((u.Procs.length : Nat) : Int) by omega)]; rfl
theorem law_locals {u : UnitT} (h : Sm u) : law16_AstLocals 2097160 u = some true := by
  obtain ⟨b, hb⟩ := few_some (N := 2097160) h (by omega)
  rw [law16_AstLocals, hb, Option.bind_some, awake_true, own_check h (by omega)]
  cases b with
  | false => rfl
  | true =>
    rw [Bool.not_true, cond_false, Option.bind_some, eqI_d]
    by_cases hc : (checkU u).1 = 0
    · have h1 := locals_L1 (N := 2097160) h (by omega) hc 2097160 0 (by omega) (by have := h.procs; omega)
      rw [show ((0 : Nat) : Int) = 0 from rfl] at h1
      rw [h1, decide_eq_true hc]; rfl
    · rw [decide_eq_false hc]; rfl
end Go.Dc.Pl
end
section
set_option linter.all false
namespace Go.Dc
open Go Go.Hw Go.Proofs
set_option maxRecDepth 100000

def law16_AstBlocks (fuelN : Nat) (a0 : Proc) (a1 : Proc) : Option Bool :=
  Option.bind (some ([a0, a1])) (fun l1 => Option.bind (r16_Few fuelN ({ Vars := [], Mutexes := [], Conds := [], Procs := l1, Threads := [] } : UnitT)) (fun y3 => cond (!y3) (Option.bind (law16_awake fuelN) (fun y6 => some y6)) (Option.bind (some (([] : List Stmt))) (fun l8 => guardO (limB 144 (l8.length + a0.Body.length)) (Option.bind (some (l8 ++ a0.Body)) (fun l11 => guardO (limB 144 (l11.length + a1.Body.length)) (Option.bind (some (l11 ++ a1.Body)) (fun l14 => Option.bind (some ([a0])) (fun l16 => Option.bind (some ([{ a0 with Body := l14 }])) (fun l18 => Option.bind (law16_awake fuelN) (fun y32 => guardO (orB (!y32) ((ast_Count l14).isSome)) (guardO (orB (!y32) ((ast_Count a0.Body).isSome)) (guardO (orB (!y32) ((ast_Count a1.Body).isSome)) (cond (andB y32 (eqI ((ast_Count l14).getD default) (IntKind.i64.wrap ((ast_Count a0.Body).getD default + (ast_Count a1.Body).getD default)))) (Option.bind (ast_Equal fuelN ({ Vars := [], Mutexes := [], Conds := [], Procs := l16, Threads := [] } : UnitT) ({ Vars := [], Mutexes := [], Conds := [], Procs := l18, Threads := [] } : UnitT)) (fun y38 => cond (eqB y38 (eqI ((a1.Body.length : Nat) : Int) 0)) (Option.bind (ast_Equal fuelN ({ Vars := [], Mutexes := [], Conds := [], Procs := l16, Threads := [] } : UnitT) ({ Vars := [], Mutexes := [], Conds := [], Procs := l16, Threads := [] } : UnitT)) (fun y41 => some y41)) (some false))) (some false)))))))))))))))

set_option maxHeartbeats 2000000 in
theorem at_law16_AstBlocks {fuelN : Nat} {a0 : Proc} {a1 : Proc} {r : Bool} (hs : law16_AstBlocks fuelN a0 a1 = some r) : At Tryd.prog 12 [.agg (eA a0), .agg (eA a1)] (bV r) := by
  refine at_bound (by kernel_rfl) fun hb => ?_
  have hb1 : LenOk (.sl a0.Body.length (encL a0.Body)) := lkc hb
  have hb2 : LenOk (.sl a1.Body.length (encL a1.Body)) := lkc hb
  refine at_code mixed Tryd.func12 (by kernel_rfl) rfl (by kernel_rfl) rfl fun Q hQ => ?_
  rw [law16_AstBlocks] at hs
  revert hs; refine lK fun l1 hx2 hs => ?_
  have hx2n : l1.length = 2 := by rw [hx2]; rfl
  refine goR hx2 ?_
  revert hs; refine bK fun y3 hx4 hs => ?_
  refine cA hx2 (at_unz (args := [.agg [.z, .z, .z, sC l1, .z]]) (by simp) (at_r16_Few hx4)) ?_
  refine goR hx2 ?_
  revert hs; refine cS hx2 ?_ ?_ <;> intro h5 hs
  · refine goR hx2 ?_
    revert hs; refine bK fun y6 hx7 hs => ?_
    refine cP hx2 (at_law16_awake hx7) ?_
    refine goR hx2 ?_
    obtain rfl := sj hs
    exact hQ _ _ (rg hx2 (Gh.refl _))
  · revert hs; refine lK fun l8 hx9 hs => ?_
    have hx9n : l8.length = 0 := by rw [hx9]; rfl
    obtain ⟨g10, hs⟩ := guardO_some hs
    have g10 := limB_t g10
    obtain ⟨g10a, g10b⟩ := g10
    revert hs; refine lK fun l11 hx12 hs => ?_
    have hx12n : l11.length = (l8.length + a0.Body.length) := by rw [hx12]; simp
    have hx12e : encL l11 = encL l8 ++ encL a0.Body := by rw [hx12]; simp
    obtain ⟨g13, hs⟩ := guardO_some hs
    have g13 := limB_t g13
    obtain ⟨g13a, g13b⟩ := g13
    revert hs; refine lK fun l14 hx15 hs => ?_
    have hx15n : l14.length = (l11.length + a1.Body.length) := by rw [hx15]; simp
    have hx15e : encL l14 = encL l11 ++ encL a1.Body := by rw [hx15]; simp
    revert hs; refine lK fun l16 hx17 hs => ?_
    have hx17n : l16.length = 1 := by rw [hx17]; rfl
    revert hs; refine lK fun l18 hx19 hs => ?_
    have hx19n : l18.length = 1 := by rw [hx19]; rfl
    have f20 : (encL l14).take (l14.length * 9) = encL l14 := encL_takeN _ (by simp)
    have F1 := an hx2 (an hx9 (an hx12n (an hx12e (an hx15n (an hx15e (an hx17 hx19))))))
    try simp [F1] at f20
    have f20l : l14.length * 9 ≤ (encL l14).length := by rw [encL_length]; simp
    try simp [F1] at f20l
    have F2 := an F1 (an f20 f20l)
    refine goN F2 ?_
    refine awp_reg ?_
    refine goN F2 ?_
    refine awp_reg ?_
    refine goN F2 ?_
    refine awp_reg ?_
    refine goN F2 ?_
    refine awp_reg ?_
    refine goN F2 ?_
    refine awp_gh (by rfl) ((Gh.frz _ (.o 4 3 0)).trans (Gh.pur _ (.o 6 6 0))) ?_
    try simp only [St.frz, St.pur]
    refine goD F2 ?_
    revert hs; refine bK fun y32 hx33 hs => ?_
    refine cP F2 (at_law16_awake hx33) ?_
    refine goE F2 F2 ?_
    obtain ⟨g34, hs⟩ := guardO_some hs
    refine dsel_call (fun hg => at_ast_Count (under_call g34 hg)) (fun hg => by (try simp at hg); (first | simp [hg, F2]); try rfl) (fun hg => by (try simp at hg); simp [hg, F2]) (by simp) ?_
    refine goE F2 F2 ?_
    obtain ⟨g35, hs⟩ := guardO_some hs
    refine dsel_call (fun hg => at_ast_Count (under_call g35 hg)) (fun hg => by (try simp at hg); (first | simp [hg, F2]); try rfl) (fun hg => by (try simp at hg); simp [hg, F2]) (by simp) ?_
    refine goE F2 F2 ?_
    obtain ⟨g36, hs⟩ := guardO_some hs
    refine dsel_call (fun hg => at_ast_Count (under_call g36 hg)) (fun hg => by (try simp at hg); (first | simp [hg, F2]); try rfl) (fun hg => by (try simp at hg); simp [hg, F2]) (by simp) ?_
    refine goE F2 F2 ?_
    refine dsl_split (fun h37 => ?_) (fun h37 => ?_)
    · replace hs := condT h37 hs
      have F3 := an F2 h37
      refine goE F3 F3 ?_
      revert hs; refine bK fun y38 hx39 hs => ?_
      refine cA F3 (at_unz (args := [.agg [.z, .z, .z, sC l16, .z], .agg [.z, .z, .z, sC l18, .z]]) (by simp) (at_ast_Equal hx39)) ?_
      refine goE F3 F3 ?_
      refine dsl_split (fun h40 => ?_) (fun h40 => ?_)
      · replace hs := condT h40 hs
        have F4 := an F3 h40
        refine goE F4 F4 ?_
        revert hs; refine bK fun y41 hx42 hs => ?_
        refine cA F4 (at_unz (args := [.agg [.z, .z, .z, sC l16, .z], .agg [.z, .z, .z, sC l16, .z]]) (by simp) (at_ast_Equal hx42)) ?_
        refine goE F4 F4 ?_
        obtain rfl := sj hs
        exact hQ _ _ (rg F4 (Gh.refl _))
      · replace hs := condF h40 hs
        have F5 := an F3 h40
        refine goE F5 F5 ?_
        obtain rfl := sj hs
        exact hQ _ _ (rg F5 (Gh.refl _))
    · replace hs := condF h37 hs
      have F6 := an F2 h37
      refine goE F6 F6 ?_
      obtain rfl := sj hs
      exact hQ _ _ (rg F6 (Gh.refl _))
end Go.Dc
end
section
set_option linter.all false
namespace Go.Dc.Pl
open Go Go.Hw Go.Dc
theorem eqS_self (a : ByteArray) : eqS a a = true := by simp [eqS]
theorem ef_exprs {f : Expr → Expr → Option Bool} : ∀ (l r : List Expr) (k : Nat), (∀ j, l[k + j]? = r[j]?) → (∀ x ∈ r, f x x = some true) → slices_EqualFunc_api_Expr_ast_sameExpr_1_L1 l f r k = some (.inl ())
  | l, [], k, _, _ => by rw [slices_EqualFunc_api_Expr_ast_sameExpr_1_L1]
  | l, x :: r, k, hl, hf => by
    have h0 := hl 0
    rw [Nat.add_zero, List.getElem?_cons_zero] at h0
    rw [slices_EqualFunc_api_Expr_ast_sameExpr_1_L1, h0, Option.bind_some, ast_sameExpr_1, hf x (by simp)]
    simp only [Option.bind_some, Bool.not_true, cond_false]
    exact ef_exprs l r (k + 1) (fun j => by have := hl (j + 1); rw [List.getElem?_cons_succ] at this; rw [← this]; congr 1; omega) fun y hy => hf y (by simp [hy])
theorem sameExpr_self : ∀ (N : Nat) (e : Expr), nE e ≤ N → ast_sameExpr N e e = some true
  | 0, e, h => absurd (nE_pos e) (by omega)
  | N + 1, e, h => by
    have h1 := nE_eq e
    have hl := ef_exprs (f := ast_sameExpr N) e.Args e.Args 0 (fun j => by rw [Nat.zero_add]) fun x hx => sameExpr_self N x (by have := nL_mem hx; omega)
    rw [show ast_sameExpr (N + 1) e e = ast_sameExpr_B (ast_sameExpr N) e e from rfl, ast_sameExpr_B, slices_EqualFunc_api_Expr_ast_sameExpr_1, hl]
    simp [eqI_d, eqS_self, andB_d, orB_d]
theorem ef_exprs2 {N : Nat} : ∀ (l r : List Expr) (k : Nat), (∀ j, l[k + j]? = r[j]?) → (∀ x ∈ r, nE x ≤ N) → slices_EqualFunc_api_Expr_ast_sameStmt_2_L1 N l r k = some (.inl ())
  | l, [], k, _, _ => by rw [slices_EqualFunc_api_Expr_ast_sameStmt_2_L1]
  | l, x :: r, k, hl, hf => by
    have h0 := hl 0
    rw [Nat.add_zero, List.getElem?_cons_zero] at h0
    rw [slices_EqualFunc_api_Expr_ast_sameStmt_2_L1, h0, Option.bind_some, ast_sameStmt_2, sameExpr_self N x (hf x (by simp))]
    simp only [Option.bind_some, Bool.not_true, cond_false]
    exact ef_exprs2 l r (k + 1) (fun j => by have := hl (j + 1); rw [List.getElem?_cons_succ] at this; rw [← this]; congr 1; omega) fun y hy => hf y (by simp [hy])
theorem ef_stmts {f : Stmt → Stmt → Option Bool} : ∀ (l r : List Stmt) (k : Nat), (∀ j, l[k + j]? = r[j]?) → (∀ x ∈ r, f x x = some true) → slices_EqualFunc_api_Stmt_ast_sameStmt_1_1_L1 l f r k = some (.inl ())
  | l, [], k, _, _ => by rw [slices_EqualFunc_api_Stmt_ast_sameStmt_1_1_L1]
  | l, x :: r, k, hl, hf => by
    have h0 := hl 0
    rw [Nat.add_zero, List.getElem?_cons_zero] at h0
    rw [slices_EqualFunc_api_Stmt_ast_sameStmt_1_1_L1, h0, Option.bind_some, ast_sameStmt_1_1, hf x (by simp)]
    simp only [Option.bind_some, Bool.not_true, cond_false]
    exact ef_stmts l r (k + 1) (fun j => by have := hl (j + 1); rw [List.getElem?_cons_succ] at this; rw [← this]; congr 1; omega) fun y hy => hf y (by simp [hy])
theorem sameStmt_self : ∀ (N : Nat) (s : Stmt), nS s ≤ N → ast_sameStmt N s s = some true
  | 0, s, h => absurd (nS_pos s) (by omega)
  | N + 1, s, h => by
    have h1 := nS_eq s
    have e1 := ef_exprs2 (N := N) s.Exprs s.Exprs 0 (fun j => by rw [Nat.zero_add]) fun x hx => by have := nL_mem hx; omega
    have b1 := ef_stmts (f := ast_sameStmt N) s.Body s.Body 0 (fun j => by rw [Nat.zero_add]) fun x hx => sameStmt_self N x (by have := nSL_mem hx; omega)
    have b2 := ef_stmts (f := ast_sameStmt N) s.Else s.Else 0 (fun j => by rw [Nat.zero_add]) fun x hx => sameStmt_self N x (by have := nSL_mem hx; omega)
    rw [show ast_sameStmt (N + 1) s s = ast_sameStmt_B (ast_sameStmt N) N s s from rfl, ast_sameStmt_B, slices_EqualFunc_api_Expr_ast_sameStmt_2, e1]
    simp only [ast_sameStmt_1, slices_EqualFunc_api_Stmt_ast_sameStmt_1_1, b1, b2]
    simp [eqI_d, eqS_self, andB_d, orB_d]
theorem ef_body {N : Nat} : ∀ (l r : List Stmt) (k : Nat), (∀ j, l[k + j]? = r[j]?) → (∀ x ∈ r, nS x ≤ N) → slices_EqualFunc_api_Stmt_ast_Equal_1_1_L1 N l r k = some (.inl ())
  | l, [], k, _, _ => by rw [slices_EqualFunc_api_Stmt_ast_Equal_1_1_L1]
  | l, x :: r, k, hl, hf => by
    have h0 := hl 0
    rw [Nat.add_zero, List.getElem?_cons_zero] at h0
    rw [slices_EqualFunc_api_Stmt_ast_Equal_1_1_L1, h0, Option.bind_some, ast_Equal_1_1, sameStmt_self N x (hf x (by simp))]
    simp only [Option.bind_some, Bool.not_true, cond_false]
    exact ef_body l r (k + 1) (fun j => by have := hl (j + 1); rw [List.getElem?_cons_succ] at this; rw [← this]; congr 1; omega) fun y hy => hf y (by simp [hy])
theorem body_self {N : Nat} {l : List Stmt} (h : nSL l ≤ N) : slices_EqualFunc_api_Stmt_ast_Equal_1_1 N l l = some true := by
  rw [slices_EqualFunc_api_Stmt_ast_Equal_1_1, ef_body l l 0 (fun j => by rw [Nat.zero_add]) fun x hx => by have := nSL_mem hx; omega]
  simp [eqI_d]
theorem body_other {N : Nat} {l r : List Stmt} (h : l.length ≠ r.length) : slices_EqualFunc_api_Stmt_ast_Equal_1_1 N l r = some false := by
  rw [slices_EqualFunc_api_Stmt_ast_Equal_1_1, eqI_d, decide_eq_false (by omega)]; rfl
theorem equal_one {N : Nat} {a b : Proc} {t : Bool} (hn : eqS a.Name b.Name = true) (hp : eqS a.Param b.Param = true) (h : slices_EqualFunc_api_Stmt_ast_Equal_1_1 N a.Body b.Body = some t) :
    ast_Equal N ({ Vars := [], Mutexes := [], Conds := [], Procs := [a], Threads := [] } : UnitT) ({ Vars := [], Mutexes := [], Conds := [], Procs := [b], Threads := [] } : UnitT) = some t := by
  have h1 : ast_Equal_1 N a b = some t := by
    rw [ast_Equal_1, h, hn, hp]; cases t <;> rfl
  have h2 : slices_EqualFunc_api_Proc_ast_Equal_1 N [a] [b] = some t := by
    rw [slices_EqualFunc_api_Proc_ast_Equal_1, slices_EqualFunc_api_Proc_ast_Equal_1_L1, slices_EqualFunc_api_Proc_ast_Equal_1_L1]
    simp only [List.getElem?_cons_zero, Option.bind_some, h1, List.length_cons, List.length_nil, eqI_d]
    cases t <;> rfl
  rw [ast_Equal, h2]
  cases t <;> rfl
theorem cSL_append : ∀ a b : List Stmt, cSL (a ++ b) = cSL a + cSL b
  | [], b => by simp
  | x :: a, b => by simp [cSL_append a b]; omega
theorem nSL_app : ∀ a b : List Stmt, nSL (a ++ b) = nSL a + nSL b
  | [], b => by simp
  | x :: a, b => by simp [nSL_app a b]; omega
theorem law_blocks {a b : Proc} (h : nSL a.Body + nSL b.Body ≤ 1048576) : law16_AstBlocks 2097160 a b = some true := by
  have la := nSL_len a.Body; have lb := nSL_len b.Body
  have ca := c_leL a.Body; have cb := c_leL b.Body
  obtain ⟨t, ht⟩ := few_some (N := 2097160) (u := ({ Vars := [], Mutexes := [], Conds := [], Procs := [a, b], Threads := [] } : UnitT)) ⟨by simp, by simp, by simp, by simp, by simp, fun q hq => by
    simp at hq
    rcases hq with rfl | rfl <;> omega⟩ (by omega)
  have hl := nSL_app a.Body b.Body
  rw [law16_AstBlocks, Option.bind_some, ht, Option.bind_some, awake_true]
  cases t with
  | false => rfl
  | true =>
    rw [Bool.not_true, cond_false]
    simp only [Option.bind_some, List.length_nil, Nat.zero_add, List.nil_append]
    rw [show limB 144 a.Body.length = true by simp [limB]; omega, guardO_t, show limB 144 (a.Body.length + b.Body.length) = true by simp [limB]; omega, guardO_t, own_count (by omega), own_count (l := a.Body) (by omega), own_count (l := b.Body) (by omega), cSL_append]
    have hs : ast_Equal 2097160 ({ Vars := [], Mutexes := [], Conds := [], Procs := [a], Threads := [] } : UnitT) ({ Vars := [], Mutexes := [], Conds := [], Procs := [a], Threads := [] } : UnitT) = some true := equal_one (eqS_self _) (eqS_self _) (body_self (by omega))
    have hd : ast_Equal 2097160 ({ Vars := [], Mutexes := [], Conds := [], Procs := [a], Threads := [] } : UnitT) ({ Vars := [], Mutexes := [], Conds := [], Procs := [{ a with Body := a.Body ++ b.Body }], Threads := [] } : UnitT) = some (decide (b.Body.length = 0)) := by
      refine equal_one (eqS_self _) (eqS_self _) ?_
      by_cases e : b.Body.length = 0
      · rw [List.length_eq_zero_iff.1 e, List.append_nil, body_self (by omega)]; rfl
      · rw [body_other (show a.Body.length ≠ (a.Body ++ b.Body).length by rw [List.length_append]; omega), decide_eq_false e]
    rw [hs, hd]
    simp only [Option.isSome_some, Option.getD_some, orB_d, Bool.or_true, guardO_t, andB_d, Bool.true_and]
    have w : IntKind.i64.wrap ((cSL a.Body : Int) + (cSL b.Body : Int)) = ((cSL a.Body + cSL b.Body : Nat) : Int) := by rw [wrap_s (by omega) (by omega)]; omega
    rw [w, eqI_d, decide_eq_true rfl, cond_true, Option.bind_some, eqI_d]
    have e2 : decide (((b.Body.length : Nat) : Int) = 0) = decide (b.Body.length = 0) := by congr 1; apply propext; omega
    rw [e2]
    simp [eqB]
end Go.Dc.Pl
end
section
set_option linter.all false
namespace Go.Dc
open Go Go.Hw Go.Proofs
set_option maxRecDepth 100000
theorem dec9 {H : Type} : ∀ (n : Nat) (d : DataW H) (c : List CV), cvD Tryd.prog n 9 d = some c → ∃ x : ByteArray, c = Enc.enc x
  | n, d, c, h => by
    obtain ⟨m, rfl⟩ := cvD_string Tryd.underlying9 h
    exact ⟨m, rfl⟩
theorem dec3 {H : Type} : ∀ (n : Nat) (d : DataW H) (c : List CV), cvD Tryd.prog n 3 d = some c → ∃ x : Int, c = Enc.enc x
  | n, d, c, h => by
    obtain ⟨m, hm, rfl⟩ := cvD_int Tryd.underlying3 h
    exact ⟨m, rfl⟩
theorem dec69 {H : Type} : ∀ (n : Nat) (d : DataW H) (c : List CV), cvD Tryd.prog n 69 d = some c → ∃ x : Var, c = Enc.enc x
  | n, d, c, h => by
    obtain ⟨m, l, hm, rfl, hl, h⟩ := cvD_structW Tryd.underlying69 h
    have hl : l.length = 2 := hl
    match l, hl with
    | [d0, d1], _ =>
      simp only [List.zipWith] at h
      obtain ⟨a0, b0, h0, k1, rfl⟩ := concatM_cons h
      obtain ⟨a1, b1, h1, k2, rfl⟩ := concatM_cons k1
      obtain rfl := concatM_nil k2
      obtain ⟨x0, rfl⟩ := dec9 m _ _ h0
      obtain ⟨x1, rfl⟩ := dec3 m _ _ h1
      exact ⟨⟨x0, x1⟩, by rw [enc_Var]; rfl⟩
theorem dec37 {H : Type} : ∀ (n : Nat) (d : DataW H) (c : List CV), cvD Tryd.prog n 37 d = some c → ∃ x : List Var, c = Enc.enc x
  | n, d, c, h => cvD_sliceW Tryd.underlying37 (fun m hm d c h => dec69 m d c h) h
theorem dec38 {H : Type} : ∀ (n : Nat) (d : DataW H) (c : List CV), cvD Tryd.prog n 38 d = some c → ∃ x : List ByteArray, c = Enc.enc x
  | n, d, c, h => cvD_sliceW Tryd.underlying38 (fun m hm d c h => dec9 m d c h) h
theorem dec64 {H : Type} : ∀ (n : Nat) (d : DataW H) (c : List CV), cvD Tryd.prog n 64 d = some c → ∃ x : Int, c = Enc.enc x
  | n, d, c, h => by
    obtain ⟨m, hm, rfl⟩ := cvD_int Tryd.underlying64 h
    exact ⟨m, rfl⟩
theorem dec47 {H : Type} : ∀ (n : Nat) (d : DataW H) (c : List CV), cvD Tryd.prog n 47 d = some c → ∃ x : Int, c = Enc.enc x
  | n, d, c, h => by
    obtain ⟨m, hm, rfl⟩ := cvD_int Tryd.underlying47 h
    exact ⟨m, rfl⟩
theorem dec65 {H : Type} : ∀ (n : Nat) (d : DataW H) (c : List CV), cvD Tryd.prog n 65 d = some c → ∃ x : Int, c = Enc.enc x
  | n, d, c, h => by
    obtain ⟨m, hm, rfl⟩ := cvD_int Tryd.underlying65 h
    exact ⟨m, rfl⟩
theorem dec46 {H : Type} : ∀ (n : Nat) (d : DataW H) (c : List CV), cvD Tryd.prog n 46 d = some c → ∃ x : Int, c = Enc.enc x
  | n, d, c, h => by
    obtain ⟨m, hm, rfl⟩ := cvD_int Tryd.underlying46 h
    exact ⟨m, rfl⟩
mutual
theorem dec50 {H : Type} : ∀ (n : Nat) (d : DataW H) (c : List CV), cvD Tryd.prog n 50 d = some c → ∃ x : Expr, c = Enc.enc x
  | n, d, c, h => by
    obtain ⟨m, l, hm, rfl, hl, h⟩ := cvD_structW Tryd.underlying50 h
    have hl : l.length = 5 := hl
    match l, hl with
    | [d0, d1, d2, d3, d4], _ =>
      simp only [List.zipWith] at h
      obtain ⟨a0, b0, h0, k1, rfl⟩ := concatM_cons h
      obtain ⟨a1, b1, h1, k2, rfl⟩ := concatM_cons k1
      obtain ⟨a2, b2, h2, k3, rfl⟩ := concatM_cons k2
      obtain ⟨a3, b3, h3, k4, rfl⟩ := concatM_cons k3
      obtain ⟨a4, b4, h4, k5, rfl⟩ := concatM_cons k4
      obtain rfl := concatM_nil k5
      obtain ⟨x0, rfl⟩ := dec46 m _ _ h0
      obtain ⟨x1, rfl⟩ := dec3 m _ _ h1
      obtain ⟨x2, rfl⟩ := dec9 m _ _ h2
      obtain ⟨x3, rfl⟩ := dec47 m _ _ h3
      obtain ⟨x4, rfl⟩ := dec48 m _ _ h4
      exact ⟨⟨x0, x1, x2, x3, x4⟩, by rw [enc_Expr]; rfl⟩
  termination_by n => n
theorem dec48 {H : Type} : ∀ (n : Nat) (d : DataW H) (c : List CV), cvD Tryd.prog n 48 d = some c → ∃ x : List Expr, c = Enc.enc x
  | n, d, c, h => cvD_sliceW Tryd.underlying48 (fun m hm d c h => dec50 m d c h) h
  termination_by n => n
end
mutual
theorem dec67 {H : Type} : ∀ (n : Nat) (d : DataW H) (c : List CV), cvD Tryd.prog n 67 d = some c → ∃ x : Stmt, c = Enc.enc x
  | n, d, c, h => by
    obtain ⟨m, l, hm, rfl, hl, h⟩ := cvD_structW Tryd.underlying67 h
    have hl : l.length = 9 := hl
    match l, hl with
    | [d0, d1, d2, d3, d4, d5, d6, d7, d8], _ =>
      simp only [List.zipWith] at h
      obtain ⟨a0, b0, h0, k1, rfl⟩ := concatM_cons h
      obtain ⟨a1, b1, h1, k2, rfl⟩ := concatM_cons k1
      obtain ⟨a2, b2, h2, k3, rfl⟩ := concatM_cons k2
      obtain ⟨a3, b3, h3, k4, rfl⟩ := concatM_cons k3
      obtain ⟨a4, b4, h4, k5, rfl⟩ := concatM_cons k4
      obtain ⟨a5, b5, h5, k6, rfl⟩ := concatM_cons k5
      obtain ⟨a6, b6, h6, k7, rfl⟩ := concatM_cons k6
      obtain ⟨a7, b7, h7, k8, rfl⟩ := concatM_cons k7
      obtain ⟨a8, b8, h8, k9, rfl⟩ := concatM_cons k8
      obtain rfl := concatM_nil k9
      obtain ⟨x0, rfl⟩ := dec64 m _ _ h0
      obtain ⟨x1, rfl⟩ := dec9 m _ _ h1
      obtain ⟨x2, rfl⟩ := dec9 m _ _ h2
      obtain ⟨x3, rfl⟩ := dec9 m _ _ h3
      obtain ⟨x4, rfl⟩ := dec47 m _ _ h4
      obtain ⟨x5, rfl⟩ := dec65 m _ _ h5
      obtain ⟨x6, rfl⟩ := dec48 m _ _ h6
      obtain ⟨x7, rfl⟩ := dec55 m _ _ h7
      obtain ⟨x8, rfl⟩ := dec55 m _ _ h8
      exact ⟨⟨x0, x1, x2, x3, x4, x5, x6, x7, x8⟩, by rw [enc_Stmt]; rfl⟩
  termination_by n => n
theorem dec55 {H : Type} : ∀ (n : Nat) (d : DataW H) (c : List CV), cvD Tryd.prog n 55 d = some c → ∃ x : List Stmt, c = Enc.enc x
  | n, d, c, h => cvD_sliceW Tryd.underlying55 (fun m hm d c h => dec67 m d c h) h
  termination_by n => n
end
theorem dec57 {H : Type} : ∀ (n : Nat) (d : DataW H) (c : List CV), cvD Tryd.prog n 57 d = some c → ∃ x : Proc, c = Enc.enc x
  | n, d, c, h => by
    obtain ⟨m, l, hm, rfl, hl, h⟩ := cvD_structW Tryd.underlying57 h
    have hl : l.length = 3 := hl
    match l, hl with
    | [d0, d1, d2], _ =>
      simp only [List.zipWith] at h
      obtain ⟨a0, b0, h0, k1, rfl⟩ := concatM_cons h
      obtain ⟨a1, b1, h1, k2, rfl⟩ := concatM_cons k1
      obtain ⟨a2, b2, h2, k3, rfl⟩ := concatM_cons k2
      obtain rfl := concatM_nil k3
      obtain ⟨x0, rfl⟩ := dec9 m _ _ h0
      obtain ⟨x1, rfl⟩ := dec9 m _ _ h1
      obtain ⟨x2, rfl⟩ := dec55 m _ _ h2
      exact ⟨⟨x0, x1, x2⟩, by rw [enc_Proc]; rfl⟩
theorem dec39 {H : Type} : ∀ (n : Nat) (d : DataW H) (c : List CV), cvD Tryd.prog n 39 d = some c → ∃ x : List Proc, c = Enc.enc x
  | n, d, c, h => cvD_sliceW Tryd.underlying39 (fun m hm d c h => dec57 m d c h) h
theorem dec108 {H : Type} : ∀ (n : Nat) (d : DataW H) (c : List CV), cvD Tryd.prog n 108 d = some c → ∃ x : Launch, c = Enc.enc x
  | n, d, c, h => by
    obtain ⟨m, l, hm, rfl, hl, h⟩ := cvD_structW Tryd.underlying108 h
    have hl : l.length = 2 := hl
    match l, hl with
    | [d0, d1], _ =>
      simp only [List.zipWith] at h
      obtain ⟨a0, b0, h0, k1, rfl⟩ := concatM_cons h
      obtain ⟨a1, b1, h1, k2, rfl⟩ := concatM_cons k1
      obtain rfl := concatM_nil k2
      obtain ⟨x0, rfl⟩ := dec9 m _ _ h0
      obtain ⟨x1, rfl⟩ := dec3 m _ _ h1
      exact ⟨⟨x0, x1⟩, by rw [enc_Launch]; rfl⟩
theorem dec40 {H : Type} : ∀ (n : Nat) (d : DataW H) (c : List CV), cvD Tryd.prog n 40 d = some c → ∃ x : List Launch, c = Enc.enc x
  | n, d, c, h => cvD_sliceW Tryd.underlying40 (fun m hm d c h => dec108 m d c h) h
theorem dec42 {H : Type} : ∀ (n : Nat) (d : DataW H) (c : List CV), cvD Tryd.prog n 42 d = some c → ∃ x : UnitT, c = Enc.enc x
  | n, d, c, h => by
    obtain ⟨m, l, hm, rfl, hl, h⟩ := cvD_structW Tryd.underlying42 h
    have hl : l.length = 5 := hl
    match l, hl with
    | [d0, d1, d2, d3, d4], _ =>
      simp only [List.zipWith] at h
      obtain ⟨a0, b0, h0, k1, rfl⟩ := concatM_cons h
      obtain ⟨a1, b1, h1, k2, rfl⟩ := concatM_cons k1
      obtain ⟨a2, b2, h2, k3, rfl⟩ := concatM_cons k2
      obtain ⟨a3, b3, h3, k4, rfl⟩ := concatM_cons k3
      obtain ⟨a4, b4, h4, k5, rfl⟩ := concatM_cons k4
      obtain rfl := concatM_nil k5
      obtain ⟨x0, rfl⟩ := dec37 m _ _ h0
      obtain ⟨x1, rfl⟩ := dec38 m _ _ h1
      obtain ⟨x2, rfl⟩ := dec38 m _ _ h2
      obtain ⟨x3, rfl⟩ := dec39 m _ _ h3
      obtain ⟨x4, rfl⟩ := dec40 m _ _ h4
      exact ⟨⟨x0, x1, x2, x3, x4⟩, by rw [enc_UnitT]; rfl⟩
theorem closed : okS Tryd.prog [42, 37, 69, 9, 3, 38, 39, 57, 55, 67, 64, 47, 65, 48, 50, 46, 40, 108] = true := by kernel_rfl
theorem bulk_of {H : Type} {n : Nat} {t : TypeId} {d : DataW H} {c : List CV} (h : cvD Tryd.prog n t d = some c) : bkL c ≤ Go.Proofs.YtihjddokgmjafaaDoor.Rows.uptoBulk d :=
  cvD_bk Go.Proofs.YtihjddokgmjafaaDoor.Rows.uptoBulk Go.Proofs.YtihjddokgmjafaaDoor.Rows.uptoBulkAll (by simp [Go.Proofs.YtihjddokgmjafaaDoor.Rows.uptoBulkAll]) (fun d r => by simp [Go.Proofs.YtihjddokgmjafaaDoor.Rows.uptoBulkAll]) (fun l => by cases l <;> simp [Go.Proofs.YtihjddokgmjafaaDoor.Rows.uptoBulk]) (fun l => by simp [Go.Proofs.YtihjddokgmjafaaDoor.Rows.uptoBulk]) (by simp [Go.Proofs.YtihjddokgmjafaaDoor.Rows.uptoBulk]) (fun l s => by simp only [Go.Proofs.YtihjddokgmjafaaDoor.Rows.uptoBulk]; omega) (fun l => by simp only [Go.Proofs.YtihjddokgmjafaaDoor.Rows.uptoBulk]; omega) n t d c h
theorem open42 {H : Type} {enc : TypeId × Value → H} {W : World} {sp : Nat → Bool} {held : Bool} {v : Value} {d : DataW H} {p : List MemPlace} {r : Go.Reach} {b0 : Nat} (hv : Value.okWide Tryd.prog W r b0 42 v) (h : DataW.Trod enc Tryd.prog W 0 sp held 42 v d p) :
    ∃ x : UnitT, (okL (Enc.enc x) ∧ bkL (Enc.enc x) ≤ Go.Proofs.YtihjddokgmjafaaDoor.Rows.uptoBulk d) ∧ AVRep W m0 (fun _ => False) v (.agg ((Enc.enc x).map .p)) := by
  obtain ⟨m, cvs, e, hr⟩ := repW_struct closed (by decide) Tryd.underlying42 hv h
  obtain ⟨x, rfl⟩ := dec42 m d cvs e
  exact ⟨x, ⟨cvD_okL _ _ _ _ e, bulk_of e⟩, hr⟩
theorem open50 {H : Type} {enc : TypeId × Value → H} {W : World} {sp : Nat → Bool} {held : Bool} {v : Value} {d : DataW H} {p : List MemPlace} {r : Go.Reach} {b0 : Nat} (hv : Value.okWide Tryd.prog W r b0 50 v) (h : DataW.Trod enc Tryd.prog W 0 sp held 50 v d p) :
    ∃ x : Expr, (okL (Enc.enc x) ∧ bkL (Enc.enc x) ≤ Go.Proofs.YtihjddokgmjafaaDoor.Rows.uptoBulk d) ∧ AVRep W m0 (fun _ => False) v (.agg ((Enc.enc x).map .p)) := by
  obtain ⟨m, cvs, e, hr⟩ := repW_struct closed (by decide) Tryd.underlying50 hv h
  obtain ⟨x, rfl⟩ := dec50 m d cvs e
  exact ⟨x, ⟨cvD_okL _ _ _ _ e, bulk_of e⟩, hr⟩
theorem open38 {H : Type} {enc : TypeId × Value → H} {W : World} {sp : Nat → Bool} {held : Bool} {v : Value} {d : DataW H} {p : List MemPlace} {r : Go.Reach} {b0 : Nat} (hv : Value.okWide Tryd.prog W r b0 38 v) (h : DataW.Trod enc Tryd.prog W 0 sp held 38 v d p) :
    ∃ x : List ByteArray, (okL (Enc.enc x) ∧ bkL (Enc.enc x) ≤ Go.Proofs.YtihjddokgmjafaaDoor.Rows.uptoBulk d) ∧ AVRep W m0 (fun _ => False) v (.cell (.p (.sl x.length (encL x)))) := by
  obtain ⟨m, c, e, hr⟩ := repW_slice closed (by decide) Tryd.underlying38 hv h
  obtain ⟨x, e2⟩ := dec38 m d _ e
  obtain rfl : c = .sl x.length (encL x) := by simpa using e2
  exact ⟨x, ⟨cvD_okL _ _ _ _ e, bulk_of e⟩, hr⟩
theorem open57 {H : Type} {enc : TypeId × Value → H} {W : World} {sp : Nat → Bool} {held : Bool} {v : Value} {d : DataW H} {p : List MemPlace} {r : Go.Reach} {b0 : Nat} (hv : Value.okWide Tryd.prog W r b0 57 v) (h : DataW.Trod enc Tryd.prog W 0 sp held 57 v d p) :
    ∃ x : Proc, (okL (Enc.enc x) ∧ bkL (Enc.enc x) ≤ Go.Proofs.YtihjddokgmjafaaDoor.Rows.uptoBulk d) ∧ AVRep W m0 (fun _ => False) v (.agg ((Enc.enc x).map .p)) := by
  obtain ⟨m, cvs, e, hr⟩ := repW_struct closed (by decide) Tryd.underlying57 hv h
  obtain ⟨x, rfl⟩ := dec57 m d cvs e
  exact ⟨x, ⟨cvD_okL _ _ _ _ e, bulk_of e⟩, hr⟩
/-- The package variables as the rows lay them. -/
theorem gN1 : Tryd.prog.globalNamed "modelcheck/ast.keywords" = some 1 := by kernel_rfl
theorem gT1 : (Tryd.prog.globals[1]?).map (·.type) = some 194 := by kernel_rfl
set_option maxRecDepth 100000 in
theorem gC1 : cvD Tryd.prog 6 194 (Go.Proofs.YtihjddokgmjafaaDoor.Rows.laid_modelcheck_ast_keywords (H := Unit)) = some (encL keywordsTab) := by kernel_rfl
set_option maxRecDepth 100000 in
theorem globs {W : World} (laid : List (String × DataW Unit)) (he : laid = [("modelcheck/ast.keywords", Go.Proofs.YtihjddokgmjafaaDoor.Rows.laid_modelcheck_ast_keywords)])
    (h : laidMetH Tryd.prog laid W) : ∀ g cs, Globals.G g = some cs → AVRep W m0 (fun _ => False) (.pointer (some ⟨g, 0, none⟩)) (.cell (.ep cs 0)) := by
  subst he
  rw [MakeChecks.laidMetH_plain _ _ _ (by kernel_rfl)] at h
  obtain ⟨ps, ⟨g0, t0, cs0, f0, p0, q0, hg0, ht0, hv0, hd0, _, _⟩, _, _⟩ := h
  obtain rfl := Option.some.inj (gN1.symm.trans hg0)
  obtain rfl := Option.some.inj (gT1.symm.trans ht0)
  intro g cs hgc
  have hgc : (if g = 1 then some (encL keywordsTab) else none) = some cs := hgc
  split at hgc
  · rename_i e
    subst e
    cases hgc
    exact rep_global (m := 6) (t := 194) (by kernel_rfl) hd0 gC1 fun j => by simpa using World.var?_cell hg0 hv0 j
  · cases hgc
end Go.Dc
end
