/- Contracts of functions, by their numbers, and the laws that walk them. Conditions: as each states. -/
import Derived.Test.YtgcinmhiohlmiaaDoorH3
import Derived.Test.YtgcinmhiohlmiaaDoorH4
set_option linter.all false
section
set_option linter.all false
namespace Go.Dc
open Go Go.Hw Go.Proofs
set_option maxRecDepth 100000

def r08_exists (a0 : Program) (a1 : Inst) : Option Bool :=
  Option.bind (α := Nat ⊕ Bool) (Option.bind (α := Bool) (cond (eqI a1.Op 8) (some (eqI a1.Op 8)) (cond (eqI a1.Op 9) (some (eqI a1.Op 9)) (cond (eqI a1.Op 10) (some (eqI a1.Op 10)) (cond (eqI a1.Op 11) (some (eqI a1.Op 11)) (cond (eqI a1.Op 12) (some (eqI a1.Op 12)) (some (eqI a1.Op 14))))))) (fun b42 => cond b42 (some (.inl a0.Vars.length)) (Option.bind (α := Bool) (cond (eqI a1.Op 15) (some (eqI a1.Op 15)) (cond (eqI a1.Op 16) (some (eqI a1.Op 16)) (some (eqI a1.Op 17)))) (fun b55 => cond b55 (some (.inl a0.Mutexes.length)) (cond (eqI a1.Op 18) (cond (orB (ltI a1.N 0) (!(ltI a1.N ((a0.Mutexes.length : Nat) : Int)))) (some (.inr false)) (some (.inl a0.Conds.length))) (cond (eqI a1.Op 19) (some (.inl a0.Conds.length)) (cond (eqI a1.Op 20) (some (.inl a0.Conds.length)) (cond (eqI a1.Op 21) (some (.inl a0.Funcs.length)) (some (.inr true)))))))))) (fun o => match o with | .inl k32 => some (andB (!(ltI a1.Obj 0)) (ltI a1.Obj ((k32 : Nat) : Int))) | .inr r68 => some r68)

set_option maxHeartbeats 2000000 in
theorem at_r08_exists {a0 : Program} {a1 : Inst} {r : Bool} (hs : r08_exists a0 a1 = some r) : At Tryd.prog 119 [.agg [.p (.sl a0.Vars.length (encL a0.Vars)), .p (.sl a0.Mutexes.length (encL a0.Mutexes)), .p (.sl a0.Conds.length (encL a0.Conds)), .p (.sl a0.Funcs.length (encL a0.Funcs)), .p (.sl a0.Threads.length (encL a0.Threads))], .agg [.p (.c (.int .i64 a1.Op)), .p (.c (.int .i64 a1.A)), .p (.c (.int .i64 a1.B)), .p (.c (.int .i64 a1.C)), .p (.c (.int .i64 a1.Obj)), .p (.c (.int .i64 a1.N)), .p (.c (.int .i64 a1.Fn)), .p (.c (.int .i64 a1.Order))]] (bV r) := by
  refine at_bound (by kernel_rfl) fun hb => ?_
  have hb1 : LenOk (.sl a0.Vars.length (encL a0.Vars)) := hb (.agg [.p (.sl a0.Vars.length (encL a0.Vars)), .p (.sl a0.Mutexes.length (encL a0.Mutexes)), .p (.sl a0.Conds.length (encL a0.Conds)), .p (.sl a0.Funcs.length (encL a0.Funcs)), .p (.sl a0.Threads.length (encL a0.Threads))]) (by simp) (.p (.sl a0.Vars.length (encL a0.Vars))) (by simp)
  have hb2 : LenOk (.sl a0.Mutexes.length (encL a0.Mutexes)) := hb (.agg [.p (.sl a0.Vars.length (encL a0.Vars)), .p (.sl a0.Mutexes.length (encL a0.Mutexes)), .p (.sl a0.Conds.length (encL a0.Conds)), .p (.sl a0.Funcs.length (encL a0.Funcs)), .p (.sl a0.Threads.length (encL a0.Threads))]) (by simp) (.p (.sl a0.Mutexes.length (encL a0.Mutexes))) (by simp)
  have hb3 : LenOk (.sl a0.Conds.length (encL a0.Conds)) := hb (.agg [.p (.sl a0.Vars.length (encL a0.Vars)), .p (.sl a0.Mutexes.length (encL a0.Mutexes)), .p (.sl a0.Conds.length (encL a0.Conds)), .p (.sl a0.Funcs.length (encL a0.Funcs)), .p (.sl a0.Threads.length (encL a0.Threads))]) (by simp) (.p (.sl a0.Conds.length (encL a0.Conds))) (by simp)
  have hb4 : LenOk (.sl a0.Funcs.length (encL a0.Funcs)) := hb (.agg [.p (.sl a0.Vars.length (encL a0.Vars)), .p (.sl a0.Mutexes.length (encL a0.Mutexes)), .p (.sl a0.Conds.length (encL a0.Conds)), .p (.sl a0.Funcs.length (encL a0.Funcs)), .p (.sl a0.Threads.length (encL a0.Threads))]) (by simp) (.p (.sl a0.Funcs.length (encL a0.Funcs))) (by simp)
  have hb5 : LenOk (.sl a0.Threads.length (encL a0.Threads)) := hb (.agg [.p (.sl a0.Vars.length (encL a0.Vars)), .p (.sl a0.Mutexes.length (encL a0.Mutexes)), .p (.sl a0.Conds.length (encL a0.Conds)), .p (.sl a0.Funcs.length (encL a0.Funcs)), .p (.sl a0.Threads.length (encL a0.Threads))]) (by simp) (.p (.sl a0.Threads.length (encL a0.Threads))) (by simp)
  refine at_code mixed Tryd.func119 (by kernel_rfl) rfl (by kernel_rfl) rfl fun Q hQ => ?_
  rw [r08_exists] at hs
  repeat (first | simp [-awp_cond_eq, -awp_block_eq] | with_reducible refine awp_reg ?_)
  obtain ⟨o34, e33, hs⟩ := bindO hs
  try dsimp only at hs
  refine awp_cutK (fun (v : Nat) (σ : St) => some (.inl v) = some o34 ∧ σ.env 3 = .cell (.ref (.o 1 1 0) 0) ∧ σ.env 5 = iV .i64 ((v : Nat) : Int) ∧ σ.hp (.o 1 1 0) = some (.cells [.p (.c (.int .i64 a1.Op)), .p (.c (.int .i64 a1.A)), .p (.c (.int .i64 a1.B)), .p (.c (.int .i64 a1.C)), .p (.c (.int .i64 a1.Obj)), .p (.c (.int .i64 a1.N)), .p (.c (.int .i64 a1.Fn)), .p (.c (.int .i64 a1.Order))]) ∧ 3 ≤ σ.gen) (by rfl) (fun Q hK35 hX36 => ?_) (fun k32 σ5 hp => ?_)
  · repeat (first | simp [-awp_cond_eq, -awp_block_eq] | with_reducible refine awp_reg ?_)
    refine awp_block ?_
    repeat (first | simp [-awp_cond_eq, -awp_block_eq] | with_reducible refine awp_reg ?_)
    obtain ⟨o44, e43, e33⟩ := bindO e33
    try dsimp only at e33
    refine awp_cut0 (fun (v : Bool) (σ : St) => some (v) = some o44 ∧ σ.env 2 = .cell (.ref (.o 1 0 0) 0) ∧ σ.env 3 = .cell (.ref (.o 1 1 0) 0) ∧ σ.env 7 = iV .i64 a1.Op ∧ σ.env 8 = bV v ∧ σ.hp (.o 1 0 0) = some (.cells [.p (.sl a0.Vars.length (encL a0.Vars)), .p (.sl a0.Mutexes.length (encL a0.Mutexes)), .p (.sl a0.Conds.length (encL a0.Conds)), .p (.sl a0.Funcs.length (encL a0.Funcs)), .p (.sl a0.Threads.length (encL a0.Threads))]) ∧ σ.hp (.o 1 1 0) = some (.cells [.p (.c (.int .i64 a1.Op)), .p (.c (.int .i64 a1.A)), .p (.c (.int .i64 a1.B)), .p (.c (.int .i64 a1.C)), .p (.c (.int .i64 a1.Obj)), .p (.c (.int .i64 a1.N)), .p (.c (.int .i64 a1.Fn)), .p (.c (.int .i64 a1.Order))]) ∧ 4 ≤ σ.gen) (fun Q hK45 hX46 => ?_) (fun b42 σ7 hp => ?_)
    · repeat (first | simp | with_reducible refine awp_reg ?_)
      refine condK_spec (eqI a1.Op 8) (by first | rfl | (simp; done) | (simp [andB, orB, eqI, ltI, Int.natCast_inj]; done)) (fun h47 => ?_) (fun h47 => ?_)
      · replace e43 := condT h47 e43
        repeat (first | simp | with_reducible refine awp_reg ?_)
        exact hK45 (eqI a1.Op 8) _ ⟨e43, by simp [St.frz, St.pur], by simp [St.frz, St.pur], by simp [St.frz, St.pur], by simp [St.frz, St.pur], by simp [St.frz, St.pur], by simp [St.frz, St.pur], by first | (simp; done) | (simp; omega) | omega⟩
      · replace e43 := condF h47 e43
        repeat (first | simp | with_reducible refine awp_reg ?_)
        refine condK_spec (eqI a1.Op 9) (by first | rfl | (simp; done) | (simp [andB, orB, eqI, ltI, Int.natCast_inj]; done)) (fun h48 => ?_) (fun h48 => ?_)
        · replace e43 := condT h48 e43
          repeat (first | simp | with_reducible refine awp_reg ?_)
          exact hK45 (eqI a1.Op 9) _ ⟨e43, by simp [St.frz, St.pur], by simp [St.frz, St.pur], by simp [St.frz, St.pur], by simp [St.frz, St.pur], by simp [St.frz, St.pur], by simp [St.frz, St.pur], by first | (simp; done) | (simp; omega) | omega⟩
        · replace e43 := condF h48 e43
          repeat (first | simp | with_reducible refine awp_reg ?_)
          refine condK_spec (eqI a1.Op 10) (by first | rfl | (simp; done) | (simp [andB, orB, eqI, ltI, Int.natCast_inj]; done)) (fun h49 => ?_) (fun h49 => ?_)
          · replace e43 := condT h49 e43
            repeat (first | simp | with_reducible refine awp_reg ?_)
            exact hK45 (eqI a1.Op 10) _ ⟨e43, by simp [St.frz, St.pur], by simp [St.frz, St.pur], by simp [St.frz, St.pur], by simp [St.frz, St.pur], by simp [St.frz, St.pur], by simp [St.frz, St.pur], by first | (simp; done) | (simp; omega) | omega⟩
          · replace e43 := condF h49 e43
            repeat (first | simp | with_reducible refine awp_reg ?_)
            refine condK_spec (eqI a1.Op 11) (by first | rfl | (simp; done) | (simp [andB, orB, eqI, ltI, Int.natCast_inj]; done)) (fun h50 => ?_) (fun h50 => ?_)
            · replace e43 := condT h50 e43
              repeat (first | simp | with_reducible refine awp_reg ?_)
              exact hK45 (eqI a1.Op 11) _ ⟨e43, by simp [St.frz, St.pur], by simp [St.frz, St.pur], by simp [St.frz, St.pur], by simp [St.frz, St.pur], by simp [St.frz, St.pur], by simp [St.frz, St.pur], by first | (simp; done) | (simp; omega) | omega⟩
            · replace e43 := condF h50 e43
              repeat (first | simp | with_reducible refine awp_reg ?_)
              refine condK_spec (eqI a1.Op 12) (by first | rfl | (simp; done) | (simp [andB, orB, eqI, ltI, Int.natCast_inj]; done)) (fun h51 => ?_) (fun h51 => ?_)
              · replace e43 := condT h51 e43
                repeat (first | simp | with_reducible refine awp_reg ?_)
                exact hK45 (eqI a1.Op 12) _ ⟨e43, by simp [St.frz, St.pur], by simp [St.frz, St.pur], by simp [St.frz, St.pur], by simp [St.frz, St.pur], by simp [St.frz, St.pur], by simp [St.frz, St.pur], by first | (simp; done) | (simp; omega) | omega⟩
              · replace e43 := condF h51 e43
                repeat (first | simp | with_reducible refine awp_reg ?_)
                exact hK45 (eqI a1.Op 14) _ ⟨e43, by simp [St.frz, St.pur], by simp [St.frz, St.pur], by simp [St.frz, St.pur], by simp [St.frz, St.pur], by simp [St.frz, St.pur], by simp [St.frz, St.pur], by first | (simp; done) | (simp; omega) | omega⟩
    · obtain ⟨e43, h8_2, h8_3, h8_7, h8_8, g8_0, g8_1, n8_g⟩ := hp
      obtain rfl := Option.some.inj e43
      try dsimp only at e33
      have n8_0 : ¬ (σ7.gen = 0) := by omega
      repeat (first | simp [h8_2, h8_3, h8_7, h8_8, g8_0, g8_1, n8_0] | with_reducible refine awp_reg ?_)
      refine condK_spec b42 (by first | rfl | (simp [h8_2, h8_3, h8_7, h8_8, g8_0, g8_1, n8_0]; done) | (simp [andB, orB, eqI, ltI, Int.natCast_inj, h8_2, h8_3, h8_7, h8_8, g8_0, g8_1, n8_0]; done)) (fun h52 => ?_) (fun h52 => ?_)
      · replace e33 := condT h52 e33
        repeat (first | simp [h8_2, h8_3, h8_7, h8_8, g8_0, g8_1, n8_0] | with_reducible first | refine awp_reg ?_ | refine And.intro (by omega) ?_ | refine optF_if (by omega) ?_)
        refine hK35 a0.Vars.length _ _ (Gh.refl _) ⟨e33, ?_, ?_, ?_, by first | (simp; done) | (simp; omega) | omega⟩ <;> simp [St.frz, St.pur, h8_2, h8_3, h8_7, h8_8, g8_0, g8_1, n8_0]
      · replace e33 := condF h52 e33
        repeat (first | simp [-awp_cond_eq, -awp_block_eq, h8_2, h8_3, h8_7, h8_8, g8_0, g8_1, n8_0] | with_reducible refine awp_reg ?_)
        obtain ⟨o57, e56, e33⟩ := bindO e33
        try dsimp only at e33
        refine awp_cut0 (fun (v : Bool) (σ : St) => some (v) = some o57 ∧ σ.env 2 = .cell (.ref (.o 1 0 0) 0) ∧ σ.env 3 = .cell (.ref (.o 1 1 0) 0) ∧ σ.env 7 = iV .i64 a1.Op ∧ σ.env 18 = bV v ∧ σ.hp (.o 1 0 0) = some (.cells [.p (.sl a0.Vars.length (encL a0.Vars)), .p (.sl a0.Mutexes.length (encL a0.Mutexes)), .p (.sl a0.Conds.length (encL a0.Conds)), .p (.sl a0.Funcs.length (encL a0.Funcs)), .p (.sl a0.Threads.length (encL a0.Threads))]) ∧ σ.hp (.o 1 1 0) = some (.cells [.p (.c (.int .i64 a1.Op)), .p (.c (.int .i64 a1.A)), .p (.c (.int .i64 a1.B)), .p (.c (.int .i64 a1.C)), .p (.c (.int .i64 a1.Obj)), .p (.c (.int .i64 a1.N)), .p (.c (.int .i64 a1.Fn)), .p (.c (.int .i64 a1.Order))]) ∧ (σ7.gen + 1) ≤ σ.gen) (fun Q hK58 hX59 => ?_) (fun b55 σ9 hp => ?_)
        · repeat (first | simp [h8_2, h8_3, h8_7, h8_8, g8_0, g8_1, n8_0] | with_reducible refine awp_reg ?_)
          refine condK_spec (eqI a1.Op 15) (by first | rfl | (simp [h8_2, h8_3, h8_7, h8_8, g8_0, g8_1, n8_0]; done) | (simp [andB, orB, eqI, ltI, Int.natCast_inj, h8_2, h8_3, h8_7, h8_8, g8_0, g8_1, n8_0]; done)) (fun h60 => ?_) (fun h60 => ?_)
          · replace e56 := condT h60 e56
            repeat (first | simp [h8_2, h8_3, h8_7, h8_8, g8_0, g8_1, n8_0] | with_reducible refine awp_reg ?_)
            refine hK58 (eqI a1.Op 15) _ ⟨e56, ?_, ?_, ?_, ?_, ?_, ?_, by first | (simp; done) | (simp; omega) | omega⟩ <;> simp [St.frz, St.pur, h8_2, h8_3, h8_7, h8_8, g8_0, g8_1, n8_0]
          · replace e56 := condF h60 e56
            repeat (first | simp [h8_2, h8_3, h8_7, h8_8, g8_0, g8_1, n8_0] | with_reducible refine awp_reg ?_)
            refine condK_spec (eqI a1.Op 16) (by first | rfl | (simp [h8_2, h8_3, h8_7, h8_8, g8_0, g8_1, n8_0]; done) | (simp [andB, orB, eqI, ltI, Int.natCast_inj, h8_2, h8_3, h8_7, h8_8, g8_0, g8_1, n8_0]; done)) (fun h61 => ?_) (fun h61 => ?_)
            · replace e56 := condT h61 e56
              repeat (first | simp [h8_2, h8_3, h8_7, h8_8, g8_0, g8_1, n8_0] | with_reducible refine awp_reg ?_)
              refine hK58 (eqI a1.Op 16) _ ⟨e56, ?_, ?_, ?_, ?_, ?_, ?_, by first | (simp; done) | (simp; omega) | omega⟩ <;> simp [St.frz, St.pur, h8_2, h8_3, h8_7, h8_8, g8_0, g8_1, n8_0]
            · replace e56 := condF h61 e56
              repeat (first | simp [h8_2, h8_3, h8_7, h8_8, g8_0, g8_1, n8_0] | with_reducible refine awp_reg ?_)
              refine hK58 (eqI a1.Op 17) _ ⟨e56, ?_, ?_, ?_, ?_, ?_, ?_, by first | (simp; done) | (simp; omega) | omega⟩ <;> simp [St.frz, St.pur, h8_2, h8_3, h8_7, h8_8, g8_0, g8_1, n8_0]
        · obtain ⟨e56, h10_2, h10_3, h10_7, h10_18, g10_0, g10_1, n10_g⟩ := hp
          obtain rfl := Option.some.inj e56
          try dsimp only at e33
          have n10_0 : ¬ (σ9.gen = 0) := by omega
          repeat (first | simp [h10_2, h10_3, h10_7, h10_18, g10_0, g10_1, n10_0] | with_reducible refine awp_reg ?_)
          refine condK_spec b55 (by first | rfl | (simp [h10_2, h10_3, h10_7, h10_18, g10_0, g10_1, n10_0]; done) | (simp [andB, orB, eqI, ltI, Int.natCast_inj, h10_2, h10_3, h10_7, h10_18, g10_0, g10_1, n10_0]; done)) (fun h62 => ?_) (fun h62 => ?_)
          · replace e33 := condT h62 e33
            repeat (first | simp [h10_2, h10_3, h10_7, h10_18, g10_0, g10_1, n10_0] | with_reducible first | refine awp_reg ?_ | refine And.intro (by omega) ?_ | refine optF_if (by omega) ?_)
            refine hK35 a0.Mutexes.length _ _ (Gh.refl _) ⟨e33, ?_, ?_, ?_, by first | (simp; done) | (simp; omega) | omega⟩ <;> simp [St.frz, St.pur, h10_2, h10_3, h10_7, h10_18, g10_0, g10_1, n10_0]
          · replace e33 := condF h62 e33
            repeat (first | simp [h10_2, h10_3, h10_7, h10_18, g10_0, g10_1, n10_0] | with_reducible refine awp_reg ?_)
            refine condK_spec (eqI a1.Op 18) (by first | rfl | (simp [h10_2, h10_3, h10_7, h10_18, g10_0, g10_1, n10_0]; done) | (simp [andB, orB, eqI, ltI, Int.natCast_inj, h10_2, h10_3, h10_7, h10_18, g10_0, g10_1, n10_0]; done)) (fun h63 => ?_) (fun h63 => ?_)
            · replace e33 := condT h63 e33
              repeat (first | simp [h10_2, h10_3, h10_7, h10_18, g10_0, g10_1, n10_0] | with_reducible first | refine awp_reg ?_ | refine And.intro (by omega) ?_ | refine optF_if (by omega) ?_ | refine gsel_pure (by with_unfolding_all rfl) _ (fun hg => by (try simp at hg); first | (simp [hg, h10_2, h10_3, h10_7, h10_18, g10_0, g10_1, n10_0]; rfl) | (simp [h10_2, h10_3, h10_7, h10_18, g10_0, g10_1, n10_0]; simp only [if_pos hg]; simp [h10_2, h10_3, h10_7, h10_18, g10_0, g10_1, n10_0]; rfl)) ?_)
              refine condK_spec (orB (ltI a1.N 0) (!(ltI a1.N ((a0.Mutexes.length : Nat) : Int)))) (by first | rfl | (simp [h10_2, h10_3, h10_7, h10_18, g10_0, g10_1, n10_0]; done) | (simp [andB, orB, eqI, ltI, Int.natCast_inj, h10_2, h10_3, h10_7, h10_18, g10_0, g10_1, n10_0]; done)) (fun h64 => ?_) (fun h64 => ?_)
              · replace e33 := condT h64 e33
                repeat (first | simp [h10_2, h10_3, h10_7, h10_18, g10_0, g10_1, n10_0] | with_reducible first | refine awp_reg ?_ | refine And.intro (by omega) ?_ | refine optF_if (by omega) ?_ | refine gsel_pure (by with_unfolding_all rfl) _ (fun hg => by (try simp at hg); first | (simp [hg, h10_2, h10_3, h10_7, h10_18, g10_0, g10_1, n10_0]; rfl) | (simp [h10_2, h10_3, h10_7, h10_18, g10_0, g10_1, n10_0]; simp only [if_pos hg]; simp [h10_2, h10_3, h10_7, h10_18, g10_0, g10_1, n10_0]; rfl)) ?_)
                obtain rfl := Option.some.inj e33
                try dsimp only at hs
                refine hX36 _ _ (by simp) ?_
                repeat (first | simp [h10_2, h10_3, h10_7, h10_18, g10_0, g10_1, n10_0] | with_reducible first | refine awp_reg ?_ | refine And.intro (by omega) ?_ | refine optF_if (by omega) ?_ | refine gsel_pure (by with_unfolding_all rfl) _ (fun hg => by (try simp at hg); first | (simp [hg, h10_2, h10_3, h10_7, h10_18, g10_0, g10_1, n10_0]; rfl) | (simp [h10_2, h10_3, h10_7, h10_18, g10_0, g10_1, n10_0]; simp only [if_pos hg]; simp [h10_2, h10_3, h10_7, h10_18, g10_0, g10_1, n10_0]; rfl)) ?_)
                obtain rfl := Option.some.inj hs
                refine hQ _ _ (ret2g _ (Gh.refl _) (by simp [St.frz, St.pur, h10_2, h10_3, h10_7, h10_18, g10_0, g10_1, n10_0]; rfl) (by first | rfl | (simp [St.frz, St.pur, h10_2, h10_3, h10_7, h10_18, g10_0, g10_1, n10_0]; done) | (rw [if_pos (by first | omega | (simp; omega))]; simp [St.frz, St.pur, h10_2, h10_3, h10_7, h10_18, g10_0, g10_1, n10_0]; first | omega | exact List.take_of_length_le (by simp; omega) | skip)) (by simp))
              · replace e33 := condF h64 e33
                repeat (first | simp [h10_2, h10_3, h10_7, h10_18, g10_0, g10_1, n10_0] | with_reducible first | refine awp_reg ?_ | refine And.intro (by omega) ?_ | refine optF_if (by omega) ?_ | refine gsel_pure (by with_unfolding_all rfl) _ (fun hg => by (try simp at hg); first | (simp [hg, h10_2, h10_3, h10_7, h10_18, g10_0, g10_1, n10_0]; rfl) | (simp [h10_2, h10_3, h10_7, h10_18, g10_0, g10_1, n10_0]; simp only [if_pos hg]; simp [h10_2, h10_3, h10_7, h10_18, g10_0, g10_1, n10_0]; rfl)) ?_)
                refine hK35 a0.Conds.length _ _ (Gh.refl _) ⟨e33, ?_, ?_, ?_, by first | (simp; done) | (simp; omega) | omega⟩ <;> simp [St.frz, St.pur, h10_2, h10_3, h10_7, h10_18, g10_0, g10_1, n10_0]
            · replace e33 := condF h63 e33
              repeat (first | simp [h10_2, h10_3, h10_7, h10_18, g10_0, g10_1, n10_0] | with_reducible refine awp_reg ?_)
              refine condK_spec (eqI a1.Op 19) (by first | rfl | (simp [h10_2, h10_3, h10_7, h10_18, g10_0, g10_1, n10_0]; done) | (simp [andB, orB, eqI, ltI, Int.natCast_inj, h10_2, h10_3, h10_7, h10_18, g10_0, g10_1, n10_0]; done)) (fun h65 => ?_) (fun h65 => ?_)
              · replace e33 := condT h65 e33
                repeat (first | simp [h10_2, h10_3, h10_7, h10_18, g10_0, g10_1, n10_0] | with_reducible refine awp_reg ?_)
                refine condK_t (by first | exact h65 | simpa using h65) ?_
                repeat (first | simp [h10_2, h10_3, h10_7, h10_18, g10_0, g10_1, n10_0] | with_reducible first | refine awp_reg ?_ | refine And.intro (by omega) ?_ | refine optF_if (by omega) ?_)
                refine hK35 a0.Conds.length _ _ (Gh.refl _) ⟨e33, ?_, ?_, ?_, by first | (simp; done) | (simp; omega) | omega⟩ <;> simp [St.frz, St.pur, h10_2, h10_3, h10_7, h10_18, g10_0, g10_1, n10_0]
              · replace e33 := condF h65 e33
                repeat (first | simp [h10_2, h10_3, h10_7, h10_18, g10_0, g10_1, n10_0] | with_reducible refine awp_reg ?_)
                refine condK_spec (eqI a1.Op 20) (by first | rfl | (simp [h10_2, h10_3, h10_7, h10_18, g10_0, g10_1, n10_0]; done) | (simp [andB, orB, eqI, ltI, Int.natCast_inj, h10_2, h10_3, h10_7, h10_18, g10_0, g10_1, n10_0]; done)) (fun h66 => ?_) (fun h66 => ?_)
                · replace e33 := condT h66 e33
                  repeat (first | simp [h10_2, h10_3, h10_7, h10_18, g10_0, g10_1, n10_0] | with_reducible first | refine awp_reg ?_ | refine And.intro (by omega) ?_ | refine optF_if (by omega) ?_)
                  refine hK35 a0.Conds.length _ _ (Gh.refl _) ⟨e33, ?_, ?_, ?_, by first | (simp; done) | (simp; omega) | omega⟩ <;> simp [St.frz, St.pur, h10_2, h10_3, h10_7, h10_18, g10_0, g10_1, n10_0]
                · replace e33 := condF h66 e33
                  repeat (first | simp [h10_2, h10_3, h10_7, h10_18, g10_0, g10_1, n10_0] | with_reducible refine awp_reg ?_)
                  refine condK_spec (eqI a1.Op 21) (by first | rfl | (simp [h10_2, h10_3, h10_7, h10_18, g10_0, g10_1, n10_0]; done) | (simp [andB, orB, eqI, ltI, Int.natCast_inj, h10_2, h10_3, h10_7, h10_18, g10_0, g10_1, n10_0]; done)) (fun h67 => ?_) (fun h67 => ?_)
                  · replace e33 := condT h67 e33
                    repeat (first | simp [h10_2, h10_3, h10_7, h10_18, g10_0, g10_1, n10_0] | with_reducible first | refine awp_reg ?_ | refine And.intro (by omega) ?_ | refine optF_if (by omega) ?_)
                    refine hK35 a0.Funcs.length _ _ (Gh.refl _) ⟨e33, ?_, ?_, ?_, by first | (simp; done) | (simp; omega) | omega⟩ <;> simp [St.frz, St.pur, h10_2, h10_3, h10_7, h10_18, g10_0, g10_1, n10_0]
                  · replace e33 := condF h67 e33
                    repeat (first | simp [h10_2, h10_3, h10_7, h10_18, g10_0, g10_1, n10_0] | with_reducible refine awp_reg ?_)
                    obtain rfl := Option.some.inj e33
                    try dsimp only at hs
                    refine hX36 _ _ (by simp) ?_
                    repeat (first | simp [h10_2, h10_3, h10_7, h10_18, g10_0, g10_1, n10_0] | with_reducible refine awp_reg ?_)
                    obtain rfl := Option.some.inj hs
                    refine hQ _ _ (ret2g _ (Gh.refl _) (by simp [St.frz, St.pur, h10_2, h10_3, h10_7, h10_18, g10_0, g10_1, n10_0]; rfl) (by first | rfl | (simp [St.frz, St.pur, h10_2, h10_3, h10_7, h10_18, g10_0, g10_1, n10_0]; done) | (rw [if_pos (by first | omega | (simp; omega))]; simp [St.frz, St.pur, h10_2, h10_3, h10_7, h10_18, g10_0, g10_1, n10_0]; first | omega | exact List.take_of_length_le (by simp; omega) | skip)) (by simp))
  · obtain ⟨e33, h6_3, h6_5, g6_0, n6_g⟩ := hp
    obtain rfl := Option.some.inj e33
    try dsimp only at hs
    have n6_0 : ¬ (σ5.gen = 0) := by omega
    repeat (first | simp [h6_3, h6_5, g6_0, n6_0] | with_reducible first | refine awp_reg ?_ | refine gsel_pure (by with_unfolding_all rfl) _ (fun hg => by (try simp at hg); first | (simp [hg, h6_3, h6_5, g6_0, n6_0]; rfl) | (simp [h6_3, h6_5, g6_0, n6_0]; simp only [if_pos hg]; simp [h6_3, h6_5, g6_0, n6_0]; rfl)) ?_)
    obtain rfl := Option.some.inj hs
    refine hQ _ _ (ret2g _ (Gh.refl _) (by simp [St.frz, St.pur, h6_3, h6_5, g6_0, n6_0]; rfl) (by first | rfl | (simp [St.frz, St.pur, h6_3, h6_5, g6_0, n6_0]; done) | (rw [if_pos (by first | omega | (simp; omega))]; simp [St.frz, St.pur, h6_3, h6_5, g6_0, n6_0]; first | omega | exact List.take_of_length_le (by simp; omega) | skip)) (by simp))
end Go.Dc
end
section
set_option linter.all false
namespace Go.Dc
open Go Go.Hw Go.Proofs
set_option maxRecDepth 100000
def r08_code_L1 (a0 : Program) (a1 : Func) : List Inst → Nat → Option (Unit ⊕ (Int × Int))
  | [], k63 => some (.inl ())
  | x85 :: q81, k63 => Option.bind (r07_Check x85) (fun y88 => cond (!(eqI y88 0)) (some (.inr (y88, ((k63 : Nat) : Int)))) (Option.bind (r08_exists a0 x85) (fun y91 => cond (!y91) (some (.inr (11, ((k63 : Nat) : Int)))) (cond (andB (orB (eqI x85.Op 4) (eqI x85.Op 5)) (orB (ltI x85.N 0) (ltI ((a1.Code.length : Nat) : Int) x85.N))) (some (.inr (12, ((k63 : Nat) : Int)))) (r08_code_L1 a0 a1 q81 (k63 + 1))))))

def r08_code (a0 : Program) (a1 : Func) : Option (Int × Int) :=
  cond (ltI 64 ((a1.Code.length : Nat) : Int)) (some (4, (-1))) (Option.bind (α := Unit ⊕ (Int × Int)) (Option.bind (r08_code_L1 a0 a1 a1.Code 0) (fun o => match o with | .inl _ => some (.inl ()) | .inr r95 => some (.inr r95))) (fun o => match o with | .inl _ => some (0, (-1)) | .inr r96 => some r96))

set_option maxHeartbeats 2000000 in
theorem at_r08_code {a0 : Program} {a1 : Func} {r : Int × Int} (hs : r08_code a0 a1 = some r) : At Tryd.prog 94 [.agg [.p (.sl a0.Vars.length (encL a0.Vars)), .p (.sl a0.Mutexes.length (encL a0.Mutexes)), .p (.sl a0.Conds.length (encL a0.Conds)), .p (.sl a0.Funcs.length (encL a0.Funcs)), .p (.sl a0.Threads.length (encL a0.Threads))], .agg [.p (.c (.string a1.Name)), .p (.sl a1.Code.length (encL a1.Code))]] (.tup [iV .i64 r.1, iV .i64 r.2]) := by
  refine at_bound (by kernel_rfl) fun hb => ?_
  have hb1 : LenOk (.sl a0.Vars.length (encL a0.Vars)) := hb (.agg [.p (.sl a0.Vars.length (encL a0.Vars)), .p (.sl a0.Mutexes.length (encL a0.Mutexes)), .p (.sl a0.Conds.length (encL a0.Conds)), .p (.sl a0.Funcs.length (encL a0.Funcs)), .p (.sl a0.Threads.length (encL a0.Threads))]) (by simp) (.p (.sl a0.Vars.length (encL a0.Vars))) (by simp)
  have hb2 : LenOk (.sl a0.Mutexes.length (encL a0.Mutexes)) := hb (.agg [.p (.sl a0.Vars.length (encL a0.Vars)), .p (.sl a0.Mutexes.length (encL a0.Mutexes)), .p (.sl a0.Conds.length (encL a0.Conds)), .p (.sl a0.Funcs.length (encL a0.Funcs)), .p (.sl a0.Threads.length (encL a0.Threads))]) (by simp) (.p (.sl a0.Mutexes.length (encL a0.Mutexes))) (by simp)
  have hb3 : LenOk (.sl a0.Conds.length (encL a0.Conds)) := hb (.agg [.p (.sl a0.Vars.length (encL a0.Vars)), .p (.sl a0.Mutexes.length (encL a0.Mutexes)), .p (.sl a0.Conds.length (encL a0.Conds)), .p (.sl a0.Funcs.length (encL a0.Funcs)), .p (.sl a0.Threads.length (encL a0.Threads))]) (by simp) (.p (.sl a0.Conds.length (encL a0.Conds))) (by simp)
  have hb4 : LenOk (.sl a0.Funcs.length (encL a0.Funcs)) := hb (.agg [.p (.sl a0.Vars.length (encL a0.Vars)), .p (.sl a0.Mutexes.length (encL a0.Mutexes)), .p (.sl a0.Conds.length (encL a0.Conds)), .p (.sl a0.Funcs.length (encL a0.Funcs)), .p (.sl a0.Threads.length (encL a0.Threads))]) (by simp) (.p (.sl a0.Funcs.length (encL a0.Funcs))) (by simp)
  have hb5 : LenOk (.sl a0.Threads.length (encL a0.Threads)) := hb (.agg [.p (.sl a0.Vars.length (encL a0.Vars)), .p (.sl a0.Mutexes.length (encL a0.Mutexes)), .p (.sl a0.Conds.length (encL a0.Conds)), .p (.sl a0.Funcs.length (encL a0.Funcs)), .p (.sl a0.Threads.length (encL a0.Threads))]) (by simp) (.p (.sl a0.Threads.length (encL a0.Threads))) (by simp)
  have hb6 : LenOk (.sl a1.Code.length (encL a1.Code)) := hb (.agg [.p (.c (.string a1.Name)), .p (.sl a1.Code.length (encL a1.Code))]) (by simp) (.p (.sl a1.Code.length (encL a1.Code))) (by simp)
  refine at_code mixed Tryd.func94 (by kernel_rfl) rfl (by kernel_rfl) rfl fun Q hQ => ?_
  rw [r08_code] at hs
  repeat (first | simp | with_reducible first | refine awp_reg ?_ | refine And.intro (by omega) ?_ | refine optF_if (by omega) ?_)
  refine condK_spec (ltI 64 ((a1.Code.length : Nat) : Int)) (by first | rfl | (simp; done) | (simp [andB, orB, eqI, ltI, Int.natCast_inj]; done)) (fun h1 => ?_) (fun h1 => ?_)
  · replace hs := condT h1 hs
    repeat (first | simp | with_reducible first | refine awp_reg ?_ | refine And.intro (by omega) ?_ | refine optF_if (by omega) ?_)
    obtain rfl := Option.some.inj hs
    refine hQ _ _ (ret2g _ (Gh.refl _) (by simp [St.frz, St.pur]; rfl) (by first | rfl | (simp [St.frz, St.pur]; done) | (rw [if_pos (by first | omega | (simp; omega))]; simp [St.frz, St.pur]; first | omega | exact List.take_of_length_le (by simp; omega) | skip)) (by simp))
  · replace hs := condF h1 hs
    repeat (first | simp [-awp_cond_eq, -awp_block_eq] | with_reducible first | refine awp_reg ?_ | refine And.intro (by omega) ?_ | refine optF_if (by omega) ?_)
    obtain ⟨o48, e47, hs⟩ := bindO hs
    try dsimp only at hs
    refine awp_cutK (fun (v : Unit) (σ : St) => some (.inl v) = some o48 ∧ 3 ≤ σ.gen) (by rfl) (fun Q hK49 hX50 => ?_) (fun v σ3 hp => ?_)
    · repeat (first | simp | with_reducible first | refine awp_reg ?_ | refine And.intro (by omega) ?_ | refine optF_if (by omega) ?_)
      obtain ⟨o76, e75, e47⟩ := bindO e47
      try dsimp only at e47
      refine awp_loopW (fun (v : (List Inst) × Nat) (σ : St) => r08_code_L1 a0 a1 v.1 v.2 = some o76 ∧ v.1 = a1.Code.drop v.2 ∧ σ.env 2 = .cell (.ref (.o 1 0 0) 0) ∧ σ.env 3 = .cell (.ref (.o 1 1 0) 0) ∧ σ.env 6 = iV .i64 ((v.2 : Nat) : Int) ∧ σ.hp (.o 1 0 0) = some (.cells [.p (.sl a0.Vars.length (encL a0.Vars)), .p (.sl a0.Mutexes.length (encL a0.Mutexes)), .p (.sl a0.Conds.length (encL a0.Conds)), .p (.sl a0.Funcs.length (encL a0.Funcs)), .p (.sl a0.Threads.length (encL a0.Threads))]) ∧ σ.hp (.o 1 1 0) = some (.cells [.p (.c (.string a1.Name)), .p (.sl a1.Code.length (encL a1.Code))]) ∧ 3 ≤ σ.gen) (fun v => v.1.length) _ (Gh.refl _) (a1.Code, 0) ⟨e75, by simp, by simp [St.frz, St.pur], by simp [St.frz, St.pur], by simp [St.frz, St.pur], by simp [St.frz, St.pur], by simp [St.frz, St.pur], by first | (simp; done) | (simp; omega) | omega⟩ fun v σ6 hp L77 hL78 => ?_
      obtain ⟨q80, k63⟩ := v
      dsimp only at hp hL78
      obtain ⟨e75, hd79, h5_2, h5_3, h5_6, g5_0, g5_1, n5_g⟩ := hp
      have n5_0 : ¬ (σ6.gen = 0) := by omega
      rcases q80 with _ | ⟨x85, q81⟩
      · have hlt82 := drop_end hd79
        rw [r08_code_L1] at e75; try dsimp only at e75
        repeat (first | simp [h5_2, h5_3, h5_6, g5_0, g5_1, n5_0] | with_reducible first | refine awp_reg ?_ | refine And.intro (by omega) ?_ | refine optF_if (by omega) ?_)
        refine condK_f (by simp [ltI]; omega) ?_
        obtain rfl := Option.some.inj e75
        try dsimp only at e47
        exact hK49 () _ _ (Gh.refl _) ⟨e47, by first | (simp; done) | (simp; omega) | omega⟩
      · obtain ⟨hx84, hlt82, hd86⟩ := drop_next hd79
        have ew83 := wrap_succ hlt82 (hb6).len
        rw [r08_code_L1] at e75; try dsimp only at e75
        repeat (first | simp [h5_2, h5_3, h5_6, g5_0, g5_1, n5_0, hlt82, ew83] | with_reducible first | refine awp_reg ?_ | refine And.intro (by omega) ?_ | refine optF_if (by omega) ?_)
        refine condK_t (by simp [ltI]; omega) ?_
        have f87 : partCV Tryd.prog 71 (encL a1.Code) (k63 * 8) = some (.agg [.p (.c (.int .i64 x85.Op)), .p (.c (.int .i64 x85.A)), .p (.c (.int .i64 x85.B)), .p (.c (.int .i64 x85.C)), .p (.c (.int .i64 x85.Obj)), .p (.c (.int .i64 x85.N)), .p (.c (.int .i64 x85.Fn)), .p (.c (.int .i64 x85.Order))]) := partCV_enc hx84 (f := 0) (by simp)
        repeat (first | simp [h5_2, h5_3, h5_6, g5_0, g5_1, n5_0, hlt82, ew83, f87] | with_reducible first | refine awp_reg ?_ | refine And.intro (by omega) ?_ | refine optF_if (by omega) ?_)
        obtain ⟨y88, hx89, e75⟩ := bindO e75
        try dsimp only at e75
        refine callK_pure (at_r07_Check hx89) (by (first | simp [h5_2, h5_3, h5_6, g5_0, g5_1, n5_0, hlt82, ew83, f87] | simp (disch := omega) [h5_2, h5_3, h5_6, g5_0, g5_1, n5_0, hlt82, ew83, f87]); try rfl) (by simp) (by simp) ?_
        repeat (first | simp [h5_2, h5_3, h5_6, g5_0, g5_1, n5_0, hlt82, ew83, f87] | with_reducible first | refine awp_reg ?_ | refine And.intro (by omega) ?_ | refine optF_if (by omega) ?_)
        refine condK_spec (!(eqI y88 0)) (by first | rfl | (simp [h5_2, h5_3, h5_6, g5_0, g5_1, n5_0, hlt82, ew83, f87]; done) | (simp [andB, orB, eqI, ltI, Int.natCast_inj, h5_2, h5_3, h5_6, g5_0, g5_1, n5_0, hlt82, ew83, f87]; done)) (fun h90 => ?_) (fun h90 => ?_)
        · replace e75 := condT h90 e75
          repeat (first | simp [h5_2, h5_3, h5_6, g5_0, g5_1, n5_0, hlt82, ew83, f87] | with_reducible first | refine awp_reg ?_ | refine And.intro (by omega) ?_ | refine optF_if (by omega) ?_)
          obtain rfl := Option.some.inj e75
          try dsimp only at e47
          obtain rfl := Option.some.inj e47
          try dsimp only at hs
          refine hX50 _ _ (by simp) ?_
          repeat (first | simp [h5_2, h5_3, h5_6, g5_0, g5_1, n5_0, hlt82, ew83, f87] | with_reducible first | refine awp_reg ?_ | refine And.intro (by omega) ?_ | refine optF_if (by omega) ?_)
          obtain rfl := Option.some.inj hs
          refine hQ _ _ (ret2g _ (Gh.refl _) (by simp [St.frz, St.pur, h5_2, h5_3, h5_6, g5_0, g5_1, n5_0, hlt82, ew83, f87]; rfl) (by first | rfl | (simp [St.frz, St.pur, h5_2, h5_3, h5_6, g5_0, g5_1, n5_0, hlt82, ew83, f87]; done) | (rw [if_pos (by first | omega | (simp; omega))]; simp [St.frz, St.pur, h5_2, h5_3, h5_6, g5_0, g5_1, n5_0, hlt82, ew83, f87]; first | omega | exact List.take_of_length_le (by simp; omega) | skip)) (by simp))
        · replace e75 := condF h90 e75
          repeat (first | simp [h5_2, h5_3, h5_6, g5_0, g5_1, n5_0, hlt82, ew83, f87] | with_reducible first | refine awp_reg ?_ | refine And.intro (by omega) ?_ | refine optF_if (by omega) ?_)
          obtain ⟨y91, hx92, e75⟩ := bindO e75
          try dsimp only at e75
          refine callK_pure (at_r08_exists hx92) (by (first | simp [h5_2, h5_3, h5_6, g5_0, g5_1, n5_0, hlt82, ew83, f87] | simp (disch := omega) [h5_2, h5_3, h5_6, g5_0, g5_1, n5_0, hlt82, ew83, f87]); try rfl) (by simp) (by simp) ?_
          repeat (first | simp [h5_2, h5_3, h5_6, g5_0, g5_1, n5_0, hlt82, ew83, f87] | with_reducible first | refine awp_reg ?_ | refine And.intro (by omega) ?_ | refine optF_if (by omega) ?_)
          refine condK_spec (!y91) (by first | rfl | (simp [h5_2, h5_3, h5_6, g5_0, g5_1, n5_0, hlt82, ew83, f87]; done) | (simp [andB, orB, eqI, ltI, Int.natCast_inj, h5_2, h5_3, h5_6, g5_0, g5_1, n5_0, hlt82, ew83, f87]; done)) (fun h93 => ?_) (fun h93 => ?_)
          · replace e75 := condT h93 e75
            repeat (first | simp [h5_2, h5_3, h5_6, g5_0, g5_1, n5_0, hlt82, ew83, f87] | with_reducible first | refine awp_reg ?_ | refine And.intro (by omega) ?_ | refine optF_if (by omega) ?_)
            obtain rfl := Option.some.inj e75
            try dsimp only at e47
            obtain rfl := Option.some.inj e47
            try dsimp only at hs
            refine hX50 _ _ (by simp) ?_
            repeat (first | simp [h5_2, h5_3, h5_6, g5_0, g5_1, n5_0, hlt82, ew83, f87] | with_reducible first | refine awp_reg ?_ | refine And.intro (by omega) ?_ | refine optF_if (by omega) ?_)
            obtain rfl := Option.some.inj hs
            refine hQ _ _ (ret2g _ (Gh.refl _) (by simp [St.frz, St.pur, h5_2, h5_3, h5_6, g5_0, g5_1, n5_0, hlt82, ew83, f87]; rfl) (by first | rfl | (simp [St.frz, St.pur, h5_2, h5_3, h5_6, g5_0, g5_1, n5_0, hlt82, ew83, f87]; done) | (rw [if_pos (by first | omega | (simp; omega))]; simp [St.frz, St.pur, h5_2, h5_3, h5_6, g5_0, g5_1, n5_0, hlt82, ew83, f87]; first | omega | exact List.take_of_length_le (by simp; omega) | skip)) (by simp))
          · replace e75 := condF h93 e75
            repeat (first | simp [h5_2, h5_3, h5_6, g5_0, g5_1, n5_0, hlt82, ew83, f87] | with_reducible first | refine awp_reg ?_ | refine And.intro (by omega) ?_ | refine optF_if (by omega) ?_ | refine gsel_pure (by with_unfolding_all rfl) _ (fun hg => by (try simp at hg); first | (simp [hg, h5_2, h5_3, h5_6, g5_0, g5_1, n5_0, hlt82, ew83, f87]; rfl) | (simp [h5_2, h5_3, h5_6, g5_0, g5_1, n5_0, hlt82, ew83, f87]; simp only [if_pos hg]; simp [h5_2, h5_3, h5_6, g5_0, g5_1, n5_0, hlt82, ew83, f87]; rfl)) ?_)
            refine condK_spec (andB (orB (eqI x85.Op 4) (eqI x85.Op 5)) (orB (ltI x85.N 0) (ltI ((a1.Code.length : Nat) : Int) x85.N))) (by first | rfl | (simp [h5_2, h5_3, h5_6, g5_0, g5_1, n5_0, hlt82, ew83, f87]; done) | (simp [andB, orB, eqI, ltI, Int.natCast_inj, h5_2, h5_3, h5_6, g5_0, g5_1, n5_0, hlt82, ew83, f87]; done)) (fun h94 => ?_) (fun h94 => ?_)
            · replace e75 := condT h94 e75
              repeat (first | simp [h5_2, h5_3, h5_6, g5_0, g5_1, n5_0, hlt82, ew83, f87] | with_reducible first | refine awp_reg ?_ | refine And.intro (by omega) ?_ | refine optF_if (by omega) ?_ | refine gsel_pure (by with_unfolding_all rfl) _ (fun hg => by (try simp at hg); first | (simp [hg, h5_2, h5_3, h5_6, g5_0, g5_1, n5_0, hlt82, ew83, f87]; rfl) | (simp [h5_2, h5_3, h5_6, g5_0, g5_1, n5_0, hlt82, ew83, f87]; simp only [if_pos hg]; simp [h5_2, h5_3, h5_6, g5_0, g5_1, n5_0, hlt82, ew83, f87]; rfl)) ?_)
              obtain rfl := Option.some.inj e75
              try dsimp only at e47
              obtain rfl := Option.some.inj e47
              try dsimp only at hs
              refine hX50 _ _ (by simp) ?_
              repeat (first | simp [h5_2, h5_3, h5_6, g5_0, g5_1, n5_0, hlt82, ew83, f87] | with_reducible first | refine awp_reg ?_ | refine And.intro (by omega) ?_ | refine optF_if (by omega) ?_ | refine gsel_pure (by with_unfolding_all rfl) _ (fun hg => by (try simp at hg); first | (simp [hg, h5_2, h5_3, h5_6, g5_0, g5_1, n5_0, hlt82, ew83, f87]; rfl) | (simp [h5_2, h5_3, h5_6, g5_0, g5_1, n5_0, hlt82, ew83, f87]; simp only [if_pos hg]; simp [h5_2, h5_3, h5_6, g5_0, g5_1, n5_0, hlt82, ew83, f87]; rfl)) ?_)
              obtain rfl := Option.some.inj hs
              refine hQ _ _ (ret2g _ (Gh.refl _) (by simp [St.frz, St.pur, h5_2, h5_3, h5_6, g5_0, g5_1, n5_0, hlt82, ew83, f87]; rfl) (by first | rfl | (simp [St.frz, St.pur, h5_2, h5_3, h5_6, g5_0, g5_1, n5_0, hlt82, ew83, f87]; done) | (rw [if_pos (by first | omega | (simp; omega))]; simp [St.frz, St.pur, h5_2, h5_3, h5_6, g5_0, g5_1, n5_0, hlt82, ew83, f87]; first | omega | exact List.take_of_length_le (by simp; omega) | skip)) (by simp))
            · replace e75 := condF h94 e75
              repeat (first | simp [h5_2, h5_3, h5_6, g5_0, g5_1, n5_0, hlt82, ew83, f87] | with_reducible first | refine awp_reg ?_ | refine And.intro (by omega) ?_ | refine optF_if (by omega) ?_ | refine gsel_pure (by with_unfolding_all rfl) _ (fun hg => by (try simp at hg); first | (simp [hg, h5_2, h5_3, h5_6, g5_0, g5_1, n5_0, hlt82, ew83, f87]; rfl) | (simp [h5_2, h5_3, h5_6, g5_0, g5_1, n5_0, hlt82, ew83, f87]; simp only [if_pos hg]; simp [h5_2, h5_3, h5_6, g5_0, g5_1, n5_0, hlt82, ew83, f87]; rfl)) ?_)
              refine hL78 (q81, (k63 + 1)) _ _ (Gh.refl _) ⟨e75, hd86, ?_, ?_, ?_, ?_, ?_, by first | (simp; done) | (simp; omega) | omega⟩ (by simp) <;> simp [St.frz, St.pur, h5_2, h5_3, h5_6, g5_0, g5_1, n5_0, hlt82, ew83, f87]
    · obtain ⟨e47, n4_g⟩ := hp
      obtain rfl := Option.some.inj e47
      try dsimp only at hs
      repeat (first | simp | with_reducible first | refine awp_reg ?_ | refine And.intro (by omega) ?_ | refine optF_if (by omega) ?_)
      obtain rfl := Option.some.inj hs
      refine hQ _ _ (ret2g _ (Gh.refl _) (by simp [St.frz, St.pur]; rfl) (by first | rfl | (simp [St.frz, St.pur]; done) | (rw [if_pos (by first | omega | (simp; omega))]; simp [St.frz, St.pur]; first | omega | exact List.take_of_length_le (by simp; omega) | skip)) (by simp))
end Go.Dc
end
section
set_option linter.all false
namespace Go.Dc
open Go Go.Hw Go.Proofs
set_option maxRecDepth 100000
def r08_threads_L1 (a0 : Program) : List Start → Nat → Option (Unit ⊕ Int)
  | [], k65 => some (.inl ())
  | x88 :: q84, k65 => cond (orB (ltI x88.Func 0) (!(ltI x88.Func ((a0.Funcs.length : Nat) : Int)))) (some (.inr 11)) (Option.bind (r08_value x88.Arg) (fun y94 => cond (!y94) (some (.inr 2)) (r08_threads_L1 a0 q84 (k65 + 1))))

def r08_threads (a0 : Program) : Option Int :=
  cond (orB (ltI ((a0.Threads.length : Nat) : Int) 1) (ltI 8 ((a0.Threads.length : Nat) : Int))) (some 4) (Option.bind (α := Unit ⊕ Int) (Option.bind (r08_threads_L1 a0 a0.Threads 0) (fun o => match o with | .inl _ => some (.inl ()) | .inr r97 => some (.inr r97))) (fun o => match o with | .inl _ => some 0 | .inr r98 => some r98))

set_option maxHeartbeats 2000000 in
theorem at_r08_threads {a0 : Program} {r : Int} (hs : r08_threads a0 = some r) : At Tryd.prog 95 [.agg [.p (.sl a0.Vars.length (encL a0.Vars)), .p (.sl a0.Mutexes.length (encL a0.Mutexes)), .p (.sl a0.Conds.length (encL a0.Conds)), .p (.sl a0.Funcs.length (encL a0.Funcs)), .p (.sl a0.Threads.length (encL a0.Threads))]] (iV .i64 r) := by
  refine at_bound (by kernel_rfl) fun hb => ?_
  have hb1 : LenOk (.sl a0.Vars.length (encL a0.Vars)) := hb (.agg [.p (.sl a0.Vars.length (encL a0.Vars)), .p (.sl a0.Mutexes.length (encL a0.Mutexes)), .p (.sl a0.Conds.length (encL a0.Conds)), .p (.sl a0.Funcs.length (encL a0.Funcs)), .p (.sl a0.Threads.length (encL a0.Threads))]) (by simp) (.p (.sl a0.Vars.length (encL a0.Vars))) (by simp)
  have hb2 : LenOk (.sl a0.Mutexes.length (encL a0.Mutexes)) := hb (.agg [.p (.sl a0.Vars.length (encL a0.Vars)), .p (.sl a0.Mutexes.length (encL a0.Mutexes)), .p (.sl a0.Conds.length (encL a0.Conds)), .p (.sl a0.Funcs.length (encL a0.Funcs)), .p (.sl a0.Threads.length (encL a0.Threads))]) (by simp) (.p (.sl a0.Mutexes.length (encL a0.Mutexes))) (by simp)
  have hb3 : LenOk (.sl a0.Conds.length (encL a0.Conds)) := hb (.agg [.p (.sl a0.Vars.length (encL a0.Vars)), .p (.sl a0.Mutexes.length (encL a0.Mutexes)), .p (.sl a0.Conds.length (encL a0.Conds)), .p (.sl a0.Funcs.length (encL a0.Funcs)), .p (.sl a0.Threads.length (encL a0.Threads))]) (by simp) (.p (.sl a0.Conds.length (encL a0.Conds))) (by simp)
  have hb4 : LenOk (.sl a0.Funcs.length (encL a0.Funcs)) := hb (.agg [.p (.sl a0.Vars.length (encL a0.Vars)), .p (.sl a0.Mutexes.length (encL a0.Mutexes)), .p (.sl a0.Conds.length (encL a0.Conds)), .p (.sl a0.Funcs.length (encL a0.Funcs)), .p (.sl a0.Threads.length (encL a0.Threads))]) (by simp) (.p (.sl a0.Funcs.length (encL a0.Funcs))) (by simp)
  have hb5 : LenOk (.sl a0.Threads.length (encL a0.Threads)) := hb (.agg [.p (.sl a0.Vars.length (encL a0.Vars)), .p (.sl a0.Mutexes.length (encL a0.Mutexes)), .p (.sl a0.Conds.length (encL a0.Conds)), .p (.sl a0.Funcs.length (encL a0.Funcs)), .p (.sl a0.Threads.length (encL a0.Threads))]) (by simp) (.p (.sl a0.Threads.length (encL a0.Threads))) (by simp)
  refine at_code mixed Tryd.func95 (by kernel_rfl) rfl (by kernel_rfl) rfl fun Q hQ => ?_
  rw [r08_threads] at hs
  repeat (first | simp | with_reducible first | refine awp_reg ?_ | refine And.intro (by omega) ?_ | refine optF_if (by omega) ?_ | refine gsel_pure (by with_unfolding_all rfl) _ (fun hg => by (try simp at hg); first | (simp [hg]; rfl) | (simp; simp only [if_pos hg]; simp; rfl)) ?_)
  refine condK_spec (orB (ltI ((a0.Threads.length : Nat) : Int) 1) (ltI 8 ((a0.Threads.length : Nat) : Int))) (by first | rfl | (simp; done) | (simp [andB, orB, eqI, ltI, Int.natCast_inj]; done)) (fun h1 => ?_) (fun h1 => ?_)
  · replace hs := condT h1 hs
    repeat (first | simp | with_reducible first | refine awp_reg ?_ | refine And.intro (by omega) ?_ | refine optF_if (by omega) ?_ | refine gsel_pure (by with_unfolding_all rfl) _ (fun hg => by (try simp at hg); first | (simp [hg]; rfl) | (simp; simp only [if_pos hg]; simp; rfl)) ?_)
    obtain rfl := Option.some.inj hs
    refine hQ _ _ (ret2g _ (Gh.refl _) (by simp [St.frz, St.pur]; rfl) (by first | rfl | (simp [St.frz, St.pur]; done) | (rw [if_pos (by first | omega | (simp; omega))]; simp [St.frz, St.pur]; first | omega | exact List.take_of_length_le (by simp; omega) | skip)) (by simp))
  · replace hs := condF h1 hs
    repeat (first | simp [-awp_cond_eq, -awp_block_eq] | with_reducible first | refine awp_reg ?_ | refine And.intro (by omega) ?_ | refine optF_if (by omega) ?_ | refine gsel_pure (by with_unfolding_all rfl) _ (fun hg => by (try simp at hg); first | (simp [hg]; rfl) | (simp; simp only [if_pos hg]; simp; rfl)) ?_)
    obtain ⟨o49, e48, hs⟩ := bindO hs
    try dsimp only at hs
    refine awp_cutK (fun (v : Unit) (σ : St) => some (.inl v) = some o49 ∧ 3 ≤ σ.gen) (by rfl) (fun Q hK50 hX51 => ?_) (fun v σ3 hp => ?_)
    · repeat (first | simp | with_reducible first | refine awp_reg ?_ | refine And.intro (by omega) ?_ | refine optF_if (by omega) ?_ | refine gsel_pure (by with_unfolding_all rfl) _ (fun hg => by (try simp at hg); first | (simp [hg]; rfl) | (simp; simp only [if_pos hg]; simp; rfl)) ?_)
      obtain ⟨o79, e78, e48⟩ := bindO e48
      try dsimp only at e48
      refine awp_loopW (fun (v : (List Start) × Nat) (σ : St) => r08_threads_L1 a0 v.1 v.2 = some o79 ∧ v.1 = a0.Threads.drop v.2 ∧ σ.env 1 = .cell (.ref (.o 1 0 0) 0) ∧ σ.env 3 = iV .i64 ((v.2 : Nat) : Int) ∧ σ.hp (.o 1 0 0) = some (.cells [.p (.sl a0.Vars.length (encL a0.Vars)), .p (.sl a0.Mutexes.length (encL a0.Mutexes)), .p (.sl a0.Conds.length (encL a0.Conds)), .p (.sl a0.Funcs.length (encL a0.Funcs)), .p (.sl a0.Threads.length (encL a0.Threads))]) ∧ 3 ≤ σ.gen) (fun v => v.1.length) _ (Gh.refl _) (a0.Threads, 0) ⟨e78, by simp, by simp [St.frz, St.pur], by simp [St.frz, St.pur], by simp [St.frz, St.pur], by first | (simp; done) | (simp; omega) | omega⟩ fun v σ6 hp L80 hL81 => ?_
      obtain ⟨q83, k65⟩ := v
      dsimp only at hp hL81
      obtain ⟨e78, hd82, h5_1, h5_3, g5_0, n5_g⟩ := hp
      have n5_0 : ¬ (σ6.gen = 0) := by omega
      rcases q83 with _ | ⟨x88, q84⟩
      · have hlt85 := drop_end hd82
        rw [r08_threads_L1] at e78; try dsimp only at e78
        repeat (first | simp [h5_1, h5_3, g5_0, n5_0] | with_reducible first | refine awp_reg ?_ | refine And.intro (by omega) ?_ | refine optF_if (by omega) ?_)
        refine condK_f (by simp [ltI]; omega) ?_
        obtain rfl := Option.some.inj e78
        try dsimp only at e48
        exact hK50 () _ _ (Gh.refl _) ⟨e48, by first | (simp; done) | (simp; omega) | omega⟩
      · obtain ⟨hx87, hlt85, hd89⟩ := drop_next hd82
        have ew86 := wrap_succ hlt85 (hb5).len
        rw [r08_threads_L1] at e78; try dsimp only at e78
        repeat (first | simp [h5_1, h5_3, g5_0, n5_0, hlt85, ew86] | with_reducible first | refine awp_reg ?_ | refine And.intro (by omega) ?_ | refine optF_if (by omega) ?_)
        refine condK_t (by simp [ltI]; omega) ?_
        have f91 : partCV Tryd.prog 3 (encL a0.Threads) (k65 * 2) = some (iV .i64 x88.Func) := partCV_enc hx87 (f := 0) (by simp)
        repeat (first | simp [h5_1, h5_3, g5_0, n5_0, hlt85, ew86, f91] | with_reducible first | refine awp_reg ?_ | refine awp_draw ?_ | refine ord_l (by kernel_rfl) ?_ | refine ord_e (by kernel_rfl) ?_ | refine ord_c (by kernel_rfl) ?_ | refine ord_d (by kernel_rfl) ?_ | refine And.intro (by omega) ?_ | refine optF_if (by omega) ?_ | refine gsel_pure (by with_unfolding_all rfl) _ (fun hg => by (try simp at hg); first | (simp [hg, h5_1, h5_3, g5_0, n5_0, hlt85, ew86, f91]; rfl) | (simp [h5_1, h5_3, g5_0, n5_0, hlt85, ew86, f91]; simp only [if_pos hg]; simp [h5_1, h5_3, g5_0, n5_0, hlt85, ew86, f91]; rfl)) ?_ | refine dskip_intro ?_ | refine dsel_pure (by with_unfolding_all rfl) _ (fun hg => by (try simp at hg); simp [hg, h5_1, h5_3, g5_0, n5_0, hlt85, ew86, f91]; rfl) ?_)
        refine condK_spec (orB (ltI x88.Func 0) (!(ltI x88.Func ((a0.Funcs.length : Nat) : Int)))) (by first | rfl | (simp [h5_1, h5_3, g5_0, n5_0, hlt85, ew86, f91]; done) | (simp [andB, orB, eqI, ltI, Int.natCast_inj, h5_1, h5_3, g5_0, n5_0, hlt85, ew86, f91]; done)) (fun h92 => ?_) (fun h92 => ?_)
        · replace e78 := condT h92 e78
          repeat (first | simp [h5_1, h5_3, g5_0, n5_0, hlt85, ew86, f91] | with_reducible first | refine awp_reg ?_ | refine awp_draw ?_ | refine ord_l (by kernel_rfl) ?_ | refine ord_e (by kernel_rfl) ?_ | refine ord_c (by kernel_rfl) ?_ | refine ord_d (by kernel_rfl) ?_ | refine And.intro (by omega) ?_ | refine optF_if (by omega) ?_ | refine gsel_pure (by with_unfolding_all rfl) _ (fun hg => by (try simp at hg); first | (simp [hg, h5_1, h5_3, g5_0, n5_0, hlt85, ew86, f91]; rfl) | (simp [h5_1, h5_3, g5_0, n5_0, hlt85, ew86, f91]; simp only [if_pos hg]; simp [h5_1, h5_3, g5_0, n5_0, hlt85, ew86, f91]; rfl)) ?_ | refine dskip_intro ?_ | refine dsel_pure (by with_unfolding_all rfl) _ (fun hg => by (try simp at hg); simp [hg, h5_1, h5_3, g5_0, n5_0, hlt85, ew86, f91]; rfl) ?_)
          obtain rfl := Option.some.inj e78
          try dsimp only at e48
          obtain rfl := Option.some.inj e48
          try dsimp only at hs
          refine hX51 _ _ (by simp) ?_
          repeat (first | simp [h5_1, h5_3, g5_0, n5_0, hlt85, ew86, f91] | with_reducible first | refine awp_reg ?_ | refine awp_draw ?_ | refine ord_l (by kernel_rfl) ?_ | refine ord_e (by kernel_rfl) ?_ | refine ord_c (by kernel_rfl) ?_ | refine ord_d (by kernel_rfl) ?_ | refine And.intro (by omega) ?_ | refine optF_if (by omega) ?_ | refine gsel_pure (by with_unfolding_all rfl) _ (fun hg => by (try simp at hg); first | (simp [hg, h5_1, h5_3, g5_0, n5_0, hlt85, ew86, f91]; rfl) | (simp [h5_1, h5_3, g5_0, n5_0, hlt85, ew86, f91]; simp only [if_pos hg]; simp [h5_1, h5_3, g5_0, n5_0, hlt85, ew86, f91]; rfl)) ?_ | refine dskip_intro ?_ | refine dsel_pure (by with_unfolding_all rfl) _ (fun hg => by (try simp at hg); simp [hg, h5_1, h5_3, g5_0, n5_0, hlt85, ew86, f91]; rfl) ?_)
          obtain rfl := Option.some.inj hs
          refine hQ _ _ (ret2g _ (Gh.refl _) (by simp [St.frz, St.pur, h5_1, h5_3, g5_0, n5_0, hlt85, ew86, f91]; rfl) (by first | rfl | (simp [St.frz, St.pur, h5_1, h5_3, g5_0, n5_0, hlt85, ew86, f91]; done) | (rw [if_pos (by first | omega | (simp; omega))]; simp [St.frz, St.pur, h5_1, h5_3, g5_0, n5_0, hlt85, ew86, f91]; first | omega | exact List.take_of_length_le (by simp; omega) | skip)) (by simp))
        · replace e78 := condF h92 e78
          have f93 : partCV Tryd.prog 3 (encL a0.Threads) (k65 * 2 + 1) = some (iV .i64 x88.Arg) := partCV_enc hx87 (f := 1) (by simp)
          repeat (first | simp [h5_1, h5_3, g5_0, n5_0, hlt85, ew86, f91, f93] | with_reducible first | refine awp_reg ?_ | refine awp_draw ?_ | refine ord_l (by kernel_rfl) ?_ | refine ord_e (by kernel_rfl) ?_ | refine ord_c (by kernel_rfl) ?_ | refine ord_d (by kernel_rfl) ?_ | refine And.intro (by omega) ?_ | refine optF_if (by omega) ?_ | refine gsel_pure (by with_unfolding_all rfl) _ (fun hg => by (try simp at hg); first | (simp [hg, h5_1, h5_3, g5_0, n5_0, hlt85, ew86, f91, f93]; rfl) | (simp [h5_1, h5_3, g5_0, n5_0, hlt85, ew86, f91, f93]; simp only [if_pos hg]; simp [h5_1, h5_3, g5_0, n5_0, hlt85, ew86, f91, f93]; rfl)) ?_ | refine dskip_intro ?_ | refine dsel_pure (by with_unfolding_all rfl) _ (fun hg => by (try simp at hg); simp [hg, h5_1, h5_3, g5_0, n5_0, hlt85, ew86, f91, f93]; rfl) ?_)
          obtain ⟨y94, hx95, e78⟩ := bindO e78
          try dsimp only at e78
          refine callK_pure (at_r08_value hx95) (by (first | simp [h5_1, h5_3, g5_0, n5_0, hlt85, ew86, f91, f93] | simp (disch := omega) [h5_1, h5_3, g5_0, n5_0, hlt85, ew86, f91, f93]); try rfl) (by simp) (by simp) ?_
          repeat (first | simp [h5_1, h5_3, g5_0, n5_0, hlt85, ew86, f91, f93] | with_reducible first | refine awp_reg ?_ | refine awp_draw ?_ | refine ord_l (by kernel_rfl) ?_ | refine ord_e (by kernel_rfl) ?_ | refine ord_c (by kernel_rfl) ?_ | refine ord_d (by kernel_rfl) ?_ | refine And.intro (by omega) ?_ | refine optF_if (by omega) ?_ | refine gsel_pure (by with_unfolding_all rfl) _ (fun hg => by (try simp at hg); first | (simp [hg, h5_1, h5_3, g5_0, n5_0, hlt85, ew86, f91, f93]; rfl) | (simp [h5_1, h5_3, g5_0, n5_0, hlt85, ew86, f91, f93]; simp only [if_pos hg]; simp [h5_1, h5_3, g5_0, n5_0, hlt85, ew86, f91, f93]; rfl)) ?_ | refine dskip_intro ?_ | refine dsel_pure (by with_unfolding_all rfl) _ (fun hg => by (try simp at hg); simp [hg, h5_1, h5_3, g5_0, n5_0, hlt85, ew86, f91, f93]; rfl) ?_)
          refine condK_spec (!y94) (by first | rfl | (simp [h5_1, h5_3, g5_0, n5_0, hlt85, ew86, f91, f93]; done) | (simp [andB, orB, eqI, ltI, Int.natCast_inj, h5_1, h5_3, g5_0, n5_0, hlt85, ew86, f91, f93]; done)) (fun h96 => ?_) (fun h96 => ?_)
          · replace e78 := condT h96 e78
            repeat (first | simp [h5_1, h5_3, g5_0, n5_0, hlt85, ew86, f91, f93] | with_reducible first | refine awp_reg ?_ | refine awp_draw ?_ | refine ord_l (by kernel_rfl) ?_ | refine ord_e (by kernel_rfl) ?_ | refine ord_c (by kernel_rfl) ?_ | refine ord_d (by kernel_rfl) ?_ | refine And.intro (by omega) ?_ | refine optF_if (by omega) ?_ | refine gsel_pure (by with_unfolding_all rfl) _ (fun hg => by (try simp at hg); first | (simp [hg, h5_1, h5_3, g5_0, n5_0, hlt85, ew86, f91, f93]; rfl) | (simp [h5_1, h5_3, g5_0, n5_0, hlt85, ew86, f91, f93]; simp only [if_pos hg]; simp [h5_1, h5_3, g5_0, n5_0, hlt85, ew86, f91, f93]; rfl)) ?_ | refine dskip_intro ?_ | refine dsel_pure (by with_unfolding_all rfl) _ (fun hg => by (try simp at hg); simp [hg, h5_1, h5_3, g5_0, n5_0, hlt85, ew86, f91, f93]; rfl) ?_)
            obtain rfl := Option.some.inj e78
            try dsimp only at e48
            obtain rfl := Option.some.inj e48
            try dsimp only at hs
            refine hX51 _ _ (by simp) ?_
            repeat (first | simp [h5_1, h5_3, g5_0, n5_0, hlt85, ew86, f91, f93] | with_reducible first | refine awp_reg ?_ | refine awp_draw ?_ | refine ord_l (by kernel_rfl) ?_ | refine ord_e (by kernel_rfl) ?_ | refine ord_c (by kernel_rfl) ?_ | refine ord_d (by kernel_rfl) ?_ | refine And.intro (by omega) ?_ | refine optF_if (by omega) ?_ | refine gsel_pure (by with_unfolding_all rfl) _ (fun hg => by (try simp at hg); first | (simp [hg, h5_1, h5_3, g5_0, n5_0, hlt85, ew86, f91, f93]; rfl) | (simp [h5_1, h5_3, g5_0, n5_0, hlt85, ew86, f91, f93]; simp only [if_pos hg]; simp [h5_1, h5_3, g5_0, n5_0, hlt85, ew86, f91, f93]; rfl)) ?_ | refine dskip_intro ?_ | refine dsel_pure (by with_unfolding_all rfl) _ (fun hg => by (try simp at hg); simp [hg, h5_1, h5_3, g5_0, n5_0, hlt85, ew86, f91, f93]; rfl) ?_)
            obtain rfl := Option.some.inj hs
            refine hQ _ _ (ret2g _ (Gh.refl _) (by simp [St.frz, St.pur, h5_1, h5_3, g5_0, n5_0, hlt85, ew86, f91, f93]; rfl) (by first | rfl | (simp [St.frz, St.pur, h5_1, h5_3, g5_0, n5_0, hlt85, ew86, f91, f93]; done) | (rw [if_pos (by first | omega | (simp; omega))]; simp [St.frz, St.pur, h5_1, h5_3, g5_0, n5_0, hlt85, ew86, f91, f93]; first | omega | exact List.take_of_length_le (by simp; omega) | skip)) (by simp))
          · replace e78 := condF h96 e78
            repeat (first | simp [h5_1, h5_3, g5_0, n5_0, hlt85, ew86, f91, f93] | with_reducible first | refine awp_reg ?_ | refine awp_draw ?_ | refine ord_l (by kernel_rfl) ?_ | refine ord_e (by kernel_rfl) ?_ | refine ord_c (by kernel_rfl) ?_ | refine ord_d (by kernel_rfl) ?_ | refine And.intro (by omega) ?_ | refine optF_if (by omega) ?_ | refine gsel_pure (by with_unfolding_all rfl) _ (fun hg => by (try simp at hg); first | (simp [hg, h5_1, h5_3, g5_0, n5_0, hlt85, ew86, f91, f93]; rfl) | (simp [h5_1, h5_3, g5_0, n5_0, hlt85, ew86, f91, f93]; simp only [if_pos hg]; simp [h5_1, h5_3, g5_0, n5_0, hlt85, ew86, f91, f93]; rfl)) ?_ | refine dskip_intro ?_ | refine dsel_pure (by with_unfolding_all rfl) _ (fun hg => by (try simp at hg); simp [hg, h5_1, h5_3, g5_0, n5_0, hlt85, ew86, f91, f93]; rfl) ?_)
            refine hL81 (q84, (k65 + 1)) _ _ (Gh.refl _) ⟨e78, hd89, ?_, ?_, ?_, by first | (simp; done) | (simp; omega) | omega⟩ (by simp) <;> simp [St.frz, St.pur, h5_1, h5_3, g5_0, n5_0, hlt85, ew86, f91, f93]
    · obtain ⟨e48, n4_g⟩ := hp
      obtain rfl := Option.some.inj e48
      try dsimp only at hs
      repeat (first | simp | with_reducible first | refine awp_reg ?_ | refine And.intro (by omega) ?_ | refine optF_if (by omega) ?_ | refine gsel_pure (by with_unfolding_all rfl) _ (fun hg => by (try simp at hg); first | (simp [hg]; rfl) | (simp; simp only [if_pos hg]; simp; rfl)) ?_)
      obtain rfl := Option.some.inj hs
      refine hQ _ _ (ret2g _ (Gh.refl _) (by simp [St.frz, St.pur]; rfl) (by first | rfl | (simp [St.frz, St.pur]; done) | (rw [if_pos (by first | omega | (simp; omega))]; simp [St.frz, St.pur]; first | omega | exact List.take_of_length_le (by simp; omega) | skip)) (by simp))
end Go.Dc
end
section
set_option linter.all false
namespace Go.Dc
open Go Go.Hw Go.Proofs
set_option maxRecDepth 100000
def r08_Check_L1 : List Var → Nat → Option (Unit ⊕ (Int × Int × Int))
  | [], k61 => some (.inl ())
  | x79 :: q75, k61 => Option.bind (r08_value x79.Init) (fun y82 => cond (!y82) (some (.inr (2, (-1), (-1)))) (r08_Check_L1 q75 (k61 + 1)))

def r08_Check_L2 (a0 : Program) : List Func → Nat → Option (Unit ⊕ (Int × Int × Int))
  | [], k149 => some (.inl ())
  | x172 :: q168, k149 => Option.bind (r08_code a0 x172) (fun y178 => cond (!(eqI y178.1 0)) (some (.inr (y178.1, ((k149 : Nat) : Int), y178.2))) (r08_Check_L2 a0 q168 (k149 + 1)))

def r08_Check (fuelN : Nat) (a0 : Program) : Option (Int × Int × Int) :=
  Option.bind (r08_lists a0) (fun y1 => Option.bind (r08_names fuelN y1.1) (fun y3 => cond (!(eqI y3.2 0)) (some (y3.2, (-1), (-1))) (Option.bind (r08_names fuelN a0.Mutexes) (fun y6 => cond (!(eqI y6.2 0)) (some (y6.2, (-1), (-1))) (Option.bind (r08_names fuelN a0.Conds) (fun y9 => cond (!(eqI y9.2 0)) (some (y9.2, (-1), (-1))) (Option.bind (r08_names fuelN y1.2) (fun y12 => cond (!(eqI y12.2 0)) (some (y12.2, y12.1, (-1))) (cond (orB (orB (orB (ltI 8 ((a0.Vars.length : Nat) : Int)) (ltI 4 ((a0.Mutexes.length : Nat) : Int))) (ltI 4 ((a0.Conds.length : Nat) : Int))) (ltI 8 ((a0.Funcs.length : Nat) : Int))) (some (4, (-1), (-1))) (Option.bind (α := Unit ⊕ (Int × Int × Int)) (Option.bind (r08_Check_L1 a0.Vars 0) (fun o => match o with | .inl _ => some (.inl ()) | .inr r85 => some (.inr r85))) (fun o => match o with | .inl _ => Option.bind (α := Unit ⊕ (Int × Int × Int)) (Option.bind (r08_Check_L2 a0 a0.Funcs 0) (fun o => match o with | .inl _ => some (.inl ()) | .inr r181 => some (.inr r181))) (fun o => match o with | .inl _ => Option.bind (r08_threads a0) (fun y182 => some (y182, (-1), (-1))) | .inr r184 => some r184) | .inr r185 => some r185)))))))))))

set_option maxHeartbeats 2000000 in
theorem at_r08_Check {fuelN : Nat} {a0 : Program} {r : Int × Int × Int} (hs : r08_Check fuelN a0 = some r) : At Tryd.prog 66 [.agg [.p (.sl a0.Vars.length (encL a0.Vars)), .p (.sl a0.Mutexes.length (encL a0.Mutexes)), .p (.sl a0.Conds.length (encL a0.Conds)), .p (.sl a0.Funcs.length (encL a0.Funcs)), .p (.sl a0.Threads.length (encL a0.Threads))]] (.tup [iV .i64 r.1, iV .i64 r.2.1, iV .i64 r.2.2]) := by
  refine at_bound (by kernel_rfl) fun hb => ?_
  have hb1 : LenOk (.sl a0.Vars.length (encL a0.Vars)) := hb (.agg [.p (.sl a0.Vars.length (encL a0.Vars)), .p (.sl a0.Mutexes.length (encL a0.Mutexes)), .p (.sl a0.Conds.length (encL a0.Conds)), .p (.sl a0.Funcs.length (encL a0.Funcs)), .p (.sl a0.Threads.length (encL a0.Threads))]) (by simp) (.p (.sl a0.Vars.length (encL a0.Vars))) (by simp)
  have hb2 : LenOk (.sl a0.Mutexes.length (encL a0.Mutexes)) := hb (.agg [.p (.sl a0.Vars.length (encL a0.Vars)), .p (.sl a0.Mutexes.length (encL a0.Mutexes)), .p (.sl a0.Conds.length (encL a0.Conds)), .p (.sl a0.Funcs.length (encL a0.Funcs)), .p (.sl a0.Threads.length (encL a0.Threads))]) (by simp) (.p (.sl a0.Mutexes.length (encL a0.Mutexes))) (by simp)
  have hb3 : LenOk (.sl a0.Conds.length (encL a0.Conds)) := hb (.agg [.p (.sl a0.Vars.length (encL a0.Vars)), .p (.sl a0.Mutexes.length (encL a0.Mutexes)), .p (.sl a0.Conds.length (encL a0.Conds)), .p (.sl a0.Funcs.length (encL a0.Funcs)), .p (.sl a0.Threads.length (encL a0.Threads))]) (by simp) (.p (.sl a0.Conds.length (encL a0.Conds))) (by simp)
  have hb4 : LenOk (.sl a0.Funcs.length (encL a0.Funcs)) := hb (.agg [.p (.sl a0.Vars.length (encL a0.Vars)), .p (.sl a0.Mutexes.length (encL a0.Mutexes)), .p (.sl a0.Conds.length (encL a0.Conds)), .p (.sl a0.Funcs.length (encL a0.Funcs)), .p (.sl a0.Threads.length (encL a0.Threads))]) (by simp) (.p (.sl a0.Funcs.length (encL a0.Funcs))) (by simp)
  have hb5 : LenOk (.sl a0.Threads.length (encL a0.Threads)) := hb (.agg [.p (.sl a0.Vars.length (encL a0.Vars)), .p (.sl a0.Mutexes.length (encL a0.Mutexes)), .p (.sl a0.Conds.length (encL a0.Conds)), .p (.sl a0.Funcs.length (encL a0.Funcs)), .p (.sl a0.Threads.length (encL a0.Threads))]) (by simp) (.p (.sl a0.Threads.length (encL a0.Threads))) (by simp)
  refine at_code mixed Tryd.func66 (by kernel_rfl) rfl (by kernel_rfl) rfl fun Q hQ => ?_
  rw [r08_Check] at hs
  repeat (first | simp | with_reducible first | refine awp_reg ?_ | refine And.intro (by omega) ?_ | refine optF_if (by omega) ?_)
  obtain ⟨y1, hx2, hs⟩ := bindO hs
  try dsimp only at hs
  refine callK_pure (at_r08_lists hx2) (by (first | simp | simp (disch := omega) []); try rfl) (by simp) (by simp) ?_
  repeat (first | simp | with_reducible first | refine awp_reg ?_ | refine And.intro (by omega) ?_ | refine optF_if (by omega) ?_)
  obtain ⟨y3, hx4, hs⟩ := bindO hs
  try dsimp only at hs
  refine callK_pure (at_r08_names hx4) (by (first | simp | simp (disch := omega) []); try rfl) (by simp) (by simp) ?_
  repeat (first | simp | with_reducible first | refine awp_reg ?_ | refine And.intro (by omega) ?_ | refine optF_if (by omega) ?_)
  refine condK_spec (!(eqI y3.2 0)) (by first | rfl | (simp; done) | (simp [andB, orB, eqI, ltI, Int.natCast_inj]; done)) (fun h5 => ?_) (fun h5 => ?_)
  · replace hs := condT h5 hs
    repeat (first | simp | with_reducible first | refine awp_reg ?_ | refine And.intro (by omega) ?_ | refine optF_if (by omega) ?_)
    obtain rfl := Option.some.inj hs
    refine hQ _ _ (ret2g _ (Gh.refl _) (by simp [St.frz, St.pur]; rfl) (by first | rfl | (simp [St.frz, St.pur]; done) | (rw [if_pos (by first | omega | (simp; omega))]; simp [St.frz, St.pur]; first | omega | exact List.take_of_length_le (by simp; omega) | skip)) (by simp))
  · replace hs := condF h5 hs
    repeat (first | simp | with_reducible first | refine awp_reg ?_ | refine And.intro (by omega) ?_ | refine optF_if (by omega) ?_)
    obtain ⟨y6, hx7, hs⟩ := bindO hs
    try dsimp only at hs
    refine callK_pure (at_r08_names hx7) (by (first | simp | simp (disch := omega) []); try rfl) (by simp) (by simp) ?_
    repeat (first | simp | with_reducible first | refine awp_reg ?_ | refine And.intro (by omega) ?_ | refine optF_if (by omega) ?_)
    refine condK_spec (!(eqI y6.2 0)) (by first | rfl | (simp; done) | (simp [andB, orB, eqI, ltI, Int.natCast_inj]; done)) (fun h8 => ?_) (fun h8 => ?_)
    · replace hs := condT h8 hs
      repeat (first | simp | with_reducible first | refine awp_reg ?_ | refine And.intro (by omega) ?_ | refine optF_if (by omega) ?_)
      obtain rfl := Option.some.inj hs
      refine hQ _ _ (ret2g _ (Gh.refl _) (by simp [St.frz, St.pur]; rfl) (by first | rfl | (simp [St.frz, St.pur]; done) | (rw [if_pos (by first | omega | (simp; omega))]; simp [St.frz, St.pur]; first | omega | exact List.take_of_length_le (by simp; omega) | skip)) (by simp))
    · replace hs := condF h8 hs
      repeat (first | simp | with_reducible first | refine awp_reg ?_ | refine And.intro (by omega) ?_ | refine optF_if (by omega) ?_)
      obtain ⟨y9, hx10, hs⟩ := bindO hs
      try dsimp only at hs
      refine callK_pure (at_r08_names hx10) (by (first | simp | simp (disch := omega) []); try rfl) (by simp) (by simp) ?_
      repeat (first | simp | with_reducible first | refine awp_reg ?_ | refine And.intro (by omega) ?_ | refine optF_if (by omega) ?_)
      refine condK_spec (!(eqI y9.2 0)) (by first | rfl | (simp; done) | (simp [andB, orB, eqI, ltI, Int.natCast_inj]; done)) (fun h11 => ?_) (fun h11 => ?_)
      · replace hs := condT h11 hs
        repeat (first | simp | with_reducible first | refine awp_reg ?_ | refine And.intro (by omega) ?_ | refine optF_if (by omega) ?_)
        obtain rfl := Option.some.inj hs
        refine hQ _ _ (ret2g _ (Gh.refl _) (by simp [St.frz, St.pur]; rfl) (by first | rfl | (simp [St.frz, St.pur]; done) | (rw [if_pos (by first | omega | (simp; omega))]; simp [St.frz, St.pur]; first | omega | exact List.take_of_length_le (by simp; omega) | skip)) (by simp))
      · replace hs := condF h11 hs
        repeat (first | simp | with_reducible first | refine awp_reg ?_ | refine And.intro (by omega) ?_ | refine optF_if (by omega) ?_)
        obtain ⟨y12, hx13, hs⟩ := bindO hs
        try dsimp only at hs
        refine callK_pure (at_r08_names hx13) (by (first | simp | simp (disch := omega) []); try rfl) (by simp) (by simp) ?_
        repeat (first | simp | with_reducible first | refine awp_reg ?_ | refine And.intro (by omega) ?_ | refine optF_if (by omega) ?_)
        refine condK_spec (!(eqI y12.2 0)) (by first | rfl | (simp; done) | (simp [andB, orB, eqI, ltI, Int.natCast_inj]; done)) (fun h14 => ?_) (fun h14 => ?_)
        · replace hs := condT h14 hs
          repeat (first | simp | with_reducible first | refine awp_reg ?_ | refine And.intro (by omega) ?_ | refine optF_if (by omega) ?_)
          obtain rfl := Option.some.inj hs
          refine hQ _ _ (ret2g _ (Gh.refl _) (by simp [St.frz, St.pur]; rfl) (by first | rfl | (simp [St.frz, St.pur]; done) | (rw [if_pos (by first | omega | (simp; omega))]; simp [St.frz, St.pur]; first | omega | exact List.take_of_length_le (by simp; omega) | skip)) (by simp))
        · replace hs := condF h14 hs
          repeat (first | simp | with_reducible first | refine awp_reg ?_ | refine And.intro (by omega) ?_ | refine optF_if (by omega) ?_ | refine gsel_pure (by with_unfolding_all rfl) _ (fun hg => by (try simp at hg); first | (simp [hg]; rfl) | (simp; simp only [if_pos hg]; simp; rfl)) ?_)
          refine condK_spec (orB (orB (orB (ltI 8 ((a0.Vars.length : Nat) : Int)) (ltI 4 ((a0.Mutexes.length : Nat) : Int))) (ltI 4 ((a0.Conds.length : Nat) : Int))) (ltI 8 ((a0.Funcs.length : Nat) : Int))) (by first | rfl | (simp; done) | (simp [andB, orB, eqI, ltI, Int.natCast_inj]; done)) (fun h15 => ?_) (fun h15 => ?_)
          · replace hs := condT h15 hs
            repeat (first | simp | with_reducible first | refine awp_reg ?_ | refine And.intro (by omega) ?_ | refine optF_if (by omega) ?_ | refine gsel_pure (by with_unfolding_all rfl) _ (fun hg => by (try simp at hg); first | (simp [hg]; rfl) | (simp; simp only [if_pos hg]; simp; rfl)) ?_)
            obtain rfl := Option.some.inj hs
            refine hQ _ _ (ret2g _ (Gh.refl _) (by simp [St.frz, St.pur]; rfl) (by first | rfl | (simp [St.frz, St.pur]; done) | (rw [if_pos (by first | omega | (simp; omega))]; simp [St.frz, St.pur]; first | omega | exact List.take_of_length_le (by simp; omega) | skip)) (by simp))
          · replace hs := condF h15 hs
            repeat (first | simp [-awp_cond_eq, -awp_block_eq] | with_reducible first | refine awp_reg ?_ | refine And.intro (by omega) ?_ | refine optF_if (by omega) ?_ | refine gsel_pure (by with_unfolding_all rfl) _ (fun hg => by (try simp at hg); first | (simp [hg]; rfl) | (simp; simp only [if_pos hg]; simp; rfl)) ?_)
            obtain ⟨o50, e49, hs⟩ := bindO hs
            try dsimp only at hs
            refine awp_cutK (fun (v : Unit) (σ : St) => some (.inl v) = some o50 ∧ σ.env 1 = .cell (.ref (.o 1 0 0) 0) ∧ σ.hp (.o 1 0 0) = some (.cells [.p (.sl a0.Vars.length (encL a0.Vars)), .p (.sl a0.Mutexes.length (encL a0.Mutexes)), .p (.sl a0.Conds.length (encL a0.Conds)), .p (.sl a0.Funcs.length (encL a0.Funcs)), .p (.sl a0.Threads.length (encL a0.Threads))]) ∧ 12 ≤ σ.gen) (by rfl) (fun Q hK51 hX52 => ?_) (fun v σ3 hp => ?_)
            · repeat (first | simp | with_reducible first | refine awp_reg ?_ | refine And.intro (by omega) ?_ | refine optF_if (by omega) ?_ | refine gsel_pure (by with_unfolding_all rfl) _ (fun hg => by (try simp at hg); first | (simp [hg]; rfl) | (simp; simp only [if_pos hg]; simp; rfl)) ?_)
              obtain ⟨o70, e69, e49⟩ := bindO e49
              try dsimp only at e49
              refine awp_loopW (fun (v : (List Var) × Nat) (σ : St) => r08_Check_L1 v.1 v.2 = some o70 ∧ v.1 = a0.Vars.drop v.2 ∧ σ.env 1 = .cell (.ref (.o 1 0 0) 0) ∧ σ.env 15 = iV .i64 ((v.2 : Nat) : Int) ∧ σ.hp (.o 1 0 0) = some (.cells [.p (.sl a0.Vars.length (encL a0.Vars)), .p (.sl a0.Mutexes.length (encL a0.Mutexes)), .p (.sl a0.Conds.length (encL a0.Conds)), .p (.sl a0.Funcs.length (encL a0.Funcs)), .p (.sl a0.Threads.length (encL a0.Threads))]) ∧ 12 ≤ σ.gen) (fun v => v.1.length) _ (Gh.refl _) (a0.Vars, 0) ⟨e69, by simp, by simp [St.frz, St.pur], by simp [St.frz, St.pur], by simp [St.frz, St.pur], by first | (simp; done) | (simp; omega) | omega⟩ fun v σ6 hp L71 hL72 => ?_
              obtain ⟨q74, k61⟩ := v
              dsimp only at hp hL72
              obtain ⟨e69, hd73, h5_1, h5_15, g5_0, n5_g⟩ := hp
              have n5_0 : ¬ (σ6.gen = 0) := by omega
              rcases q74 with _ | ⟨x79, q75⟩
              · have hlt76 := drop_end hd73
                rw [r08_Check_L1] at e69; try dsimp only at e69
                repeat (first | simp [h5_1, h5_15, g5_0, n5_0] | with_reducible first | refine awp_reg ?_ | refine And.intro (by omega) ?_ | refine optF_if (by omega) ?_)
                refine condK_f (by simp [ltI]; omega) ?_
                obtain rfl := Option.some.inj e69
                try dsimp only at e49
                refine hK51 () _ _ (Gh.refl _) ⟨e49, ?_, ?_, by first | (simp; done) | (simp; omega) | omega⟩ <;> simp [St.frz, St.pur, h5_1, h5_15, g5_0, n5_0]
              · obtain ⟨hx78, hlt76, hd80⟩ := drop_next hd73
                have ew77 := wrap_succ hlt76 (hb1).len
                rw [r08_Check_L1] at e69; try dsimp only at e69
                repeat (first | simp [h5_1, h5_15, g5_0, n5_0, hlt76, ew77] | with_reducible first | refine awp_reg ?_ | refine And.intro (by omega) ?_ | refine optF_if (by omega) ?_)
                refine condK_t (by simp [ltI]; omega) ?_
                have f81 : partCV Tryd.prog 3 (encL a0.Vars) (k61 * 2 + 1) = some (iV .i64 x79.Init) := partCV_enc hx78 (f := 1) (by simp)
                repeat (first | simp [h5_1, h5_15, g5_0, n5_0, hlt76, ew77, f81] | with_reducible first | refine awp_reg ?_ | refine And.intro (by omega) ?_ | refine optF_if (by omega) ?_)
                obtain ⟨y82, hx83, e69⟩ := bindO e69
                try dsimp only at e69
                refine callK_pure (at_r08_value hx83) (by (first | simp [h5_1, h5_15, g5_0, n5_0, hlt76, ew77, f81] | simp (disch := omega) [h5_1, h5_15, g5_0, n5_0, hlt76, ew77, f81]); try rfl) (by simp) (by simp) ?_
                repeat (first | simp [h5_1, h5_15, g5_0, n5_0, hlt76, ew77, f81] | with_reducible first | refine awp_reg ?_ | refine And.intro (by omega) ?_ | refine optF_if (by omega) ?_)
                refine condK_spec (!y82) (by first | rfl | (simp [h5_1, h5_15, g5_0, n5_0, hlt76, ew77, f81]; done) | (simp [andB, orB, eqI, ltI, Int.natCast_inj, h5_1, h5_15, g5_0, n5_0, hlt76, ew77, f81]; done)) (fun h84 => ?_) (fun h84 => ?_)
                · replace e69 := condT h84 e69
                  repeat (first | simp [h5_1, h5_15, g5_0, n5_0, hlt76, ew77, f81] | with_reducible first | refine awp_reg ?_ | refine And.intro (by omega) ?_ | refine optF_if (by omega) ?_)
                  obtain rfl := Option.some.inj e69
                  try dsimp only at e49
                  obtain rfl := Option.some.inj e49
                  try dsimp only at hs
                  refine hX52 _ _ (by simp) ?_
                  repeat (first | simp [h5_1, h5_15, g5_0, n5_0, hlt76, ew77, f81] | with_reducible first | refine awp_reg ?_ | refine And.intro (by omega) ?_ | refine optF_if (by omega) ?_)
                  obtain rfl := Option.some.inj hs
                  refine hQ _ _ (ret2g _ (Gh.refl _) (by simp [St.frz, St.pur, h5_1, h5_15, g5_0, n5_0, hlt76, ew77, f81]; rfl) (by first | rfl | (simp [St.frz, St.pur, h5_1, h5_15, g5_0, n5_0, hlt76, ew77, f81]; done) | (rw [if_pos (by first | omega | (simp; omega))]; simp [St.frz, St.pur, h5_1, h5_15, g5_0, n5_0, hlt76, ew77, f81]; first | omega | exact List.take_of_length_le (by simp; omega) | skip)) (by simp))
                · replace e69 := condF h84 e69
                  repeat (first | simp [h5_1, h5_15, g5_0, n5_0, hlt76, ew77, f81] | with_reducible first | refine awp_reg ?_ | refine And.intro (by omega) ?_ | refine optF_if (by omega) ?_)
                  refine hL72 (q75, (k61 + 1)) _ _ (Gh.refl _) ⟨e69, hd80, ?_, ?_, ?_, by first | (simp; done) | (simp; omega) | omega⟩ (by simp) <;> simp [St.frz, St.pur, h5_1, h5_15, g5_0, n5_0, hlt76, ew77, f81]
            · obtain ⟨e49, h4_1, g4_0, n4_g⟩ := hp
              obtain rfl := Option.some.inj e49
              try dsimp only at hs
              have n4_0 : ¬ (σ3.gen = 0) := by omega
              repeat (first | simp [-awp_cond_eq, -awp_block_eq, h4_1, g4_0, n4_0] | with_reducible first | refine awp_reg ?_ | refine And.intro (by omega) ?_ | refine optF_if (by omega) ?_ | refine gsel_pure (by with_unfolding_all rfl) _ (fun hg => by (try simp at hg); first | (simp [hg, h4_1, g4_0, n4_0]; rfl) | (simp [h4_1, g4_0, n4_0]; simp only [if_pos hg]; simp [h4_1, g4_0, n4_0]; rfl)) ?_)
              obtain ⟨o133, e132, hs⟩ := bindO hs
              try dsimp only at hs
              refine awp_cutK (fun (v : Unit) (σ : St) => some (.inl v) = some o133 ∧ σ.env 1 = .cell (.ref (.o 1 0 0) 0) ∧ σ.hp (.o 1 0 0) = some (.cells [.p (.sl a0.Vars.length (encL a0.Vars)), .p (.sl a0.Mutexes.length (encL a0.Mutexes)), .p (.sl a0.Conds.length (encL a0.Conds)), .p (.sl a0.Funcs.length (encL a0.Funcs)), .p (.sl a0.Threads.length (encL a0.Threads))]) ∧ (σ3.gen + 1) ≤ σ.gen) (by rfl) (fun Q hK134 hX135 => ?_) (fun v σ9 hp => ?_)
              · repeat (first | simp [h4_1, g4_0, n4_0] | with_reducible first | refine awp_reg ?_ | refine And.intro (by omega) ?_ | refine optF_if (by omega) ?_ | refine gsel_pure (by with_unfolding_all rfl) _ (fun hg => by (try simp at hg); first | (simp [hg, h4_1, g4_0, n4_0]; rfl) | (simp [h4_1, g4_0, n4_0]; simp only [if_pos hg]; simp [h4_1, g4_0, n4_0]; rfl)) ?_)
                obtain ⟨o163, e162, e132⟩ := bindO e132
                try dsimp only at e132
                refine awp_loopW (fun (v : (List Func) × Nat) (σ : St) => r08_Check_L2 a0 v.1 v.2 = some o163 ∧ v.1 = a0.Funcs.drop v.2 ∧ σ.env 1 = .cell (.ref (.o 1 0 0) 0) ∧ σ.env 16 = iV .i64 ((v.2 : Nat) : Int) ∧ σ.hp (.o 1 0 0) = some (.cells [.p (.sl a0.Vars.length (encL a0.Vars)), .p (.sl a0.Mutexes.length (encL a0.Mutexes)), .p (.sl a0.Conds.length (encL a0.Conds)), .p (.sl a0.Funcs.length (encL a0.Funcs)), .p (.sl a0.Threads.length (encL a0.Threads))]) ∧ (σ3.gen + 1) ≤ σ.gen) (fun v => v.1.length) _ (Gh.refl _) (a0.Funcs, 0) ⟨e162, by simp, by simp [St.frz, St.pur, h4_1, g4_0, n4_0], by simp [St.frz, St.pur, h4_1, g4_0, n4_0], by simp [St.frz, St.pur, h4_1, g4_0, n4_0], by first | (simp; done) | (simp; omega) | omega⟩ fun v σ12 hp L164 hL165 => ?_
                obtain ⟨q167, k149⟩ := v
                dsimp only at hp hL165
                obtain ⟨e162, hd166, h11_1, h11_16, g11_0, n11_g⟩ := hp
                have n11_0 : ¬ (σ12.gen = 0) := by omega
                rcases q167 with _ | ⟨x172, q168⟩
                · have hlt169 := drop_end hd166
                  rw [r08_Check_L2] at e162; try dsimp only at e162
                  repeat (first | simp [h11_1, h11_16, g11_0, n11_0] | with_reducible first | refine awp_reg ?_ | refine And.intro (by omega) ?_ | refine optF_if (by omega) ?_)
                  refine condK_f (by simp [ltI]; omega) ?_
                  obtain rfl := Option.some.inj e162
                  try dsimp only at e132
                  refine hK134 () _ _ (Gh.refl _) ⟨e132, ?_, ?_, by first | (simp; done) | (simp; omega) | omega⟩ <;> simp [St.frz, St.pur, h11_1, h11_16, g11_0, n11_0]
                · obtain ⟨hx171, hlt169, hd173⟩ := drop_next hd166
                  have ew170 := wrap_succ hlt169 (hb4).len
                  rw [r08_Check_L2] at e162; try dsimp only at e162
                  repeat (first | simp [h11_1, h11_16, g11_0, n11_0, hlt169, ew170] | with_reducible first | refine awp_reg ?_ | refine And.intro (by omega) ?_ | refine optF_if (by omega) ?_)
                  refine condK_t (by simp [ltI]; omega) ?_
                  have f177 : partCV Tryd.prog 24 (encL a0.Funcs) (k149 * 2) = some (.agg [.p (.c (.string x172.Name)), .p (.sl x172.Code.length (encL x172.Code))]) := partCV_enc hx171 (f := 0) (by simp)
                  repeat (first | simp [h11_1, h11_16, g11_0, n11_0, hlt169, ew170, f177] | with_reducible first | refine awp_reg ?_ | refine awp_draw ?_ | refine ord_l (by kernel_rfl) ?_ | refine ord_e (by kernel_rfl) ?_ | refine ord_c (by kernel_rfl) ?_ | refine ord_d (by kernel_rfl) ?_ | refine And.intro (by omega) ?_ | refine optF_if (by omega) ?_)
                  obtain ⟨y178, hx179, e162⟩ := bindO e162
                  try dsimp only at e162
                  refine callK_pure (at_r08_code hx179) (by (first | simp [h11_1, h11_16, g11_0, n11_0, hlt169, ew170, f177] | simp (disch := omega) [h11_1, h11_16, g11_0, n11_0, hlt169, ew170, f177]); try rfl) (by simp) (by simp) ?_
                  repeat (first | simp [h11_1, h11_16, g11_0, n11_0, hlt169, ew170, f177] | with_reducible first | refine awp_reg ?_ | refine awp_draw ?_ | refine ord_l (by kernel_rfl) ?_ | refine ord_e (by kernel_rfl) ?_ | refine ord_c (by kernel_rfl) ?_ | refine ord_d (by kernel_rfl) ?_ | refine And.intro (by omega) ?_ | refine optF_if (by omega) ?_)
                  refine condK_spec (!(eqI y178.1 0)) (by first | rfl | (simp [h11_1, h11_16, g11_0, n11_0, hlt169, ew170, f177]; done) | (simp [andB, orB, eqI, ltI, Int.natCast_inj, h11_1, h11_16, g11_0, n11_0, hlt169, ew170, f177]; done)) (fun h180 => ?_) (fun h180 => ?_)
                  · replace e162 := condT h180 e162
                    repeat (first | simp [h11_1, h11_16, g11_0, n11_0, hlt169, ew170, f177] | with_reducible first | refine awp_reg ?_ | refine awp_draw ?_ | refine ord_l (by kernel_rfl) ?_ | refine ord_e (by kernel_rfl) ?_ | refine ord_c (by kernel_rfl) ?_ | refine ord_d (by kernel_rfl) ?_ | refine And.intro (by omega) ?_ | refine optF_if (by omega) ?_)
                    obtain rfl := Option.some.inj e162
                    try dsimp only at e132
                    obtain rfl := Option.some.inj e132
                    try dsimp only at hs
                    refine hX135 _ _ (by simp) ?_
                    repeat (first | simp [h11_1, h11_16, g11_0, n11_0, hlt169, ew170, f177] | with_reducible first | refine awp_reg ?_ | refine awp_draw ?_ | refine ord_l (by kernel_rfl) ?_ | refine ord_e (by kernel_rfl) ?_ | refine ord_c (by kernel_rfl) ?_ | refine ord_d (by kernel_rfl) ?_ | refine And.intro (by omega) ?_ | refine optF_if (by omega) ?_)
                    obtain rfl := Option.some.inj hs
                    refine hQ _ _ (ret2g _ (Gh.refl _) (by simp [St.frz, St.pur, h11_1, h11_16, g11_0, n11_0, hlt169, ew170, f177]; rfl) (by first | rfl | (simp [St.frz, St.pur, h11_1, h11_16, g11_0, n11_0, hlt169, ew170, f177]; done) | (rw [if_pos (by first | omega | (simp; omega))]; simp [St.frz, St.pur, h11_1, h11_16, g11_0, n11_0, hlt169, ew170, f177]; first | omega | exact List.take_of_length_le (by simp; omega) | skip)) (by simp))
                  · replace e162 := condF h180 e162
                    repeat (first | simp [h11_1, h11_16, g11_0, n11_0, hlt169, ew170, f177] | with_reducible first | refine awp_reg ?_ | refine awp_draw ?_ | refine ord_l (by kernel_rfl) ?_ | refine ord_e (by kernel_rfl) ?_ | refine ord_c (by kernel_rfl) ?_ | refine ord_d (by kernel_rfl) ?_ | refine And.intro (by omega) ?_ | refine optF_if (by omega) ?_)
                    refine hL165 (q168, (k149 + 1)) _ _ (Gh.refl _) ⟨e162, hd173, ?_, ?_, ?_, by first | (simp; done) | (simp; omega) | omega⟩ (by simp) <;> simp [St.frz, St.pur, h11_1, h11_16, g11_0, n11_0, hlt169, ew170, f177]
              · obtain ⟨e132, h10_1, g10_0, n10_g⟩ := hp
                obtain rfl := Option.some.inj e132
                try dsimp only at hs
                have n10_0 : ¬ (σ9.gen = 0) := by omega
                repeat (first | simp [h10_1, g10_0, n10_0] | with_reducible first | refine awp_reg ?_ | refine And.intro (by omega) ?_ | refine optF_if (by omega) ?_ | refine gsel_pure (by with_unfolding_all rfl) _ (fun hg => by (try simp at hg); first | (simp [hg, h10_1, g10_0, n10_0]; rfl) | (simp [h10_1, g10_0, n10_0]; simp only [if_pos hg]; simp [h10_1, g10_0, n10_0]; rfl)) ?_)
                obtain ⟨y182, hx183, hs⟩ := bindO hs
                try dsimp only at hs
                refine callK_pure (at_r08_threads hx183) (by (first | simp [h10_1, g10_0, n10_0] | simp (disch := omega) [h10_1, g10_0, n10_0]); try rfl) (by simp) (by simp) ?_
                repeat (first | simp [h10_1, g10_0, n10_0] | with_reducible first | refine awp_reg ?_ | refine And.intro (by omega) ?_ | refine optF_if (by omega) ?_ | refine gsel_pure (by with_unfolding_all rfl) _ (fun hg => by (try simp at hg); first | (simp [hg, h10_1, g10_0, n10_0]; rfl) | (simp [h10_1, g10_0, n10_0]; simp only [if_pos hg]; simp [h10_1, g10_0, n10_0]; rfl)) ?_)
                obtain rfl := Option.some.inj hs
                refine hQ _ _ (ret2g _ (Gh.refl _) (by simp [St.frz, St.pur, h10_1, g10_0, n10_0]; rfl) (by first | rfl | (simp [St.frz, St.pur, h10_1, g10_0, n10_0]; done) | (rw [if_pos (by first | omega | (simp; omega))]; simp [St.frz, St.pur, h10_1, g10_0, n10_0]; first | omega | exact List.take_of_length_le (by simp; omega) | skip)) (by simp))
end Go.Dc
end
section
set_option linter.all false
namespace Go.Dc.Pl
open Go Go.Hw Go.Dc
set_option maxRecDepth 100000
theorem obj_ex (p : Program) (x : Inst) : ∃ y e, program_objects p x.Op = some y ∧ r08_exists p x = some e ∧ (!e) = orB (andB (!(ltI y 0)) (orB (ltI x.Obj 0) (!(ltI x.Obj y)))) (andB (eqI x.Op 18) (orB (ltI x.N 0) (!(ltI x.N ((p.Mutexes.length : Nat) : Int))))) := by
  simp only [program_objects, r08_exists]
  generalize x.Op = op
  have hn : ∀ n : Nat, (!andB (!ltI x.Obj 0) (ltI x.Obj (n : Int))) = andB (!ltI (n : Int) 0) (orB (ltI x.Obj 0) (!ltI x.Obj (n : Int))) := fun n => by simp [andB_d, orB_d, ltI_d]
  have hz : ∀ n : Nat, ltI (n : Int) 0 = false := fun n => by simp [ltI_d]
  by_cases h8 : op = 8; · subst h8; exact ⟨_, _, rfl, rfl, by simp [hn, hz, andB_d, orB_d, eqI_d]⟩
  by_cases h9 : op = 9; · subst h9; exact ⟨_, _, rfl, rfl, by simp [hn, hz, andB_d, orB_d, eqI_d]⟩
  by_cases h10 : op = 10; · subst h10; exact ⟨_, _, rfl, rfl, by simp [hn, hz, andB_d, orB_d, eqI_d]⟩
  by_cases h11 : op = 11; · subst h11; exact ⟨_, _, rfl, rfl, by simp [hn, hz, andB_d, orB_d, eqI_d]⟩
  by_cases h12 : op = 12; · subst h12; exact ⟨_, _, rfl, rfl, by simp [hn, hz, andB_d, orB_d, eqI_d]⟩
  by_cases h14 : op = 14; · subst h14; exact ⟨_, _, rfl, rfl, by simp [hn, hz, andB_d, orB_d, eqI_d]⟩
  by_cases h15 : op = 15; · subst h15; exact ⟨_, _, rfl, rfl, by simp [hn, hz, andB_d, orB_d, eqI_d]⟩
  by_cases h16 : op = 16; · subst h16; exact ⟨_, _, rfl, rfl, by simp [hn, hz, andB_d, orB_d, eqI_d]⟩
  by_cases h17 : op = 17; · subst h17; exact ⟨_, _, rfl, rfl, by simp [hn, hz, andB_d, orB_d, eqI_d]⟩
  by_cases h18 : op = 18
  · subst h18
    cases h : orB (ltI x.N 0) (!(ltI x.N ((p.Mutexes.length : Nat) : Int)))
    · exact ⟨_, _, rfl, rfl, by simp [hn, hz, andB_d, orB_d, eqI_d]⟩
    · exact ⟨_, _, rfl, rfl, by simp [hn, hz, andB_d, orB_d, eqI_d]⟩
  by_cases h19 : op = 19; · subst h19; exact ⟨_, _, rfl, rfl, by simp [hn, hz, andB_d, orB_d, eqI_d]⟩
  by_cases h20 : op = 20; · subst h20; exact ⟨_, _, rfl, rfl, by simp [hn, hz, andB_d, orB_d, eqI_d]⟩
  by_cases h21 : op = 21; · subst h21; exact ⟨_, _, rfl, rfl, by simp [hn, hz, andB_d, orB_d, eqI_d]⟩
  simp only [eqI_d, h8, h9, h10, h11, h12, h14, h15, h16, h17, h18, h19, h20, h21, decide_false, cond_false, Option.bind_some]
  exact ⟨_, _, rfl, rfl, by simp [andB_d, orB_d, ltI_d]⟩
def exs (p : Program) (x : Inst) : Bool := (r08_exists p x).getD false
def ci (p : Program) (x : Inst) (n : Nat) : Int := cond (!(eqI (icode x) 0)) (icode x) (cond (!(exs p x)) 11 (cond (andB (orB (eqI x.Op 4) (eqI x.Op 5)) (orB (ltI x.N 0) (ltI (n : Int) x.N))) 12 0))
theorem own_inst (fuel : Nat) (p : Program) (x : Inst) (n : Nat) : program_checkInst (fuel + 8) p x (n : Int) = some (ci p x n) := by
  obtain ⟨y, e, h1, h2, h3⟩ := obj_ex p x
  rw [program_checkInst, (check_eq fuel x).1, Option.bind_some, h1, Option.bind_some, ci, exs, h2]
  cases !(eqI (icode x) 0)
  · simp only [cond_false, Option.getD_some, h3]
    cases andB (!(ltI y 0)) (orB (ltI x.Obj 0) (!(ltI x.Obj y)))
    · cases andB (eqI x.Op 18) (orB (ltI x.N 0) (!(ltI x.N ((p.Mutexes.length : Nat) : Int))))
      · cases andB (orB (eqI x.Op 4) (eqI x.Op 5)) (orB (ltI x.N 0) (ltI (n : Int) x.N)) <;> rfl
      · rfl
    · rfl
  · rfl
/-- The first instruction of a function that is wrong. -/
def cI (p : Program) (n j : Nat) (x : Inst) : Option (Int × Int) := onlyIf (!(eqI (ci p x n) 0)) (ci p x n, (j : Int))
def cF (p : Program) (k : Nat) (f : Func) : Option (Int × Int × Int) := cond (ltI 64 ((f.Code.length : Nat) : Int)) (some (4, (k : Int), -1)) ((first (cI p f.Code.length) f.Code 0).map fun r => (r.1, (k : Int), r.2))
theorem ref_code (p : Program) (f : Func) : r08_code p f = some (cond (ltI 64 ((f.Code.length : Nat) : Int)) (4, -1) ((first (cI p f.Code.length) f.Code 0).getD (0, -1))) := by
  rw [r08_code]
  cases ltI 64 ((f.Code.length : Nat) : Int)
  · have h := srch (L := r08_code_L1 p f) (cI p f.Code.length) (fun _ => rfl) f.Code 0 fun j x hx q => by
      obtain ⟨y, e, h1, h2, h3⟩ := obj_ex p x
      rw [Nat.zero_add, r08_code_L1, (check_eq 0 x).2, Option.bind_some, h2, Option.bind_some, cI, ci, exs, h2]
      cases hc : !(eqI (icode x) 0)
      · simp only [cond_false, Option.getD_some]
        cases e
        · rfl
        · cases andB (orB (eqI x.Op 4) (eqI x.Op 5)) (orB (ltI x.N 0) (ltI ((f.Code.length : Nat) : Int) x.N)) <;> rfl
      · simp [hc]
    rw [cond_false, h]
    cases first (cI p f.Code.length) f.Code 0 <;> rfl
  · rfl
theorem cI_ne {p : Program} {n : Nat} : ∀ (l : List Inst) (k : Nat) {r : Int × Int}, first (cI p n) l k = some r → eqI r.1 0 = false
  | [], _, _, h => by cases h
  | x :: q, k, r, h => by
    rw [first_cons, cI] at h
    cases hc : !(eqI (ci p x n) 0)
    · rw [hc] at h; exact cI_ne q _ h
    · rw [hc] at h; obtain rfl := Option.some.inj h; simpa using hc
theorem cF_ne {p : Program} {k : Nat} {f : Func} {r : Int × Int × Int} (h : cF p k f = some r) : eqI r.1 0 = false := by
  rw [cF] at h
  cases hb : ltI 64 ((f.Code.length : Nat) : Int)
  · rw [hb, cond_false, Option.map_eq_some_iff] at h
    obtain ⟨y, hy, rfl⟩ := h
    exact cI_ne _ _ hy
  · rw [hb] at h; obtain rfl := Option.some.inj h; rfl
theorem first_ne {α : Type} {f : Nat → α → Option (Int × Int × Int)} (hf : ∀ k x r, f k x = some r → eqI r.1 0 = false) : ∀ (l : List α) (k : Nat) {r}, first f l k = some r → eqI r.1 0 = false
  | [], _, _, h => by cases h
  | x :: q, k, r, h => by
    rw [first_cons] at h
    cases hc : f k x with
    | none => rw [hc] at h; exact first_ne hf q _ h
    | some y => rw [hc] at h; obtain rfl := Option.some.inj h; exact hf _ _ _ hc
theorem ref_funcs (p : Program) (l : List Func) : r08_Check_L2 p l 0 = some (toS (first (cF p) l 0)) := by
  refine srch (L := r08_Check_L2 p) (cF p) (fun _ => rfl) l 0 fun j x hx q => ?_
  rw [Nat.zero_add, r08_Check_L2, ref_code, Option.bind_some, cF]
  cases ltI 64 ((x.Code.length : Nat) : Int)
  · simp only [cond_false]
    cases h : first (cI p x.Code.length) x.Code 0 with
    | none => rfl
    | some r => have := cI_ne _ _ h; simp [this]
  · rfl
end Go.Dc.Pl
end
section
set_option linter.all false
namespace Go.Dc.Pl
open Go Go.Hw Go.Dc
set_option maxRecDepth 100000
def bigF (k : Nat) (f : Func) : Option Int := onlyIf (ltI 64 ((f.Code.length : Nat) : Int)) (k : Int)
theorem big_ge : ∀ (l : List Func) (k : Nat) {r : Int}, first bigF l k = some r → (k : Int) ≤ r
  | [], _, _, h => by cases h
  | x :: q, k, r, h => by
    rw [first_cons, bigF] at h
    cases hp : ltI 64 ((x.Code.length : Nat) : Int)
    · rw [hp] at h; have := big_ge q _ h; omega
    · rw [hp] at h; obtain rfl := Option.some.inj h; omega
theorem own_big (l : List Func) : slices_IndexFunc_api_Func_program_checkCode_1 l = some ((first bigF l 0).getD (-1)) := by
  have h := srch (L := slices_IndexFunc_api_Func_program_checkCode_1_L1) bigF (fun _ => rfl) l 0 fun j x hx q => by rw [slices_IndexFunc_api_Func_program_checkCode_1_L1]; exact step_only _ _ _
  rw [slices_IndexFunc_api_Func_program_checkCode_1, h]
  cases first bigF l 0 <;> rfl
theorem own_code1 {fuel : Nat} {p : Program} {y : Int} {k : Nat} {f : Func} (hf : p.Funcs[k]? = some f) (hy : eqI (k : Int) y = false) (rest : List (ProgramPlace × Inst)) : ∀ (q : List Inst) (j : Nat),
    program_checkCode_L1 (fuel + 8) p y (insC k j q ++ rest) = match first (cI p f.Code.length) q j with | some r => some (.inr (.inr (r.1, ({ fn := (k : Int), inst := r.2 } : ProgramPlace)))) | none => program_checkCode_L1 (fuel + 8) p y rest
  | [], j => rfl
  | x :: q, j => by
    rw [insC, List.cons_append, program_checkCode_L1, hy, cond_false, getI_nat, hf, Option.bind_some, own_inst, Option.bind_some, first_cons, cI]
    cases !(eqI (ci p x f.Code.length) 0)
    · exact own_code1 hf hy rest q (j + 1)
    · rfl
def finC (y : Int) (o : Unit ⊕ (Unit ⊕ (Int × ProgramPlace))) : Option (Int × ProgramPlace) := match o with
  | .inl _ => cond (!(ltI y 0)) (some (4, ({ fn := y, inst := -1 } : ProgramPlace))) (some (0, ({ fn := -1, inst := -1 } : ProgramPlace)))
  | .inr (.inl _) => cond (!(ltI y 0)) (some (4, ({ fn := y, inst := -1 } : ProgramPlace))) (some (0, ({ fn := -1, inst := -1 } : ProgramPlace)))
  | .inr (.inr r) => some r
def plc (r : Int × Int × Int) : Int × ProgramPlace := (r.1, { fn := r.2.1, inst := r.2.2 })
theorem own_code2 {fuel : Nat} {p : Program} {y : Int} : ∀ (l : List Func) (k : Nat), l = p.Funcs.drop k → y = (first bigF l k).getD (-1) → 
    Option.bind (program_checkCode_L1 (fuel + 8) p y (insF k l)) (finC y) = some (plc ((first (cF p) l k).getD (0, -1, -1)))
  | [], k, hd, hy => by subst hy; rfl
  | f :: l, k, hd, hy => by
    obtain ⟨hf, hk, hr⟩ := drop_next hd
    rw [first_cons, cF]
    cases hb : ltI 64 ((f.Code.length : Nat) : Int)
    · have hy2 : y = (first bigF l (k + 1)).getD (-1) := by rw [hy, first_cons, bigF, hb]; rfl
      have hne : eqI (k : Int) y = false := by
        rw [hy2, eqI_d]
        cases h : first bigF l (k + 1) with
        | none => simp
        | some r => have := big_ge _ _ h; simp; omega
      rw [insF, own_code1 hf hne, cond_false]
      cases h : first (cI p f.Code.length) f.Code 0 with
      | none => exact own_code2 l (k + 1) hr hy2
      | some r => rfl
    · have hy2 : y = (k : Int) := by rw [hy, first_cons, bigF, hb]; rfl
      subst hy2
      obtain ⟨x, q, hx⟩ : ∃ x q, f.Code = x :: q := by
        cases hc : f.Code with
        | nil => rw [hc] at hb; cases hb
        | cons x q => exact ⟨x, q, rfl⟩
      rw [insF, hx, insC, List.cons_append, program_checkCode_L1, show eqI ((k : Nat) : Int) (k : Int) = true by simp [eqI], cond_true, Option.bind_some]
      simp only [finC]
      rw [show ltI (k : Int) 0 = false by simp [ltI_d]]; rfl
theorem own_code {fuel : Nat} {p : Program} (h1 : p.Funcs.length ≤ 20) (h2 : ∀ f ∈ p.Funcs, f.Code.length ≤ 100) : program_checkCode (fuel + 8) p = some (plc ((first (cF p) p.Funcs 0).getD (0, -1, -1))) := by
  have hg : (lenB p.Funcs.length && p.Funcs.all fun f => lenB f.Code.length) = true := by
    simp only [Bool.and_eq_true, List.all_eq_true, lenB_d, decide_eq_true_eq]; exact ⟨by omega, fun f hf => by have := h2 f hf; omega⟩
  rw [program_checkCode, own_big, Option.bind_some, program_instructions, Option.bind_some, it_instructions, hg, guardO_t, Option.bind_some, ← own_code2 (fuel := fuel) p.Funcs 0 rfl rfl]
  rfl
/-- Names of a program: the first that is wrong. -/
def ckN (p : Program) : Option (Int × Int) := match badName (p.Vars.map Var.Name) with
  | some r => some (r.1, -1)
  | none => match badName p.Mutexes with
    | some r => some (r.1, -1)
    | none => match badName p.Conds with
      | some r => some (r.1, -1)
      | none => badName (p.Funcs.map Func.Name)
theorem e00 : eqI 0 0 = true := rfl
theorem badName_ne {l : List ByteArray} {r : Int × Int} (h : badName l = some r) : eqI r.1 0 = false := by
  obtain ⟨j, x, _, h⟩ := first_some h
  rw [nmF] at h
  split at h
  · obtain rfl := Option.some.inj h; rfl
  · cases hc : (List.take (0 + j) l).any (eqS x)
    · rw [hc] at h; cases h
    · rw [hc] at h; obtain rfl := Option.some.inj h; rfl
theorem own_varNames {p : Program} (h : p.Vars.length ≤ 20) : program_varNames p = some (p.Vars.map Var.Name) := by
  rw [program_varNames, appM (L := program_varNames_L1) (b := 16) (m := 20) Var.Name (by decide) (fun _ _ => rfl) (fun x q a k => by rw [program_varNames_L1]; rfl) p.Vars [] 0 (by simpa using h)]; rfl
theorem own_funcNames {p : Program} (h : p.Funcs.length ≤ 20) : program_funcNames p = some (p.Funcs.map Func.Name) := by
  rw [program_funcNames, appM (L := program_funcNames_L1) (b := 16) (m := 20) Func.Name (by decide) (fun _ _ => rfl) (fun x q a k => by rw [program_funcNames_L1]; rfl) p.Funcs [] 0 (by simpa using h)]; rfl
theorem ref_lists {p : Program} (h : p.Vars.length ≤ 20) (h2 : p.Funcs.length ≤ 20) : r08_lists p = some (p.Vars.map Var.Name, p.Funcs.map Func.Name) := by
  rw [r08_lists, appM (L := r08_lists_L1) (b := 16) (m := 20) Var.Name (by decide) (fun _ _ => rfl) (fun x q a k => by rw [r08_lists_L1]; rfl) p.Vars [] 0 (by simpa using h),
    appM (L := r08_lists_L2) (b := 16) (m := 20) Func.Name (by decide) (fun _ _ => rfl) (fun x q a k => by rw [r08_lists_L2]; rfl) p.Funcs [] 0 (by simpa using h2)]; rfl
theorem own_ckNames {p : Program} (h : p.Vars.length ≤ 20) (h2 : p.Funcs.length ≤ 20) : program_checkNames p = some (match ckN p with | some r => (r.1, { fn := r.2, inst := -1 }) | none => (0, { fn := -1, inst := -1 })) := by
  rw [program_checkNames, own_varNames h, Option.bind_some, Option.bind_some, show lenB [p.Vars.map Var.Name, p.Mutexes, p.Conds].length = true from rfl, guardO_t]
  simp only [program_checkNames_L1, own_names, Option.bind_some, ckN, own_funcNames h2]
  cases hv : badName (p.Vars.map Var.Name) with
  | some r => have := badName_ne hv; simp [this]
  | none =>
    cases hm : badName p.Mutexes with
    | some r => have := badName_ne hm; simp [this, e00]
    | none =>
      cases hc : badName p.Conds with
      | some r => have := badName_ne hc; simp [this, e00]
      | none => cases hf : badName (p.Funcs.map Func.Name) <;> simp [e00]
def limP (p : Program) : Bool := orB (orB (orB (ltI 8 ((p.Vars.length : Nat) : Int)) (ltI 4 ((p.Mutexes.length : Nat) : Int))) (ltI 4 ((p.Conds.length : Nat) : Int))) (ltI 8 ((p.Funcs.length : Nat) : Int))
def badV (n : Int) : Bool := !(andB (!(ltI n (-2147483648))) (!(ltI 2147483647 n)))
def ckO (p : Program) : Int := cond (limP p) 4 (cond (p.Vars.any fun v => badV v.Init) 2 0)
theorem own_objs (p : Program) : program_checkObjects p = some (ckO p, { fn := -1, inst := -1 }) := by
  have h := srch (L := program_checkObjects_L1) (fun _ (v : Var) => onlyIf (badV v.Init) ((2 : Int), ({ fn := -1, inst := -1 } : ProgramPlace))) (fun _ => rfl) p.Vars 0 fun j x hx q => by
    rw [program_checkObjects_L1, program_value, Option.bind_some]; exact step_only _ _ _
  rw [first_onlyC] at h
  rw [program_checkObjects, h, ckO, limP]
  cases orB (orB (orB (ltI 8 ((p.Vars.length : Nat) : Int)) (ltI 4 ((p.Mutexes.length : Nat) : Int))) (ltI 4 ((p.Conds.length : Nat) : Int))) (ltI 8 ((p.Funcs.length : Nat) : Int))
  · cases p.Vars.any fun v => badV v.Init <;> rfl
  · rfl
def thF (p : Program) (x : Start) : Option Int := cond (orB (ltI x.Func 0) (!(ltI x.Func ((p.Funcs.length : Nat) : Int)))) (some 11) (onlyIf (badV x.Arg) 2)
def ckT (p : Program) : Int := cond (orB (ltI ((p.Threads.length : Nat) : Int) 1) (ltI 8 ((p.Threads.length : Nat) : Int))) 4 ((first (fun _ => thF p) p.Threads 0).getD 0)
theorem own_threads (p : Program) : program_checkThreads p = some (ckT p, { fn := -1, inst := -1 }) := by
  have h := srch (L := program_checkThreads_L1 p) (fun _ x => (thF p x).map fun r => (r, ({ fn := -1, inst := -1 } : ProgramPlace))) (fun _ => rfl) p.Threads 0 fun j x hx q => by
    rw [program_checkThreads_L1, program_value, Option.bind_some, thF]
    cases orB (ltI x.Func 0) (!(ltI x.Func ((p.Funcs.length : Nat) : Int)))
    · show cond (badV x.Arg) _ _ = _
      cases badV x.Arg <;> rfl
    · rfl
  rw [first_map (h := fun _ => thF p) (g := fun r => (r, ({ fn := -1, inst := -1 } : ProgramPlace))) _ _ (fun _ _ => rfl)] at h
  rw [program_checkThreads, h, ckT]
  cases orB (ltI ((p.Threads.length : Nat) : Int) 1) (ltI 8 ((p.Threads.length : Nat) : Int))
  · cases first (fun _ => thF p) p.Threads 0 <;> rfl
  · rfl
theorem ref_threads (p : Program) : r08_threads p = some (ckT p) := by
  have h := srch (L := r08_threads_L1 p) (fun _ x => thF p x) (fun _ => rfl) p.Threads 0 fun j x hx q => by
    rw [r08_threads_L1, r08_value, Option.bind_some, thF]
    cases orB (ltI x.Func 0) (!(ltI x.Func ((p.Funcs.length : Nat) : Int)))
    · show cond (badV x.Arg) _ _ = _
      cases badV x.Arg <;> rfl
    · rfl
  rw [r08_threads, h, ckT]
  cases orB (ltI ((p.Threads.length : Nat) : Int) 1) (ltI 8 ((p.Threads.length : Nat) : Int))
  · cases first (fun _ => thF p) p.Threads 0 <;> rfl
  · rfl
/-- What both checks answer. -/
def chk (p : Program) : Int × Int × Int := match ckN p with
  | some r => (r.1, r.2, -1)
  | none => cond (!(eqI (ckO p) 0)) (ckO p, -1, -1) (match first (cF p) p.Funcs 0 with | some r => r | none => (ckT p, -1, -1))
theorem own_check {fuel : Nat} {p : Program} (h : small p = true) : program_Check (fuel + 8) p = some (chk p) := by
  obtain ⟨s1, s2, s3, s4, s5, s6⟩ := small_t h
  rw [program_Check, own_ckNames s1 s4, Option.bind_some, own_objs, own_code s4 s6, own_threads, chk]
  cases hn : ckN p with
  | some r =>
    have : eqI r.1 0 = false := by
      rw [ckN] at hn
      split at hn
      · rename_i hb; obtain rfl := Option.some.inj hn; have := badName_ne hb; exact this
      · split at hn
        · rename_i hb; obtain rfl := Option.some.inj hn; have := badName_ne hb; exact this
        · split at hn
          · rename_i hb; obtain rfl := Option.some.inj hn; have := badName_ne hb; exact this
          · exact badName_ne hn
    simp [this]
  | none =>
    simp only [show eqI 0 0 = true from rfl, cond_true, Option.bind_some]
    cases ho : eqI (ckO p) 0
    · simp [ho]
    · cases hf : first (cF p) p.Funcs 0 with
      | some r => have := first_ne (fun k x r h => cF_ne h) _ _ hf; simp [plc, this]
      | none =>
        simp only [Option.getD_none, plc, show eqI 0 0 = true from rfl, cond_true, Option.bind_some, Bool.not_true, cond_false]
        cases ht : eqI (ckT p) 0
        · rfl
        · have : ckT p = 0 := by simpa [eqI] using ht
          simp [this]
theorem ref_check {fuel : Nat} {p : Program} (h : small p = true) (hf : 21 ≤ fuel) : r08_Check fuel p = some (chk p) := by
  obtain ⟨s1, s2, s3, s4, s5, s6⟩ := small_t h
  have hv := srch (L := r08_Check_L1) (fun _ (v : Var) => onlyIf (badV v.Init) ((2 : Int), (-1 : Int), (-1 : Int))) (fun _ => rfl) p.Vars 0 fun j x hx q => by
    rw [r08_Check_L1, r08_value, Option.bind_some]; exact step_only _ _ _
  rw [first_onlyC] at hv
  rw [r08_Check, ref_lists s1 s4, Option.bind_some, ref_names (by simp; omega) (by simp; omega), Option.bind_some, ref_names (by omega) (by omega), Option.bind_some, ref_names (by omega) (by omega), Option.bind_some, ref_names (by simp; omega) (by simp; omega), Option.bind_some, hv, ref_funcs, ref_threads, chk, ckN]
  cases hv : badName (p.Vars.map Var.Name) with
  | some r => have := badName_ne hv; simp [this]
  | none =>
    cases hm : badName p.Mutexes with
    | some r => have := badName_ne hm; simp [this, e00]
    | none =>
      cases hc : badName p.Conds with
      | some r => have := badName_ne hc; simp [this, e00]
      | none =>
        cases hf : badName (p.Funcs.map Func.Name) with
        | some r => have := badName_ne hf; simp [this, e00]
        | none =>
          simp only [show (!(eqI 0 0)) = false from rfl, cond_false, ckO]
          show cond (limP p) _ _ = _
          cases limP p
          · cases p.Vars.any fun v => badV v.Init
            · cases hf : first (cF p) p.Funcs 0 with
              | some r => rfl
              | none => rfl
            · rfl
          · rfl
end Go.Dc.Pl
end
section
set_option linter.all false
namespace Go.Dc
open Go Go.Hw Go.Proofs
set_option maxRecDepth 100000

def await_spins_1 (a0 : Inst) (a1 : Inst) (a2 : Inst) (a3 : Int) : Option Bool :=
  some (andB (andB (andB (andB (eqI a0.Op 8) (eqI a1.Op 3)) (eqI a2.Op 5)) (eqI a2.B a1.A)) (eqI a2.N a3))

set_option maxHeartbeats 2000000 in
theorem at_await_spins_1 {a0 : Inst} {a1 : Inst} {a2 : Inst} {a3 : Int} {r : Bool} (hs : await_spins_1 a0 a1 a2 a3 = some r) : At Tryd.prog 87 [.cell (.ep [.c (.int .i64 a0.Op), .c (.int .i64 a0.A), .c (.int .i64 a0.B), .c (.int .i64 a0.C), .c (.int .i64 a0.Obj), .c (.int .i64 a0.N), .c (.int .i64 a0.Fn), .c (.int .i64 a0.Order)] 0), .cell (.ep [.c (.int .i64 a1.Op), .c (.int .i64 a1.A), .c (.int .i64 a1.B), .c (.int .i64 a1.C), .c (.int .i64 a1.Obj), .c (.int .i64 a1.N), .c (.int .i64 a1.Fn), .c (.int .i64 a1.Order)] 0), .cell (.ep [.c (.int .i64 a2.Op), .c (.int .i64 a2.A), .c (.int .i64 a2.B), .c (.int .i64 a2.C), .c (.int .i64 a2.Obj), .c (.int .i64 a2.N), .c (.int .i64 a2.Fn), .c (.int .i64 a2.Order)] 0), .cell (.ep [.c (.int .i64 a3)] 0)] (bV r) := by
  refine at_bound (by kernel_rfl) fun hb => ?_
  refine at_code mixed Tryd.func87 (by kernel_rfl) rfl (by kernel_rfl) rfl fun Q hQ => ?_
  rw [await_spins_1] at hs
  repeat (first | simp | with_reducible first | refine awp_reg ?_ | refine gsel_pure (by with_unfolding_all rfl) _ (fun hg => by (try simp at hg); first | (simp [hg]; rfl) | (simp; simp only [if_pos hg]; simp; rfl)) ?_)
  obtain rfl := Option.some.inj hs
  refine hQ _ _ (ret2g _ (Gh.refl _) (by simp [St.frz, St.pur]; rfl) (by first | rfl | (simp [St.frz, St.pur]; done) | (rw [if_pos (by first | omega | (simp; omega))]; simp [St.frz, St.pur]; first | omega | exact List.take_of_length_le (by simp; omega) | skip)) (by simp))
end Go.Dc
end
section
set_option linter.all false
namespace Go.Dc
open Go Go.Hw Go.Proofs
set_option maxRecDepth 100000

def await_spins_2 (a0 : Inst) (a1 : Int) (a2 : Int) : Option Bool :=
  some (andB (andB (!(eqB (eqI a0.B a1) (eqI a0.C a1))) (!(eqI a2 a0.A))) (orB (orB (eqI a0.Fn 7) (eqI a0.Fn 8)) (andB (eqI a0.C a1) (orB (eqI a0.Fn 9) (eqI a0.Fn 10)))))

set_option maxHeartbeats 2000000 in
theorem at_await_spins_2 {a0 : Inst} {a1 : Int} {a2 : Int} {r : Bool} (hs : await_spins_2 a0 a1 a2 = some r) : At Tryd.prog 88 [.cell (.ep [.c (.int .i64 a0.Op), .c (.int .i64 a0.A), .c (.int .i64 a0.B), .c (.int .i64 a0.C), .c (.int .i64 a0.Obj), .c (.int .i64 a0.N), .c (.int .i64 a0.Fn), .c (.int .i64 a0.Order)] 0), .cell (.ep [.c (.int .i64 a1)] 0), .cell (.ep [.c (.int .i64 a2)] 0)] (bV r) := by
  refine at_bound (by kernel_rfl) fun hb => ?_
  refine at_code mixed Tryd.func88 (by kernel_rfl) rfl (by kernel_rfl) rfl fun Q hQ => ?_
  rw [await_spins_2] at hs
  repeat (first | simp | with_reducible first | refine awp_reg ?_ | refine gsel_pure (by with_unfolding_all rfl) _ (fun hg => by (try simp at hg); first | (simp [hg]; rfl) | (simp; simp only [if_pos hg]; simp; rfl)) ?_)
  obtain rfl := Option.some.inj hs
  refine hQ _ _ (ret2g _ (Gh.refl _) (by simp [St.frz, St.pur]; rfl) (by first | rfl | (simp [St.frz, St.pur]; done) | (rw [if_pos (by first | omega | (simp; omega))]; simp [St.frz, St.pur]; first | omega | exact List.take_of_length_le (by simp; omega) | skip)) (by simp))
end Go.Dc
end
section
set_option linter.all false
namespace Go.Dc
open Go Go.Hw Go.Proofs
set_option maxRecDepth 100000
def await_targeted_L1 (a1 : Int) : List Inst → Nat → Option (Unit ⊕ Bool)
  | [], k38 => some (.inl ())
  | x54 :: q50, k38 => cond (andB (orB (eqI x54.Op 4) (eqI x54.Op 5)) (eqI x54.N a1)) (some (.inr true)) (await_targeted_L1 a1 q50 (k38 + 1))

def await_targeted (a0 : Func) (a1 : Int) : Option Bool :=
  Option.bind (α := Unit ⊕ Bool) (Option.bind (await_targeted_L1 a1 a0.Code 0) (fun o => match o with | .inl _ => some (.inl ()) | .inr r58 => some (.inr r58))) (fun o => match o with | .inl _ => some false | .inr r59 => some r59)

set_option maxHeartbeats 2000000 in
theorem at_await_targeted {a0 : Func} {a1 : Int} {r : Bool} (hs : await_targeted a0 a1 = some r) : At Tryd.prog 89 [.agg [.p (.c (.string a0.Name)), .p (.sl a0.Code.length (encL a0.Code))], iV .i64 a1] (bV r) := by
  refine at_bound (by kernel_rfl) fun hb => ?_
  have hb1 : LenOk (.sl a0.Code.length (encL a0.Code)) := hb (.agg [.p (.c (.string a0.Name)), .p (.sl a0.Code.length (encL a0.Code))]) (by simp) (.p (.sl a0.Code.length (encL a0.Code))) (by simp)
  refine at_code mixed Tryd.func89 (by kernel_rfl) rfl (by kernel_rfl) rfl fun Q hQ => ?_
  rw [await_targeted] at hs
  repeat (first | simp [-awp_cond_eq, -awp_block_eq] | with_reducible first | refine awp_reg ?_ | refine And.intro (by omega) ?_ | refine optF_if (by omega) ?_)
  obtain ⟨o29, e28, hs⟩ := bindO hs
  try dsimp only at hs
  refine awp_cutK (fun (v : Unit) (σ : St) => some (.inl v) = some o29 ∧ 2 ≤ σ.gen) (by rfl) (fun Q hK30 hX31 => ?_) (fun v σ3 hp => ?_)
  · repeat (first | simp | with_reducible first | refine awp_reg ?_ | refine And.intro (by omega) ?_ | refine optF_if (by omega) ?_)
    obtain ⟨o45, e44, e28⟩ := bindO e28
    try dsimp only at e28
    refine awp_loopW (fun (v : (List Inst) × Nat) (σ : St) => await_targeted_L1 a1 v.1 v.2 = some o45 ∧ v.1 = a0.Code.drop v.2 ∧ σ.env 1 = iV .i64 a1 ∧ σ.env 8 = .cell (.p (.sl a0.Code.length (encL a0.Code))) ∧ σ.env 9 = iV .i64 ((a0.Code.length : Nat) : Int) ∧ σ.env 10 = iV .i64 ((v.2 : Nat) : Int) ∧ 2 ≤ σ.gen) (fun v => v.1.length) _ (Gh.refl _) (a0.Code, 0) ⟨e44, by simp, by simp [St.frz, St.pur], by simp [St.frz, St.pur], by simp [St.frz, St.pur], by simp [St.frz, St.pur], by first | (simp; done) | (simp; omega) | omega⟩ fun v σ6 hp L46 hL47 => ?_
    obtain ⟨q49, k38⟩ := v
    dsimp only at hp hL47
    obtain ⟨e44, hd48, h5_1, h5_8, h5_9, h5_10, n5_g⟩ := hp
    rcases q49 with _ | ⟨x54, q50⟩
    · have hlt51 := drop_end hd48
      rw [await_targeted_L1] at e44; try dsimp only at e44
      repeat (first | simp [h5_1, h5_8, h5_9, h5_10] | with_reducible refine awp_reg ?_)
      refine condK_f (by simp [ltI]; omega) ?_
      obtain rfl := Option.some.inj e44
      try dsimp only at e28
      exact hK30 () _ _ (Gh.refl _) ⟨e28, by first | (simp; done) | (simp; omega) | omega⟩
    · obtain ⟨hx53, hlt51, hd55⟩ := drop_next hd48
      have ew52 := wrap_succ hlt51 (hb1).len
      rw [await_targeted_L1] at e44; try dsimp only at e44
      repeat (first | simp [h5_1, h5_8, h5_9, h5_10, hlt51, ew52] | with_reducible refine awp_reg ?_)
      refine condK_t (by simp [ltI]; omega) ?_
      have f56 : partCV Tryd.prog 71 (encL a0.Code) (k38 * 8) = some (.agg [.p (.c (.int .i64 x54.Op)), .p (.c (.int .i64 x54.A)), .p (.c (.int .i64 x54.B)), .p (.c (.int .i64 x54.C)), .p (.c (.int .i64 x54.Obj)), .p (.c (.int .i64 x54.N)), .p (.c (.int .i64 x54.Fn)), .p (.c (.int .i64 x54.Order))]) := partCV_enc hx53 (f := 0) (by simp)
      repeat (first | simp [h5_1, h5_8, h5_9, h5_10, hlt51, ew52, f56] | with_reducible first | refine awp_reg ?_ | refine And.intro (by omega) ?_ | refine optF_if (by omega) ?_ | refine gsel_pure (by with_unfolding_all rfl) _ (fun hg => by (try simp at hg); first | (simp [hg, h5_1, h5_8, h5_9, h5_10, hlt51, ew52, f56]; rfl) | (simp [h5_1, h5_8, h5_9, h5_10, hlt51, ew52, f56]; simp only [if_pos hg]; simp [h5_1, h5_8, h5_9, h5_10, hlt51, ew52, f56]; rfl)) ?_)
      refine condK_spec (andB (orB (eqI x54.Op 4) (eqI x54.Op 5)) (eqI x54.N a1)) (by first | rfl | (simp [h5_1, h5_8, h5_9, h5_10, hlt51, ew52, f56]; done) | (simp [andB, orB, eqI, ltI, Int.natCast_inj, h5_1, h5_8, h5_9, h5_10, hlt51, ew52, f56]; done)) (fun h57 => ?_) (fun h57 => ?_)
      · replace e44 := condT h57 e44
        repeat (first | simp [h5_1, h5_8, h5_9, h5_10, hlt51, ew52, f56] | with_reducible first | refine awp_reg ?_ | refine And.intro (by omega) ?_ | refine optF_if (by omega) ?_ | refine gsel_pure (by with_unfolding_all rfl) _ (fun hg => by (try simp at hg); first | (simp [hg, h5_1, h5_8, h5_9, h5_10, hlt51, ew52, f56]; rfl) | (simp [h5_1, h5_8, h5_9, h5_10, hlt51, ew52, f56]; simp only [if_pos hg]; simp [h5_1, h5_8, h5_9, h5_10, hlt51, ew52, f56]; rfl)) ?_)
        obtain rfl := Option.some.inj e44
        try dsimp only at e28
        obtain rfl := Option.some.inj e28
        try dsimp only at hs
        refine hX31 _ _ (by simp) ?_
        repeat (first | simp [h5_1, h5_8, h5_9, h5_10, hlt51, ew52, f56] | with_reducible first | refine awp_reg ?_ | refine And.intro (by omega) ?_ | refine optF_if (by omega) ?_ | refine gsel_pure (by with_unfolding_all rfl) _ (fun hg => by (try simp at hg); first | (simp [hg, h5_1, h5_8, h5_9, h5_10, hlt51, ew52, f56]; rfl) | (simp [h5_1, h5_8, h5_9, h5_10, hlt51, ew52, f56]; simp only [if_pos hg]; simp [h5_1, h5_8, h5_9, h5_10, hlt51, ew52, f56]; rfl)) ?_)
        obtain rfl := Option.some.inj hs
        refine hQ _ _ (ret2g _ (Gh.refl _) (by simp [St.frz, St.pur, h5_1, h5_8, h5_9, h5_10, hlt51, ew52, f56]; rfl) (by first | rfl | (simp [St.frz, St.pur, h5_1, h5_8, h5_9, h5_10, hlt51, ew52, f56]; done) | (rw [if_pos (by first | omega | (simp; omega))]; simp [St.frz, St.pur, h5_1, h5_8, h5_9, h5_10, hlt51, ew52, f56]; first | omega | exact List.take_of_length_le (by simp; omega) | skip)) (by simp))
      · replace e44 := condF h57 e44
        repeat (first | simp [h5_1, h5_8, h5_9, h5_10, hlt51, ew52, f56] | with_reducible first | refine awp_reg ?_ | refine And.intro (by omega) ?_ | refine optF_if (by omega) ?_ | refine gsel_pure (by with_unfolding_all rfl) _ (fun hg => by (try simp at hg); first | (simp [hg, h5_1, h5_8, h5_9, h5_10, hlt51, ew52, f56]; rfl) | (simp [h5_1, h5_8, h5_9, h5_10, hlt51, ew52, f56]; simp only [if_pos hg]; simp [h5_1, h5_8, h5_9, h5_10, hlt51, ew52, f56]; rfl)) ?_)
        refine hL47 (q50, (k38 + 1)) _ _ (Gh.refl _) ⟨e44, hd55, ?_, ?_, ?_, ?_, by first | (simp; done) | (simp; omega) | omega⟩ (by simp) <;> simp [St.frz, St.pur, h5_1, h5_8, h5_9, h5_10, hlt51, ew52, f56]
  · obtain ⟨e28, n4_g⟩ := hp
    obtain rfl := Option.some.inj e28
    try dsimp only at hs
    repeat (first | simp | with_reducible first | refine awp_reg ?_ | refine And.intro (by omega) ?_ | refine optF_if (by omega) ?_)
    obtain rfl := Option.some.inj hs
    refine hQ _ _ (ret2g _ (Gh.refl _) (by simp [St.frz, St.pur]; rfl) (by first | rfl | (simp [St.frz, St.pur]; done) | (rw [if_pos (by first | omega | (simp; omega))]; simp [St.frz, St.pur]; first | omega | exact List.take_of_length_le (by simp; omega) | skip)) (by simp))
end Go.Dc
end
section
set_option linter.all false
namespace Go.Dc
open Go Go.Hw Go.Proofs
set_option maxRecDepth 100000

def await_condition (a0 : Int) : Option Int :=
  cond (eqI a0 7) (some 8) (cond (eqI a0 8) (some 7) (cond (eqI a0 9) (some 10) (some 9)))

set_option maxHeartbeats 2000000 in
theorem at_await_condition {a0 : Int} {r : Int} (hs : await_condition a0 = some r) : At Tryd.prog 90 [iV .i64 a0] (iV .i64 r) := by
  refine at_bound (by kernel_rfl) fun hb => ?_
  refine at_code mixed Tryd.func90 (by kernel_rfl) rfl (by kernel_rfl) rfl fun Q hQ => ?_
  rw [await_condition] at hs
  repeat (first | simp | with_reducible refine awp_reg ?_)
  refine condK_spec (eqI a0 7) (by first | rfl | (simp; done) | (simp [andB, orB, eqI, ltI, Int.natCast_inj]; done)) (fun h1 => ?_) (fun h1 => ?_)
  · replace hs := condT h1 hs
    repeat (first | simp | with_reducible refine awp_reg ?_)
    obtain rfl := Option.some.inj hs
    refine hQ _ _ (ret2g _ (Gh.refl _) (by simp [St.frz, St.pur]; rfl) (by first | rfl | (simp [St.frz, St.pur]; done) | (rw [if_pos (by first | omega | (simp; omega))]; simp [St.frz, St.pur]; first | omega | exact List.take_of_length_le (by simp; omega) | skip)) (by simp))
  · replace hs := condF h1 hs
    repeat (first | simp | with_reducible refine awp_reg ?_)
    refine condK_spec (eqI a0 8) (by first | rfl | (simp; done) | (simp [andB, orB, eqI, ltI, Int.natCast_inj]; done)) (fun h2 => ?_) (fun h2 => ?_)
    · replace hs := condT h2 hs
      repeat (first | simp | with_reducible refine awp_reg ?_)
      obtain rfl := Option.some.inj hs
      refine hQ _ _ (ret2g _ (Gh.refl _) (by simp [St.frz, St.pur]; rfl) (by first | rfl | (simp [St.frz, St.pur]; done) | (rw [if_pos (by first | omega | (simp; omega))]; simp [St.frz, St.pur]; first | omega | exact List.take_of_length_le (by simp; omega) | skip)) (by simp))
    · replace hs := condF h2 hs
      repeat (first | simp | with_reducible refine awp_reg ?_)
      refine condK_spec (eqI a0 9) (by first | rfl | (simp; done) | (simp [andB, orB, eqI, ltI, Int.natCast_inj]; done)) (fun h3 => ?_) (fun h3 => ?_)
      · replace hs := condT h3 hs
        repeat (first | simp | with_reducible refine awp_reg ?_)
        obtain rfl := Option.some.inj hs
        refine hQ _ _ (ret2g _ (Gh.refl _) (by simp [St.frz, St.pur]; rfl) (by first | rfl | (simp [St.frz, St.pur]; done) | (rw [if_pos (by first | omega | (simp; omega))]; simp [St.frz, St.pur]; first | omega | exact List.take_of_length_le (by simp; omega) | skip)) (by simp))
      · replace hs := condF h3 hs
        repeat (first | simp | with_reducible refine awp_reg ?_)
        obtain rfl := Option.some.inj hs
        refine hQ _ _ (ret2g _ (Gh.refl _) (by simp [St.frz, St.pur]; rfl) (by first | rfl | (simp [St.frz, St.pur]; done) | (rw [if_pos (by first | omega | (simp; omega))]; simp [St.frz, St.pur]; first | omega | exact List.take_of_length_le (by simp; omega) | skip)) (by simp))
end Go.Dc
end
section
set_option linter.all false
namespace Go.Dc
open Go Go.Hw Go.Proofs
set_option maxRecDepth 100000
def await_spins_L2 (i2751 : Int) (x3442 : Func) : Nat → (List AwaitSpin) → Int → Option (List AwaitSpin)
  | 0, _, _ => none
  | q3606 + 1, l3547, i3548 => cond (ltI (IntKind.i64.wrap (i3548 + 2)) ((x3442.Code.length : Nat) : Int)) (Option.bind (getI x3442.Code i3548) (fun x3620 => Option.bind (getI x3442.Code (IntKind.i64.wrap (i3548 + 1))) (fun x3623 => Option.bind (getI x3442.Code (IntKind.i64.wrap (i3548 + 2))) (fun x3626 => Option.bind (α := Int) (cond (eqI x3623.C x3620.A) (some (x3623.B)) (some (x3623.C))) (fun i3630 => Option.bind (await_spins_1 x3620 x3623 x3626 i3548) (fun y3636 => cond y3636 (Option.bind (await_spins_2 x3623 x3620.A i3630) (fun y3639 => guardO (orB (!y3639) ((await_targeted x3442 (IntKind.i64.wrap (i3548 + 1))).isSome)) (guardO (orB (!(!(orB (!y3639) ((await_targeted x3442 (IntKind.i64.wrap (i3548 + 1))).getD default)))) ((await_targeted x3442 (IntKind.i64.wrap (i3548 + 2))).isSome)) (cond (orB (orB (!y3639) ((await_targeted x3442 (IntKind.i64.wrap (i3548 + 1))).getD default)) ((await_targeted x3442 (IntKind.i64.wrap (i3548 + 2))).getD default)) (await_spins_L2 i2751 x3442 q3606 l3547 (IntKind.i64.wrap (i3548 + 1))) (Option.bind (await_condition x3623.Fn) (fun y3651 => Option.bind (some ([({ fn := i2751, first := i3548, await := ({ Op := 14, A := x3620.A, B := i3630, C := 0, Obj := x3620.Obj, N := 0, Fn := y3651, Order := x3620.Order } : Inst) } : AwaitSpin)])) (fun l3653 => guardO (limB 80 (l3547.length + l3653.length)) (Option.bind (some (l3547 ++ l3653)) (fun l3656 => await_spins_L2 i2751 x3442 q3606 l3656 (IntKind.i64.wrap (i3548 + 1))))))))))) (await_spins_L2 i2751 x3442 q3606 l3547 (IntKind.i64.wrap (i3548 + 1))))))))) (some (l3547))

def await_spins_L1 (fuelN : Nat) (a0 : Program) : Nat → (List AwaitSpin) → Int → Option (List AwaitSpin)
  | 0, _, _ => none
  | q3216 + 1, l2750, i2751 => cond (ltI i2751 ((a0.Funcs.length : Nat) : Int)) (Option.bind (α := (List AwaitSpin)) (Option.bind (getI a0.Funcs i2751) (fun x3442 => Option.bind (await_spins_L2 i2751 x3442 fuelN l2750 0) (fun l3599 => some (l3599)))) (fun l3437 => await_spins_L1 fuelN a0 q3216 l3437 (IntKind.i64.wrap (i2751 + 1)))) (some (l2750))

def await_spins (fuelN : Nat) (a0 : Program) : Option (List AwaitSpin) :=
  Option.bind (α := (List AwaitSpin)) (Option.bind (await_spins_L1 fuelN a0 fuelN [] 0) (fun l3209 => some (l3209))) (fun l1827 => some l1827)

set_option maxHeartbeats 2000000 in
theorem at_await_spins {fuelN : Nat} {a0 : Program} {r : (List AwaitSpin)} (hs : await_spins fuelN a0 = some r) : At Tryd.prog 65 [.agg [.p (.sl a0.Vars.length (encL a0.Vars)), .p (.sl a0.Mutexes.length (encL a0.Mutexes)), .p (.sl a0.Conds.length (encL a0.Conds)), .p (.sl a0.Funcs.length (encL a0.Funcs)), .p (.sl a0.Threads.length (encL a0.Threads))]] (.cell (.p (.sl r.length (encL r)))) := by
  refine at_bound (by kernel_rfl) fun hb => ?_
  have hb1 : LenOk (.sl a0.Vars.length (encL a0.Vars)) := hb (.agg [.p (.sl a0.Vars.length (encL a0.Vars)), .p (.sl a0.Mutexes.length (encL a0.Mutexes)), .p (.sl a0.Conds.length (encL a0.Conds)), .p (.sl a0.Funcs.length (encL a0.Funcs)), .p (.sl a0.Threads.length (encL a0.Threads))]) (by simp) (.p (.sl a0.Vars.length (encL a0.Vars))) (by simp)
  have hb2 : LenOk (.sl a0.Mutexes.length (encL a0.Mutexes)) := hb (.agg [.p (.sl a0.Vars.length (encL a0.Vars)), .p (.sl a0.Mutexes.length (encL a0.Mutexes)), .p (.sl a0.Conds.length (encL a0.Conds)), .p (.sl a0.Funcs.length (encL a0.Funcs)), .p (.sl a0.Threads.length (encL a0.Threads))]) (by simp) (.p (.sl a0.Mutexes.length (encL a0.Mutexes))) (by simp)
  have hb3 : LenOk (.sl a0.Conds.length (encL a0.Conds)) := hb (.agg [.p (.sl a0.Vars.length (encL a0.Vars)), .p (.sl a0.Mutexes.length (encL a0.Mutexes)), .p (.sl a0.Conds.length (encL a0.Conds)), .p (.sl a0.Funcs.length (encL a0.Funcs)), .p (.sl a0.Threads.length (encL a0.Threads))]) (by simp) (.p (.sl a0.Conds.length (encL a0.Conds))) (by simp)
  have hb4 : LenOk (.sl a0.Funcs.length (encL a0.Funcs)) := hb (.agg [.p (.sl a0.Vars.length (encL a0.Vars)), .p (.sl a0.Mutexes.length (encL a0.Mutexes)), .p (.sl a0.Conds.length (encL a0.Conds)), .p (.sl a0.Funcs.length (encL a0.Funcs)), .p (.sl a0.Threads.length (encL a0.Threads))]) (by simp) (.p (.sl a0.Funcs.length (encL a0.Funcs))) (by simp)
  have hb5 : LenOk (.sl a0.Threads.length (encL a0.Threads)) := hb (.agg [.p (.sl a0.Vars.length (encL a0.Vars)), .p (.sl a0.Mutexes.length (encL a0.Mutexes)), .p (.sl a0.Conds.length (encL a0.Conds)), .p (.sl a0.Funcs.length (encL a0.Funcs)), .p (.sl a0.Threads.length (encL a0.Threads))]) (by simp) (.p (.sl a0.Threads.length (encL a0.Threads))) (by simp)
  refine at_code mixed Tryd.func65 (by kernel_rfl) rfl (by kernel_rfl) rfl fun Q hQ => ?_
  rw [await_spins] at hs
  repeat (first | simp [-awp_cond_eq, -awp_block_eq] | with_reducible first | refine awp_reg ?_ | refine And.intro (by omega) ?_ | refine optF_if (by omega) ?_)
  obtain ⟨o1829, e1828, hs⟩ := bindO hs
  try dsimp only at hs
  refine awp_cutK (fun (v : (List AwaitSpin)) (σ : St) => some (v) = some o1829 ∧ σ.env 3 = .cell (.sl (.l 61) 0 10 v.length) ∧ σ.hp (.l 61) = some (.pure (encL v)) ∧ 3 ≤ σ.gen) (by rfl) (fun Q hK1830 hX1831 => ?_) (fun l1827 σ91 hp => ?_)
  · repeat (first | simp | with_reducible first | refine awp_reg ?_ | refine And.intro (by omega) ?_ | refine optF_if (by omega) ?_)
    obtain ⟨o3211, e3210, e1828⟩ := bindO e1828
    try dsimp only at e1828
    refine awp_loopW (fun (v : Nat × (List AwaitSpin) × Int) (σ : St) => await_spins_L1 fuelN a0 v.1 v.2.1 v.2.2 = some o3211 ∧ σ.env 3 = .cell (.sl (.l 182) 0 10 v.2.1.length) ∧ σ.env 15 = .cell (.p (.sl a0.Funcs.length (encL a0.Funcs))) ∧ σ.env 16 = iV .i64 ((a0.Funcs.length : Nat) : Int) ∧ σ.env 17 = iV .i64 v.2.2 ∧ σ.hp (.l 182) = some (.pure (encL v.2.1)) ∧ 3 ≤ σ.gen) (fun v => v.1) _ (Gh.void _ (.l 182) 3 10 rfl (by simp)) (fuelN, [], 0) ⟨e3210, by simp [St.frz, St.pur], by simp [St.frz, St.pur], by simp [St.frz, St.pur], by simp [St.frz, St.pur], by simp [St.frz, St.pur], by first | (simp; done) | (simp; omega) | omega⟩ fun v σ160 hp L3212 hL3213 => ?_
    obtain ⟨q3215, l2750, i2751⟩ := v
    dsimp only at hp hL3213
    obtain ⟨e3210, h159_3, h159_15, h159_16, h159_17, g159_0, n159_g⟩ := hp
    rcases q3215 with _ | q3216
    · rw [await_spins_L1] at e3210; cases e3210
    · rw [await_spins_L1] at e3210; try dsimp only at e3210
      repeat (first | simp [h159_3, h159_15, h159_16, h159_17, g159_0] | with_reducible refine awp_reg ?_)
      refine condK_spec (ltI i2751 ((a0.Funcs.length : Nat) : Int)) (by first | rfl | (simp [h159_3, h159_15, h159_16, h159_17, g159_0]; done) | (simp [andB, orB, eqI, ltI, Int.natCast_inj, h159_3, h159_15, h159_16, h159_17, g159_0]; done)) (fun h3220 => ?_) (fun h3220 => ?_)
      · replace e3210 := condT h3220 e3210
        repeat (first | simp [-awp_cond_eq, -awp_block_eq, h159_3, h159_15, h159_16, h159_17, g159_0] | with_reducible refine awp_reg ?_)
        obtain ⟨o3439, e3438, e3210⟩ := bindO e3210
        try dsimp only at e3210
        refine awp_cutK (fun (v : (List AwaitSpin)) (σ : St) => some (v) = some o3439 ∧ σ.env 3 = .cell (.sl (.l 221) 0 10 v.length) ∧ σ.env 15 = .cell (.p (.sl a0.Funcs.length (encL a0.Funcs))) ∧ σ.env 16 = iV .i64 ((a0.Funcs.length : Nat) : Int) ∧ σ.env 17 = iV .i64 i2751 ∧ σ.hp (.l 221) = some (.pure (encL v)) ∧ (σ160.gen + 1) ≤ σ.gen) (by rfl) (fun Q hK3440 hX3441 => ?_) (fun l3437 σ171 hp => ?_)
        · obtain ⟨x3442, hx3443, e3438⟩ := bindO e3438
          try dsimp only at e3438
          obtain ⟨hx3443a, hx3443b, hx3443c, hx3443d⟩ := getI_some hx3443
          have f3444 : partCV Tryd.prog 24 (encL a0.Funcs) (((i2751).toNat) * 2) = some (.agg [.p (.c (.string x3442.Name)), .p (.sl x3442.Code.length (encL x3442.Code))]) := partCV_enc hx3443d (f := 0) (by simp)
          repeat (first | simp [h159_3, h159_15, h159_16, h159_17, g159_0, f3444] | with_reducible first | refine awp_reg ?_ | refine And.intro (by omega) ?_ | refine optF_if (by omega) ?_)
          obtain ⟨o3601, e3600, e3438⟩ := bindO e3438
          try dsimp only at e3438
          refine awp_loopW (fun (v : Nat × (List AwaitSpin) × Int) (σ : St) => await_spins_L2 i2751 x3442 v.1 v.2.1 v.2.2 = some o3601 ∧ σ.env 3 = .cell (.sl (.l 236) 0 10 v.2.1.length) ∧ σ.env 4 = iV .i64 i2751 ∧ σ.env 5 = .cell (.ref (.o (σ160.gen + 2) 3 0) 0) ∧ σ.env 6 = .cell (.ref (.l 237) 0) ∧ σ.env 15 = .cell (.p (.sl a0.Funcs.length (encL a0.Funcs))) ∧ σ.env 16 = iV .i64 ((a0.Funcs.length : Nat) : Int) ∧ σ.env 17 = iV .i64 i2751 ∧ σ.hp (.l 236) = some (.pure (encL v.2.1)) ∧ σ.hp (.o (σ160.gen + 2) 3 0) = some (.cells [.p (.c (.string x3442.Name)), .p (.sl x3442.Code.length (encL x3442.Code))]) ∧ σ.hp (.l 237) = some (.cells [.p (.c (.int .i64 v.2.2))]) ∧ (σ160.gen + 3) ≤ σ.gen) (fun v => v.1) _ ((Gh.ren _ (.l 182) (.l 236) (by simp) rfl rfl).trans (Gh.ren _ (.o (σ160.gen + 3) 0 0) (.l 237) (by simp) rfl rfl)) (fuelN, l2750, 0) ⟨e3600, by simp [St.frz, St.pur, h159_3, h159_15, h159_16, h159_17, g159_0, f3444], by simp [St.frz, St.pur, h159_3, h159_15, h159_16, h159_17, g159_0, f3444], by simp [St.frz, St.pur, h159_3, h159_15, h159_16, h159_17, g159_0, f3444], by simp [St.frz, St.pur, h159_3, h159_15, h159_16, h159_17, g159_0, f3444], by simp [St.frz, St.pur, h159_3, h159_15, h159_16, h159_17, g159_0, f3444], by simp [St.frz, St.pur, h159_3, h159_15, h159_16, h159_17, g159_0, f3444], by simp [St.frz, St.pur, h159_3, h159_15, h159_16, h159_17, g159_0, f3444], by simp [St.frz, St.pur, h159_3, h159_15, h159_16, h159_17, g159_0, f3444], by simp [St.frz, St.pur, h159_3, h159_15, h159_16, h159_17, g159_0, f3444], by simp [St.frz, St.pur, h159_3, h159_15, h159_16, h159_17, g159_0, f3444], by first | (simp; done) | (simp; omega) | omega⟩ fun v σ180 hp L3602 hL3603 => ?_
          obtain ⟨q3605, l3547, i3548⟩ := v
          dsimp only at hp hL3603
          obtain ⟨e3600, h179_3, h179_4, h179_5, h179_6, h179_15, h179_16, h179_17, g179_0, g179_1, g179_2, n179_g⟩ := hp
          have n179_σ160gen_0 : ¬ (σ180.gen = σ160.gen) := by omega
          have n179_σ160gen_0' : ¬ (σ160.gen = σ180.gen) := by omega
          have n179_σ160gen_1 : ¬ (σ180.gen = σ160.gen + 1) := by omega
          have n179_σ160gen_1' : ¬ (σ160.gen + 1 = σ180.gen) := by omega
          have n179_σ160gen_2 : ¬ (σ180.gen = σ160.gen + 2) := by omega
          have n179_σ160gen_2' : ¬ (σ160.gen + 2 = σ180.gen) := by omega
          have n179_σ160gen_a : ∀ j, ¬ (σ180.gen + j = σ160.gen) := fun j => by omega
          have n179_σ160gen_a' : ∀ j, ¬ (σ160.gen = σ180.gen + j) := fun j => by omega
          rcases q3605 with _ | q3606
          · rw [await_spins_L2] at e3600; cases e3600
          · rw [await_spins_L2] at e3600; try dsimp only at e3600
            repeat (first | simp [h179_3, h179_4, h179_5, h179_6, h179_15, h179_16, h179_17, g179_0, g179_1, g179_2, n179_σ160gen_0, n179_σ160gen_0', n179_σ160gen_1, n179_σ160gen_1', n179_σ160gen_2, n179_σ160gen_2', n179_σ160gen_a, n179_σ160gen_a', f3444] | with_reducible first | refine awp_reg ?_ | refine And.intro (by omega) ?_ | refine optF_if (by omega) ?_)
            refine condK_spec (ltI (IntKind.i64.wrap (i3548 + 2)) ((x3442.Code.length : Nat) : Int)) (by first | rfl | (simp [h179_3, h179_4, h179_5, h179_6, h179_15, h179_16, h179_17, g179_0, g179_1, g179_2, n179_σ160gen_0, n179_σ160gen_0', n179_σ160gen_1, n179_σ160gen_1', n179_σ160gen_2, n179_σ160gen_2', n179_σ160gen_a, n179_σ160gen_a', f3444]; done) | (simp [andB, orB, eqI, ltI, Int.natCast_inj, h179_3, h179_4, h179_5, h179_6, h179_15, h179_16, h179_17, g179_0, g179_1, g179_2, n179_σ160gen_0, n179_σ160gen_0', n179_σ160gen_1, n179_σ160gen_1', n179_σ160gen_2, n179_σ160gen_2', n179_σ160gen_a, n179_σ160gen_a', f3444]; done)) (fun h3610 => ?_) (fun h3610 => ?_)
            · replace e3600 := condT h3610 e3600
              repeat (first | simp [-awp_cond_eq, -awp_block_eq, h179_3, h179_4, h179_5, h179_6, h179_15, h179_16, h179_17, g179_0, g179_1, g179_2, n179_σ160gen_0, n179_σ160gen_0', n179_σ160gen_1, n179_σ160gen_1', n179_σ160gen_2, n179_σ160gen_2', n179_σ160gen_a, n179_σ160gen_a', f3444] | with_reducible first | refine awp_reg ?_ | refine And.intro (by omega) ?_ | refine optF_if (by omega) ?_)
              refine awp_block ?_
              obtain ⟨x3620, hx3621, e3600⟩ := bindO e3600
              try dsimp only at e3600
              obtain ⟨hx3621a, hx3621b, hx3621c, hx3621d⟩ := getI_some hx3621
              have f3622 : partCV Tryd.prog 71 (encL x3442.Code) (((i3548).toNat) * 8) = some (.agg [.p (.c (.int .i64 x3620.Op)), .p (.c (.int .i64 x3620.A)), .p (.c (.int .i64 x3620.B)), .p (.c (.int .i64 x3620.C)), .p (.c (.int .i64 x3620.Obj)), .p (.c (.int .i64 x3620.N)), .p (.c (.int .i64 x3620.Fn)), .p (.c (.int .i64 x3620.Order))]) := partCV_enc hx3621d (f := 0) (by simp)
              obtain ⟨x3623, hx3624, e3600⟩ := bindO e3600
              try dsimp only at e3600
              obtain ⟨hx3624a, hx3624b, hx3624c, hx3624d⟩ := getI_some hx3624
              have f3625 : partCV Tryd.prog 71 (encL x3442.Code) (((IntKind.i64.wrap (i3548 + 1)).toNat) * 8) = some (.agg [.p (.c (.int .i64 x3623.Op)), .p (.c (.int .i64 x3623.A)), .p (.c (.int .i64 x3623.B)), .p (.c (.int .i64 x3623.C)), .p (.c (.int .i64 x3623.Obj)), .p (.c (.int .i64 x3623.N)), .p (.c (.int .i64 x3623.Fn)), .p (.c (.int .i64 x3623.Order))]) := partCV_enc hx3624d (f := 0) (by simp)
              obtain ⟨x3626, hx3627, e3600⟩ := bindO e3600
              try dsimp only at e3600
              obtain ⟨hx3627a, hx3627b, hx3627c, hx3627d⟩ := getI_some hx3627
              have f3628 : partCV Tryd.prog 71 (encL x3442.Code) (((IntKind.i64.wrap (i3548 + 2)).toNat) * 8) = some (.agg [.p (.c (.int .i64 x3626.Op)), .p (.c (.int .i64 x3626.A)), .p (.c (.int .i64 x3626.B)), .p (.c (.int .i64 x3626.C)), .p (.c (.int .i64 x3626.Obj)), .p (.c (.int .i64 x3626.N)), .p (.c (.int .i64 x3626.Fn)), .p (.c (.int .i64 x3626.Order))]) := partCV_enc hx3627d (f := 0) (by simp)
              repeat (first | simp [-awp_cond_eq, -awp_block_eq, h179_3, h179_4, h179_5, h179_6, h179_15, h179_16, h179_17, g179_0, g179_1, g179_2, n179_σ160gen_0, n179_σ160gen_0', n179_σ160gen_1, n179_σ160gen_1', n179_σ160gen_2, n179_σ160gen_2', n179_σ160gen_a, n179_σ160gen_a', f3444, f3622, f3625, f3628] | with_reducible first | refine awp_reg ?_ | refine awp_draw ?_ | refine ord_l (by kernel_rfl) ?_ | refine ord_e (by kernel_rfl) ?_ | refine ord_c (by kernel_rfl) ?_ | refine ord_d (by kernel_rfl) ?_ | refine And.intro (by omega) ?_ | refine optF_if (by omega) ?_)
              obtain ⟨o3632, e3631, e3600⟩ := bindO e3600
              try dsimp only at e3600
              refine awp_cutK (fun (v : Int) (σ : St) => some (v) = some o3632 ∧ σ.env 3 = .cell (.sl (.l 236) 0 10 l3547.length) ∧ σ.env 4 = iV .i64 i2751 ∧ σ.env 5 = .cell (.ref (.o (σ160.gen + 2) 3 0) 0) ∧ σ.env 6 = .cell (.ref (.l 237) 0) ∧ σ.env 7 = .cell (.ref (.o (σ180.gen + 2) 17 0) 0) ∧ σ.env 8 = .cell (.ref (.o (σ180.gen + 2) 18 0) 0) ∧ σ.env 9 = .cell (.ref (.o (σ180.gen + 2) 19 0) 0) ∧ σ.env 10 = .cell (.ref (.o (σ180.gen + 3) 4 0) 0) ∧ σ.env 11 = .cell (.ref (.o (σ180.gen + 3) 5 0) 0) ∧ σ.env 15 = .cell (.p (.sl a0.Funcs.length (encL a0.Funcs))) ∧ σ.env 16 = iV .i64 ((a0.Funcs.length : Nat) : Int) ∧ σ.env 17 = iV .i64 i2751 ∧ σ.hp (.l 236) = some (.pure (encL l3547)) ∧ σ.hp (.o (σ160.gen + 2) 3 0) = some (.cells [.p (.c (.string x3442.Name)), .p (.sl x3442.Code.length (encL x3442.Code))]) ∧ σ.hp (.l 237) = some (.cells [.p (.c (.int .i64 i3548))]) ∧ σ.hp (.o (σ180.gen + 2) 17 0) = some (.cells [.p (.c (.int .i64 x3620.Op)), .p (.c (.int .i64 x3620.A)), .p (.c (.int .i64 x3620.B)), .p (.c (.int .i64 x3620.C)), .p (.c (.int .i64 x3620.Obj)), .p (.c (.int .i64 x3620.N)), .p (.c (.int .i64 x3620.Fn)), .p (.c (.int .i64 x3620.Order))]) ∧ σ.hp (.o (σ180.gen + 2) 18 0) = some (.cells [.p (.c (.int .i64 x3623.Op)), .p (.c (.int .i64 x3623.A)), .p (.c (.int .i64 x3623.B)), .p (.c (.int .i64 x3623.C)), .p (.c (.int .i64 x3623.Obj)), .p (.c (.int .i64 x3623.N)), .p (.c (.int .i64 x3623.Fn)), .p (.c (.int .i64 x3623.Order))]) ∧ σ.hp (.o (σ180.gen + 2) 19 0) = some (.cells [.p (.c (.int .i64 x3626.Op)), .p (.c (.int .i64 x3626.A)), .p (.c (.int .i64 x3626.B)), .p (.c (.int .i64 x3626.C)), .p (.c (.int .i64 x3626.Obj)), .p (.c (.int .i64 x3626.N)), .p (.c (.int .i64 x3626.Fn)), .p (.c (.int .i64 x3626.Order))]) ∧ σ.hp (.o (σ180.gen + 3) 4 0) = some (.cells [.p (.c (.int .i64 x3620.A))]) ∧ σ.hp (.o (σ180.gen + 3) 5 0) = some (.cells [.p (.c (.int .i64 v))]) ∧ (σ180.gen + 4) ≤ σ.gen) (by rfl) (fun Q hK3633 hX3634 => ?_) (fun i3630 σ181 hp => ?_)
              · repeat (first | simp [h179_3, h179_4, h179_5, h179_6, h179_15, h179_16, h179_17, g179_0, g179_1, g179_2, n179_σ160gen_0, n179_σ160gen_0', n179_σ160gen_1, n179_σ160gen_1', n179_σ160gen_2, n179_σ160gen_2', n179_σ160gen_a, n179_σ160gen_a', f3444, f3622, f3625, f3628] | with_reducible first | refine awp_reg ?_ | refine awp_draw ?_ | refine ord_l (by kernel_rfl) ?_ | refine ord_e (by kernel_rfl) ?_ | refine ord_c (by kernel_rfl) ?_ | refine ord_d (by kernel_rfl) ?_ | refine And.intro (by omega) ?_ | refine optF_if (by omega) ?_)
                refine condK_spec (eqI x3623.C x3620.A) (by first | rfl | (simp [h179_3, h179_4, h179_5, h179_6, h179_15, h179_16, h179_17, g179_0, g179_1, g179_2, n179_σ160gen_0, n179_σ160gen_0', n179_σ160gen_1, n179_σ160gen_1', n179_σ160gen_2, n179_σ160gen_2', n179_σ160gen_a, n179_σ160gen_a', f3444, f3622, f3625, f3628]; done) | (simp [andB, orB, eqI, ltI, Int.natCast_inj, h179_3, h179_4, h179_5, h179_6, h179_15, h179_16, h179_17, g179_0, g179_1, g179_2, n179_σ160gen_0, n179_σ160gen_0', n179_σ160gen_1, n179_σ160gen_1', n179_σ160gen_2, n179_σ160gen_2', n179_σ160gen_a, n179_σ160gen_a', f3444, f3622, f3625, f3628]; done)) (fun h3635 => ?_) (fun h3635 => ?_)
                · replace e3631 := condT h3635 e3631
                  repeat (first | simp [h179_3, h179_4, h179_5, h179_6, h179_15, h179_16, h179_17, g179_0, g179_1, g179_2, n179_σ160gen_0, n179_σ160gen_0', n179_σ160gen_1, n179_σ160gen_1', n179_σ160gen_2, n179_σ160gen_2', n179_σ160gen_a, n179_σ160gen_a', f3444, f3622, f3625, f3628] | with_reducible first | refine awp_reg ?_ | refine awp_draw ?_ | refine ord_l (by kernel_rfl) ?_ | refine ord_e (by kernel_rfl) ?_ | refine ord_c (by kernel_rfl) ?_ | refine ord_d (by kernel_rfl) ?_ | refine And.intro (by omega) ?_ | refine optF_if (by omega) ?_)
                  refine hK3633 x3623.B _ _ (Gh.refl _) ⟨e3631, ?_, ?_, ?_, ?_, ?_, ?_, ?_, ?_, ?_, ?_, ?_, ?_, ?_, ?_, ?_, ?_, ?_, ?_, ?_, ?_, by first | (simp; done) | (simp; omega) | omega⟩ <;> simp [St.frz, St.pur, h179_3, h179_4, h179_5, h179_6, h179_15, h179_16, h179_17, g179_0, g179_1, g179_2, n179_σ160gen_0, n179_σ160gen_0', n179_σ160gen_1, n179_σ160gen_1', n179_σ160gen_2, n179_σ160gen_2', n179_σ160gen_a, n179_σ160gen_a', f3444, f3622, f3625, f3628]
                · replace e3631 := condF h3635 e3631
                  repeat (first | simp [h179_3, h179_4, h179_5, h179_6, h179_15, h179_16, h179_17, g179_0, g179_1, g179_2, n179_σ160gen_0, n179_σ160gen_0', n179_σ160gen_1, n179_σ160gen_1', n179_σ160gen_2, n179_σ160gen_2', n179_σ160gen_a, n179_σ160gen_a', f3444, f3622, f3625, f3628] | with_reducible first | refine awp_reg ?_ | refine awp_draw ?_ | refine ord_l (by kernel_rfl) ?_ | refine ord_e (by kernel_rfl) ?_ | refine ord_c (by kernel_rfl) ?_ | refine ord_d (by kernel_rfl) ?_ | refine And.intro (by omega) ?_ | refine optF_if (by omega) ?_)
                  refine hK3633 x3623.C _ _ (Gh.refl _) ⟨e3631, ?_, ?_, ?_, ?_, ?_, ?_, ?_, ?_, ?_, ?_, ?_, ?_, ?_, ?_, ?_, ?_, ?_, ?_, ?_, ?_, by first | (simp; done) | (simp; omega) | omega⟩ <;> simp [St.frz, St.pur, h179_3, h179_4, h179_5, h179_6, h179_15, h179_16, h179_17, g179_0, g179_1, g179_2, n179_σ160gen_0, n179_σ160gen_0', n179_σ160gen_1, n179_σ160gen_1', n179_σ160gen_2, n179_σ160gen_2', n179_σ160gen_a, n179_σ160gen_a', f3444, f3622, f3625, f3628]
              · obtain ⟨e3631, h182_3, h182_4, h182_5, h182_6, h182_7, h182_8, h182_9, h182_10, h182_11, h182_15, h182_16, h182_17, g182_0, g182_1, g182_2, g182_3, g182_4, g182_5, g182_6, g182_7, n182_g⟩ := hp
                obtain rfl := Option.some.inj e3631
                try dsimp only at e3600
                have n182_σ160gen_0 : ¬ (σ181.gen = σ160.gen) := by omega
                have n182_σ160gen_0' : ¬ (σ160.gen = σ181.gen) := by omega
                have n182_σ160gen_1 : ¬ (σ181.gen = σ160.gen + 1) := by omega
                have n182_σ160gen_1' : ¬ (σ160.gen + 1 = σ181.gen) := by omega
                have n182_σ160gen_2 : ¬ (σ181.gen = σ160.gen + 2) := by omega
                have n182_σ160gen_2' : ¬ (σ160.gen + 2 = σ181.gen) := by omega
                have n182_σ160gen_a : ∀ j, ¬ (σ181.gen + j = σ160.gen) := fun j => by omega
                have n182_σ160gen_a' : ∀ j, ¬ (σ160.gen = σ181.gen + j) := fun j => by omega
                have n182_σ180gen_0 : ¬ (σ181.gen = σ180.gen) := by omega
                have n182_σ180gen_0' : ¬ (σ180.gen = σ181.gen) := by omega
                have n182_σ180gen_1 : ¬ (σ181.gen = σ180.gen + 1) := by omega
                have n182_σ180gen_1' : ¬ (σ180.gen + 1 = σ181.gen) := by omega
                have n182_σ180gen_2 : ¬ (σ181.gen = σ180.gen + 2) := by omega
                have n182_σ180gen_2' : ¬ (σ180.gen + 2 = σ181.gen) := by omega
                have n182_σ180gen_3 : ¬ (σ181.gen = σ180.gen + 3) := by omega
                have n182_σ180gen_3' : ¬ (σ180.gen + 3 = σ181.gen) := by omega
                have n182_σ180gen_a : ∀ j, ¬ (σ181.gen + j = σ180.gen) := fun j => by omega
                have n182_σ180gen_a' : ∀ j, ¬ (σ180.gen = σ181.gen + j) := fun j => by omega
                repeat (first | simp [h182_3, h182_4, h182_5, h182_6, h182_7, h182_8, h182_9, h182_10, h182_11, h182_15, h182_16, h182_17, g182_0, g182_1, g182_2, g182_3, g182_4, g182_5, g182_6, g182_7, n182_σ160gen_0, n182_σ160gen_0', n182_σ160gen_1, n182_σ160gen_1', n182_σ160gen_2, n182_σ160gen_2', n182_σ160gen_a, n182_σ160gen_a', n182_σ180gen_0, n182_σ180gen_0', n182_σ180gen_1, n182_σ180gen_1', n182_σ180gen_2, n182_σ180gen_2', n182_σ180gen_3, n182_σ180gen_3', n182_σ180gen_a, n182_σ180gen_a', f3444, f3622, f3625, f3628] | with_reducible first | refine awp_reg ?_ | refine awp_draw ?_ | refine ord_l (by kernel_rfl) ?_ | refine ord_e (by kernel_rfl) ?_ | refine ord_c (by kernel_rfl) ?_ | refine ord_d (by kernel_rfl) ?_ | refine And.intro (by omega) ?_ | refine optF_if (by omega) ?_)
                obtain ⟨y3636, hx3637, e3600⟩ := bindO e3600
                try dsimp only at e3600
                refine callK_at (at_await_spins_1 hx3637) [] (by (first | simp [h182_3, h182_4, h182_5, h182_6, h182_7, h182_8, h182_9, h182_10, h182_11, h182_15, h182_16, h182_17, g182_0, g182_1, g182_2, g182_3, g182_4, g182_5, g182_6, g182_7, n182_σ160gen_0, n182_σ160gen_0', n182_σ160gen_1, n182_σ160gen_1', n182_σ160gen_2, n182_σ160gen_2', n182_σ160gen_a, n182_σ160gen_a', n182_σ180gen_0, n182_σ180gen_0', n182_σ180gen_1, n182_σ180gen_1', n182_σ180gen_2, n182_σ180gen_2', n182_σ180gen_3, n182_σ180gen_3', n182_σ180gen_a, n182_σ180gen_a', f3444, f3622, f3625, f3628] | simp (disch := omega) [h182_3, h182_4, h182_5, h182_6, h182_7, h182_8, h182_9, h182_10, h182_11, h182_15, h182_16, h182_17, g182_0, g182_1, g182_2, g182_3, g182_4, g182_5, g182_6, g182_7, n182_σ160gen_0, n182_σ160gen_0', n182_σ160gen_1, n182_σ160gen_1', n182_σ160gen_2, n182_σ160gen_2', n182_σ160gen_a, n182_σ160gen_a', n182_σ180gen_0, n182_σ180gen_0', n182_σ180gen_1, n182_σ180gen_1', n182_σ180gen_2, n182_σ180gen_2', n182_σ180gen_3, n182_σ180gen_3', n182_σ180gen_a, n182_σ180gen_a', f3444, f3622, f3625, f3628]); try rfl) (by simp) (by simp) (by simp; rfl) (by simp [h182_3, h182_4, h182_5, h182_6, h182_7, h182_8, h182_9, h182_10, h182_11, h182_15, h182_16, h182_17, g182_0, g182_1, g182_2, g182_3, g182_4, g182_5, g182_6, g182_7, n182_σ160gen_0, n182_σ160gen_0', n182_σ160gen_1, n182_σ160gen_1', n182_σ160gen_2, n182_σ160gen_2', n182_σ160gen_a, n182_σ160gen_a', n182_σ180gen_0, n182_σ180gen_0', n182_σ180gen_1, n182_σ180gen_1', n182_σ180gen_2, n182_σ180gen_2', n182_σ180gen_3, n182_σ180gen_3', n182_σ180gen_a, n182_σ180gen_a', f3444, f3622, f3625, f3628]; rfl) ?_
                repeat (first | simp [h182_3, h182_4, h182_5, h182_6, h182_7, h182_8, h182_9, h182_10, h182_11, h182_15, h182_16, h182_17, g182_0, g182_1, g182_2, g182_3, g182_4, g182_5, g182_6, g182_7, n182_σ160gen_0, n182_σ160gen_0', n182_σ160gen_1, n182_σ160gen_1', n182_σ160gen_2, n182_σ160gen_2', n182_σ160gen_a, n182_σ160gen_a', n182_σ180gen_0, n182_σ180gen_0', n182_σ180gen_1, n182_σ180gen_1', n182_σ180gen_2, n182_σ180gen_2', n182_σ180gen_3, n182_σ180gen_3', n182_σ180gen_a, n182_σ180gen_a', f3444, f3622, f3625, f3628] | with_reducible first | refine awp_reg ?_ | refine awp_draw ?_ | refine ord_l (by kernel_rfl) ?_ | refine ord_e (by kernel_rfl) ?_ | refine ord_c (by kernel_rfl) ?_ | refine ord_d (by kernel_rfl) ?_ | refine And.intro (by omega) ?_ | refine optF_if (by omega) ?_ | refine gsel_pure (by with_unfolding_all rfl) _ (fun hg => by (try simp at hg); first | (simp [hg, h182_3, h182_4, h182_5, h182_6, h182_7, h182_8, h182_9, h182_10, h182_11, h182_15, h182_16, h182_17, g182_0, g182_1, g182_2, g182_3, g182_4, g182_5, g182_6, g182_7, n182_σ160gen_0, n182_σ160gen_0', n182_σ160gen_1, n182_σ160gen_1', n182_σ160gen_2, n182_σ160gen_2', n182_σ160gen_a, n182_σ160gen_a', n182_σ180gen_0, n182_σ180gen_0', n182_σ180gen_1, n182_σ180gen_1', n182_σ180gen_2, n182_σ180gen_2', n182_σ180gen_3, n182_σ180gen_3', n182_σ180gen_a, n182_σ180gen_a', f3444, f3622, f3625, f3628, hx3443a, hx3443b, hx3621a, hx3621b, hx3624a, hx3624b, hx3627a, hx3627b]; rfl) | (simp [h182_3, h182_4, h182_5, h182_6, h182_7, h182_8, h182_9, h182_10, h182_11, h182_15, h182_16, h182_17, g182_0, g182_1, g182_2, g182_3, g182_4, g182_5, g182_6, g182_7, n182_σ160gen_0, n182_σ160gen_0', n182_σ160gen_1, n182_σ160gen_1', n182_σ160gen_2, n182_σ160gen_2', n182_σ160gen_a, n182_σ160gen_a', n182_σ180gen_0, n182_σ180gen_0', n182_σ180gen_1, n182_σ180gen_1', n182_σ180gen_2, n182_σ180gen_2', n182_σ180gen_3, n182_σ180gen_3', n182_σ180gen_a, n182_σ180gen_a', f3444, f3622, f3625, f3628]; simp only [if_pos hg]; simp [h182_3, h182_4, h182_5, h182_6, h182_7, h182_8, h182_9, h182_10, h182_11, h182_15, h182_16, h182_17, g182_0, g182_1, g182_2, g182_3, g182_4, g182_5, g182_6, g182_7, n182_σ160gen_0, n182_σ160gen_0', n182_σ160gen_1, n182_σ160gen_1', n182_σ160gen_2, n182_σ160gen_2', n182_σ160gen_a, n182_σ160gen_a', n182_σ180gen_0, n182_σ180gen_0', n182_σ180gen_1, n182_σ180gen_1', n182_σ180gen_2, n182_σ180gen_2', n182_σ180gen_3, n182_σ180gen_3', n182_σ180gen_a, n182_σ180gen_a', f3444, f3622, f3625, f3628]; rfl)) ?_ | refine dskip_intro ?_ | refine dsel_pure (by with_unfolding_all rfl) _ (fun hg => by (try simp at hg); simp [hg, h182_3, h182_4, h182_5, h182_6, h182_7, h182_8, h182_9, h182_10, h182_11, h182_15, h182_16, h182_17, g182_0, g182_1, g182_2, g182_3, g182_4, g182_5, g182_6, g182_7, n182_σ160gen_0, n182_σ160gen_0', n182_σ160gen_1, n182_σ160gen_1', n182_σ160gen_2, n182_σ160gen_2', n182_σ160gen_a, n182_σ160gen_a', n182_σ180gen_0, n182_σ180gen_0', n182_σ180gen_1, n182_σ180gen_1', n182_σ180gen_2, n182_σ180gen_2', n182_σ180gen_3, n182_σ180gen_3', n182_σ180gen_a, n182_σ180gen_a', f3444, f3622, f3625, f3628, hx3443a, hx3443b, hx3621a, hx3621b, hx3624a, hx3624b, hx3627a, hx3627b]; rfl) ?_)
                refine gsel_split (fun h3638 => ?_) (fun h3638 => ?_)
                · replace e3600 := condT h3638 e3600
                  repeat (first | simp [h182_3, h182_4, h182_5, h182_6, h182_7, h182_8, h182_9, h182_10, h182_11, h182_15, h182_16, h182_17, g182_0, g182_1, g182_2, g182_3, g182_4, g182_5, g182_6, g182_7, n182_σ160gen_0, n182_σ160gen_0', n182_σ160gen_1, n182_σ160gen_1', n182_σ160gen_2, n182_σ160gen_2', n182_σ160gen_a, n182_σ160gen_a', n182_σ180gen_0, n182_σ180gen_0', n182_σ180gen_1, n182_σ180gen_1', n182_σ180gen_2, n182_σ180gen_2', n182_σ180gen_3, n182_σ180gen_3', n182_σ180gen_a, n182_σ180gen_a', f3444, f3622, f3625, f3628, h3638] | with_reducible first | refine awp_reg ?_ | refine awp_draw ?_ | refine ord_l (by kernel_rfl) ?_ | refine ord_e (by kernel_rfl) ?_ | refine ord_c (by kernel_rfl) ?_ | refine ord_d (by kernel_rfl) ?_ | refine And.intro (by omega) ?_ | refine optF_if (by omega) ?_ | refine gsel_pure (by with_unfolding_all rfl) _ (fun hg => by (try simp at hg); first | (simp [hg, h182_3, h182_4, h182_5, h182_6, h182_7, h182_8, h182_9, h182_10, h182_11, h182_15, h182_16, h182_17, g182_0, g182_1, g182_2, g182_3, g182_4, g182_5, g182_6, g182_7, n182_σ160gen_0, n182_σ160gen_0', n182_σ160gen_1, n182_σ160gen_1', n182_σ160gen_2, n182_σ160gen_2', n182_σ160gen_a, n182_σ160gen_a', n182_σ180gen_0, n182_σ180gen_0', n182_σ180gen_1, n182_σ180gen_1', n182_σ180gen_2, n182_σ180gen_2', n182_σ180gen_3, n182_σ180gen_3', n182_σ180gen_a, n182_σ180gen_a', f3444, f3622, f3625, f3628, h3638, hx3443a, hx3443b, hx3621a, hx3621b, hx3624a, hx3624b, hx3627a, hx3627b]; rfl) | (simp [h182_3, h182_4, h182_5, h182_6, h182_7, h182_8, h182_9, h182_10, h182_11, h182_15, h182_16, h182_17, g182_0, g182_1, g182_2, g182_3, g182_4, g182_5, g182_6, g182_7, n182_σ160gen_0, n182_σ160gen_0', n182_σ160gen_1, n182_σ160gen_1', n182_σ160gen_2, n182_σ160gen_2', n182_σ160gen_a, n182_σ160gen_a', n182_σ180gen_0, n182_σ180gen_0', n182_σ180gen_1, n182_σ180gen_1', n182_σ180gen_2, n182_σ180gen_2', n182_σ180gen_3, n182_σ180gen_3', n182_σ180gen_a, n182_σ180gen_a', f3444, f3622, f3625, f3628, h3638]; simp only [if_pos hg]; simp [h182_3, h182_4, h182_5, h182_6, h182_7, h182_8, h182_9, h182_10, h182_11, h182_15, h182_16, h182_17, g182_0, g182_1, g182_2, g182_3, g182_4, g182_5, g182_6, g182_7, n182_σ160gen_0, n182_σ160gen_0', n182_σ160gen_1, n182_σ160gen_1', n182_σ160gen_2, n182_σ160gen_2', n182_σ160gen_a, n182_σ160gen_a', n182_σ180gen_0, n182_σ180gen_0', n182_σ180gen_1, n182_σ180gen_1', n182_σ180gen_2, n182_σ180gen_2', n182_σ180gen_3, n182_σ180gen_3', n182_σ180gen_a, n182_σ180gen_a', f3444, f3622, f3625, f3628, h3638]; rfl)) ?_ | refine dskip_intro ?_ | refine dsel_pure (by with_unfolding_all rfl) _ (fun hg => by (try simp at hg); simp [hg, h182_3, h182_4, h182_5, h182_6, h182_7, h182_8, h182_9, h182_10, h182_11, h182_15, h182_16, h182_17, g182_0, g182_1, g182_2, g182_3, g182_4, g182_5, g182_6, g182_7, n182_σ160gen_0, n182_σ160gen_0', n182_σ160gen_1, n182_σ160gen_1', n182_σ160gen_2, n182_σ160gen_2', n182_σ160gen_a, n182_σ160gen_a', n182_σ180gen_0, n182_σ180gen_0', n182_σ180gen_1, n182_σ180gen_1', n182_σ180gen_2, n182_σ180gen_2', n182_σ180gen_3, n182_σ180gen_3', n182_σ180gen_a, n182_σ180gen_a', f3444, f3622, f3625, f3628, h3638, hx3443a, hx3443b, hx3621a, hx3621b, hx3624a, hx3624b, hx3627a, hx3627b]; rfl) ?_)
                  obtain ⟨y3639, hx3640, e3600⟩ := bindO e3600
                  try dsimp only at e3600
                  refine callK_at (at_await_spins_2 hx3640) [] (by (first | simp [h182_3, h182_4, h182_5, h182_6, h182_7, h182_8, h182_9, h182_10, h182_11, h182_15, h182_16, h182_17, g182_0, g182_1, g182_2, g182_3, g182_4, g182_5, g182_6, g182_7, n182_σ160gen_0, n182_σ160gen_0', n182_σ160gen_1, n182_σ160gen_1', n182_σ160gen_2, n182_σ160gen_2', n182_σ160gen_a, n182_σ160gen_a', n182_σ180gen_0, n182_σ180gen_0', n182_σ180gen_1, n182_σ180gen_1', n182_σ180gen_2, n182_σ180gen_2', n182_σ180gen_3, n182_σ180gen_3', n182_σ180gen_a, n182_σ180gen_a', f3444, f3622, f3625, f3628, h3638] | simp (disch := omega) [h182_3, h182_4, h182_5, h182_6, h182_7, h182_8, h182_9, h182_10, h182_11, h182_15, h182_16, h182_17, g182_0, g182_1, g182_2, g182_3, g182_4, g182_5, g182_6, g182_7, n182_σ160gen_0, n182_σ160gen_0', n182_σ160gen_1, n182_σ160gen_1', n182_σ160gen_2, n182_σ160gen_2', n182_σ160gen_a, n182_σ160gen_a', n182_σ180gen_0, n182_σ180gen_0', n182_σ180gen_1, n182_σ180gen_1', n182_σ180gen_2, n182_σ180gen_2', n182_σ180gen_3, n182_σ180gen_3', n182_σ180gen_a, n182_σ180gen_a', f3444, f3622, f3625, f3628, h3638]); try rfl) (by simp) (by simp) (by simp; rfl) (by simp [h182_3, h182_4, h182_5, h182_6, h182_7, h182_8, h182_9, h182_10, h182_11, h182_15, h182_16, h182_17, g182_0, g182_1, g182_2, g182_3, g182_4, g182_5, g182_6, g182_7, n182_σ160gen_0, n182_σ160gen_0', n182_σ160gen_1, n182_σ160gen_1', n182_σ160gen_2, n182_σ160gen_2', n182_σ160gen_a, n182_σ160gen_a', n182_σ180gen_0, n182_σ180gen_0', n182_σ180gen_1, n182_σ180gen_1', n182_σ180gen_2, n182_σ180gen_2', n182_σ180gen_3, n182_σ180gen_3', n182_σ180gen_a, n182_σ180gen_a', f3444, f3622, f3625, f3628, h3638]; rfl) ?_
                  repeat (first | simp [h182_3, h182_4, h182_5, h182_6, h182_7, h182_8, h182_9, h182_10, h182_11, h182_15, h182_16, h182_17, g182_0, g182_1, g182_2, g182_3, g182_4, g182_5, g182_6, g182_7, n182_σ160gen_0, n182_σ160gen_0', n182_σ160gen_1, n182_σ160gen_1', n182_σ160gen_2, n182_σ160gen_2', n182_σ160gen_a, n182_σ160gen_a', n182_σ180gen_0, n182_σ180gen_0', n182_σ180gen_1, n182_σ180gen_1', n182_σ180gen_2, n182_σ180gen_2', n182_σ180gen_3, n182_σ180gen_3', n182_σ180gen_a, n182_σ180gen_a', f3444, f3622, f3625, f3628, h3638] | with_reducible first | refine awp_reg ?_ | refine awp_draw ?_ | refine ord_l (by kernel_rfl) ?_ | refine ord_e (by kernel_rfl) ?_ | refine ord_c (by kernel_rfl) ?_ | refine ord_d (by kernel_rfl) ?_ | refine And.intro (by omega) ?_ | refine optF_if (by omega) ?_ | refine gsel_pure (by with_unfolding_all rfl) _ (fun hg => by (try simp at hg); first | (simp [hg, h182_3, h182_4, h182_5, h182_6, h182_7, h182_8, h182_9, h182_10, h182_11, h182_15, h182_16, h182_17, g182_0, g182_1, g182_2, g182_3, g182_4, g182_5, g182_6, g182_7, n182_σ160gen_0, n182_σ160gen_0', n182_σ160gen_1, n182_σ160gen_1', n182_σ160gen_2, n182_σ160gen_2', n182_σ160gen_a, n182_σ160gen_a', n182_σ180gen_0, n182_σ180gen_0', n182_σ180gen_1, n182_σ180gen_1', n182_σ180gen_2, n182_σ180gen_2', n182_σ180gen_3, n182_σ180gen_3', n182_σ180gen_a, n182_σ180gen_a', f3444, f3622, f3625, f3628, h3638, hx3443a, hx3443b, hx3621a, hx3621b, hx3624a, hx3624b, hx3627a, hx3627b]; rfl) | (simp [h182_3, h182_4, h182_5, h182_6, h182_7, h182_8, h182_9, h182_10, h182_11, h182_15, h182_16, h182_17, g182_0, g182_1, g182_2, g182_3, g182_4, g182_5, g182_6, g182_7, n182_σ160gen_0, n182_σ160gen_0', n182_σ160gen_1, n182_σ160gen_1', n182_σ160gen_2, n182_σ160gen_2', n182_σ160gen_a, n182_σ160gen_a', n182_σ180gen_0, n182_σ180gen_0', n182_σ180gen_1, n182_σ180gen_1', n182_σ180gen_2, n182_σ180gen_2', n182_σ180gen_3, n182_σ180gen_3', n182_σ180gen_a, n182_σ180gen_a', f3444, f3622, f3625, f3628, h3638]; simp only [if_pos hg]; simp [h182_3, h182_4, h182_5, h182_6, h182_7, h182_8, h182_9, h182_10, h182_11, h182_15, h182_16, h182_17, g182_0, g182_1, g182_2, g182_3, g182_4, g182_5, g182_6, g182_7, n182_σ160gen_0, n182_σ160gen_0', n182_σ160gen_1, n182_σ160gen_1', n182_σ160gen_2, n182_σ160gen_2', n182_σ160gen_a, n182_σ160gen_a', n182_σ180gen_0, n182_σ180gen_0', n182_σ180gen_1, n182_σ180gen_1', n182_σ180gen_2, n182_σ180gen_2', n182_σ180gen_3, n182_σ180gen_3', n182_σ180gen_a, n182_σ180gen_a', f3444, f3622, f3625, f3628, h3638]; rfl)) ?_ | refine dskip_intro ?_ | refine dsel_pure (by with_unfolding_all rfl) _ (fun hg => by (try simp at hg); simp [hg, h182_3, h182_4, h182_5, h182_6, h182_7, h182_8, h182_9, h182_10, h182_11, h182_15, h182_16, h182_17, g182_0, g182_1, g182_2, g182_3, g182_4, g182_5, g182_6, g182_7, n182_σ160gen_0, n182_σ160gen_0', n182_σ160gen_1, n182_σ160gen_1', n182_σ160gen_2, n182_σ160gen_2', n182_σ160gen_a, n182_σ160gen_a', n182_σ180gen_0, n182_σ180gen_0', n182_σ180gen_1, n182_σ180gen_1', n182_σ180gen_2, n182_σ180gen_2', n182_σ180gen_3, n182_σ180gen_3', n182_σ180gen_a, n182_σ180gen_a', f3444, f3622, f3625, f3628, h3638, hx3443a, hx3443b, hx3621a, hx3621b, hx3624a, hx3624b, hx3627a, hx3627b]; rfl) ?_)
                  obtain ⟨g3641, e3600⟩ := guardO_some e3600
                  refine gsel_call (fun hg => at_await_targeted (under_call g3641 hg)) (fun hg => by (try simp at hg); (first | simp [hg, h182_3, h182_4, h182_5, h182_6, h182_7, h182_8, h182_9, h182_10, h182_11, h182_15, h182_16, h182_17, g182_0, g182_1, g182_2, g182_3, g182_4, g182_5, g182_6, g182_7, n182_σ160gen_0, n182_σ160gen_0', n182_σ160gen_1, n182_σ160gen_1', n182_σ160gen_2, n182_σ160gen_2', n182_σ160gen_a, n182_σ160gen_a', n182_σ180gen_0, n182_σ180gen_0', n182_σ180gen_1, n182_σ180gen_1', n182_σ180gen_2, n182_σ180gen_2', n182_σ180gen_3, n182_σ180gen_3', n182_σ180gen_a, n182_σ180gen_a', f3444, f3622, f3625, f3628, h3638]); try rfl) (fun hg => by (try simp at hg); simp [hg, h182_3, h182_4, h182_5, h182_6, h182_7, h182_8, h182_9, h182_10, h182_11, h182_15, h182_16, h182_17, g182_0, g182_1, g182_2, g182_3, g182_4, g182_5, g182_6, g182_7, n182_σ160gen_0, n182_σ160gen_0', n182_σ160gen_1, n182_σ160gen_1', n182_σ160gen_2, n182_σ160gen_2', n182_σ160gen_a, n182_σ160gen_a', n182_σ180gen_0, n182_σ180gen_0', n182_σ180gen_1, n182_σ180gen_1', n182_σ180gen_2, n182_σ180gen_2', n182_σ180gen_3, n182_σ180gen_3', n182_σ180gen_a, n182_σ180gen_a', f3444, f3622, f3625, f3628, h3638]) (by simp) ?_
                  repeat (first | simp [h182_3, h182_4, h182_5, h182_6, h182_7, h182_8, h182_9, h182_10, h182_11, h182_15, h182_16, h182_17, g182_0, g182_1, g182_2, g182_3, g182_4, g182_5, g182_6, g182_7, n182_σ160gen_0, n182_σ160gen_0', n182_σ160gen_1, n182_σ160gen_1', n182_σ160gen_2, n182_σ160gen_2', n182_σ160gen_a, n182_σ160gen_a', n182_σ180gen_0, n182_σ180gen_0', n182_σ180gen_1, n182_σ180gen_1', n182_σ180gen_2, n182_σ180gen_2', n182_σ180gen_3, n182_σ180gen_3', n182_σ180gen_a, n182_σ180gen_a', f3444, f3622, f3625, f3628, h3638] | with_reducible first | refine awp_reg ?_ | refine awp_draw ?_ | refine ord_l (by kernel_rfl) ?_ | refine ord_e (by kernel_rfl) ?_ | refine ord_c (by kernel_rfl) ?_ | refine ord_d (by kernel_rfl) ?_ | refine And.intro (by omega) ?_ | refine optF_if (by omega) ?_ | refine gsel_pure (by with_unfolding_all rfl) _ (fun hg => by (try simp at hg); first | (simp [hg, h182_3, h182_4, h182_5, h182_6, h182_7, h182_8, h182_9, h182_10, h182_11, h182_15, h182_16, h182_17, g182_0, g182_1, g182_2, g182_3, g182_4, g182_5, g182_6, g182_7, n182_σ160gen_0, n182_σ160gen_0', n182_σ160gen_1, n182_σ160gen_1', n182_σ160gen_2, n182_σ160gen_2', n182_σ160gen_a, n182_σ160gen_a', n182_σ180gen_0, n182_σ180gen_0', n182_σ180gen_1, n182_σ180gen_1', n182_σ180gen_2, n182_σ180gen_2', n182_σ180gen_3, n182_σ180gen_3', n182_σ180gen_a, n182_σ180gen_a', f3444, f3622, f3625, f3628, h3638, hx3443a, hx3443b, hx3621a, hx3621b, hx3624a, hx3624b, hx3627a, hx3627b]; rfl) | (simp [h182_3, h182_4, h182_5, h182_6, h182_7, h182_8, h182_9, h182_10, h182_11, h182_15, h182_16, h182_17, g182_0, g182_1, g182_2, g182_3, g182_4, g182_5, g182_6, g182_7, n182_σ160gen_0, n182_σ160gen_0', n182_σ160gen_1, n182_σ160gen_1', n182_σ160gen_2, n182_σ160gen_2', n182_σ160gen_a, n182_σ160gen_a', n182_σ180gen_0, n182_σ180gen_0', n182_σ180gen_1, n182_σ180gen_1', n182_σ180gen_2, n182_σ180gen_2', n182_σ180gen_3, n182_σ180gen_3', n182_σ180gen_a, n182_σ180gen_a', f3444, f3622, f3625, f3628, h3638]; simp only [if_pos hg]; simp [h182_3, h182_4, h182_5, h182_6, h182_7, h182_8, h182_9, h182_10, h182_11, h182_15, h182_16, h182_17, g182_0, g182_1, g182_2, g182_3, g182_4, g182_5, g182_6, g182_7, n182_σ160gen_0, n182_σ160gen_0', n182_σ160gen_1, n182_σ160gen_1', n182_σ160gen_2, n182_σ160gen_2', n182_σ160gen_a, n182_σ160gen_a', n182_σ180gen_0, n182_σ180gen_0', n182_σ180gen_1, n182_σ180gen_1', n182_σ180gen_2, n182_σ180gen_2', n182_σ180gen_3, n182_σ180gen_3', n182_σ180gen_a, n182_σ180gen_a', f3444, f3622, f3625, f3628, h3638]; rfl)) ?_ | refine dskip_intro ?_ | refine dsel_pure (by with_unfolding_all rfl) _ (fun hg => by (try simp at hg); simp [hg, h182_3, h182_4, h182_5, h182_6, h182_7, h182_8, h182_9, h182_10, h182_11, h182_15, h182_16, h182_17, g182_0, g182_1, g182_2, g182_3, g182_4, g182_5, g182_6, g182_7, n182_σ160gen_0, n182_σ160gen_0', n182_σ160gen_1, n182_σ160gen_1', n182_σ160gen_2, n182_σ160gen_2', n182_σ160gen_a, n182_σ160gen_a', n182_σ180gen_0, n182_σ180gen_0', n182_σ180gen_1, n182_σ180gen_1', n182_σ180gen_2, n182_σ180gen_2', n182_σ180gen_3, n182_σ180gen_3', n182_σ180gen_a, n182_σ180gen_a', f3444, f3622, f3625, f3628, h3638, hx3443a, hx3443b, hx3621a, hx3621b, hx3624a, hx3624b, hx3627a, hx3627b]; rfl) ?_)
                  obtain ⟨g3642, e3600⟩ := guardO_some e3600
                  refine gsel_call (fun hg => at_await_targeted (under_call g3642 hg)) (fun hg => by (try simp at hg); (first | simp [hg, h182_3, h182_4, h182_5, h182_6, h182_7, h182_8, h182_9, h182_10, h182_11, h182_15, h182_16, h182_17, g182_0, g182_1, g182_2, g182_3, g182_4, g182_5, g182_6, g182_7, n182_σ160gen_0, n182_σ160gen_0', n182_σ160gen_1, n182_σ160gen_1', n182_σ160gen_2, n182_σ160gen_2', n182_σ160gen_a, n182_σ160gen_a', n182_σ180gen_0, n182_σ180gen_0', n182_σ180gen_1, n182_σ180gen_1', n182_σ180gen_2, n182_σ180gen_2', n182_σ180gen_3, n182_σ180gen_3', n182_σ180gen_a, n182_σ180gen_a', f3444, f3622, f3625, f3628, h3638]); try rfl) (fun hg => by (try simp at hg); simp [hg, h182_3, h182_4, h182_5, h182_6, h182_7, h182_8, h182_9, h182_10, h182_11, h182_15, h182_16, h182_17, g182_0, g182_1, g182_2, g182_3, g182_4, g182_5, g182_6, g182_7, n182_σ160gen_0, n182_σ160gen_0', n182_σ160gen_1, n182_σ160gen_1', n182_σ160gen_2, n182_σ160gen_2', n182_σ160gen_a, n182_σ160gen_a', n182_σ180gen_0, n182_σ180gen_0', n182_σ180gen_1, n182_σ180gen_1', n182_σ180gen_2, n182_σ180gen_2', n182_σ180gen_3, n182_σ180gen_3', n182_σ180gen_a, n182_σ180gen_a', f3444, f3622, f3625, f3628, h3638]) (by simp) ?_
                  repeat (first | simp [h182_3, h182_4, h182_5, h182_6, h182_7, h182_8, h182_9, h182_10, h182_11, h182_15, h182_16, h182_17, g182_0, g182_1, g182_2, g182_3, g182_4, g182_5, g182_6, g182_7, n182_σ160gen_0, n182_σ160gen_0', n182_σ160gen_1, n182_σ160gen_1', n182_σ160gen_2, n182_σ160gen_2', n182_σ160gen_a, n182_σ160gen_a', n182_σ180gen_0, n182_σ180gen_0', n182_σ180gen_1, n182_σ180gen_1', n182_σ180gen_2, n182_σ180gen_2', n182_σ180gen_3, n182_σ180gen_3', n182_σ180gen_a, n182_σ180gen_a', f3444, f3622, f3625, f3628, h3638] | with_reducible first | refine awp_reg ?_ | refine awp_draw ?_ | refine ord_l (by kernel_rfl) ?_ | refine ord_e (by kernel_rfl) ?_ | refine ord_c (by kernel_rfl) ?_ | refine ord_d (by kernel_rfl) ?_ | refine And.intro (by omega) ?_ | refine optF_if (by omega) ?_ | refine gsel_pure (by with_unfolding_all rfl) _ (fun hg => by (try simp at hg); first | (simp [hg, h182_3, h182_4, h182_5, h182_6, h182_7, h182_8, h182_9, h182_10, h182_11, h182_15, h182_16, h182_17, g182_0, g182_1, g182_2, g182_3, g182_4, g182_5, g182_6, g182_7, n182_σ160gen_0, n182_σ160gen_0', n182_σ160gen_1, n182_σ160gen_1', n182_σ160gen_2, n182_σ160gen_2', n182_σ160gen_a, n182_σ160gen_a', n182_σ180gen_0, n182_σ180gen_0', n182_σ180gen_1, n182_σ180gen_1', n182_σ180gen_2, n182_σ180gen_2', n182_σ180gen_3, n182_σ180gen_3', n182_σ180gen_a, n182_σ180gen_a', f3444, f3622, f3625, f3628, h3638, hx3443a, hx3443b, hx3621a, hx3621b, hx3624a, hx3624b, hx3627a, hx3627b]; rfl) | (simp [h182_3, h182_4, h182_5, h182_6, h182_7, h182_8, h182_9, h182_10, h182_11, h182_15, h182_16, h182_17, g182_0, g182_1, g182_2, g182_3, g182_4, g182_5, g182_6, g182_7, n182_σ160gen_0, n182_σ160gen_0', n182_σ160gen_1, n182_σ160gen_1', n182_σ160gen_2, n182_σ160gen_2', n182_σ160gen_a, n182_σ160gen_a', n182_σ180gen_0, n182_σ180gen_0', n182_σ180gen_1, n182_σ180gen_1', n182_σ180gen_2, n182_σ180gen_2', n182_σ180gen_3, n182_σ180gen_3', n182_σ180gen_a, n182_σ180gen_a', f3444, f3622, f3625, f3628, h3638]; simp only [if_pos hg]; simp [h182_3, h182_4, h182_5, h182_6, h182_7, h182_8, h182_9, h182_10, h182_11, h182_15, h182_16, h182_17, g182_0, g182_1, g182_2, g182_3, g182_4, g182_5, g182_6, g182_7, n182_σ160gen_0, n182_σ160gen_0', n182_σ160gen_1, n182_σ160gen_1', n182_σ160gen_2, n182_σ160gen_2', n182_σ160gen_a, n182_σ160gen_a', n182_σ180gen_0, n182_σ180gen_0', n182_σ180gen_1, n182_σ180gen_1', n182_σ180gen_2, n182_σ180gen_2', n182_σ180gen_3, n182_σ180gen_3', n182_σ180gen_a, n182_σ180gen_a', f3444, f3622, f3625, f3628, h3638]; rfl)) ?_ | refine dskip_intro ?_ | refine dsel_pure (by with_unfolding_all rfl) _ (fun hg => by (try simp at hg); simp [hg, h182_3, h182_4, h182_5, h182_6, h182_7, h182_8, h182_9, h182_10, h182_11, h182_15, h182_16, h182_17, g182_0, g182_1, g182_2, g182_3, g182_4, g182_5, g182_6, g182_7, n182_σ160gen_0, n182_σ160gen_0', n182_σ160gen_1, n182_σ160gen_1', n182_σ160gen_2, n182_σ160gen_2', n182_σ160gen_a, n182_σ160gen_a', n182_σ180gen_0, n182_σ180gen_0', n182_σ180gen_1, n182_σ180gen_1', n182_σ180gen_2, n182_σ180gen_2', n182_σ180gen_3, n182_σ180gen_3', n182_σ180gen_a, n182_σ180gen_a', f3444, f3622, f3625, f3628, h3638, hx3443a, hx3443b, hx3621a, hx3621b, hx3624a, hx3624b, hx3627a, hx3627b]; rfl) ?_)
                  refine condK_spec (orB (orB (!y3639) ((await_targeted x3442 (IntKind.i64.wrap (i3548 + 1))).getD default)) ((await_targeted x3442 (IntKind.i64.wrap (i3548 + 2))).getD default)) (by first | rfl | (simp [h182_3, h182_4, h182_5, h182_6, h182_7, h182_8, h182_9, h182_10, h182_11, h182_15, h182_16, h182_17, g182_0, g182_1, g182_2, g182_3, g182_4, g182_5, g182_6, g182_7, n182_σ160gen_0, n182_σ160gen_0', n182_σ160gen_1, n182_σ160gen_1', n182_σ160gen_2, n182_σ160gen_2', n182_σ160gen_a, n182_σ160gen_a', n182_σ180gen_0, n182_σ180gen_0', n182_σ180gen_1, n182_σ180gen_1', n182_σ180gen_2, n182_σ180gen_2', n182_σ180gen_3, n182_σ180gen_3', n182_σ180gen_a, n182_σ180gen_a', f3444, f3622, f3625, f3628, h3638]; done) | (simp [andB, orB, eqI, ltI, Int.natCast_inj, h182_3, h182_4, h182_5, h182_6, h182_7, h182_8, h182_9, h182_10, h182_11, h182_15, h182_16, h182_17, g182_0, g182_1, g182_2, g182_3, g182_4, g182_5, g182_6, g182_7, n182_σ160gen_0, n182_σ160gen_0', n182_σ160gen_1, n182_σ160gen_1', n182_σ160gen_2, n182_σ160gen_2', n182_σ160gen_a, n182_σ160gen_a', n182_σ180gen_0, n182_σ180gen_0', n182_σ180gen_1, n182_σ180gen_1', n182_σ180gen_2, n182_σ180gen_2', n182_σ180gen_3, n182_σ180gen_3', n182_σ180gen_a, n182_σ180gen_a', f3444, f3622, f3625, f3628, h3638]; done)) (fun h3643 => ?_) (fun h3643 => ?_)
                  · replace e3600 := condT h3643 e3600
                    repeat (first | simp [h182_3, h182_4, h182_5, h182_6, h182_7, h182_8, h182_9, h182_10, h182_11, h182_15, h182_16, h182_17, g182_0, g182_1, g182_2, g182_3, g182_4, g182_5, g182_6, g182_7, n182_σ160gen_0, n182_σ160gen_0', n182_σ160gen_1, n182_σ160gen_1', n182_σ160gen_2, n182_σ160gen_2', n182_σ160gen_a, n182_σ160gen_a', n182_σ180gen_0, n182_σ180gen_0', n182_σ180gen_1, n182_σ180gen_1', n182_σ180gen_2, n182_σ180gen_2', n182_σ180gen_3, n182_σ180gen_3', n182_σ180gen_a, n182_σ180gen_a', f3444, f3622, f3625, f3628, h3638] | with_reducible first | refine awp_reg ?_ | refine awp_draw ?_ | refine ord_l (by kernel_rfl) ?_ | refine ord_e (by kernel_rfl) ?_ | refine ord_c (by kernel_rfl) ?_ | refine ord_d (by kernel_rfl) ?_ | refine And.intro (by omega) ?_ | refine optF_if (by omega) ?_ | refine gsel_pure (by with_unfolding_all rfl) _ (fun hg => by (try simp at hg); first | (simp [hg, h182_3, h182_4, h182_5, h182_6, h182_7, h182_8, h182_9, h182_10, h182_11, h182_15, h182_16, h182_17, g182_0, g182_1, g182_2, g182_3, g182_4, g182_5, g182_6, g182_7, n182_σ160gen_0, n182_σ160gen_0', n182_σ160gen_1, n182_σ160gen_1', n182_σ160gen_2, n182_σ160gen_2', n182_σ160gen_a, n182_σ160gen_a', n182_σ180gen_0, n182_σ180gen_0', n182_σ180gen_1, n182_σ180gen_1', n182_σ180gen_2, n182_σ180gen_2', n182_σ180gen_3, n182_σ180gen_3', n182_σ180gen_a, n182_σ180gen_a', f3444, f3622, f3625, f3628, h3638, hx3443a, hx3443b, hx3621a, hx3621b, hx3624a, hx3624b, hx3627a, hx3627b]; rfl) | (simp [h182_3, h182_4, h182_5, h182_6, h182_7, h182_8, h182_9, h182_10, h182_11, h182_15, h182_16, h182_17, g182_0, g182_1, g182_2, g182_3, g182_4, g182_5, g182_6, g182_7, n182_σ160gen_0, n182_σ160gen_0', n182_σ160gen_1, n182_σ160gen_1', n182_σ160gen_2, n182_σ160gen_2', n182_σ160gen_a, n182_σ160gen_a', n182_σ180gen_0, n182_σ180gen_0', n182_σ180gen_1, n182_σ180gen_1', n182_σ180gen_2, n182_σ180gen_2', n182_σ180gen_3, n182_σ180gen_3', n182_σ180gen_a, n182_σ180gen_a', f3444, f3622, f3625, f3628, h3638]; simp only [if_pos hg]; simp [h182_3, h182_4, h182_5, h182_6, h182_7, h182_8, h182_9, h182_10, h182_11, h182_15, h182_16, h182_17, g182_0, g182_1, g182_2, g182_3, g182_4, g182_5, g182_6, g182_7, n182_σ160gen_0, n182_σ160gen_0', n182_σ160gen_1, n182_σ160gen_1', n182_σ160gen_2, n182_σ160gen_2', n182_σ160gen_a, n182_σ160gen_a', n182_σ180gen_0, n182_σ180gen_0', n182_σ180gen_1, n182_σ180gen_1', n182_σ180gen_2, n182_σ180gen_2', n182_σ180gen_3, n182_σ180gen_3', n182_σ180gen_a, n182_σ180gen_a', f3444, f3622, f3625, f3628, h3638]; rfl)) ?_ | refine dskip_intro ?_ | refine dsel_pure (by with_unfolding_all rfl) _ (fun hg => by (try simp at hg); simp [hg, h182_3, h182_4, h182_5, h182_6, h182_7, h182_8, h182_9, h182_10, h182_11, h182_15, h182_16, h182_17, g182_0, g182_1, g182_2, g182_3, g182_4, g182_5, g182_6, g182_7, n182_σ160gen_0, n182_σ160gen_0', n182_σ160gen_1, n182_σ160gen_1', n182_σ160gen_2, n182_σ160gen_2', n182_σ160gen_a, n182_σ160gen_a', n182_σ180gen_0, n182_σ180gen_0', n182_σ180gen_1, n182_σ180gen_1', n182_σ180gen_2, n182_σ180gen_2', n182_σ180gen_3, n182_σ180gen_3', n182_σ180gen_a, n182_σ180gen_a', f3444, f3622, f3625, f3628, h3638, hx3443a, hx3443b, hx3621a, hx3621b, hx3624a, hx3624b, hx3627a, hx3627b]; rfl) ?_)
                    refine hL3603 (q3606, l3547, IntKind.i64.wrap (i3548 + 1)) _ _ (Gh.ren _ (.o (σ181.gen + 5) 0 0) (.l 237) (by simp) rfl rfl) ⟨e3600, ?_, ?_, ?_, ?_, ?_, ?_, ?_, ?_, ?_, ?_, by first | (simp; done) | (simp; omega) | omega⟩ (by omega) <;> simp [St.frz, St.pur, h182_3, h182_4, h182_5, h182_6, h182_7, h182_8, h182_9, h182_10, h182_11, h182_15, h182_16, h182_17, g182_0, g182_1, g182_2, g182_3, g182_4, g182_5, g182_6, g182_7, n182_σ160gen_0, n182_σ160gen_0', n182_σ160gen_1, n182_σ160gen_1', n182_σ160gen_2, n182_σ160gen_2', n182_σ160gen_a, n182_σ160gen_a', n182_σ180gen_0, n182_σ180gen_0', n182_σ180gen_1, n182_σ180gen_1', n182_σ180gen_2, n182_σ180gen_2', n182_σ180gen_3, n182_σ180gen_3', n182_σ180gen_a, n182_σ180gen_a', f3444, f3622, f3625, f3628, h3638]
                  · replace e3600 := condF h3643 e3600
                    repeat (first | simp [h182_3, h182_4, h182_5, h182_6, h182_7, h182_8, h182_9, h182_10, h182_11, h182_15, h182_16, h182_17, g182_0, g182_1, g182_2, g182_3, g182_4, g182_5, g182_6, g182_7, n182_σ160gen_0, n182_σ160gen_0', n182_σ160gen_1, n182_σ160gen_1', n182_σ160gen_2, n182_σ160gen_2', n182_σ160gen_a, n182_σ160gen_a', n182_σ180gen_0, n182_σ180gen_0', n182_σ180gen_1, n182_σ180gen_1', n182_σ180gen_2, n182_σ180gen_2', n182_σ180gen_3, n182_σ180gen_3', n182_σ180gen_a, n182_σ180gen_a', f3444, f3622, f3625, f3628, h3638] | with_reducible first | refine awp_reg ?_ | refine awp_draw ?_ | refine ord_l (by kernel_rfl) ?_ | refine ord_e (by kernel_rfl) ?_ | refine ord_c (by kernel_rfl) ?_ | refine ord_d (by kernel_rfl) ?_ | refine And.intro (by omega) ?_ | refine optF_if (by omega) ?_ | refine gsel_pure (by with_unfolding_all rfl) _ (fun hg => by (try simp at hg); first | (simp [hg, h182_3, h182_4, h182_5, h182_6, h182_7, h182_8, h182_9, h182_10, h182_11, h182_15, h182_16, h182_17, g182_0, g182_1, g182_2, g182_3, g182_4, g182_5, g182_6, g182_7, n182_σ160gen_0, n182_σ160gen_0', n182_σ160gen_1, n182_σ160gen_1', n182_σ160gen_2, n182_σ160gen_2', n182_σ160gen_a, n182_σ160gen_a', n182_σ180gen_0, n182_σ180gen_0', n182_σ180gen_1, n182_σ180gen_1', n182_σ180gen_2, n182_σ180gen_2', n182_σ180gen_3, n182_σ180gen_3', n182_σ180gen_a, n182_σ180gen_a', f3444, f3622, f3625, f3628, h3638, hx3443a, hx3443b, hx3621a, hx3621b, hx3624a, hx3624b, hx3627a, hx3627b]; rfl) | (simp [h182_3, h182_4, h182_5, h182_6, h182_7, h182_8, h182_9, h182_10, h182_11, h182_15, h182_16, h182_17, g182_0, g182_1, g182_2, g182_3, g182_4, g182_5, g182_6, g182_7, n182_σ160gen_0, n182_σ160gen_0', n182_σ160gen_1, n182_σ160gen_1', n182_σ160gen_2, n182_σ160gen_2', n182_σ160gen_a, n182_σ160gen_a', n182_σ180gen_0, n182_σ180gen_0', n182_σ180gen_1, n182_σ180gen_1', n182_σ180gen_2, n182_σ180gen_2', n182_σ180gen_3, n182_σ180gen_3', n182_σ180gen_a, n182_σ180gen_a', f3444, f3622, f3625, f3628, h3638]; simp only [if_pos hg]; simp [h182_3, h182_4, h182_5, h182_6, h182_7, h182_8, h182_9, h182_10, h182_11, h182_15, h182_16, h182_17, g182_0, g182_1, g182_2, g182_3, g182_4, g182_5, g182_6, g182_7, n182_σ160gen_0, n182_σ160gen_0', n182_σ160gen_1, n182_σ160gen_1', n182_σ160gen_2, n182_σ160gen_2', n182_σ160gen_a, n182_σ160gen_a', n182_σ180gen_0, n182_σ180gen_0', n182_σ180gen_1, n182_σ180gen_1', n182_σ180gen_2, n182_σ180gen_2', n182_σ180gen_3, n182_σ180gen_3', n182_σ180gen_a, n182_σ180gen_a', f3444, f3622, f3625, f3628, h3638]; rfl)) ?_ | refine dskip_intro ?_ | refine dsel_pure (by with_unfolding_all rfl) _ (fun hg => by (try simp at hg); simp [hg, h182_3, h182_4, h182_5, h182_6, h182_7, h182_8, h182_9, h182_10, h182_11, h182_15, h182_16, h182_17, g182_0, g182_1, g182_2, g182_3, g182_4, g182_5, g182_6, g182_7, n182_σ160gen_0, n182_σ160gen_0', n182_σ160gen_1, n182_σ160gen_1', n182_σ160gen_2, n182_σ160gen_2', n182_σ160gen_a, n182_σ160gen_a', n182_σ180gen_0, n182_σ180gen_0', n182_σ180gen_1, n182_σ180gen_1', n182_σ180gen_2, n182_σ180gen_2', n182_σ180gen_3, n182_σ180gen_3', n182_σ180gen_a, n182_σ180gen_a', f3444, f3622, f3625, f3628, h3638, hx3443a, hx3443b, hx3621a, hx3621b, hx3624a, hx3624b, hx3627a, hx3627b]; rfl) ?_)
                    obtain ⟨y3651, hx3652, e3600⟩ := bindO e3600
                    try dsimp only at e3600
                    refine callK_pure (at_await_condition hx3652) (by (first | simp [h182_3, h182_4, h182_5, h182_6, h182_7, h182_8, h182_9, h182_10, h182_11, h182_15, h182_16, h182_17, g182_0, g182_1, g182_2, g182_3, g182_4, g182_5, g182_6, g182_7, n182_σ160gen_0, n182_σ160gen_0', n182_σ160gen_1, n182_σ160gen_1', n182_σ160gen_2, n182_σ160gen_2', n182_σ160gen_a, n182_σ160gen_a', n182_σ180gen_0, n182_σ180gen_0', n182_σ180gen_1, n182_σ180gen_1', n182_σ180gen_2, n182_σ180gen_2', n182_σ180gen_3, n182_σ180gen_3', n182_σ180gen_a, n182_σ180gen_a', f3444, f3622, f3625, f3628, h3638] | simp (disch := omega) [h182_3, h182_4, h182_5, h182_6, h182_7, h182_8, h182_9, h182_10, h182_11, h182_15, h182_16, h182_17, g182_0, g182_1, g182_2, g182_3, g182_4, g182_5, g182_6, g182_7, n182_σ160gen_0, n182_σ160gen_0', n182_σ160gen_1, n182_σ160gen_1', n182_σ160gen_2, n182_σ160gen_2', n182_σ160gen_a, n182_σ160gen_a', n182_σ180gen_0, n182_σ180gen_0', n182_σ180gen_1, n182_σ180gen_1', n182_σ180gen_2, n182_σ180gen_2', n182_σ180gen_3, n182_σ180gen_3', n182_σ180gen_a, n182_σ180gen_a', f3444, f3622, f3625, f3628, h3638]); try rfl) (by simp) (by simp) ?_
                    obtain ⟨l3653, hx3654, e3600⟩ := bindO e3600
                    try dsimp only at e3600
                    replace hx3654 := (Option.some.inj hx3654).symm
                    have hx3654n : l3653.length = 1 := by rw [hx3654]; rfl
                    obtain ⟨g3655, e3600⟩ := guardO_some e3600
                    have g3655 := limB_t g3655
                    obtain ⟨g3655a, g3655b⟩ := g3655
                    obtain ⟨l3656, hx3657, e3600⟩ := bindO e3600
                    try dsimp only at e3600
                    replace hx3657 := (Option.some.inj hx3657).symm
                    have hx3657n : l3656.length = (l3547.length + l3653.length) := by rw [hx3657]; simp
                    have hx3657e : encL l3656 = encL l3547 ++ encL l3653 := by rw [hx3657]; simp
                    repeat (first | simp [h182_3, h182_4, h182_5, h182_6, h182_7, h182_8, h182_9, h182_10, h182_11, h182_15, h182_16, h182_17, g182_0, g182_1, g182_2, g182_3, g182_4, g182_5, g182_6, g182_7, n182_σ160gen_0, n182_σ160gen_0', n182_σ160gen_1, n182_σ160gen_1', n182_σ160gen_2, n182_σ160gen_2', n182_σ160gen_a, n182_σ160gen_a', n182_σ180gen_0, n182_σ180gen_0', n182_σ180gen_1, n182_σ180gen_1', n182_σ180gen_2, n182_σ180gen_2', n182_σ180gen_3, n182_σ180gen_3', n182_σ180gen_a, n182_σ180gen_a', f3444, f3622, f3625, f3628, h3638, hx3654, hx3657n, hx3657e] | with_reducible first | refine awp_reg ?_ | refine awp_draw ?_ | refine ord_l (by kernel_rfl) ?_ | refine ord_e (by kernel_rfl) ?_ | refine ord_c (by kernel_rfl) ?_ | refine ord_d (by kernel_rfl) ?_ | refine And.intro (by omega) ?_ | refine optF_if (by omega) ?_ | refine gsel_pure (by with_unfolding_all rfl) _ (fun hg => by (try simp at hg); first | (simp [hg, h182_3, h182_4, h182_5, h182_6, h182_7, h182_8, h182_9, h182_10, h182_11, h182_15, h182_16, h182_17, g182_0, g182_1, g182_2, g182_3, g182_4, g182_5, g182_6, g182_7, n182_σ160gen_0, n182_σ160gen_0', n182_σ160gen_1, n182_σ160gen_1', n182_σ160gen_2, n182_σ160gen_2', n182_σ160gen_a, n182_σ160gen_a', n182_σ180gen_0, n182_σ180gen_0', n182_σ180gen_1, n182_σ180gen_1', n182_σ180gen_2, n182_σ180gen_2', n182_σ180gen_3, n182_σ180gen_3', n182_σ180gen_a, n182_σ180gen_a', f3444, f3622, f3625, f3628, h3638, hx3654, hx3657n, hx3657e, hx3443a, hx3443b, hx3621a, hx3621b, hx3624a, hx3624b, hx3627a, hx3627b]; rfl) | (simp [h182_3, h182_4, h182_5, h182_6, h182_7, h182_8, h182_9, h182_10, h182_11, h182_15, h182_16, h182_17, g182_0, g182_1, g182_2, g182_3, g182_4, g182_5, g182_6, g182_7, n182_σ160gen_0, n182_σ160gen_0', n182_σ160gen_1, n182_σ160gen_1', n182_σ160gen_2, n182_σ160gen_2', n182_σ160gen_a, n182_σ160gen_a', n182_σ180gen_0, n182_σ180gen_0', n182_σ180gen_1, n182_σ180gen_1', n182_σ180gen_2, n182_σ180gen_2', n182_σ180gen_3, n182_σ180gen_3', n182_σ180gen_a, n182_σ180gen_a', f3444, f3622, f3625, f3628, h3638, hx3654, hx3657n, hx3657e]; simp only [if_pos hg]; simp [h182_3, h182_4, h182_5, h182_6, h182_7, h182_8, h182_9, h182_10, h182_11, h182_15, h182_16, h182_17, g182_0, g182_1, g182_2, g182_3, g182_4, g182_5, g182_6, g182_7, n182_σ160gen_0, n182_σ160gen_0', n182_σ160gen_1, n182_σ160gen_1', n182_σ160gen_2, n182_σ160gen_2', n182_σ160gen_a, n182_σ160gen_a', n182_σ180gen_0, n182_σ180gen_0', n182_σ180gen_1, n182_σ180gen_1', n182_σ180gen_2, n182_σ180gen_2', n182_σ180gen_3, n182_σ180gen_3', n182_σ180gen_a, n182_σ180gen_a', f3444, f3622, f3625, f3628, h3638, hx3654, hx3657n, hx3657e]; rfl)) ?_ | refine dskip_intro ?_ | refine dsel_pure (by with_unfolding_all rfl) _ (fun hg => by (try simp at hg); simp [hg, h182_3, h182_4, h182_5, h182_6, h182_7, h182_8, h182_9, h182_10, h182_11, h182_15, h182_16, h182_17, g182_0, g182_1, g182_2, g182_3, g182_4, g182_5, g182_6, g182_7, n182_σ160gen_0, n182_σ160gen_0', n182_σ160gen_1, n182_σ160gen_1', n182_σ160gen_2, n182_σ160gen_2', n182_σ160gen_a, n182_σ160gen_a', n182_σ180gen_0, n182_σ180gen_0', n182_σ180gen_1, n182_σ180gen_1', n182_σ180gen_2, n182_σ180gen_2', n182_σ180gen_3, n182_σ180gen_3', n182_σ180gen_a, n182_σ180gen_a', f3444, f3622, f3625, f3628, h3638, hx3654, hx3657n, hx3657e, hx3443a, hx3443b, hx3621a, hx3621b, hx3624a, hx3624b, hx3627a, hx3627b]; rfl) ?_)
                    refine hL3603 (q3606, l3656, IntKind.i64.wrap (i3548 + 1)) _ _ ((Gh.ren _ (.o (σ181.gen + 4) 16 0) (.l 236) (by simp) rfl rfl).trans (Gh.ren _ (.o (σ181.gen + 6) 0 0) (.l 237) (by simp) rfl rfl)) ⟨e3600, ?_, ?_, ?_, ?_, ?_, ?_, ?_, ?_, ?_, ?_, by first | (simp; done) | (simp; omega) | omega⟩ (by omega) <;> simp [St.frz, St.pur, h182_3, h182_4, h182_5, h182_6, h182_7, h182_8, h182_9, h182_10, h182_11, h182_15, h182_16, h182_17, g182_0, g182_1, g182_2, g182_3, g182_4, g182_5, g182_6, g182_7, n182_σ160gen_0, n182_σ160gen_0', n182_σ160gen_1, n182_σ160gen_1', n182_σ160gen_2, n182_σ160gen_2', n182_σ160gen_a, n182_σ160gen_a', n182_σ180gen_0, n182_σ180gen_0', n182_σ180gen_1, n182_σ180gen_1', n182_σ180gen_2, n182_σ180gen_2', n182_σ180gen_3, n182_σ180gen_3', n182_σ180gen_a, n182_σ180gen_a', f3444, f3622, f3625, f3628, h3638, hx3654, hx3657n, hx3657e]
                · replace e3600 := condF h3638 e3600
                  repeat (first | simp [h182_3, h182_4, h182_5, h182_6, h182_7, h182_8, h182_9, h182_10, h182_11, h182_15, h182_16, h182_17, g182_0, g182_1, g182_2, g182_3, g182_4, g182_5, g182_6, g182_7, n182_σ160gen_0, n182_σ160gen_0', n182_σ160gen_1, n182_σ160gen_1', n182_σ160gen_2, n182_σ160gen_2', n182_σ160gen_a, n182_σ160gen_a', n182_σ180gen_0, n182_σ180gen_0', n182_σ180gen_1, n182_σ180gen_1', n182_σ180gen_2, n182_σ180gen_2', n182_σ180gen_3, n182_σ180gen_3', n182_σ180gen_a, n182_σ180gen_a', f3444, f3622, f3625, f3628, h3638] | with_reducible first | refine awp_reg ?_ | refine awp_draw ?_ | refine ord_l (by kernel_rfl) ?_ | refine ord_e (by kernel_rfl) ?_ | refine ord_c (by kernel_rfl) ?_ | refine ord_d (by kernel_rfl) ?_ | refine And.intro (by omega) ?_ | refine optF_if (by omega) ?_ | refine gsel_pure (by with_unfolding_all rfl) _ (fun hg => by (try simp at hg); first | (simp [hg, h182_3, h182_4, h182_5, h182_6, h182_7, h182_8, h182_9, h182_10, h182_11, h182_15, h182_16, h182_17, g182_0, g182_1, g182_2, g182_3, g182_4, g182_5, g182_6, g182_7, n182_σ160gen_0, n182_σ160gen_0', n182_σ160gen_1, n182_σ160gen_1', n182_σ160gen_2, n182_σ160gen_2', n182_σ160gen_a, n182_σ160gen_a', n182_σ180gen_0, n182_σ180gen_0', n182_σ180gen_1, n182_σ180gen_1', n182_σ180gen_2, n182_σ180gen_2', n182_σ180gen_3, n182_σ180gen_3', n182_σ180gen_a, n182_σ180gen_a', f3444, f3622, f3625, f3628, h3638, hx3443a, hx3443b, hx3621a, hx3621b, hx3624a, hx3624b, hx3627a, hx3627b]; rfl) | (simp [h182_3, h182_4, h182_5, h182_6, h182_7, h182_8, h182_9, h182_10, h182_11, h182_15, h182_16, h182_17, g182_0, g182_1, g182_2, g182_3, g182_4, g182_5, g182_6, g182_7, n182_σ160gen_0, n182_σ160gen_0', n182_σ160gen_1, n182_σ160gen_1', n182_σ160gen_2, n182_σ160gen_2', n182_σ160gen_a, n182_σ160gen_a', n182_σ180gen_0, n182_σ180gen_0', n182_σ180gen_1, n182_σ180gen_1', n182_σ180gen_2, n182_σ180gen_2', n182_σ180gen_3, n182_σ180gen_3', n182_σ180gen_a, n182_σ180gen_a', f3444, f3622, f3625, f3628, h3638]; simp only [if_pos hg]; simp [h182_3, h182_4, h182_5, h182_6, h182_7, h182_8, h182_9, h182_10, h182_11, h182_15, h182_16, h182_17, g182_0, g182_1, g182_2, g182_3, g182_4, g182_5, g182_6, g182_7, n182_σ160gen_0, n182_σ160gen_0', n182_σ160gen_1, n182_σ160gen_1', n182_σ160gen_2, n182_σ160gen_2', n182_σ160gen_a, n182_σ160gen_a', n182_σ180gen_0, n182_σ180gen_0', n182_σ180gen_1, n182_σ180gen_1', n182_σ180gen_2, n182_σ180gen_2', n182_σ180gen_3, n182_σ180gen_3', n182_σ180gen_a, n182_σ180gen_a', f3444, f3622, f3625, f3628, h3638]; rfl)) ?_ | refine dskip_intro ?_ | refine dsel_pure (by with_unfolding_all rfl) _ (fun hg => by (try simp at hg); simp [hg, h182_3, h182_4, h182_5, h182_6, h182_7, h182_8, h182_9, h182_10, h182_11, h182_15, h182_16, h182_17, g182_0, g182_1, g182_2, g182_3, g182_4, g182_5, g182_6, g182_7, n182_σ160gen_0, n182_σ160gen_0', n182_σ160gen_1, n182_σ160gen_1', n182_σ160gen_2, n182_σ160gen_2', n182_σ160gen_a, n182_σ160gen_a', n182_σ180gen_0, n182_σ180gen_0', n182_σ180gen_1, n182_σ180gen_1', n182_σ180gen_2, n182_σ180gen_2', n182_σ180gen_3, n182_σ180gen_3', n182_σ180gen_a, n182_σ180gen_a', f3444, f3622, f3625, f3628, h3638, hx3443a, hx3443b, hx3621a, hx3621b, hx3624a, hx3624b, hx3627a, hx3627b]; rfl) ?_)
                  repeat (first | simp [h182_3, h182_4, h182_5, h182_6, h182_7, h182_8, h182_9, h182_10, h182_11, h182_15, h182_16, h182_17, g182_0, g182_1, g182_2, g182_3, g182_4, g182_5, g182_6, g182_7, n182_σ160gen_0, n182_σ160gen_0', n182_σ160gen_1, n182_σ160gen_1', n182_σ160gen_2, n182_σ160gen_2', n182_σ160gen_a, n182_σ160gen_a', n182_σ180gen_0, n182_σ180gen_0', n182_σ180gen_1, n182_σ180gen_1', n182_σ180gen_2, n182_σ180gen_2', n182_σ180gen_3, n182_σ180gen_3', n182_σ180gen_a, n182_σ180gen_a', f3444, f3622, f3625, f3628, h3638] | with_reducible first | refine awp_reg ?_ | refine And.intro (by omega) ?_ | refine optF_if (by omega) ?_)
                  refine hL3603 (q3606, l3547, IntKind.i64.wrap (i3548 + 1)) _ _ (Gh.ren _ (.o (σ181.gen + 5) 0 0) (.l 237) (by simp) rfl rfl) ⟨e3600, ?_, ?_, ?_, ?_, ?_, ?_, ?_, ?_, ?_, ?_, by first | (simp; done) | (simp; omega) | omega⟩ (by omega) <;> simp [St.frz, St.pur, h182_3, h182_4, h182_5, h182_6, h182_7, h182_8, h182_9, h182_10, h182_11, h182_15, h182_16, h182_17, g182_0, g182_1, g182_2, g182_3, g182_4, g182_5, g182_6, g182_7, n182_σ160gen_0, n182_σ160gen_0', n182_σ160gen_1, n182_σ160gen_1', n182_σ160gen_2, n182_σ160gen_2', n182_σ160gen_a, n182_σ160gen_a', n182_σ180gen_0, n182_σ180gen_0', n182_σ180gen_1, n182_σ180gen_1', n182_σ180gen_2, n182_σ180gen_2', n182_σ180gen_3, n182_σ180gen_3', n182_σ180gen_a, n182_σ180gen_a', f3444, f3622, f3625, f3628, h3638]
            · replace e3600 := condF h3610 e3600
              repeat (first | simp [h179_3, h179_4, h179_5, h179_6, h179_15, h179_16, h179_17, g179_0, g179_1, g179_2, n179_σ160gen_0, n179_σ160gen_0', n179_σ160gen_1, n179_σ160gen_1', n179_σ160gen_2, n179_σ160gen_2', n179_σ160gen_a, n179_σ160gen_a', f3444] | with_reducible first | refine awp_reg ?_ | refine And.intro (by omega) ?_ | refine optF_if (by omega) ?_)
              obtain rfl := Option.some.inj e3600
              try dsimp only at e3438
              refine hK3440 l3547 _ _ (Gh.ren _ (.l 236) (.l 221) (by simp) rfl rfl) ⟨e3438, ?_, ?_, ?_, ?_, ?_, by first | (simp; done) | (simp; omega) | omega⟩ <;> simp [St.frz, St.pur, h179_3, h179_4, h179_5, h179_6, h179_15, h179_16, h179_17, g179_0, g179_1, g179_2, n179_σ160gen_0, n179_σ160gen_0', n179_σ160gen_1, n179_σ160gen_1', n179_σ160gen_2, n179_σ160gen_2', n179_σ160gen_a, n179_σ160gen_a', f3444]
        · obtain ⟨e3438, h172_3, h172_15, h172_16, h172_17, g172_0, n172_g⟩ := hp
          obtain rfl := Option.some.inj e3438
          try dsimp only at e3210
          repeat (first | simp [h172_3, h172_15, h172_16, h172_17, g172_0] | with_reducible refine awp_reg ?_)
          refine hL3213 (q3216, l3437, IntKind.i64.wrap (i2751 + 1)) _ _ (Gh.ren _ (.l 221) (.l 182) (by simp) rfl rfl) ⟨e3210, ?_, ?_, ?_, ?_, ?_, by first | (simp; done) | (simp; omega) | omega⟩ (by omega) <;> simp [St.frz, St.pur, h172_3, h172_15, h172_16, h172_17, g172_0]
      · replace e3210 := condF h3220 e3210
        repeat (first | simp [h159_3, h159_15, h159_16, h159_17, g159_0] | with_reducible refine awp_reg ?_)
        obtain rfl := Option.some.inj e3210
        try dsimp only at e1828
        refine hK1830 l2750 _ _ (Gh.ren _ (.l 182) (.l 61) (by simp) rfl rfl) ⟨e1828, ?_, ?_, by first | (simp; done) | (simp; omega) | omega⟩ <;> simp [St.frz, St.pur, h159_3, h159_15, h159_16, h159_17, g159_0]
  · obtain ⟨e1828, h92_3, g92_0, n92_g⟩ := hp
    obtain rfl := Option.some.inj e1828
    try dsimp only at hs
    repeat (first | simp [h92_3, g92_0] | with_reducible first | refine awp_reg ?_ | refine And.intro (by omega) ?_ | refine optF_if (by omega) ?_)
    obtain rfl := Option.some.inj hs
    refine hQ _ _ (ret2g _ (Gh.frz _ (.l 61)) (by simp [St.frz, St.pur, h92_3, g92_0]; rfl) (by first | rfl | (simp [St.frz, St.pur, h92_3, g92_0]; done) | (rw [if_pos (by first | omega | (simp; omega))]; simp [St.frz, St.pur, h92_3, g92_0]; first | omega | exact List.take_of_length_le (by simp; omega) | skip)) (by simp))
end Go.Dc
end
section
set_option linter.all false
namespace Go.Dc
open Go Go.Hw Go.Proofs
set_option maxRecDepth 100000
def await_Find_L1 : List AwaitSpin → (List Spin) → Nat → Option (List Spin)
  | [], l64, k65 => some (l64)
  | x86 :: q82, l64, k65 => Option.bind (some ([({ Func := x86.fn, First := x86.first, Last := IntKind.i64.wrap (x86.first + 2) } : Spin)])) (fun l90 => guardO (limB 24 (l64.length + l90.length)) (Option.bind (some (l64 ++ l90)) (fun l93 => await_Find_L1 q82 l93 (k65 + 1))))

def await_Find (fuelN : Nat) (a0 : Program) : Option ((List Spin) × Int) :=
  Option.bind (program_Check fuelN a0) (fun y1 => cond (!(eqI y1.1 0)) (some ([], y1.1)) (Option.bind (await_spins fuelN a0) (fun y4 => Option.bind (α := (List Spin)) (guardO (lenB y4.length) (Option.bind (await_Find_L1 y4 [] 0) (fun l75 => some (l75)))) (fun l48 => some (l48, 0)))))

set_option maxHeartbeats 2000000 in
theorem at_await_Find {fuelN : Nat} {a0 : Program} {r : (List Spin) × Int} (hs : await_Find fuelN a0 = some r) : At Tryd.prog 36 [.agg [.p (.sl a0.Vars.length (encL a0.Vars)), .p (.sl a0.Mutexes.length (encL a0.Mutexes)), .p (.sl a0.Conds.length (encL a0.Conds)), .p (.sl a0.Funcs.length (encL a0.Funcs)), .p (.sl a0.Threads.length (encL a0.Threads))]] (.tup [.cell (.p (.sl r.1.length (encL r.1))), iV .i64 r.2]) := by
  refine at_bound (by kernel_rfl) fun hb => ?_
  have hb1 : LenOk (.sl a0.Vars.length (encL a0.Vars)) := hb (.agg [.p (.sl a0.Vars.length (encL a0.Vars)), .p (.sl a0.Mutexes.length (encL a0.Mutexes)), .p (.sl a0.Conds.length (encL a0.Conds)), .p (.sl a0.Funcs.length (encL a0.Funcs)), .p (.sl a0.Threads.length (encL a0.Threads))]) (by simp) (.p (.sl a0.Vars.length (encL a0.Vars))) (by simp)
  have hb2 : LenOk (.sl a0.Mutexes.length (encL a0.Mutexes)) := hb (.agg [.p (.sl a0.Vars.length (encL a0.Vars)), .p (.sl a0.Mutexes.length (encL a0.Mutexes)), .p (.sl a0.Conds.length (encL a0.Conds)), .p (.sl a0.Funcs.length (encL a0.Funcs)), .p (.sl a0.Threads.length (encL a0.Threads))]) (by simp) (.p (.sl a0.Mutexes.length (encL a0.Mutexes))) (by simp)
  have hb3 : LenOk (.sl a0.Conds.length (encL a0.Conds)) := hb (.agg [.p (.sl a0.Vars.length (encL a0.Vars)), .p (.sl a0.Mutexes.length (encL a0.Mutexes)), .p (.sl a0.Conds.length (encL a0.Conds)), .p (.sl a0.Funcs.length (encL a0.Funcs)), .p (.sl a0.Threads.length (encL a0.Threads))]) (by simp) (.p (.sl a0.Conds.length (encL a0.Conds))) (by simp)
  have hb4 : LenOk (.sl a0.Funcs.length (encL a0.Funcs)) := hb (.agg [.p (.sl a0.Vars.length (encL a0.Vars)), .p (.sl a0.Mutexes.length (encL a0.Mutexes)), .p (.sl a0.Conds.length (encL a0.Conds)), .p (.sl a0.Funcs.length (encL a0.Funcs)), .p (.sl a0.Threads.length (encL a0.Threads))]) (by simp) (.p (.sl a0.Funcs.length (encL a0.Funcs))) (by simp)
  have hb5 : LenOk (.sl a0.Threads.length (encL a0.Threads)) := hb (.agg [.p (.sl a0.Vars.length (encL a0.Vars)), .p (.sl a0.Mutexes.length (encL a0.Mutexes)), .p (.sl a0.Conds.length (encL a0.Conds)), .p (.sl a0.Funcs.length (encL a0.Funcs)), .p (.sl a0.Threads.length (encL a0.Threads))]) (by simp) (.p (.sl a0.Threads.length (encL a0.Threads))) (by simp)
  refine at_code mixed Tryd.func36 (by kernel_rfl) rfl (by kernel_rfl) rfl fun Q hQ => ?_
  rw [await_Find] at hs
  repeat (first | simp | with_reducible first | refine awp_reg ?_ | refine And.intro (by omega) ?_ | refine optF_if (by omega) ?_)
  obtain ⟨y1, hx2, hs⟩ := bindO hs
  try dsimp only at hs
  refine callK_pure (at_program_Check hx2) (by (first | simp | simp (disch := omega) []); try rfl) (by simp) (by simp) ?_
  repeat (first | simp | with_reducible first | refine awp_reg ?_ | refine And.intro (by omega) ?_ | refine optF_if (by omega) ?_)
  refine condK_spec (!(eqI y1.1 0)) (by first | rfl | (simp; done) | (simp [andB, orB, eqI, ltI, Int.natCast_inj]; done)) (fun h3 => ?_) (fun h3 => ?_)
  · replace hs := condT h3 hs
    repeat (first | simp | with_reducible first | refine awp_reg ?_ | refine And.intro (by omega) ?_ | refine optF_if (by omega) ?_)
    obtain rfl := Option.some.inj hs
    refine hQ _ _ (ret2g _ (Gh.unz _) (by simp [St.frz, St.pur]; rfl) (by first | rfl | (simp [St.frz, St.pur]; done) | (rw [if_pos (by first | omega | (simp; omega))]; simp [St.frz, St.pur]; first | omega | exact List.take_of_length_le (by simp; omega) | skip)) (by simp))
  · replace hs := condF h3 hs
    repeat (first | simp | with_reducible first | refine awp_reg ?_ | refine And.intro (by omega) ?_ | refine optF_if (by omega) ?_)
    obtain ⟨y4, hx5, hs⟩ := bindO hs
    try dsimp only at hs
    refine callK_pure (at_await_spins hx5) (by (first | simp | simp (disch := omega) []); try rfl) (by simp) (by simp) ?_
    repeat (first | simp [-awp_cond_eq, -awp_block_eq] | with_reducible first | refine awp_reg ?_ | refine And.intro (by omega) ?_ | refine optF_if (by omega) ?_)
    obtain ⟨o50, e49, hs⟩ := bindO hs
    try dsimp only at hs
    refine awp_cutK (fun (v : (List Spin)) (σ : St) => some (v) = some o50 ∧ σ.env 7 = .cell (.sl (.l 2) 0 3 v.length) ∧ σ.hp (.l 2) = some (.pure (encL v)) ∧ 5 ≤ σ.gen) (by rfl) (fun Q hK51 hX52 => ?_) (fun l48 σ3 hp => ?_)
    · repeat (first | simp | with_reducible first | refine awp_reg ?_ | refine And.intro (by omega) ?_ | refine optF_if (by omega) ?_)
      obtain ⟨hb87, e49⟩ := guardO_some e49
      obtain ⟨o77, e76, e49⟩ := bindO e49
      try dsimp only at e49
      refine awp_loopW (fun (v : (List AwaitSpin) × (List Spin) × Nat) (σ : St) => await_Find_L1 v.1 v.2.1 v.2.2 = some o77 ∧ v.1 = y4.drop v.2.2 ∧ σ.env 7 = .cell (.sl (.l 6) 0 3 v.2.1.length) ∧ σ.env 20 = .cell (.p (.sl y4.length (encL y4))) ∧ σ.env 21 = iV .i64 ((y4.length : Nat) : Int) ∧ σ.env 22 = iV .i64 ((v.2.2 : Nat) : Int) ∧ σ.hp (.l 6) = some (.pure (encL v.2.1)) ∧ 5 ≤ σ.gen) (fun v => v.1.length) _ (Gh.void _ (.l 6) 7 3 rfl (by simp)) (y4, [], 0) ⟨e76, by simp, by simp [St.frz, St.pur], by simp [St.frz, St.pur], by simp [St.frz, St.pur], by simp [St.frz, St.pur], by simp [St.frz, St.pur], by first | (simp; done) | (simp; omega) | omega⟩ fun v σ6 hp L78 hL79 => ?_
      obtain ⟨q81, l64, k65⟩ := v
      dsimp only at hp hL79
      obtain ⟨e76, hd80, h5_7, h5_20, h5_21, h5_22, g5_0, n5_g⟩ := hp
      rcases q81 with _ | ⟨x86, q82⟩
      · have hlt83 := drop_end hd80
        rw [await_Find_L1] at e76; try dsimp only at e76
        repeat (first | simp [h5_7, h5_20, h5_21, h5_22, g5_0] | with_reducible refine awp_reg ?_)
        refine condK_f (by simp [ltI]; omega) ?_
        obtain rfl := Option.some.inj e76
        try dsimp only at e49
        refine hK51 l64 _ _ (Gh.ren _ (.l 6) (.l 2) (by simp) rfl rfl) ⟨e49, ?_, ?_, by first | (simp; done) | (simp; omega) | omega⟩ <;> simp [St.frz, St.pur, h5_7, h5_20, h5_21, h5_22, g5_0]
      · obtain ⟨hx85, hlt83, hd88⟩ := drop_next hd80
        have ew84 := wrap_succG hlt83 hb87
        rw [await_Find_L1] at e76; try dsimp only at e76
        repeat (first | simp [h5_7, h5_20, h5_21, h5_22, g5_0, hlt83, ew84] | with_reducible refine awp_reg ?_)
        refine condK_t (by simp [ltI]; omega) ?_
        have f89 : partCV Tryd.prog 100 (encL y4) (k65 * 10) = some (.agg [.p (.c (.int .i64 x86.fn)), .p (.c (.int .i64 x86.first)), .p (.c (.int .i64 x86.await.Op)), .p (.c (.int .i64 x86.await.A)), .p (.c (.int .i64 x86.await.B)), .p (.c (.int .i64 x86.await.C)), .p (.c (.int .i64 x86.await.Obj)), .p (.c (.int .i64 x86.await.N)), .p (.c (.int .i64 x86.await.Fn)), .p (.c (.int .i64 x86.await.Order))]) := partCV_enc hx85 (f := 0) (by simp)
        obtain ⟨l90, hx91, e76⟩ := bindO e76
        try dsimp only at e76
        replace hx91 := (Option.some.inj hx91).symm
        have hx91n : l90.length = 1 := by rw [hx91]; rfl
        obtain ⟨g92, e76⟩ := guardO_some e76
        have g92 := limB_t g92
        obtain ⟨g92a, g92b⟩ := g92
        obtain ⟨l93, hx94, e76⟩ := bindO e76
        try dsimp only at e76
        replace hx94 := (Option.some.inj hx94).symm
        have hx94n : l93.length = (l64.length + l90.length) := by rw [hx94]; simp
        have hx94e : encL l93 = encL l64 ++ encL l90 := by rw [hx94]; simp
        repeat (first | simp [h5_7, h5_20, h5_21, h5_22, g5_0, hlt83, ew84, f89, hx91, hx94n, hx94e] | with_reducible first | refine awp_reg ?_ | refine And.intro (by omega) ?_ | refine optF_if (by omega) ?_)
        refine hL79 (q82, l93, (k65 + 1)) _ _ (Gh.ren _ (.o (σ6.gen + 3) 10 0) (.l 6) (by simp) rfl rfl) ⟨e76, hd88, ?_, ?_, ?_, ?_, ?_, by first | (simp; done) | (simp; omega) | omega⟩ (by simp) <;> simp [St.frz, St.pur, h5_7, h5_20, h5_21, h5_22, g5_0, hlt83, ew84, f89, hx91, hx94n, hx94e]
    · obtain ⟨e49, h4_7, g4_0, n4_g⟩ := hp
      obtain rfl := Option.some.inj e49
      try dsimp only at hs
      repeat (first | simp [h4_7, g4_0] | with_reducible first | refine awp_reg ?_ | refine And.intro (by omega) ?_ | refine optF_if (by omega) ?_)
      obtain rfl := Option.some.inj hs
      refine hQ _ _ (ret2g _ (Gh.frz _ (.l 2)) (by simp [St.frz, St.pur, h4_7, g4_0]; rfl) (by first | rfl | (simp [St.frz, St.pur, h4_7, g4_0]; done) | (rw [if_pos (by first | omega | (simp; omega))]; simp [St.frz, St.pur, h4_7, g4_0]; first | omega | exact List.take_of_length_le (by simp; omega) | skip)) (by simp))
end Go.Dc
end
section
set_option linter.all false
namespace Go.Dc
open Go Go.Hw Go.Proofs
set_option maxRecDepth 100000
def r14_entered_L1 (a1 : Int) : List Inst → Nat → Option (Unit ⊕ Bool)
  | [], k42 => some (.inl ())
  | x59 :: q55, k42 => cond (andB (orB (eqI x59.Op 4) (eqI x59.Op 5)) (eqI x59.N a1)) (some (.inr true)) (r14_entered_L1 a1 q55 (k42 + 1))

def r14_entered (a0 : Func) (a1 : Int) : Option Bool :=
  Option.bind (α := Unit ⊕ Bool) (Option.bind (r14_entered_L1 a1 a0.Code 0) (fun o => match o with | .inl _ => some (.inl ()) | .inr r64 => some (.inr r64))) (fun o => match o with | .inl _ => some false | .inr r65 => some r65)

set_option maxHeartbeats 2000000 in
theorem at_r14_entered {a0 : Func} {a1 : Int} {r : Bool} (hs : r14_entered a0 a1 = some r) : At Tryd.prog 96 [.agg [.p (.c (.string a0.Name)), .p (.sl a0.Code.length (encL a0.Code))], iV .i64 a1] (bV r) := by
  refine at_bound (by kernel_rfl) fun hb => ?_
  have hb1 : LenOk (.sl a0.Code.length (encL a0.Code)) := hb (.agg [.p (.c (.string a0.Name)), .p (.sl a0.Code.length (encL a0.Code))]) (by simp) (.p (.sl a0.Code.length (encL a0.Code))) (by simp)
  refine at_code mixed Tryd.func96 (by kernel_rfl) rfl (by kernel_rfl) rfl fun Q hQ => ?_
  rw [r14_entered] at hs
  repeat (first | simp [-awp_cond_eq, -awp_block_eq] | with_reducible refine awp_reg ?_)
  obtain ⟨o32, e31, hs⟩ := bindO hs
  try dsimp only at hs
  refine awp_cutK (fun (v : Unit) (σ : St) => some (.inl v) = some o32 ∧ 2 ≤ σ.gen) (by rfl) (fun Q hK33 hX34 => ?_) (fun v σ3 hp => ?_)
  · repeat (first | simp | with_reducible refine awp_reg ?_)
    obtain ⟨o50, e49, e31⟩ := bindO e31
    try dsimp only at e31
    refine awp_loopW (fun (v : (List Inst) × Nat) (σ : St) => r14_entered_L1 a1 v.1 v.2 = some o50 ∧ v.1 = a0.Code.drop v.2 ∧ σ.env 1 = iV .i64 a1 ∧ σ.env 2 = .cell (.ref (.o 1 0 0) 0) ∧ σ.env 5 = iV .i64 ((v.2 : Nat) : Int) ∧ σ.hp (.o 1 0 0) = some (.cells [.p (.c (.string a0.Name)), .p (.sl a0.Code.length (encL a0.Code))]) ∧ 2 ≤ σ.gen) (fun v => v.1.length) _ (Gh.refl _) (a0.Code, 0) ⟨e49, by simp, by simp [St.frz, St.pur], by simp [St.frz, St.pur], by simp [St.frz, St.pur], by simp [St.frz, St.pur], by first | (simp; done) | (simp; omega) | omega⟩ fun v σ6 hp L51 hL52 => ?_
    obtain ⟨q54, k42⟩ := v
    dsimp only at hp hL52
    obtain ⟨e49, hd53, h5_1, h5_2, h5_5, g5_0, n5_g⟩ := hp
    have n5_0 : ¬ (σ6.gen = 0) := by omega
    rcases q54 with _ | ⟨x59, q55⟩
    · have hlt56 := drop_end hd53
      rw [r14_entered_L1] at e49; try dsimp only at e49
      repeat (first | simp [h5_1, h5_2, h5_5, g5_0, n5_0] | with_reducible first | refine awp_reg ?_ | refine And.intro (by omega) ?_ | refine optF_if (by omega) ?_)
      refine condK_f (by simp [ltI]; omega) ?_
      obtain rfl := Option.some.inj e49
      try dsimp only at e31
      exact hK33 () _ _ (Gh.refl _) ⟨e31, by first | (simp; done) | (simp; omega) | omega⟩
    · obtain ⟨hx58, hlt56, hd60⟩ := drop_next hd53
      have ew57 := wrap_succ hlt56 (hb1).len
      rw [r14_entered_L1] at e49; try dsimp only at e49
      repeat (first | simp [h5_1, h5_2, h5_5, g5_0, n5_0, hlt56, ew57] | with_reducible first | refine awp_reg ?_ | refine And.intro (by omega) ?_ | refine optF_if (by omega) ?_)
      refine condK_t (by simp [ltI]; omega) ?_
      have f61 : partCV Tryd.prog 67 (encL a0.Code) (k42 * 8) = some (iV .i64 x59.Op) := partCV_enc hx58 (f := 0) (by simp)
      have f62 : partCV Tryd.prog 3 (encL a0.Code) (k42 * 8 + 5) = some (iV .i64 x59.N) := partCV_enc hx58 (f := 5) (by simp)
      repeat (first | simp [h5_1, h5_2, h5_5, g5_0, n5_0, hlt56, ew57, f61, f62] | with_reducible first | refine awp_reg ?_ | refine optF_if (by omega) ?_ | refine gsel_pure (by with_unfolding_all rfl) _ (fun hg => by (try simp at hg); first | (simp [hg, h5_1, h5_2, h5_5, g5_0, n5_0, hlt56, ew57, f61, f62]; rfl) | (simp [h5_1, h5_2, h5_5, g5_0, n5_0, hlt56, ew57, f61, f62]; simp only [if_pos hg]; simp [h5_1, h5_2, h5_5, g5_0, n5_0, hlt56, ew57, f61, f62]; rfl)) ?_)
      refine condK_spec (andB (orB (eqI x59.Op 4) (eqI x59.Op 5)) (eqI x59.N a1)) (by first | rfl | (simp [h5_1, h5_2, h5_5, g5_0, n5_0, hlt56, ew57, f61, f62]; done) | (simp [andB, orB, eqI, ltI, Int.natCast_inj, h5_1, h5_2, h5_5, g5_0, n5_0, hlt56, ew57, f61, f62]; done)) (fun h63 => ?_) (fun h63 => ?_)
      · replace e49 := condT h63 e49
        repeat (first | simp [h5_1, h5_2, h5_5, g5_0, n5_0, hlt56, ew57, f61, f62] | with_reducible first | refine awp_reg ?_ | refine optF_if (by omega) ?_ | refine gsel_pure (by with_unfolding_all rfl) _ (fun hg => by (try simp at hg); first | (simp [hg, h5_1, h5_2, h5_5, g5_0, n5_0, hlt56, ew57, f61, f62]; rfl) | (simp [h5_1, h5_2, h5_5, g5_0, n5_0, hlt56, ew57, f61, f62]; simp only [if_pos hg]; simp [h5_1, h5_2, h5_5, g5_0, n5_0, hlt56, ew57, f61, f62]; rfl)) ?_)
        obtain rfl := Option.some.inj e49
        try dsimp only at e31
        obtain rfl := Option.some.inj e31
        try dsimp only at hs
        refine hX34 _ _ (by simp) ?_
        repeat (first | simp [h5_1, h5_2, h5_5, g5_0, n5_0, hlt56, ew57, f61, f62] | with_reducible first | refine awp_reg ?_ | refine optF_if (by omega) ?_ | refine gsel_pure (by with_unfolding_all rfl) _ (fun hg => by (try simp at hg); first | (simp [hg, h5_1, h5_2, h5_5, g5_0, n5_0, hlt56, ew57, f61, f62]; rfl) | (simp [h5_1, h5_2, h5_5, g5_0, n5_0, hlt56, ew57, f61, f62]; simp only [if_pos hg]; simp [h5_1, h5_2, h5_5, g5_0, n5_0, hlt56, ew57, f61, f62]; rfl)) ?_)
        obtain rfl := Option.some.inj hs
        refine hQ _ _ (ret2g _ (Gh.refl _) (by simp [St.frz, St.pur, h5_1, h5_2, h5_5, g5_0, n5_0, hlt56, ew57, f61, f62]; rfl) (by first | rfl | (simp [St.frz, St.pur, h5_1, h5_2, h5_5, g5_0, n5_0, hlt56, ew57, f61, f62]; done) | (rw [if_pos (by first | omega | (simp; omega))]; simp [St.frz, St.pur, h5_1, h5_2, h5_5, g5_0, n5_0, hlt56, ew57, f61, f62]; first | omega | exact List.take_of_length_le (by simp; omega) | skip)) (by simp))
      · replace e49 := condF h63 e49
        repeat (first | simp [h5_1, h5_2, h5_5, g5_0, n5_0, hlt56, ew57, f61, f62] | with_reducible first | refine awp_reg ?_ | refine optF_if (by omega) ?_ | refine gsel_pure (by with_unfolding_all rfl) _ (fun hg => by (try simp at hg); first | (simp [hg, h5_1, h5_2, h5_5, g5_0, n5_0, hlt56, ew57, f61, f62]; rfl) | (simp [h5_1, h5_2, h5_5, g5_0, n5_0, hlt56, ew57, f61, f62]; simp only [if_pos hg]; simp [h5_1, h5_2, h5_5, g5_0, n5_0, hlt56, ew57, f61, f62]; rfl)) ?_)
        refine hL52 (q55, (k42 + 1)) _ _ (Gh.refl _) ⟨e49, hd60, ?_, ?_, ?_, ?_, by first | (simp; done) | (simp; omega) | omega⟩ (by simp) <;> simp [St.frz, St.pur, h5_1, h5_2, h5_5, g5_0, n5_0, hlt56, ew57, f61, f62]
  · obtain ⟨e31, n4_g⟩ := hp
    obtain rfl := Option.some.inj e31
    try dsimp only at hs
    repeat (first | simp | with_reducible refine awp_reg ?_)
    obtain rfl := Option.some.inj hs
    refine hQ _ _ (ret2g _ (Gh.refl _) (by simp [St.frz, St.pur]; rfl) (by first | rfl | (simp [St.frz, St.pur]; done) | (rw [if_pos (by first | omega | (simp; omega))]; simp [St.frz, St.pur]; first | omega | exact List.take_of_length_le (by simp; omega) | skip)) (by simp))
end Go.Dc
end
section
set_option linter.all false
namespace Go.Dc
open Go Go.Hw Go.Proofs
set_option maxRecDepth 100000

def r14_Condition (a0 : Func) (a1 : Int) : Option (Inst × Bool) :=
  cond (orB (ltI a1 0) (ltI (IntKind.i64.wrap (((a0.Code.length : Nat) : Int) - 3)) a1)) (some (({ Op := 0, A := 0, B := 0, C := 0, Obj := 0, N := 0, Fn := 0, Order := 0 } : Inst), false)) (Option.bind (getI a0.Code a1) (fun x11 => Option.bind (getI a0.Code (IntKind.i64.wrap (a1 + 1))) (fun x14 => Option.bind (getI a0.Code (IntKind.i64.wrap (a1 + 2))) (fun x17 => cond (orB (orB (orB (orB (!(eqI x11.Op 8)) (!(eqI x14.Op 3))) (!(eqI x17.Op 5))) (!(eqI x17.B x14.A))) (!(eqI x17.N a1))) (some (({ Op := 0, A := 0, B := 0, C := 0, Obj := 0, N := 0, Fn := 0, Order := 0 } : Inst), false)) (Option.bind (r14_entered a0 (IntKind.i64.wrap (a1 + 1))) (fun y21 => guardO (orB (!(!y21)) ((r14_entered a0 (IntKind.i64.wrap (a1 + 2))).isSome)) (cond (orB (orB y21 ((r14_entered a0 (IntKind.i64.wrap (a1 + 2))).getD default)) (eqB (eqI x14.B x11.A) (eqI x14.C x11.A))) (some (({ Op := 0, A := 0, B := 0, C := 0, Obj := 0, N := 0, Fn := 0, Order := 0 } : Inst), false)) (Option.bind (α := Int) (cond (eqI x14.B x11.A) (some (x14.C)) (some (x14.B))) (fun i26 => Option.bind (α := Nat) (cond (eqI x14.Fn 7) (some (8)) (cond (eqI x14.Fn 8) (some (7)) (cond (eqI x14.Fn 9) (some (10)) (cond (eqI x14.Fn 10) (some (9)) (some (0)))))) (fun k36 => cond (orB (orB (eqI ((k36 : Nat) : Int) 0) (eqI i26 x14.A)) (andB (eqI x14.B x11.A) (orB (eqI x14.Fn 9) (eqI x14.Fn 10)))) (some (({ Op := 0, A := 0, B := 0, C := 0, Obj := 0, N := 0, Fn := 0, Order := 0 } : Inst), false)) (some (({ Op := 14, A := x11.A, B := i26, C := 0, Obj := x11.Obj, N := 0, Fn := ((k36 : Nat) : Int), Order := x11.Order } : Inst), true))))))))))))

set_option maxHeartbeats 2000000 in
theorem at_r14_Condition {a0 : Func} {a1 : Int} {r : Inst × Bool} (hs : r14_Condition a0 a1 = some r) : At Tryd.prog 67 [.agg [.p (.c (.string a0.Name)), .p (.sl a0.Code.length (encL a0.Code))], iV .i64 a1] (.tup [.agg [.p (.c (.int .i64 r.1.Op)), .p (.c (.int .i64 r.1.A)), .p (.c (.int .i64 r.1.B)), .p (.c (.int .i64 r.1.C)), .p (.c (.int .i64 r.1.Obj)), .p (.c (.int .i64 r.1.N)), .p (.c (.int .i64 r.1.Fn)), .p (.c (.int .i64 r.1.Order))], bV r.2]) := by
  refine at_bound (by kernel_rfl) fun hb => ?_
  have hb1 : LenOk (.sl a0.Code.length (encL a0.Code)) := hb (.agg [.p (.c (.string a0.Name)), .p (.sl a0.Code.length (encL a0.Code))]) (by simp) (.p (.sl a0.Code.length (encL a0.Code))) (by simp)
  refine at_code mixed Tryd.func67 (by kernel_rfl) rfl (by kernel_rfl) rfl fun Q hQ => ?_
  rw [r14_Condition] at hs
  repeat (first | simp | with_reducible first | refine awp_reg ?_ | refine And.intro (by omega) ?_ | refine optF_if (by omega) ?_ | refine gsel_pure (by with_unfolding_all rfl) _ (fun hg => by (try simp at hg); first | (simp [hg]; rfl) | (simp; simp only [if_pos hg]; simp; rfl)) ?_)
  refine condK_spec (orB (ltI a1 0) (ltI (IntKind.i64.wrap (((a0.Code.length : Nat) : Int) - 3)) a1)) (by first | rfl | (simp; done) | (simp [andB, orB, eqI, ltI, Int.natCast_inj]; done)) (fun h1 => ?_) (fun h1 => ?_)
  · replace hs := condT h1 hs
    repeat (first | simp | with_reducible first | refine awp_reg ?_ | refine And.intro (by omega) ?_ | refine optF_if (by omega) ?_ | refine gsel_pure (by with_unfolding_all rfl) _ (fun hg => by (try simp at hg); first | (simp [hg]; rfl) | (simp; simp only [if_pos hg]; simp; rfl)) ?_)
    obtain rfl := Option.some.inj hs
    refine hQ _ _ (ret2g _ (Gh.refl _) (by simp [St.frz, St.pur]; rfl) (by first | rfl | (simp [St.frz, St.pur]; done) | (rw [if_pos (by first | omega | (simp; omega))]; simp [St.frz, St.pur]; first | omega | exact List.take_of_length_le (by simp; omega) | skip)) (by simp))
  · replace hs := condF h1 hs
    obtain ⟨x11, hx12, hs⟩ := bindO hs
    try dsimp only at hs
    obtain ⟨hx12a, hx12b, hx12c, hx12d⟩ := getI_some hx12
    have f13 : partCV Tryd.prog 71 (encL a0.Code) (((a1).toNat) * 8) = some (.agg [.p (.c (.int .i64 x11.Op)), .p (.c (.int .i64 x11.A)), .p (.c (.int .i64 x11.B)), .p (.c (.int .i64 x11.C)), .p (.c (.int .i64 x11.Obj)), .p (.c (.int .i64 x11.N)), .p (.c (.int .i64 x11.Fn)), .p (.c (.int .i64 x11.Order))]) := partCV_enc hx12d (f := 0) (by simp)
    obtain ⟨x14, hx15, hs⟩ := bindO hs
    try dsimp only at hs
    obtain ⟨hx15a, hx15b, hx15c, hx15d⟩ := getI_some hx15
    have f16 : partCV Tryd.prog 71 (encL a0.Code) (((IntKind.i64.wrap (a1 + 1)).toNat) * 8) = some (.agg [.p (.c (.int .i64 x14.Op)), .p (.c (.int .i64 x14.A)), .p (.c (.int .i64 x14.B)), .p (.c (.int .i64 x14.C)), .p (.c (.int .i64 x14.Obj)), .p (.c (.int .i64 x14.N)), .p (.c (.int .i64 x14.Fn)), .p (.c (.int .i64 x14.Order))]) := partCV_enc hx15d (f := 0) (by simp)
    obtain ⟨x17, hx18, hs⟩ := bindO hs
    try dsimp only at hs
    obtain ⟨hx18a, hx18b, hx18c, hx18d⟩ := getI_some hx18
    have f19 : partCV Tryd.prog 71 (encL a0.Code) (((IntKind.i64.wrap (a1 + 2)).toNat) * 8) = some (.agg [.p (.c (.int .i64 x17.Op)), .p (.c (.int .i64 x17.A)), .p (.c (.int .i64 x17.B)), .p (.c (.int .i64 x17.C)), .p (.c (.int .i64 x17.Obj)), .p (.c (.int .i64 x17.N)), .p (.c (.int .i64 x17.Fn)), .p (.c (.int .i64 x17.Order))]) := partCV_enc hx18d (f := 0) (by simp)
    repeat (first | simp [f13, f16, f19] | with_reducible first | refine awp_reg ?_ | refine awp_draw ?_ | refine ord_l (by kernel_rfl) ?_ | refine ord_e (by kernel_rfl) ?_ | refine ord_c (by kernel_rfl) ?_ | refine ord_d (by kernel_rfl) ?_ | refine And.intro (by omega) ?_ | refine optF_if (by omega) ?_ | refine gsel_pure (by with_unfolding_all rfl) _ (fun hg => by (try simp at hg); first | (simp [hg, f13, f16, f19]; rfl) | (simp [f13, f16, f19]; simp only [if_pos hg]; simp [f13, f16, f19]; rfl)) ?_ | refine dskip_intro ?_ | refine dsel_pure (by with_unfolding_all rfl) _ (fun hg => by (try simp at hg); simp [hg, f13, f16, f19]; rfl) ?_)
    refine condK_spec (orB (orB (orB (orB (!(eqI x11.Op 8)) (!(eqI x14.Op 3))) (!(eqI x17.Op 5))) (!(eqI x17.B x14.A))) (!(eqI x17.N a1))) (by first | rfl | (simp [f13, f16, f19]; done) | (simp [andB, orB, eqI, ltI, Int.natCast_inj, f13, f16, f19]; done)) (fun h20 => ?_) (fun h20 => ?_)
    · replace hs := condT h20 hs
      repeat (first | simp [f13, f16, f19] | with_reducible first | refine awp_reg ?_ | refine awp_draw ?_ | refine ord_l (by kernel_rfl) ?_ | refine ord_e (by kernel_rfl) ?_ | refine ord_c (by kernel_rfl) ?_ | refine ord_d (by kernel_rfl) ?_ | refine And.intro (by omega) ?_ | refine optF_if (by omega) ?_ | refine gsel_pure (by with_unfolding_all rfl) _ (fun hg => by (try simp at hg); first | (simp [hg, f13, f16, f19]; rfl) | (simp [f13, f16, f19]; simp only [if_pos hg]; simp [f13, f16, f19]; rfl)) ?_ | refine dskip_intro ?_ | refine dsel_pure (by with_unfolding_all rfl) _ (fun hg => by (try simp at hg); simp [hg, f13, f16, f19]; rfl) ?_)
      obtain rfl := Option.some.inj hs
      refine hQ _ _ (ret2g _ (Gh.refl _) (by simp [St.frz, St.pur, f13, f16, f19]; rfl) (by first | rfl | (simp [St.frz, St.pur, f13, f16, f19]; done) | (rw [if_pos (by first | omega | (simp; omega))]; simp [St.frz, St.pur, f13, f16, f19]; first | omega | exact List.take_of_length_le (by simp; omega) | skip)) (by simp))
    · replace hs := condF h20 hs
      repeat (first | simp [f13, f16, f19] | with_reducible first | refine awp_reg ?_ | refine awp_draw ?_ | refine ord_l (by kernel_rfl) ?_ | refine ord_e (by kernel_rfl) ?_ | refine ord_c (by kernel_rfl) ?_ | refine ord_d (by kernel_rfl) ?_ | refine And.intro (by omega) ?_ | refine optF_if (by omega) ?_ | refine gsel_pure (by with_unfolding_all rfl) _ (fun hg => by (try simp at hg); first | (simp [hg, f13, f16, f19]; rfl) | (simp [f13, f16, f19]; simp only [if_pos hg]; simp [f13, f16, f19]; rfl)) ?_ | refine dskip_intro ?_ | refine dsel_pure (by with_unfolding_all rfl) _ (fun hg => by (try simp at hg); simp [hg, f13, f16, f19]; rfl) ?_)
      obtain ⟨y21, hx22, hs⟩ := bindO hs
      try dsimp only at hs
      refine callK_pure (at_r14_entered hx22) (by (first | simp [f13, f16, f19] | simp (disch := omega) [f13, f16, f19]); try rfl) (by simp) (by simp) ?_
      repeat (first | simp [f13, f16, f19] | with_reducible first | refine awp_reg ?_ | refine awp_draw ?_ | refine ord_l (by kernel_rfl) ?_ | refine ord_e (by kernel_rfl) ?_ | refine ord_c (by kernel_rfl) ?_ | refine ord_d (by kernel_rfl) ?_ | refine And.intro (by omega) ?_ | refine optF_if (by omega) ?_ | refine gsel_pure (by with_unfolding_all rfl) _ (fun hg => by (try simp at hg); first | (simp [hg, f13, f16, f19]; rfl) | (simp [f13, f16, f19]; simp only [if_pos hg]; simp [f13, f16, f19]; rfl)) ?_ | refine dskip_intro ?_ | refine dsel_pure (by with_unfolding_all rfl) _ (fun hg => by (try simp at hg); simp [hg, f13, f16, f19]; rfl) ?_)
      obtain ⟨g23, hs⟩ := guardO_some hs
      refine gsel_call (fun hg => at_r14_entered (under_call g23 hg)) (fun hg => by (try simp at hg); (first | simp [hg, f13, f16, f19]); try rfl) (fun hg => by (try simp at hg); simp [hg, f13, f16, f19]) (by simp) ?_
      repeat (first | simp [f13, f16, f19] | with_reducible first | refine awp_reg ?_ | refine awp_draw ?_ | refine ord_l (by kernel_rfl) ?_ | refine ord_e (by kernel_rfl) ?_ | refine ord_c (by kernel_rfl) ?_ | refine ord_d (by kernel_rfl) ?_ | refine And.intro (by omega) ?_ | refine optF_if (by omega) ?_ | refine gsel_pure (by with_unfolding_all rfl) _ (fun hg => by (try simp at hg); first | (simp [hg, f13, f16, f19]; rfl) | (simp [f13, f16, f19]; simp only [if_pos hg]; simp [f13, f16, f19]; rfl)) ?_ | refine dskip_intro ?_ | refine dsel_pure (by with_unfolding_all rfl) _ (fun hg => by (try simp at hg); simp [hg, f13, f16, f19]; rfl) ?_)
      refine condK_spec (orB (orB y21 ((r14_entered a0 (IntKind.i64.wrap (a1 + 2))).getD default)) (eqB (eqI x14.B x11.A) (eqI x14.C x11.A))) (by first | rfl | (simp [f13, f16, f19]; done) | (simp [andB, orB, eqI, ltI, Int.natCast_inj, f13, f16, f19]; done)) (fun h24 => ?_) (fun h24 => ?_)
      · replace hs := condT h24 hs
        repeat (first | simp [f13, f16, f19] | with_reducible first | refine awp_reg ?_ | refine awp_draw ?_ | refine ord_l (by kernel_rfl) ?_ | refine ord_e (by kernel_rfl) ?_ | refine ord_c (by kernel_rfl) ?_ | refine ord_d (by kernel_rfl) ?_ | refine And.intro (by omega) ?_ | refine optF_if (by omega) ?_ | refine gsel_pure (by with_unfolding_all rfl) _ (fun hg => by (try simp at hg); first | (simp [hg, f13, f16, f19]; rfl) | (simp [f13, f16, f19]; simp only [if_pos hg]; simp [f13, f16, f19]; rfl)) ?_ | refine dskip_intro ?_ | refine dsel_pure (by with_unfolding_all rfl) _ (fun hg => by (try simp at hg); simp [hg, f13, f16, f19]; rfl) ?_)
        obtain rfl := Option.some.inj hs
        refine hQ _ _ (ret2g _ (Gh.refl _) (by simp [St.frz, St.pur, f13, f16, f19]; rfl) (by first | rfl | (simp [St.frz, St.pur, f13, f16, f19]; done) | (rw [if_pos (by first | omega | (simp; omega))]; simp [St.frz, St.pur, f13, f16, f19]; first | omega | exact List.take_of_length_le (by simp; omega) | skip)) (by simp))
      · replace hs := condF h24 hs
        repeat (first | simp [-awp_cond_eq, -awp_block_eq, f13, f16, f19] | with_reducible first | refine awp_reg ?_ | refine awp_draw ?_ | refine ord_l (by kernel_rfl) ?_ | refine ord_e (by kernel_rfl) ?_ | refine ord_c (by kernel_rfl) ?_ | refine ord_d (by kernel_rfl) ?_ | refine And.intro (by omega) ?_ | refine optF_if (by omega) ?_ | refine gsel_pure (by with_unfolding_all rfl) _ (fun hg => by (try simp at hg); first | (simp [hg, f13, f16, f19]; rfl) | (simp [f13, f16, f19]; simp only [if_pos hg]; simp [f13, f16, f19]; rfl)) ?_ | refine dskip_intro ?_ | refine dsel_pure (by with_unfolding_all rfl) _ (fun hg => by (try simp at hg); simp [hg, f13, f16, f19]; rfl) ?_)
        obtain ⟨o28, e27, hs⟩ := bindO hs
        try dsimp only at hs
        refine awp_cutK (fun (v : Int) (σ : St) => some (v) = some o28 ∧ σ.env 4 = .cell (.ref (.o 1 1 0) 0) ∧ σ.env 7 = .cell (.ref (.o 3 18 0) 0) ∧ σ.env 9 = .cell (.ref (.o 6 9 0) 0) ∧ σ.env 10 = bV (eqI x14.B x11.A) ∧ σ.hp (.o 1 1 0) = some (.cells [.p (.c (.int .i64 0)), .p (.c (.int .i64 0)), .p (.c (.int .i64 0)), .p (.c (.int .i64 0)), .p (.c (.int .i64 0)), .p (.c (.int .i64 0)), .p (.c (.int .i64 0)), .p (.c (.int .i64 0))]) ∧ σ.hp (.o 3 18 0) = some (.cells [.p (.c (.int .i64 x14.Op)), .p (.c (.int .i64 x14.A)), .p (.c (.int .i64 x14.B)), .p (.c (.int .i64 x14.C)), .p (.c (.int .i64 x14.Obj)), .p (.c (.int .i64 x14.N)), .p (.c (.int .i64 x14.Fn)), .p (.c (.int .i64 x14.Order))]) ∧ σ.hp (.o 6 9 0) = some (.cells [.p (.c (.int .i64 14)), .p (.c (.int .i64 x11.A)), .p (.c (.int .i64 v)), .p (.c (.int .i64 0)), .p (.c (.int .i64 x11.Obj)), .p (.c (.int .i64 0)), .p (.c (.int .i64 0)), .p (.c (.int .i64 x11.Order))]) ∧ 8 ≤ σ.gen) (by rfl) (fun Q hK29 hX30 => ?_) (fun i26 σ1 hp => ?_)
        · repeat (first | simp [f13, f16, f19] | with_reducible first | refine awp_reg ?_ | refine awp_draw ?_ | refine ord_l (by kernel_rfl) ?_ | refine ord_e (by kernel_rfl) ?_ | refine ord_c (by kernel_rfl) ?_ | refine ord_d (by kernel_rfl) ?_ | refine And.intro (by omega) ?_ | refine optF_if (by omega) ?_ | refine gsel_pure (by with_unfolding_all rfl) _ (fun hg => by (try simp at hg); first | (simp [hg, f13, f16, f19]; rfl) | (simp [f13, f16, f19]; simp only [if_pos hg]; simp [f13, f16, f19]; rfl)) ?_ | refine dskip_intro ?_ | refine dsel_pure (by with_unfolding_all rfl) _ (fun hg => by (try simp at hg); simp [hg, f13, f16, f19]; rfl) ?_)
          refine condK_spec (eqI x14.B x11.A) (by first | rfl | (simp [f13, f16, f19]; done) | (simp [andB, orB, eqI, ltI, Int.natCast_inj, f13, f16, f19]; done)) (fun h31 => ?_) (fun h31 => ?_)
          · replace e27 := condT h31 e27
            repeat (first | simp [f13, f16, f19] | with_reducible first | refine awp_reg ?_ | refine awp_draw ?_ | refine ord_l (by kernel_rfl) ?_ | refine ord_e (by kernel_rfl) ?_ | refine ord_c (by kernel_rfl) ?_ | refine ord_d (by kernel_rfl) ?_ | refine And.intro (by omega) ?_ | refine optF_if (by omega) ?_ | refine gsel_pure (by with_unfolding_all rfl) _ (fun hg => by (try simp at hg); first | (simp [hg, f13, f16, f19]; rfl) | (simp [f13, f16, f19]; simp only [if_pos hg]; simp [f13, f16, f19]; rfl)) ?_ | refine dskip_intro ?_ | refine dsel_pure (by with_unfolding_all rfl) _ (fun hg => by (try simp at hg); simp [hg, f13, f16, f19]; rfl) ?_)
            refine hK29 x14.C _ _ (Gh.refl _) ⟨e27, ?_, ?_, ?_, ?_, ?_, ?_, ?_, by first | (simp; done) | (simp; omega) | omega⟩ <;> simp [St.frz, St.pur, f13, f16, f19]
          · replace e27 := condF h31 e27
            repeat (first | simp [f13, f16, f19] | with_reducible first | refine awp_reg ?_ | refine awp_draw ?_ | refine ord_l (by kernel_rfl) ?_ | refine ord_e (by kernel_rfl) ?_ | refine ord_c (by kernel_rfl) ?_ | refine ord_d (by kernel_rfl) ?_ | refine And.intro (by omega) ?_ | refine optF_if (by omega) ?_ | refine gsel_pure (by with_unfolding_all rfl) _ (fun hg => by (try simp at hg); first | (simp [hg, f13, f16, f19]; rfl) | (simp [f13, f16, f19]; simp only [if_pos hg]; simp [f13, f16, f19]; rfl)) ?_ | refine dskip_intro ?_ | refine dsel_pure (by with_unfolding_all rfl) _ (fun hg => by (try simp at hg); simp [hg, f13, f16, f19]; rfl) ?_)
            refine hK29 x14.B _ _ (Gh.refl _) ⟨e27, ?_, ?_, ?_, ?_, ?_, ?_, ?_, by first | (simp; done) | (simp; omega) | omega⟩ <;> simp [St.frz, St.pur, f13, f16, f19]
        · obtain ⟨e27, h2_4, h2_7, h2_9, h2_10, g2_0, g2_1, g2_2, n2_g⟩ := hp
          obtain rfl := Option.some.inj e27
          try dsimp only at hs
          have n2_0 : ¬ (σ1.gen = 0) := by omega
          have n2_1 : ¬ (σ1.gen = 1) := by omega
          have n2_2 : ¬ (σ1.gen = 2) := by omega
          have n2_3 : ¬ (σ1.gen = 3) := by omega
          have n2_4 : ¬ (σ1.gen = 4) := by omega
          have n2_5 : ¬ (σ1.gen = 5) := by omega
          repeat (first | simp [-awp_cond_eq, -awp_block_eq, h2_4, h2_7, h2_9, h2_10, g2_0, g2_1, g2_2, n2_0, n2_1, n2_2, n2_3, n2_4, n2_5, f13, f16, f19] | with_reducible first | refine awp_reg ?_ | refine awp_draw ?_ | refine ord_l (by kernel_rfl) ?_ | refine ord_e (by kernel_rfl) ?_ | refine ord_c (by kernel_rfl) ?_ | refine ord_d (by kernel_rfl) ?_ | refine And.intro (by omega) ?_ | refine optF_if (by omega) ?_ | refine gsel_pure (by with_unfolding_all rfl) _ (fun hg => by (try simp at hg); first | (simp [hg, h2_4, h2_7, h2_9, h2_10, g2_0, g2_1, g2_2, n2_0, n2_1, n2_2, n2_3, n2_4, n2_5, f13, f16, f19]; rfl) | (simp [h2_4, h2_7, h2_9, h2_10, g2_0, g2_1, g2_2, n2_0, n2_1, n2_2, n2_3, n2_4, n2_5, f13, f16, f19]; simp only [if_pos hg]; simp [h2_4, h2_7, h2_9, h2_10, g2_0, g2_1, g2_2, n2_0, n2_1, n2_2, n2_3, n2_4, n2_5, f13, f16, f19]; rfl)) ?_ | refine dskip_intro ?_ | refine dsel_pure (by with_unfolding_all rfl) _ (fun hg => by (try simp at hg); simp [hg, h2_4, h2_7, h2_9, h2_10, g2_0, g2_1, g2_2, n2_0, n2_1, n2_2, n2_3, n2_4, n2_5, f13, f16, f19]; rfl) ?_)
          obtain ⟨o38, e37, hs⟩ := bindO hs
          try dsimp only at hs
          refine awp_cutK (fun (v : Nat) (σ : St) => some (v) = some o38 ∧ σ.env 4 = .cell (.ref (.o 1 1 0) 0) ∧ σ.env 7 = .cell (.ref (.o 3 18 0) 0) ∧ σ.env 9 = .cell (.ref (.o 6 9 0) 0) ∧ σ.env 10 = bV (eqI x14.B x11.A) ∧ σ.hp (.o 1 1 0) = some (.cells [.p (.c (.int .i64 0)), .p (.c (.int .i64 0)), .p (.c (.int .i64 0)), .p (.c (.int .i64 0)), .p (.c (.int .i64 0)), .p (.c (.int .i64 0)), .p (.c (.int .i64 0)), .p (.c (.int .i64 0))]) ∧ σ.hp (.o 3 18 0) = some (.cells [.p (.c (.int .i64 x14.Op)), .p (.c (.int .i64 x14.A)), .p (.c (.int .i64 x14.B)), .p (.c (.int .i64 x14.C)), .p (.c (.int .i64 x14.Obj)), .p (.c (.int .i64 x14.N)), .p (.c (.int .i64 x14.Fn)), .p (.c (.int .i64 x14.Order))]) ∧ σ.hp (.o 6 9 0) = some (.cells [.p (.c (.int .i64 14)), .p (.c (.int .i64 x11.A)), .p (.c (.int .i64 i26)), .p (.c (.int .i64 0)), .p (.c (.int .i64 x11.Obj)), .p (.c (.int .i64 0)), .p (.c (.int .i64 ((v : Nat) : Int))), .p (.c (.int .i64 x11.Order))]) ∧ (σ1.gen + 1) ≤ σ.gen) (by rfl) (fun Q hK39 hX40 => ?_) (fun k36 σ3 hp => ?_)
          · repeat (first | simp [h2_4, h2_7, h2_9, h2_10, g2_0, g2_1, g2_2, n2_0, n2_1, n2_2, n2_3, n2_4, n2_5, f13, f16, f19] | with_reducible first | refine awp_reg ?_ | refine awp_draw ?_ | refine ord_l (by kernel_rfl) ?_ | refine ord_e (by kernel_rfl) ?_ | refine ord_c (by kernel_rfl) ?_ | refine ord_d (by kernel_rfl) ?_ | refine And.intro (by omega) ?_ | refine optF_if (by omega) ?_ | refine gsel_pure (by with_unfolding_all rfl) _ (fun hg => by (try simp at hg); first | (simp [hg, h2_4, h2_7, h2_9, h2_10, g2_0, g2_1, g2_2, n2_0, n2_1, n2_2, n2_3, n2_4, n2_5, f13, f16, f19]; rfl) | (simp [h2_4, h2_7, h2_9, h2_10, g2_0, g2_1, g2_2, n2_0, n2_1, n2_2, n2_3, n2_4, n2_5, f13, f16, f19]; simp only [if_pos hg]; simp [h2_4, h2_7, h2_9, h2_10, g2_0, g2_1, g2_2, n2_0, n2_1, n2_2, n2_3, n2_4, n2_5, f13, f16, f19]; rfl)) ?_ | refine dskip_intro ?_ | refine dsel_pure (by with_unfolding_all rfl) _ (fun hg => by (try simp at hg); simp [hg, h2_4, h2_7, h2_9, h2_10, g2_0, g2_1, g2_2, n2_0, n2_1, n2_2, n2_3, n2_4, n2_5, f13, f16, f19]; rfl) ?_)
            refine condK_spec (eqI x14.Fn 7) (by first | rfl | (simp [h2_4, h2_7, h2_9, h2_10, g2_0, g2_1, g2_2, n2_0, n2_1, n2_2, n2_3, n2_4, n2_5, f13, f16, f19]; done) | (simp [andB, orB, eqI, ltI, Int.natCast_inj, h2_4, h2_7, h2_9, h2_10, g2_0, g2_1, g2_2, n2_0, n2_1, n2_2, n2_3, n2_4, n2_5, f13, f16, f19]; done)) (fun h41 => ?_) (fun h41 => ?_)
            · replace e37 := condT h41 e37
              repeat (first | simp [h2_4, h2_7, h2_9, h2_10, g2_0, g2_1, g2_2, n2_0, n2_1, n2_2, n2_3, n2_4, n2_5, f13, f16, f19] | with_reducible first | refine awp_reg ?_ | refine awp_draw ?_ | refine ord_l (by kernel_rfl) ?_ | refine ord_e (by kernel_rfl) ?_ | refine ord_c (by kernel_rfl) ?_ | refine ord_d (by kernel_rfl) ?_ | refine And.intro (by omega) ?_ | refine optF_if (by omega) ?_ | refine gsel_pure (by with_unfolding_all rfl) _ (fun hg => by (try simp at hg); first | (simp [hg, h2_4, h2_7, h2_9, h2_10, g2_0, g2_1, g2_2, n2_0, n2_1, n2_2, n2_3, n2_4, n2_5, f13, f16, f19]; rfl) | (simp [h2_4, h2_7, h2_9, h2_10, g2_0, g2_1, g2_2, n2_0, n2_1, n2_2, n2_3, n2_4, n2_5, f13, f16, f19]; simp only [if_pos hg]; simp [h2_4, h2_7, h2_9, h2_10, g2_0, g2_1, g2_2, n2_0, n2_1, n2_2, n2_3, n2_4, n2_5, f13, f16, f19]; rfl)) ?_ | refine dskip_intro ?_ | refine dsel_pure (by with_unfolding_all rfl) _ (fun hg => by (try simp at hg); simp [hg, h2_4, h2_7, h2_9, h2_10, g2_0, g2_1, g2_2, n2_0, n2_1, n2_2, n2_3, n2_4, n2_5, f13, f16, f19]; rfl) ?_)
              refine hK39 8 _ _ (Gh.refl _) ⟨e37, ?_, ?_, ?_, ?_, ?_, ?_, ?_, by first | (simp; done) | (simp; omega) | omega⟩ <;> simp [St.frz, St.pur, h2_4, h2_7, h2_9, h2_10, g2_0, g2_1, g2_2, n2_0, n2_1, n2_2, n2_3, n2_4, n2_5, f13, f16, f19]
            · replace e37 := condF h41 e37
              repeat (first | simp [h2_4, h2_7, h2_9, h2_10, g2_0, g2_1, g2_2, n2_0, n2_1, n2_2, n2_3, n2_4, n2_5, f13, f16, f19] | with_reducible first | refine awp_reg ?_ | refine awp_draw ?_ | refine ord_l (by kernel_rfl) ?_ | refine ord_e (by kernel_rfl) ?_ | refine ord_c (by kernel_rfl) ?_ | refine ord_d (by kernel_rfl) ?_ | refine And.intro (by omega) ?_ | refine optF_if (by omega) ?_ | refine gsel_pure (by with_unfolding_all rfl) _ (fun hg => by (try simp at hg); first | (simp [hg, h2_4, h2_7, h2_9, h2_10, g2_0, g2_1, g2_2, n2_0, n2_1, n2_2, n2_3, n2_4, n2_5, f13, f16, f19]; rfl) | (simp [h2_4, h2_7, h2_9, h2_10, g2_0, g2_1, g2_2, n2_0, n2_1, n2_2, n2_3, n2_4, n2_5, f13, f16, f19]; simp only [if_pos hg]; simp [h2_4, h2_7, h2_9, h2_10, g2_0, g2_1, g2_2, n2_0, n2_1, n2_2, n2_3, n2_4, n2_5, f13, f16, f19]; rfl)) ?_ | refine dskip_intro ?_ | refine dsel_pure (by with_unfolding_all rfl) _ (fun hg => by (try simp at hg); simp [hg, h2_4, h2_7, h2_9, h2_10, g2_0, g2_1, g2_2, n2_0, n2_1, n2_2, n2_3, n2_4, n2_5, f13, f16, f19]; rfl) ?_)
              refine condK_spec (eqI x14.Fn 8) (by first | rfl | (simp [h2_4, h2_7, h2_9, h2_10, g2_0, g2_1, g2_2, n2_0, n2_1, n2_2, n2_3, n2_4, n2_5, f13, f16, f19]; done) | (simp [andB, orB, eqI, ltI, Int.natCast_inj, h2_4, h2_7, h2_9, h2_10, g2_0, g2_1, g2_2, n2_0, n2_1, n2_2, n2_3, n2_4, n2_5, f13, f16, f19]; done)) (fun h42 => ?_) (fun h42 => ?_)
              · replace e37 := condT h42 e37
                repeat (first | simp [h2_4, h2_7, h2_9, h2_10, g2_0, g2_1, g2_2, n2_0, n2_1, n2_2, n2_3, n2_4, n2_5, f13, f16, f19] | with_reducible first | refine awp_reg ?_ | refine awp_draw ?_ | refine ord_l (by kernel_rfl) ?_ | refine ord_e (by kernel_rfl) ?_ | refine ord_c (by kernel_rfl) ?_ | refine ord_d (by kernel_rfl) ?_ | refine And.intro (by omega) ?_ | refine optF_if (by omega) ?_ | refine gsel_pure (by with_unfolding_all rfl) _ (fun hg => by (try simp at hg); first | (simp [hg, h2_4, h2_7, h2_9, h2_10, g2_0, g2_1, g2_2, n2_0, n2_1, n2_2, n2_3, n2_4, n2_5, f13, f16, f19]; rfl) | (simp [h2_4, h2_7, h2_9, h2_10, g2_0, g2_1, g2_2, n2_0, n2_1, n2_2, n2_3, n2_4, n2_5, f13, f16, f19]; simp only [if_pos hg]; simp [h2_4, h2_7, h2_9, h2_10, g2_0, g2_1, g2_2, n2_0, n2_1, n2_2, n2_3, n2_4, n2_5, f13, f16, f19]; rfl)) ?_ | refine dskip_intro ?_ | refine dsel_pure (by with_unfolding_all rfl) _ (fun hg => by (try simp at hg); simp [hg, h2_4, h2_7, h2_9, h2_10, g2_0, g2_1, g2_2, n2_0, n2_1, n2_2, n2_3, n2_4, n2_5, f13, f16, f19]; rfl) ?_)
                refine hK39 7 _ _ (Gh.refl _) ⟨e37, ?_, ?_, ?_, ?_, ?_, ?_, ?_, by first | (simp; done) | (simp; omega) | omega⟩ <;> simp [St.frz, St.pur, h2_4, h2_7, h2_9, h2_10, g2_0, g2_1, g2_2, n2_0, n2_1, n2_2, n2_3, n2_4, n2_5, f13, f16, f19]
              · replace e37 := condF h42 e37
                repeat (first | simp [h2_4, h2_7, h2_9, h2_10, g2_0, g2_1, g2_2, n2_0, n2_1, n2_2, n2_3, n2_4, n2_5, f13, f16, f19] | with_reducible first | refine awp_reg ?_ | refine awp_draw ?_ | refine ord_l (by kernel_rfl) ?_ | refine ord_e (by kernel_rfl) ?_ | refine ord_c (by kernel_rfl) ?_ | refine ord_d (by kernel_rfl) ?_ | refine And.intro (by omega) ?_ | refine optF_if (by omega) ?_ | refine gsel_pure (by with_unfolding_all rfl) _ (fun hg => by (try simp at hg); first | (simp [hg, h2_4, h2_7, h2_9, h2_10, g2_0, g2_1, g2_2, n2_0, n2_1, n2_2, n2_3, n2_4, n2_5, f13, f16, f19]; rfl) | (simp [h2_4, h2_7, h2_9, h2_10, g2_0, g2_1, g2_2, n2_0, n2_1, n2_2, n2_3, n2_4, n2_5, f13, f16, f19]; simp only [if_pos hg]; simp [h2_4, h2_7, h2_9, h2_10, g2_0, g2_1, g2_2, n2_0, n2_1, n2_2, n2_3, n2_4, n2_5, f13, f16, f19]; rfl)) ?_ | refine dskip_intro ?_ | refine dsel_pure (by with_unfolding_all rfl) _ (fun hg => by (try simp at hg); simp [hg, h2_4, h2_7, h2_9, h2_10, g2_0, g2_1, g2_2, n2_0, n2_1, n2_2, n2_3, n2_4, n2_5, f13, f16, f19]; rfl) ?_)
                refine condK_spec (eqI x14.Fn 9) (by first | rfl | (simp [h2_4, h2_7, h2_9, h2_10, g2_0, g2_1, g2_2, n2_0, n2_1, n2_2, n2_3, n2_4, n2_5, f13, f16, f19]; done) | (simp [andB, orB, eqI, ltI, Int.natCast_inj, h2_4, h2_7, h2_9, h2_10, g2_0, g2_1, g2_2, n2_0, n2_1, n2_2, n2_3, n2_4, n2_5, f13, f16, f19]; done)) (fun h43 => ?_) (fun h43 => ?_)
                · replace e37 := condT h43 e37
                  repeat (first | simp [h2_4, h2_7, h2_9, h2_10, g2_0, g2_1, g2_2, n2_0, n2_1, n2_2, n2_3, n2_4, n2_5, f13, f16, f19] | with_reducible first | refine awp_reg ?_ | refine awp_draw ?_ | refine ord_l (by kernel_rfl) ?_ | refine ord_e (by kernel_rfl) ?_ | refine ord_c (by kernel_rfl) ?_ | refine ord_d (by kernel_rfl) ?_ | refine And.intro (by omega) ?_ | refine optF_if (by omega) ?_ | refine gsel_pure (by with_unfolding_all rfl) _ (fun hg => by (try simp at hg); first | (simp [hg, h2_4, h2_7, h2_9, h2_10, g2_0, g2_1, g2_2, n2_0, n2_1, n2_2, n2_3, n2_4, n2_5, f13, f16, f19]; rfl) | (simp [h2_4, h2_7, h2_9, h2_10, g2_0, g2_1, g2_2, n2_0, n2_1, n2_2, n2_3, n2_4, n2_5, f13, f16, f19]; simp only [if_pos hg]; simp [h2_4, h2_7, h2_9, h2_10, g2_0, g2_1, g2_2, n2_0, n2_1, n2_2, n2_3, n2_4, n2_5, f13, f16, f19]; rfl)) ?_ | refine dskip_intro ?_ | refine dsel_pure (by with_unfolding_all rfl) _ (fun hg => by (try simp at hg); simp [hg, h2_4, h2_7, h2_9, h2_10, g2_0, g2_1, g2_2, n2_0, n2_1, n2_2, n2_3, n2_4, n2_5, f13, f16, f19]; rfl) ?_)
                  refine hK39 10 _ _ (Gh.refl _) ⟨e37, ?_, ?_, ?_, ?_, ?_, ?_, ?_, by first | (simp; done) | (simp; omega) | omega⟩ <;> simp [St.frz, St.pur, h2_4, h2_7, h2_9, h2_10, g2_0, g2_1, g2_2, n2_0, n2_1, n2_2, n2_3, n2_4, n2_5, f13, f16, f19]
                · replace e37 := condF h43 e37
                  repeat (first | simp [h2_4, h2_7, h2_9, h2_10, g2_0, g2_1, g2_2, n2_0, n2_1, n2_2, n2_3, n2_4, n2_5, f13, f16, f19] | with_reducible first | refine awp_reg ?_ | refine awp_draw ?_ | refine ord_l (by kernel_rfl) ?_ | refine ord_e (by kernel_rfl) ?_ | refine ord_c (by kernel_rfl) ?_ | refine ord_d (by kernel_rfl) ?_ | refine And.intro (by omega) ?_ | refine optF_if (by omega) ?_ | refine gsel_pure (by with_unfolding_all rfl) _ (fun hg => by (try simp at hg); first | (simp [hg, h2_4, h2_7, h2_9, h2_10, g2_0, g2_1, g2_2, n2_0, n2_1, n2_2, n2_3, n2_4, n2_5, f13, f16, f19]; rfl) | (simp [h2_4, h2_7, h2_9, h2_10, g2_0, g2_1, g2_2, n2_0, n2_1, n2_2, n2_3, n2_4, n2_5, f13, f16, f19]; simp only [if_pos hg]; simp [h2_4, h2_7, h2_9, h2_10, g2_0, g2_1, g2_2, n2_0, n2_1, n2_2, n2_3, n2_4, n2_5, f13, f16, f19]; rfl)) ?_ | refine dskip_intro ?_ | refine dsel_pure (by with_unfolding_all rfl) _ (fun hg => by (try simp at hg); simp [hg, h2_4, h2_7, h2_9, h2_10, g2_0, g2_1, g2_2, n2_0, n2_1, n2_2, n2_3, n2_4, n2_5, f13, f16, f19]; rfl) ?_)
                  refine condK_spec (eqI x14.Fn 10) (by first | rfl | (simp [h2_4, h2_7, h2_9, h2_10, g2_0, g2_1, g2_2, n2_0, n2_1, n2_2, n2_3, n2_4, n2_5, f13, f16, f19]; done) | (simp [andB, orB, eqI, ltI, Int.natCast_inj, h2_4, h2_7, h2_9, h2_10, g2_0, g2_1, g2_2, n2_0, n2_1, n2_2, n2_3, n2_4, n2_5, f13, f16, f19]; done)) (fun h44 => ?_) (fun h44 => ?_)
                  · replace e37 := condT h44 e37
                    repeat (first | simp [h2_4, h2_7, h2_9, h2_10, g2_0, g2_1, g2_2, n2_0, n2_1, n2_2, n2_3, n2_4, n2_5, f13, f16, f19] | with_reducible first | refine awp_reg ?_ | refine awp_draw ?_ | refine ord_l (by kernel_rfl) ?_ | refine ord_e (by kernel_rfl) ?_ | refine ord_c (by kernel_rfl) ?_ | refine ord_d (by kernel_rfl) ?_ | refine And.intro (by omega) ?_ | refine optF_if (by omega) ?_ | refine gsel_pure (by with_unfolding_all rfl) _ (fun hg => by (try simp at hg); first | (simp [hg, h2_4, h2_7, h2_9, h2_10, g2_0, g2_1, g2_2, n2_0, n2_1, n2_2, n2_3, n2_4, n2_5, f13, f16, f19]; rfl) | (simp [h2_4, h2_7, h2_9, h2_10, g2_0, g2_1, g2_2, n2_0, n2_1, n2_2, n2_3, n2_4, n2_5, f13, f16, f19]; simp only [if_pos hg]; simp [h2_4, h2_7, h2_9, h2_10, g2_0, g2_1, g2_2, n2_0, n2_1, n2_2, n2_3, n2_4, n2_5, f13, f16, f19]; rfl)) ?_ | refine dskip_intro ?_ | refine dsel_pure (by with_unfolding_all rfl) _ (fun hg => by (try simp at hg); simp [hg, h2_4, h2_7, h2_9, h2_10, g2_0, g2_1, g2_2, n2_0, n2_1, n2_2, n2_3, n2_4, n2_5, f13, f16, f19]; rfl) ?_)
                    refine hK39 9 _ _ (Gh.refl _) ⟨e37, ?_, ?_, ?_, ?_, ?_, ?_, ?_, by first | (simp; done) | (simp; omega) | omega⟩ <;> simp [St.frz, St.pur, h2_4, h2_7, h2_9, h2_10, g2_0, g2_1, g2_2, n2_0, n2_1, n2_2, n2_3, n2_4, n2_5, f13, f16, f19]
                  · replace e37 := condF h44 e37
                    repeat (first | simp [h2_4, h2_7, h2_9, h2_10, g2_0, g2_1, g2_2, n2_0, n2_1, n2_2, n2_3, n2_4, n2_5, f13, f16, f19] | with_reducible first | refine awp_reg ?_ | refine awp_draw ?_ | refine ord_l (by kernel_rfl) ?_ | refine ord_e (by kernel_rfl) ?_ | refine ord_c (by kernel_rfl) ?_ | refine ord_d (by kernel_rfl) ?_ | refine And.intro (by omega) ?_ | refine optF_if (by omega) ?_ | refine gsel_pure (by with_unfolding_all rfl) _ (fun hg => by (try simp at hg); first | (simp [hg, h2_4, h2_7, h2_9, h2_10, g2_0, g2_1, g2_2, n2_0, n2_1, n2_2, n2_3, n2_4, n2_5, f13, f16, f19]; rfl) | (simp [h2_4, h2_7, h2_9, h2_10, g2_0, g2_1, g2_2, n2_0, n2_1, n2_2, n2_3, n2_4, n2_5, f13, f16, f19]; simp only [if_pos hg]; simp [h2_4, h2_7, h2_9, h2_10, g2_0, g2_1, g2_2, n2_0, n2_1, n2_2, n2_3, n2_4, n2_5, f13, f16, f19]; rfl)) ?_ | refine dskip_intro ?_ | refine dsel_pure (by with_unfolding_all rfl) _ (fun hg => by (try simp at hg); simp [hg, h2_4, h2_7, h2_9, h2_10, g2_0, g2_1, g2_2, n2_0, n2_1, n2_2, n2_3, n2_4, n2_5, f13, f16, f19]; rfl) ?_)
                    refine hK39 0 _ _ (Gh.refl _) ⟨e37, ?_, ?_, ?_, ?_, ?_, ?_, ?_, by first | (simp; done) | (simp; omega) | omega⟩ <;> simp [St.frz, St.pur, h2_4, h2_7, h2_9, h2_10, g2_0, g2_1, g2_2, n2_0, n2_1, n2_2, n2_3, n2_4, n2_5, f13, f16, f19]
          · obtain ⟨e37, h4_4, h4_7, h4_9, h4_10, g4_0, g4_1, g4_2, n4_g⟩ := hp
            obtain rfl := Option.some.inj e37
            try dsimp only at hs
            have n4_0 : ¬ (σ3.gen = 0) := by omega
            have n4_1 : ¬ (σ3.gen = 1) := by omega
            have n4_2 : ¬ (σ3.gen = 2) := by omega
            have n4_3 : ¬ (σ3.gen = 3) := by omega
            have n4_4 : ¬ (σ3.gen = 4) := by omega
            have n4_5 : ¬ (σ3.gen = 5) := by omega
            repeat (first | simp [h4_4, h4_7, h4_9, h4_10, g4_0, g4_1, g4_2, n4_0, n4_1, n4_2, n4_3, n4_4, n4_5, f13, f16, f19] | with_reducible first | refine awp_reg ?_ | refine awp_draw ?_ | refine ord_l (by kernel_rfl) ?_ | refine ord_e (by kernel_rfl) ?_ | refine ord_c (by kernel_rfl) ?_ | refine ord_d (by kernel_rfl) ?_ | refine And.intro (by omega) ?_ | refine optF_if (by omega) ?_ | refine gsel_pure (by with_unfolding_all rfl) _ (fun hg => by (try simp at hg); first | (simp [hg, h4_4, h4_7, h4_9, h4_10, g4_0, g4_1, g4_2, n4_0, n4_1, n4_2, n4_3, n4_4, n4_5, f13, f16, f19]; rfl) | (simp [h4_4, h4_7, h4_9, h4_10, g4_0, g4_1, g4_2, n4_0, n4_1, n4_2, n4_3, n4_4, n4_5, f13, f16, f19]; simp only [if_pos hg]; simp [h4_4, h4_7, h4_9, h4_10, g4_0, g4_1, g4_2, n4_0, n4_1, n4_2, n4_3, n4_4, n4_5, f13, f16, f19]; rfl)) ?_ | refine dskip_intro ?_ | refine dsel_pure (by with_unfolding_all rfl) _ (fun hg => by (try simp at hg); simp [hg, h4_4, h4_7, h4_9, h4_10, g4_0, g4_1, g4_2, n4_0, n4_1, n4_2, n4_3, n4_4, n4_5, f13, f16, f19]; rfl) ?_)
            refine condK_spec (orB (orB (eqI ((k36 : Nat) : Int) 0) (eqI i26 x14.A)) (andB (eqI x14.B x11.A) (orB (eqI x14.Fn 9) (eqI x14.Fn 10)))) (by first | rfl | (simp [h4_4, h4_7, h4_9, h4_10, g4_0, g4_1, g4_2, n4_0, n4_1, n4_2, n4_3, n4_4, n4_5, f13, f16, f19]; done) | (simp [andB, orB, eqI, ltI, Int.natCast_inj, h4_4, h4_7, h4_9, h4_10, g4_0, g4_1, g4_2, n4_0, n4_1, n4_2, n4_3, n4_4, n4_5, f13, f16, f19]; done)) (fun h45 => ?_) (fun h45 => ?_)
            · replace hs := condT h45 hs
              repeat (first | simp [h4_4, h4_7, h4_9, h4_10, g4_0, g4_1, g4_2, n4_0, n4_1, n4_2, n4_3, n4_4, n4_5, f13, f16, f19] | with_reducible first | refine awp_reg ?_ | refine awp_draw ?_ | refine ord_l (by kernel_rfl) ?_ | refine ord_e (by kernel_rfl) ?_ | refine ord_c (by kernel_rfl) ?_ | refine ord_d (by kernel_rfl) ?_ | refine And.intro (by omega) ?_ | refine optF_if (by omega) ?_ | refine gsel_pure (by with_unfolding_all rfl) _ (fun hg => by (try simp at hg); first | (simp [hg, h4_4, h4_7, h4_9, h4_10, g4_0, g4_1, g4_2, n4_0, n4_1, n4_2, n4_3, n4_4, n4_5, f13, f16, f19]; rfl) | (simp [h4_4, h4_7, h4_9, h4_10, g4_0, g4_1, g4_2, n4_0, n4_1, n4_2, n4_3, n4_4, n4_5, f13, f16, f19]; simp only [if_pos hg]; simp [h4_4, h4_7, h4_9, h4_10, g4_0, g4_1, g4_2, n4_0, n4_1, n4_2, n4_3, n4_4, n4_5, f13, f16, f19]; rfl)) ?_ | refine dskip_intro ?_ | refine dsel_pure (by with_unfolding_all rfl) _ (fun hg => by (try simp at hg); simp [hg, h4_4, h4_7, h4_9, h4_10, g4_0, g4_1, g4_2, n4_0, n4_1, n4_2, n4_3, n4_4, n4_5, f13, f16, f19]; rfl) ?_)
              obtain rfl := Option.some.inj hs
              refine hQ _ _ (ret2g _ (Gh.refl _) (by simp [St.frz, St.pur, h4_4, h4_7, h4_9, h4_10, g4_0, g4_1, g4_2, n4_0, n4_1, n4_2, n4_3, n4_4, n4_5, f13, f16, f19]; rfl) (by first | rfl | (simp [St.frz, St.pur, h4_4, h4_7, h4_9, h4_10, g4_0, g4_1, g4_2, n4_0, n4_1, n4_2, n4_3, n4_4, n4_5, f13, f16, f19]; done) | (rw [if_pos (by first | omega | (simp; omega))]; simp [St.frz, St.pur, h4_4, h4_7, h4_9, h4_10, g4_0, g4_1, g4_2, n4_0, n4_1, n4_2, n4_3, n4_4, n4_5, f13, f16, f19]; first | omega | exact List.take_of_length_le (by simp; omega) | skip)) (by simp))
            · replace hs := condF h45 hs
              repeat (first | simp [h4_4, h4_7, h4_9, h4_10, g4_0, g4_1, g4_2, n4_0, n4_1, n4_2, n4_3, n4_4, n4_5, f13, f16, f19] | with_reducible first | refine awp_reg ?_ | refine awp_draw ?_ | refine ord_l (by kernel_rfl) ?_ | refine ord_e (by kernel_rfl) ?_ | refine ord_c (by kernel_rfl) ?_ | refine ord_d (by kernel_rfl) ?_ | refine And.intro (by omega) ?_ | refine optF_if (by omega) ?_ | refine gsel_pure (by with_unfolding_all rfl) _ (fun hg => by (try simp at hg); first | (simp [hg, h4_4, h4_7, h4_9, h4_10, g4_0, g4_1, g4_2, n4_0, n4_1, n4_2, n4_3, n4_4, n4_5, f13, f16, f19]; rfl) | (simp [h4_4, h4_7, h4_9, h4_10, g4_0, g4_1, g4_2, n4_0, n4_1, n4_2, n4_3, n4_4, n4_5, f13, f16, f19]; simp only [if_pos hg]; simp [h4_4, h4_7, h4_9, h4_10, g4_0, g4_1, g4_2, n4_0, n4_1, n4_2, n4_3, n4_4, n4_5, f13, f16, f19]; rfl)) ?_ | refine dskip_intro ?_ | refine dsel_pure (by with_unfolding_all rfl) _ (fun hg => by (try simp at hg); simp [hg, h4_4, h4_7, h4_9, h4_10, g4_0, g4_1, g4_2, n4_0, n4_1, n4_2, n4_3, n4_4, n4_5, f13, f16, f19]; rfl) ?_)
              obtain rfl := Option.some.inj hs
              refine hQ _ _ (ret2g _ (Gh.refl _) (by simp [St.frz, St.pur, h4_4, h4_7, h4_9, h4_10, g4_0, g4_1, g4_2, n4_0, n4_1, n4_2, n4_3, n4_4, n4_5, f13, f16, f19]; rfl) (by first | rfl | (simp [St.frz, St.pur, h4_4, h4_7, h4_9, h4_10, g4_0, g4_1, g4_2, n4_0, n4_1, n4_2, n4_3, n4_4, n4_5, f13, f16, f19]; done) | (rw [if_pos (by first | omega | (simp; omega))]; simp [St.frz, St.pur, h4_4, h4_7, h4_9, h4_10, g4_0, g4_1, g4_2, n4_0, n4_1, n4_2, n4_3, n4_4, n4_5, f13, f16, f19]; first | omega | exact List.take_of_length_le (by simp; omega) | skip)) (by simp))
end Go.Dc
end
