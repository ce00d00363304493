/- Contracts of functions, by their numbers, and the laws that walk them. Conditions: as each states. -/
import Derived.Test.YtihjddokgmjafaaDoorH3
import Derived.Test.YtihjddokgmjafaaDoorH5
import Derived.Test.YtihjddokgmjafaaDoorH4
import Derived.Test.YtihjddokgmjafaaDoorRows
import Derived.LaidMore
import Derived.MakeChecks
set_option linter.all false
section
set_option linter.all false
namespace Go.Dc
open Go Go.Hw Go.Proofs
set_option maxRecDepth 100000
def r08_Equal_L1 (a1 : Program) : List Var → Nat → Option (Unit ⊕ Bool)
  | [], k78 => some (.inl ())
  | x104 :: q100, k78 => Option.bind (a1.Vars[k78]?) (fun x111 => cond (!(andB (eqS x104.Name x111.Name) (andB (eqI x104.Init x111.Init) true))) (some (.inr false)) (r08_Equal_L1 a1 q100 (k78 + 1)))

def r08_Equal_L2 (a1 : Program) : List Func → Nat → Option (Unit ⊕ Bool)
  | [], k206 => some (.inl ())
  | x236 :: q232, k206 => Option.bind (a1.Funcs[k206]?) (fun x245 => Option.bind (r08_function x236 x245) (fun y248 => cond (!y248) (some (.inr false)) (r08_Equal_L2 a1 q232 (k206 + 1))))

def r08_Equal_L3 (a1 : Program) : List Start → Nat → Option (Unit ⊕ Bool)
  | [], k326 => some (.inl ())
  | x352 :: q348, k326 => Option.bind (a1.Threads[k326]?) (fun x359 => cond (!(andB (eqI x352.Func x359.Func) (andB (eqI x352.Arg x359.Arg) true))) (some (.inr false)) (r08_Equal_L3 a1 q348 (k326 + 1)))

def r08_Equal (a0 : Program) (a1 : Program) : Option Bool :=
  guardO (orB (!(eqI ((a0.Vars.length : Nat) : Int) ((a1.Vars.length : Nat) : Int))) ((r08_same a0.Mutexes a1.Mutexes).isSome)) (guardO (orB (!(!(orB (!(eqI ((a0.Vars.length : Nat) : Int) ((a1.Vars.length : Nat) : Int))) (!((r08_same a0.Mutexes a1.Mutexes).getD default))))) ((r08_same a0.Conds a1.Conds).isSome)) (cond (orB (orB (orB (orB (!(eqI ((a0.Vars.length : Nat) : Int) ((a1.Vars.length : Nat) : Int))) (!((r08_same a0.Mutexes a1.Mutexes).getD default))) (!((r08_same a0.Conds a1.Conds).getD default))) (!(eqI ((a0.Funcs.length : Nat) : Int) ((a1.Funcs.length : Nat) : Int)))) (!(eqI ((a0.Threads.length : Nat) : Int) ((a1.Threads.length : Nat) : Int)))) (some false) (Option.bind (α := Unit ⊕ Bool) (Option.bind (r08_Equal_L1 a1 a0.Vars 0) (fun o => match o with | .inl _ => some (.inl ()) | .inr r115 => some (.inr r115))) (fun o => match o with | .inl _ => Option.bind (α := Unit ⊕ Bool) (Option.bind (r08_Equal_L2 a1 a0.Funcs 0) (fun o => match o with | .inl _ => some (.inl ()) | .inr r251 => some (.inr r251))) (fun o => match o with | .inl _ => Option.bind (α := Unit ⊕ Bool) (Option.bind (r08_Equal_L3 a1 a0.Threads 0) (fun o => match o with | .inl _ => some (.inl ()) | .inr r363 => some (.inr r363))) (fun o => match o with | .inl _ => some true | .inr r364 => some r364) | .inr r365 => some r365) | .inr r366 => some r366))))

set_option maxHeartbeats 2000000 in
theorem at_r08_Equal {a0 : Program} {a1 : Program} {r : Bool} (hs : r08_Equal a0 a1 = some r) : At Tryd.prog 49 [.agg (eA a0), .agg (eA a1)] (bV r) := by
  refine at_bound (by kernel_rfl) fun hb => ?_
  have hb1 : LenOk (.sl a0.Vars.length (encL a0.Vars)) := lkc hb
  have hb2 : LenOk (.sl a0.Mutexes.length (encL a0.Mutexes)) := lkc hb
  have hb3 : LenOk (.sl a0.Conds.length (encL a0.Conds)) := lkc hb
  have hb4 : LenOk (.sl a0.Funcs.length (encL a0.Funcs)) := lkc hb
  have hb5 : LenOk (.sl a0.Threads.length (encL a0.Threads)) := lkc hb
  have hb6 : LenOk (.sl a1.Vars.length (encL a1.Vars)) := lkc hb
  have hb7 : LenOk (.sl a1.Mutexes.length (encL a1.Mutexes)) := lkc hb
  have hb8 : LenOk (.sl a1.Conds.length (encL a1.Conds)) := lkc hb
  have hb9 : LenOk (.sl a1.Funcs.length (encL a1.Funcs)) := lkc hb
  have hb10 : LenOk (.sl a1.Threads.length (encL a1.Threads)) := lkc hb
  refine at_code mixed Tryd.func49 (by kernel_rfl) rfl (by kernel_rfl) rfl fun Q hQ => ?_
  rw [r08_Equal] at hs
  refine goG f0 f0 ?_
  obtain ⟨g1, hs⟩ := guardO_some hs
  refine gsel_call (fun hg => at_r08_same (under_call g1 hg)) (fun hg => by (try simp at hg); (first | simp [hg, id]); try rfl) (fun hg => by (try simp at hg); simp [hg, id]) (by simp) ?_
  refine goG f0 f0 ?_
  obtain ⟨g2, hs⟩ := guardO_some hs
  refine gsel_call (fun hg => at_r08_same (under_call g2 hg)) (fun hg => by (try simp at hg); (first | simp [hg, id]); try rfl) (fun hg => by (try simp at hg); simp [hg, id]) (by simp) ?_
  refine goG f0 f0 ?_
  revert hs; refine cS f0 ?_ ?_ <;> intro h3 hs
  · refine goG f0 f0 ?_
    obtain rfl := sj hs
    exact hQ _ _ (rg f0 (Gh.refl _))
  · refine goG2 f0 f0 ?_
    revert hs; refine bK fun o59 e58 hs => ?_
    refine awp_cutK (fun (v : Unit) (σ : St) => some (.inl v) = some o59 ∧ σ.env 2 = .cell (.ref (.o 1 0 0) 0) ∧ σ.env 3 = .cell (.ref (.o 1 1 0) 0) ∧ σ.hp (.o 1 0 0) = some (.cells (eA a0)) ∧ σ.hp (.o 1 1 0) = some (.cells (eA a1)) ∧ 3 ≤ σ.gen) (by rfl) (fun Q hK60 hX61 => ?_) (fun v σ3 hp => ?_)
    · refine goG f0 f0 ?_
      revert e58; refine bK fun o95 e94 e58 => ?_
      refine awp_loopW (fun (v : (List Var) × Nat) (σ : St) => r08_Equal_L1 a1 v.1 v.2 = some o95 ∧ v.1 = a0.Vars.drop v.2 ∧ σ.env 2 = .cell (.ref (.o 1 0 0) 0) ∧ σ.env 3 = .cell (.ref (.o 1 1 0) 0) ∧ σ.env 5 = iV .i64 ((v.2 : Nat) : Int) ∧ σ.hp (.o 1 0 0) = some (.cells (eA a0)) ∧ σ.hp (.o 1 1 0) = some (.cells (eA a1)) ∧ 3 ≤ σ.gen) (fun v => v.1.length) _ (Gh.refl _) (a0.Vars, 0) ⟨e94, by simp, pv f0, pv f0, pv f0, pv f0, pv f0, pg⟩ fun v σ6 hp L96 hL97 => ?_
      obtain ⟨q99, k78⟩ := v
      dsimp only at hp hL97
      obtain ⟨e94, hd98, h5_2, h5_3, h5_5, g5_0, g5_1, n5_g⟩ := hp
      have n5_0 : ¬ (σ6.gen = 0) := by omega
      rcases q99 with _ | ⟨x104, q100⟩
      · have hlt101 := drop_end hd98
        rw [r08_Equal_L1] at e94; try dsimp only at e94
        have F1 := an h5_2 (an h5_3 (an h5_5 (an g5_0 (an g5_1 n5_0))))
        refine goR F1 ?_
        refine condK_f (by simp [ltI]; omega) ?_
        obtain rfl := sj e94
        try dsimp only at e58
        exact hK60 () _ _ (Gh.refl _) ⟨e58, pv F1, pv F1, pv F1, pv F1, pg⟩
      · obtain ⟨hx103, hlt101, hd105⟩ := drop_next hd98
        have ew102 := wrap_succ hlt101 (hb1).len
        rw [r08_Equal_L1] at e94; try dsimp only at e94
        have F2 := an h5_2 (an h5_3 (an h5_5 (an g5_0 (an g5_1 (an n5_0 (an hlt101 ew102))))))
        refine goR F2 ?_
        refine condK_t (by simp [ltI]; omega) ?_
        have f110 : partCV Tryd.prog 69 (encL a0.Vars) (k78 * 2) = some (.agg (eA x104)) := partCV_enc hx103 (f := 0) (by simp)
        revert e94; refine bK fun x111 hx112 e94 => ?_
        have hx112b := getN_some hx112
        have f113 : partCV Tryd.prog 69 (encL a1.Vars) (k78 * 2) = some (.agg (eA x111)) := partCV_enc hx112 (f := 0) (by simp)
        have F3 := an F2 (an f110 f113)
        refine goD F3 ?_
        revert e94; refine cS F3 ?_ ?_ <;> intro h114 e94
        · refine goD F3 ?_
          obtain rfl := sj e94
          try dsimp only at e58
          obtain rfl := sj e58
          try dsimp only at hs
          refine hX61 _ _ (by simp) ?_
          refine goD F3 ?_
          obtain rfl := sj hs
          exact hQ _ _ (rg F3 (Gh.refl _))
        · refine goD F3 ?_
          exact hL97 (q100, (k78 + 1)) _ _ (Gh.refl _) ⟨e94, hd105, pv F3, pv F3, pv F3, pv F3, pv F3, pg⟩ (by simp)
    · obtain ⟨e58, h4_2, h4_3, g4_0, g4_1, n4_g⟩ := hp
      obtain rfl := sj e58
      try dsimp only at hs
      have n4_0 : ¬ (σ3.gen = 0) := by omega
      have F4 := an h4_2 (an h4_3 (an g4_0 (an g4_1 n4_0)))
      refine goG2 F4 F4 ?_
      revert hs; refine bK fun o183 e182 hs => ?_
      refine awp_cutK (fun (v : Unit) (σ : St) => some (.inl v) = some o183 ∧ σ.env 2 = .cell (.ref (.o 1 0 0) 0) ∧ σ.env 3 = .cell (.ref (.o 1 1 0) 0) ∧ σ.hp (.o 1 0 0) = some (.cells (eA a0)) ∧ σ.hp (.o 1 1 0) = some (.cells (eA a1)) ∧ (σ3.gen + 1) ≤ σ.gen) (by rfl) (fun Q hK184 hX185 => ?_) (fun v σ9 hp => ?_)
      · refine goG F4 F4 ?_
        revert e182; refine bK fun o227 e226 e182 => ?_
        refine awp_loopW (fun (v : (List Func) × Nat) (σ : St) => r08_Equal_L2 a1 v.1 v.2 = some o227 ∧ v.1 = a0.Funcs.drop v.2 ∧ σ.env 2 = .cell (.ref (.o 1 0 0) 0) ∧ σ.env 3 = .cell (.ref (.o 1 1 0) 0) ∧ σ.env 6 = iV .i64 ((v.2 : Nat) : Int) ∧ σ.hp (.o 1 0 0) = some (.cells (eA a0)) ∧ σ.hp (.o 1 1 0) = some (.cells (eA a1)) ∧ (σ3.gen + 1) ≤ σ.gen) (fun v => v.1.length) _ (Gh.refl _) (a0.Funcs, 0) ⟨e226, by simp, pv F4, pv F4, pv F4, pv F4, pv F4, pg⟩ fun v σ12 hp L228 hL229 => ?_
        obtain ⟨q231, k206⟩ := v
        dsimp only at hp hL229
        obtain ⟨e226, hd230, h11_2, h11_3, h11_6, g11_0, g11_1, n11_g⟩ := hp
        have n11_0 : ¬ (σ12.gen = 0) := by omega
        rcases q231 with _ | ⟨x236, q232⟩
        · have hlt233 := drop_end hd230
          rw [r08_Equal_L2] at e226; try dsimp only at e226
          have F5 := an h11_2 (an h11_3 (an h11_6 (an g11_0 (an g11_1 n11_0))))
          refine goR F5 ?_
          refine condK_f (by simp [ltI]; omega) ?_
          obtain rfl := sj e226
          try dsimp only at e182
          exact hK184 () _ _ (Gh.refl _) ⟨e182, pv F5, pv F5, pv F5, pv F5, pg⟩
        · obtain ⟨hx235, hlt233, hd237⟩ := drop_next hd230
          have ew234 := wrap_succ hlt233 (hb4).len
          rw [r08_Equal_L2] at e226; try dsimp only at e226
          have F6 := an h11_2 (an h11_3 (an h11_6 (an g11_0 (an g11_1 (an n11_0 (an hlt233 ew234))))))
          refine goR F6 ?_
          refine condK_t (by simp [ltI]; omega) ?_
          have f244 : partCV Tryd.prog 24 (encL a0.Funcs) (k206 * 2) = some (.agg (eA x236)) := partCV_enc hx235 (f := 0) (by simp)
          revert e226; refine bK fun x245 hx246 e226 => ?_
          have hx246b := getN_some hx246
          have f247 : partCV Tryd.prog 24 (encL a1.Funcs) (k206 * 2) = some (.agg (eA x245)) := partCV_enc hx246 (f := 0) (by simp)
          have F7 := an F6 (an f244 f247)
          refine goD F7 ?_
          revert e226; refine bK fun y248 hx249 e226 => ?_
          refine cP F7 (at_r08_function hx249) ?_
          refine goD F7 ?_
          revert e226; refine cS F7 ?_ ?_ <;> intro h250 e226
          · refine goD F7 ?_
            obtain rfl := sj e226
            try dsimp only at e182
            obtain rfl := sj e182
            try dsimp only at hs
            refine hX185 _ _ (by simp) ?_
            refine goD F7 ?_
            obtain rfl := sj hs
            exact hQ _ _ (rg F7 (Gh.refl _))
          · refine goD F7 ?_
            exact hL229 (q232, (k206 + 1)) _ _ (Gh.refl _) ⟨e226, hd237, pv F7, pv F7, pv F7, pv F7, pv F7, pg⟩ (by simp)
      · obtain ⟨e182, h10_2, h10_3, g10_0, g10_1, n10_g⟩ := hp
        obtain rfl := sj e182
        try dsimp only at hs
        have n10_0 : ¬ (σ9.gen = 0) := by omega
        have F8 := an h10_2 (an h10_3 (an g10_0 (an g10_1 n10_0)))
        refine goG2 F8 F8 ?_
        revert hs; refine bK fun o307 e306 hs => ?_
        refine awp_cutK (fun (v : Unit) (σ : St) => some (.inl v) = some o307 ∧ (σ9.gen + 1) ≤ σ.gen) (by rfl) (fun Q hK308 hX309 => ?_) (fun v σ15 hp => ?_)
        · refine goG F8 F8 ?_
          revert e306; refine bK fun o343 e342 e306 => ?_
          refine awp_loopW (fun (v : (List Start) × Nat) (σ : St) => r08_Equal_L3 a1 v.1 v.2 = some o343 ∧ v.1 = a0.Threads.drop v.2 ∧ σ.env 2 = .cell (.ref (.o 1 0 0) 0) ∧ σ.env 3 = .cell (.ref (.o 1 1 0) 0) ∧ σ.env 7 = iV .i64 ((v.2 : Nat) : Int) ∧ σ.hp (.o 1 0 0) = some (.cells (eA a0)) ∧ σ.hp (.o 1 1 0) = some (.cells (eA a1)) ∧ (σ9.gen + 1) ≤ σ.gen) (fun v => v.1.length) _ (Gh.refl _) (a0.Threads, 0) ⟨e342, by simp, pv F8, pv F8, pv F8, pv F8, pv F8, pg⟩ fun v σ18 hp L344 hL345 => ?_
          obtain ⟨q347, k326⟩ := v
          dsimp only at hp hL345
          obtain ⟨e342, hd346, h17_2, h17_3, h17_7, g17_0, g17_1, n17_g⟩ := hp
          have n17_0 : ¬ (σ18.gen = 0) := by omega
          rcases q347 with _ | ⟨x352, q348⟩
          · have hlt349 := drop_end hd346
            rw [r08_Equal_L3] at e342; try dsimp only at e342
            have F9 := an h17_2 (an h17_3 (an h17_7 (an g17_0 (an g17_1 n17_0))))
            refine goR F9 ?_
            refine condK_f (by simp [ltI]; omega) ?_
            obtain rfl := sj e342
            try dsimp only at e306
            exact hK308 () _ _ (Gh.refl _) ⟨e306, pg⟩
          · obtain ⟨hx351, hlt349, hd353⟩ := drop_next hd346
            have ew350 := wrap_succ hlt349 (hb5).len
            rw [r08_Equal_L3] at e342; try dsimp only at e342
            have F10 := an h17_2 (an h17_3 (an h17_7 (an g17_0 (an g17_1 (an n17_0 (an hlt349 ew350))))))
            refine goR F10 ?_
            refine condK_t (by simp [ltI]; omega) ?_
            have f358 : partCV Tryd.prog 144 (encL a0.Threads) (k326 * 2) = some (.agg (eA x352)) := partCV_enc hx351 (f := 0) (by simp)
            revert e342; refine bK fun x359 hx360 e342 => ?_
            have hx360b := getN_some hx360
            have f361 : partCV Tryd.prog 144 (encL a1.Threads) (k326 * 2) = some (.agg (eA x359)) := partCV_enc hx360 (f := 0) (by simp)
            have F11 := an F10 (an f358 f361)
            refine goD F11 ?_
            revert e342; refine cS F11 ?_ ?_ <;> intro h362 e342
            · refine goD F11 ?_
              obtain rfl := sj e342
              try dsimp only at e306
              obtain rfl := sj e306
              try dsimp only at hs
              refine hX309 _ _ (by simp) ?_
              refine goD F11 ?_
              obtain rfl := sj hs
              exact hQ _ _ (rg F11 (Gh.refl _))
            · refine goD F11 ?_
              exact hL345 (q348, (k326 + 1)) _ _ (Gh.refl _) ⟨e342, hd353, pv F11, pv F11, pv F11, pv F11, pv F11, pg⟩ (by simp)
        · obtain ⟨e306, n16_g⟩ := hp
          obtain rfl := sj e306
          try dsimp only at hs
          refine goG f0 f0 ?_
          obtain rfl := sj hs
          exact hQ _ _ (rg f0 (Gh.refl _))
end Go.Dc
end
section
set_option linter.all false
namespace Go.Dc
open Go Go.Hw Go.Proofs
set_option maxRecDepth 100000

def law15_SimplifyPrograms (fuelN : Nat) (a0 : Program) : Option Bool :=
  Option.bind (law15_small a0) (fun y1 => cond (!y1) (Option.bind (law15_exampleHolds fuelN) (fun y4 => some y4)) (Option.bind (simplify_Program fuelN a0) (fun y6 => Option.bind (r15_Program fuelN a0) (fun y8 => guardO (orB (!(eqI y6.2 y8.2)) ((r08_Equal y6.1 y8.1).isSome)) (guardO (orB (!(andB (eqI y6.2 y8.2) ((r08_Equal y6.1 y8.1).getD default))) ((law15_exampleHolds fuelN).isSome)) (some (andB (andB (eqI y6.2 y8.2) ((r08_Equal y6.1 y8.1).getD default)) ((law15_exampleHolds fuelN).getD default))))))))

end Go.Dc
end
section
set_option linter.all false
namespace Go.Dc
open Go Go.Hw Go.Proofs
set_option maxRecDepth 100000

def r08_Valid (fuelN : Nat) (a0 : Program) : Option Bool :=
  Option.bind (r08_Check fuelN a0) (fun y1 => some (eqI y1.1 0))

set_option maxHeartbeats 2000000 in
theorem at_r08_Valid {fuelN : Nat} {a0 : Program} {r : Bool} (hs : r08_Valid fuelN a0 = some r) : At Tryd.prog 50 [.agg (eA a0)] (bV r) := by
  refine at_bound (by kernel_rfl) fun hb => ?_
  have hb1 : LenOk (.sl a0.Vars.length (encL a0.Vars)) := lkc hb
  have hb2 : LenOk (.sl a0.Mutexes.length (encL a0.Mutexes)) := lkc hb
  have hb3 : LenOk (.sl a0.Conds.length (encL a0.Conds)) := lkc hb
  have hb4 : LenOk (.sl a0.Funcs.length (encL a0.Funcs)) := lkc hb
  have hb5 : LenOk (.sl a0.Threads.length (encL a0.Threads)) := lkc hb
  refine at_code mixed Tryd.func50 (by kernel_rfl) rfl (by kernel_rfl) rfl fun Q hQ => ?_
  rw [r08_Valid] at hs
  refine goR f0 ?_
  revert hs; refine bK fun y1 hx2 hs => ?_
  refine cP f0 (at_r08_Check hx2) ?_
  refine goR f0 ?_
  obtain rfl := sj hs
  exact hQ _ _ (rg f0 (Gh.refl _))
end Go.Dc
end
section
set_option linter.all false
namespace Go.Dc
open Go Go.Hw Go.Proofs
set_option maxRecDepth 100000
def law15_SimplifyIdempotent_L1 (fuelN : Nat) (a0 : Program) : List Func → Nat → Option (Unit ⊕ Bool)
  | [], k104 => some (.inl ())
  | x133 :: q129, k104 => Option.bind (simplify_Fold fuelN x133) (fun y137 => Option.bind (simplify_Thread fuelN y137.1) (fun y139 => Option.bind (simplify_Prune fuelN y139.1) (fun y141 => guardO (orB (!(eqI y141.2 0)) ((r15_SameCode y141.1 x133).isSome)) (guardO (orB (!(!(orB (!(eqI y141.2 0)) (!((r15_SameCode y141.1 x133).getD default))))) (inB ((k104 : Nat) : Int) a0.Funcs.length)) (cond (orB (orB (!(eqI y141.2 0)) (!((r15_SameCode y141.1 x133).getD default))) (ltI ((((gd a0.Funcs k104).Code).length : Nat) : Int) ((x133.Code.length : Nat) : Int))) (some (.inr false)) (law15_SimplifyIdempotent_L1 fuelN a0 q129 (k104 + 1)))))))

def law15_SimplifyIdempotent (fuelN : Nat) (a0 : Program) : Option Bool :=
  Option.bind (law15_small a0) (fun y1 => cond (!y1) (Option.bind (law15_exampleHolds fuelN) (fun y4 => some y4)) (Option.bind (simplify_Program fuelN a0) (fun y6 => cond (!(eqI y6.2 0)) (guardO (orB (!(eqI ((y6.1.Funcs.length : Nat) : Int) 0)) ((law15_exampleHolds fuelN).isSome)) (some (andB (eqI ((y6.1.Funcs.length : Nat) : Int) 0) ((law15_exampleHolds fuelN).getD default)))) (Option.bind (simplify_Program fuelN y6.1) (fun y10 => guardO (orB (!(eqI y10.2 0)) ((r08_Equal y6.1 y10.1).isSome)) (guardO (orB (!(!(orB (!(eqI y10.2 0)) (!((r08_Equal y6.1 y10.1).getD default))))) ((r08_Valid fuelN y6.1).isSome)) (cond (orB (orB (orB (!(eqI y10.2 0)) (!((r08_Equal y6.1 y10.1).getD default))) (!((r08_Valid fuelN y6.1).getD default))) (!(eqI ((y6.1.Funcs.length : Nat) : Int) ((a0.Funcs.length : Nat) : Int)))) (some false) (Option.bind (α := Unit ⊕ Bool) (guardO (lenB y6.1.Funcs.length) (Option.bind (law15_SimplifyIdempotent_L1 fuelN a0 y6.1.Funcs 0) (fun o => match o with | .inl _ => some (.inl ()) | .inr r150 => some (.inr r150)))) (fun o => match o with | .inl _ => Option.bind (law15_exampleHolds fuelN) (fun y151 => some y151) | .inr r153 => some r153)))))))))

set_option maxHeartbeats 2000000 in
theorem at_law15_SimplifyIdempotent {fuelN : Nat} {a0 : Program} {r : Bool} (hs : law15_SimplifyIdempotent fuelN a0 = some r) : At Tryd.prog 14 [.agg (eA a0)] (bV r) := by
  refine at_bound (by kernel_rfl) fun hb => ?_
  have hb1 : LenOk (.sl a0.Vars.length (encL a0.Vars)) := lkc hb
  have hb2 : LenOk (.sl a0.Mutexes.length (encL a0.Mutexes)) := lkc hb
  have hb3 : LenOk (.sl a0.Conds.length (encL a0.Conds)) := lkc hb
  have hb4 : LenOk (.sl a0.Funcs.length (encL a0.Funcs)) := lkc hb
  have hb5 : LenOk (.sl a0.Threads.length (encL a0.Threads)) := lkc hb
  refine at_code mixed Tryd.func14 (by kernel_rfl) rfl (by kernel_rfl) rfl fun Q hQ => ?_
  rw [law15_SimplifyIdempotent] at hs
  refine goR f0 ?_
  revert hs; refine bK fun y1 hx2 hs => ?_
  refine cP f0 (at_law15_small hx2) ?_
  refine goR f0 ?_
  revert hs; refine cS f0 ?_ ?_ <;> intro h3 hs
  · refine goR f0 ?_
    revert hs; refine bK fun y4 hx5 hs => ?_
    refine cP f0 (at_law15_exampleHolds hx5) ?_
    refine goR f0 ?_
    obtain rfl := sj hs
    exact hQ _ _ (rg f0 (Gh.refl _))
  · refine goR f0 ?_
    revert hs; refine bK fun y6 hx7 hs => ?_
    refine cP f0 (at_simplify_Program hx7) ?_
    refine goR f0 ?_
    revert hs; refine cS f0 ?_ ?_ <;> intro h8 hs
    · refine goG f0 f0 ?_
      obtain ⟨g9, hs⟩ := guardO_some hs
      refine gsel_call (fun hg => at_law15_exampleHolds (under_call g9 hg)) (fun hg => by (try simp at hg); (first | simp [hg, id]); try rfl) (fun hg => by (try simp at hg); simp [hg, id]) (by simp) ?_
      refine goG f0 f0 ?_
      obtain rfl := sj hs
      exact hQ _ _ (rg f0 (Gh.refl _))
    · refine goR f0 ?_
      revert hs; refine bK fun y10 hx11 hs => ?_
      refine cP f0 (at_simplify_Program hx11) ?_
      refine goG f0 f0 ?_
      obtain ⟨g12, hs⟩ := guardO_some hs
      refine gsel_call (fun hg => at_r08_Equal (under_call g12 hg)) (fun hg => by (try simp at hg); (first | simp [hg, id]); try rfl) (fun hg => by (try simp at hg); simp [hg, id]) (by simp) ?_
      refine goG f0 f0 ?_
      obtain ⟨g13, hs⟩ := guardO_some hs
      refine gsel_call (fun hg => at_r08_Valid (under_call g13 hg)) (fun hg => by (try simp at hg); (first | simp [hg, id]); try rfl) (fun hg => by (try simp at hg); simp [hg, id]) (by simp) ?_
      refine goG f0 f0 ?_
      revert hs; refine cS f0 ?_ ?_ <;> intro h14 hs
      · refine goG f0 f0 ?_
        obtain rfl := sj hs
        exact hQ _ _ (rg f0 (Gh.refl _))
      · refine goG2 f0 f0 ?_
        revert hs; refine bK fun o82 e81 hs => ?_
        refine awp_cutK (fun (v : Unit) (σ : St) => some (.inl v) = some o82 ∧ 7 ≤ σ.gen) (by rfl) (fun Q hK83 hX84 => ?_) (fun v σ3 hp => ?_)
        · refine goG f0 f0 ?_
          obtain ⟨hb134, e81⟩ := guardO_some e81
          revert e81; refine bK fun o124 e123 e81 => ?_
          refine awp_loopW (fun (v : (List Func) × Nat) (σ : St) => law15_SimplifyIdempotent_L1 fuelN a0 v.1 v.2 = some o124 ∧ v.1 = y6.1.Funcs.drop v.2 ∧ σ.env 1 = .cell (.ref (.o 1 0 0) 0) ∧ σ.env 61 = .cell (sC y6.1.Funcs) ∧ σ.env 62 = iV .i64 ((y6.1.Funcs.length : Nat) : Int) ∧ σ.env 63 = iV .i64 ((v.2 : Nat) : Int) ∧ σ.hp (.o 1 0 0) = some (.cells (eA a0)) ∧ 7 ≤ σ.gen) (fun v => v.1.length) _ (Gh.refl _) (y6.1.Funcs, 0) ⟨e123, by simp, pv f0, pv f0, pv f0, pv f0, pv f0, pg⟩ fun v σ6 hp L125 hL126 => ?_
          obtain ⟨q128, k104⟩ := v
          dsimp only at hp hL126
          obtain ⟨e123, hd127, h5_1, h5_61, h5_62, h5_63, g5_0, n5_g⟩ := hp
          have n5_0 : ¬ (σ6.gen = 0) := by omega
          rcases q128 with _ | ⟨x133, q129⟩
          · have hlt130 := drop_end hd127
            rw [law15_SimplifyIdempotent_L1] at e123; try dsimp only at e123
            have F1 := an h5_1 (an h5_61 (an h5_62 (an h5_63 (an g5_0 n5_0))))
            refine goR F1 ?_
            refine condK_f (by simp [ltI]; omega) ?_
            obtain rfl := sj e123
            try dsimp only at e81
            exact hK83 () _ _ (Gh.refl _) ⟨e81, pg⟩
          · obtain ⟨hx132, hlt130, hd135⟩ := drop_next hd127
            have ew131 := wrap_succG hlt130 hb134
            rw [law15_SimplifyIdempotent_L1] at e123; try dsimp only at e123
            have F2 := an h5_1 (an h5_61 (an h5_62 (an h5_63 (an g5_0 (an n5_0 (an hlt130 ew131))))))
            refine goR F2 ?_
            refine condK_t (by simp [ltI]; omega) ?_
            have f136 : partCV Tryd.prog 24 (encL y6.1.Funcs) (k104 * 2) = some (.agg (eA x133)) := partCV_enc hx132 (f := 0) (by simp)
            have F3 := an F2 f136
            refine goR F3 ?_
            revert e123; refine bK fun y137 hx138 e123 => ?_
            refine cP F3 (at_simplify_Fold hx138) ?_
            refine goR F3 ?_
            revert e123; refine bK fun y139 hx140 e123 => ?_
            refine cP F3 (at_simplify_Thread hx140) ?_
            refine goR F3 ?_
            revert e123; refine bK fun y141 hx142 e123 => ?_
            refine cP F3 (at_simplify_Prune hx142) ?_
            refine goE F3 F3 ?_
            obtain ⟨g146, e123⟩ := guardO_some e123
            refine dsel_call (fun hg => at_r15_SameCode (under_call g146 hg)) (fun hg => by (try simp at hg); (first | simp [hg, F3]); try rfl) (fun hg => by (try simp at hg); simp [hg, F3]) (by simp) ?_
            obtain ⟨g147, e123⟩ := guardO_some e123
            have g147a : (!(orB (!(eqI y141.2 0)) (!((r15_SameCode y141.1 x133).getD default)))) = true → 0 ≤ ((k104 : Nat) : Int) := fun hg => (under_elem g147 hg).1
            have g147b : (!(orB (!(eqI y141.2 0)) (!((r15_SameCode y141.1 x133).getD default)))) = true → ((k104 : Nat) : Int) < (a0.Funcs.length : Int) := fun hg => (under_elem g147 hg).2.1
            have g147n : (!(orB (!(eqI y141.2 0)) (!((r15_SameCode y141.1 x133).getD default)))) = true → k104 < a0.Funcs.length := fun hg => by simpa using (under_elem g147 hg).2.2.1
            have g147c : (!(orB (!(eqI y141.2 0)) (!((r15_SameCode y141.1 x133).getD default)))) = true → a0.Funcs[k104]? = some (gd a0.Funcs k104) := fun hg => by simpa using (under_elem g147 hg).2.2.2
            have f148 : (!(orB (!(eqI y141.2 0)) (!((r15_SameCode y141.1 x133).getD default)))) = true → partCV Tryd.prog 22 (encL a0.Funcs) (k104 * 2 + 1) = some (.cell (sC ((gd a0.Funcs k104).Code))) := fun hg => partCV_enc (g147c hg) (f := 1) (by simp)
            have F4 := an F3 (an g147a (an g147b (an g147n f148)))
            refine goE F4 F4 ?_
            revert e123; refine cS F4 ?_ ?_ <;> intro h149 e123
            · refine goE F4 F4 ?_
              obtain rfl := sj e123
              try dsimp only at e81
              obtain rfl := sj e81
              try dsimp only at hs
              refine hX84 _ _ (by simp) ?_
              refine goE F4 F4 ?_
              obtain rfl := sj hs
              exact hQ _ _ (rg F4 (Gh.refl _))
            · refine goE F4 F4 ?_
              exact hL126 (q129, (k104 + 1)) _ _ (Gh.refl _) ⟨e123, hd135, pv F4, pv F4, pv F4, pv F4, pv F4, pg⟩ (by simp)
        · obtain ⟨e81, n4_g⟩ := hp
          obtain rfl := sj e81
          try dsimp only at hs
          refine goG f0 f0 ?_
          revert hs; refine bK fun y151 hx152 hs => ?_
          refine cP f0 (at_law15_exampleHolds hx152) ?_
          refine goG f0 f0 ?_
          obtain rfl := sj hs
          exact hQ _ _ (rg f0 (Gh.refl _))
end Go.Dc
end
section
set_option linter.all false
namespace Go.Dc.Pl
open Go Go.Hw Go.Dc
set_option maxRecDepth 100000
theorem first_noneF {α β : Type} : ∀ (l : List α) (k : Nat), first (fun _ _ => (none : Option β)) l k = none
  | [], _ => rfl
  | x :: q, k => by rw [first_cons]; exact first_noneF q _
theorem same_str (l : List ByteArray) : r08_same l l = some true := by
  have h := srch (L := r08_same_L1 l) (fun _ _ => none) (fun _ => rfl) l 0 fun j x hx q => by
    rw [Nat.zero_add, r08_same_L1, hx, Option.bind_some, eqS_refl]; rfl
  rw [r08_same, h, show eqI ((l.length : Nat) : Int) ((l.length : Nat) : Int) = true by simp [eqI], first_noneF]; rfl
theorem same_fun (f : Func) : r08_function f f = some true := by
  have h := srch (L := r08_function_L1 f) (fun _ _ => none) (fun _ => rfl) f.Code 0 fun j x hx q => by
    rw [Nat.zero_add, r08_function_L1, hx, Option.bind_some]; simp [eqI, andB]
  rw [r08_function, h, show eqI ((f.Code.length : Nat) : Int) ((f.Code.length : Nat) : Int) = true by simp [eqI], eqS_refl, first_noneF]; rfl
theorem equal_refl (p : Program) : r08_Equal p p = some true := by
  have h1 := srch (L := r08_Equal_L1 p) (fun _ _ => none) (fun _ => rfl) p.Vars 0 fun j x hx q => by
    rw [Nat.zero_add, r08_Equal_L1, hx, Option.bind_some]; simp [eqI, andB, eqS]
  have h2 := srch (L := r08_Equal_L2 p) (fun _ _ => none) (fun _ => rfl) p.Funcs 0 fun j x hx q => by
    rw [Nat.zero_add, r08_Equal_L2, hx, Option.bind_some, same_fun]; rfl
  have h3 := srch (L := r08_Equal_L3 p) (fun _ _ => none) (fun _ => rfl) p.Threads 0 fun j x hx q => by
    rw [Nat.zero_add, r08_Equal_L3, hx, Option.bind_some]; simp [eqI, andB]
  have he : ∀ n : Nat, eqI (n : Int) (n : Int) = true := fun n => by simp [eqI]
  rw [r08_Equal, h1, h2, h3, same_str, same_str, he, he, he, first_noneF, first_noneF, first_noneF]; rfl
theorem refclone {p : Program} (hp : small p = true) : r08_Clone p = some p := by
  obtain ⟨s1, s2, s3, s4, s5, s6⟩ := small_t hp
  have hL : ∀ (l : List Func) (k : Nat) (a : List Func), (∀ f ∈ l, f.Code.length ≤ 100) → a.length + l.length ≤ 20 → r08_Clone_L1 l k a = some (a ++ l) := fun l => by
    induction l with
    | nil => intro k a _ _; rw [r08_Clone_L1]; simp
    | cons x q ih =>
      intro k a hc ha
      rw [r08_Clone_L1, Option.bind_some, show limB 64 ([].length + x.Code.length) = true from limB_of (m := 100) (by have := hc x (by simp); simpa using this) (by decide), guardO_t, Option.bind_some, Option.bind_some,
        show limB 40 (a.length + [({ x with Code := [] ++ x.Code } : Func)].length) = true from limB_of (m := 20) (by simp at ha ⊢; omega) (by decide), guardO_t, Option.bind_some, ih _ _ (fun f hf => hc f (by simp [hf])) (by simp at ha ⊢; omega)]
      simp
  simp only [r08_Clone, Option.bind_some, List.nil_append, List.length_nil, Nat.zero_add]
  rw [show limB 24 p.Vars.length = true from limB_of (m := 20) s1 (by decide), show limB 16 p.Mutexes.length = true from limB_of (m := 20) s2 (by decide), show limB 16 p.Conds.length = true from limB_of (m := 20) s3 (by decide), show limB 16 p.Threads.length = true from limB_of (m := 20) s5 (by decide), hL p.Funcs 0 [] s6 (by simpa using s4)]
  rfl
theorem ownclone {p : Program} (hp : small p = true) : program_Clone p = some p := by
  obtain ⟨s1, s2, s3, s4, s5, s6⟩ := small_t hp
  have hL : ∀ (q k : Nat), k + q = p.Funcs.length → program_Clone_L1 p q k p.Funcs = some p.Funcs := fun q => by
    induction q with
    | zero => intro k h; rw [program_Clone_L1]
    | succ q ih =>
      intro k h
      have hf : p.Funcs[k]? = some p.Funcs[k] := List.getElem?_eq_getElem (by omega)
      generalize hx : p.Funcs[k] = x at hf
      have hc := s6 x (List.mem_of_getElem? hf)
      have hs : p.Funcs.set k { x with Code := x.Code } = p.Funcs := by
        apply List.ext_getElem?
        intro i
        rw [List.getElem?_set]
        split
        · rename_i e; subst e
          rw [hf]; simp; omega
        · rfl
      rw [program_Clone_L1, hf, Option.bind_some, slices_Clone_api_Inst, limB_small (by decide) (by omega), guardO_t, Option.bind_some, Option.bind_some, Option.bind_some, hs, ih (k + 1) (by omega)]
  simp only [program_Clone, slices_Clone_api_Var, slices_Clone_string, slices_Clone_api_Func, slices_Clone_api_Start]
  rw [limB_small (by decide) (by omega), limB_small (by decide) (by omega), limB_small (by decide) (by omega), limB_small (by decide) (by omega), limB_small (by decide) (by omega)]
  simp only [guardO_t, Option.bind_some]
  rw [lenB_small (by omega), guardO_t, hL p.Funcs.length 0 (by omega)]; rfl

/-- One round. -/
noncomputable def rndF (f : Func) : Func := pruneF (threadF (foldF f))
/-- A property of instructions that the rounds keep. -/
structure Kept (P : Inst → Prop) : Prop where
  j : ∀ x m, icode x = 0 → isJ x = true → P x → P { x with N := m }
  c : ∀ a n, 0 ≤ a ∧ a < 8 → -2147483648 ≤ n ∧ n ≤ 2147483647 → P (cst a n)
  g : ∀ n, P (jmp n)
theorem kept_ic : Kept fun x => icode x = 0 := ⟨fun _ m h j _ => ic_N h j m, fun _ _ => cst_ok, jmp_ok⟩
theorem ksel_kept {P : Inst → Prop} (hP : Kept P) {K : Kn} (hK : KOk K) {x : Inst} (hi : icode x = 0) (hx : P x) (k : Int) : P (ksel K x k) := by
  obtain ⟨hA, hB, hC, hF, _⟩ := ic_regs hi
  unfold ksel
  split
  · cases hb : K x.B with
    | none => exact hx
    | some v => exact hP.c _ _ hA (hK.b _ _ hb)
  · split
    · cases hb : K x.B with
      | none => exact hx
      | some v =>
        cases hc : K x.C with
        | none => exact hx
        | some w => exact hP.c _ _ hA (app_eq (hF ‹_›).1 (hF ‹_›).2 v w).2
    · split
      · cases hb : K x.B with
        | none => exact hx
        | some v => simp only; split <;> exact hP.g _
      · split
        · cases hb : K x.B with
          | none => exact hx
          | some v =>
            simp only; split
            · exact hP.g _
            · exact hx
        · exact hx
theorem foldC_kept {P : Inst → Prop} (hP : Kept P) (f : Func) : ∀ (q : List Inst) (k : Nat) (K : Kn), KOk K → (∀ x ∈ q, icode x = 0 ∧ P x) → ∀ y ∈ foldC f q k K, P y
  | [], _, _, _, _, y, hy => by cases hy
  | x :: q, k, K, hK, hq, y, hy => by
    have hx := hq x List.mem_cons_self
    have hK' : KOk (if lead f k = true then K0 else K) := by split; exact K0_ok; exact hK
    rw [foldC] at hy
    rcases List.mem_cons.1 hy with h | h
    · rw [h]; exact ksel_kept hP hK' hx.1 hx.2 _
    · exact foldC_kept hP f q (k + 1) _ (kaft_ok hK' hx.1) (fun z hz => hq z (List.mem_cons_of_mem _ hz)) y h
theorem ksel_tgt {K : Kn} {x : Inst} {n k : Nat} (hk : k < n) (hx : x.Op = 4 ∨ x.Op = 5 → 0 ≤ x.N ∧ x.N ≤ n) (h : (ksel K x (k : Int)).Op = 4 ∨ (ksel K x (k : Int)).Op = 5) : 0 ≤ (ksel K x (k : Int)).N ∧ (ksel K x (k : Int)).N ≤ n := by
  have hc : ∀ a m, ¬ ((cst a m).Op = 4 ∨ (cst a m).Op = 5) := fun a m h => by
    rcases h with h | h
    · exact absurd (show (1 : Int) = 4 from h) (by decide)
    · exact absurd (show (1 : Int) = 5 from h) (by decide)
  have hj : 0 ≤ (jmp ((k : Int) + 1)).N ∧ (jmp ((k : Int) + 1)).N ≤ n := by
    show 0 ≤ (k : Int) + 1 ∧ (k : Int) + 1 ≤ n
    omega
  revert h
  unfold ksel
  split
  · cases K x.B with
    | none => exact hx
    | some v => exact fun h => absurd h (hc _ _)
  · split
    · cases K x.B with
      | none => exact hx
      | some v =>
        cases K x.C with
        | none => exact hx
        | some w => exact fun h => absurd h (hc _ _)
    · split
      · cases K x.B with
        | none => exact hx
        | some v =>
          simp only; split
          · exact fun _ => hx (.inr ‹_›)
          · exact fun _ => hj
      · split
        · cases K x.B with
          | none => exact hx
          | some v =>
            simp only; split
            · exact fun _ => hj
            · exact hx
        · exact hx
theorem foldC_tgt (f : Func) {n : Nat} : ∀ (q : List Inst) (k : Nat) (K : Kn), k + q.length ≤ n → (∀ x ∈ q, x.Op = 4 ∨ x.Op = 5 → 0 ≤ x.N ∧ x.N ≤ n) → ∀ y ∈ foldC f q k K, y.Op = 4 ∨ y.Op = 5 → 0 ≤ y.N ∧ y.N ≤ n
  | [], _, _, _, _, y, hy => by cases hy
  | x :: q, k, K, hk, hq, y, hy => by
    rw [List.length_cons] at hk
    rw [foldC] at hy
    rcases List.mem_cons.1 hy with h | h
    · rw [h]; exact ksel_tgt (by omega) (hq x List.mem_cons_self)
    · exact foldC_tgt f q (k + 1) _ (by omega) (fun z hz => hq z (List.mem_cons_of_mem _ hz)) y h
theorem fold_len (f : Func) : (foldF f).Code.length = f.Code.length := foldC_len f f.Code 0 K0
theorem fold_ok {f : Func} (hf : Fok f) : Fok (foldF f) :=
  ⟨by rw [fold_len]; exact hf.len, foldC_kept kept_ic f f.Code 0 K0 K0_ok fun x hx => ⟨hf.ic x hx, hf.ic x hx⟩,
   fun y hy => by rw [fold_len]; exact foldC_tgt f f.Code 0 K0 (by omega) hf.tgt y hy⟩
theorem thread_len (f : Func) : (threadF f).Code.length = f.Code.length := by simp [threadF]
theorem rnd_ok {f : Func} (hf : Fok f) : Fok (rndF f) := prune_ok (thread_ok (fold_ok hf))
theorem rnd_len (f : Func) : (rndF f).Code.length ≤ f.Code.length := by
  unfold rndF; rw [prune_len]; have := cntR_le (threadF (foldF f)) (threadF (foldF f)).Code.length
  rw [thread_len, fold_len] at this ⊢; exact this
theorem rnd_kept {P : Inst → Prop} (hP : Kept P) {f : Func} (hf : Fok f) (h : ∀ x ∈ f.Code, P x) : ∀ y ∈ (rndF f).Code, P y := by
  have h1 : ∀ x ∈ (foldF f).Code, P x := foldC_kept hP f f.Code 0 K0 K0_ok fun x hx => ⟨hf.ic x hx, h x hx⟩
  have f1 := fold_ok hf
  have h2 : ∀ x ∈ (threadF (foldF f)).Code, P x := fun y hy => by
    obtain ⟨x, hx, rfl⟩ := List.mem_map.1 (show y ∈ (foldF f).Code.map (thr (foldF f)) from hy)
    unfold thr
    split
    · exact hP.j _ _ (f1.ic x hx) ‹_› (h1 x hx)
    · exact h1 x hx
  intro y hy
  obtain ⟨j, hj⟩ := List.getElem?_of_mem hy
  obtain ⟨i, x, hx, _, rfl, _⟩ := prune_of hj
  have hm := List.mem_of_getElem? hx
  unfold prI
  split
  · exact hP.j _ _ ((thread_ok f1).ic x hm) ‹_› (h2 x hm)
  · exact h2 x hm
/-- What can still be folded. -/
def isF (x : Inst) : Bool := decide (x.Op = 2 ∨ x.Op = 3 ∨ x.Op = 5 ∨ x.Op = 6)
def cF' (l : List Inst) : Nat := l.countP isF
theorem ksel_F (K : Kn) (x : Inst) (k : Int) : ksel K x k = x ∨ (isF x = true ∧ isF (ksel K x k) = false) := by
  have h1 : ∀ a n, isF (cst a n) = false := fun a n => by show decide ((1 : Int) = 2 ∨ (1 : Int) = 3 ∨ (1 : Int) = 5 ∨ (1 : Int) = 6) = false; decide
  have h4 : ∀ n, isF (jmp n) = false := fun n => by show decide ((4 : Int) = 2 ∨ (4 : Int) = 3 ∨ (4 : Int) = 5 ∨ (4 : Int) = 6) = false; decide
  unfold ksel
  split
  · rename_i h
    have hx : isF x = true := by simp [isF, h]
    cases K x.B with
    | none => exact .inl rfl
    | some v => exact .inr ⟨hx, h1 _ _⟩
  · split
    · rename_i h
      have hx : isF x = true := by simp [isF, h]
      cases K x.B with
      | none => exact .inl rfl
      | some v =>
        cases K x.C with
        | none => exact .inl rfl
        | some w => exact .inr ⟨hx, h1 _ _⟩
    · split
      · rename_i h
        have hx : isF x = true := by simp [isF, h]
        cases K x.B with
        | none => exact .inl rfl
        | some v => simp only; split <;> exact .inr ⟨hx, h4 _⟩
      · split
        · rename_i h
          have hx : isF x = true := by simp [isF, h]
          cases K x.B with
          | none => exact .inl rfl
          | some v =>
            simp only; split
            · exact .inr ⟨hx, h4 _⟩
            · exact .inl rfl
        · exact .inl rfl
theorem foldC_F (f : Func) : ∀ (q : List Inst) (k : Nat) (K : Kn), foldC f q k K = q ∨ cF' (foldC f q k K) < cF' q
  | [], _, _ => .inl rfl
  | x :: q, k, K => by
    rw [foldC]
    generalize (if lead f k = true then K0 else K) = K1
    unfold cF'
    rw [List.countP_cons, List.countP_cons]
    rcases foldC_F f q (k + 1) (kaft K1 x) with h | h <;> rcases ksel_F K1 x (k : Int) with h2 | ⟨h2, h3⟩
    · rw [h, h2]; exact .inl rfl
    · rw [h, h2, h3]; exact .inr (by simp)
    · rw [h2]; unfold cF' at h; exact .inr (by omega)
    · rw [h2, h3]; unfold cF' at h; exact .inr (by simp; omega)
theorem fold_F (f : Func) : foldF f = f ∨ cF' (foldF f).Code < cF' f.Code := by
  rcases foldC_F f f.Code 0 K0 with h | h
  · left; unfold foldF; rw [h]
  · exact .inr h
theorem thread_F (f : Func) : cF' (threadF f).Code = cF' f.Code := by
  unfold cF' threadF
  rw [List.countP_map]
  congr 1
  funext x
  simp only [Function.comp, isF, thr_op]
theorem prC_F (f : Func) : ∀ (q : List Inst) (k : Nat), cF' (prC f q k) ≤ cF' q
  | [], _ => Nat.le_refl _
  | x :: q, k => by
    have := prC_F f q (k + 1)
    have hx : isF (prI f x) = isF x := by simp only [isF, prI_op]
    unfold cF' at this ⊢
    rw [prC, List.countP_cons]
    split
    · rw [List.countP_cons, hx]; omega
    · omega
theorem prune_F (f : Func) : cF' (pruneF f).Code ≤ cF' f.Code := prC_F f f.Code 0
theorem prune_same {f : Func} (hf : Fok f) (h : (pruneF f).Code.length = f.Code.length) : pruneF f = f := by
  refine prune_id hf fun i hi => ?_
  rw [prune_len] at h
  cases hr : rc f i
  · exfalso
    have hs := cntR_succ f i
    rw [hr] at hs
    have h1 := cntR_le f i
    have h2 : ∀ m, i + 1 ≤ m → cntR f m < m := by
      intro m hm
      induction m with
      | zero => omega
      | succ m ih =>
        have := cntR_succ f m
        by_cases e : m = i
        · subst e; simp at hs; omega
        · have := ih (by omega)
          have : (if rc f m = true then 1 else 0) ≤ 1 := by split <;> omega
          omega
    have := h2 f.Code.length (by omega)
    omega
  · rfl
open Classical in
noncomputable def msr (f : Func) : Nat := 2 * (f.Code.length + cF' f.Code) + if threadF f = f then 0 else 1
theorem msr_le {f : Func} (hf : Fok f) : msr f ≤ 300 := by
  have h1 := hf.len
  have h2 : cF' f.Code ≤ f.Code.length := List.countP_le_length
  unfold msr; split <;> omega
theorem msr_lt {f : Func} (hf : Fok f) (h : rndF f ≠ f) : msr (rndF f) < msr f := by
  have f1 := fold_ok hf
  have f2 := thread_ok f1
  have hl := rnd_len f
  have c1 : cF' (rndF f).Code ≤ cF' (foldF f).Code := Nat.le_trans (prune_F _) (Nat.le_of_eq (thread_F _))
  have c2 : cF' (foldF f).Code ≤ cF' f.Code := by
    rcases fold_F f with e | e
    · rw [e]; exact Nat.le_refl _
    · omega
  by_cases e : (rndF f).Code.length = f.Code.length
  · have hp : rndF f = threadF (foldF f) := prune_same f2 (by rw [thread_len, fold_len]; exact e)
    rcases fold_F f with e2 | e2
    · rw [e2] at hp
      have ht : threadF (rndF f) = rndF f := by rw [hp]; exact thread_twice hf
      have hn : ¬ threadF f = f := fun e3 => h (hp.trans e3)
      unfold msr
      rw [if_pos ht, if_neg hn, e]
      omega
    · unfold msr; split <;> split <;> omega
  · unfold msr; split <;> split <;> omega
theorem rnd_name (f : Func) : (rndF f).Name = f.Name := rfl
def instB (x y : Inst) : Bool := andB (eqI x.Op y.Op) (andB (eqI x.A y.A) (andB (eqI x.B y.B) (andB (eqI x.C y.C) (andB (eqI x.Obj y.Obj) (andB (eqI x.N y.N) (andB (eqI x.Fn y.Fn) (andB (eqI x.Order y.Order) true)))))))
theorem instB_iff {x y : Inst} : instB x y = true ↔ x = y := by
  cases x; cases y
  simp [instB, andB_d, eqI_d]
theorem instB_fst {l l' : List Inst} (hl : l.length = l'.length) : first (fun k x => onlyIf (!(instB x (gd l' k))) false) l 0 = (none : Option Bool) ↔ l = l' := by
  rw [first_none_iff]
  constructor
  · intro h
    apply List.ext_getElem hl
    intro i h1 h2
    have := h i l[i] (List.getElem?_eq_getElem h1)
    rw [Nat.zero_add, gd_eq (List.getElem?_eq_getElem h2)] at this
    cases hb : instB l[i] l'[i]
    · rw [hb] at this; cases this
    · exact instB_iff.1 hb
  · intro h j x hx
    subst h
    rw [Nat.zero_add, gd_eq hx, instB_iff.2 rfl]; rfl
theorem eq_insts (l l' : List Inst) : (l = l' → slices_Equal_api_Inst l l' = some true) ∧ (l ≠ l' → slices_Equal_api_Inst l l' = some false) := by
  by_cases hl : l.length = l'.length
  · have h := srch (L := slices_Equal_api_Inst_L1 l') (fun k x => onlyIf (!(instB x (gd l' k))) false) (fun _ => rfl) l 0 fun j x hx q => by
      have hj := getN_some hx
      rw [Nat.zero_add, slices_Equal_api_Inst_L1, List.getElem?_eq_getElem (by omega), Option.bind_some, gd_eq (List.getElem?_eq_getElem (by omega))]
      exact step_only _ _ _
    rw [slices_Equal_api_Inst, h, hl, eqI_r]
    constructor
    · intro e; rw [(instB_fst hl).2 e]; rfl
    · intro e
      cases hh : first (fun k x => onlyIf (!(instB x (gd l' k))) false) l 0 with
      | none => exact absurd ((instB_fst hl).1 hh) e
      | some b =>
        obtain ⟨j, x, _, hb⟩ := first_some hh
        revert hb; cases (!(instB x (gd l' (0 + j))))
        · intro hb; cases hb
        · intro hb; cases hb; rfl
  · have : eqI ((l.length : Nat) : Int) ((l'.length : Nat) : Int) = false := by rw [eqI_d]; exact decide_eq_false (by omega)
    rw [slices_Equal_api_Inst, this]
    exact ⟨fun e => absurd (by rw [e]) hl, fun _ => rfl⟩
theorem same_code {a b : Func} (hn : a.Name = b.Name) : (a.Code = b.Code → r15_SameCode a b = some true) ∧ (a.Code ≠ b.Code → r15_SameCode a b = some false) := by
  by_cases hl : a.Code.length = b.Code.length
  · have h := srch (L := r15_SameCode_L1 b) (fun k x => onlyIf (!(instB x (gd b.Code k))) false) (fun _ => rfl) a.Code 0 fun j x hx q => by
      have hj := getN_some hx
      rw [Nat.zero_add, r15_SameCode_L1, List.getElem?_eq_getElem (by omega), Option.bind_some, gd_eq (List.getElem?_eq_getElem (by omega))]
      exact step_only _ _ _
    rw [r15_SameCode, h, hl, eqI_r, hn, eqS_refl]
    constructor
    · intro e; rw [(instB_fst hl).2 e]; rfl
    · intro e
      cases hh : first (fun k x => onlyIf (!(instB x (gd b.Code k))) false) a.Code 0 with
      | none => exact absurd ((instB_fst hl).1 hh) e
      | some bb =>
        obtain ⟨j, x, _, hb⟩ := first_some hh
        revert hb; cases (!(instB x (gd b.Code (0 + j))))
        · intro hb; cases hb
        · intro hb; cases hb; rfl
  · have : eqI ((a.Code.length : Nat) : Int) ((b.Code.length : Nat) : Int) = false := by rw [eqI_d]; exact decide_eq_false (by omega)
    rw [r15_SameCode, this, hn, eqS_refl]
    exact ⟨fun e => absurd (by rw [e]) hl, fun _ => rfl⟩
theorem rnd_own (fuel : Nat) {f : Func} (hf : Fok f) : simplify_Fold (fuel + 100) f = some (foldF f, 0) ∧ simplify_Thread (fuel + 100) (foldF f) = some (threadF (foldF f), 0) ∧ simplify_Prune (fuel + 100) (threadF (foldF f)) = some (rndF f, 0) := by
  have h0 := fck_iff.2 hf
  have h1 := fck_iff.2 (fold_ok hf)
  have h2 := fck_iff.2 (thread_ok (fold_ok hf))
  have a := own_Fold (fuel + 92) f
  have b := own_Thread fuel (foldF f)
  have c := own_Prune fuel (threadF (foldF f))
  rw [if_pos h0] at a
  rw [if_pos h1] at b
  rw [if_pos h2] at c
  exact ⟨a, b, c⟩
theorem rnd_ref (fuel : Nat) {f : Func} (hf : Fok f) : r15_Fold (fuel + 100) f = some (foldF f, 0) ∧ r15_Thread (fuel + 100) (foldF f) = some (threadF (foldF f), 0) ∧ r15_Prune (fuel + 100) (threadF (foldF f)) = some (rndF f, 0) := by
  have h0 := fck_iff.2 hf
  have h1 := fck_iff.2 (fold_ok hf)
  have h2 := fck_iff.2 (thread_ok (fold_ok hf))
  have a := ref_Fold fuel f hf.len
  have b := ref_Thread fuel (foldF f)
  have c := ref_Prune fuel (threadF (foldF f))
  rw [if_pos h0] at a
  rw [if_pos h1] at b
  rw [if_pos h2] at c
  exact ⟨a, b, c⟩
theorem fun_eq {f g : Func} (hn : f.Name = g.Name) (hc : f.Code = g.Code) : f = g := by cases f; cases g; simp_all
/-- What the rounds end in. -/
structure End (P : Inst → Prop) (f g : Func) : Prop where
  ok : Fok g
  fix : rndF g = g
  name : g.Name = f.Name
  len : g.Code.length ≤ f.Code.length
  kept : ∀ x ∈ g.Code, P x
theorem ends {P : Inst → Prop} (hP : Kept P) (fuel : Nat) : ∀ (m : Nat) (f : Func), msr f ≤ m → Fok f → (∀ x ∈ f.Code, P x) → ∃ g, (∀ q, m < q → simplify_function_L1 (fuel + 100) q f.Name f.Code = some (g, 0) ∧ r15_Function_L1 (fuel + 100) q f.Name f.Code = some g) ∧ End P f g
  | m, f, hm, hf, hp => by
    obtain ⟨o1, o2, o3⟩ := rnd_own fuel hf
    obtain ⟨r1, r2, r3⟩ := rnd_ref fuel hf
    have e0 : (!(eqI 0 0)) = false := rfl
    by_cases e : rndF f = f
    · refine ⟨f, fun q hq => ?_, hf, e, rfl, Nat.le_refl _, hp⟩
      obtain ⟨q, rfl⟩ : ∃ q', q = q' + 1 := ⟨q - 1, by omega⟩
      rw [simplify_function_L1, r15_Function_L1, show ({ Name := f.Name, Code := f.Code } : Func) = f from rfl, o1, r1]
      simp only [Option.bind_some, e0, cond_false, o2, o3, r2, r3, e]
      rw [(eq_insts f.Code f.Code).1 rfl, (same_code (a := f) (b := f) rfl).1 rfl]
      exact ⟨rfl, rfl⟩
    · have hlt := msr_lt hf e
      have hne : f.Code ≠ (rndF f).Code := fun h => e (fun_eq (rnd_name f) h.symm)
      obtain ⟨g, hg, en⟩ := ends hP fuel (m - 1) (rndF f) (by omega) (rnd_ok hf) (rnd_kept hP hf hp)
      refine ⟨g, fun q hq => ?_, en.ok, en.fix, en.name.trans (rnd_name f), Nat.le_trans en.len (rnd_len f), en.kept⟩
      obtain ⟨q, rfl⟩ : ∃ q', q = q' + 1 := ⟨q - 1, by omega⟩
      obtain ⟨g1, g2⟩ := hg q (by omega)
      rw [simplify_function_L1, r15_Function_L1, show ({ Name := f.Name, Code := f.Code } : Func) = f from rfl, o1, r1]
      simp only [Option.bind_some, e0, cond_false, o2, o3, r2, r3]
      rw [(eq_insts f.Code (rndF f).Code).2 hne, (same_code (a := rndF f) (b := f) (rnd_name f)).2 (Ne.symm hne)]
      exact ⟨g1, g2⟩
termination_by m => m
decreasing_by
  have := msr_lt ‹Fok f› ‹_›
  omega
theorem function_ex {P : Inst → Prop} (hP : Kept P) {f : Func} (hf : Fok f) (hp : ∀ x ∈ f.Code, P x) : ∃ g, simplify_function 1000 f = some (g, 0) ∧ r15_Function 1000 f = some g ∧ End P f g := by
  obtain ⟨g, h, e⟩ := ends hP 900 300 f (msr_le hf) hf hp
  obtain ⟨a, b⟩ := h 1000 (by omega)
  refine ⟨g, ?_, ?_, e⟩
  · rw [simplify_function, a]; rfl
  · rw [r15_Function, b]; rfl
theorem function_fix {f : Func} (hf : Fok f) (h : rndF f = f) : simplify_function 1000 f = some (f, 0) := by
  obtain ⟨o1, o2, o3⟩ := rnd_own 900 hf
  have e0 : (!(eqI 0 0)) = false := rfl
  rw [simplify_function, simplify_function_L1, show ({ Name := f.Name, Code := f.Code } : Func) = f from rfl, show (1000 : Nat) = 900 + 100 from rfl, o1]
  simp only [Option.bind_some, e0, cond_false, o2, o3, h]
  rw [(eq_insts f.Code f.Code).1 rfl]; rfl
end Go.Dc.Pl
end
section
set_option linter.all false
namespace Go.Dc.Pl
open Go Go.Hw Go.Dc
set_option maxRecDepth 100000
def sm15 (p : Program) : Bool := decide (p.Funcs.length ≤ 4 ∧ p.Vars.length ≤ 20 ∧ p.Mutexes.length ≤ 20 ∧ p.Conds.length ≤ 20 ∧ p.Threads.length ≤ 20) && !p.Funcs.any fun f => ltI 30 ((f.Code.length : Nat) : Int)
theorem small15 (p : Program) : law15_small p = some (sm15 p) := by
  have h := srch (L := law15_small_L1) (fun _ (x : Func) => onlyIf (ltI 30 ((x.Code.length : Nat) : Int)) false) (fun _ => rfl) p.Funcs 0 fun j x hx q => by
    rw [law15_small_L1, step_only]
  rw [first_onlyC] at h
  simp only [law15_small, sm15, h, orB_d, ltI_d, cond_eq_ite]
  by_cases e : p.Funcs.length ≤ 4 ∧ p.Vars.length ≤ 20 ∧ p.Mutexes.length ≤ 20 ∧ p.Conds.length ≤ 20 ∧ p.Threads.length ≤ 20
  · rw [if_neg (by simp; omega)]; simp only [e]; cases p.Funcs.any fun f => decide (30 < ((f.Code.length : Nat) : Int)) <;> simp
  · rw [if_pos (by simp; omega)]; simp only [e]; simp
theorem sm15_t {p : Program} (h : sm15 p = true) : p.Funcs.length ≤ 4 ∧ p.Vars.length ≤ 20 ∧ p.Mutexes.length ≤ 20 ∧ p.Conds.length ≤ 20 ∧ p.Threads.length ≤ 20 ∧ ∀ f ∈ p.Funcs, f.Code.length ≤ 30 := by
  simp only [sm15, Bool.and_eq_true, decide_eq_true_eq, Bool.not_eq_true', List.any_eq_false, ltI_d] at h
  obtain ⟨⟨a, b, c, d, e⟩, h⟩ := h
  exact ⟨a, b, c, d, e, fun f hf => by have := h f hf; omega⟩
theorem small_of {p : Program} (h1 : p.Funcs.length ≤ 4 ∧ p.Vars.length ≤ 20 ∧ p.Mutexes.length ≤ 20 ∧ p.Conds.length ≤ 20 ∧ p.Threads.length ≤ 20 ∧ ∀ f ∈ p.Funcs, f.Code.length ≤ 30) : small p = true := by
  obtain ⟨a, b, c, d, e, h⟩ := h1
  simp only [small, Bool.and_eq_true, decide_eq_true_eq, Bool.not_eq_true', List.any_eq_false]
  exact ⟨by omega, fun f hf => by have := h f hf; omega⟩
theorem exs_of {p : Program} {x : Inst} (h : x.Op = 1 ∨ x.Op = 4 ∨ x.Op = 5) : exs p x = true := by
  rw [exs, r08_exists]
  rcases h with h | h | h <;> simp [eqI_d, h]
theorem exs_len {p q : Program} (h1 : q.Vars.length = p.Vars.length) (h2 : q.Mutexes.length = p.Mutexes.length) (h3 : q.Conds.length = p.Conds.length) (h4 : q.Funcs.length = p.Funcs.length) (x : Inst) : exs q x = exs p x := by
  rw [exs, exs, r08_exists, r08_exists, h1, h2, h3, h4]
theorem kept_exs (p : Program) : Kept fun x => exs p x = true :=
  ⟨fun x m _ hj _ => exs_of (x := { x with N := m }) (by rcases isJ_iff.1 hj with h | h; exact .inr (.inl h); exact .inr (.inr h)), fun _ _ _ _ => exs_of (.inl rfl), fun _ => exs_of (.inr (.inl rfl))⟩
theorem ok_of {p : Program} (hc : eqI (chk p).1 0 = true) {f : Func} (hf : f ∈ p.Funcs) : Fok f ∧ ∀ x ∈ f.Code, exs p x = true := by
  obtain ⟨k, hk⟩ := List.getElem?_of_mem hf
  have h := cF_iff.1 ((chk_iff.1 hc).2.2.1 k f hk)
  have hx : ∀ x ∈ f.Code, eqI (icode x) 0 = true ∧ exs p x = true ∧ (x.Op = 4 ∨ x.Op = 5 → 0 ≤ x.N ∧ x.N ≤ f.Code.length) := fun x hx => by
    obtain ⟨j, hj⟩ := List.getElem?_of_mem hx
    exact ci_iff.1 (h.2 j x hj)
  exact ⟨⟨h.1, fun x hm => by have := (hx x hm).1; simpa [eqI] using this, fun x hm => (hx x hm).2.2⟩, fun x hm => (hx x hm).2.1⟩
theorem chk_of {p q : Program} (hc : eqI (chk p).1 0 = true) (h1 : q.Vars = p.Vars) (h2 : q.Mutexes = p.Mutexes) (h3 : q.Conds = p.Conds) (h4 : q.Threads = p.Threads) (hl : q.Funcs.length = p.Funcs.length)
    (hn : q.Funcs.map Func.Name = p.Funcs.map Func.Name) (hf : ∀ f ∈ q.Funcs, Fok f ∧ ∀ x ∈ f.Code, exs p x = true) : eqI (chk q).1 0 = true := by
  obtain ⟨a, b, _, d⟩ := chk_iff.1 hc
  refine chk_iff.2 ⟨?_, ?_, fun k f hk => ?_, ?_⟩
  · rw [ckN, h1, h2, h3, hn]; exact a
  · rw [ckO, limP, h1, h2, h3, hl]; exact b
  · obtain ⟨o, e⟩ := hf f (List.mem_of_getElem? hk)
    refine cF_iff.2 ⟨o.len, fun j x hx => ci_iff.2 ⟨by rw [o.ic x (List.mem_of_getElem? hx)]; rfl, ?_, o.tgt x (List.mem_of_getElem? hx)⟩⟩
    rw [exs_len (by rw [h1]) (by rw [h2]) (by rw [h3]) hl]
    exact e x (List.mem_of_getElem? hx)
  · have : ckT q = ckT p := by
      unfold ckT thF; rw [h4, hl]
    rw [this]; exact d
def noP : Program := { Vars := [], Mutexes := [], Conds := [], Funcs := [], Threads := [] }
theorem loops {P : Inst → Prop} (hP : Kept P) : ∀ (q : List Func) (k : Nat) (gs : List Func), gs.length = k → (∀ f ∈ q, Fok f ∧ ∀ x ∈ f.Code, P x) →
    ∃ l', simplify_Program_L1 1000 q k (gs ++ q) = some (.inl (gs ++ l')) ∧ r15_Program_L1 1000 q.length k (gs ++ q) = some (gs ++ l') ∧ l'.length = q.length ∧ (∀ (i : Nat) (f g : Func), q[i]? = some f → l'[i]? = some g → End P f g) ∧ l'.map Func.Name = q.map Func.Name
  | [], k, gs, hk, _ => ⟨[], by rw [simplify_Program_L1], by rw [List.length_nil, r15_Program_L1], rfl, fun i f g h => by simp at h, rfl⟩
  | f :: q, k, gs, hk, hq => by
    obtain ⟨h1, h2⟩ := hq f List.mem_cons_self
    obtain ⟨g, e1, e2, en⟩ := function_ex hP h1 h2
    obtain ⟨l', i1, i2, i3, i4, i5⟩ := loops hP q (k + 1) (gs ++ [g]) (by simp; omega) fun z hz => hq z (List.mem_cons_of_mem _ hz)
    rw [List.append_assoc, List.append_assoc] at i1 i2
    have hg : (gs ++ f :: q)[k]? = some f := by rw [List.getElem?_append_right (by omega), hk, Nat.sub_self]; rfl
    have hs : (gs ++ f :: q).set k g = gs ++ ([g] ++ q) := by rw [← hk, set_at]; rfl
    refine ⟨g :: l', ?_, ?_, by simp [i3], ?_, by rw [List.map_cons, List.map_cons, i5, en.name]⟩
    · rw [simplify_Program_L1, e1, Option.bind_some]
      show cond (!(eqI 0 0)) _ _ = _
      rw [show (!(eqI 0 0)) = false from rfl, cond_false, hg, Option.bind_some, Option.bind_some, hs]; exact i1
    · rw [List.length_cons, r15_Program_L1, hg, Option.bind_some, e2, Option.bind_some, Option.bind_some, hs]; exact i2
    · intro i a b ha hb
      cases i with
      | zero => simp at ha hb; subst ha hb; exact en
      | succ i => simp at ha hb; exact i4 i a b ha hb
theorem programs {p : Program} (hs : small p = true) (hc : eqI (chk p).1 0 = true) : ∃ l', simplify_Program 1000 p = some ({ p with Funcs := l' }, 0) ∧ r15_Program 1000 p = some ({ p with Funcs := l' }, 0) ∧ l'.length = p.Funcs.length ∧
    (∀ (i : Nat) (f g : Func), p.Funcs[i]? = some f → l'[i]? = some g → End (fun x => exs p x = true) f g) ∧ l'.map Func.Name = p.Funcs.map Func.Name := by
  obtain ⟨l', a, b, c, d, e⟩ := loops (kept_exs p) p.Funcs 0 [] rfl fun f hf => ok_of hc hf
  rw [List.nil_append, List.nil_append] at a b
  have hv := chk_val hc
  refine ⟨l', ?_, ?_, c, d, e⟩
  · rw [simplify_Program, show (1000 : Nat) = 992 + 8 from rfl, own_check hs, hv, Option.bind_some]
    show cond (!(eqI 0 0)) _ _ = _
    rw [show (!(eqI 0 0)) = false from rfl, cond_false, ownclone hs, Option.bind_some, show (992 + 8 : Nat) = 1000 from rfl, a]; rfl
  · rw [r15_Program, ref_check hs (by decide), hv, Option.bind_some]
    show cond (!(eqI 0 0)) _ _ = _
    rw [show (!(eqI 0 0)) = false from rfl, cond_false, refclone hs, Option.bind_some, b]; rfl
theorem programs_bad {p : Program} (hs : small p = true) (hc : eqI (chk p).1 0 = false) : simplify_Program 1000 p = some (noP, (chk p).1) ∧ r15_Program 1000 p = some (noP, (chk p).1) := by
  constructor
  · rw [simplify_Program, show (1000 : Nat) = 992 + 8 from rfl, own_check hs, Option.bind_some, hc]; rfl
  · rw [r15_Program, ref_check hs (by decide), Option.bind_some, hc]; rfl
theorem fix_loop (gs : List Func) : ∀ (q : List Func) (k : Nat), gs.drop k = q → (∀ g ∈ q, Fok g ∧ rndF g = g) → simplify_Program_L1 1000 q k gs = some (.inl gs)
  | [], k, _, _ => by rw [simplify_Program_L1]
  | g :: q, k, hd, hq => by
    obtain ⟨h1, h2⟩ := hq g List.mem_cons_self
    have hk : gs[k]? = some g := by rw [← List.head?_drop, hd]; rfl
    have hs : gs.set k g = gs := by
      apply List.ext_getElem?
      intro i
      rw [List.getElem?_set]
      split
      · rename_i e; subst e
        have := getN_some hk
        rw [hk]; simp; omega
      · rfl
    rw [simplify_Program_L1, function_fix h1 h2, Option.bind_some]
    show cond (!(eqI 0 0)) _ _ = _
    rw [show (!(eqI 0 0)) = false from rfl, cond_false, hk, Option.bind_some, Option.bind_some]
    show simplify_Program_L1 1000 q (k + 1) (gs.set k g) = _
    rw [hs]
    exact fix_loop gs q (k + 1) (by rw [← List.tail_drop, hd]; rfl) fun z hz => hq z (List.mem_cons_of_mem _ hz)
theorem idem_L1 (p : Program) : ∀ (q : List Func) (k : Nat), k + q.length = p.Funcs.length → (∀ g ∈ q, Fok g ∧ rndF g = g) → (∀ i g, q[i]? = some g → g.Code.length ≤ (gd p.Funcs (k + i)).Code.length) → law15_SimplifyIdempotent_L1 1000 p q k = some (.inl ())
  | [], k, _, _, _ => rfl
  | g :: q, k, hk, hq, hl => by
    rw [List.length_cons] at hk
    obtain ⟨h1, h2⟩ := hq g List.mem_cons_self
    obtain ⟨o1, o2, o3⟩ := rnd_own 900 h1
    have hl0 := hl 0 g rfl
    rw [Nat.add_zero] at hl0
    rw [law15_SimplifyIdempotent_L1, show (1000 : Nat) = 900 + 100 from rfl, o1, Option.bind_some]
    simp only
    rw [o2, Option.bind_some]
    simp only
    rw [o3, Option.bind_some]
    simp only
    rw [h2, same_refl, show ltI ((((gd p.Funcs k).Code).length : Nat) : Int) ((g.Code.length : Nat) : Int) = false by rw [ltI_d]; exact decide_eq_false (by omega), show inB ((k : Nat) : Int) p.Funcs.length = true by rw [inB_d]; simp; omega]
    show law15_SimplifyIdempotent_L1 1000 p q (k + 1) = _
    exact idem_L1 p q (k + 1) (by omega) (fun z hz => hq z (List.mem_cons_of_mem _ hz)) fun i z hz => by
      have := hl (i + 1) z (by simpa using hz)
      rwa [show k + (i + 1) = k + 1 + i by omega] at this
theorem law_idempotent (p : Program) : law15_SimplifyIdempotent 1000 p = some true := by
  rw [law15_SimplifyIdempotent, holds, small15, Option.bind_some]
  cases h : sm15 p
  · rfl
  · have ht := sm15_t h
    have hs := small_of ht
    rw [Bool.not_true, cond_false]
    cases hc : eqI (chk p).1 0
    · obtain ⟨a, _⟩ := programs_bad hs hc
      rw [a, Option.bind_some]
      show cond (!(eqI (chk p).1 0)) _ _ = _
      rw [hc]; rfl
    · obtain ⟨l', a, _, hl, he, hn⟩ := programs hs hc
      have hin : ∀ g ∈ l', ∃ f ∈ p.Funcs, End (fun x => exs p x = true) f g := fun g hg => by
        obtain ⟨i, hi⟩ := List.getElem?_of_mem hg
        have := getN_some hi
        have hf : p.Funcs[i]? = some p.Funcs[i] := List.getElem?_eq_getElem (by omega)
        exact ⟨_, List.mem_of_getElem? hf, he i _ g hf hi⟩
      obtain ⟨t1, t2, t3, t4, t5, t6⟩ := ht
      have hsq : small { p with Funcs := l' } = true := small_of ⟨by show l'.length ≤ 4; omega, t2, t3, t4, t5, fun g hg => by
        obtain ⟨f, hf, e⟩ := hin g hg
        exact Nat.le_trans e.len (t6 f hf)⟩
      have hcq : eqI (chk { p with Funcs := l' }).1 0 = true := chk_of hc rfl rfl rfl rfl hl hn fun g hg => by
        obtain ⟨f, hf, e⟩ := hin g hg
        exact ⟨e.ok, e.kept⟩
      have hvq := chk_val hcq
      have hfix : ∀ g ∈ l', Fok g ∧ rndF g = g := fun g hg => by
        obtain ⟨f, hf, e⟩ := hin g hg; exact ⟨e.ok, e.fix⟩
      have hP2 : simplify_Program 1000 { p with Funcs := l' } = some ({ p with Funcs := l' }, 0) := by
        rw [simplify_Program, show (1000 : Nat) = 992 + 8 from rfl, own_check hsq, hvq, Option.bind_some]
        show cond (!(eqI 0 0)) _ _ = _
        rw [show (!(eqI 0 0)) = false from rfl, cond_false, ownclone hsq, Option.bind_some, show (992 + 8 : Nat) = 1000 from rfl]
        show Option.bind (Option.bind (simplify_Program_L1 1000 l' 0 l') _) _ = _
        rw [fix_loop l' l' 0 rfl hfix]; rfl
      have hV : r08_Valid 1000 { p with Funcs := l' } = some true := by
        rw [r08_Valid, ref_check hsq (by decide), hvq]; rfl
      rw [a, Option.bind_some]
      show cond (!(eqI 0 0)) _ _ = _
      rw [show (!(eqI 0 0)) = false from rfl, cond_false]
      simp only
      rw [hP2, Option.bind_some]
      simp only
      rw [equal_refl, hV, hl, eqI_r, eqI_r, lenB_small (by omega), guardO_t, idem_L1 p l' 0 (by omega) hfix fun i g hi => ?_]
      · rfl
      · have := getN_some hi
        have hf : p.Funcs[i]? = some p.Funcs[i] := List.getElem?_eq_getElem (by omega)
        rw [Nat.zero_add, gd_eq hf]
        exact (he i _ g hf hi).len
end Go.Dc.Pl
end
section
set_option linter.all false
namespace Go.Hw
variable [Globals]
section
variable {H : Type} {enc : TypeId × Value → H} {P : Program} {w : World} {sp : Nat → Bool} {held : Bool}
end
end Go.Hw
end
section
set_option linter.all false
namespace Go.Dc
open Go Go.Hw Go.Proofs
set_option maxRecDepth 100000
theorem dec9 {H : Type} {n : Nat} {d : DataW H} {c : List CV} (h : cvD Tryd.prog n 9 d = some c) : ∃ x : ByteArray, True ∧ c = Enc.enc x := by
  obtain ⟨m, rfl⟩ := cvD_string Tryd.underlying9 h
  exact ⟨m, trivial, rfl⟩
theorem dec81 {H : Type} {n : Nat} {d : DataW H} {c : List CV} (h : cvD Tryd.prog n 81 d = some c) : ∃ x : Int, (-9223372036854775808 ≤ x ∧ x ≤ 9223372036854775807) ∧ c = Enc.enc x := by
  obtain ⟨m, hm, rfl⟩ := cvD_int Tryd.underlying81 h
  exact ⟨m, by simpa [IntKind.min, IntKind.max, IntKind.signed, IntKind.bits] using hm, rfl⟩
theorem dec3 {H : Type} {n : Nat} {d : DataW H} {c : List CV} (h : cvD Tryd.prog n 3 d = some c) : ∃ x : Int, (-9223372036854775808 ≤ x ∧ x ≤ 9223372036854775807) ∧ c = Enc.enc x := by
  obtain ⟨m, hm, rfl⟩ := cvD_int Tryd.underlying3 h
  exact ⟨m, by simpa [IntKind.min, IntKind.max, IntKind.signed, IntKind.bits] using hm, rfl⟩
theorem dec47 {H : Type} {n : Nat} {d : DataW H} {c : List CV} (h : cvD Tryd.prog n 47 d = some c) : ∃ x : Int, (-9223372036854775808 ≤ x ∧ x ≤ 9223372036854775807) ∧ c = Enc.enc x := by
  obtain ⟨m, hm, rfl⟩ := cvD_int Tryd.underlying47 h
  exact ⟨m, by simpa [IntKind.min, IntKind.max, IntKind.signed, IntKind.bits] using hm, rfl⟩
theorem dec65 {H : Type} {n : Nat} {d : DataW H} {c : List CV} (h : cvD Tryd.prog n 65 d = some c) : ∃ x : Int, (-9223372036854775808 ≤ x ∧ x ≤ 9223372036854775807) ∧ c = Enc.enc x := by
  obtain ⟨m, hm, rfl⟩ := cvD_int Tryd.underlying65 h
  exact ⟨m, by simpa [IntKind.min, IntKind.max, IntKind.signed, IntKind.bits] using hm, rfl⟩
def OkInst (x : Inst) : Prop := (fun x : Int => -9223372036854775808 ≤ x ∧ x ≤ 9223372036854775807) x.Op ∧ (fun x : Int => -9223372036854775808 ≤ x ∧ x ≤ 9223372036854775807) x.A ∧ (fun x : Int => -9223372036854775808 ≤ x ∧ x ≤ 9223372036854775807) x.B ∧ (fun x : Int => -9223372036854775808 ≤ x ∧ x ≤ 9223372036854775807) x.C ∧ (fun x : Int => -9223372036854775808 ≤ x ∧ x ≤ 9223372036854775807) x.Obj ∧ (fun x : Int => -9223372036854775808 ≤ x ∧ x ≤ 9223372036854775807) x.N ∧ (fun x : Int => -9223372036854775808 ≤ x ∧ x ≤ 9223372036854775807) x.Fn ∧ (fun x : Int => -9223372036854775808 ≤ x ∧ x ≤ 9223372036854775807) x.Order
theorem dec83 {H : Type} {n : Nat} {d : DataW H} {c : List CV} (h : cvD Tryd.prog n 83 d = some c) : ∃ x : Inst, OkInst x ∧ c = Enc.enc x := by
  obtain ⟨m, l, rfl, rfl, hl, h⟩ := cvD_struct Tryd.underlying83 h
  have hl : l.length = 8 := hl
  match l, hl with
  | [d0, d1, d2, d3, d4, d5, d6, d7], _ =>
    simp only [List.zipWith] at h
    obtain ⟨a0, b0, h0, k1, rfl⟩ := concatM_cons h
    obtain ⟨a1, b1, h1, k2, rfl⟩ := concatM_cons k1
    obtain ⟨a2, b2, h2, k3, rfl⟩ := concatM_cons k2
    obtain ⟨a3, b3, h3, k4, rfl⟩ := concatM_cons k3
    obtain ⟨a4, b4, h4, k5, rfl⟩ := concatM_cons k4
    obtain ⟨a5, b5, h5, k6, rfl⟩ := concatM_cons k5
    obtain ⟨a6, b6, h6, k7, rfl⟩ := concatM_cons k6
    obtain ⟨a7, b7, h7, k8, rfl⟩ := concatM_cons k7
    obtain rfl := concatM_nil k8
    obtain ⟨x0, q0, rfl⟩ := dec81 h0
    obtain ⟨x1, q1, rfl⟩ := dec3 h1
    obtain ⟨x2, q2, rfl⟩ := dec3 h2
    obtain ⟨x3, q3, rfl⟩ := dec3 h3
    obtain ⟨x4, q4, rfl⟩ := dec3 h4
    obtain ⟨x5, q5, rfl⟩ := dec3 h5
    obtain ⟨x6, q6, rfl⟩ := dec47 h6
    obtain ⟨x7, q7, rfl⟩ := dec65 h7
    exact ⟨⟨x0, x1, x2, x3, x4, x5, x6, x7⟩, ⟨q0, q1, q2, q3, q4, q5, q6, q7⟩, rfl⟩
theorem dec22 {H : Type} {n : Nat} {d : DataW H} {c : List CV} (h : cvD Tryd.prog n 22 d = some c) : ∃ x : List Inst, (∀ y ∈ x, (OkInst) y) ∧ c = Enc.enc x := by
  obtain ⟨L, hQ, rfl⟩ := cvD_sliceQ (g := Enc.enc) (Q := OkInst) Tryd.underlying22 (fun n d c h => dec83 h) h
  exact ⟨L, hQ, rfl⟩
def OkFunc (x : Func) : Prop := (fun _ : ByteArray => True) x.Name ∧ (fun l : List Inst => ∀ x ∈ l, (OkInst) x) x.Code
theorem dec24 {H : Type} {n : Nat} {d : DataW H} {c : List CV} (h : cvD Tryd.prog n 24 d = some c) : ∃ x : Func, OkFunc x ∧ c = Enc.enc x := by
  obtain ⟨m, l, rfl, rfl, hl, h⟩ := cvD_struct Tryd.underlying24 h
  have hl : l.length = 2 := hl
  match l, hl with
  | [d0, d1], _ =>
    simp only [List.zipWith] at h
    obtain ⟨a0, b0, h0, k1, rfl⟩ := concatM_cons h
    obtain ⟨a1, b1, h1, k2, rfl⟩ := concatM_cons k1
    obtain rfl := concatM_nil k2
    obtain ⟨x0, q0, rfl⟩ := dec9 h0
    obtain ⟨x1, q1, rfl⟩ := dec22 h1
    exact ⟨⟨x0, x1⟩, ⟨q0, q1⟩, rfl⟩
def OkVar (x : Var) : Prop := (fun _ : ByteArray => True) x.Name ∧ (fun x : Int => -9223372036854775808 ≤ x ∧ x ≤ 9223372036854775807) x.Init
theorem dec69 {H : Type} {n : Nat} {d : DataW H} {c : List CV} (h : cvD Tryd.prog n 69 d = some c) : ∃ x : Var, OkVar x ∧ c = Enc.enc x := by
  obtain ⟨m, l, rfl, rfl, hl, h⟩ := cvD_struct Tryd.underlying69 h
  have hl : l.length = 2 := hl
  match l, hl with
  | [d0, d1], _ =>
    simp only [List.zipWith] at h
    obtain ⟨a0, b0, h0, k1, rfl⟩ := concatM_cons h
    obtain ⟨a1, b1, h1, k2, rfl⟩ := concatM_cons k1
    obtain rfl := concatM_nil k2
    obtain ⟨x0, q0, rfl⟩ := dec9 h0
    obtain ⟨x1, q1, rfl⟩ := dec3 h1
    exact ⟨⟨x0, x1⟩, ⟨q0, q1⟩, rfl⟩
theorem dec37 {H : Type} {n : Nat} {d : DataW H} {c : List CV} (h : cvD Tryd.prog n 37 d = some c) : ∃ x : List Var, (∀ y ∈ x, (OkVar) y) ∧ c = Enc.enc x := by
  obtain ⟨L, hQ, rfl⟩ := cvD_sliceQ (g := Enc.enc) (Q := OkVar) Tryd.underlying37 (fun n d c h => dec69 h) h
  exact ⟨L, hQ, rfl⟩
theorem dec38 {H : Type} {n : Nat} {d : DataW H} {c : List CV} (h : cvD Tryd.prog n 38 d = some c) : ∃ x : List ByteArray, (∀ y ∈ x, (fun _ : ByteArray => True) y) ∧ c = Enc.enc x := by
  obtain ⟨L, hQ, rfl⟩ := cvD_sliceQ (g := Enc.enc) (Q := fun _ : ByteArray => True) Tryd.underlying38 (fun n d c h => dec9 h) h
  exact ⟨L, hQ, rfl⟩
theorem dec73 {H : Type} {n : Nat} {d : DataW H} {c : List CV} (h : cvD Tryd.prog n 73 d = some c) : ∃ x : List Func, (∀ y ∈ x, (OkFunc) y) ∧ c = Enc.enc x := by
  obtain ⟨L, hQ, rfl⟩ := cvD_sliceQ (g := Enc.enc) (Q := OkFunc) Tryd.underlying73 (fun n d c h => dec24 h) h
  exact ⟨L, hQ, rfl⟩
def OkStart (x : Start) : Prop := (fun x : Int => -9223372036854775808 ≤ x ∧ x ≤ 9223372036854775807) x.Func ∧ (fun x : Int => -9223372036854775808 ≤ x ∧ x ≤ 9223372036854775807) x.Arg
theorem dec144 {H : Type} {n : Nat} {d : DataW H} {c : List CV} (h : cvD Tryd.prog n 144 d = some c) : ∃ x : Start, OkStart x ∧ c = Enc.enc x := by
  obtain ⟨m, l, rfl, rfl, hl, h⟩ := cvD_struct Tryd.underlying144 h
  have hl : l.length = 2 := hl
  match l, hl with
  | [d0, d1], _ =>
    simp only [List.zipWith] at h
    obtain ⟨a0, b0, h0, k1, rfl⟩ := concatM_cons h
    obtain ⟨a1, b1, h1, k2, rfl⟩ := concatM_cons k1
    obtain rfl := concatM_nil k2
    obtain ⟨x0, q0, rfl⟩ := dec3 h0
    obtain ⟨x1, q1, rfl⟩ := dec3 h1
    exact ⟨⟨x0, x1⟩, ⟨q0, q1⟩, rfl⟩
theorem dec74 {H : Type} {n : Nat} {d : DataW H} {c : List CV} (h : cvD Tryd.prog n 74 d = some c) : ∃ x : List Start, (∀ y ∈ x, (OkStart) y) ∧ c = Enc.enc x := by
  obtain ⟨L, hQ, rfl⟩ := cvD_sliceQ (g := Enc.enc) (Q := OkStart) Tryd.underlying74 (fun n d c h => dec144 h) h
  exact ⟨L, hQ, rfl⟩
def OkProgram (x : Program) : Prop := (fun l : List Var => ∀ x ∈ l, (OkVar) x) x.Vars ∧ (fun l : List ByteArray => ∀ x ∈ l, (fun _ : ByteArray => True) x) x.Mutexes ∧ (fun l : List ByteArray => ∀ x ∈ l, (fun _ : ByteArray => True) x) x.Conds ∧ (fun l : List Func => ∀ x ∈ l, (OkFunc) x) x.Funcs ∧ (fun l : List Start => ∀ x ∈ l, (OkStart) x) x.Threads
theorem dec76 {H : Type} {n : Nat} {d : DataW H} {c : List CV} (h : cvD Tryd.prog n 76 d = some c) : ∃ x : Program, OkProgram x ∧ c = Enc.enc x := by
  obtain ⟨m, l, rfl, rfl, hl, h⟩ := cvD_struct Tryd.underlying76 h
  have hl : l.length = 5 := hl
  match l, hl with
  | [d0, d1, d2, d3, d4], _ =>
    simp only [List.zipWith] at h
    obtain ⟨a0, b0, h0, k1, rfl⟩ := concatM_cons h
    obtain ⟨a1, b1, h1, k2, rfl⟩ := concatM_cons k1
    obtain ⟨a2, b2, h2, k3, rfl⟩ := concatM_cons k2
    obtain ⟨a3, b3, h3, k4, rfl⟩ := concatM_cons k3
    obtain ⟨a4, b4, h4, k5, rfl⟩ := concatM_cons k4
    obtain rfl := concatM_nil k5
    obtain ⟨x0, q0, rfl⟩ := dec37 h0
    obtain ⟨x1, q1, rfl⟩ := dec38 h1
    obtain ⟨x2, q2, rfl⟩ := dec38 h2
    obtain ⟨x3, q3, rfl⟩ := dec73 h3
    obtain ⟨x4, q4, rfl⟩ := dec74 h4
    exact ⟨⟨x0, x1, x2, x3, x4⟩, ⟨q0, q1, q2, q3, q4⟩, rfl⟩
theorem open76 {H : Type} {enc : TypeId × Value → H} {W : World} {sp : Nat → Bool} {held : Bool} {v : Value} {d : DataW H} {p : List MemPlace} {r : Go.Reach} {b0 : Nat} (hv : Value.okWide Tryd.prog W r b0 76 v) (h : DataW.Trod enc Tryd.prog W 0 sp held 76 v d p) :
    ∃ x : Program, OkProgram x ∧ AVRep W m0 (fun _ => False) v (.agg ((Enc.enc x).map .p)) := by
  obtain ⟨cvs, e, hr⟩ := rep_struct (m := 8) Tryd.underlying76 (by kernel_rfl) hv h
  obtain ⟨x, hx, rfl⟩ := dec76 e
  exact ⟨x, hx, hr⟩
theorem gN2 : Tryd.prog.globalNamed "modelcheck/value.names" = some 2 := by kernel_rfl
theorem gN0 : Tryd.prog.globalNamed "modelcheck/inst.rows" = some 0 := by kernel_rfl
/-- The package variables as the rows lay them. -/
theorem gT2 : (Tryd.prog.globals[2]?).map (·.type) = some 217 := by kernel_rfl
set_option maxRecDepth 100000 in
theorem gC2 : cvD Tryd.prog 6 217 (Go.Proofs.YtihjddokgmjafaaDoor.Rows.laid_modelcheck_value_names (H := Unit)) = some (encL namesTab) := by kernel_rfl
theorem gT0 : (Tryd.prog.globals[0]?).map (·.type) = some 184 := by kernel_rfl
set_option maxRecDepth 100000 in
theorem gC0 : cvD Tryd.prog 6 184 (Go.Proofs.YtihjddokgmjafaaDoor.Rows.laid_modelcheck_inst_rows (H := Unit)) = some (encL rowsTab) := by kernel_rfl
set_option maxRecDepth 100000 in
theorem globs {W : World} (laid : List (String × DataW Unit)) (he : laid = [("modelcheck/value.names", Go.Proofs.YtihjddokgmjafaaDoor.Rows.laid_modelcheck_value_names), ("modelcheck/inst.rows", Go.Proofs.YtihjddokgmjafaaDoor.Rows.laid_modelcheck_inst_rows)])
    (h : laidMetH Tryd.prog laid W) : ∀ g cs, Globals.G g = some cs → AVRep W m0 (fun _ => False) (.pointer (some ⟨g, 0, none⟩)) (.cell (.ep cs 0)) := by
  subst he
  rw [MakeChecks.laidMetH_plain _ _ _ (by kernel_rfl)] at h
  obtain ⟨ps, ⟨g0, t0, cs0, f0, p0, q0, hg0, ht0, hv0, hd0, ⟨g1, t1, cs1, f1, p1, q1, hg1, ht1, hv1, hd1, _, _⟩, _⟩, _, _⟩ := h
  obtain rfl := Option.some.inj (gN2.symm.trans hg0)
  obtain rfl := Option.some.inj (gT2.symm.trans ht0)
  obtain rfl := Option.some.inj (gN0.symm.trans hg1)
  obtain rfl := Option.some.inj (gT0.symm.trans ht1)
  intro g cs hgc
  have hgc : (if g = 0 then some (encL rowsTab) else if g = 2 then some (encL namesTab) else none) = some cs := hgc
  split at hgc
  · rename_i e
    subst e
    cases hgc
    exact rep_global (m := 6) (t := 184) (by kernel_rfl) hd1 gC0 fun j => by simpa using World.var?_cell hg1 hv1 j
  · split at hgc
    · rename_i e
      subst e
      cases hgc
      exact rep_global (m := 6) (t := 217) (by kernel_rfl) hd0 gC2 fun j => by simpa using World.var?_cell hg0 hv0 j
    · cases hgc
end Go.Dc
end
