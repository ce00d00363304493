/- Contracts of functions, by their numbers, and the laws that walk them. Conditions: as each states. -/
import Derived.Test.YtihjddokgmjafaaDoorH3
import Derived.Test.YtihjddokgmjafaaDoorH4
import Derived.Test.YtihjddokgmjafaaDoorRows
import Derived.LaidMore
import Derived.MakeChecks
set_option linter.all false
section
set_option linter.all false
namespace Go.Dc
open Go Go.Hw Go.Proofs
set_option maxRecDepth 100000
def r15_Prune_L1 (y4 : (List Bool)) : Nat → (List Int) → Int → Nat → Option ((List Int) × Int)
  | 0, l103, i104, k105 => some ((l103, i104))
  | q125 + 1, l103, i104, k105 => Option.bind (some ([i104])) (fun l129 => guardO (limB 8 (l103.length + l129.length)) (Option.bind (some (l103 ++ l129)) (fun l132 => Option.bind (y4[k105]?) (fun x134 => cond x134 (r15_Prune_L1 y4 q125 l132 (IntKind.i64.wrap (i104 + 1)) (k105 + 1)) (r15_Prune_L1 y4 q125 l132 i104 (k105 + 1))))))

def r15_Prune_L2 (y4 : (List Bool)) (l141 : List Int) : List Inst → Nat → (List Inst) → Option (List Inst)
  | [], k301, l302 => some (l302)
  | x337 :: q333, k301, l302 => Option.bind (y4[k301]?) (fun x340 => cond (!x340) (r15_Prune_L2 y4 l141 q333 (k301 + 1) l302) (cond (orB (eqI x337.Op 4) (eqI x337.Op 5)) (Option.bind (getI l141 x337.N) (fun x345 => Option.bind (some ([{ x337 with N := x345 }])) (fun l348 => guardO (limB 64 (l302.length + l348.length)) (Option.bind (some (l302 ++ l348)) (fun l351 => r15_Prune_L2 y4 l141 q333 (k301 + 1) l351))))) (Option.bind (some ([x337])) (fun l353 => guardO (limB 64 (l302.length + l353.length)) (Option.bind (some (l302 ++ l353)) (fun l356 => r15_Prune_L2 y4 l141 q333 (k301 + 1) l356))))))

def r15_Prune (fuelN : Nat) (a0 : Func) : Option (Func × Int) :=
  Option.bind (r15_Check a0) (fun y1 => cond (!(eqI y1 0)) (some (({ Name := (⟨#[]⟩ : ByteArray), Code := [] } : Func), y1)) (Option.bind (r12_Without fuelN a0 (-1)) (fun y4 => Option.bind (α := (List Int) × Int) (Option.bind (r15_Prune_L1 y4 a0.Code.length [] 0 0) (fun o => match o with | (l117, i118) => some ((l117, i118)))) (fun o => match o with | (l69, i70) => Option.bind (some ([i70])) (fun l138 => guardO (limB 8 (l69.length + l138.length)) (Option.bind (some (l69 ++ l138)) (fun l141 => Option.bind (α := (List Inst)) (Option.bind (r15_Prune_L2 y4 l141 a0.Code 0 []) (fun l326 => some (l326))) (fun l248 => some ({ a0 with Code := l248 }, 0)))))))))

set_option maxHeartbeats 2000000 in
theorem at_r15_Prune {fuelN : Nat} {a0 : Func} {r : Func × Int} (hs : r15_Prune fuelN a0 = some r) : At Tryd.prog 22 [.agg (eA a0)] (.tup [.agg (eA r.1), iV .i64 r.2]) := by
  refine at_bound (by kernel_rfl) fun hb => ?_
  have hb1 : LenOk (.sl a0.Code.length (encL a0.Code)) := lkc hb
  refine at_code mixed Tryd.func22 (by kernel_rfl) rfl (by kernel_rfl) rfl fun Q hQ => ?_
  rw [r15_Prune] at hs
  refine goR f0 ?_
  revert hs; refine bK fun y1 hx2 hs => ?_
  refine cP f0 (at_r15_Check hx2) ?_
  refine goR f0 ?_
  revert hs; refine cS f0 ?_ ?_ <;> intro h3 hs
  · refine goR f0 ?_
    obtain rfl := sj hs
    exact hQ _ _ (rg f0 (Gh.unz _))
  · refine goR f0 ?_
    revert hs; refine bK fun y4 hx5 hs => ?_
    refine cP f0 (at_r12_Without hx5) ?_
    refine goR2 f0 ?_
    revert hs; refine bK fun o72 e71 hs => ?_
    refine awp_cutK (fun (v : (List Int) × Int) (σ : St) => some (v) = some o72 ∧ σ.env 1 = .cell (.ref (.o 1 0 0) 0) ∧ σ.env 2 = .cell (.ref (.o 1 1 0) 0) ∧ σ.env 5 = .cell (sC y4) ∧ σ.env 6 = .cell (.sl (.l 3) 0 1 v.1.length) ∧ σ.env 7 = iV .i64 v.2 ∧ σ.hp (.l 3) = some (.pure (encL v.1)) ∧ σ.hp (.o 1 0 0) = some (.cells (eA a0)) ∧ σ.hp (.o 1 1 0) = some (.cells [tC (⟨#[]⟩ : ByteArray), .z]) ∧ 7 ≤ σ.gen) (by rfl) (fun Q hK73 hX74 => ?_) (fun v σ3 hp => ?_)
    · refine goR f0 ?_
      revert e71; refine bK fun o120 e119 e71 => ?_
      refine awp_loopW (fun (v : Nat × (List Int) × Int × Nat) (σ : St) => r15_Prune_L1 y4 v.1 v.2.1 v.2.2.1 v.2.2.2 = some o120 ∧ v.1 + v.2.2.2 = a0.Code.length ∧ σ.env 1 = .cell (.ref (.o 1 0 0) 0) ∧ σ.env 2 = .cell (.ref (.o 1 1 0) 0) ∧ σ.env 5 = .cell (sC y4) ∧ σ.env 6 = .cell (.sl (.l 8) 0 1 v.2.1.length) ∧ σ.env 7 = iV .i64 v.2.2.1 ∧ σ.env 8 = iV .i64 ((v.2.2.2 : Nat) : Int) ∧ σ.hp (.l 8) = some (.pure (encL v.2.1)) ∧ σ.hp (.o 1 0 0) = some (.cells (eA a0)) ∧ σ.hp (.o 1 1 0) = some (.cells [tC (⟨#[]⟩ : ByteArray), .z]) ∧ 7 ≤ σ.gen) (fun v => v.1) _ (Gh.void _ (.l 8) 6 1 rfl (by simp)) (a0.Code.length, [], 0, 0) ⟨e119, by first | omega | simp | (simp; omega), pv f0, pv f0, pv f0, pv f0, pv f0, pv f0, pv f0, pv f0, pv f0, pg⟩ fun v σ6 hp L121 hL122 => ?_
      obtain ⟨q124, l103, i104, k105⟩ := v
      dsimp only at hp hL122
      obtain ⟨e119, hd123, h5_1, h5_2, h5_5, h5_6, h5_7, h5_8, g5_0, g5_1, g5_2, n5_g⟩ := hp
      have n5_0 : ¬ (σ6.gen = 0) := by omega
      rcases q124 with _ | q125
      · have hlt126 : ¬ k105 < a0.Code.length := by omega
        rw [r15_Prune_L1] at e119; try dsimp only at e119
        have F1 := an h5_1 (an h5_2 (an h5_5 (an h5_6 (an h5_7 (an h5_8 (an g5_0 (an g5_1 (an g5_2 n5_0))))))))
        refine goR F1 ?_
        refine condK_f (by simp [ltI]; omega) ?_
        obtain rfl := sj e119
        try dsimp only at e71
        exact hK73 (l103, i104) _ _ (Gh.ren _ (.l 8) (.l 3) (by simp) rfl rfl) ⟨e71, pv F1, pv F1, pv F1, pv F1, pv F1, pv F1, pv F1, pv F1, pg⟩
      · have hlt126 : k105 < a0.Code.length := by omega
        have ew127 := wrap_succ hlt126 (hb1).len
        rw [r15_Prune_L1] at e119; try dsimp only at e119
        have F2 := an h5_1 (an h5_2 (an h5_5 (an h5_6 (an h5_7 (an h5_8 (an g5_0 (an g5_1 (an g5_2 (an n5_0 (an hlt126 ew127))))))))))
        refine goR F2 ?_
        refine condK_t (by simp [ltI]; omega) ?_
        revert e119; refine lK fun l129 hx130 e119 => ?_
        have hx130n : l129.length = 1 := by rw [hx130]; rfl
        obtain ⟨g131, e119⟩ := guardO_some e119
        have g131 := limB_t g131
        obtain ⟨g131a, g131b⟩ := g131
        revert e119; refine lK fun l132 hx133 e119 => ?_
        have hx133n : l132.length = (l103.length + l129.length) := by rw [hx133]; simp
        have hx133e : encL l132 = encL l103 ++ encL l129 := by rw [hx133]; simp
        revert e119; refine bK fun x134 hx135 e119 => ?_
        have hx135b := getN_some hx135
        have f136 : partCV Tryd.prog 4 (encL y4) (k105) = some (bV x134) := partCV_enc1 hx135 (by simp)
        have F3 := an F2 (an hx130 (an hx133n (an hx133e f136)))
        refine goR F3 ?_
        revert e119; refine cS F3 ?_ ?_ <;> intro h137 e119
        · refine goR F3 ?_
          exact hL122 (q125, l132, IntKind.i64.wrap (i104 + 1), (k105 + 1)) _ _ (Gh.ren _ (.o (σ6.gen + 2) 3 0) (.l 8) (by simp) rfl rfl) ⟨e119, (by first | omega | (simp; omega)), pv F3, pv F3, pv F3, pv F3, pv F3, pv F3, pv F3, pv F3, pv F3, pg⟩ (by omega)
        · refine goR F3 ?_
          exact hL122 (q125, l132, i104, (k105 + 1)) _ _ (Gh.ren _ (.o (σ6.gen + 2) 3 0) (.l 8) (by simp) rfl rfl) ⟨e119, (by first | omega | (simp; omega)), pv F3, pv F3, pv F3, pv F3, pv F3, pv F3, pv F3, pv F3, pv F3, pg⟩ (by omega)
    · obtain ⟨l69, i70⟩ := v
      dsimp only at hp
      obtain ⟨e71, h4_1, h4_2, h4_5, h4_6, h4_7, g4_0, g4_1, g4_2, n4_g⟩ := hp
      obtain rfl := sj e71
      try dsimp only at hs
      have n4_0 : ¬ (σ3.gen = 0) := by omega
      revert hs; refine lK fun l138 hx139 hs => ?_
      have hx139n : l138.length = 1 := by rw [hx139]; rfl
      obtain ⟨g140, hs⟩ := guardO_some hs
      have g140 := limB_t g140
      obtain ⟨g140a, g140b⟩ := g140
      revert hs; refine lK fun l141 hx142 hs => ?_
      have hx142n : l141.length = (l69.length + l138.length) := by rw [hx142]; simp
      have hx142e : encL l141 = encL l69 ++ encL l138 := by rw [hx142]; simp
      have F4 := an h4_1 (an h4_2 (an h4_5 (an h4_6 (an h4_7 (an g4_0 (an g4_1 (an g4_2 (an n4_0 (an hx139 (an hx142n hx142e))))))))))
      refine goR2 F4 ?_
      revert hs; refine bK fun o250 e249 hs => ?_
      refine awp_cutK (fun (v : (List Inst)) (σ : St) => some (v) = some o250 ∧ σ.env 2 = .cell (.ref (.o 1 1 0) 0) ∧ σ.env 9 = .cell (.ref (.o (σ3.gen + 2) 3 0) 0) ∧ σ.hp (.o 1 1 0) = some (.cells [tC (⟨#[]⟩ : ByteArray), .z]) ∧ σ.hp (.l 13) = some (.pure (encL v)) ∧ σ.hp (.o (σ3.gen + 2) 3 0) = some (.cells [tC a0.Name, .sl (.l 13) 0 8 v.length]) ∧ (σ3.gen + 3) ≤ σ.gen) (by rfl) (fun Q hK251 hX252 => ?_) (fun l248 σ9 hp => ?_)
      · refine goR F4 ?_
        revert e249; refine bK fun o328 e327 e249 => ?_
        refine awp_loopW (fun (v : (List Inst) × Nat × (List Inst)) (σ : St) => r15_Prune_L2 y4 l141 v.1 v.2.1 v.2.2 = some o328 ∧ v.1 = a0.Code.drop v.2.1 ∧ σ.env 1 = .cell (.ref (.o 1 0 0) 0) ∧ σ.env 2 = .cell (.ref (.o 1 1 0) 0) ∧ σ.env 5 = .cell (sC y4) ∧ σ.env 6 = .cell (.sl (.o (σ3.gen + 1) 3 0) 0 1 l141.length) ∧ σ.env 9 = .cell (.ref (.o (σ3.gen + 2) 3 0) 0) ∧ σ.env 10 = iV .i64 ((v.2.1 : Nat) : Int) ∧ σ.hp (.o (σ3.gen + 1) 3 0) = some (.pure (encL l141)) ∧ σ.hp (.o 1 0 0) = some (.cells (eA a0)) ∧ σ.hp (.o 1 1 0) = some (.cells [tC (⟨#[]⟩ : ByteArray), .z]) ∧ σ.hp (.l 19) = some (.pure (encL v.2.2)) ∧ σ.hp (.o (σ3.gen + 2) 3 0) = some (.cells [tC a0.Name, .sl (.l 19) 0 8 v.2.2.length]) ∧ (σ3.gen + 3) ≤ σ.gen) (fun v => v.1.length) _ (Gh.voidB _ (.l 19) (.o (σ3.gen + 2) 3 0) 1 8 rfl (by simp [F4]; rfl) (by first | rfl | simp) (by simp)) (a0.Code, 0, []) ⟨e327, by simp, pv F4, pv F4, pv F4, pv F4, pv F4, pv F4, pv F4, pv F4, pv F4, pv F4, pv F4, pg⟩ fun v σ12 hp L329 hL330 => ?_
        obtain ⟨q332, k301, l302⟩ := v
        dsimp only at hp hL330
        obtain ⟨e327, hd331, h11_1, h11_2, h11_5, h11_6, h11_9, h11_10, g11_0, g11_1, g11_2, g11_3, g11_4, n11_g⟩ := hp
        have n11_0 : ¬ (σ12.gen = 0) := by omega
        have n11_σ3gen_0 : ¬ (σ12.gen = σ3.gen) := by omega
        have n11_σ3gen_0' : ¬ (σ3.gen = σ12.gen) := by omega
        have n11_σ3gen_1 : ¬ (σ12.gen = σ3.gen + 1) := by omega
        have n11_σ3gen_1' : ¬ (σ3.gen + 1 = σ12.gen) := by omega
        have n11_σ3gen_2 : ¬ (σ12.gen = σ3.gen + 2) := by omega
        have n11_σ3gen_2' : ¬ (σ3.gen + 2 = σ12.gen) := by omega
        have n11_σ3gen_a : ∀ j, ¬ (σ12.gen + j = σ3.gen) := fun j => by omega
        have n11_σ3gen_a' : ∀ j, ¬ (σ3.gen = σ12.gen + j) := fun j => by omega
        rcases q332 with _ | ⟨x337, q333⟩
        · have hlt334 := drop_end hd331
          rw [r15_Prune_L2] at e327; try dsimp only at e327
          have F5 := an h11_1 (an h11_2 (an h11_5 (an h11_6 (an h11_9 (an h11_10 (an g11_0 (an g11_1 (an g11_2 (an g11_3 (an g11_4 (an n11_0 (an n11_σ3gen_0 (an n11_σ3gen_0' (an n11_σ3gen_1 (an n11_σ3gen_1' (an n11_σ3gen_2 (an n11_σ3gen_2' (an n11_σ3gen_a n11_σ3gen_a'))))))))))))))))))
          refine goR F5 ?_
          refine condK_f (by simp [ltI]; omega) ?_
          obtain rfl := sj e327
          try dsimp only at e249
          exact hK251 l302 _ _ (Gh.ren _ (.l 19) (.l 13) (by simp) rfl rfl) ⟨e249, pv F5, pv F5, pv F5, pv F5, pv F5, pg⟩
        · obtain ⟨hx336, hlt334, hd338⟩ := drop_next hd331
          have ew335 := wrap_succ hlt334 (hb1).len
          rw [r15_Prune_L2] at e327; try dsimp only at e327
          have F6 := an h11_1 (an h11_2 (an h11_5 (an h11_6 (an h11_9 (an h11_10 (an g11_0 (an g11_1 (an g11_2 (an g11_3 (an g11_4 (an n11_0 (an n11_σ3gen_0 (an n11_σ3gen_0' (an n11_σ3gen_1 (an n11_σ3gen_1' (an n11_σ3gen_2 (an n11_σ3gen_2' (an n11_σ3gen_a (an n11_σ3gen_a' (an hlt334 ew335))))))))))))))))))))
          refine goR F6 ?_
          refine condK_t (by simp [ltI]; omega) ?_
          have f339 : partCV Tryd.prog 83 (encL a0.Code) (k301 * 8) = some (.agg (eA x337)) := partCV_enc hx336 (f := 0) (by simp)
          revert e327; refine bK fun x340 hx341 e327 => ?_
          have hx341b := getN_some hx341
          have f342 : partCV Tryd.prog 4 (encL y4) (k301) = some (bV x340) := partCV_enc1 hx341 (by simp)
          have F7 := an F6 (an f339 f342)
          refine goR F7 ?_
          revert e327; refine cS F7 ?_ ?_ <;> intro h343 e327
          · refine goR F7 ?_
            exact hL330 (q333, (k301 + 1), l302) _ _ (Gh.refl _) ⟨e327, hd338, pv F7, pv F7, pv F7, pv F7, pv F7, pv F7, pv F7, pv F7, pv F7, pv F7, pv F7, pg⟩ (by simp)
          · have F8 := an F7 hx341b
            refine goG F7 F8 ?_
            revert e327; refine cS F7 ?_ ?_ <;> intro h344 e327
            · revert e327; refine bK fun x345 hx346 e327 => ?_
              obtain ⟨hx346a, hx346b, hx346c, hx346d⟩ := getI_some hx346
              have f347 : partCV Tryd.prog 3 (encL l141) ((x337.N).toNat) = some (iV .i64 x345) := partCV_enc1 hx346d (by simp)
              revert e327; refine lK fun l348 hx349 e327 => ?_
              have hx349n : l348.length = 1 := by rw [hx349]; rfl
              obtain ⟨g350, e327⟩ := guardO_some e327
              have g350 := limB_t g350
              obtain ⟨g350a, g350b⟩ := g350
              revert e327; refine lK fun l351 hx352 e327 => ?_
              have hx352n : l351.length = (l302.length + l348.length) := by rw [hx352]; simp
              have hx352e : encL l351 = encL l302 ++ encL l348 := by rw [hx352]; simp
              have F9 := an F7 (an f347 (an hx349 (an hx352n hx352e)))
              have F10 := an F9 (an hx341b (an hx346a hx346b))
              refine goG F9 F10 ?_
              exact hL330 (q333, (k301 + 1), l351) _ _ (Gh.ren _ (.o (σ12.gen + 6) 4 0) (.l 19) (by simp) rfl rfl) ⟨e327, hd338, pv F9, pv F9, pv F9, pv F9, pv F9, pv F9, pv F9, pv F9, pv F9, pv F9, pv F9, pg⟩ (by simp)
            · revert e327; refine lK fun l353 hx354 e327 => ?_
              have hx354n : l353.length = 1 := by rw [hx354]; rfl
              obtain ⟨g355, e327⟩ := guardO_some e327
              have g355 := limB_t g355
              obtain ⟨g355a, g355b⟩ := g355
              revert e327; refine lK fun l356 hx357 e327 => ?_
              have hx357n : l356.length = (l302.length + l353.length) := by rw [hx357]; simp
              have hx357e : encL l356 = encL l302 ++ encL l353 := by rw [hx357]; simp
              have F11 := an F7 (an hx354 (an hx357n hx357e))
              have F12 := an F11 hx341b
              refine goG F11 F12 ?_
              exact hL330 (q333, (k301 + 1), l356) _ _ (Gh.ren _ (.o (σ12.gen + 5) 4 0) (.l 19) (by simp) rfl rfl) ⟨e327, hd338, pv F11, pv F11, pv F11, pv F11, pv F11, pv F11, pv F11, pv F11, pv F11, pv F11, pv F11, pg⟩ (by simp)
      · obtain ⟨e249, h10_2, h10_9, g10_0, g10_1, g10_2, n10_g⟩ := hp
        obtain rfl := sj e249
        try dsimp only at hs
        have n10_0 : ¬ (σ9.gen = 0) := by omega
        have n10_σ3gen_0 : ¬ (σ9.gen = σ3.gen) := by omega
        have n10_σ3gen_0' : ¬ (σ3.gen = σ9.gen) := by omega
        have n10_σ3gen_1 : ¬ (σ9.gen = σ3.gen + 1) := by omega
        have n10_σ3gen_1' : ¬ (σ3.gen + 1 = σ9.gen) := by omega
        have n10_σ3gen_2 : ¬ (σ9.gen = σ3.gen + 2) := by omega
        have n10_σ3gen_2' : ¬ (σ3.gen + 2 = σ9.gen) := by omega
        have n10_σ3gen_a : ∀ j, ¬ (σ9.gen + j = σ3.gen) := fun j => by omega
        have n10_σ3gen_a' : ∀ j, ¬ (σ3.gen = σ9.gen + j) := fun j => by omega
        have F13 := an h10_2 (an h10_9 (an g10_0 (an g10_1 (an g10_2 (an n10_0 (an n10_σ3gen_0 (an n10_σ3gen_0' (an n10_σ3gen_1 (an n10_σ3gen_1' (an n10_σ3gen_2 (an n10_σ3gen_2' (an n10_σ3gen_a n10_σ3gen_a'))))))))))))
        refine goR F13 ?_
        obtain rfl := sj hs
        exact hQ _ _ (rg F13 (Gh.frz _ (.l 13)))
end Go.Dc
end
section
set_option linter.all false
namespace Go.Dc
open Go Go.Hw Go.Proofs
set_option maxRecDepth 100000

def law15_SimplifyJumps (fuelN : Nat) (a0 : Func) : Option Bool :=
  cond (ltI 30 ((a0.Code.length : Nat) : Int)) (Option.bind (law15_exampleHolds fuelN) (fun y2 => some y2)) (Option.bind (simplify_Thread fuelN a0) (fun y4 => Option.bind (r15_Thread fuelN a0) (fun y6 => Option.bind (simplify_Prune fuelN a0) (fun y8 => Option.bind (r15_Prune fuelN a0) (fun y10 => guardO (orB (!(andB (eqI y4.2 y6.2) (eqI y8.2 y10.2))) ((r15_SameCode y4.1 y6.1).isSome)) (guardO (orB (!(andB (andB (eqI y4.2 y6.2) (eqI y8.2 y10.2)) ((r15_SameCode y4.1 y6.1).getD default))) ((r15_SameCode y8.1 y10.1).isSome)) (guardO (orB (!(andB (andB (andB (eqI y4.2 y6.2) (eqI y8.2 y10.2)) ((r15_SameCode y4.1 y6.1).getD default)) ((r15_SameCode y8.1 y10.1).getD default))) ((law15_exampleHolds fuelN).isSome)) (some (andB (andB (andB (andB (eqI y4.2 y6.2) (eqI y8.2 y10.2)) ((r15_SameCode y4.1 y6.1).getD default)) ((r15_SameCode y8.1 y10.1).getD default)) ((law15_exampleHolds fuelN).getD default))))))))))

set_option maxHeartbeats 2000000 in
theorem at_law15_SimplifyJumps {fuelN : Nat} {a0 : Func} {r : Bool} (hs : law15_SimplifyJumps fuelN a0 = some r) : At Tryd.prog 4 [.agg (eA a0)] (bV r) := by
  refine at_bound (by kernel_rfl) fun hb => ?_
  have hb1 : LenOk (.sl a0.Code.length (encL a0.Code)) := lkc hb
  refine at_code mixed Tryd.func4 (by kernel_rfl) rfl (by kernel_rfl) rfl fun Q hQ => ?_
  rw [law15_SimplifyJumps] at hs
  refine goR f0 ?_
  revert hs; refine cS f0 ?_ ?_ <;> intro h1 hs
  · refine goR f0 ?_
    revert hs; refine bK fun y2 hx3 hs => ?_
    refine cP f0 (at_law15_exampleHolds hx3) ?_
    refine goR f0 ?_
    obtain rfl := sj hs
    exact hQ _ _ (rg f0 (Gh.refl _))
  · refine goR f0 ?_
    revert hs; refine bK fun y4 hx5 hs => ?_
    refine cP f0 (at_simplify_Thread hx5) ?_
    refine goR f0 ?_
    revert hs; refine bK fun y6 hx7 hs => ?_
    refine cP f0 (at_r15_Thread hx7) ?_
    refine goR f0 ?_
    revert hs; refine bK fun y8 hx9 hs => ?_
    refine cP f0 (at_simplify_Prune hx9) ?_
    refine goR f0 ?_
    revert hs; refine bK fun y10 hx11 hs => ?_
    refine cP f0 (at_r15_Prune hx11) ?_
    refine goG f0 f0 ?_
    obtain ⟨g12, hs⟩ := guardO_some hs
    refine gsel_call (fun hg => at_r15_SameCode (under_call g12 hg)) (fun hg => by (try simp at hg); (first | simp [hg, id]); try rfl) (fun hg => by (try simp at hg); simp [hg, id]) (by simp) ?_
    refine goG f0 f0 ?_
    obtain ⟨g13, hs⟩ := guardO_some hs
    refine gsel_call (fun hg => at_r15_SameCode (under_call g13 hg)) (fun hg => by (try simp at hg); (first | simp [hg, id]); try rfl) (fun hg => by (try simp at hg); simp [hg, id]) (by simp) ?_
    refine goG f0 f0 ?_
    obtain ⟨g14, hs⟩ := guardO_some hs
    refine gsel_call (fun hg => at_law15_exampleHolds (under_call g14 hg)) (fun hg => by (try simp at hg); (first | simp [hg, id]); try rfl) (fun hg => by (try simp at hg); simp [hg, id]) (by simp) ?_
    refine goG f0 f0 ?_
    obtain rfl := sj hs
    exact hQ _ _ (rg f0 (Gh.refl _))
end Go.Dc
end
section
set_option linter.all false
namespace Go.Dc.Pl
open Go Go.Hw Go.Dc
set_option maxRecDepth 100000
/-- Where r jumps lead to from place a, when they end. -/
def fin (f : Func) : Nat → Nat → Option Nat
  | 0, _ => none
  | r + 1, a => match f.Code[a]? with | none => some a | some x => if x.Op = 4 then fin f r x.N.toNat else some a
def finT (f : Func) (a : Nat) : Nat := (fin f (f.Code.length + 1) a).getD a
def isJ (x : Inst) : Bool := orB (eqI x.Op 4) (eqI x.Op 5)
theorem isJ_iff {x : Inst} : isJ x = true ↔ x.Op = 4 ∨ x.Op = 5 := by simp [isJ, orB_d, eqI_d]
def thr (f : Func) (x : Inst) : Inst := if isJ x = true then { x with N := (finT f x.N.toNat : Nat) } else x
def threadF (f : Func) : Func := { f with Code := f.Code.map (thr f) }
theorem tgtN {f : Func} (hf : Fok f) {x : Inst} (hx : x ∈ f.Code) (h : x.Op = 4 ∨ x.Op = 5) : ∃ t : Nat, x.N = t ∧ t ≤ f.Code.length ∧ x.N.toNat = t := by
  have := hf.tgt x hx h
  exact ⟨x.N.toNat, by omega, by omega, rfl⟩
theorem gd_eq {α : Type} [Inhabited α] {l : List α} {k : Nat} {x : α} (h : l[k]? = some x) : gd l k = x := by unfold gd; rw [List.getD_eq_getElem?_getD, h]; rfl
theorem own_final_L1 {f : Func} (hf : Fok f) : ∀ (r q a i : Nat), r + i = f.Code.length + 1 → r < q → a ≤ f.Code.length → simplify_final_L1 f q (a : Int) (i : Int) = some (toS ((fin f r a).map fun n => (n : Int)))
  | r, 0, _, _, _, h, _ => absurd h (by omega)
  | 0, q + 1, a, i, hi, _, _ => by
    have := hf.len
    rw [simplify_final_L1, wrapS (by omega), ltI_d, show decide ((i : Int) < ((f.Code.length + 1 : Nat) : Int)) = false by simp; omega]; rfl
  | r + 1, q + 1, a, i, hi, hq, ha => by
    have := hf.len
    rw [simplify_final_L1, wrapS (by omega), ltI_d, show decide ((i : Int) < ((f.Code.length + 1 : Nat) : Int)) = true by simp; omega, cond_true, fin]
    by_cases h : a < f.Code.length
    · have hx : f.Code[a]? = some f.Code[a] := List.getElem?_eq_getElem h
      generalize hxe : f.Code[a] = x at hx
      have hm := List.mem_of_getElem? hx
      rw [show ltI (a : Int) ((f.Code.length : Nat) : Int) = true by rw [ltI_d]; simp; omega, show inB (a : Int) f.Code.length = true by rw [inB_d]; simp; omega, orB_t, guardO_t, Int.toNat_natCast, gd_eq hx, getI_nat, hx, Option.bind_some, eqI_d]
      by_cases h4 : x.Op = 4
      · obtain ⟨t, e, ht, et⟩ := tgtN hf hm (.inl h4)
        simp only [h4, if_true, decide_true]
        show simplify_final_L1 f q x.N _ = _
        rw [wrapS (by omega), e, own_final_L1 hf r q t (i + 1) (by omega) (by omega) ht, ← e, et]
      · simp only [h4, if_false, decide_false]; rfl
    · rw [show ltI (a : Int) ((f.Code.length : Nat) : Int) = false by rw [ltI_d]; simp; omega, List.getElem?_eq_none (by omega)]; rfl
theorem own_final (fuel : Nat) {f : Func} (hf : Fok f) {a : Nat} (ha : a ≤ f.Code.length) : simplify_final (fuel + 100) f (a : Int) = some ((finT f a : Nat) : Int) := by
  have := hf.len
  have h := own_final_L1 hf (f.Code.length + 1) (fuel + 100) a 0 (by omega) (by omega) ha
  rw [show ((0 : Nat) : Int) = 0 from rfl] at h
  rw [simplify_final, h, finT]
  cases fin f (f.Code.length + 1) a <;> rfl
theorem ref_final_L1 {f : Func} (hf : Fok f) : ∀ (r q a i : Nat), r + i = f.Code.length + 1 → r < q → a ≤ f.Code.length → r15_final_L1 f q (a : Int) (i : Int) = some (toS ((fin f r a).map fun n => (n : Int)))
  | r, 0, _, _, _, h, _ => absurd h (by omega)
  | 0, q + 1, a, i, hi, _, _ => by
    have := hf.len
    rw [r15_final_L1, ltI_d, show decide (((f.Code.length : Nat) : Int) < (i : Int)) = true by simp; omega]; rfl
  | r + 1, q + 1, a, i, hi, hq, ha => by
    have := hf.len
    rw [r15_final_L1, ltI_d, show decide (((f.Code.length : Nat) : Int) < (i : Int)) = false by simp; omega, Bool.not_false, cond_true, fin]
    by_cases h : a < f.Code.length
    · have hx : f.Code[a]? = some f.Code[a] := List.getElem?_eq_getElem h
      generalize hxe : f.Code[a] = x at hx
      have hm := List.mem_of_getElem? hx
      rw [show eqI (a : Int) ((f.Code.length : Nat) : Int) = false by rw [eqI_d]; simp; omega, show inB (a : Int) f.Code.length = true by rw [inB_d]; simp; omega, orB_t, guardO_t, Int.toNat_natCast, gd_eq hx, getI_nat, hx, Option.bind_some, eqI_d]
      by_cases h4 : x.Op = 4
      · obtain ⟨t, e, ht, et⟩ := tgtN hf hm (.inl h4)
        simp only [h4, if_true, decide_true]
        show r15_final_L1 f q x.N _ = _
        rw [wrapS (by omega), e, ref_final_L1 hf r q t (i + 1) (by omega) (by omega) ht, ← e, et]
      · simp only [h4, if_false, decide_false]; rfl
    · rw [show eqI (a : Int) ((f.Code.length : Nat) : Int) = true by rw [eqI_d]; simp; omega, List.getElem?_eq_none (by omega)]; rfl
theorem ref_final (fuel : Nat) {f : Func} (hf : Fok f) {a : Nat} (ha : a ≤ f.Code.length) : r15_final (fuel + 100) f (a : Int) = some ((finT f a : Nat) : Int) := by
  have := hf.len
  have h := ref_final_L1 hf (f.Code.length + 1) (fuel + 100) a 0 (by omega) (by omega) ha
  rw [show ((0 : Nat) : Int) = 0 from rfl] at h
  rw [r15_final, h, finT]
  cases fin f (f.Code.length + 1) a <;> rfl
theorem set_at {α : Type} (p q : List α) (x y : α) : (p ++ x :: q).set p.length y = p ++ y :: q := by simp
theorem own_Thread_L1 (fuel : Nat) {f : Func} (hf : Fok f) : ∀ (q : List Inst) (k : Nat) (p : List Inst), p.length = k → (∀ x ∈ q, x ∈ f.Code) → simplify_Thread_L1 (fuel + 100) f q k (p ++ q) = some (p ++ q.map (thr f))
  | [], k, p, _, _ => by rw [simplify_Thread_L1]; rfl
  | x :: q, k, p, hp, hq => by
    have hx := hq x List.mem_cons_self
    have hq' := fun y hy => hq y (List.mem_cons_of_mem _ hy)
    have hg : (p ++ x :: q)[k]? = some x := by rw [List.getElem?_append_right (by omega), hp, Nat.sub_self]; rfl
    rw [simplify_Thread_L1, List.map_cons, thr]
    show cond (isJ x) _ _ = _
    cases hj : isJ x
    · have := own_Thread_L1 fuel hf q (k + 1) (p ++ [x]) (by simp; omega) hq'
      rw [List.append_assoc, List.append_assoc] at this
      rw [cond_false, if_neg (by simp)]
      exact this
    · obtain ⟨t, e, ht, et⟩ := tgtN hf hx (isJ_iff.1 hj)
      have hs : (p ++ x :: q).set k { x with N := ((finT f t : Nat) : Int) } = p ++ [{ x with N := ((finT f t : Nat) : Int) }] ++ q := by
        rw [← hp, set_at, List.append_assoc]; rfl
      have := own_Thread_L1 fuel hf q (k + 1) (p ++ [{ x with N := ((finT f t : Nat) : Int) }]) (by simp; omega) hq'
      rw [List.append_assoc _ _ (q.map (thr f))] at this
      rw [cond_true, if_pos rfl, e, own_final fuel hf ht, Option.bind_some, hg, Option.bind_some, Option.bind_some, hs, ← e, et]
      exact this
theorem own_Thread (fuel : Nat) (f : Func) : simplify_Thread (fuel + 100) f = some (if fck f = 0 then (threadF f, 0) else (noF, fck f)) := by
  rw [simplify_Thread, show fuel + 100 = (fuel + 92) + 8 from rfl, cfg_leaders, Option.bind_some]
  by_cases h : fck f = 0
  · have hf := fck_iff.1 h
    have hl := hf.len
    rw [if_pos h, if_pos h]
    show cond (!(eqI 0 0)) _ _ = _
    rw [show (!(eqI 0 0)) = false from rfl, cond_false, slices_Clone_api_Inst, limB_small (by decide) (by omega), guardO_t, Option.bind_some]
    have := own_Thread_L1 fuel hf f.Code 0 [] rfl (fun x h => h)
    rw [List.nil_append, List.nil_append] at this
    rw [show (fuel + 92) + 8 = fuel + 100 from rfl, this]; rfl
  · rw [if_neg h, if_neg h]
    show cond (!(eqI (fck f) 0)) _ _ = _
    rw [show (!(eqI (fck f) 0)) = true by simp [eqI_d, h], cond_true]; rfl
theorem ref_Thread_L1 (fuel : Nat) {f : Func} (hf : Fok f) : ∀ (q : List Inst) (k : Nat) (p : List Inst), p.length = k → k + q.length = f.Code.length → (∀ x ∈ q, x ∈ f.Code) → r15_Thread_L1 (fuel + 100) f q k p = some (p ++ q.map (thr f))
  | [], k, p, _, _, _ => by rw [r15_Thread_L1]; simp
  | x :: q, k, p, hp, hk, hq => by
    have hlen := hf.len
    rw [List.length_cons] at hk
    have hx := hq x List.mem_cons_self
    have hq' := fun y hy => hq y (List.mem_cons_of_mem _ hy)
    have hlim : limB 64 (p.length + 1) = true := limB_small (by decide) (by omega)
    have key : ∀ y, r15_Thread_L1 (fuel + 100) f q (k + 1) (p ++ [y]) = some (p ++ y :: q.map (thr f)) := fun y => by
      rw [ref_Thread_L1 fuel hf q (k + 1) (p ++ [y]) (by simp; omega) (by omega) hq', List.append_assoc]; rfl
    rw [r15_Thread_L1, List.map_cons, thr]
    show cond (isJ x) _ _ = _
    cases hj : isJ x
    · rw [cond_false, if_neg (by simp), Option.bind_some, List.length_singleton, hlim, guardO_t, Option.bind_some, key]
    · obtain ⟨t, e, ht, et⟩ := tgtN hf hx (isJ_iff.1 hj)
      rw [cond_true, if_pos rfl, e, ref_final fuel hf ht, Option.bind_some, Option.bind_some, List.length_singleton, hlim, guardO_t, Option.bind_some, key, ← e, et]
theorem ref_Thread (fuel : Nat) (f : Func) : r15_Thread (fuel + 100) f = some (if fck f = 0 then (threadF f, 0) else (noF, fck f)) := by
  rw [r15_Thread, r15_ck, Option.bind_some]
  by_cases h : fck f = 0
  · have hf := fck_iff.1 h
    rw [if_pos h, show (!(eqI (fck f) 0)) = false by simp [eqI_d, h], cond_false, ref_Thread_L1 fuel hf f.Code 0 [] rfl (by omega) (fun x h => h)]; rfl
  · rw [if_neg h, show (!(eqI (fck f) 0)) = true by simp [eqI_d, h], cond_true]; rfl
end Go.Dc.Pl
end
section
set_option linter.all false
namespace Go.Dc.Pl
open Go Go.Hw Go.Dc
set_option maxRecDepth 100000
/-- j follows instruction x at i in a function of n instructions. -/
def Nx (n : Nat) (x : Inst) (i j : Nat) : Prop := (x.Op = 4 ∧ (j : Int) = x.N) ∨ (x.Op = 5 ∧ ((j : Int) = x.N ∨ j = i + 1)) ∨ (x.Op = 7 ∧ j = n) ∨ (x.Op ≠ 4 ∧ x.Op ≠ 5 ∧ x.Op ≠ 7 ∧ j = i + 1)
structure Cl (f : Func) (S : Nat → Prop) : Prop where
  z : S 0
  c : ∀ i x, f.Code[i]? = some x → S i → ∀ j, Nx f.Code.length x i j → S j
/-- What can be reached. -/
def Rc (f : Func) (i : Nat) : Prop := ∀ S, Cl f S → S i
theorem rc_cl (f : Func) : Cl f (Rc f) := ⟨fun _ h => h.z, fun i x hx hi j hj S hS => hS.c i x hx (hi S hS) j hj⟩
open Classical in
noncomputable def rc (f : Func) (i : Nat) : Bool := decide (Rc f i)
theorem rc_iff {f : Func} {i : Nat} : rc f i = true ↔ Rc f i := by simp [rc]
theorem nx_le {f : Func} (hf : Fok f) {i : Nat} {x : Inst} (hx : f.Code[i]? = some x) {j : Nat} (h : Nx f.Code.length x i j) : j ≤ f.Code.length := by
  have hi := getN_some hx
  have ht := hf.tgt x (List.mem_of_getElem? hx)
  rcases h with ⟨a, b⟩ | ⟨a, b | b⟩ | ⟨a, b⟩ | ⟨_, _, _, b⟩
  · have := ht (.inl a); omega
  · have := ht (.inr a); omega
  · omega
  · omega
  · omega
/-- The successors as a list. -/
def ListOf (n : Nat) (x : Inst) (i : Nat) (l : List Int) : Prop := l.length ≤ 2 ∧ (∀ a ∈ l, ∃ j : Nat, a = j ∧ Nx n x i j) ∧ ∀ j : Nat, Nx n x i j → (j : Int) ∈ l
theorem own_succ {f : Func} (hf : Fok f) {i : Nat} {x : Inst} (hx : f.Code[i]? = some x) : ∃ l, it_successors f (i : Int) = some l ∧ ListOf f.Code.length x i l := by
  have hi := getN_some hx
  have hl := hf.len
  have ht := hf.tgt x (List.mem_of_getElem? hx)
  rw [it_successors, getI_nat, hx, Option.bind_some, wrapS (by omega)]
  simp only [eqI_d, cond_eq_ite, decide_eq_true_eq]
  by_cases h4 : x.Op = 4
  · have := ht (.inl h4)
    simp only [h4, if_true]
    refine ⟨_, rfl, by simp, ?_, ?_⟩
    · intro a ha; simp at ha; subst ha; exact ⟨x.N.toNat, by omega, .inl ⟨h4, by omega⟩⟩
    · intro j hj; rcases hj with ⟨_, b⟩ | ⟨a, _⟩ | ⟨a, _⟩ | ⟨a, _⟩ <;> simp_all
  · by_cases h5 : x.Op = 5
    · have := ht (.inr h5)
      simp only [h4, h5, if_true, if_false, Int.reduceEq]
      obtain ⟨t, e⟩ : ∃ t : Nat, x.N = t := ⟨x.N.toNat, by omega⟩
      rw [e]
      have mk : ∀ l : List Int, l.length ≤ 2 → (∀ a, a ∈ l ↔ a = (t : Int) ∨ a = ((i + 1 : Nat) : Int)) → ListOf f.Code.length x i l := by
        intro l hl hm
        refine ⟨hl, fun a ha => ?_, fun j hj => ?_⟩
        · rcases (hm a).1 ha with h | h
          · exact ⟨t, h, .inr (.inl ⟨h5, .inl e.symm⟩)⟩
          · exact ⟨i + 1, h, .inr (.inl ⟨h5, .inr rfl⟩)⟩
        · rw [hm]
          rcases hj with ⟨a, _⟩ | ⟨_, b⟩ | ⟨a, _⟩ | ⟨_, a, _⟩
          · exact absurd a h4
          · rcases b with b | b
            · exact .inl (by rw [b, e])
            · exact .inr (by rw [b])
          · omega
          · exact absurd h5 a
      refine ⟨_, rfl, mk _ ?_ ?_⟩
      · split <;> split <;> split <;> simp
      · intro a
        by_cases h1 : ((i + 1 : Nat) : Int) < (t : Int)
        · have : ¬ ((i + 1 : Nat) : Int) > (t : Int) := by omega
          have h3 : ¬ ((i + 1 : Nat) : Int) = (t : Int) := by omega
          simp only [h1, this, h3, if_true, if_false, decide_false, Bool.not_false, List.mem_cons, List.not_mem_nil, or_false]
          exact or_comm
        · by_cases h2 : ((i + 1 : Nat) : Int) > (t : Int)
          · have h3 : ¬ (t : Int) = ((i + 1 : Nat) : Int) := by omega
            simp only [h1, h2, h3, if_true, if_false, decide_false, Bool.not_false, List.mem_cons, List.not_mem_nil, or_false]
          · have h3 : (t : Int) = ((i + 1 : Nat) : Int) := by omega
            simp only [h1, h2, if_false, decide_true, Bool.not_true, List.mem_cons, List.not_mem_nil, or_false, h3, or_self, Bool.false_eq_true, ite_self]
    · by_cases h7 : x.Op = 7
      · simp only [h4, h5, h7, if_true, if_false, Int.reduceEq]
        refine ⟨_, rfl, by simp, ?_, ?_⟩
        · intro a ha; simp at ha; exact ⟨f.Code.length, ha, .inr (.inr (.inl ⟨h7, rfl⟩))⟩
        · intro j hj; rcases hj with ⟨a, _⟩ | ⟨a, _⟩ | ⟨_, a⟩ | ⟨_, _, a, _⟩ <;> simp_all
      · simp only [h4, h5, h7, if_false]
        refine ⟨_, rfl, by simp, ?_, ?_⟩
        · intro a ha; simp at ha; exact ⟨i + 1, by omega, .inr (.inr (.inr ⟨h4, h5, h7, rfl⟩))⟩
        · intro j hj; rcases hj with ⟨a, _⟩ | ⟨a, _⟩ | ⟨a, _⟩ | ⟨_, _, _, a⟩ <;> simp_all
theorem make2 (fuel : Nat) (a b : Int) : ∃ l, r02_Make (fuel + 8) [a, b] = some l ∧ l.length ≤ 2 ∧ ∀ x, x ∈ l ↔ x = a ∨ x = b := by
  have h1 : r02_Has [] a = some false := rfl
  have h2 : r02_insert (fuel + 8) [] a = some [a] := by
    rw [r02_insert, r02_insert_L1]
    simp [ltI, inB, andB, orB, slB, subL, limB, guardO]
  have h3 : r02_Has [a] b = some (eqI a b) := by
    rw [r02_Has, r02_Has_L1]
    cases h : eqI a b
    · rw [r02_Has_L1]; rfl
    · rfl
  rw [r02_Make, Option.bind_some, r02_Make_L1, h1, Option.bind_some, Bool.not_false, cond_true, h2, Option.bind_some, r02_Make_L1, h3, Option.bind_some]
  by_cases e : a = b
  · refine ⟨[a], ?_, by simp, fun x => by simp [e]⟩
    rw [show eqI a b = true by simp [eqI, e]]; rfl
  · rw [show eqI a b = false by simp [eqI_d, e], Bool.not_false, cond_true]
    by_cases l : a < b
    · refine ⟨[a, b], ?_, by simp, fun x => by simp⟩
      rw [r02_insert, r02_insert_L1, r02_insert_L1]
      simp [ltI, inB, andB, orB, slB, subL, limB, guardO, gd, l, wrap_i64, r02_Make_L1]
    · refine ⟨[b, a], ?_, by simp, fun x => by simp [or_comm]⟩
      rw [r02_insert, r02_insert_L1]
      simp [ltI, inB, andB, orB, slB, subL, limB, guardO, gd, l, wrap_i64, r02_Make_L1]
theorem ref_succ (fuel : Nat) {f : Func} (hf : Fok f) {i : Nat} {x : Inst} (hx : f.Code[i]? = some x) : ∃ l, r12_successors (fuel + 8) f (i : Int) = some l ∧ ListOf f.Code.length x i l := by
  have hi := getN_some hx
  have hl := hf.len
  have ht := hf.tgt x (List.mem_of_getElem? hx)
  rw [r12_successors, getI_nat, hx, Option.bind_some, wrapS (by omega)]
  simp only [eqI_d, cond_eq_ite, decide_eq_true_eq]
  by_cases h4 : x.Op = 4
  · have := ht (.inl h4)
    simp only [h4, if_true]
    refine ⟨_, rfl, by simp, ?_, ?_⟩
    · intro a ha; simp at ha; subst ha; exact ⟨x.N.toNat, by omega, .inl ⟨h4, by omega⟩⟩
    · intro j hj; rcases hj with ⟨_, b⟩ | ⟨a, _⟩ | ⟨a, _⟩ | ⟨a, _⟩ <;> simp_all
  · by_cases h7 : x.Op = 7
    · simp only [h4, h7, if_true, if_false, Int.reduceEq]
      refine ⟨_, rfl, by simp, ?_, ?_⟩
      · intro a ha; simp at ha; exact ⟨f.Code.length, ha, .inr (.inr (.inl ⟨h7, rfl⟩))⟩
      · intro j hj; rcases hj with ⟨a, _⟩ | ⟨a, _⟩ | ⟨_, a⟩ | ⟨_, _, a, _⟩ <;> simp_all
    · by_cases h5 : x.Op = 5
      · have := ht (.inr h5)
        simp only [h4, h7, h5, if_true, if_false, Int.reduceEq]
        obtain ⟨t, e⟩ : ∃ t : Nat, x.N = t := ⟨x.N.toNat, by omega⟩
        rw [e]
        obtain ⟨l, hl, h2, hm⟩ := make2 fuel (t : Int) ((i + 1 : Nat) : Int)
        rw [Option.bind_some, hl]
        refine ⟨l, rfl, h2, fun a ha => ?_, fun j hj => ?_⟩
        · rcases (hm a).1 ha with h | h
          · exact ⟨t, h, .inr (.inl ⟨h5, .inl e.symm⟩)⟩
          · exact ⟨i + 1, h, .inr (.inl ⟨h5, .inr rfl⟩)⟩
        · rw [hm]
          rcases hj with ⟨a, _⟩ | ⟨_, b⟩ | ⟨a, _⟩ | ⟨_, a, _⟩
          · exact absurd a h4
          · rcases b with b | b
            · exact .inl (by rw [b, e])
            · exact .inr (by rw [b])
          · omega
          · exact absurd h5 a
      · simp only [h4, h5, h7, if_false]
        refine ⟨_, rfl, by simp, ?_, ?_⟩
        · intro a ha; simp at ha; exact ⟨i + 1, by omega, .inr (.inr (.inr ⟨h4, h5, h7, rfl⟩))⟩
        · intro j hj; rcases hj with ⟨a, _⟩ | ⟨a, _⟩ | ⟨a, _⟩ | ⟨_, _, _, a⟩ <;> simp_all
end Go.Dc.Pl
end
section
set_option linter.all false
namespace Go.Dc.Pl
open Go Go.Hw Go.Dc
set_option maxRecDepth 100000
theorem count_put {p q : Nat → Bool} {k : Nat} (hp : p k = true) (hq : q k = false) (hj : ∀ j, j ≠ k → q j = p j) : ∀ n, k < n → (List.range n).countP q + 1 = (List.range n).countP p
  | 0, h => absurd h (by omega)
  | n + 1, h => by
    rw [List.range_succ, List.countP_append, List.countP_append]
    by_cases e : k = n
    · subst e
      have : (List.range k).countP q = (List.range k).countP p := List.countP_congr fun j hj' => by rw [hj j (by have := List.mem_range.1 hj'; omega)]
      simp [this, hp, hq]
    · have := count_put hp hq hj n (by omega)
      have h2 := hj n (by omega)
      simp only [List.countP_cons, List.countP_nil, h2]; omega
def seen (m : Map Int Bool) (j : Nat) : Bool := mval m (j : Int) false
def unseen (n : Nat) (m : Map Int Bool) : Nat := (List.range n).countP fun j => !seen m j
theorem seen_put (m : Map Int Bool) (k j : Nat) : seen (mpt m (k : Int) true) j = if k = j then true else seen m j := by
  unfold seen; rw [mval_mpt]
  by_cases e : k = j
  · subst e; simp
  · have : ¬ (k : Int) = j := by omega
    simp [e, this]
theorem unseen_put {n : Nat} {m : Map Int Bool} {k : Nat} (hk : k < n) (hs : seen m k = false) : unseen n (mpt m (k : Int) true) + 1 = unseen n m := by
  refine count_put (k := k) (by simp [hs]) (by simp [seen_put]) (fun j hj => ?_) n hk
  rw [seen_put, if_neg (Ne.symm hj)]
/-- What a visit of some places does. -/
structure Vis (n : Nat) (ys l : List Int) (m : Map Int Bool) (l' : List Int) (m' : Map Int Bool) : Prop where
  mono : ∀ j, seen m j = true → seen m' j = true
  sub : ∀ a ∈ l, a ∈ l'
  new : ∀ j, seen m' j = true → seen m j = true ∨ (j < n ∧ (j : Int) ∈ ys ∧ (j : Int) ∈ l')
  inl : ∀ a ∈ l', a ∈ l ∨ ∃ j : Nat, a = j ∧ j < n ∧ seen m' j = true
  all : ∀ j : Nat, (j : Int) ∈ ys → j < n → seen m' j = true
  cnt : l'.length + unseen n m' = l.length + unseen n m
theorem own_vis2 (f : Func) : ∀ (ys l : List Int) (m : Map Int Bool), (∀ a ∈ ys, ∃ j : Nat, a = j) → l.length + unseen f.Code.length m ≤ 90 →
    ∃ l' m', cfg_visit_L2 f (-1) ys l m = some (l', m') ∧ Vis f.Code.length ys l m l' m'
  | [], l, m, _, _ => ⟨l, m, rfl, fun _ h => h, fun _ h => h, fun _ h => .inl h, fun _ h => .inl h, (fun _ h => absurd h List.not_mem_nil), rfl⟩
  | y :: ys, l, m, hy, hb => by
    obtain ⟨k, rfl⟩ := hy y List.mem_cons_self
    have hys := fun a ha => hy a (List.mem_cons_of_mem _ ha)
    have e1 : eqI (k : Int) (-1) = false := by rw [eqI_d]; exact decide_eq_false (by omega)
    rw [cfg_visit_L2, e1, ltI_d]
    show ∃ l' m', cond (andB (andB (decide ((k : Int) < ((f.Code.length : Nat) : Int))) (!false)) (!(seen m k))) _ _ = _ ∧ _
    by_cases hk : k < f.Code.length
    · have hd : decide ((k : Int) < ((f.Code.length : Nat) : Int)) = true := by simp; omega
      rw [hd]
      cases hs : seen m k
      · have hu := unseen_put hk hs
        have hlim : limB 8 (l.length + 1) = true := limB_small (by decide) (by omega)
        obtain ⟨l', m', e, v⟩ := own_vis2 f ys (l ++ [(k : Int)]) (mpt m (k : Int) true) hys (by simp; omega)
        refine ⟨l', m', ?_, ?_⟩
        · rw [show andB (andB true (!false)) (!false) = true from rfl, cond_true, Option.bind_some, Option.bind_some, List.length_singleton, hlim, guardO_t, Option.bind_some, e]
        · have hkm : seen m' k = true := v.mono k (by rw [seen_put, if_pos rfl])
          have hkl : (k : Int) ∈ l' := v.sub _ (by simp)
          refine ⟨fun j hj => v.mono j (by rw [seen_put, hj]; simp), fun a ha => v.sub a (by simp [ha]), fun j hj => ?_, fun a ha => ?_, fun j hj hn => ?_, ?_⟩
          · rcases v.new j hj with h | ⟨h1, h2, h3⟩
            · rw [seen_put] at h
              by_cases ej : k = j
              · subst ej; exact .inr ⟨hk, List.mem_cons_self, hkl⟩
              · rw [if_neg ej] at h; exact .inl h
            · exact .inr ⟨h1, List.mem_cons_of_mem _ h2, h3⟩
          · rcases v.inl a ha with h | h
            · rw [List.mem_append, List.mem_singleton] at h
              rcases h with h | h
              · exact .inl h
              · exact .inr ⟨k, h, hk, hkm⟩
            · exact .inr h
          · rcases List.mem_cons.1 hj with h | h
            · have : j = k := by omega
              subst this; exact hkm
            · exact v.all j h hn
          · have := v.cnt; rw [List.length_append, List.length_singleton] at this; omega
      · obtain ⟨l', m', e, v⟩ := own_vis2 f ys l m hys hb
        refine ⟨l', m', e, v.mono, v.sub, fun j hj => (v.new j hj).imp id fun ⟨a, b, c⟩ => ⟨a, List.mem_cons_of_mem _ b, c⟩, v.inl, fun j hj hn => ?_, v.cnt⟩
        rcases List.mem_cons.1 hj with h | h
        · have : j = k := by omega
          subst this; exact v.mono _ hs
        · exact v.all j h hn
    · have hd : decide ((k : Int) < ((f.Code.length : Nat) : Int)) = false := by simp; omega
      rw [hd]
      obtain ⟨l', m', e, v⟩ := own_vis2 f ys l m hys hb
      refine ⟨l', m', e, v.mono, v.sub, fun j hj => (v.new j hj).imp id fun ⟨a, b, c⟩ => ⟨a, List.mem_cons_of_mem _ b, c⟩, v.inl, fun j hj hn => ?_, v.cnt⟩
      rcases List.mem_cons.1 hj with h | h
      · omega
      · exact v.all j h hn
structure VI (f : Func) (l : List Int) (m : Map Int Bool) : Prop where
  a : ∀ a ∈ l, ∃ j : Nat, a = j ∧ j < f.Code.length ∧ seen m j = true
  b : ∀ j, seen m j = true → j < f.Code.length ∧ Rc f j
  c : ∀ j x, f.Code[j]? = some x → seen m j = true → (j : Int) ∈ l ∨ ∀ k, Nx f.Code.length x j k → k < f.Code.length → seen m k = true
  d : seen m 0 = true
theorem own_vis {f : Func} (hf : Fok f) : ∀ (r q : Nat) (l : List Int) (m : Map Int Bool), VI f l m → l.length + unseen f.Code.length m ≤ r → r < q → r ≤ 90 → ∃ m', cfg_visit_L1 f (-1) q l m = some m' ∧ VI f [] m'
  | r, 0, _, _, _, _, h, _ => absurd h (by omega)
  | r, q + 1, l, m, hv, hr, hq, h90 => by
    rw [cfg_visit_L1]
    by_cases hl : l = []
    · subst hl; exact ⟨m, rfl, hv⟩
    · obtain ⟨p, y, rfl⟩ : ∃ p y, l = p ++ [y] := ⟨l.dropLast, l.getLast hl, (List.dropLast_concat_getLast hl).symm⟩
      obtain ⟨i, rfl, hi, hsi⟩ := hv.a y (by simp)
      have hlen : (p ++ [(i : Int)]).length = p.length + 1 := by simp
      rw [hlen] at hr ⊢
      have hx : f.Code[i]? = some f.Code[i] := List.getElem?_eq_getElem hi
      generalize f.Code[i] = x at hx
      have ew : IntKind.i64.wrap (((p.length + 1 : Nat) : Int) - 1) = (p.length : Int) := by rw [wrap_i64 (by omega) (by omega)]; omega
      obtain ⟨ys, ey, hy⟩ := own_succ hf hx
      rw [show ltI 0 ((p.length + 1 : Nat) : Int) = true by rw [ltI_d]; exact decide_eq_true (by omega), cond_true, ew, getI_nat, List.getElem?_append_right (by omega), Nat.sub_self]
      show ∃ m', guardO (slB 0 (p.length : Int) (p.length + 1)) _ = _ ∧ _
      rw [show slB 0 (p.length : Int) (p.length + 1) = true by simp [slB]; omega, guardO_t, show subL (p ++ [(i : Int)]) 0 (p.length : Int) = p by simp [subL]]
      rw [Option.bind_some, cfg_successors, Option.bind_some]
      show ∃ m', (it_successors f (i : Int)).bind _ = _ ∧ _
      rw [ey, Option.bind_some]
      obtain ⟨l', m', e, v⟩ := own_vis2 f ys p m (fun a ha => by obtain ⟨j, h, _⟩ := hy.2.1 a ha; exact ⟨j, h⟩) (by omega)
      rw [e, Option.bind_some]
      have hsucc : ∀ k, Nx f.Code.length x i k → k < f.Code.length → seen m' k = true := fun k hk hn => v.all k (hy.2.2 k hk) hn
      refine own_vis hf (r - 1) q l' m' ⟨?_, ?_, ?_, v.mono 0 hv.d⟩ (by have := v.cnt; omega) (by omega) (by omega)
      · intro a ha
        rcases v.inl a ha with h | h
        · obtain ⟨j, h1, h2, h3⟩ := hv.a a (by simp [h]); exact ⟨j, h1, h2, v.mono j h3⟩
        · exact h
      · intro j hj
        rcases v.new j hj with h | ⟨h1, h2, _⟩
        · exact hv.b j h
        · obtain ⟨j', e', hn⟩ := hy.2.1 _ h2
          have : j = j' := by omega
          subst this
          exact ⟨h1, (rc_cl f).c i x hx (hv.b i hsi).2 j hn⟩
      · intro j z hz hj
        rcases v.new j hj with h | ⟨_, _, h3⟩
        · rcases hv.c j z hz h with h2 | h2
          · rw [List.mem_append, List.mem_singleton] at h2
            rcases h2 with h2 | h2
            · exact .inl (v.sub _ h2)
            · have : j = i := by omega
              subst this
              obtain rfl := Option.some.inj (hx.symm.trans hz)
              exact .inr hsucc
          · exact .inr fun k hk hn => v.mono k (h2 k hk hn)
        · exact .inl h3
theorem unseen_le (n : Nat) (m : Map Int Bool) : unseen n m ≤ n := by
  have := List.countP_le_length (p := fun j => !seen m j) (l := List.range n); simpa [unseen] using this
theorem own_visit (fuel : Nat) {f : Func} (hf : Fok f) : ∃ m, cfg_visit (fuel + 100) f (-1) = some m ∧ ∀ j, j < f.Code.length → seen m j = rc f j := by
  have hlen := hf.len
  rw [cfg_visit]
  by_cases h0 : f.Code.length = 0
  · rw [show orB (eqI ((f.Code.length : Nat) : Int) 0) (eqI (-1) 0) = true by simp [orB, eqI_d, h0]]
    exact ⟨[], rfl, fun j hj => by omega⟩
  · rw [show orB (eqI ((f.Code.length : Nat) : Int) 0) (eqI (-1) 0) = false by simp [orB, eqI_d, h0], cond_false, Option.bind_some, Option.bind_some]
    have hs : ∀ j, seen (mpt ([] : Map Int Bool) 0 true) j = true → j = 0 := fun j hj => by
      have := seen_put [] 0 j
      rw [show ((0 : Nat) : Int) = 0 from rfl] at this
      rw [this] at hj
      by_cases e : 0 = j
      · exact e.symm
      · rw [if_neg e] at hj; cases hj
    have h00 : seen (mpt ([] : Map Int Bool) 0 true) 0 = true := rfl
    obtain ⟨m', e, v⟩ := own_vis hf 70 (fuel + 100) [0] (mpt ([] : Map Int Bool) 0 true) ⟨fun a ha => ⟨0, by simpa using ha, by omega, h00⟩, fun j hj => by rw [hs j hj]; exact ⟨by omega, (rc_cl f).z⟩, fun j x _ hj => .inl (by rw [hs j hj]; simp), h00⟩
      (by have := unseen_le f.Code.length (mpt ([] : Map Int Bool) 0 true); simp; omega) (by omega) (by omega)
    refine ⟨m', by rw [e]; rfl, fun j hj => ?_⟩
    rw [Bool.eq_iff_iff, rc_iff]
    refine ⟨fun h => (v.b j h).2, fun h => ?_⟩
    have hc : Cl f (fun k => seen m' k = true ∨ f.Code.length ≤ k) := by
      refine ⟨.inl v.d, fun i x hx hi k hk => ?_⟩
      by_cases hkn : k < f.Code.length
      · have hin := getN_some hx
        rcases v.c i x hx (hi.resolve_right (by omega)) with h | h
        · cases h
        · exact .inl (h k hk hkn)
      · exact .inr (by omega)
    exact (h _ hc).resolve_right (by omega)
def on (l : List Bool) (j : Nat) : Bool := l.getD j false
theorem on_set (l : List Bool) (k j : Nat) (hk : k < l.length) : on (l.set k true) j = if k = j then true else on l j := by
  unfold on
  rw [List.getD_eq_getElem?_getD, List.getElem?_set, List.getD_eq_getElem?_getD]; split
  · simp [hk]
  · rfl
theorem ref_w3 {n k : Nat} (hk : k < n) (hn : n ≤ 64) {y : List Int} (hy : ∀ a ∈ y, ∃ j : Nat, a = j ∧ j ≤ n) (hy2 : y.length ≤ 2) : ∀ (r q i : Nat) (l : List Bool), r + i = y.length → r < q → l.length = n + 1 →
    ∃ l', r12_Without_L3 (-1) (k : Int) y q l (i : Int) = some l' ∧ l'.length = n + 1 ∧ ∀ j, on l' j = (on l j || (on l k && decide ((j : Int) ∈ y.drop i)))
  | r, 0, _, _, _, h, _ => absurd h (by omega)
  | 0, q + 1, i, l, hi, _, hl => by
    refine ⟨l, ?_, hl, fun j => ?_⟩
    · rw [r12_Without_L3, show ltI (i : Int) ((y.length : Nat) : Int) = false by rw [ltI_d]; simp; omega]; rfl
    · rw [List.drop_eq_nil_of_le (by omega)]; simp
  | r + 1, q + 1, i, l, hi, hq, hl => by
    have hx : y[i]? = some y[i] := List.getElem?_eq_getElem (by omega)
    have hd := drop_at hx
    generalize y[i] = a at hx hd
    obtain ⟨t, rfl, ht⟩ := hy a (List.mem_of_getElem? hx)
    rw [r12_Without_L3, show ltI (i : Int) ((y.length : Nat) : Int) = true by rw [ltI_d]; simp; omega, show inB (k : Int) l.length = true by rw [inB_d]; simp; omega, orB_t, guardO_t, Int.toNat_natCast]
    show ∃ l', cond (on l k) _ _ = _ ∧ _
    cases ho : on l k
    · exact ⟨l, rfl, hl, fun j => by simp⟩
    · rw [cond_true, getI_nat, hx, Option.bind_some, show eqI (t : Int) (-1) = false by rw [eqI_d]; exact decide_eq_false (by omega), Bool.not_false, cond_true, getI_nat, List.getElem?_eq_getElem (by omega), Option.bind_some, Option.bind_some, Int.toNat_natCast, wrapS (by omega)]
      obtain ⟨l', e, h1, h2⟩ := ref_w3 hk hn hy hy2 r q (i + 1) (l.set t true) (by omega) (by omega) (by simpa using hl)
      refine ⟨l', e, h1, fun j => ?_⟩
      rw [h2, on_set _ _ _ (by omega), on_set _ _ _ (by omega), hd, ho]
      by_cases e1 : t = j
      · subst e1
        simp
      · have : ¬ (j : Int) = t := by omega
        by_cases e2 : t = k
        · subst e2; simp [e1, this]
        · simp [e1, e2, this]
structure Swp (f : Func) (k : Nat) (l l' : List Bool) : Prop where
  len : l'.length = f.Code.length + 1
  mono : ∀ j, on l j = true → on l' j = true
  snd : ∀ S, Cl f S → (∀ j, on l j = true → S j) → ∀ j, on l' j = true → S j
  fix : l' = l → ∀ i x, k ≤ i → f.Code[i]? = some x → on l i = true → ∀ j, Nx f.Code.length x i j → on l j = true
theorem on_ext {l l' : List Bool} (h : l.length = l'.length) (he : ∀ j, on l j = on l' j) : l = l' := by
  apply List.ext_getElem h
  intro i h1 h2
  have := he i
  unfold on at this
  rwa [List.getD_eq_getElem?_getD, List.getElem?_eq_getElem h1, List.getD_eq_getElem?_getD, List.getElem?_eq_getElem h2] at this
theorem ref_w2 (fuel : Nat) {f : Func} (hf : Fok f) : ∀ (r q k : Nat) (l : List Bool), r + k = f.Code.length → r < q → l.length = f.Code.length + 1 → ∃ l', r12_Without_L2 (fuel + 100) f (-1) q l (k : Int) = some l' ∧ Swp f k l l'
  | r, 0, _, _, _, h, _ => absurd h (by omega)
  | 0, q + 1, k, l, hk, _, hl => by
    refine ⟨l, ?_, hl, fun _ h => h, fun S _ h => h, fun _ i x hi hx => ?_⟩
    · rw [r12_Without_L2, show ltI (k : Int) ((f.Code.length : Nat) : Int) = false by rw [ltI_d]; simp; omega]; rfl
    · have := getN_some hx; omega
  | r + 1, q + 1, k, l, hk, hq, hl => by
    have hlen := hf.len
    have hx : f.Code[k]? = some f.Code[k] := List.getElem?_eq_getElem (by omega)
    generalize f.Code[k] = x at hx
    obtain ⟨y, ey, y2, ya, yb⟩ := ref_succ (fuel + 92) hf hx
    obtain ⟨l1, e1, h1, o1⟩ := ref_w3 (k := k) (n := f.Code.length) (by omega) hlen (fun a ha => by obtain ⟨j, h, hn⟩ := ya a ha; exact ⟨j, h, nx_le hf hx hn⟩) y2 y.length (fuel + 100) 0 l (by omega) (by omega) hl
    obtain ⟨l2, e2, s⟩ := ref_w2 fuel hf r q (k + 1) l1 (by omega) (by omega) h1
    have m1 : ∀ j, on l j = true → on l1 j = true := fun j hj => by rw [o1, hj]; rfl
    refine ⟨l2, ?_, s.len, fun j hj => s.mono j (m1 j hj), fun S hS h => s.snd S hS fun j hj => ?_, fun he => ?_⟩
    · rw [r12_Without_L2, show ltI (k : Int) ((f.Code.length : Nat) : Int) = true by rw [ltI_d]; simp; omega, cond_true, show fuel + 100 = (fuel + 92) + 8 from rfl, ey, show (fuel + 92) + 8 = fuel + 100 from rfl, Option.bind_some]
      rw [show ((0 : Nat) : Int) = 0 from rfl] at e1
      rw [e1, Option.bind_some, Option.bind_some, wrapS (by omega), e2]
    · rw [o1, Bool.or_eq_true, Bool.and_eq_true, decide_eq_true_eq] at hj
      rcases hj with hj | ⟨hj, hm⟩
      · exact h j hj
      · obtain ⟨j', e', hn⟩ := ya _ (List.mem_of_mem_drop hm)
        have : j = j' := by omega
        subst this
        exact hS.c k x hx (h k hj) j hn
    · have e3 : l1 = l := on_ext (by omega) fun j => by
        rw [Bool.eq_iff_iff]
        exact ⟨fun hj => by rw [← he]; exact s.mono j hj, m1 j⟩
      intro i z hi hz hoi j hn
      by_cases ek : i = k
      · subst ek
        obtain rfl := Option.some.inj (hx.symm.trans hz)
        have := o1 j
        rw [e3, hoi] at this
        rw [this, List.drop_zero, decide_eq_true (yb j hn)]; simp
      · rw [← e3]
        rw [← e3] at hoi
        exact s.fix (he.trans e3.symm) i z (by omega) hz hoi j hn
theorem count_lt : ∀ {l l' : List Bool}, l.length = l'.length → (∀ j, on l j = true → on l' j = true) → l' ≠ l → l.count true < l'.count true ∨ l' = l
  | [], [], _, _, h => absurd rfl h
  | a :: l, b :: l', hl, hm, hne => by
    have hm' : ∀ j, on l j = true → on l' j = true := fun j hj => hm (j + 1) hj
    have h0 : a = true → b = true := hm 0
    have hl' : l.length = l'.length := by simpa using hl
    have hle : l.count true ≤ l'.count true := by
      by_cases e : l' = l
      · rw [e]; exact Nat.le_refl _
      · rcases count_lt hl' hm' e with h | h
        · omega
        · exact absurd h e
    refine .inl ?_
    rw [List.count_cons, List.count_cons]
    by_cases e : l' = l
    · subst e
      cases a <;> cases b
      · exact absurd rfl hne
      · simp
      · exact absurd (h0 rfl) (by simp)
      · exact absurd rfl hne
    · have := (count_lt hl' hm' e).resolve_right e
      cases a <;> cases b
      · simpa using this
      · simp; omega
      · exact absurd (h0 rfl) (by simp)
      · simpa using this
def Clo (f : Func) (l : List Bool) : Prop := ∀ i x, f.Code[i]? = some x → on l i = true → ∀ j, Nx f.Code.length x i j → on l j = true
structure Rnd (f : Func) (c : Nat) (l l' : List Bool) : Prop where
  len : l'.length = f.Code.length + 1
  mono : ∀ j, on l j = true → on l' j = true
  snd : ∀ S, Cl f S → (∀ j, on l j = true → S j) → ∀ j, on l' j = true → S j
  clo : Clo f l' ∨ l.count true + c ≤ l'.count true
theorem ref_w1 (fuel : Nat) {f : Func} (hf : Fok f) : ∀ (r q k : Nat) (l : List Bool), r + k = f.Code.length → r < q → l.length = f.Code.length + 1 → on l 0 = true → ∃ l', r12_Without_L1 (fuel + 100) f (-1) q l (k : Int) = some l' ∧ Rnd f r l l'
  | r, 0, _, _, _, h, _, _ => absurd h (by omega)
  | 0, q + 1, k, l, hk, _, hl, _ => by
    refine ⟨l, ?_, hl, fun _ h => h, fun S _ h => h, .inr (by omega)⟩
    rw [r12_Without_L1, show ltI (k : Int) ((f.Code.length : Nat) : Int) = false by rw [ltI_d]; simp; omega]; rfl
  | r + 1, q + 1, k, l, hk, hq, hl, h0 => by
    have hlen := hf.len
    obtain ⟨l1, e1, s1⟩ := ref_w2 fuel hf f.Code.length (fuel + 100) 0 l (by omega) (by omega) hl
    obtain ⟨l2, e2, s2⟩ := ref_w1 fuel hf r q (k + 1) l1 (by omega) (by omega) s1.len (s1.mono 0 h0)
    refine ⟨l2, ?_, s2.len, fun j hj => s2.mono j (s1.mono j hj), fun S hS h => s2.snd S hS (s1.snd S hS h), ?_⟩
    · rw [show ((0 : Nat) : Int) = 0 from rfl] at e1
      rw [r12_Without_L1, show ltI (k : Int) ((f.Code.length : Nat) : Int) = true by rw [ltI_d]; simp; omega, cond_true, e1, Option.bind_some, Option.bind_some, wrapS (by omega), e2]
    · by_cases e : l1 = l
      · have hc : Clo f l := fun i x hx hi j hn => s1.fix e i x (by omega) hx hi j hn
        have h2 : l2 = l := on_ext (by rw [s2.len, hl]) fun j => by
          rw [Bool.eq_iff_iff]
          exact ⟨fun hj => s2.snd (fun j => on l j = true) ⟨h0, hc⟩ (fun j hj => by rw [← e]; exact hj) j hj, fun hj => s2.mono j (s1.mono j hj)⟩
        exact .inl (h2 ▸ hc)
      · have := (count_lt (by rw [s1.len, hl]) s1.mono e).resolve_right e
        rcases s2.clo with h | h
        · exact .inl h
        · exact .inr (by omega)
theorem ref_without (fuel : Nat) {f : Func} (hf : Fok f) : r12_Without (fuel + 100) f (-1) = some ((List.range f.Code.length).map (rc f)) := by
  have hlen := hf.len
  rw [r12_Without, wrapS (by omega), mkB_small (by omega), guardO_t, Option.bind_some, Int.toNat_natCast, List.getElem?_eq_getElem (by simp), Option.bind_some, Option.bind_some]
  rw [show (!(eqI (-1) 0)) = true from rfl]
  have hl0 : ((List.replicate (f.Code.length + 1) false).set 0 true).length = f.Code.length + 1 := by simp
  have hon : ∀ j, on ((List.replicate (f.Code.length + 1) false).set 0 true) j = decide (0 = j) := fun j => by
    rw [on_set _ _ _ (by simp)]
    by_cases e : 0 = j
    · simp [e]
    · rw [if_neg e, decide_eq_false e]
      unfold on
      rw [List.getD_eq_getElem?_getD, List.getElem?_replicate]; split <;> rfl
  obtain ⟨l', e, s⟩ := ref_w1 fuel hf f.Code.length (fuel + 100) 0 _ (by omega) (by omega) hl0 (by rw [hon]; rfl)
  rw [show ((0 : Nat) : Int) = 0 from rfl] at e
  rw [e, Option.bind_some, Option.bind_some, show slB 0 ((f.Code.length : Nat) : Int) l'.length = true by simp [slB, s.len]; omega, guardO_t, Option.bind_some]
  have h0 : on l' 0 = true := s.mono 0 (by rw [hon]; rfl)
  have hc : Clo f l' := by
    rcases s.clo with h | h
    · exact h
    · have h1 : 1 ≤ ((List.replicate (f.Code.length + 1) false).set 0 true).count true := by
        rw [List.replicate_succ, List.set_cons_zero, List.count_cons]; simp
      have h2 : l'.count true = l'.length := Nat.le_antisymm List.count_le_length (by rw [s.len]; omega)
      have h3 := List.count_eq_length.1 h2
      intro i x hx hi j hn
      have := nx_le hf hx hn
      unfold on
      rw [List.getD_eq_getElem?_getD, List.getElem?_eq_getElem (by rw [s.len]; omega)]
      exact (h3 _ (List.getElem_mem _)).symm
  congr 1
  rw [show subL l' 0 ((f.Code.length : Nat) : Int) = l'.take f.Code.length by simp [subL]]
  apply List.ext_getElem
  · simp [s.len]
  · intro i h1 h2
    rw [List.getElem_take, List.getElem_map, List.getElem_range]
    have hi : i < l'.length := by simp at h1; omega
    have : on l' i = l'[i] := by unfold on; rw [List.getD_eq_getElem?_getD, List.getElem?_eq_getElem hi]; rfl
    rw [← this, Bool.eq_iff_iff, rc_iff]
    refine ⟨fun h S hS => s.snd S hS (fun j hj => ?_) i h, fun h => h (fun j => on l' j = true) ⟨h0, hc⟩⟩
    rw [hon] at hj
    have := of_decide_eq_true hj
    subst this; exact hS.z
end Go.Dc.Pl
end
section
set_option linter.all false
namespace Go.Dc.Pl
open Go Go.Hw Go.Dc
set_option maxRecDepth 100000
noncomputable def cntR (f : Func) (m : Nat) : Nat := ((List.range m).filter (rc f)).length
noncomputable def prI (f : Func) (x : Inst) : Inst := if isJ x = true then { x with N := (cntR f x.N.toNat : Nat) } else x
noncomputable def prC (f : Func) : List Inst → Nat → List Inst
  | [], _ => []
  | x :: q, k => if rc f k = true then prI f x :: prC f q (k + 1) else prC f q (k + 1)
noncomputable def pruneF (f : Func) : Func := { f with Code := prC f f.Code 0 }
theorem cntR_le (f : Func) (m : Nat) : cntR f m ≤ m := by
  have := List.length_filter_le (rc f) (List.range m); simpa [cntR] using this
theorem cntR_succ (f : Func) (m : Nat) : cntR f (m + 1) = cntR f m + if rc f m = true then 1 else 0 := by
  unfold cntR; rw [List.range_succ, List.filter_append, List.length_append]; cases h : rc f m <;> simp [h]
theorem filt_lt (p : Nat → Bool) (t : Nat) : ∀ n, t ≤ n → (((List.range n).filter p).filter fun k => decide (k < t)).length = ((List.range t).filter p).length
  | 0, h => by obtain rfl : t = 0 := by omega
               rfl
  | n + 1, h => by
    by_cases e : t = n + 1
    · subst e
      rw [List.filter_eq_self.2]
      intro a ha
      have := List.mem_range.1 (List.mem_filter.1 ha).1
      simpa using this
    · rw [List.range_succ, List.filter_append, List.filter_append, List.length_append, filt_lt p t n (by omega)]
      have : (List.filter (fun k => decide (k < t)) (List.filter p [n])) = [] := by
        rw [List.filter_eq_nil_iff]
        intro a ha
        have := (List.mem_filter.1 ha).1
        simp at this; simp; omega
      rw [this]; rfl
theorem own_num (x : Inst) (t : Nat) (hx : x.N = t) : ∀ (l : List Nat) (i k : Nat), i + l.length ≤ 100 → simplify_Prune_L2 x (l.map fun k : Nat => (k : Int)) (i : Int) k = some ((i + (l.filter fun k => decide (k < t)).length : Nat) : Int)
  | [], i, k, _ => by simp [simplify_Prune_L2]
  | a :: l, i, k, h => by
    rw [List.length_cons] at h
    rw [List.map_cons, simplify_Prune_L2, hx, wrapS (by omega), own_num x t hx l (i + 1) (k + 1) (by omega), own_num x t hx l i (k + 1) (by omega), List.filter_cons]
    by_cases e : a < t
    · rw [show ltI (a : Int) (t : Int) = true by rw [ltI_d]; exact decide_eq_true (by omega), cond_true, if_pos (by simpa using e), List.length_cons]; congr 2; omega
    · rw [show ltI (a : Int) (t : Int) = false by rw [ltI_d]; exact decide_eq_false (by omega), cond_false, if_neg (by simpa using e)]
noncomputable def kpt (f : Func) : List Nat := (List.range f.Code.length).filter (rc f)
theorem kpt_len (f : Func) : (kpt f).length ≤ f.Code.length := by
  have := List.length_filter_le (rc f) (List.range f.Code.length); simpa [kpt] using this
theorem own_reach (fuel : Nat) (f : Func) : cfg_Reach (fuel + 100) f = some (if fck f = 0 then ((kpt f).map fun k : Nat => (k : Int), 0) else ([], fck f)) := by
  rw [cfg_Reach, show fuel + 100 = (fuel + 92) + 8 from rfl, cfg_ck, Option.bind_some, eqI_d]
  by_cases h : fck f = 0
  · have hf := fck_iff.1 h
    obtain ⟨m, e, hm⟩ := own_visit fuel hf
    rw [decide_eq_true h, if_pos h, Bool.not_true, cond_false, show (fuel + 92) + 8 = fuel + 100 from rfl, e, Option.bind_some, cfg_sort hf.len, Option.bind_some]
    refine congrArg (fun l : List Nat => some (l.map fun k : Nat => (k : Int), (0 : Int))) ?_
    exact List.filter_congr fun j hj => hm j (List.mem_range.1 hj)
  · rw [decide_eq_false h, if_neg h]; rfl
theorem num_eq {f : Func} (hf : Fok f) {x : Inst} (hx : x ∈ f.Code) (h : isJ x = true) : simplify_Prune_L2 x ((kpt f).map fun k : Nat => (k : Int)) 0 0 = some ((cntR f x.N.toNat : Nat) : Int) := by
  have hlen := hf.len
  obtain ⟨t, e, ht, et⟩ := tgtN hf hx (isJ_iff.1 h)
  have := own_num x t e (kpt f) 0 0 (by have := kpt_len f; omega)
  rw [show ((0 : Nat) : Int) = 0 from rfl] at this
  rw [this, et, Nat.zero_add, kpt, filt_lt _ _ _ ht]; rfl
theorem own_prune_L1 {f : Func} (hf : Fok f) (e : Int) : ∀ (r q i : Nat) (l : List Inst), r + i = (kpt f).length → r < q → l.length = i → simplify_Prune_L1 f ((kpt f).map fun k : Nat => (k : Int), e) q (i : Int) l = some (l ++ ((kpt f).drop i).map fun k => prI f (gd f.Code k))
  | r, 0, _, _, _, h, _ => absurd h (by omega)
  | 0, q + 1, i, l, hi, _, hl => by
    rw [simplify_Prune_L1, List.length_map, show ltI (i : Int) (((kpt f).length : Nat) : Int) = false by rw [ltI_d]; exact decide_eq_false (by omega), List.drop_eq_nil_of_le (by omega)]; simp
  | r + 1, q + 1, i, l, hi, hq, hl => by
    have hlen := hf.len
    have hkl := kpt_len f
    have hk : (kpt f)[i]? = some (kpt f)[i] := List.getElem?_eq_getElem (by omega)
    have hd := drop_at hk
    have hkm := List.mem_of_getElem? hk
    generalize (kpt f)[i] = k at hk hd hkm
    have hkn : k < f.Code.length := List.mem_range.1 (List.mem_filter.1 hkm).1
    have hx : f.Code[k]? = some f.Code[k] := List.getElem?_eq_getElem hkn
    generalize f.Code[k] = x at hx
    have hm := List.mem_of_getElem? hx
    have hlim : limB 64 (l.length + 1) = true := limB_small (by decide) (by omega)
    have hnum : Option.bind (α := Int) (cond (isJ x) (Option.bind (α := Int) (guardO (lenB (kpt f).length) (Option.bind (simplify_Prune_L2 x ((kpt f).map fun k : Nat => (k : Int)) 0 0) (fun i => some i))) (fun i => some i)) (some x.N)) (fun n => some ({ x with N := n } : Inst)) = some (prI f x) := by
      rw [prI]
      cases hj : isJ x
      · rfl
      · rw [cond_true, if_pos rfl, lenB_small (by omega), guardO_t, num_eq hf hm hj]; rfl
    obtain ⟨n, hn, hp⟩ : ∃ n, cond (isJ x) (Option.bind (α := Int) (guardO (lenB (kpt f).length) (Option.bind (simplify_Prune_L2 x ((kpt f).map fun k : Nat => (k : Int)) 0 0) (fun i => some i))) (fun i => some i)) (some x.N) = some n ∧ ({ x with N := n } : Inst) = prI f x := by
      cases hc : cond (isJ x) (Option.bind (α := Int) (guardO (lenB (kpt f).length) (Option.bind (simplify_Prune_L2 x ((kpt f).map fun k : Nat => (k : Int)) 0 0) (fun i => some i))) (fun i => some i)) (some x.N) with
      | none => rw [hc] at hnum; cases hnum
      | some n => rw [hc] at hnum; exact ⟨n, rfl, Option.some.inj hnum⟩
    rw [simplify_Prune_L1, List.length_map, show ltI (i : Int) (((kpt f).length : Nat) : Int) = true by rw [ltI_d]; exact decide_eq_true (by omega), cond_true, getI_nat, List.getElem?_map, hk, Option.map_some, Option.bind_some, getI_nat, hx, Option.bind_some]
    show Option.bind (Option.bind (cond (isJ x) _ _) _) _ = _
    rw [hn, Option.bind_some, hp, Option.bind_some, List.length_singleton, hlim, guardO_t, Option.bind_some, Option.bind_some, wrapS (by omega),
      own_prune_L1 hf e r q (i + 1) _ (by omega) (by omega) (by simp; omega), hd, List.map_cons, gd_eq hx, List.append_assoc]; rfl
theorem kpt_map (f : Func) : ∀ (q : List Inst) (k : Nat), q = f.Code.drop k → (((List.range' k q.length).filter (rc f)).map fun k => prI f (gd f.Code k)) = prC f q k
  | [], k, _ => rfl
  | x :: q, k, h => by
    have hx : f.Code[k]? = some x := by rw [← List.head?_drop, ← h]; rfl
    have hq : q = f.Code.drop (k + 1) := by rw [← List.tail_drop, ← h]; rfl
    rw [List.length_cons, List.range'_succ, List.filter_cons, prC]
    cases hr : rc f k
    · exact kpt_map f q (k + 1) hq
    · rw [if_pos rfl, if_pos rfl, List.map_cons, gd_eq hx, kpt_map f q (k + 1) hq]
theorem own_Prune (fuel : Nat) (f : Func) : simplify_Prune (fuel + 100) f = some (if fck f = 0 then (pruneF f, 0) else (noF, fck f)) := by
  rw [simplify_Prune, own_reach, Option.bind_some]
  by_cases h : fck f = 0
  · have hf := fck_iff.1 h
    have hl := hf.len
    have hk := kpt_len f
    rw [if_pos h, if_pos h]
    show cond (!(eqI 0 0)) _ _ = _
    have := own_prune_L1 hf 0 (kpt f).length (fuel + 100) 0 [] (by omega) (by omega) rfl
    rw [show ((0 : Nat) : Int) = 0 from rfl] at this
    have e := kpt_map f f.Code 0 rfl
    rw [← List.range_eq_range'] at e
    rw [show (!(eqI 0 0)) = false from rfl, cond_false, this, List.drop_zero, List.nil_append, kpt, e]; rfl
  · rw [if_neg h, if_neg h]
    show cond (!(eqI (fck f) 0)) _ _ = _
    rw [show (!(eqI (fck f) 0)) = true by simp [eqI_d, h], cond_true]; rfl
theorem ref_prune_L1 (f : Func) (hl : f.Code.length ≤ 64) : ∀ (q k : Nat) (l : List Int), k + q = f.Code.length → l.length = k → r15_Prune_L1 ((List.range f.Code.length).map (rc f)) q l ((cntR f k : Nat) : Int) k = some (l ++ (List.range' k q).map fun j => ((cntR f j : Nat) : Int), ((cntR f f.Code.length : Nat) : Int))
  | 0, k, l, hk, _ => by
    obtain rfl : k = f.Code.length := by omega
    simp [r15_Prune_L1]
  | q + 1, k, l, hk, hlk => by
    have hlim : limB 8 (l.length + 1) = true := limB_small (by decide) (by omega)
    have hc := cntR_le f k
    have key := fun n (hn : cntR f (k + 1) = n) => (hn ▸ ref_prune_L1 f hl q (k + 1) (l ++ [((cntR f k : Nat) : Int)]) (by omega) (by simp; omega))
    rw [r15_Prune_L1, Option.bind_some, List.length_singleton, hlim, guardO_t, Option.bind_some, List.getElem?_map, List.getElem?_range (by omega), Option.map_some, Option.bind_some, List.range'_succ, List.map_cons]
    have hs := cntR_succ f k
    cases hr : rc f k
    · rw [hr] at hs
      have hs : cntR f (k + 1) = cntR f k := by simpa using hs
      have := ref_prune_L1 f hl q (k + 1) (l ++ [((cntR f k : Nat) : Int)]) (by omega) (by simp; omega)
      rw [hs] at this
      rw [cond_false, this, List.append_assoc]; rfl
    · rw [hr] at hs
      have hs : cntR f (k + 1) = cntR f k + 1 := by simpa using hs
      have := ref_prune_L1 f hl q (k + 1) (l ++ [((cntR f k : Nat) : Int)]) (by omega) (by simp; omega)
      rw [hs] at this
      rw [cond_true, wrapS (by omega), this, List.append_assoc]; rfl
theorem ref_prune_L2 {f : Func} (hf : Fok f) : ∀ (q : List Inst) (k : Nat) (l : List Inst), k + q.length = f.Code.length → l.length ≤ k → (∀ x ∈ q, x ∈ f.Code) → r15_Prune_L2 ((List.range f.Code.length).map (rc f)) ((List.range (f.Code.length + 1)).map fun j => ((cntR f j : Nat) : Int)) q k l = some (l ++ prC f q k)
  | [], k, l, _, _, _ => by rw [r15_Prune_L2, prC, List.append_nil]
  | x :: q, k, l, hk, hl, hq => by
    have hlen := hf.len
    rw [List.length_cons] at hk
    have hx := hq x List.mem_cons_self
    have hq' := fun y hy => hq y (List.mem_cons_of_mem _ hy)
    have hlim : limB 64 (l.length + 1) = true := limB_small (by decide) (by omega)
    rw [r15_Prune_L2, List.getElem?_map, List.getElem?_range (by omega), Option.map_some, Option.bind_some, prC]
    cases hr : rc f k
    · rw [Bool.not_false, cond_true, ref_prune_L2 hf q (k + 1) l (by omega) (by omega) hq']; rfl
    · rw [Bool.not_true, cond_false, if_pos rfl, prI]
      have key : ∀ y, r15_Prune_L2 ((List.range f.Code.length).map (rc f)) ((List.range (f.Code.length + 1)).map fun j => ((cntR f j : Nat) : Int)) q (k + 1) (l ++ [y]) = some (l ++ y :: prC f q (k + 1)) := fun y => by
        rw [ref_prune_L2 hf q (k + 1) (l ++ [y]) (by omega) (by simp; omega) hq', List.append_assoc]; rfl
      show cond (isJ x) _ _ = _
      cases hj : isJ x
      · rw [cond_false, if_neg (by simp), Option.bind_some, List.length_singleton, hlim, guardO_t, Option.bind_some, key]
      · obtain ⟨t, e, ht, et⟩ := tgtN hf hx (isJ_iff.1 hj)
        rw [cond_true, if_pos rfl, e, getI_nat, List.getElem?_map, List.getElem?_range (by omega), Option.map_some, Option.bind_some, Option.bind_some, List.length_singleton, hlim, guardO_t, Option.bind_some, key, ← e, et]
theorem ref_Prune (fuel : Nat) (f : Func) : r15_Prune (fuel + 100) f = some (if fck f = 0 then (pruneF f, 0) else (noF, fck f)) := by
  rw [r15_Prune, r15_ck, Option.bind_some]
  by_cases h : fck f = 0
  · have hf := fck_iff.1 h
    have hl := hf.len
    have h1 := ref_prune_L1 f hl f.Code.length 0 [] (by omega) rfl
    rw [show cntR f 0 = 0 from rfl, show ((0 : Nat) : Int) = 0 from rfl] at h1
    have h2 : (([] : List Int) ++ (List.range' 0 f.Code.length).map fun j => ((cntR f j : Nat) : Int)) ++ [((cntR f f.Code.length : Nat) : Int)] = (List.range (f.Code.length + 1)).map fun j => ((cntR f j : Nat) : Int) := by
      rw [List.range_succ, List.map_append, List.range_eq_range']; rfl
    have h3 := ref_prune_L2 hf f.Code 0 [] (by omega) (by simp) (fun x h => h)
    rw [if_pos h, show (!(eqI (fck f) 0)) = false by simp [eqI_d, h], cond_false, ref_without fuel hf, Option.bind_some, h1]
    simp only [Option.bind_some]
    rw [limB_small (by decide) (by simp; omega), guardO_t, h2, h3]; rfl
  · rw [if_neg h, show (!(eqI (fck f) 0)) = true by simp [eqI_d, h], cond_true]; rfl
theorem fin2 (e g : Int) (a b : Func) : guardO (orB (!(andB (eqI e e) (eqI g g))) ((r15_SameCode a a).isSome)) (guardO (orB (!(andB (andB (eqI e e) (eqI g g)) ((r15_SameCode a a).getD default))) ((r15_SameCode b b).isSome)) (guardO (orB (!(andB (andB (andB (eqI e e) (eqI g g)) ((r15_SameCode a a).getD default)) ((r15_SameCode b b).getD default))) ((some true).isSome)) (some (andB (andB (andB (andB (eqI e e) (eqI g g)) ((r15_SameCode a a).getD default)) ((r15_SameCode b b).getD default)) ((some true).getD default))))) = some true := by
  rw [same_refl, same_refl, eqI_r, eqI_r]; rfl
theorem law_jumps (f : Func) : law15_SimplifyJumps 1000 f = some true := by
  rw [law15_SimplifyJumps, holds]
  by_cases h : f.Code.length ≤ 30
  · rw [show ltI 30 ((f.Code.length : Nat) : Int) = false by rw [ltI_d]; simp; omega, cond_false, show (1000 : Nat) = 900 + 100 from rfl, own_Thread, ref_Thread, own_Prune, ref_Prune, Option.bind_some, Option.bind_some, Option.bind_some, Option.bind_some]
    by_cases he : fck f = 0
    · rw [if_pos he, if_pos he]; exact fin2 0 0 _ _
    · rw [if_neg he, if_neg he]; exact fin2 (fck f) (fck f) _ _
  · rw [show ltI 30 ((f.Code.length : Nat) : Int) = true by rw [ltI_d]; simp; omega]; rfl
end Go.Dc.Pl
end
section
set_option linter.all false
namespace Go.Hw
variable [Globals]
section
variable {H : Type} {enc : TypeId × Value → H} {P : Program} {w : World} {sp : Nat → Bool} {held : Bool}
end
end Go.Hw
end
section
set_option linter.all false
namespace Go.Dc
open Go Go.Hw Go.Proofs
set_option maxRecDepth 100000
theorem dec9 {H : Type} {n : Nat} {d : DataW H} {c : List CV} (h : cvD Tryd.prog n 9 d = some c) : ∃ x : ByteArray, True ∧ c = Enc.enc x := by
  obtain ⟨m, rfl⟩ := cvD_string Tryd.underlying9 h
  exact ⟨m, trivial, rfl⟩
theorem dec81 {H : Type} {n : Nat} {d : DataW H} {c : List CV} (h : cvD Tryd.prog n 81 d = some c) : ∃ x : Int, (-9223372036854775808 ≤ x ∧ x ≤ 9223372036854775807) ∧ c = Enc.enc x := by
  obtain ⟨m, hm, rfl⟩ := cvD_int Tryd.underlying81 h
  exact ⟨m, by simpa [IntKind.min, IntKind.max, IntKind.signed, IntKind.bits] using hm, rfl⟩
theorem dec3 {H : Type} {n : Nat} {d : DataW H} {c : List CV} (h : cvD Tryd.prog n 3 d = some c) : ∃ x : Int, (-9223372036854775808 ≤ x ∧ x ≤ 9223372036854775807) ∧ c = Enc.enc x := by
  obtain ⟨m, hm, rfl⟩ := cvD_int Tryd.underlying3 h
  exact ⟨m, by simpa [IntKind.min, IntKind.max, IntKind.signed, IntKind.bits] using hm, rfl⟩
theorem dec47 {H : Type} {n : Nat} {d : DataW H} {c : List CV} (h : cvD Tryd.prog n 47 d = some c) : ∃ x : Int, (-9223372036854775808 ≤ x ∧ x ≤ 9223372036854775807) ∧ c = Enc.enc x := by
  obtain ⟨m, hm, rfl⟩ := cvD_int Tryd.underlying47 h
  exact ⟨m, by simpa [IntKind.min, IntKind.max, IntKind.signed, IntKind.bits] using hm, rfl⟩
theorem dec65 {H : Type} {n : Nat} {d : DataW H} {c : List CV} (h : cvD Tryd.prog n 65 d = some c) : ∃ x : Int, (-9223372036854775808 ≤ x ∧ x ≤ 9223372036854775807) ∧ c = Enc.enc x := by
  obtain ⟨m, hm, rfl⟩ := cvD_int Tryd.underlying65 h
  exact ⟨m, by simpa [IntKind.min, IntKind.max, IntKind.signed, IntKind.bits] using hm, rfl⟩
def OkInst (x : Inst) : Prop := (fun x : Int => -9223372036854775808 ≤ x ∧ x ≤ 9223372036854775807) x.Op ∧ (fun x : Int => -9223372036854775808 ≤ x ∧ x ≤ 9223372036854775807) x.A ∧ (fun x : Int => -9223372036854775808 ≤ x ∧ x ≤ 9223372036854775807) x.B ∧ (fun x : Int => -9223372036854775808 ≤ x ∧ x ≤ 9223372036854775807) x.C ∧ (fun x : Int => -9223372036854775808 ≤ x ∧ x ≤ 9223372036854775807) x.Obj ∧ (fun x : Int => -9223372036854775808 ≤ x ∧ x ≤ 9223372036854775807) x.N ∧ (fun x : Int => -9223372036854775808 ≤ x ∧ x ≤ 9223372036854775807) x.Fn ∧ (fun x : Int => -9223372036854775808 ≤ x ∧ x ≤ 9223372036854775807) x.Order
theorem dec83 {H : Type} {n : Nat} {d : DataW H} {c : List CV} (h : cvD Tryd.prog n 83 d = some c) : ∃ x : Inst, OkInst x ∧ c = Enc.enc x := by
  obtain ⟨m, l, rfl, rfl, hl, h⟩ := cvD_struct Tryd.underlying83 h
  have hl : l.length = 8 := hl
  match l, hl with
  | [d0, d1, d2, d3, d4, d5, d6, d7], _ =>
    simp only [List.zipWith] at h
    obtain ⟨a0, b0, h0, k1, rfl⟩ := concatM_cons h
    obtain ⟨a1, b1, h1, k2, rfl⟩ := concatM_cons k1
    obtain ⟨a2, b2, h2, k3, rfl⟩ := concatM_cons k2
    obtain ⟨a3, b3, h3, k4, rfl⟩ := concatM_cons k3
    obtain ⟨a4, b4, h4, k5, rfl⟩ := concatM_cons k4
    obtain ⟨a5, b5, h5, k6, rfl⟩ := concatM_cons k5
    obtain ⟨a6, b6, h6, k7, rfl⟩ := concatM_cons k6
    obtain ⟨a7, b7, h7, k8, rfl⟩ := concatM_cons k7
    obtain rfl := concatM_nil k8
    obtain ⟨x0, q0, rfl⟩ := dec81 h0
    obtain ⟨x1, q1, rfl⟩ := dec3 h1
    obtain ⟨x2, q2, rfl⟩ := dec3 h2
    obtain ⟨x3, q3, rfl⟩ := dec3 h3
    obtain ⟨x4, q4, rfl⟩ := dec3 h4
    obtain ⟨x5, q5, rfl⟩ := dec3 h5
    obtain ⟨x6, q6, rfl⟩ := dec47 h6
    obtain ⟨x7, q7, rfl⟩ := dec65 h7
    exact ⟨⟨x0, x1, x2, x3, x4, x5, x6, x7⟩, ⟨q0, q1, q2, q3, q4, q5, q6, q7⟩, rfl⟩
theorem dec22 {H : Type} {n : Nat} {d : DataW H} {c : List CV} (h : cvD Tryd.prog n 22 d = some c) : ∃ x : List Inst, (∀ y ∈ x, (OkInst) y) ∧ c = Enc.enc x := by
  obtain ⟨L, hQ, rfl⟩ := cvD_sliceQ (g := Enc.enc) (Q := OkInst) Tryd.underlying22 (fun n d c h => dec83 h) h
  exact ⟨L, hQ, rfl⟩
def OkFunc (x : Func) : Prop := (fun _ : ByteArray => True) x.Name ∧ (fun l : List Inst => ∀ x ∈ l, (OkInst) x) x.Code
theorem dec24 {H : Type} {n : Nat} {d : DataW H} {c : List CV} (h : cvD Tryd.prog n 24 d = some c) : ∃ x : Func, OkFunc x ∧ c = Enc.enc x := by
  obtain ⟨m, l, rfl, rfl, hl, h⟩ := cvD_struct Tryd.underlying24 h
  have hl : l.length = 2 := hl
  match l, hl with
  | [d0, d1], _ =>
    simp only [List.zipWith] at h
    obtain ⟨a0, b0, h0, k1, rfl⟩ := concatM_cons h
    obtain ⟨a1, b1, h1, k2, rfl⟩ := concatM_cons k1
    obtain rfl := concatM_nil k2
    obtain ⟨x0, q0, rfl⟩ := dec9 h0
    obtain ⟨x1, q1, rfl⟩ := dec22 h1
    exact ⟨⟨x0, x1⟩, ⟨q0, q1⟩, rfl⟩
theorem open24 {H : Type} {enc : TypeId × Value → H} {W : World} {sp : Nat → Bool} {held : Bool} {v : Value} {d : DataW H} {p : List MemPlace} {r : Go.Reach} {b0 : Nat} (hv : Value.okWide Tryd.prog W r b0 24 v) (h : DataW.Trod enc Tryd.prog W 0 sp held 24 v d p) :
    ∃ x : Func, OkFunc x ∧ AVRep W m0 (fun _ => False) v (.agg ((Enc.enc x).map .p)) := by
  obtain ⟨cvs, e, hr⟩ := rep_struct (m := 8) Tryd.underlying24 (by kernel_rfl) hv h
  obtain ⟨x, hx, rfl⟩ := dec24 e
  exact ⟨x, hx, hr⟩
def OkVar (x : Var) : Prop := (fun _ : ByteArray => True) x.Name ∧ (fun x : Int => -9223372036854775808 ≤ x ∧ x ≤ 9223372036854775807) x.Init
def OkStart (x : Start) : Prop := (fun x : Int => -9223372036854775808 ≤ x ∧ x ≤ 9223372036854775807) x.Func ∧ (fun x : Int => -9223372036854775808 ≤ x ∧ x ≤ 9223372036854775807) x.Arg
def OkProgram (x : Program) : Prop := (fun l : List Var => ∀ x ∈ l, (OkVar) x) x.Vars ∧ (fun l : List ByteArray => ∀ x ∈ l, (fun _ : ByteArray => True) x) x.Mutexes ∧ (fun l : List ByteArray => ∀ x ∈ l, (fun _ : ByteArray => True) x) x.Conds ∧ (fun l : List Func => ∀ x ∈ l, (OkFunc) x) x.Funcs ∧ (fun l : List Start => ∀ x ∈ l, (OkStart) x) x.Threads
theorem gN2 : Tryd.prog.globalNamed "modelcheck/value.names" = some 2 := by kernel_rfl
theorem gN0 : Tryd.prog.globalNamed "modelcheck/inst.rows" = some 0 := by kernel_rfl
/-- The package variables as the rows lay them. -/
theorem gT2 : (Tryd.prog.globals[2]?).map (·.type) = some 217 := by kernel_rfl
set_option maxRecDepth 100000 in
theorem gC2 : cvD Tryd.prog 6 217 (Go.Proofs.YtihjddokgmjafaaDoor.Rows.laid_modelcheck_value_names (H := Unit)) = some (encL namesTab) := by kernel_rfl
theorem gT0 : (Tryd.prog.globals[0]?).map (·.type) = some 184 := by kernel_rfl
set_option maxRecDepth 100000 in
theorem gC0 : cvD Tryd.prog 6 184 (Go.Proofs.YtihjddokgmjafaaDoor.Rows.laid_modelcheck_inst_rows (H := Unit)) = some (encL rowsTab) := by kernel_rfl
set_option maxRecDepth 100000 in
theorem globs {W : World} (laid : List (String × DataW Unit)) (he : laid = [("modelcheck/value.names", Go.Proofs.YtihjddokgmjafaaDoor.Rows.laid_modelcheck_value_names), ("modelcheck/inst.rows", Go.Proofs.YtihjddokgmjafaaDoor.Rows.laid_modelcheck_inst_rows)])
    (h : laidMetH Tryd.prog laid W) : ∀ g cs, Globals.G g = some cs → AVRep W m0 (fun _ => False) (.pointer (some ⟨g, 0, none⟩)) (.cell (.ep cs 0)) := by
  subst he
  rw [MakeChecks.laidMetH_plain _ _ _ (by kernel_rfl)] at h
  obtain ⟨ps, ⟨g0, t0, cs0, f0, p0, q0, hg0, ht0, hv0, hd0, ⟨g1, t1, cs1, f1, p1, q1, hg1, ht1, hv1, hd1, _, _⟩, _⟩, _, _⟩ := h
  obtain rfl := Option.some.inj (gN2.symm.trans hg0)
  obtain rfl := Option.some.inj (gT2.symm.trans ht0)
  obtain rfl := Option.some.inj (gN0.symm.trans hg1)
  obtain rfl := Option.some.inj (gT0.symm.trans ht1)
  intro g cs hgc
  have hgc : (if g = 0 then some (encL rowsTab) else if g = 2 then some (encL namesTab) else none) = some cs := hgc
  split at hgc
  · rename_i e
    subst e
    cases hgc
    exact rep_global (m := 6) (t := 184) (by kernel_rfl) hd1 gC0 fun j => by simpa using World.var?_cell hg1 hv1 j
  · split at hgc
    · rename_i e
      subst e
      cases hgc
      exact rep_global (m := 6) (t := 217) (by kernel_rfl) hd0 gC2 fun j => by simpa using World.var?_cell hg0 hv0 j
    · cases hgc
end Go.Dc
end
