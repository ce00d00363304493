/- Contracts of functions, by their numbers, and the laws that walk them. Conditions: as each states. -/
import Derived.Test.YtgcinmhiohlmiaaDoorH3
set_option linter.all false
section
set_option linter.all false
namespace Go.Dc
open Go Go.Hw Go.Proofs
set_option maxRecDepth 100000
def program_names_L1 (a0 : List ByteArray) : List ByteArray → Nat → Option (Unit ⊕ (Int × Int))
  | [], k74 => some (.inl ())
  | x99 :: q95, k74 => Option.bind (program_ValidName x99) (fun y102 => cond (!y102) (some (.inr (6, ((k74 : Nat) : Int)))) (guardO (slB 0 ((k74 : Nat) : Int) a0.length) (Option.bind (some (subL a0 0 ((k74 : Nat) : Int))) (fun l106 => Option.bind (slices_Contains_string l106 x99) (fun y109 => cond y109 (some (.inr (7, ((k74 : Nat) : Int)))) (program_names_L1 a0 q95 (k74 + 1)))))))

def program_names (a0 : List ByteArray) : Option (Int × Int) :=
  Option.bind (α := Unit ⊕ (Int × Int)) (Option.bind (program_names_L1 a0 a0 0) (fun o => match o with | .inl _ => some (.inl ()) | .inr r112 => some (.inr r112))) (fun o => match o with | .inl _ => some (0, (-1)) | .inr r113 => some r113)

set_option maxHeartbeats 2000000 in
theorem at_program_names {a0 : List ByteArray} {r : Int × Int} (hs : program_names a0 = some r) : At Tryd.prog 111 [.cell (sC a0)] (.tup [iV .i64 r.1, iV .i64 r.2]) := by
  refine at_bound (by kernel_rfl) fun hb => ?_
  have hb1 : LenOk (.sl a0.length (encL a0)) := lkc hb
  refine at_code mixed Tryd.func111 (by kernel_rfl) rfl (by kernel_rfl) rfl fun Q hQ => ?_
  rw [program_names] at hs
  refine goR2 f0 ?_
  revert hs; refine bK fun o56 e55 hs => ?_
  refine awp_cutK (fun (v : Unit) (σ : St) => some (.inl v) = some o56 ∧ 2 ≤ σ.gen) (by rfl) (fun Q hK57 hX58 => ?_) (fun v σ3 hp => ?_)
  · refine goR f0 ?_
    revert e55; refine bK fun o90 e89 e55 => ?_
    refine awp_loopW (fun (v : (List ByteArray) × Nat) (σ : St) => program_names_L1 a0 v.1 v.2 = some o90 ∧ v.1 = a0.drop v.2 ∧ σ.env 0 = .cell (sC a0) ∧ σ.env 6 = .cell (sC a0) ∧ σ.env 7 = iV .i64 ((a0.length : Nat) : Int) ∧ σ.env 8 = iV .i64 ((v.2 : Nat) : Int) ∧ 2 ≤ σ.gen) (fun v => v.1.length) _ (Gh.refl _) (a0, 0) ⟨e89, by simp, pv f0, pv f0, pv f0, pv f0, pg⟩ fun v σ6 hp L91 hL92 => ?_
    obtain ⟨q94, k74⟩ := v
    dsimp only at hp hL92
    obtain ⟨e89, hd93, h5_0, h5_6, h5_7, h5_8, n5_g⟩ := hp
    rcases q94 with _ | ⟨x99, q95⟩
    · have hlt96 := drop_end hd93
      rw [program_names_L1] at e89; try dsimp only at e89
      have F1 := an h5_0 (an h5_6 (an h5_7 h5_8))
      refine goR F1 ?_
      refine condK_f (by simp [ltI]; omega) ?_
      obtain rfl := sj e89
      try dsimp only at e55
      exact hK57 () _ _ (Gh.refl _) ⟨e55, pg⟩
    · obtain ⟨hx98, hlt96, hd100⟩ := drop_next hd93
      have ew97 := wrap_succ hlt96 (hb1).len
      rw [program_names_L1] at e89; try dsimp only at e89
      have F2 := an h5_0 (an h5_6 (an h5_7 (an h5_8 (an hlt96 ew97))))
      refine goR F2 ?_
      refine condK_t (by simp [ltI]; omega) ?_
      have f101 : partCV Tryd.prog 9 (encL a0) (k74) = some (sV x99) := partCV_enc1 hx98 (by simp)
      have F3 := an F2 f101
      refine goR F3 ?_
      revert e89; refine bK fun y102 hx103 e89 => ?_
      refine cP F3 (at_program_ValidName hx103) ?_
      refine goR F3 ?_
      revert e89; refine cS F3 ?_ ?_ <;> intro h104 e89
      · refine goR F3 ?_
        obtain rfl := sj e89
        try dsimp only at e55
        obtain rfl := sj e55
        try dsimp only at hs
        refine hX58 _ _ (by simp) ?_
        refine goR F3 ?_
        obtain rfl := sj hs
        exact hQ _ _ (rg F3 (Gh.refl _))
      · obtain ⟨g105, e89⟩ := guardO_some e89
        obtain ⟨g105a, g105b, g105c⟩ := slB_t g105
        revert e89; refine lK fun l106 hx107 e89 => ?_
        have f108n : l106.length = (((k74 : Nat) : Int) - 0).toNat := by rw [hx107]; exact subL_len ⟨g105a, g105b, g105c⟩
        have f108e : ((encL a0).drop ((0 : Int).toNat * 1)).take ((((k74 : Nat) : Int) - 0).toNat * 1) = encL l106 := by rw [hx107]; exact subL_enc (α := ByteArray)
        try simp at f108n
        try simp at f108e
        have f108o : LenOk (.sl l106.length (encL l106)) := by rw [hx107]; exact subL_ok hb1
        have F4 := an F3 (an g105a (an g105b (an g105c (an f108n f108e))))
        refine goR F4 ?_
        revert e89; refine bK fun y109 hx110 e89 => ?_
        refine cP F4 (at_slices_Contains_string hx110) ?_
        refine goR F4 ?_
        revert e89; refine cS F4 ?_ ?_ <;> intro h111 e89
        · refine goR F4 ?_
          obtain rfl := sj e89
          try dsimp only at e55
          obtain rfl := sj e55
          try dsimp only at hs
          refine hX58 _ _ (by simp) ?_
          refine goR F4 ?_
          obtain rfl := sj hs
          exact hQ _ _ (rg F4 (Gh.refl _))
        · refine goR F4 ?_
          exact hL92 (q95, (k74 + 1)) _ _ (Gh.refl _) ⟨e89, hd100, pv F4, pv F4, pv F4, pv F4, pg⟩ (by simp)
  · obtain ⟨e55, n4_g⟩ := hp
    obtain rfl := sj e55
    try dsimp only at hs
    refine goR f0 ?_
    obtain rfl := sj hs
    exact hQ _ _ (rg f0 (Gh.refl _))
end Go.Dc
end
section
set_option linter.all false
namespace Go.Dc
open Go Go.Hw Go.Proofs
set_option maxRecDepth 100000
def program_funcNames_L1 : List Func → (List ByteArray) → Nat → Option (List ByteArray)
  | [], l58, k59 => some (l58)
  | x80 :: q76, l58, k59 => Option.bind (some ([x80.Name])) (fun l83 => guardO (limB 16 (l58.length + l83.length)) (Option.bind (some (l58 ++ l83)) (fun l86 => program_funcNames_L1 q76 l86 (k59 + 1))))

def program_funcNames (a0 : Program) : Option (List ByteArray) :=
  Option.bind (α := (List ByteArray)) (Option.bind (program_funcNames_L1 a0.Funcs [] 0) (fun l69 => some (l69))) (fun l42 => some l42)

set_option maxHeartbeats 2000000 in
theorem at_program_funcNames {a0 : Program} {r : (List ByteArray)} (hs : program_funcNames a0 = some r) : At Tryd.prog 112 [.agg (eA a0)] (.cell (sC r)) := by
  refine at_bound (by kernel_rfl) fun hb => ?_
  have hb1 : LenOk (.sl a0.Vars.length (encL a0.Vars)) := lkc hb
  have hb2 : LenOk (.sl a0.Mutexes.length (encL a0.Mutexes)) := lkc hb
  have hb3 : LenOk (.sl a0.Conds.length (encL a0.Conds)) := lkc hb
  have hb4 : LenOk (.sl a0.Funcs.length (encL a0.Funcs)) := lkc hb
  have hb5 : LenOk (.sl a0.Threads.length (encL a0.Threads)) := lkc hb
  refine at_code mixed Tryd.func112 (by kernel_rfl) rfl (by kernel_rfl) rfl fun Q hQ => ?_
  rw [program_funcNames] at hs
  refine goR2 f0 ?_
  revert hs; refine bK fun o44 e43 hs => ?_
  refine awp_cutK (fun (v : (List ByteArray)) (σ : St) => some (v) = some o44 ∧ σ.env 3 = .cell (.sl (.l 2) 0 1 v.length) ∧ σ.hp (.l 2) = some (.pure (encL v)) ∧ 3 ≤ σ.gen) (by rfl) (fun Q hK45 hX46 => ?_) (fun l42 σ3 hp => ?_)
  · refine goR f0 ?_
    revert e43; refine bK fun o71 e70 e43 => ?_
    refine awp_loopW (fun (v : (List Func) × (List ByteArray) × Nat) (σ : St) => program_funcNames_L1 v.1 v.2.1 v.2.2 = some o71 ∧ v.1 = a0.Funcs.drop v.2.2 ∧ σ.env 3 = .cell (.sl (.l 6) 0 1 v.2.1.length) ∧ σ.env 7 = .cell (sC a0.Funcs) ∧ σ.env 8 = iV .i64 ((a0.Funcs.length : Nat) : Int) ∧ σ.env 9 = iV .i64 ((v.2.2 : Nat) : Int) ∧ σ.hp (.l 6) = some (.pure (encL v.2.1)) ∧ 3 ≤ σ.gen) (fun v => v.1.length) _ (Gh.void _ (.l 6) 3 1 rfl (by simp)) (a0.Funcs, [], 0) ⟨e70, by simp, pv f0, pv f0, pv f0, pv f0, pv f0, pg⟩ fun v σ6 hp L72 hL73 => ?_
    obtain ⟨q75, l58, k59⟩ := v
    dsimp only at hp hL73
    obtain ⟨e70, hd74, h5_3, h5_7, h5_8, h5_9, g5_0, n5_g⟩ := hp
    rcases q75 with _ | ⟨x80, q76⟩
    · have hlt77 := drop_end hd74
      rw [program_funcNames_L1] at e70; try dsimp only at e70
      have F1 := an h5_3 (an h5_7 (an h5_8 (an h5_9 g5_0)))
      refine goR F1 ?_
      refine condK_f (by simp [ltI]; omega) ?_
      obtain rfl := sj e70
      try dsimp only at e43
      exact hK45 l58 _ _ (Gh.ren _ (.l 6) (.l 2) (by simp) rfl rfl) ⟨e43, pv F1, pv F1, pg⟩
    · obtain ⟨hx79, hlt77, hd81⟩ := drop_next hd74
      have ew78 := wrap_succ hlt77 (hb4).len
      rw [program_funcNames_L1] at e70; try dsimp only at e70
      have F2 := an h5_3 (an h5_7 (an h5_8 (an h5_9 (an g5_0 (an hlt77 ew78)))))
      refine goR F2 ?_
      refine condK_t (by simp [ltI]; omega) ?_
      have f82 : partCV Tryd.prog 24 (encL a0.Funcs) (k59 * 2) = some (.agg (eA x80)) := partCV_enc hx79 (f := 0) (by simp)
      revert e70; refine lK fun l83 hx84 e70 => ?_
      have hx84n : l83.length = 1 := by rw [hx84]; rfl
      obtain ⟨g85, e70⟩ := guardO_some e70
      have g85 := limB_t g85
      obtain ⟨g85a, g85b⟩ := g85
      revert e70; refine lK fun l86 hx87 e70 => ?_
      have hx87n : l86.length = (l58.length + l83.length) := by rw [hx87]; simp
      have hx87e : encL l86 = encL l58 ++ encL l83 := by rw [hx87]; simp
      have F3 := an F2 (an f82 (an hx84 (an hx87n hx87e)))
      refine goR F3 ?_
      exact hL73 (q76, l86, (k59 + 1)) _ _ (Gh.ren _ (.o (σ6.gen + 3) 4 0) (.l 6) (by simp) rfl rfl) ⟨e70, hd81, pv F3, pv F3, pv F3, pv F3, pv F3, pg⟩ (by simp)
  · obtain ⟨e43, h4_3, g4_0, n4_g⟩ := hp
    obtain rfl := sj e43
    try dsimp only at hs
    have F4 := an h4_3 g4_0
    refine goR F4 ?_
    obtain rfl := sj hs
    exact hQ _ _ (rg F4 (Gh.frz _ (.l 2)))
end Go.Dc
end
section
set_option linter.all false
namespace Go.Dc
open Go Go.Hw Go.Proofs
set_option maxRecDepth 100000
def program_checkNames_L1 : List (List ByteArray) → Nat → Option (Unit ⊕ (Int × ProgramPlace))
  | [], k55 => some (.inl ())
  | x73 :: q69, k55 => Option.bind (program_names x73) (fun y77 => cond (!(eqI y77.1 0)) (some (.inr (y77.1, ({ fn := (-1), inst := (-1) } : ProgramPlace)))) (program_checkNames_L1 q69 (k55 + 1)))

def program_checkNames (a0 : Program) : Option (Int × ProgramPlace) :=
  Option.bind (program_varNames a0) (fun y5 => Option.bind (some ([y5, a0.Mutexes, a0.Conds])) (fun l7 => Option.bind (α := Unit ⊕ (Int × ProgramPlace)) (guardO (lenB l7.length) (Option.bind (program_checkNames_L1 l7 0) (fun o => match o with | .inl _ => some (.inl ()) | .inr r80 => some (.inr r80)))) (fun o => match o with | .inl _ => Option.bind (program_funcNames a0) (fun y81 => Option.bind (program_names y81) (fun y83 => some (y83.1, ({ fn := y83.2, inst := (-1) } : ProgramPlace)))) | .inr r85 => some r85)))

set_option maxHeartbeats 2000000 in
theorem at_program_checkNames {a0 : Program} {r : Int × ProgramPlace} (hs : program_checkNames a0 = some r) : At Tryd.prog 83 [.agg (eA a0)] (.tup [iV .i64 r.1, .agg (eA r.2)]) := by
  refine at_bound (by kernel_rfl) fun hb => ?_
  have hb1 : LenOk (.sl a0.Vars.length (encL a0.Vars)) := lkc hb
  have hb2 : LenOk (.sl a0.Mutexes.length (encL a0.Mutexes)) := lkc hb
  have hb3 : LenOk (.sl a0.Conds.length (encL a0.Conds)) := lkc hb
  have hb4 : LenOk (.sl a0.Funcs.length (encL a0.Funcs)) := lkc hb
  have hb5 : LenOk (.sl a0.Threads.length (encL a0.Threads)) := lkc hb
  refine at_code mixed Tryd.func83 (by kernel_rfl) rfl (by kernel_rfl) rfl fun Q hQ => ?_
  rw [program_checkNames] at hs
  refine goD f0 ?_
  revert hs; refine bK fun y5 hx6 hs => ?_
  refine cP f0 (at_program_varNames hx6) ?_
  revert hs; refine lK fun l7 hx8 hs => ?_
  have hx8n : l7.length = 3 := by rw [hx8]; rfl
  refine goD2 hx8 ?_
  revert hs; refine bK fun o44 e43 hs => ?_
  refine awp_cutK (fun (v : Unit) (σ : St) => some (.inl v) = some o44 ∧ σ.env 1 = .cell (.ref (.o 1 0 0) 0) ∧ σ.env 3 = .cell (.ref (.o 1 2 0) 0) ∧ σ.hp (.o 1 0 0) = some (.cells (eA a0)) ∧ σ.hp (.o 1 2 0) = some (.cells [nC 0, nC 0]) ∧ 2 ≤ σ.gen) (by rfl) (fun Q hK45 hX46 => ?_) (fun v σ3 hp => ?_)
  · refine goD hx8 ?_
    obtain ⟨hb74, e43⟩ := guardO_some e43
    revert e43; refine bK fun o64 e63 e43 => ?_
    refine awp_loopW (fun (v : (List (List ByteArray)) × Nat) (σ : St) => program_checkNames_L1 v.1 v.2 = some o64 ∧ v.1 = l7.drop v.2 ∧ σ.env 1 = .cell (.ref (.o 1 0 0) 0) ∧ σ.env 3 = .cell (.ref (.o 1 2 0) 0) ∧ σ.env 16 = .cell (.sl (.o 2 6 0) 0 1 l7.length) ∧ σ.env 17 = iV .i64 ((l7.length : Nat) : Int) ∧ σ.env 18 = iV .i64 ((v.2 : Nat) : Int) ∧ σ.hp (.o 2 6 0) = some (.pure (encL l7)) ∧ σ.hp (.o 1 0 0) = some (.cells (eA a0)) ∧ σ.hp (.o 1 2 0) = some (.cells [nC 0, nC 0]) ∧ 2 ≤ σ.gen) (fun v => v.1.length) _ (Gh.refl _) (l7, 0) ⟨e63, by simp, pv hx8, pv hx8, pv hx8, pv hx8, pv hx8, pv hx8, pv hx8, pv hx8, pg⟩ fun v σ6 hp L65 hL66 => ?_
    obtain ⟨q68, k55⟩ := v
    dsimp only at hp hL66
    obtain ⟨e63, hd67, h5_1, h5_3, h5_16, h5_17, h5_18, g5_0, g5_1, g5_2, n5_g⟩ := hp
    have n5_0 : ¬ (σ6.gen = 0) := by omega
    have n5_1 : ¬ (σ6.gen = 1) := by omega
    rcases q68 with _ | ⟨x73, q69⟩
    · have hlt70 := drop_end hd67
      rw [program_checkNames_L1] at e63; try dsimp only at e63
      have F1 := an h5_1 (an h5_3 (an h5_16 (an h5_17 (an h5_18 (an g5_0 (an g5_1 (an g5_2 (an n5_0 n5_1))))))))
      refine goR F1 ?_
      refine condK_f (by simp [ltI]; omega) ?_
      obtain rfl := sj e63
      try dsimp only at e43
      exact hK45 () _ _ (Gh.refl _) ⟨e43, pv F1, pv F1, pv F1, pv F1, pg⟩
    · obtain ⟨hx72, hlt70, hd75⟩ := drop_next hd67
      have ew71 := wrap_succG hlt70 hb74
      rw [program_checkNames_L1] at e63; try dsimp only at e63
      have F2 := an h5_1 (an h5_3 (an h5_16 (an h5_17 (an h5_18 (an g5_0 (an g5_1 (an g5_2 (an n5_0 (an n5_1 (an hlt70 ew71))))))))))
      refine goR F2 ?_
      refine condK_t (by simp [ltI]; omega) ?_
      have f76 : partCV Tryd.prog 49 (encL l7) (k55) = some (.cell (sC x73)) := partCV_enc1 hx72 (by simp)
      have F3 := an F2 f76
      refine goR F3 ?_
      revert e63; refine bK fun y77 hx78 e63 => ?_
      refine cP F3 (at_program_names hx78) ?_
      refine goR F3 ?_
      revert e63; refine cS F3 ?_ ?_ <;> intro h79 e63
      · refine goR F3 ?_
        obtain rfl := sj e63
        try dsimp only at e43
        obtain rfl := sj e43
        try dsimp only at hs
        refine hX46 _ _ (by simp) ?_
        refine goR F3 ?_
        obtain rfl := sj hs
        exact hQ _ _ (rg F3 (Gh.refl _))
      · refine goR F3 ?_
        exact hL66 (q69, (k55 + 1)) _ _ (Gh.refl _) ⟨e63, hd75, pv F3, pv F3, pv F3, pv F3, pv F3, pv F3, pv F3, pv F3, pg⟩ (by simp)
  · obtain ⟨e43, h4_1, h4_3, g4_0, g4_1, n4_g⟩ := hp
    obtain rfl := sj e43
    try dsimp only at hs
    have n4_0 : ¬ (σ3.gen = 0) := by omega
    have F4 := an h4_1 (an h4_3 (an g4_0 (an g4_1 n4_0)))
    refine goD F4 ?_
    revert hs; refine bK fun y81 hx82 hs => ?_
    refine cP F4 (at_program_funcNames hx82) ?_
    refine goD F4 ?_
    revert hs; refine bK fun y83 hx84 hs => ?_
    refine cP F4 (at_program_names hx84) ?_
    refine goD F4 ?_
    obtain rfl := sj hs
    exact hQ _ _ (rg F4 (Gh.refl _))
end Go.Dc
end
section
set_option linter.all false
namespace Go.Dc
open Go Go.Hw Go.Proofs
set_option maxRecDepth 100000
def r08_lists_L1 : List Var → (List ByteArray) → Nat → Option (List ByteArray)
  | [], l58, k59 => some (l58)
  | x80 :: q76, l58, k59 => Option.bind (some ([x80.Name])) (fun l83 => guardO (limB 16 (l58.length + l83.length)) (Option.bind (some (l58 ++ l83)) (fun l86 => r08_lists_L1 q76 l86 (k59 + 1))))

def r08_lists_L2 : List Func → (List ByteArray) → Nat → Option (List ByteArray)
  | [], l145, k146 => some (l145)
  | x167 :: q163, l145, k146 => Option.bind (some ([x167.Name])) (fun l170 => guardO (limB 16 (l145.length + l170.length)) (Option.bind (some (l145 ++ l170)) (fun l173 => r08_lists_L2 q163 l173 (k146 + 1))))

def r08_lists (a0 : Program) : Option ((List ByteArray) × (List ByteArray)) :=
  Option.bind (α := (List ByteArray)) (Option.bind (r08_lists_L1 a0.Vars [] 0) (fun l69 => some (l69))) (fun l42 => Option.bind (α := (List ByteArray)) (Option.bind (r08_lists_L2 a0.Funcs [] 0) (fun l156 => some (l156))) (fun l129 => some (l42, l129)))

set_option maxHeartbeats 2000000 in
theorem at_r08_lists {a0 : Program} {r : (List ByteArray) × (List ByteArray)} (hs : r08_lists a0 = some r) : At Tryd.prog 91 [.agg (eA a0)] (.tup [.cell (sC r.1), .cell (sC r.2)]) := by
  refine at_bound (by kernel_rfl) fun hb => ?_
  have hb1 : LenOk (.sl a0.Vars.length (encL a0.Vars)) := lkc hb
  have hb2 : LenOk (.sl a0.Mutexes.length (encL a0.Mutexes)) := lkc hb
  have hb3 : LenOk (.sl a0.Conds.length (encL a0.Conds)) := lkc hb
  have hb4 : LenOk (.sl a0.Funcs.length (encL a0.Funcs)) := lkc hb
  have hb5 : LenOk (.sl a0.Threads.length (encL a0.Threads)) := lkc hb
  refine at_code mixed Tryd.func91 (by kernel_rfl) rfl (by kernel_rfl) rfl fun Q hQ => ?_
  rw [r08_lists] at hs
  refine goR2 f0 ?_
  revert hs; refine bK fun o44 e43 hs => ?_
  refine awp_cutK (fun (v : (List ByteArray)) (σ : St) => some (v) = some o44 ∧ σ.env 1 = .cell (.ref (.o 1 0 0) 0) ∧ σ.env 4 = .cell (.sl (.l 2) 0 1 v.length) ∧ σ.env 5 = .cell (.z) ∧ σ.hp (.l 2) = some (.pure (encL v)) ∧ σ.hp (.o 1 0 0) = some (.cells (eA a0)) ∧ 3 ≤ σ.gen) (by rfl) (fun Q hK45 hX46 => ?_) (fun l42 σ3 hp => ?_)
  · refine goR f0 ?_
    revert e43; refine bK fun o71 e70 e43 => ?_
    refine awp_loopW (fun (v : (List Var) × (List ByteArray) × Nat) (σ : St) => r08_lists_L1 v.1 v.2.1 v.2.2 = some o71 ∧ v.1 = a0.Vars.drop v.2.2 ∧ σ.env 1 = .cell (.ref (.o 1 0 0) 0) ∧ σ.env 4 = .cell (.sl (.l 6) 0 1 v.2.1.length) ∧ σ.env 5 = .cell (.z) ∧ σ.env 6 = iV .i64 ((v.2.2 : Nat) : Int) ∧ σ.hp (.l 6) = some (.pure (encL v.2.1)) ∧ σ.hp (.o 1 0 0) = some (.cells (eA a0)) ∧ 3 ≤ σ.gen) (fun v => v.1.length) _ (Gh.void _ (.l 6) 4 1 rfl (by simp)) (a0.Vars, [], 0) ⟨e70, by simp, pv f0, pv f0, pv f0, pv f0, pv f0, pv f0, pg⟩ fun v σ6 hp L72 hL73 => ?_
    obtain ⟨q75, l58, k59⟩ := v
    dsimp only at hp hL73
    obtain ⟨e70, hd74, h5_1, h5_4, h5_5, h5_6, g5_0, g5_1, n5_g⟩ := hp
    have n5_0 : ¬ (σ6.gen = 0) := by omega
    rcases q75 with _ | ⟨x80, q76⟩
    · have hlt77 := drop_end hd74
      rw [r08_lists_L1] at e70; try dsimp only at e70
      have F1 := an h5_1 (an h5_4 (an h5_5 (an h5_6 (an g5_0 (an g5_1 n5_0)))))
      refine goR F1 ?_
      refine condK_f (by simp [ltI]; omega) ?_
      obtain rfl := sj e70
      try dsimp only at e43
      exact hK45 l58 _ _ (Gh.ren _ (.l 6) (.l 2) (by simp) rfl rfl) ⟨e43, pv F1, pv F1, pv F1, pv F1, pv F1, pg⟩
    · obtain ⟨hx79, hlt77, hd81⟩ := drop_next hd74
      have ew78 := wrap_succ hlt77 (hb1).len
      rw [r08_lists_L1] at e70; try dsimp only at e70
      have F2 := an h5_1 (an h5_4 (an h5_5 (an h5_6 (an g5_0 (an g5_1 (an n5_0 (an hlt77 ew78)))))))
      refine goR F2 ?_
      refine condK_t (by simp [ltI]; omega) ?_
      have f82 : partCV Tryd.prog 9 (encL a0.Vars) (k59 * 2) = some (sV x80.Name) := partCV_enc hx79 (f := 0) (by simp)
      revert e70; refine lK fun l83 hx84 e70 => ?_
      have hx84n : l83.length = 1 := by rw [hx84]; rfl
      obtain ⟨g85, e70⟩ := guardO_some e70
      have g85 := limB_t g85
      obtain ⟨g85a, g85b⟩ := g85
      revert e70; refine lK fun l86 hx87 e70 => ?_
      have hx87n : l86.length = (l58.length + l83.length) := by rw [hx87]; simp
      have hx87e : encL l86 = encL l58 ++ encL l83 := by rw [hx87]; simp
      have F3 := an F2 (an f82 (an hx84 (an hx87n hx87e)))
      refine goR F3 ?_
      exact hL73 (q76, l86, (k59 + 1)) _ _ (Gh.ren _ (.o (σ6.gen + 2) 8 0) (.l 6) (by simp) rfl rfl) ⟨e70, hd81, pv F3, pv F3, pv F3, pv F3, pv F3, pv F3, pg⟩ (by simp)
  · obtain ⟨e43, h4_1, h4_4, h4_5, g4_0, g4_1, n4_g⟩ := hp
    obtain rfl := sj e43
    try dsimp only at hs
    have n4_0 : ¬ (σ3.gen = 0) := by omega
    have F4 := an h4_1 (an h4_4 (an h4_5 (an g4_0 (an g4_1 n4_0))))
    refine goR2 F4 ?_
    revert hs; refine bK fun o131 e130 hs => ?_
    refine awp_cutK (fun (v : (List ByteArray)) (σ : St) => some (v) = some o131 ∧ σ.env 4 = .cell (.sl (.l 2) 0 1 l42.length) ∧ σ.env 5 = .cell (.sl (.l 11) 0 1 v.length) ∧ σ.hp (.l 11) = some (.pure (encL v)) ∧ σ.hp (.l 2) = some (.pure (encL l42)) ∧ (σ3.gen + 1) ≤ σ.gen) (by rfl) (fun Q hK132 hX133 => ?_) (fun l129 σ9 hp => ?_)
    · refine goR F4 ?_
      revert e130; refine bK fun o158 e157 e130 => ?_
      refine awp_loopW (fun (v : (List Func) × (List ByteArray) × Nat) (σ : St) => r08_lists_L2 v.1 v.2.1 v.2.2 = some o158 ∧ v.1 = a0.Funcs.drop v.2.2 ∧ σ.env 1 = .cell (.ref (.o 1 0 0) 0) ∧ σ.env 4 = .cell (.sl (.l 2) 0 1 l42.length) ∧ σ.env 5 = .cell (.sl (.l 19) 0 1 v.2.1.length) ∧ σ.env 7 = iV .i64 ((v.2.2 : Nat) : Int) ∧ σ.hp (.l 19) = some (.pure (encL v.2.1)) ∧ σ.hp (.l 2) = some (.pure (encL l42)) ∧ σ.hp (.o 1 0 0) = some (.cells (eA a0)) ∧ (σ3.gen + 1) ≤ σ.gen) (fun v => v.1.length) _ (Gh.void _ (.l 19) 5 1 rfl (by simp [F4])) (a0.Funcs, [], 0) ⟨e157, by simp, pv F4, pv F4, pv F4, pv F4, pv F4, pv F4, pv F4, pg⟩ fun v σ12 hp L159 hL160 => ?_
      obtain ⟨q162, l145, k146⟩ := v
      dsimp only at hp hL160
      obtain ⟨e157, hd161, h11_1, h11_4, h11_5, h11_7, g11_0, g11_1, g11_2, n11_g⟩ := hp
      have n11_0 : ¬ (σ12.gen = 0) := by omega
      rcases q162 with _ | ⟨x167, q163⟩
      · have hlt164 := drop_end hd161
        rw [r08_lists_L2] at e157; try dsimp only at e157
        have F5 := an h11_1 (an h11_4 (an h11_5 (an h11_7 (an g11_0 (an g11_1 (an g11_2 n11_0))))))
        refine goR F5 ?_
        refine condK_f (by simp [ltI]; omega) ?_
        obtain rfl := sj e157
        try dsimp only at e130
        exact hK132 l145 _ _ (Gh.ren _ (.l 19) (.l 11) (by simp) rfl rfl) ⟨e130, pv F5, pv F5, pv F5, pv F5, pg⟩
      · obtain ⟨hx166, hlt164, hd168⟩ := drop_next hd161
        have ew165 := wrap_succ hlt164 (hb4).len
        rw [r08_lists_L2] at e157; try dsimp only at e157
        have F6 := an h11_1 (an h11_4 (an h11_5 (an h11_7 (an g11_0 (an g11_1 (an g11_2 (an n11_0 (an hlt164 ew165))))))))
        refine goR F6 ?_
        refine condK_t (by simp [ltI]; omega) ?_
        have f169 : partCV Tryd.prog 9 (encL a0.Funcs) (k146 * 2) = some (sV x167.Name) := partCV_enc hx166 (f := 0) (by simp)
        revert e157; refine lK fun l170 hx171 e157 => ?_
        have hx171n : l170.length = 1 := by rw [hx171]; rfl
        obtain ⟨g172, e157⟩ := guardO_some e157
        have g172 := limB_t g172
        obtain ⟨g172a, g172b⟩ := g172
        revert e157; refine lK fun l173 hx174 e157 => ?_
        have hx174n : l173.length = (l145.length + l170.length) := by rw [hx174]; simp
        have hx174e : encL l173 = encL l145 ++ encL l170 := by rw [hx174]; simp
        have F7 := an F6 (an f169 (an hx171 (an hx174n hx174e)))
        refine goR F7 ?_
        exact hL160 (q163, l173, (k146 + 1)) _ _ (Gh.ren _ (.o (σ12.gen + 2) 8 0) (.l 19) (by simp) rfl rfl) ⟨e157, hd168, pv F7, pv F7, pv F7, pv F7, pv F7, pv F7, pv F7, pg⟩ (by simp)
    · obtain ⟨e130, h10_4, h10_5, g10_0, g10_1, n10_g⟩ := hp
      obtain rfl := sj e130
      try dsimp only at hs
      have F8 := an h10_4 (an h10_5 (an g10_0 g10_1))
      refine goR F8 ?_
      obtain rfl := sj hs
      exact hQ _ _ (rg F8 ((Gh.frz _ (.l 2)).trans (Gh.frz _ (.l 11))))
end Go.Dc
end
section
set_option linter.all false
namespace Go.Dc
open Go Go.Hw Go.Proofs
set_option maxRecDepth 100000
def r08_ValidName_L1 (a0 : ByteArray) : Nat → Nat → Option (Unit ⊕ Bool)
  | 0, k36 => some (.inl ())
  | q47 + 1, k36 => Option.bind (a0[k36]?) (fun c52 => cond (andB (!(orB (andB (!(ltI (c52.toNat : Int) 97)) (!(ltI 122 (c52.toNat : Int)))) (andB (!(ltI (c52.toNat : Int) 65)) (!(ltI 90 (c52.toNat : Int)))))) (orB (eqI ((k36 : Nat) : Int) 0) (andB (!(eqI (c52.toNat : Int) 95)) (orB (ltI (c52.toNat : Int) 48) (ltI 57 (c52.toNat : Int)))))) (some (.inr false)) (r08_ValidName_L1 a0 q47 (k36 + 1)))

def r08_ValidName (a0 : ByteArray) : Option Bool :=
  cond (orB (ltI ((a0.size : Nat) : Int) 1) (ltI 16 ((a0.size : Nat) : Int))) (some false) (Option.bind (α := Unit ⊕ Bool) (guardO (lenB a0.size) (Option.bind (r08_ValidName_L1 a0 a0.size 0) (fun o => match o with | .inl _ => some (.inl ()) | .inr r55 => some (.inr r55)))) (fun o => match o with | .inl _ => some true | .inr r56 => some r56))

set_option maxHeartbeats 2000000 in
theorem at_r08_ValidName {a0 : ByteArray} {r : Bool} (hs : r08_ValidName a0 = some r) : At Tryd.prog 118 [sV a0] (bV r) := by
  refine at_bound (by kernel_rfl) fun hb => ?_
  refine at_code mixed Tryd.func118 (by kernel_rfl) rfl (by kernel_rfl) rfl fun Q hQ => ?_
  rw [r08_ValidName] at hs
  refine goG f0 f0 ?_
  revert hs; refine cS f0 ?_ ?_ <;> intro h1 hs
  · refine goG f0 f0 ?_
    obtain rfl := sj hs
    exact hQ _ _ (rg f0 (Gh.refl _))
  · refine goG2 f0 f0 ?_
    revert hs; refine bK fun o28 e27 hs => ?_
    refine awp_cutK (fun (v : Unit) (σ : St) => some (.inl v) = some o28 ∧ 3 ≤ σ.gen) (by rfl) (fun Q hK29 hX30 => ?_) (fun v σ3 hp => ?_)
    · refine goG f0 f0 ?_
      obtain ⟨hb51, e27⟩ := guardO_some e27
      revert e27; refine bK fun o42 e41 e27 => ?_
      refine awp_loopW (fun (v : Nat × Nat) (σ : St) => r08_ValidName_L1 a0 v.1 v.2 = some o42 ∧ v.1 + v.2 = a0.size ∧ σ.env 0 = sV a0 ∧ σ.env 3 = iV .i64 ((v.2 : Nat) : Int) ∧ 3 ≤ σ.gen) (fun v => v.1) _ (Gh.refl _) (a0.size, 0) ⟨e41, by first | omega | simp | (simp; omega), pv f0, pv f0, pg⟩ fun v σ6 hp L43 hL44 => ?_
      obtain ⟨q46, k36⟩ := v
      dsimp only at hp hL44
      obtain ⟨e41, hd45, h5_0, h5_3, n5_g⟩ := hp
      rcases q46 with _ | q47
      · have hlt48 : ¬ k36 < a0.size := by omega
        rw [r08_ValidName_L1] at e41; try dsimp only at e41
        have F1 := an h5_0 h5_3
        refine goR F1 ?_
        refine condK_f (by simp [ltI]; omega) ?_
        obtain rfl := sj e41
        try dsimp only at e27
        exact hK29 () _ _ (Gh.refl _) ⟨e27, pg⟩
      · have hlt48 : k36 < a0.size := by omega
        have ew49 := wrap_succG hlt48 hb51
        rw [r08_ValidName_L1] at e41; try dsimp only at e41
        have F2 := an h5_0 (an h5_3 (an hlt48 ew49))
        refine goR F2 ?_
        refine condK_t (by simp [ltI]; omega) ?_
        revert e41; refine bK fun c52 hx53 e41 => ?_
        have hx53b := getB_some hx53
        have hx53g := getB_eq hx53
        have F3 := an F2 (an hx53 hx53g)
        refine goG F3 F3 ?_
        revert e41; refine cS F3 ?_ ?_ <;> intro h54 e41
        · refine goG F3 F3 ?_
          obtain rfl := sj e41
          try dsimp only at e27
          obtain rfl := sj e27
          try dsimp only at hs
          refine hX30 _ _ (by simp) ?_
          refine goG F3 F3 ?_
          obtain rfl := sj hs
          exact hQ _ _ (rg F3 (Gh.refl _))
        · refine goG F3 F3 ?_
          exact hL44 (q47, (k36 + 1)) _ _ (Gh.refl _) ⟨e41, (by first | omega | (simp; omega)), pv F3, pv F3, pg⟩ (by omega)
    · obtain ⟨e27, n4_g⟩ := hp
      obtain rfl := sj e27
      try dsimp only at hs
      refine goG f0 f0 ?_
      obtain rfl := sj hs
      exact hQ _ _ (rg f0 (Gh.refl _))
end Go.Dc
end
section
set_option linter.all false
namespace Go.Dc
open Go Go.Hw Go.Proofs
set_option maxRecDepth 100000
def r08_names_L2 (a0 : List ByteArray) (i788 : Int) (x982 : ByteArray) : Nat → Int → Option (Unit ⊕ (Int × Int))
  | 0, _ => none
  | q1012 + 1, i997 => cond (ltI i997 i788) (Option.bind (getI a0 i997) (fun x1020 => cond (eqS x1020 x982) (some (.inr (i788, 7))) (r08_names_L2 a0 i788 x982 q1012 (IntKind.i64.wrap (i997 + 1))))) (some (.inl ()))

def r08_names_L1 (fuelN : Nat) (a0 : List ByteArray) : Nat → Int → Option (Unit ⊕ (Int × Int))
  | 0, _ => none
  | q930 + 1, i788 => cond (ltI i788 ((a0.length : Nat) : Int)) (Option.bind (α := Unit ⊕ (Int × Int)) (Option.bind (getI a0 i788) (fun x982 => Option.bind (r08_ValidName x982) (fun y985 => cond (!y985) (some (.inr (i788, 6))) (Option.bind (r08_names_L2 a0 i788 x982 fuelN 0) (fun o => match o with | .inl _ => some (.inl ()) | .inr r1024 => some (.inr r1024)))))) (fun o => match o with | .inl _ => r08_names_L1 fuelN a0 q930 (IntKind.i64.wrap (i788 + 1)) | .inr r1025 => some (.inr r1025))) (some (.inl ()))

def r08_names (fuelN : Nat) (a0 : List ByteArray) : Option (Int × Int) :=
  Option.bind (α := Unit ⊕ (Int × Int)) (Option.bind (r08_names_L1 fuelN a0 fuelN 0) (fun o => match o with | .inl _ => some (.inl ()) | .inr r1026 => some (.inr r1026))) (fun o => match o with | .inl _ => some (0, 0) | .inr r1027 => some r1027)

set_option maxHeartbeats 2000000 in
theorem at_r08_names {fuelN : Nat} {a0 : List ByteArray} {r : Int × Int} (hs : r08_names fuelN a0 = some r) : At Tryd.prog 92 [.cell (sC a0)] (.tup [iV .i64 r.1, iV .i64 r.2]) := by
  refine at_bound (by kernel_rfl) fun hb => ?_
  have hb1 : LenOk (.sl a0.length (encL a0)) := lkc hb
  refine at_code mixed Tryd.func92 (by kernel_rfl) rfl (by kernel_rfl) rfl fun Q hQ => ?_
  rw [r08_names] at hs
  refine goR2 f0 ?_
  revert hs; refine bK fun o513 e512 hs => ?_
  refine awp_cutK (fun (v : Unit) (σ : St) => some (.inl v) = some o513 ∧ 2 ≤ σ.gen) (by rfl) (fun Q hK514 hX515 => ?_) (fun v σ27 hp => ?_)
  · refine goR f0 ?_
    revert e512; refine bK fun o925 e924 e512 => ?_
    refine awp_loopW (fun (v : Nat × Int) (σ : St) => r08_names_L1 fuelN a0 v.1 v.2 = some o925 ∧ σ.env 0 = .cell (sC a0) ∧ σ.env 4 = iV .i64 v.2 ∧ 2 ≤ σ.gen) (fun v => v.1) _ (Gh.refl _) (fuelN, 0) ⟨e924, pv f0, pv f0, pg⟩ fun v σ48 hp L926 hL927 => ?_
    obtain ⟨q929, i788⟩ := v
    dsimp only at hp hL927
    obtain ⟨e924, h47_0, h47_4, n47_g⟩ := hp
    rcases q929 with _ | q930
    · rw [r08_names_L1] at e924; cases e924
    · rw [r08_names_L1] at e924; try dsimp only at e924
      have F1 := an h47_0 h47_4
      refine goR F1 ?_
      revert e924; refine cS F1 ?_ ?_ <;> intro h934 e924
      · refine goR2 F1 ?_
        revert e924; refine bK fun o979 e978 e924 => ?_
        refine awp_cutK (fun (v : Unit) (σ : St) => some (.inl v) = some o979 ∧ σ.env 0 = .cell (sC a0) ∧ σ.env 4 = iV .i64 i788 ∧ (σ48.gen + 1) ≤ σ.gen) (by rfl) (fun Q hK980 hX981 => ?_) (fun v σ51 hp => ?_)
        · revert e978; refine bK fun x982 hx983 e978 => ?_
          obtain ⟨hx983a, hx983b, hx983c, hx983d⟩ := getI_some hx983
          have f984 : partCV Tryd.prog 9 (encL a0) ((i788).toNat) = some (sV x982) := partCV_enc1 hx983d (by simp)
          have F2 := an F1 f984
          refine goR F2 ?_
          revert e978; refine bK fun y985 hx986 e978 => ?_
          refine cP F2 (at_r08_ValidName hx986) ?_
          refine goR F2 ?_
          revert e978; refine cS F2 ?_ ?_ <;> intro h987 e978
          · refine goR F2 ?_
            obtain rfl := sj e978
            try dsimp only at e924
            refine hX981 _ _ (by simp) ?_
            refine goR F2 ?_
            obtain rfl := sj e924
            try dsimp only at e512
            obtain rfl := sj e512
            try dsimp only at hs
            refine hX515 _ _ (by simp) ?_
            refine goR F2 ?_
            obtain rfl := sj hs
            exact hQ _ _ (rg F2 (Gh.refl _))
          · refine goR F2 ?_
            revert e978; refine bK fun o1007 e1006 e978 => ?_
            refine awp_loopW (fun (v : Nat × Int) (σ : St) => r08_names_L2 a0 i788 x982 v.1 v.2 = some o1007 ∧ σ.env 0 = .cell (sC a0) ∧ σ.env 4 = iV .i64 i788 ∧ σ.env 5 = iV .i64 v.2 ∧ (σ48.gen + 3) ≤ σ.gen) (fun v => v.1) _ (Gh.refl _) (fuelN, 0) ⟨e1006, pv F2, pv F2, pv F2, pg⟩ fun v σ54 hp L1008 hL1009 => ?_
            obtain ⟨q1011, i997⟩ := v
            dsimp only at hp hL1009
            obtain ⟨e1006, h53_0, h53_4, h53_5, n53_g⟩ := hp
            rcases q1011 with _ | q1012
            · rw [r08_names_L2] at e1006; cases e1006
            · rw [r08_names_L2] at e1006; try dsimp only at e1006
              have F3 := an h53_0 (an h53_4 (an h53_5 f984))
              refine goR F3 ?_
              revert e1006; refine cS F3 ?_ ?_ <;> intro h1016 e1006
              · revert e1006; refine bK fun x1020 hx1021 e1006 => ?_
                obtain ⟨hx1021a, hx1021b, hx1021c, hx1021d⟩ := getI_some hx1021
                have f1022 : partCV Tryd.prog 9 (encL a0) ((i997).toNat) = some (sV x1020) := partCV_enc1 hx1021d (by simp)
                have F4 := an F3 f1022
                refine goD F4 ?_
                revert e1006; refine cS F4 ?_ ?_ <;> intro h1023 e1006
                · refine goD F4 ?_
                  obtain rfl := sj e1006
                  try dsimp only at e978
                  obtain rfl := sj e978
                  try dsimp only at e924
                  refine hX981 _ _ (by simp) ?_
                  refine goD F4 ?_
                  obtain rfl := sj e924
                  try dsimp only at e512
                  obtain rfl := sj e512
                  try dsimp only at hs
                  refine hX515 _ _ (by simp) ?_
                  refine goD F4 ?_
                  obtain rfl := sj hs
                  exact hQ _ _ (rg F4 (Gh.refl _))
                · refine goD F4 ?_
                  exact hL1009 (q1012, IntKind.i64.wrap (i997 + 1)) _ _ (Gh.refl _) ⟨e1006, pv F4, pv F4, pv F4, pg⟩ (by omega)
              · refine goR F3 ?_
                obtain rfl := sj e1006
                try dsimp only at e978
                exact hK980 () _ _ (Gh.refl _) ⟨e978, pv F3, pv F3, pg⟩
        · obtain ⟨e978, h52_0, h52_4, n52_g⟩ := hp
          obtain rfl := sj e978
          try dsimp only at e924
          have F5 := an h52_0 h52_4
          refine goR F5 ?_
          exact hL927 (q930, IntKind.i64.wrap (i788 + 1)) _ _ (Gh.refl _) ⟨e924, pv F5, pv F5, pg⟩ (by omega)
      · refine goR F1 ?_
        obtain rfl := sj e924
        try dsimp only at e512
        exact hK514 () _ _ (Gh.refl _) ⟨e512, pg⟩
  · obtain ⟨e512, n28_g⟩ := hp
    obtain rfl := sj e512
    try dsimp only at hs
    refine goR f0 ?_
    obtain rfl := sj hs
    exact hQ _ _ (rg f0 (Gh.refl _))
end Go.Dc
end
section
set_option linter.all false
namespace Go.Dc.Pl
open Go Go.Hw Go.Dc
theorem eqI_d (a b : Int) : eqI a b = decide (a = b) := by simp [eqI, Bool.beq_eq_decide_eq]
theorem ltI_d (a b : Int) : ltI a b = decide (a < b) := rfl
theorem andB_d (a b : Bool) : andB a b = (a && b) := rfl
theorem orB_d (a b : Bool) : orB a b = (a || b) := rfl
theorem eqS_comm (a b : ByteArray) : eqS a b = eqS b a := by simp [eqS, Bool.beq_comm]
theorem inB_d (i : Int) (n : Nat) : inB i n = decide (0 ≤ i ∧ i < n) := rfl
theorem lenB_d (n : Nat) : lenB n = decide (n ≤ 1099511627776) := rfl
def small (p : Program) : Bool := decide (p.Vars.length ≤ 20 ∧ p.Mutexes.length ≤ 20 ∧ p.Conds.length ≤ 20 ∧ p.Funcs.length ≤ 20 ∧ p.Threads.length ≤ 20) && !p.Funcs.any fun f => decide (100 < f.Code.length)
theorem small_eq (p : Program) : r08_Small p = some (small p) := by
  have h := srch (L := r08_Small_L1) (fun _ (x : Func) => onlyIf (ltI 100 ((x.Code.length : Nat) : Int)) false) (fun _ => rfl) p.Funcs 0 fun j x hx q => by
    rw [r08_Small_L1, step_only]
  rw [first_onlyC] at h
  simp only [r08_Small, small, h, orB_d, ltI_d, cond_eq_ite]
  have ha : (p.Funcs.any fun x => ltI 100 ((x.Code.length : Nat) : Int)) = (p.Funcs.any fun f => decide (100 < f.Code.length)) := by
    congr 1; funext x; simp [ltI_d]; omega
  simp only [ltI_d] at ha
  rw [ha]
  by_cases e : p.Vars.length ≤ 20 ∧ p.Mutexes.length ≤ 20 ∧ p.Conds.length ≤ 20 ∧ p.Funcs.length ≤ 20 ∧ p.Threads.length ≤ 20
  · rw [if_neg (by simp; omega)]; simp only [e]; cases p.Funcs.any fun f => decide (100 < f.Code.length) <;> simp
  · rw [if_pos (by simp; omega)]; simp only [e]; simp
theorem small_t {p : Program} (h : small p = true) : p.Vars.length ≤ 20 ∧ p.Mutexes.length ≤ 20 ∧ p.Conds.length ≤ 20 ∧ p.Funcs.length ≤ 20 ∧ p.Threads.length ≤ 20 ∧ ∀ f ∈ p.Funcs, f.Code.length ≤ 100 := by
  simp [small] at h
  obtain ⟨⟨a, b, c, d, e⟩, h⟩ := h
  exact ⟨a, b, c, d, e, h⟩

/-- What a byte of a name may not be. -/
def badC (k : Nat) (c : UInt8) : Bool := andB (!(orB (andB (!(ltI (c.toNat : Int) 97)) (!(ltI 122 (c.toNat : Int)))) (andB (!(ltI (c.toNat : Int) 65)) (!(ltI 90 (c.toNat : Int)))))) (orB (eqI ((k : Nat) : Int) 0) (andB (!(eqI (c.toNat : Int) 95)) (orB (ltI (c.toNat : Int) 48) (ltI 57 (c.toNat : Int)))))
def okName (s : ByteArray) : Bool := decide (1 ≤ s.size ∧ s.size ≤ 16) && !(((List.replicate s.size ()).zipIdx 0).any fun x => badC x.2 (bget s x.2))
theorem bget_eq {s : ByteArray} {k : Nat} (h : k < s.size) : s[k]? = some (bget s k) := by
  simp [bget, h]
theorem ref_name (s : ByteArray) : r08_ValidName s = some (okName s) := by
  simp only [r08_ValidName, okName, orB_d, ltI_d, cond_eq_ite]
  by_cases e : 1 ≤ s.size ∧ s.size ≤ 16
  · rw [if_neg (by simp; omega), show lenB s.size = true by rw [lenB_d]; simp; omega]
    have h := srchN (L := r08_ValidName_L1 s) (fun k => onlyIf (badC k (bget s k)) false) (fun _ => rfl) s.size 0 fun q j hj => by
      rw [Nat.zero_add, r08_ValidName_L1, bget_eq hj, Option.bind_some]
      exact step_only _ _ _
    rw [guardO_t, h, first_only (fun k (_ : Unit) => badC k (bget s k))]
    cases ((List.replicate s.size ()).zipIdx 0).any fun x => badC x.2 (bget s x.2) <;> simp [e]
  · rw [if_pos (by simp; omega)]; simp [e]
theorem any_ext {α : Type} {p q : α → Bool} : ∀ {l : List α}, (∀ x ∈ l, p x = q x) → l.any p = l.any q
  | [], _ => rfl
  | x :: l, h => by rw [List.any_cons, List.any_cons, h x (by simp), any_ext fun y hy => h y (by simp [hy])]
def badP (c : UInt8) : Bool := andB (andB (!(orB (andB (!(ltI (c.toNat : Int) 97)) (!(ltI 122 (c.toNat : Int)))) (andB (!(ltI (c.toNat : Int) 65)) (!(ltI 90 (c.toNat : Int)))))) (!(eqI (c.toNat : Int) 95))) (orB (ltI (c.toNat : Int) 48) (ltI 57 (c.toNat : Int)))
def letr (c : UInt8) : Bool := orB (andB (!(ltI (c.toNat : Int) 97)) (!(ltI 122 (c.toNat : Int)))) (andB (!(ltI (c.toNat : Int) 65)) (!(ltI 90 (c.toNat : Int))))
theorem own_name (s : ByteArray) : program_ValidName s = some (okName s) := by
  simp only [program_ValidName, okName]
  rw [show program_letter (bget s 0) = some (letr (bget s 0)) from rfl]
  by_cases e : 1 ≤ s.size ∧ s.size ≤ 16
  · have h := srchN (L := program_ValidName_L1 s) (fun k => onlyIf (badP (bget s k)) false) (fun _ => rfl) s.size 0 fun q j hj => by
      rw [Nat.zero_add, program_ValidName_L1, bget_eq hj, Option.bind_some, program_letter, Option.bind_some]
      exact step_only _ _ _
    rw [first_only (fun k (_ : Unit) => badP (bget s k))] at h
    rw [show (orB (ltI ((s.size : Nat) : Int) 1) (ltI 16 ((s.size : Nat) : Int))) = false by simp [orB_d, ltI_d]; omega]
    rw [show inB ((0 : Nat) : Int) s.size = true by simp [inB_d]; omega, show lenB s.size = true by rw [lenB_d]; simp; omega, h]
    have hl : badC 0 (bget s 0) = !letr (bget s 0) := by simp [badC, letr, orB_d, andB_d, eqI_d]
    have hk : ∀ k, k ≠ 0 → badC k (bget s k) = badP (bget s k) := fun k hk => by
      simp only [badC, badP, orB_d, andB_d, eqI_d, Bool.and_assoc]
      simp [hk]
    obtain ⟨n, hn⟩ : ∃ n, s.size = n + 1 := ⟨s.size - 1, by omega⟩
    rw [hn, List.replicate_succ, List.zipIdx_cons, List.any_cons, List.any_cons]
    have hr : (((List.replicate n ()).zipIdx (0 + 1)).any fun x => badC x.2 (bget s x.2)) = (((List.replicate n ()).zipIdx (0 + 1)).any fun x => badP (bget s x.2)) := by
      refine any_ext fun x hx => ?_
      have := List.mem_zipIdx hx
      exact hk _ (by omega)
    rw [hr]
    simp only [hl]
    cases hlt : letr (bget s 0)
    · simp [orB]
    · have : badP (bget s 0) = false := by simp only [letr] at hlt; simp only [badP, andB_d] at hlt ⊢; rw [hlt]; rfl
      rw [this]
      cases ((List.replicate n ()).zipIdx (0 + 1)).any fun x => badP (bget s x.2) <;> simp [orB] <;> omega
  · rw [show (orB (ltI ((s.size : Nat) : Int) 1) (ltI 16 ((s.size : Nat) : Int))) = true by simp [orB_d, ltI_d]; omega]
    simp [orB, e]
theorem index_eq (l : List ByteArray) (s : ByteArray) : slices_Index_string l s = some (((first (fun k x => onlyIf (eqS s x) (k : Int)) l 0).getD (-1))) := by
  have h := srch (L := slices_Index_string_L1 s) (fun k x => onlyIf (eqS s x) (k : Int)) (fun _ => rfl) l 0 fun j x hx q => by rw [slices_Index_string_L1]; exact step_only _ _ _
  rw [slices_Index_string, h]
  cases first (fun k x => onlyIf (eqS s x) (k : Int)) l 0 <;> rfl
theorem first_nonneg {α : Type} (p : α → Bool) : ∀ (l : List α) (k : Nat) (r : Int), first (fun k x => onlyIf (p x) (k : Int)) l k = some r → 0 ≤ r
  | [], _, _, h => by cases h
  | x :: q, k, r, h => by
    rw [first_cons] at h
    cases hp : p x
    · simp [hp] at h; exact first_nonneg p q _ r h
    · simp [hp] at h; omega
theorem contains_eq (l : List ByteArray) (s : ByteArray) : slices_Contains_string l s = some (l.any (eqS s)) := by
  rw [slices_Contains_string, index_eq, ← first_isSome (eqS s) (fun k _ => (k : Int)) l 0, Option.bind_some]
  have := first_nonneg (eqS s) l 0
  cases h : first (fun k x => onlyIf (eqS s x) (k : Int)) l 0 with
  | none => rfl
  | some r => have := this r h; simp [ltI_d]; omega
/-- What is wrong with a name of a list. -/
def nmF (l : List ByteArray) (k : Nat) (x : ByteArray) : Option (Int × Int) := if okName x = false then some (6, (k : Int)) else onlyIf ((l.take k).any (eqS x)) (7, (k : Int))
def badName (l : List ByteArray) : Option (Int × Int) := first (nmF l) l 0
theorem own_names (l : List ByteArray) : program_names l = some ((badName l).getD (0, -1)) := by
  have h := srch (L := program_names_L1 l) (nmF l) (fun _ => rfl) l 0 fun j x hx q => by
    have hj := getN_some hx
    rw [Nat.zero_add, program_names_L1, own_name, Option.bind_some, nmF]
    cases okName x
    · rfl
    · rw [show slB 0 ((j : Nat) : Int) l.length = true by simp [slB]; omega, guardO_t, Option.bind_some, contains_eq, Option.bind_some, show subL l 0 (j : Int) = l.take j by simp [subL], if_neg (by simp), Bool.not_true, cond_false]
      exact step_only _ _ _
  rw [program_names, h]
  show _ = some ((first (nmF l) l 0).getD _)
  cases first (nmF l) l 0 <;> rfl
theorem ref_names {l : List ByteArray} {fuel : Nat} (hl : l.length < fuel) (hl2 : l.length ≤ 1099511627776) : r08_names fuel l = some (match badName l with | some r => (r.2, r.1) | none => (0, 0)) := by
  have h := srchI (L := r08_names_L1 fuel l) l (fun k x => (nmF l k x).map fun r => (r.2, r.1)) (fun q => by rw [r08_names_L1]; simp [ltI_d]) (fun q k x hx => by
    have hk := getN_some hx
    have h2 := srchI (L := r08_names_L2 l (k : Int) x) (l.take k) (fun _ y => onlyIf (eqS y x) ((k : Int), (7 : Int))) (fun q => by
      rw [r08_names_L2, List.length_take, Nat.min_eq_left (by omega)]; simp [ltI_d]) (fun q j y hy => by
      have hj := getN_some hy
      rw [List.length_take, Nat.min_eq_left (by omega)] at hj
      rw [List.getElem?_take_of_lt hj] at hy
      rw [r08_names_L2, ltI_d, show decide ((j : Int) < k) = true by simp; omega, cond_true, getI_nat, hy, Option.bind_some, wrapS (by omega)]
      exact step_only _ _ _) fuel 0 (by omega) (by rw [List.length_take]; omega)
    rw [List.drop_zero, first_onlyC] at h2
    rw [r08_names_L1, ltI_d, show decide ((k : Int) < (l.length : Nat)) = true by simp; omega, cond_true, getI_nat, hx, Option.bind_some, ref_name, Option.bind_some, wrapS (by omega), nmF]
    rw [Int.natCast_zero] at h2
    rw [h2, show ((l.take k).any fun y => eqS y x) = (l.take k).any (eqS x) from any_ext fun y _ => eqS_comm _ _]
    cases okName x
    · rfl
    · cases (l.take k).any (eqS x) <;> rfl) fuel 0 (by omega) (by omega)
  rw [List.drop_zero, first_map (h := nmF l) (g := fun r => (r.2, r.1)) l 0 (fun _ _ => rfl), Int.natCast_zero] at h
  rw [r08_names, h, badName]
  cases first (nmF l) l 0 <;> rfl
end Go.Dc.Pl
end
section
set_option linter.all false
namespace Go.Dc
open Go Go.Hw Go.Proofs
set_option maxRecDepth 100000

def inst_known (a0 : Int) : Option Bool :=
  some (andB (!(ltI a0 1)) (!(ltI 22 a0)))

set_option maxHeartbeats 2000000 in
theorem at_inst_known {a0 : Int} {r : Bool} (hs : inst_known a0 = some r) : At Tryd.prog 104 [iV .i64 a0] (bV r) := by
  refine at_bound (by kernel_rfl) fun hb => ?_
  refine at_code mixed Tryd.func104 (by kernel_rfl) rfl (by kernel_rfl) rfl fun Q hQ => ?_
  rw [inst_known] at hs
  refine goG f0 f0 ?_
  obtain rfl := sj hs
  exact hQ _ _ (rg f0 (Gh.refl _))
end Go.Dc
end
section
set_option linter.all false
namespace Go.Dc
open Go Go.Hw Go.Proofs
set_option maxRecDepth 100000

def inst_values (a0 : Inst) : Option (Arr 7 Int) :=
  some (Arr.of 7 [a0.A, a0.B, a0.C, a0.Obj, a0.N, a0.Fn, a0.Order])

set_option maxHeartbeats 2000000 in
theorem at_inst_values {a0 : Inst} {r : (Arr 7 Int)} (hs : inst_values a0 = some r) : At Tryd.prog 105 [.agg (eA a0)] (.agg [nC (r.f 0), nC (r.f 1), nC (r.f 2), nC (r.f 3), nC (r.f 4), nC (r.f 5), nC (r.f 6)]) := by
  refine at_bound (by kernel_rfl) fun hb => ?_
  refine at_code mixed Tryd.func105 (by kernel_rfl) rfl (by kernel_rfl) rfl fun Q hQ => ?_
  rw [inst_values] at hs
  refine goR f0 ?_
  obtain rfl := sj hs
  exact hQ _ _ (rg f0 (Gh.refl _))
end Go.Dc
end
section
set_option linter.all false
namespace Go.Dc
open Go Go.Hw Go.Proofs
set_option maxRecDepth 100000

def value_Name (a0 : Int) : Option ByteArray :=
  cond (orB (ltI a0 1) (ltI 10 a0)) (some (⟨#[]⟩ : ByteArray)) (Option.bind (getI namesTab (IntKind.i64.wrap (a0 - 1))) (fun x2 => some x2))

set_option maxHeartbeats 2000000 in
theorem at_value_Name {a0 : Int} {r : ByteArray} (hs : value_Name a0 = some r) : At Tryd.prog 106 [iV .i64 a0] (sV r) := by
  refine at_bound (by kernel_rfl) fun hb => ?_
  refine at_code mixed Tryd.func106 (by kernel_rfl) rfl (by kernel_rfl) rfl fun Q hQ => ?_
  rw [value_Name] at hs
  refine goG f0 f0 ?_
  revert hs; refine cS f0 ?_ ?_ <;> intro h1 hs
  · refine goG f0 f0 ?_
    obtain rfl := sj hs
    exact hQ _ _ (rg f0 (Gh.refl _))
  · revert hs; refine bK fun x2 hx3 hs => ?_
    obtain ⟨hx3a, hx3b, hx3c, hx3d⟩ := getI_some hx3
    have t4L : namesTab.length = 10 := rfl
    have f5 : partCV Tryd.prog 9 (encL namesTab) ((IntKind.i64.wrap (a0 - 1)).toNat) = some (sV x2) := partCV_enc1 hx3d (by simp)
    have F1 := an f5 (an hx3a hx3b)
    refine goG f5 F1 ?_
    obtain rfl := sj hs
    exact hQ _ _ (rg f5 (Gh.refl _))
end Go.Dc
end
section
set_option linter.all false
namespace Go.Dc
open Go Go.Hw Go.Proofs
set_option maxRecDepth 100000
def inst_Check_L1 (x4 : InstRow) (y8 : (Arr 7 Int)) : Nat → Int → Option (Unit ⊕ Int)
  | 0, _ => none
  | q65 + 1, i52 => cond (ltI i52 7) (guardO (inB i52 7) (guardO (inB i52 7) (cond (andB (!(x4.uses.f ((i52).toNat))) (!(eqI (y8.f ((i52).toNat)) 0))) (some (.inr 9)) (inst_Check_L1 x4 y8 q65 (IntKind.i64.wrap (i52 + 1)))))) (some (.inl ()))

def inst_Check_L2 (a0 : Inst) (x4 : InstRow) : Nat → Int → Option (Unit ⊕ Int)
  | 0, _ => none
  | q131 + 1, i118 => cond (ltI i118 3) (guardO (inB i118 3) (guardO (inB i118 7) (cond (andB (x4.uses.f ((i118).toNat)) (orB (ltI ((Arr.of 3 [a0.A, a0.B, a0.C] : Arr 3 Int).f ((i118).toNat)) 0) (!(ltI ((Arr.of 3 [a0.A, a0.B, a0.C] : Arr 3 Int).f ((i118).toNat)) 8)))) (some (.inr 10)) (inst_Check_L2 a0 x4 q131 (IntKind.i64.wrap (i118 + 1)))))) (some (.inl ()))

def inst_Check (fuelN : Nat) (a0 : Inst) : Option Int :=
  Option.bind (inst_known a0.Op) (fun y1 => cond (!y1) (some 8) (Option.bind (getI rowsTab (IntKind.i64.wrap (a0.Op - 1))) (fun x4 => Option.bind (inst_values a0) (fun y8 => Option.bind (α := Unit ⊕ Int) (Option.bind (inst_Check_L1 x4 y8 fuelN 0) (fun o => match o with | .inl _ => some (.inl ()) | .inr r75 => some (.inr r75))) (fun o => match o with | .inl _ => Option.bind (α := Unit ⊕ Int) (Option.bind (inst_Check_L2 a0 x4 fuelN 0) (fun o => match o with | .inl _ => some (.inl ()) | .inr r141 => some (.inr r141))) (fun o => match o with | .inl _ => cond (andB (x4.uses.f 6) (orB (ltI a0.Order 0) (ltI 2 a0.Order))) (some 13) (guardO (orB (!(x4.uses.f 5)) ((value_Name a0.Fn).isSome)) (cond (andB (x4.uses.f 5) (eqS ((value_Name a0.Fn).getD default) (⟨#[]⟩ : ByteArray))) (some 8) (cond (andB (eqI a0.Op 1) (orB (ltI a0.N (-2147483648)) (ltI 2147483647 a0.N))) (some 2) (some 0)))) | .inr r146 => some r146) | .inr r147 => some r147)))))

set_option maxHeartbeats 2000000 in
theorem at_inst_Check {fuelN : Nat} {a0 : Inst} {r : Int} (hs : inst_Check fuelN a0 = some r) : At Tryd.prog 72 [.agg (eA a0)] (iV .i64 r) := by
  refine at_bound (by kernel_rfl) fun hb => ?_
  refine at_code mixed Tryd.func72 (by kernel_rfl) rfl (by kernel_rfl) rfl fun Q hQ => ?_
  rw [inst_Check] at hs
  refine goR f0 ?_
  revert hs; refine bK fun y1 hx2 hs => ?_
  refine cP f0 (at_inst_known hx2) ?_
  refine goR f0 ?_
  revert hs; refine cS f0 ?_ ?_ <;> intro h3 hs
  · refine goR f0 ?_
    obtain rfl := sj hs
    exact hQ _ _ (rg f0 (Gh.refl _))
  · revert hs; refine bK fun x4 hx5 hs => ?_
    obtain ⟨hx5a, hx5b, hx5c, hx5d⟩ := getI_some hx5
    have t6L : rowsTab.length = 22 := rfl
    have f7 : partCV Tryd.prog 142 (encL rowsTab) (((IntKind.i64.wrap (a0.Op - 1)).toNat) * 8 + 1) = some (.agg [bC (x4.uses.f 0), bC (x4.uses.f 1), bC (x4.uses.f 2), bC (x4.uses.f 3), bC (x4.uses.f 4), bC (x4.uses.f 5), bC (x4.uses.f 6)]) := partCV_enc hx5d (f := 1) (by simp)
    refine goR f7 ?_
    revert hs; refine bK fun y8 hx9 hs => ?_
    refine cP f7 (at_inst_values hx9) ?_
    refine goR2 f7 ?_
    revert hs; refine bK fun o42 e41 hs => ?_
    refine awp_cutK (fun (v : Unit) (σ : St) => some (.inl v) = some o42 ∧ σ.env 1 = .cell (.ref (.o 1 0 0) 0) ∧ σ.env 3 = .cell (.ref (.o 3 6 0) 0) ∧ σ.hp (.o 1 0 0) = some (.cells (eA a0)) ∧ σ.hp (.o 3 6 0) = some (.cells [bC (x4.uses.f 0), bC (x4.uses.f 1), bC (x4.uses.f 2), bC (x4.uses.f 3), bC (x4.uses.f 4), bC (x4.uses.f 5), bC (x4.uses.f 6)]) ∧ 4 ≤ σ.gen) (by rfl) (fun Q hK43 hX44 => ?_) (fun v σ3 hp => ?_)
    · refine goR f7 ?_
      revert e41; refine bK fun o60 e59 e41 => ?_
      refine awp_loopW (fun (v : Nat × Int) (σ : St) => inst_Check_L1 x4 y8 v.1 v.2 = some o60 ∧ σ.env 1 = .cell (.ref (.o 1 0 0) 0) ∧ σ.env 3 = .cell (.ref (.o 3 6 0) 0) ∧ σ.env 19 = .agg [nC (y8.f 0), nC (y8.f 1), nC (y8.f 2), nC (y8.f 3), nC (y8.f 4), nC (y8.f 5), nC (y8.f 6)] ∧ σ.env 20 = iV .i64 v.2 ∧ σ.hp (.o 1 0 0) = some (.cells (eA a0)) ∧ σ.hp (.o 3 6 0) = some (.cells [bC (x4.uses.f 0), bC (x4.uses.f 1), bC (x4.uses.f 2), bC (x4.uses.f 3), bC (x4.uses.f 4), bC (x4.uses.f 5), bC (x4.uses.f 6)]) ∧ 4 ≤ σ.gen) (fun v => v.1) _ (Gh.refl _) (fuelN, 0) ⟨e59, pv f7, pv f7, pv f7, pv f7, pv f7, pv f7, pg⟩ fun v σ6 hp L61 hL62 => ?_
      obtain ⟨q64, i52⟩ := v
      dsimp only at hp hL62
      obtain ⟨e59, h5_1, h5_3, h5_19, h5_20, g5_0, g5_1, n5_g⟩ := hp
      have n5_0 : ¬ (σ6.gen = 0) := by omega
      have n5_1 : ¬ (σ6.gen = 1) := by omega
      have n5_2 : ¬ (σ6.gen = 2) := by omega
      rcases q64 with _ | q65
      · rw [inst_Check_L1] at e59; cases e59
      · rw [inst_Check_L1] at e59; try dsimp only at e59
        have F1 := an h5_1 (an h5_3 (an h5_19 (an h5_20 (an g5_0 (an g5_1 (an n5_0 (an n5_1 (an n5_2 f7))))))))
        refine goR F1 ?_
        revert e59; refine cS F1 ?_ ?_ <;> intro h69 e59
        · obtain ⟨g70, e59⟩ := guardO_some e59
          have g70a : 0 ≤ i52 := (inB_t g70).1
          have g70b : i52 < 7 := (inB_t g70).2.1
          have g70n : (i52).toNat < 7 :=  by simpa using (inB_t g70).2.2
          have f71 : ([nC (y8.f 0), nC (y8.f 1), nC (y8.f 2), nC (y8.f 3), nC (y8.f 4), nC (y8.f 5), nC (y8.f 6)] : List AC)[(i52).toNat]? = some (nC (y8.f ((i52).toNat))) := arr_read (n := 7) (fun j => (nC (y8.f j) : AC)) g70n
          have f71t := take_one f71
          have f71g := get_of f71
          obtain ⟨g72, e59⟩ := guardO_some e59
          have g72a : 0 ≤ i52 := (inB_t g72).1
          have g72b : i52 < 7 := (inB_t g72).2.1
          have g72n : (i52).toNat < 7 :=  by simpa using (inB_t g72).2.2
          have f73 : ([bC (x4.uses.f 0), bC (x4.uses.f 1), bC (x4.uses.f 2), bC (x4.uses.f 3), bC (x4.uses.f 4), bC (x4.uses.f 5), bC (x4.uses.f 6)] : List AC)[(i52).toNat]? = some (bC (x4.uses.f ((i52).toNat))) := arr_read (n := 7) (fun j => (bC (x4.uses.f j) : AC)) g72n
          have f73t := take_one f73
          have f73g := get_of f73
          have F2 := an F1 (an g70a (an g70b (an g70n (an f71 (an f71t (an f71g (an g72a (an g72b (an g72n (an f73 (an f73t f73g)))))))))))
          have F3 := an F2 (an hx5a hx5b)
          refine goG F2 F3 ?_
          revert e59; refine cS F2 ?_ ?_ <;> intro h74 e59
          · refine goG F2 F3 ?_
            obtain rfl := sj e59
            try dsimp only at e41
            obtain rfl := sj e41
            try dsimp only at hs
            refine hX44 _ _ (by simp) ?_
            refine goG F2 F3 ?_
            obtain rfl := sj hs
            exact hQ _ _ (rg F2 (Gh.refl _))
          · refine goG F2 F3 ?_
            exact hL62 (q65, IntKind.i64.wrap (i52 + 1)) _ _ (Gh.refl _) ⟨e59, pv F2, pv F2, pv F2, pv F2, pv F2, pv F2, pg⟩ (by omega)
        · refine goR F1 ?_
          obtain rfl := sj e59
          try dsimp only at e41
          exact hK43 () _ _ (Gh.refl _) ⟨e41, pv F1, pv F1, pv F1, pv F1, pg⟩
    · obtain ⟨e41, h4_1, h4_3, g4_0, g4_1, n4_g⟩ := hp
      obtain rfl := sj e41
      try dsimp only at hs
      have n4_0 : ¬ (σ3.gen = 0) := by omega
      have n4_1 : ¬ (σ3.gen = 1) := by omega
      have n4_2 : ¬ (σ3.gen = 2) := by omega
      have F4 := an h4_1 (an h4_3 (an g4_0 (an g4_1 (an n4_0 (an n4_1 (an n4_2 f7))))))
      refine goR2 F4 ?_
      revert hs; refine bK fun o108 e107 hs => ?_
      refine awp_cutK (fun (v : Unit) (σ : St) => some (.inl v) = some o108 ∧ σ.env 1 = .cell (.ref (.o 1 0 0) 0) ∧ σ.env 3 = .cell (.ref (.o 3 6 0) 0) ∧ σ.hp (.o 1 0 0) = some (.cells (eA a0)) ∧ σ.hp (.o 3 6 0) = some (.cells [bC (x4.uses.f 0), bC (x4.uses.f 1), bC (x4.uses.f 2), bC (x4.uses.f 3), bC (x4.uses.f 4), bC (x4.uses.f 5), bC (x4.uses.f 6)]) ∧ (σ3.gen + 1) ≤ σ.gen) (by rfl) (fun Q hK109 hX110 => ?_) (fun v σ9 hp => ?_)
      · refine goR F4 ?_
        revert e107; refine bK fun o126 e125 e107 => ?_
        refine awp_loopW (fun (v : Nat × Int) (σ : St) => inst_Check_L2 a0 x4 v.1 v.2 = some o126 ∧ σ.env 1 = .cell (.ref (.o 1 0 0) 0) ∧ σ.env 3 = .cell (.ref (.o 3 6 0) 0) ∧ σ.env 39 = .agg [nC a0.A, nC a0.B, nC a0.C] ∧ σ.env 40 = iV .i64 v.2 ∧ σ.hp (.o 1 0 0) = some (.cells (eA a0)) ∧ σ.hp (.o 3 6 0) = some (.cells [bC (x4.uses.f 0), bC (x4.uses.f 1), bC (x4.uses.f 2), bC (x4.uses.f 3), bC (x4.uses.f 4), bC (x4.uses.f 5), bC (x4.uses.f 6)]) ∧ (σ3.gen + 1) ≤ σ.gen) (fun v => v.1) _ (Gh.refl _) (fuelN, 0) ⟨e125, pv F4, pv F4, pv F4, pv F4, pv F4, pv F4, pg⟩ fun v σ12 hp L127 hL128 => ?_
        obtain ⟨q130, i118⟩ := v
        dsimp only at hp hL128
        obtain ⟨e125, h11_1, h11_3, h11_39, h11_40, g11_0, g11_1, n11_g⟩ := hp
        have n11_0 : ¬ (σ12.gen = 0) := by omega
        have n11_1 : ¬ (σ12.gen = 1) := by omega
        have n11_2 : ¬ (σ12.gen = 2) := by omega
        rcases q130 with _ | q131
        · rw [inst_Check_L2] at e125; cases e125
        · rw [inst_Check_L2] at e125; try dsimp only at e125
          have F5 := an h11_1 (an h11_3 (an h11_39 (an h11_40 (an g11_0 (an g11_1 (an n11_0 (an n11_1 (an n11_2 f7))))))))
          refine goR F5 ?_
          revert e125; refine cS F5 ?_ ?_ <;> intro h135 e125
          · obtain ⟨g136, e125⟩ := guardO_some e125
            have g136a : 0 ≤ i118 := (inB_t g136).1
            have g136b : i118 < 3 := (inB_t g136).2.1
            have g136n : (i118).toNat < 3 :=  by simpa using (inB_t g136).2.2
            have f137 : ([nC a0.A, nC a0.B, nC a0.C] : List AC)[(i118).toNat]? = some (nC ((Arr.of 3 [a0.A, a0.B, a0.C] : Arr 3 Int).f ((i118).toNat))) := arr_readL (n := 3) ([a0.A, a0.B, a0.C] : List Int) (fun y => (nC y : AC)) g136n
            have f137t := take_one f137
            have f137g := get_of f137
            obtain ⟨g138, e125⟩ := guardO_some e125
            have g138a : 0 ≤ i118 := (inB_t g138).1
            have g138b : i118 < 7 := (inB_t g138).2.1
            have g138n : (i118).toNat < 7 :=  by simpa using (inB_t g138).2.2
            have f139 : ([bC (x4.uses.f 0), bC (x4.uses.f 1), bC (x4.uses.f 2), bC (x4.uses.f 3), bC (x4.uses.f 4), bC (x4.uses.f 5), bC (x4.uses.f 6)] : List AC)[(i118).toNat]? = some (bC (x4.uses.f ((i118).toNat))) := arr_read (n := 7) (fun j => (bC (x4.uses.f j) : AC)) g138n
            have f139t := take_one f139
            have f139g := get_of f139
            have F6 := an F5 (an g136a (an g136b (an g136n (an f137 (an f137t (an f137g (an g138a (an g138b (an g138n (an f139 (an f139t f139g)))))))))))
            have F7 := an F6 (an hx5a hx5b)
            refine goG F6 F7 ?_
            revert e125; refine cS F6 ?_ ?_ <;> intro h140 e125
            · refine goG F6 F7 ?_
              obtain rfl := sj e125
              try dsimp only at e107
              obtain rfl := sj e107
              try dsimp only at hs
              refine hX110 _ _ (by simp) ?_
              refine goG F6 F7 ?_
              obtain rfl := sj hs
              exact hQ _ _ (rg F6 (Gh.refl _))
            · refine goG F6 F7 ?_
              exact hL128 (q131, IntKind.i64.wrap (i118 + 1)) _ _ (Gh.refl _) ⟨e125, pv F6, pv F6, pv F6, pv F6, pv F6, pv F6, pg⟩ (by omega)
          · refine goR F5 ?_
            obtain rfl := sj e125
            try dsimp only at e107
            exact hK109 () _ _ (Gh.refl _) ⟨e107, pv F5, pv F5, pv F5, pv F5, pg⟩
      · obtain ⟨e107, h10_1, h10_3, g10_0, g10_1, n10_g⟩ := hp
        obtain rfl := sj e107
        try dsimp only at hs
        have n10_0 : ¬ (σ9.gen = 0) := by omega
        have n10_1 : ¬ (σ9.gen = 1) := by omega
        have n10_2 : ¬ (σ9.gen = 2) := by omega
        have F8 := an h10_1 (an h10_3 (an g10_0 (an g10_1 (an n10_0 (an n10_1 (an n10_2 f7))))))
        have F9 := an F8 (an hx5a hx5b)
        refine goG F8 F9 ?_
        revert hs; refine cS F8 ?_ ?_ <;> intro h142 hs
        · refine goG F8 F9 ?_
          obtain rfl := sj hs
          exact hQ _ _ (rg F8 (Gh.refl _))
        · refine goG F8 F9 ?_
          obtain ⟨g143, hs⟩ := guardO_some hs
          refine gsel_call (fun hg => at_value_Name (under_call g143 hg)) (fun hg => by (try simp at hg); (first | simp [hg, F8]); try rfl) (fun hg => by (try simp at hg); simp [hg, F8]) (by simp) ?_
          refine goG F8 F9 ?_
          revert hs; refine cS F8 ?_ ?_ <;> intro h144 hs
          · refine goG F8 F9 ?_
            obtain rfl := sj hs
            exact hQ _ _ (rg F8 (Gh.refl _))
          · refine goG F8 F9 ?_
            revert hs; refine cS F8 ?_ ?_ <;> intro h145 hs
            · refine goG F8 F9 ?_
              obtain rfl := sj hs
              exact hQ _ _ (rg F8 (Gh.refl _))
            · refine goG F8 F9 ?_
              obtain rfl := sj hs
              exact hQ _ _ (rg F8 (Gh.refl _))
end Go.Dc
end
section
set_option linter.all false
namespace Go.Dc
open Go Go.Hw Go.Proofs
set_option maxRecDepth 100000

def r07_fields  : Option (List ByteArray) :=
  Option.bind (some ([(⟨#[65, 78]⟩ : ByteArray), (⟨#[65, 66]⟩ : ByteArray), (⟨#[70, 65, 66, 67]⟩ : ByteArray), (⟨#[78]⟩ : ByteArray), (⟨#[66, 78]⟩ : ByteArray), (⟨#[66]⟩ : ByteArray), (⟨#[]⟩ : ByteArray), (⟨#[65, 79, 82]⟩ : ByteArray), (⟨#[79, 66, 82]⟩ : ByteArray), (⟨#[65, 79, 66, 82]⟩ : ByteArray), (⟨#[65, 79, 66, 82]⟩ : ByteArray), (⟨#[65, 79, 66, 67, 82]⟩ : ByteArray), (⟨#[]⟩ : ByteArray), (⟨#[65, 79, 70, 66, 82]⟩ : ByteArray), (⟨#[79]⟩ : ByteArray), (⟨#[79]⟩ : ByteArray), (⟨#[65, 79]⟩ : ByteArray), (⟨#[79, 78]⟩ : ByteArray), (⟨#[79]⟩ : ByteArray), (⟨#[79]⟩ : ByteArray), (⟨#[65, 79, 66]⟩ : ByteArray), (⟨#[66]⟩ : ByteArray)])) (fun l1 => some l1)

set_option maxHeartbeats 2000000 in
theorem at_r07_fields  {r : (List ByteArray)} (hs : r07_fields = some r) : At Tryd.prog 120 [] (.cell (sC r)) := by
  refine at_bound (by kernel_rfl) fun hb => ?_
  refine at_code mixed Tryd.func120 (by kernel_rfl) rfl (by kernel_rfl) rfl fun Q hQ => ?_
  rw [r07_fields] at hs
  revert hs; refine lK fun l1 hx2 hs => ?_
  have hx2n : l1.length = 22 := by rw [hx2]; rfl
  refine goR hx2 ?_
  obtain rfl := sj hs
  exact hQ _ _ (rg hx2 (Gh.frz _ (.o 2 0 0)))
end Go.Dc
end
section
set_option linter.all false
namespace Go.Dc
open Go Go.Hw Go.Proofs
set_option maxRecDepth 100000
def r07_has_L1 (a1 : UInt8) (x4 : ByteArray) : Nat → Nat → Option (Unit ⊕ Bool)
  | 0, k41 => some (.inl ())
  | q52 + 1, k41 => Option.bind (x4[k41]?) (fun c57 => cond (eqI (c57.toNat : Int) (a1.toNat : Int)) (some (.inr true)) (r07_has_L1 a1 x4 q52 (k41 + 1)))

def r07_has (a0 : Int) (a1 : UInt8) : Option Bool :=
  cond (orB (ltI a0 1) (ltI 22 a0)) (some false) (Option.bind (r07_fields) (fun y2 => Option.bind (getI y2 (IntKind.i64.wrap (a0 - 1))) (fun x4 => Option.bind (α := Unit ⊕ Bool) (guardO (lenB x4.size) (Option.bind (r07_has_L1 a1 x4 x4.size 0) (fun o => match o with | .inl _ => some (.inl ()) | .inr r60 => some (.inr r60)))) (fun o => match o with | .inl _ => some false | .inr r61 => some r61))))

set_option maxHeartbeats 2000000 in
theorem at_r07_has {a0 : Int} {a1 : UInt8} {r : Bool} (hs : r07_has a0 a1 = some r) : At Tryd.prog 107 [iV .i64 a0, iV .u8 (a1.toNat : Int)] (bV r) := by
  refine at_bound (by kernel_rfl) fun hb => ?_
  refine at_code mixed Tryd.func107 (by kernel_rfl) rfl (by kernel_rfl) rfl fun Q hQ => ?_
  rw [r07_has] at hs
  refine goG f0 f0 ?_
  revert hs; refine cS f0 ?_ ?_ <;> intro h1 hs
  · refine goG f0 f0 ?_
    obtain rfl := sj hs
    exact hQ _ _ (rg f0 (Gh.refl _))
  · refine goG f0 f0 ?_
    revert hs; refine bK fun y2 hx3 hs => ?_
    refine cP f0 (at_r07_fields hx3) ?_
    revert hs; refine bK fun x4 hx5 hs => ?_
    obtain ⟨hx5a, hx5b, hx5c, hx5d⟩ := getI_some hx5
    have f6 : partCV Tryd.prog 9 (encL y2) ((IntKind.i64.wrap (a0 - 1)).toNat) = some (sV x4) := partCV_enc1 hx5d (by simp)
    have F1 := an f6 (an hx5a hx5b)
    refine goG2 f6 F1 ?_
    revert hs; refine bK fun o33 e32 hs => ?_
    refine awp_cutK (fun (v : Unit) (σ : St) => some (.inl v) = some o33 ∧ 4 ≤ σ.gen) (by rfl) (fun Q hK34 hX35 => ?_) (fun v σ3 hp => ?_)
    · refine goG f6 F1 ?_
      obtain ⟨hb56, e32⟩ := guardO_some e32
      revert e32; refine bK fun o47 e46 e32 => ?_
      refine awp_loopW (fun (v : Nat × Nat) (σ : St) => r07_has_L1 a1 x4 v.1 v.2 = some o47 ∧ v.1 + v.2 = x4.size ∧ σ.env 1 = iV .u8 (a1.toNat : Int) ∧ σ.env 5 = sV x4 ∧ σ.env 6 = iV .i64 ((v.2 : Nat) : Int) ∧ 4 ≤ σ.gen) (fun v => v.1) _ (Gh.refl _) (x4.size, 0) ⟨e46, by first | omega | simp | (simp; omega), pv f6, pv f6, pv f6, pg⟩ fun v σ6 hp L48 hL49 => ?_
      obtain ⟨q51, k41⟩ := v
      dsimp only at hp hL49
      obtain ⟨e46, hd50, h5_1, h5_5, h5_6, n5_g⟩ := hp
      rcases q51 with _ | q52
      · have hlt53 : ¬ k41 < x4.size := by omega
        rw [r07_has_L1] at e46; try dsimp only at e46
        have F2 := an h5_1 (an h5_5 (an h5_6 f6))
        refine goR F2 ?_
        refine condK_f (by simp [ltI]; omega) ?_
        obtain rfl := sj e46
        try dsimp only at e32
        exact hK34 () _ _ (Gh.refl _) ⟨e32, pg⟩
      · have hlt53 : k41 < x4.size := by omega
        have ew54 := wrap_succG hlt53 hb56
        rw [r07_has_L1] at e46; try dsimp only at e46
        have F3 := an h5_1 (an h5_5 (an h5_6 (an f6 (an hlt53 ew54))))
        refine goR F3 ?_
        refine condK_t (by simp [ltI]; omega) ?_
        revert e46; refine bK fun c57 hx58 e46 => ?_
        have hx58b := getB_some hx58
        have hx58g := getB_eq hx58
        have F4 := an F3 (an hx58 hx58g)
        refine goR F4 ?_
        revert e46; refine cS F4 ?_ ?_ <;> intro h59 e46
        · refine goR F4 ?_
          obtain rfl := sj e46
          try dsimp only at e32
          obtain rfl := sj e32
          try dsimp only at hs
          refine hX35 _ _ (by simp) ?_
          refine goR F4 ?_
          obtain rfl := sj hs
          exact hQ _ _ (rg F4 (Gh.refl _))
        · refine goR F4 ?_
          exact hL49 (q52, (k41 + 1)) _ _ (Gh.refl _) ⟨e46, (by first | omega | (simp; omega)), pv F4, pv F4, pv F4, pg⟩ (by omega)
    · obtain ⟨e32, n4_g⟩ := hp
      obtain rfl := sj e32
      try dsimp only at hs
      refine goG f6 F1 ?_
      obtain rfl := sj hs
      exact hQ _ _ (rg f6 (Gh.refl _))
end Go.Dc
end
section
set_option linter.all false
namespace Go.Dc
open Go Go.Hw Go.Proofs
set_option maxRecDepth 100000

def r07_register (a0 : Int) : Option Bool :=
  some (andB (!(ltI a0 0)) (ltI a0 8))

set_option maxHeartbeats 2000000 in
theorem at_r07_register {a0 : Int} {r : Bool} (hs : r07_register a0 = some r) : At Tryd.prog 108 [iV .i64 a0] (bV r) := by
  refine at_bound (by kernel_rfl) fun hb => ?_
  refine at_code mixed Tryd.func108 (by kernel_rfl) rfl (by kernel_rfl) rfl fun Q hQ => ?_
  rw [r07_register] at hs
  refine goG f0 f0 ?_
  obtain rfl := sj hs
  exact hQ _ _ (rg f0 (Gh.refl _))
end Go.Dc
end
section
set_option linter.all false
namespace Go.Dc
open Go Go.Hw Go.Proofs
set_option maxRecDepth 100000

def r01_Name (a0 : Int) : Option ByteArray :=
  cond (eqI a0 1) (some (⟨#[97, 100, 100]⟩ : ByteArray)) (cond (eqI a0 2) (some (⟨#[115, 117, 98]⟩ : ByteArray)) (cond (eqI a0 3) (some (⟨#[109, 117, 108]⟩ : ByteArray)) (cond (eqI a0 4) (some (⟨#[97, 110, 100]⟩ : ByteArray)) (cond (eqI a0 5) (some (⟨#[111, 114]⟩ : ByteArray)) (cond (eqI a0 6) (some (⟨#[120, 111, 114]⟩ : ByteArray)) (cond (eqI a0 7) (some (⟨#[101, 113]⟩ : ByteArray)) (cond (eqI a0 8) (some (⟨#[110, 101]⟩ : ByteArray)) (cond (eqI a0 9) (some (⟨#[108, 116]⟩ : ByteArray)) (cond (eqI a0 10) (some (⟨#[108, 101]⟩ : ByteArray)) (some (⟨#[]⟩ : ByteArray)))))))))))

set_option maxHeartbeats 2000000 in
theorem at_r01_Name {a0 : Int} {r : ByteArray} (hs : r01_Name a0 = some r) : At Tryd.prog 109 [iV .i64 a0] (sV r) := by
  refine at_bound (by kernel_rfl) fun hb => ?_
  refine at_code mixed Tryd.func109 (by kernel_rfl) rfl (by kernel_rfl) rfl fun Q hQ => ?_
  rw [r01_Name] at hs
  refine goR f0 ?_
  revert hs; refine cS f0 ?_ ?_ <;> intro h1 hs
  · refine goR f0 ?_
    obtain rfl := sj hs
    exact hQ _ _ (rg f0 (Gh.refl _))
  · refine goR f0 ?_
    revert hs; refine cS f0 ?_ ?_ <;> intro h2 hs
    · refine goR f0 ?_
      obtain rfl := sj hs
      exact hQ _ _ (rg f0 (Gh.refl _))
    · refine goR f0 ?_
      revert hs; refine cS f0 ?_ ?_ <;> intro h3 hs
      · refine goR f0 ?_
        obtain rfl := sj hs
        exact hQ _ _ (rg f0 (Gh.refl _))
      · refine goR f0 ?_
        revert hs; refine cS f0 ?_ ?_ <;> intro h4 hs
        · refine goR f0 ?_
          obtain rfl := sj hs
          exact hQ _ _ (rg f0 (Gh.refl _))
        · refine goR f0 ?_
          revert hs; refine cS f0 ?_ ?_ <;> intro h5 hs
          · refine goR f0 ?_
            obtain rfl := sj hs
            exact hQ _ _ (rg f0 (Gh.refl _))
          · refine goR f0 ?_
            revert hs; refine cS f0 ?_ ?_ <;> intro h6 hs
            · refine goR f0 ?_
              obtain rfl := sj hs
              exact hQ _ _ (rg f0 (Gh.refl _))
            · refine goR f0 ?_
              revert hs; refine cS f0 ?_ ?_ <;> intro h7 hs
              · refine goR f0 ?_
                obtain rfl := sj hs
                exact hQ _ _ (rg f0 (Gh.refl _))
              · refine goR f0 ?_
                revert hs; refine cS f0 ?_ ?_ <;> intro h8 hs
                · refine goR f0 ?_
                  obtain rfl := sj hs
                  exact hQ _ _ (rg f0 (Gh.refl _))
                · refine goR f0 ?_
                  revert hs; refine cS f0 ?_ ?_ <;> intro h9 hs
                  · refine goR f0 ?_
                    obtain rfl := sj hs
                    exact hQ _ _ (rg f0 (Gh.refl _))
                  · refine goR f0 ?_
                    revert hs; refine cS f0 ?_ ?_ <;> intro h10 hs
                    · refine goR f0 ?_
                      obtain rfl := sj hs
                      exact hQ _ _ (rg f0 (Gh.refl _))
                    · refine goR f0 ?_
                      obtain rfl := sj hs
                      exact hQ _ _ (rg f0 (Gh.refl _))
end Go.Dc
end
section
set_option linter.all false
namespace Go.Dc
open Go Go.Hw Go.Proofs
set_option maxRecDepth 100000

def r07_Check (a0 : Inst) : Option Int :=
  cond (orB (ltI a0.Op 1) (ltI 22 a0.Op)) (some 8) (Option.bind (r07_has a0.Op 65) (fun y2 => guardO (orB (!(!(andB (!y2) (!(eqI a0.A 0))))) ((r07_has a0.Op 66).isSome)) (guardO (orB (!(!(orB (andB (!y2) (!(eqI a0.A 0))) (andB (!((r07_has a0.Op 66).getD default)) (!(eqI a0.B 0)))))) ((r07_has a0.Op 67).isSome)) (guardO (orB (!(!(orB (orB (andB (!y2) (!(eqI a0.A 0))) (andB (!((r07_has a0.Op 66).getD default)) (!(eqI a0.B 0)))) (andB (!((r07_has a0.Op 67).getD default)) (!(eqI a0.C 0)))))) ((r07_has a0.Op 79).isSome)) (guardO (orB (!(!(orB (orB (orB (andB (!y2) (!(eqI a0.A 0))) (andB (!((r07_has a0.Op 66).getD default)) (!(eqI a0.B 0)))) (andB (!((r07_has a0.Op 67).getD default)) (!(eqI a0.C 0)))) (andB (!((r07_has a0.Op 79).getD default)) (!(eqI a0.Obj 0)))))) ((r07_has a0.Op 78).isSome)) (guardO (orB (!(!(orB (orB (orB (orB (andB (!y2) (!(eqI a0.A 0))) (andB (!((r07_has a0.Op 66).getD default)) (!(eqI a0.B 0)))) (andB (!((r07_has a0.Op 67).getD default)) (!(eqI a0.C 0)))) (andB (!((r07_has a0.Op 79).getD default)) (!(eqI a0.Obj 0)))) (andB (!((r07_has a0.Op 78).getD default)) (!(eqI a0.N 0)))))) ((r07_has a0.Op 70).isSome)) (guardO (orB (!(!(orB (orB (orB (orB (orB (andB (!y2) (!(eqI a0.A 0))) (andB (!((r07_has a0.Op 66).getD default)) (!(eqI a0.B 0)))) (andB (!((r07_has a0.Op 67).getD default)) (!(eqI a0.C 0)))) (andB (!((r07_has a0.Op 79).getD default)) (!(eqI a0.Obj 0)))) (andB (!((r07_has a0.Op 78).getD default)) (!(eqI a0.N 0)))) (andB (!((r07_has a0.Op 70).getD default)) (!(eqI a0.Fn 0)))))) ((r07_has a0.Op 82).isSome)) (cond (orB (orB (orB (orB (orB (orB (andB (!y2) (!(eqI a0.A 0))) (andB (!((r07_has a0.Op 66).getD default)) (!(eqI a0.B 0)))) (andB (!((r07_has a0.Op 67).getD default)) (!(eqI a0.C 0)))) (andB (!((r07_has a0.Op 79).getD default)) (!(eqI a0.Obj 0)))) (andB (!((r07_has a0.Op 78).getD default)) (!(eqI a0.N 0)))) (andB (!((r07_has a0.Op 70).getD default)) (!(eqI a0.Fn 0)))) (andB (!((r07_has a0.Op 82).getD default)) (!(eqI a0.Order 0)))) (some 9) (Option.bind (r07_register a0.A) (fun y11 => guardO (orB (!y11) ((r07_register a0.B).isSome)) (guardO (orB (!(!(orB (!y11) (!((r07_register a0.B).getD default))))) ((r07_register a0.C).isSome)) (cond (orB (orB (!y11) (!((r07_register a0.B).getD default))) (!((r07_register a0.C).getD default))) (some 10) (cond (orB (ltI a0.Order 0) (ltI 2 a0.Order)) (some 13) (Option.bind (r07_has a0.Op 70) (fun y17 => guardO (orB (!y17) ((r01_Name a0.Fn).isSome)) (cond (andB y17 (eqS ((r01_Name a0.Fn).getD default) (⟨#[]⟩ : ByteArray))) (some 8) (cond (andB (eqI a0.Op 1) (orB (ltI a0.N (-2147483648)) (ltI 2147483647 a0.N))) (some 2) (some 0))))))))))))))))))

set_option maxHeartbeats 2000000 in
theorem at_r07_Check {a0 : Inst} {r : Int} (hs : r07_Check a0 = some r) : At Tryd.prog 75 [.agg (eA a0)] (iV .i64 r) := by
  refine at_bound (by kernel_rfl) fun hb => ?_
  refine at_code mixed Tryd.func75 (by kernel_rfl) rfl (by kernel_rfl) rfl fun Q hQ => ?_
  rw [r07_Check] at hs
  refine goG f0 f0 ?_
  revert hs; refine cS f0 ?_ ?_ <;> intro h1 hs
  · refine goG f0 f0 ?_
    obtain rfl := sj hs
    exact hQ _ _ (rg f0 (Gh.refl _))
  · refine goG f0 f0 ?_
    revert hs; refine bK fun y2 hx3 hs => ?_
    refine cP f0 (at_r07_has hx3) ?_
    refine goG f0 f0 ?_
    obtain ⟨g4, hs⟩ := guardO_some hs
    refine gsel_call (fun hg => at_r07_has (under_call g4 hg)) (fun hg => by (try simp at hg); (first | simp [hg, id]); try rfl) (fun hg => by (try simp at hg); simp [hg, id]) (by simp) ?_
    refine goG f0 f0 ?_
    obtain ⟨g5, hs⟩ := guardO_some hs
    refine gsel_call (fun hg => at_r07_has (under_call g5 hg)) (fun hg => by (try simp at hg); (first | simp [hg, id]); try rfl) (fun hg => by (try simp at hg); simp [hg, id]) (by simp) ?_
    refine goG f0 f0 ?_
    obtain ⟨g6, hs⟩ := guardO_some hs
    refine gsel_call (fun hg => at_r07_has (under_call g6 hg)) (fun hg => by (try simp at hg); (first | simp [hg, id]); try rfl) (fun hg => by (try simp at hg); simp [hg, id]) (by simp) ?_
    refine goG f0 f0 ?_
    obtain ⟨g7, hs⟩ := guardO_some hs
    refine gsel_call (fun hg => at_r07_has (under_call g7 hg)) (fun hg => by (try simp at hg); (first | simp [hg, id]); try rfl) (fun hg => by (try simp at hg); simp [hg, id]) (by simp) ?_
    refine goG f0 f0 ?_
    obtain ⟨g8, hs⟩ := guardO_some hs
    refine gsel_call (fun hg => at_r07_has (under_call g8 hg)) (fun hg => by (try simp at hg); (first | simp [hg, id]); try rfl) (fun hg => by (try simp at hg); simp [hg, id]) (by simp) ?_
    refine goG f0 f0 ?_
    obtain ⟨g9, hs⟩ := guardO_some hs
    refine gsel_call (fun hg => at_r07_has (under_call g9 hg)) (fun hg => by (try simp at hg); (first | simp [hg, id]); try rfl) (fun hg => by (try simp at hg); simp [hg, id]) (by simp) ?_
    refine goG f0 f0 ?_
    revert hs; refine cS f0 ?_ ?_ <;> intro h10 hs
    · refine goG f0 f0 ?_
      obtain rfl := sj hs
      exact hQ _ _ (rg f0 (Gh.refl _))
    · refine goG f0 f0 ?_
      revert hs; refine bK fun y11 hx12 hs => ?_
      refine cP f0 (at_r07_register hx12) ?_
      refine goG f0 f0 ?_
      obtain ⟨g13, hs⟩ := guardO_some hs
      refine gsel_call (fun hg => at_r07_register (under_call g13 hg)) (fun hg => by (try simp at hg); (first | simp [hg, id]); try rfl) (fun hg => by (try simp at hg); simp [hg, id]) (by simp) ?_
      refine goG f0 f0 ?_
      obtain ⟨g14, hs⟩ := guardO_some hs
      refine gsel_call (fun hg => at_r07_register (under_call g14 hg)) (fun hg => by (try simp at hg); (first | simp [hg, id]); try rfl) (fun hg => by (try simp at hg); simp [hg, id]) (by simp) ?_
      refine goG f0 f0 ?_
      revert hs; refine cS f0 ?_ ?_ <;> intro h15 hs
      · refine goG f0 f0 ?_
        obtain rfl := sj hs
        exact hQ _ _ (rg f0 (Gh.refl _))
      · refine goG f0 f0 ?_
        revert hs; refine cS f0 ?_ ?_ <;> intro h16 hs
        · refine goG f0 f0 ?_
          obtain rfl := sj hs
          exact hQ _ _ (rg f0 (Gh.refl _))
        · refine goG f0 f0 ?_
          revert hs; refine bK fun y17 hx18 hs => ?_
          refine cP f0 (at_r07_has hx18) ?_
          refine goG f0 f0 ?_
          obtain ⟨g19, hs⟩ := guardO_some hs
          refine gsel_call (fun hg => at_r01_Name (under_call g19 hg)) (fun hg => by (try simp at hg); (first | simp [hg, id]); try rfl) (fun hg => by (try simp at hg); simp [hg, id]) (by simp) ?_
          refine goG f0 f0 ?_
          revert hs; refine cS f0 ?_ ?_ <;> intro h20 hs
          · refine goG f0 f0 ?_
            obtain rfl := sj hs
            exact hQ _ _ (rg f0 (Gh.refl _))
          · refine goG f0 f0 ?_
            revert hs; refine cS f0 ?_ ?_ <;> intro h21 hs
            · refine goG f0 f0 ?_
              obtain rfl := sj hs
              exact hQ _ _ (rg f0 (Gh.refl _))
            · refine goG f0 f0 ?_
              obtain rfl := sj hs
              exact hQ _ _ (rg f0 (Gh.refl _))
end Go.Dc
end
section
set_option linter.all false
namespace Go.Dc.Pl
open Go Go.Hw Go.Dc
set_option maxRecDepth 100000
def hasB (op : Int) (c : UInt8) : Bool := (r07_has op c).getD false
theorem ops22 {op : Int} (h1 : 1 ≤ op) (h2 : op ≤ 22) : op ∈ (List.range 22).map fun n => ((n + 1 : Nat) : Int) := by
  simp only [List.mem_map, List.mem_range]; exact ⟨(op - 1).toNat, by omega, by omega⟩
/-- A row of the table of instructions and the letters of the same instruction. -/
def rowB (op : Int) : Bool := match getI rowsTab (IntKind.i64.wrap (op - 1)) with
  | none => false
  | some r => decide (r07_has op 65 = some (r.uses.f 0)) && decide (r07_has op 66 = some (r.uses.f 1)) && decide (r07_has op 67 = some (r.uses.f 2)) && decide (r07_has op 79 = some (r.uses.f 3)) && decide (r07_has op 78 = some (r.uses.f 4)) && decide (r07_has op 70 = some (r.uses.f 5)) && decide (r07_has op 82 = some (r.uses.f 6))
theorem rowsB : (((List.range 22).map fun n => ((n + 1 : Nat) : Int)).all rowB) = true := by kernel_rfl
theorem row_ex {op : Int} (h1 : 1 ≤ op) (h2 : op ≤ 22) : ∃ r : InstRow, getI rowsTab (IntKind.i64.wrap (op - 1)) = some r ∧ r07_has op 65 = some (r.uses.f 0) ∧ r07_has op 66 = some (r.uses.f 1) ∧ r07_has op 67 = some (r.uses.f 2) ∧
    r07_has op 79 = some (r.uses.f 3) ∧ r07_has op 78 = some (r.uses.f 4) ∧ r07_has op 70 = some (r.uses.f 5) ∧ r07_has op 82 = some (r.uses.f 6) := by
  have h := List.all_eq_true.1 rowsB op (ops22 h1 h2)
  rw [rowB] at h
  split at h
  · cases h
  · rename_i r hr; simp only [Bool.and_eq_true, decide_eq_true_eq] at h; obtain ⟨⟨⟨⟨⟨⟨a, b⟩, c⟩, d⟩, e⟩, f⟩, g⟩ := h; exact ⟨r, hr, a, b, c, d, e, f, g⟩
def noName (n : Int) : Bool := orB (ltI n 1) (ltI 10 n)
theorem ops10 {op : Int} (h1 : 1 ≤ op) (h2 : op ≤ 10) : op ∈ (List.range 10).map fun n => ((n + 1 : Nat) : Int) := by
  simp only [List.mem_map, List.mem_range]; exact ⟨(op - 1).toNat, by omega, by omega⟩
theorem names_some : (((List.range 10).map fun n => ((n + 1 : Nat) : Int)).all fun n => match value_Name n, r01_Name n with | some a, some b => a.size != 0 && b.size != 0 | _, _ => false) = true := by kernel_rfl
theorem eqS_data (a b : ByteArray) : eqS a b = (a.data.toList == b.data.toList) := by unfold eqS; rw [ByteArray.toList_eq, ByteArray.toList_eq]
theorem str_len (s : ByteArray) : s.size = s.data.toList.length := by rw [Array.length_toList]; rfl
theorem eqS_empty (a : ByteArray) : eqS a ⟨#[]⟩ = decide (a.size = 0) := by
  rw [eqS_data, str_len]
  cases h : a.data.toList with
  | nil => rfl
  | cons x l => rfl
theorem eqS_refl (a : ByteArray) : eqS a a = true := by simp [eqS]
theorem names_eq (n : Int) : ∃ a b, value_Name n = some a ∧ r01_Name n = some b ∧ eqS a ⟨#[]⟩ = noName n ∧ eqS b ⟨#[]⟩ = noName n := by
  by_cases h : 1 ≤ n ∧ n ≤ 10
  · have h2 := List.all_eq_true.1 names_some n (ops10 h.1 h.2)
    have h3 : noName n = false := by simp [noName, orB_d, ltI_d]; omega
    split at h2
    · rename_i a b ha hb
      simp at h2
      exact ⟨a, b, ha, hb, by rw [eqS_empty, h3]; simpa using h2.1, by rw [eqS_empty, h3]; simpa using h2.2⟩
    · cases h2
  · have h3 : noName n = true := by simp [noName, orB_d, ltI_d]; omega
    refine ⟨⟨#[]⟩, ⟨#[]⟩, ?_, ?_, by rw [h3, eqS_refl], by rw [h3, eqS_refl]⟩
    · rw [value_Name, show orB (ltI n 1) (ltI 10 n) = true from h3]; rfl
    · simp only [r01_Name, eqI_d]
      have h4 : n < 1 ∨ 10 < n := by omega
      simp [show n ≠ 1 by omega, show n ≠ 2 by omega, show n ≠ 3 by omega, show n ≠ 4 by omega, show n ≠ 5 by omega, show n ≠ 6 by omega, show n ≠ 7 by omega, show n ≠ 8 by omega, show n ≠ 9 by omega, show n ≠ 10 by omega]
theorem inst_L1 (r : InstRow) (y : Arr 7 Int) (fuel : Nat) : inst_Check_L1 r y (fuel + 8) 0 = some (toS (onlyIf (((List.range 7).zipIdx 0).any fun x => andB (!(r.uses.f x.2)) (!(eqI (y.f x.2) 0))) 9)) := by
  have h := srchI (L := inst_Check_L1 r y) (List.range 7) (fun k _ => onlyIf (andB (!(r.uses.f k)) (!(eqI (y.f k) 0))) 9) (fun q => by rw [inst_Check_L1]; rfl) (fun q k x hx => by
    have hk := getN_some hx
    rw [List.length_range] at hk
    rw [inst_Check_L1, ltI_d, show decide ((k : Int) < 7) = true by simp; omega, cond_true, show inB (k : Int) 7 = true by simp [inB_d]; omega, guardO_t, guardO_t, Int.toNat_natCast, wrapS (by omega)]
    exact step_only _ _ _) (fuel + 8) 0 (by simp) (by simp)
  rw [List.drop_zero, first_only (fun k (_ : Nat) => andB (!(r.uses.f k)) (!(eqI (y.f k) 0)))] at h
  exact h
theorem inst_L2 (a : Inst) (r : InstRow) (fuel : Nat) : inst_Check_L2 a r (fuel + 8) 0 = some (toS (onlyIf (((List.range 3).zipIdx 0).any fun x => andB (r.uses.f x.2) (orB (ltI ((Arr.of 3 [a.A, a.B, a.C] : Arr 3 Int).f x.2) 0) (!(ltI ((Arr.of 3 [a.A, a.B, a.C] : Arr 3 Int).f x.2) 8)))) 10)) := by
  have h := srchI (L := inst_Check_L2 a r) (List.range 3) (fun k _ => onlyIf (andB (r.uses.f k) (orB (ltI ((Arr.of 3 [a.A, a.B, a.C] : Arr 3 Int).f k) 0) (!(ltI ((Arr.of 3 [a.A, a.B, a.C] : Arr 3 Int).f k) 8)))) 10) (fun q => by rw [inst_Check_L2]; rfl) (fun q k x hx => by
    have hk := getN_some hx
    rw [List.length_range] at hk
    rw [inst_Check_L2, ltI_d, show decide ((k : Int) < 3) = true by simp; omega, cond_true, show inB (k : Int) 3 = true by simp [inB_d]; omega, show inB (k : Int) 7 = true by simp [inB_d]; omega, guardO_t, guardO_t, Int.toNat_natCast, wrapS (by omega)]
    exact step_only _ _ _) (fuel + 8) 0 (by simp) (by simp)
  rw [List.drop_zero, first_only (fun k (_ : Nat) => andB (r.uses.f k) (orB (ltI ((Arr.of 3 [a.A, a.B, a.C] : Arr 3 Int).f k) 0) (!(ltI ((Arr.of 3 [a.A, a.B, a.C] : Arr 3 Int).f k) 8)))) ] at h
  exact h
theorem orB_t (b : Bool) : orB b true = true := by cases b <;> rfl
theorem reg_eq {u : Bool} {n : Int} (h : andB (!u) (!eqI n 0) = false) : andB u (orB (ltI n 0) (!ltI n 8)) = !andB (!ltI n 0) (ltI n 8) := by
  cases u
  · have : n = 0 := by simpa [andB_d, eqI_d] using h
    subst this; decide
  · simp [andB_d, orB_d]
theorem ord_eq {u : Bool} {n : Int} (h : andB (!u) (!eqI n 0) = false) : andB u (orB (ltI n 0) (ltI 2 n)) = orB (ltI n 0) (ltI 2 n) := by
  cases u
  · have : n = 0 := by simpa [andB_d, eqI_d] using h
    subst this; decide
  · simp [andB_d, orB_d]
/-- What an instruction's check answers. -/
def icode (x : Inst) : Int := (r07_Check x).getD 0
theorem check_eq (fuel : Nat) (x : Inst) : inst_Check (fuel + 8) x = some (icode x) ∧ r07_Check x = some (icode x) := by
  suffices h : ∃ r, inst_Check (fuel + 8) x = some r ∧ r07_Check x = some r by obtain ⟨r, a, b⟩ := h; rw [icode, b]; exact ⟨a, rfl⟩
  by_cases hop : 1 ≤ x.Op ∧ x.Op ≤ 22
  · obtain ⟨r, hr, h0, h1, h2, h3, h4, h5, h6⟩ := row_ex hop.1 hop.2
    obtain ⟨na, nb, hna, hnb, hea, heb⟩ := names_eq x.Fn
    simp only [inst_Check, inst_known, r07_Check, Option.bind_some, hr, h0, h1, h2, h3, h4, h5, h6, hna, hnb, Option.getD_some, Option.isSome_some, hea, heb, r07_register]
    rw [show (andB (!(ltI x.Op 1)) (!(ltI 22 x.Op))) = true by simp [andB_d, ltI_d]; omega, show orB (ltI x.Op 1) (ltI 22 x.Op) = false by simp [orB_d, ltI_d]; omega]
    simp only [inst_values, Option.bind_some, Bool.not_true, cond_false, inst_L1, inst_L2]
    simp only [show (List.range 7).zipIdx 0 = [(0, 0), (1, 1), (2, 2), (3, 3), (4, 4), (5, 5), (6, 6)] from rfl, show (List.range 3).zipIdx 0 = [(0, 0), (1, 1), (2, 2)] from rfl, List.any_cons, List.any_nil, arr_of_f, List.getD_cons_zero, List.getD_cons_succ, Bool.or_false]
    generalize r.uses.f 0 = u0, r.uses.f 1 = u1, r.uses.f 2 = u2, r.uses.f 3 = u3, r.uses.f 4 = u4, r.uses.f 5 = u5, r.uses.f 6 = u6
    simp only [orB_t, guardO_t]
    have p1 : ∀ a b c d e f g : Bool, (a || (b || (c || (d || (e || (f || g)))))) = orB (orB (orB (orB (orB (orB a b) c) d) e) f) g := by decide
    have p2 : ∀ a b c : Bool, (a || (b || c)) = orB (orB a b) c := by decide
    rw [p1, p2]
    cases ha : orB (orB (orB (orB (orB (orB (andB (!u0) (!eqI x.A 0)) (andB (!u1) (!eqI x.B 0))) (andB (!u2) (!eqI x.C 0))) (andB (!u3) (!eqI x.Obj 0))) (andB (!u4) (!eqI x.N 0))) (andB (!u5) (!eqI x.Fn 0))) (andB (!u6) (!eqI x.Order 0))
    · simp only [orB_d, Bool.or_eq_false_iff] at ha
      obtain ⟨⟨⟨⟨⟨⟨a0, a1⟩, a2⟩, _⟩, _⟩, _⟩, a6⟩ := ha
      rw [reg_eq a0, reg_eq a1, reg_eq a2, ord_eq a6]
      cases orB (orB (!andB (!ltI x.A 0) (ltI x.A 8)) (!andB (!ltI x.B 0) (ltI x.B 8))) (!andB (!ltI x.C 0) (ltI x.C 8))
      · cases orB (ltI x.Order 0) (ltI 2 x.Order)
        · cases andB u5 (noName x.Fn)
          · cases andB (eqI x.Op 1) (orB (ltI x.N (-2147483648)) (ltI 2147483647 x.N))
            · exact ⟨_, rfl, rfl⟩
            · exact ⟨_, rfl, rfl⟩
          · exact ⟨_, rfl, rfl⟩
        · exact ⟨_, rfl, rfl⟩
      · exact ⟨_, rfl, rfl⟩
    · exact ⟨_, rfl, rfl⟩
  · refine ⟨8, ?_, ?_⟩
    · rw [inst_Check, inst_known, show (andB (!(ltI x.Op 1)) (!(ltI 22 x.Op))) = false by simp [andB_d, ltI_d]; omega]; rfl
    · rw [r07_Check, show orB (ltI x.Op 1) (ltI 22 x.Op) = true by simp [orB_d, ltI_d]; omega]; rfl
end Go.Dc.Pl
end
section
set_option linter.all false
namespace Go.Dc
open Go Go.Hw Go.Proofs
set_option maxRecDepth 100000

def program_value (a0 : Int) : Option Bool :=
  some (andB (!(ltI a0 (-2147483648))) (!(ltI 2147483647 a0)))

set_option maxHeartbeats 2000000 in
theorem at_program_value {a0 : Int} {r : Bool} (hs : program_value a0 = some r) : At Tryd.prog 113 [iV .i64 a0] (bV r) := by
  refine at_bound (by kernel_rfl) fun hb => ?_
  refine at_code mixed Tryd.func113 (by kernel_rfl) rfl (by kernel_rfl) rfl fun Q hQ => ?_
  rw [program_value] at hs
  refine goG f0 f0 ?_
  obtain rfl := sj hs
  exact hQ _ _ (rg f0 (Gh.refl _))
end Go.Dc
end
section
set_option linter.all false
namespace Go.Dc
open Go Go.Hw Go.Proofs
set_option maxRecDepth 100000
def program_checkObjects_L1 : List Var → Nat → Option (Unit ⊕ (Int × ProgramPlace))
  | [], k47 => some (.inl ())
  | x65 :: q61, k47 => Option.bind (program_value x65.Init) (fun y68 => cond (!y68) (some (.inr (2, ({ fn := (-1), inst := (-1) } : ProgramPlace)))) (program_checkObjects_L1 q61 (k47 + 1)))

def program_checkObjects (a0 : Program) : Option (Int × ProgramPlace) :=
  cond (orB (orB (orB (ltI 8 ((a0.Vars.length : Nat) : Int)) (ltI 4 ((a0.Mutexes.length : Nat) : Int))) (ltI 4 ((a0.Conds.length : Nat) : Int))) (ltI 8 ((a0.Funcs.length : Nat) : Int))) (some (4, ({ fn := (-1), inst := (-1) } : ProgramPlace))) (Option.bind (α := Unit ⊕ (Int × ProgramPlace)) (Option.bind (program_checkObjects_L1 a0.Vars 0) (fun o => match o with | .inl _ => some (.inl ()) | .inr r71 => some (.inr r71))) (fun o => match o with | .inl _ => some (0, ({ fn := (-1), inst := (-1) } : ProgramPlace)) | .inr r72 => some r72))

set_option maxHeartbeats 2000000 in
theorem at_program_checkObjects {a0 : Program} {r : Int × ProgramPlace} (hs : program_checkObjects a0 = some r) : At Tryd.prog 84 [.agg (eA a0)] (.tup [iV .i64 r.1, .agg (eA r.2)]) := by
  refine at_bound (by kernel_rfl) fun hb => ?_
  have hb1 : LenOk (.sl a0.Vars.length (encL a0.Vars)) := lkc hb
  have hb2 : LenOk (.sl a0.Mutexes.length (encL a0.Mutexes)) := lkc hb
  have hb3 : LenOk (.sl a0.Conds.length (encL a0.Conds)) := lkc hb
  have hb4 : LenOk (.sl a0.Funcs.length (encL a0.Funcs)) := lkc hb
  have hb5 : LenOk (.sl a0.Threads.length (encL a0.Threads)) := lkc hb
  refine at_code mixed Tryd.func84 (by kernel_rfl) rfl (by kernel_rfl) rfl fun Q hQ => ?_
  rw [program_checkObjects] at hs
  refine goG f0 f0 ?_
  revert hs; refine cS f0 ?_ ?_ <;> intro h1 hs
  · refine goE f0 f0 ?_
    obtain rfl := sj hs
    exact hQ _ _ (rg f0 (Gh.refl _))
  · refine goG2 f0 f0 ?_
    revert hs; refine bK fun o36 e35 hs => ?_
    refine awp_cutK (fun (v : Unit) (σ : St) => some (.inl v) = some o36 ∧ σ.env 3 = .cell (.ref (.o 1 2 0) 0) ∧ σ.env 4 = .cell (.ref (.o 2 1 0) 0) ∧ σ.hp (.o 1 2 0) = some (.cells [nC 0, nC 0]) ∧ σ.hp (.o 2 1 0) = some (.cells [nC (-1), nC (-1)]) ∧ 4 ≤ σ.gen) (by rfl) (fun Q hK37 hX38 => ?_) (fun v σ3 hp => ?_)
    · refine goG f0 f0 ?_
      revert e35; refine bK fun o56 e55 e35 => ?_
      refine awp_loopW (fun (v : (List Var) × Nat) (σ : St) => program_checkObjects_L1 v.1 v.2 = some o56 ∧ v.1 = a0.Vars.drop v.2 ∧ σ.env 3 = .cell (.ref (.o 1 2 0) 0) ∧ σ.env 4 = .cell (.ref (.o 2 1 0) 0) ∧ σ.env 32 = .cell (sC a0.Vars) ∧ σ.env 33 = iV .i64 ((a0.Vars.length : Nat) : Int) ∧ σ.env 34 = iV .i64 ((v.2 : Nat) : Int) ∧ σ.hp (.o 1 2 0) = some (.cells [nC 0, nC 0]) ∧ σ.hp (.o 2 1 0) = some (.cells [nC (-1), nC (-1)]) ∧ 4 ≤ σ.gen) (fun v => v.1.length) _ (Gh.refl _) (a0.Vars, 0) ⟨e55, by simp, pv f0, pv f0, pv f0, pv f0, pv f0, pv f0, pv f0, pg⟩ fun v σ6 hp L57 hL58 => ?_
      obtain ⟨q60, k47⟩ := v
      dsimp only at hp hL58
      obtain ⟨e55, hd59, h5_3, h5_4, h5_32, h5_33, h5_34, g5_0, g5_1, n5_g⟩ := hp
      have n5_0 : ¬ (σ6.gen = 0) := by omega
      have n5_1 : ¬ (σ6.gen = 1) := by omega
      rcases q60 with _ | ⟨x65, q61⟩
      · have hlt62 := drop_end hd59
        rw [program_checkObjects_L1] at e55; try dsimp only at e55
        have F1 := an h5_3 (an h5_4 (an h5_32 (an h5_33 (an h5_34 (an g5_0 (an g5_1 (an n5_0 n5_1)))))))
        refine goR F1 ?_
        refine condK_f (by simp [ltI]; omega) ?_
        obtain rfl := sj e55
        try dsimp only at e35
        exact hK37 () _ _ (Gh.refl _) ⟨e35, pv F1, pv F1, pv F1, pv F1, pg⟩
      · obtain ⟨hx64, hlt62, hd66⟩ := drop_next hd59
        have ew63 := wrap_succ hlt62 (hb1).len
        rw [program_checkObjects_L1] at e55; try dsimp only at e55
        have F2 := an h5_3 (an h5_4 (an h5_32 (an h5_33 (an h5_34 (an g5_0 (an g5_1 (an n5_0 (an n5_1 (an hlt62 ew63)))))))))
        refine goR F2 ?_
        refine condK_t (by simp [ltI]; omega) ?_
        have f67 : partCV Tryd.prog 105 (encL a0.Vars) (k47 * 2) = some (.agg (eA x65)) := partCV_enc hx64 (f := 0) (by simp)
        have F3 := an F2 f67
        refine goR F3 ?_
        revert e55; refine bK fun y68 hx69 e55 => ?_
        refine cP F3 (at_program_value hx69) ?_
        refine goR F3 ?_
        revert e55; refine cS F3 ?_ ?_ <;> intro h70 e55
        · refine goD F3 ?_
          obtain rfl := sj e55
          try dsimp only at e35
          obtain rfl := sj e35
          try dsimp only at hs
          refine hX38 _ _ (by simp) ?_
          refine goD F3 ?_
          obtain rfl := sj hs
          exact hQ _ _ (rg F3 (Gh.refl _))
        · refine goR F3 ?_
          exact hL58 (q61, (k47 + 1)) _ _ (Gh.refl _) ⟨e55, hd66, pv F3, pv F3, pv F3, pv F3, pv F3, pv F3, pv F3, pg⟩ (by simp)
    · obtain ⟨e35, h4_3, h4_4, g4_0, g4_1, n4_g⟩ := hp
      obtain rfl := sj e35
      try dsimp only at hs
      have n4_0 : ¬ (σ3.gen = 0) := by omega
      have n4_1 : ¬ (σ3.gen = 1) := by omega
      have F4 := an h4_3 (an h4_4 (an g4_0 (an g4_1 (an n4_0 n4_1))))
      refine goE F4 F4 ?_
      obtain rfl := sj hs
      exact hQ _ _ (rg F4 (Gh.refl _))
end Go.Dc
end
section
set_option linter.all false
namespace Go.Dc
open Go Go.Hw Go.Proofs
set_option maxRecDepth 100000

def program_checkCode_1 (a0 : Func) : Option Bool :=
  some (ltI 64 ((a0.Code.length : Nat) : Int))

set_option maxHeartbeats 2000000 in
theorem at_program_checkCode_1 {a0 : Func} {r : Bool} (hs : program_checkCode_1 a0 = some r) : At Tryd.prog 115 [.agg (eA a0)] (bV r) := by
  refine at_bound (by kernel_rfl) fun hb => ?_
  have hb1 : LenOk (.sl a0.Code.length (encL a0.Code)) := lkc hb
  refine at_code mixed Tryd.func115 (by kernel_rfl) rfl (by kernel_rfl) rfl fun Q hQ => ?_
  rw [program_checkCode_1] at hs
  refine goR f0 ?_
  obtain rfl := sj hs
  exact hQ _ _ (rg f0 (Gh.refl _))
end Go.Dc
end
section
set_option linter.all false
namespace Go.Dc
open Go Go.Hw Go.Proofs
set_option maxRecDepth 100000
def slices_IndexFunc_api_Func_program_checkCode_1_L1 : List Func → Nat → Option (Unit ⊕ Int)
  | [], k46 => some (.inl ())
  | x64 :: q60, k46 => Option.bind (program_checkCode_1 x64) (fun y67 => cond y67 (some (.inr ((k46 : Nat) : Int))) (slices_IndexFunc_api_Func_program_checkCode_1_L1 q60 (k46 + 1)))

def slices_IndexFunc_api_Func_program_checkCode_1 (a0 : List Func) : Option Int :=
  Option.bind (α := Unit ⊕ Int) (Option.bind (slices_IndexFunc_api_Func_program_checkCode_1_L1 a0 0) (fun o => match o with | .inl _ => some (.inl ()) | .inr r70 => some (.inr r70))) (fun o => match o with | .inl _ => some (-1) | .inr r71 => some r71)

set_option maxHeartbeats 2000000 in
theorem at_slices_IndexFunc_api_Func_program_checkCode_1 {a0 : List Func} {r : Int} (hs : slices_IndexFunc_api_Func_program_checkCode_1 a0 = some r) : At Tryd.prog 114 [.cell (sC a0), .cell (.p (.c (.func (.func 115) #[] #[])))] (iV .i64 r) := by
  refine at_bound (by kernel_rfl) fun hb => ?_
  have hb1 : LenOk (.sl a0.length (encL a0)) := lkc hb
  refine at_code mixed Tryd.func114 (by kernel_rfl) rfl (by kernel_rfl) rfl fun Q hQ => ?_
  rw [slices_IndexFunc_api_Func_program_checkCode_1] at hs
  refine goR2 f0 ?_
  revert hs; refine bK fun o35 e34 hs => ?_
  refine awp_cutK (fun (v : Unit) (σ : St) => some (.inl v) = some o35 ∧ 2 ≤ σ.gen) (by rfl) (fun Q hK36 hX37 => ?_) (fun v σ3 hp => ?_)
  · refine goR f0 ?_
    revert e34; refine bK fun o55 e54 e34 => ?_
    refine awp_loopW (fun (v : (List Func) × Nat) (σ : St) => slices_IndexFunc_api_Func_program_checkCode_1_L1 v.1 v.2 = some o55 ∧ v.1 = a0.drop v.2 ∧ σ.env 0 = .cell (sC a0) ∧ σ.env 1 = .cell (.p (.c (.func (.func 115) #[] #[]))) ∧ σ.env 7 = iV .i64 ((a0.length : Nat) : Int) ∧ σ.env 8 = iV .i64 ((v.2 : Nat) : Int) ∧ 2 ≤ σ.gen) (fun v => v.1.length) _ (Gh.refl _) (a0, 0) ⟨e54, by simp, pv f0, pv f0, pv f0, pv f0, pg⟩ fun v σ6 hp L56 hL57 => ?_
    obtain ⟨q59, k46⟩ := v
    dsimp only at hp hL57
    obtain ⟨e54, hd58, h5_0, h5_1, h5_7, h5_8, n5_g⟩ := hp
    rcases q59 with _ | ⟨x64, q60⟩
    · have hlt61 := drop_end hd58
      rw [slices_IndexFunc_api_Func_program_checkCode_1_L1] at e54; try dsimp only at e54
      have F1 := an h5_0 (an h5_1 (an h5_7 h5_8))
      refine goR F1 ?_
      refine condK_f (by simp [ltI]; omega) ?_
      obtain rfl := sj e54
      try dsimp only at e34
      exact hK36 () _ _ (Gh.refl _) ⟨e34, pg⟩
    · obtain ⟨hx63, hlt61, hd65⟩ := drop_next hd58
      have ew62 := wrap_succ hlt61 (hb1).len
      rw [slices_IndexFunc_api_Func_program_checkCode_1_L1] at e54; try dsimp only at e54
      have F2 := an h5_0 (an h5_1 (an h5_7 (an h5_8 (an hlt61 ew62))))
      refine goR F2 ?_
      refine condK_t (by simp [ltI]; omega) ?_
      have f66 : partCV Tryd.prog 24 (encL a0) (k46 * 2) = some (.agg (eA x64)) := partCV_enc hx63 (f := 0) (by simp)
      have F3 := an F2 f66
      refine goR F3 ?_
      revert e54; refine bK fun y67 hx68 e54 => ?_
      refine cP F3 (at_program_checkCode_1 hx68) ?_
      refine goR F3 ?_
      revert e54; refine cS F3 ?_ ?_ <;> intro h69 e54
      · refine goR F3 ?_
        obtain rfl := sj e54
        try dsimp only at e34
        obtain rfl := sj e34
        try dsimp only at hs
        refine hX37 _ _ (by simp) ?_
        refine goR F3 ?_
        obtain rfl := sj hs
        exact hQ _ _ (rg F3 (Gh.refl _))
      · refine goR F3 ?_
        exact hL57 (q60, (k46 + 1)) _ _ (Gh.refl _) ⟨e54, hd65, pv F3, pv F3, pv F3, pv F3, pg⟩ (by simp)
  · obtain ⟨e34, n4_g⟩ := hp
    obtain rfl := sj e34
    try dsimp only at hs
    refine goR f0 ?_
    obtain rfl := sj hs
    exact hQ _ _ (rg f0 (Gh.refl _))
end Go.Dc
end
section
set_option linter.all false
namespace Go.Dc
open Go Go.Hw Go.Proofs
set_option maxRecDepth 100000

def program_instructions (a0 : Program) : Option Program :=
  some a0

set_option maxHeartbeats 2000000 in
theorem at_program_instructions {a0 : Program} {r : Program} (hs : program_instructions a0 = some r) : At Tryd.prog 116 [.agg (eA a0)] (.cell (.fn 123 [.inr (.bx [.sl r.Vars.length (encL r.Vars), .sl r.Mutexes.length (encL r.Mutexes), .sl r.Conds.length (encL r.Conds), .sl r.Funcs.length (encL r.Funcs), .sl r.Threads.length (encL r.Threads)])])) := by
  refine at_bound (by kernel_rfl) fun hb => ?_
  have hb1 : LenOk (.sl a0.Vars.length (encL a0.Vars)) := lkc hb
  have hb2 : LenOk (.sl a0.Mutexes.length (encL a0.Mutexes)) := lkc hb
  have hb3 : LenOk (.sl a0.Conds.length (encL a0.Conds)) := lkc hb
  have hb4 : LenOk (.sl a0.Funcs.length (encL a0.Funcs)) := lkc hb
  have hb5 : LenOk (.sl a0.Threads.length (encL a0.Threads)) := lkc hb
  refine at_code mixed Tryd.func116 (by kernel_rfl) rfl (by kernel_rfl) rfl fun Q hQ => ?_
  rw [program_instructions] at hs
  refine goR f0 ?_
  obtain rfl := sj hs
  exact hQ _ _ (rg f0 (Gh.frz _ (.o 1 0 0)))
end Go.Dc
end
section
set_option linter.all false
namespace Go.Dc
open Go Go.Hw Go.Proofs
set_option maxRecDepth 100000

def program_objects (a0 : Program) (a1 : Int) : Option Int :=
  Option.bind (α := Unit ⊕ Int) (Option.bind (α := Bool) (cond (eqI a1 8) (some (eqI a1 8)) (cond (eqI a1 9) (some (eqI a1 9)) (cond (eqI a1 10) (some (eqI a1 10)) (cond (eqI a1 11) (some (eqI a1 11)) (cond (eqI a1 12) (some (eqI a1 12)) (some (eqI a1 14))))))) (fun b40 => cond b40 (some (.inr ((a0.Vars.length : Nat) : Int))) (Option.bind (α := Bool) (cond (eqI a1 15) (some (eqI a1 15)) (cond (eqI a1 16) (some (eqI a1 16)) (some (eqI a1 17)))) (fun b53 => cond b53 (some (.inr ((a0.Mutexes.length : Nat) : Int))) (cond (eqI a1 18) (some (.inr ((a0.Conds.length : Nat) : Int))) (cond (eqI a1 19) (some (.inr ((a0.Conds.length : Nat) : Int))) (cond (eqI a1 20) (some (.inr ((a0.Conds.length : Nat) : Int))) (cond (eqI a1 21) (some (.inr ((a0.Funcs.length : Nat) : Int))) (some (.inl ())))))))))) (fun o => match o with | .inl _ => some (-1) | .inr r65 => some r65)

set_option maxHeartbeats 2000000 in
theorem at_program_objects {a0 : Program} {a1 : Int} {r : Int} (hs : program_objects a0 a1 = some r) : At Tryd.prog 124 [.agg (eA a0), iV .i64 a1] (iV .i64 r) := by
  refine at_bound (by kernel_rfl) fun hb => ?_
  have hb1 : LenOk (.sl a0.Vars.length (encL a0.Vars)) := lkc hb
  have hb2 : LenOk (.sl a0.Mutexes.length (encL a0.Mutexes)) := lkc hb
  have hb3 : LenOk (.sl a0.Conds.length (encL a0.Conds)) := lkc hb
  have hb4 : LenOk (.sl a0.Funcs.length (encL a0.Funcs)) := lkc hb
  have hb5 : LenOk (.sl a0.Threads.length (encL a0.Threads)) := lkc hb
  refine at_code mixed Tryd.func124 (by kernel_rfl) rfl (by kernel_rfl) rfl fun Q hQ => ?_
  rw [program_objects] at hs
  refine goR2 f0 ?_
  revert hs; refine bK fun o32 e31 hs => ?_
  refine awp_cutK (fun (v : Unit) (σ : St) => some (.inl v) = some o32 ∧ 2 ≤ σ.gen) (by rfl) (fun Q hK33 hX34 => ?_) (fun v σ5 hp => ?_)
  · refine goR2 f0 ?_
    refine awp_block ?_
    refine goR2 f0 ?_
    revert e31; refine bK fun o42 e41 e31 => ?_
    refine awp_cut0 (fun (v : Bool) (σ : St) => some (v) = some o42 ∧ σ.env 2 = .cell (.ref (.o 1 0 0) 0) ∧ σ.env 5 = iV .i64 a1 ∧ σ.env 6 = bV v ∧ σ.hp (.o 1 0 0) = some (.cells (eA a0)) ∧ 3 ≤ σ.gen) (fun Q hK43 hX44 => ?_) (fun b40 σ7 hp => ?_)
    · refine goR f0 ?_
      revert e41; refine cS f0 ?_ ?_ <;> intro h45 e41
      · refine goR f0 ?_
        exact hK43 (eqI a1 8) _ ⟨e41, pv f0, pv f0, pv f0, pv f0, pg⟩
      · refine goR f0 ?_
        revert e41; refine cS f0 ?_ ?_ <;> intro h46 e41
        · refine goR f0 ?_
          exact hK43 (eqI a1 9) _ ⟨e41, pv f0, pv f0, pv f0, pv f0, pg⟩
        · refine goR f0 ?_
          revert e41; refine cS f0 ?_ ?_ <;> intro h47 e41
          · refine goR f0 ?_
            exact hK43 (eqI a1 10) _ ⟨e41, pv f0, pv f0, pv f0, pv f0, pg⟩
          · refine goR f0 ?_
            revert e41; refine cS f0 ?_ ?_ <;> intro h48 e41
            · refine goR f0 ?_
              exact hK43 (eqI a1 11) _ ⟨e41, pv f0, pv f0, pv f0, pv f0, pg⟩
            · refine goR f0 ?_
              revert e41; refine cS f0 ?_ ?_ <;> intro h49 e41
              · refine goR f0 ?_
                exact hK43 (eqI a1 12) _ ⟨e41, pv f0, pv f0, pv f0, pv f0, pg⟩
              · refine goR f0 ?_
                exact hK43 (eqI a1 14) _ ⟨e41, pv f0, pv f0, pv f0, pv f0, pg⟩
    · obtain ⟨e41, h8_2, h8_5, h8_6, g8_0, n8_g⟩ := hp
      obtain rfl := sj e41
      try dsimp only at e31
      have n8_0 : ¬ (σ7.gen = 0) := by omega
      have F1 := an h8_2 (an h8_5 (an h8_6 (an g8_0 n8_0)))
      refine goR F1 ?_
      revert e31; refine cS F1 ?_ ?_ <;> intro h50 e31
      · refine goR F1 ?_
        obtain rfl := sj e31
        try dsimp only at hs
        refine hX34 _ _ (by simp) ?_
        refine goR F1 ?_
        obtain rfl := sj hs
        exact hQ _ _ (rg F1 (Gh.refl _))
      · refine goR2 F1 ?_
        revert e31; refine bK fun o55 e54 e31 => ?_
        refine awp_cut0 (fun (v : Bool) (σ : St) => some (v) = some o55 ∧ σ.env 2 = .cell (.ref (.o 1 0 0) 0) ∧ σ.env 5 = iV .i64 a1 ∧ σ.env 16 = bV v ∧ σ.hp (.o 1 0 0) = some (.cells (eA a0)) ∧ (σ7.gen + 1) ≤ σ.gen) (fun Q hK56 hX57 => ?_) (fun b53 σ9 hp => ?_)
        · refine goR F1 ?_
          revert e54; refine cS F1 ?_ ?_ <;> intro h58 e54
          · refine goR F1 ?_
            exact hK56 (eqI a1 15) _ ⟨e54, pv F1, pv F1, pv F1, pv F1, pg⟩
          · refine goR F1 ?_
            revert e54; refine cS F1 ?_ ?_ <;> intro h59 e54
            · refine goR F1 ?_
              exact hK56 (eqI a1 16) _ ⟨e54, pv F1, pv F1, pv F1, pv F1, pg⟩
            · refine goR F1 ?_
              exact hK56 (eqI a1 17) _ ⟨e54, pv F1, pv F1, pv F1, pv F1, pg⟩
        · obtain ⟨e54, h10_2, h10_5, h10_16, g10_0, n10_g⟩ := hp
          obtain rfl := sj e54
          try dsimp only at e31
          have n10_0 : ¬ (σ9.gen = 0) := by omega
          have F2 := an h10_2 (an h10_5 (an h10_16 (an g10_0 n10_0)))
          refine goR F2 ?_
          revert e31; refine cS F2 ?_ ?_ <;> intro h60 e31
          · refine goR F2 ?_
            obtain rfl := sj e31
            try dsimp only at hs
            refine hX34 _ _ (by simp) ?_
            refine goR F2 ?_
            obtain rfl := sj hs
            exact hQ _ _ (rg F2 (Gh.refl _))
          · refine goR F2 ?_
            revert e31; refine cS F2 ?_ ?_ <;> intro h61 e31
            · refine goR F2 ?_
              refine condK_t (by first | exact h61 | simpa using h61) ?_
              refine goR F2 ?_
              obtain rfl := sj e31
              try dsimp only at hs
              refine hX34 _ _ (by simp) ?_
              refine goR F2 ?_
              obtain rfl := sj hs
              exact hQ _ _ (rg F2 (Gh.refl _))
            · refine goR F2 ?_
              revert e31; refine cS F2 ?_ ?_ <;> intro h62 e31
              · refine goR F2 ?_
                refine condK_t (by first | exact h62 | simpa using h62) ?_
                refine goR F2 ?_
                obtain rfl := sj e31
                try dsimp only at hs
                refine hX34 _ _ (by simp) ?_
                refine goR F2 ?_
                obtain rfl := sj hs
                exact hQ _ _ (rg F2 (Gh.refl _))
              · refine goR F2 ?_
                revert e31; refine cS F2 ?_ ?_ <;> intro h63 e31
                · refine goR F2 ?_
                  obtain rfl := sj e31
                  try dsimp only at hs
                  refine hX34 _ _ (by simp) ?_
                  refine goR F2 ?_
                  obtain rfl := sj hs
                  exact hQ _ _ (rg F2 (Gh.refl _))
                · refine goR F2 ?_
                  revert e31; refine cS F2 ?_ ?_ <;> intro h64 e31
                  · refine goR F2 ?_
                    obtain rfl := sj e31
                    try dsimp only at hs
                    refine hX34 _ _ (by simp) ?_
                    refine goR F2 ?_
                    obtain rfl := sj hs
                    exact hQ _ _ (rg F2 (Gh.refl _))
                  · refine goR F2 ?_
                    exact hK33 () _ _ (Gh.refl _) ⟨e31, pg⟩
  · obtain ⟨e31, n6_g⟩ := hp
    obtain rfl := sj e31
    try dsimp only at hs
    refine goR f0 ?_
    obtain rfl := sj hs
    exact hQ _ _ (rg f0 (Gh.refl _))
end Go.Dc
end
section
set_option linter.all false
namespace Go.Dc
open Go Go.Hw Go.Proofs
set_option maxRecDepth 100000

def program_checkInst (fuelN : Nat) (a0 : Program) (a1 : Inst) (a2 : Int) : Option Int :=
  Option.bind (inst_Check fuelN a1) (fun y1 => cond (!(eqI y1 0)) (some y1) (Option.bind (program_objects a0 a1.Op) (fun y4 => cond (andB (!(ltI y4 0)) (orB (ltI a1.Obj 0) (!(ltI a1.Obj y4)))) (some 11) (cond (andB (eqI a1.Op 18) (orB (ltI a1.N 0) (!(ltI a1.N ((a0.Mutexes.length : Nat) : Int))))) (some 11) (cond (andB (orB (eqI a1.Op 4) (eqI a1.Op 5)) (orB (ltI a1.N 0) (ltI a2 a1.N))) (some 12) (some 0))))))

set_option maxHeartbeats 2000000 in
theorem at_program_checkInst {fuelN : Nat} {a0 : Program} {a1 : Inst} {a2 : Int} {r : Int} (hs : program_checkInst fuelN a0 a1 a2 = some r) : At Tryd.prog 117 [.agg (eA a0), .agg (eA a1), iV .i64 a2] (iV .i64 r) := by
  refine at_bound (by kernel_rfl) fun hb => ?_
  have hb1 : LenOk (.sl a0.Vars.length (encL a0.Vars)) := lkc hb
  have hb2 : LenOk (.sl a0.Mutexes.length (encL a0.Mutexes)) := lkc hb
  have hb3 : LenOk (.sl a0.Conds.length (encL a0.Conds)) := lkc hb
  have hb4 : LenOk (.sl a0.Funcs.length (encL a0.Funcs)) := lkc hb
  have hb5 : LenOk (.sl a0.Threads.length (encL a0.Threads)) := lkc hb
  refine at_code mixed Tryd.func117 (by kernel_rfl) rfl (by kernel_rfl) rfl fun Q hQ => ?_
  rw [program_checkInst] at hs
  refine goR f0 ?_
  revert hs; refine bK fun y1 hx2 hs => ?_
  refine cP f0 (at_inst_Check hx2) ?_
  refine goR f0 ?_
  revert hs; refine cS f0 ?_ ?_ <;> intro h3 hs
  · refine goR f0 ?_
    obtain rfl := sj hs
    exact hQ _ _ (rg f0 (Gh.refl _))
  · refine goR f0 ?_
    revert hs; refine bK fun y4 hx5 hs => ?_
    refine cP f0 (at_program_objects hx5) ?_
    refine goG f0 f0 ?_
    revert hs; refine cS f0 ?_ ?_ <;> intro h6 hs
    · refine goG f0 f0 ?_
      obtain rfl := sj hs
      exact hQ _ _ (rg f0 (Gh.refl _))
    · refine goG f0 f0 ?_
      revert hs; refine cS f0 ?_ ?_ <;> intro h7 hs
      · refine goG f0 f0 ?_
        obtain rfl := sj hs
        exact hQ _ _ (rg f0 (Gh.refl _))
      · refine goG f0 f0 ?_
        revert hs; refine cS f0 ?_ ?_ <;> intro h8 hs
        · refine goG f0 f0 ?_
          obtain rfl := sj hs
          exact hQ _ _ (rg f0 (Gh.refl _))
        · refine goG f0 f0 ?_
          obtain rfl := sj hs
          exact hQ _ _ (rg f0 (Gh.refl _))
end Go.Dc
end
section
set_option linter.all false
namespace Go.Dc
open Go Go.Hw Go.Proofs
set_option maxRecDepth 100000
def insC (a : Nat) : Nat → List Inst → List (ProgramPlace × Inst)
  | _, [] => []
  | b, i :: r => (⟨(a : Int), (b : Int)⟩, i) :: insC a (b + 1) r
def insF : Nat → List Func → List (ProgramPlace × Inst)
  | _, [] => []
  | a, f :: r => insC a 0 f.Code ++ insF (a + 1) r
def it_instructions (p : Program) : Option (List (ProgramPlace × Inst)) :=
  guardO (lenB p.Funcs.length && p.Funcs.all fun f => lenB f.Code.length) (some (insF 0 p.Funcs))
abbrev insEv : ProgramPlace × Inst → List EV := fun y => ([.agg [.c (.int .i64 y.1.fn), .c (.int .i64 y.1.inst)], .agg [.c (.int .i64 y.2.Op), .c (.int .i64 y.2.A), .c (.int .i64 y.2.B), .c (.int .i64 y.2.C), .c (.int .i64 y.2.Obj), .c (.int .i64 y.2.N), .c (.int .i64 y.2.Fn), .c (.int .i64 y.2.Order)]] : List EV)
set_option maxHeartbeats 2000000 in
theorem seq_instructions {p : Program} {xs : List (ProgramPlace × Inst)} (h : it_instructions p = some xs) : SeqAt Tryd.prog 123 [.cell (.p (.bx [.sl p.Vars.length (encL p.Vars), .sl p.Mutexes.length (encL p.Mutexes), .sl p.Conds.length (encL p.Conds), .sl p.Funcs.length (encL p.Funcs), .sl p.Threads.length (encL p.Threads)]))] (xs.map insEv) := by
  obtain ⟨g, h⟩ := guardO_some h
  obtain rfl := Option.some.inj h
  simp only [Bool.and_eq_true, List.all_eq_true] at g
  obtain ⟨g1, g2⟩ := g
  refine seq_unbx (by simp; rfl) ?_
  refine seq_code mixed Tryd.func123 (by kernel_rfl) rfl (by kernel_rfl) rfl fun ℓ Q hQ => ?_
  repeat (first | simp | with_reducible refine awp_reg ?_)
  refine awp_loopW (fun (v : Nat × Nat) (σ : St) => v.1 ≤ p.Funcs.length ∧ (insF 0 p.Funcs).drop v.2 = insF v.1 (p.Funcs.drop v.1) ∧ v.2 ≤ (insF 0 p.Funcs).length ∧ σ.env 10 = iV .i64 (v.1 : Nat) ∧ σ.env 8 = .cell (.p (.sl p.Funcs.length (encL p.Funcs))) ∧ σ.env 9 = iV .i64 p.Funcs.length ∧ σ.env 0 = .cell (.yl ℓ) ∧ σ.acc = some ⟨ℓ, (insF 0 p.Funcs).map insEv, v.2, true⟩) (fun v => p.Funcs.length - v.1) _ (Gh.refl _) (0, 0) ⟨by simp, by simp, by simp, by simp, by simp, by simp, by simp, by simp⟩ fun v σ hp L hL => ?_
  obtain ⟨a, n⟩ := v
  dsimp only at hp hL
  obtain ⟨ha, hn, hnl, h10, h8, h9, h0, hacc⟩ := hp
  repeat (first | simp [h10, h8, h9, h0, hacc] | with_reducible refine awp_reg ?_)
  by_cases hlt : a < p.Funcs.length
  · refine condK_t (by simp [ltI]; omega) ?_
    have hx := List.getElem?_eq_getElem hlt
    have ew := wrap_succG hlt g1
    have hcl := g2 _ (List.getElem_mem hlt)
    rw [List.drop_eq_getElem_cons hlt] at hn
    generalize p.Funcs[a] = f at *
    have f1 : partCV Tryd.prog 24 (encL p.Funcs) (a * 2) = some (.agg [.p (.c (.string f.Name)), .p (.sl f.Code.length (encL f.Code))]) := partCV_enc hx (f := 0) (by simp)
    repeat (first | simp [h10, h8, h9, h0, hacc, f1, hlt] | with_reducible refine awp_reg ?_ | with_reducible refine optF_if (by omega) ?_)
    refine awp_loopW (fun (v : Nat × Nat) (σ2 : St) => v.1 ≤ f.Code.length ∧ (insF 0 p.Funcs).drop v.2 = insC a v.1 (f.Code.drop v.1) ++ insF (a + 1) (p.Funcs.drop (a + 1)) ∧ v.2 ≤ (insF 0 p.Funcs).length ∧ σ2.env 18 = iV .i64 (v.1 : Nat) ∧ σ2.env 16 = .cell (.p (.sl f.Code.length (encL f.Code))) ∧ σ2.env 17 = iV .i64 f.Code.length ∧ σ2.env 3 = iV .i64 a ∧ σ2.env 10 = iV .i64 a ∧ σ2.env 8 = .cell (.p (.sl p.Funcs.length (encL p.Funcs))) ∧ σ2.env 9 = iV .i64 p.Funcs.length ∧ σ2.env 0 = .cell (.yl ℓ) ∧ σ2.acc = some ⟨ℓ, (insF 0 p.Funcs).map insEv, v.2, true⟩) (fun v => f.Code.length - v.1) _ (Gh.refl _) (0, n) ⟨by simp, by simpa [insF] using hn, hnl, by simp [h10, h8, h9, h0, hacc], by simp [h10, h8, h9, h0, hacc], by simp [h10, h8, h9, h0, hacc], by simp [h10, h8, h9, h0, hacc], by simp [h10, h8, h9, h0, hacc], by simp [h10, h8, h9, h0, hacc], by simp [h10, h8, h9, h0, hacc], by simp [h10, h8, h9, h0, hacc], by simp [h10, h8, h9, h0, hacc]⟩ fun v σ2 hp L2 hL2 => ?_
    obtain ⟨b, m⟩ := v
    dsimp only at hp hL2
    obtain ⟨hb, hm, hml, k18, k16, k17, k3, k10, k8, k9, k0, kacc⟩ := hp
    repeat (first | simp [k18, k16, k17, k3, k10, k8, k9, k0, kacc] | with_reducible refine awp_reg ?_)
    by_cases hltb : b < f.Code.length
    · refine condK_t (by simp [ltI]; omega) ?_
      have hxb := List.getElem?_eq_getElem hltb
      have ewb := wrap_succG hltb hcl
      rw [List.drop_eq_getElem_cons hltb] at hm
      generalize f.Code[b] = i at *
      have hy : (insF 0 p.Funcs)[m]? = some (⟨(a : Int), (b : Int)⟩, i) := by
        have : ((insF 0 p.Funcs).drop m)[0]? = some (⟨(a : Int), (b : Int)⟩, i) := by rw [hm]; rfl
        simpa using this
      have hm1 : (insF 0 p.Funcs).drop (m + 1) = insC a (b + 1) (f.Code.drop (b + 1)) ++ insF (a + 1) (p.Funcs.drop (a + 1)) := by
        rw [← List.drop_drop, hm]; rfl
      have hm2 : m + 1 ≤ (insF 0 p.Funcs).length := (List.getElem?_eq_some_iff.1 hy).1
      have hye : ((insF 0 p.Funcs).map insEv)[m]? = some (insEv (⟨(a : Int), (b : Int)⟩, i)) := by rw [List.getElem?_map, hy]; rfl
      have hye' : Option.map insEv (insF 0 p.Funcs)[m]? = some (insEv (⟨(a : Int), (b : Int)⟩, i)) := by rw [hy]; rfl
      have f2 : partCV Tryd.prog 71 (encL f.Code) (b * 8) = some (.agg [.p (.c (.int .i64 i.Op)), .p (.c (.int .i64 i.A)), .p (.c (.int .i64 i.B)), .p (.c (.int .i64 i.C)), .p (.c (.int .i64 i.Obj)), .p (.c (.int .i64 i.N)), .p (.c (.int .i64 i.Fn)), .p (.c (.int .i64 i.Order))]) := partCV_enc hxb (f := 0) (by simp)
      repeat (first | simp [k18, k16, k17, k3, k10, k8, k9, k0, kacc, f2, hltb, hy] | with_reducible refine awp_reg ?_ | with_reducible refine optF_if (by omega) ?_)
      refine ⟨?_, ?_⟩
      · repeat (first | simp [k18, k16, k17, k3, k10, k8, k9, k0, kacc, ewb] | with_reducible refine awp_reg ?_)
        exact hL2 (b + 1, m + 1) _ _ (Gh.refl _) ⟨hltb, hm1, hm2, by simp [k18, ewb], by simp [k16], by simp [k17], by simp [k3], by simp [k10], by simp [k8], by simp [k9], by simp [k0], by simp⟩ (by simp; omega)
      · repeat (first | simp [k18, k16, k17, k3, k10, k8, k9, k0, kacc] | with_reducible refine awp_reg ?_)
        refine hQ _ _ (seqPost_end (.inr rfl) (by simp; rfl) (by simp; first | exact ⟨rfl, rfl⟩ | exact ⟨rfl, rfl, rfl⟩ | rfl) ?_)
        simp
    · refine condK_f (by simp [ltI]; omega) ?_
      have : b = f.Code.length := by omega
      subst this
      have hn' : (insF 0 p.Funcs).drop m = insF (a + 1) (p.Funcs.drop (a + 1)) := by rw [hm]; simp [insC]
      repeat (first | simp [k18, k16, k17, k3, k10, k8, k9, k0, kacc, ew] | with_reducible refine awp_reg ?_)
      exact hL (a + 1, m) _ _ (Gh.refl _) ⟨hlt, hn', hml, by simp [k10, ew], by simp [k8], by simp [k9], by simp [k0], by simp [kacc]⟩ (by simp; omega)
  · refine condK_f (by simp [ltI]; omega) ?_
    have : a = p.Funcs.length := by omega
    subst this
    repeat (first | simp [h10, h8, h9, h0, hacc] | with_reducible refine awp_reg ?_)
    refine hQ _ _ (seqPost_end (.inl rfl) (by simp; rfl) (by simp [hacc]; first | exact ⟨rfl, rfl⟩ | exact ⟨rfl, rfl, rfl⟩ | rfl) ?_)
    intro _
    have := congrArg List.length hn
    simp [insF] at this
    simp
    omega
end Go.Dc
end
section
set_option linter.all false
namespace Go.Dc
open Go Go.Hw Go.Proofs
set_option maxRecDepth 100000
def program_checkCode_L1 (fuelN : Nat) (a0 : Program) (y1 : Int) : List (ProgramPlace × Inst) → Option (Unit ⊕ (Unit ⊕ (Int × ProgramPlace)))
  | [] => some (.inl ())
  | y7 :: q27 => cond (eqI y7.1.fn y1) (some (.inr (.inl ()))) (Option.bind (getI a0.Funcs y7.1.fn) (fun x35 => Option.bind (program_checkInst fuelN a0 y7.2 ((x35.Code.length : Nat) : Int)) (fun y38 => cond (!(eqI y38 0)) (some (.inr (.inr (y38, y7.1)))) (program_checkCode_L1 fuelN a0 y1 q27))))

def program_checkCode (fuelN : Nat) (a0 : Program) : Option (Int × ProgramPlace) :=
  Option.bind (slices_IndexFunc_api_Func_program_checkCode_1 a0.Funcs) (fun y1 => Option.bind (program_instructions a0) (fun y3 => Option.bind (it_instructions y3) (fun xs5 => Option.bind (program_checkCode_L1 fuelN a0 y1 xs5) (fun o => match o with | .inl _ => cond (!(ltI y1 0)) (some (4, ({ fn := y1, inst := (-1) } : ProgramPlace))) (some (0, ({ fn := (-1), inst := (-1) } : ProgramPlace))) | .inr (.inl _) => cond (!(ltI y1 0)) (some (4, ({ fn := y1, inst := (-1) } : ProgramPlace))) (some (0, ({ fn := (-1), inst := (-1) } : ProgramPlace))) | .inr (.inr r44) => some r44))))

set_option maxHeartbeats 2000000 in
theorem at_program_checkCode {fuelN : Nat} {a0 : Program} {r : Int × ProgramPlace} (hs : program_checkCode fuelN a0 = some r) : At Tryd.prog 85 [.agg (eA a0)] (.tup [iV .i64 r.1, .agg (eA r.2)]) := by
  refine at_bound (by kernel_rfl) fun hb => ?_
  have hb1 : LenOk (.sl a0.Vars.length (encL a0.Vars)) := lkc hb
  have hb2 : LenOk (.sl a0.Mutexes.length (encL a0.Mutexes)) := lkc hb
  have hb3 : LenOk (.sl a0.Conds.length (encL a0.Conds)) := lkc hb
  have hb4 : LenOk (.sl a0.Funcs.length (encL a0.Funcs)) := lkc hb
  have hb5 : LenOk (.sl a0.Threads.length (encL a0.Threads)) := lkc hb
  refine at_code mixed Tryd.func85 (by kernel_rfl) rfl (by kernel_rfl) rfl fun Q hQ => ?_
  rw [program_checkCode] at hs
  refine goR f0 ?_
  revert hs; refine bK fun y1 hx2 hs => ?_
  refine cP f0 (at_slices_IndexFunc_api_Func_program_checkCode_1 hx2) ?_
  refine goR f0 ?_
  revert hs; refine bK fun y3 hx4 hs => ?_
  refine cP f0 (at_program_instructions hx4) ?_
  refine goR f0 ?_
  revert hs; refine bK fun xs5 hx6 hs => ?_
  revert hs; refine bK fun o21 e20 hs => ?_
  refine awp_range (gf := 123) (cs := [.bx [.sl y3.Vars.length (encL y3.Vars), .sl y3.Mutexes.length (encL y3.Mutexes), .sl y3.Conds.length (encL y3.Conds), .sl y3.Funcs.length (encL y3.Funcs), .sl y3.Threads.length (encL y3.Threads)]]) (xs5.map (fun (y : ProgramPlace × Inst) => ([.agg [.c (.int .i64 y.1.fn), .c (.int .i64 y.1.inst)], .agg [.c (.int .i64 y.2.Op), .c (.int .i64 y.2.A), .c (.int .i64 y.2.B), .c (.int .i64 y.2.C), .c (.int .i64 y.2.Obj), .c (.int .i64 y.2.N), .c (.int .i64 y.2.Fn), .c (.int .i64 y.2.Order)]] : List EV))) (fun (k22 : Nat) (hp23 : Go.Hw.Id → Option Blk) (gen24 : Nat) => program_checkCode_L1 fuelN a0 y1 (xs5.drop k22) = some o21 ∧ hp23 (.o 1 0 0) = some (.cells (eA a0)) ∧ hp23 (.o 1 1 0) = some (.cells [nC 0]) ∧ hp23 (.o 1 2 0) = some (.cells [nC 0, nC 0]) ∧ hp23 (.o 2 3 0) = some (.cells [nC y1]) ∧ 3 ≤ gen24) _ (Gh.refl _) (pv f0) (seq_instructions hx6) (fun x hx => by obtain ⟨y, _, rfl⟩ := List.mem_map.1 hx; rfl) ⟨e20, pv f0, pv f0, pv f0, pv f0, pg⟩ (fun k22 x hp23 gen24 hx hI => ?_) (fun hp23 gen24 hI => ?_)
  · obtain ⟨e20, g1_0, g1_1, g1_2, g1_3, n1_g⟩ := hI
    try dsimp only at e20 g1_0 g1_1 g1_2 g1_3 n1_g
    obtain ⟨y7, hy25, rfl⟩ := map_get hx
    rw [drop_at hy25, program_checkCode_L1] at e20; try dsimp only at e20
    have n1_0 : ¬ (gen24 = 0) := by omega
    have n1_1 : ¬ (gen24 = 1) := by omega
    have F1 := an g1_0 (an g1_1 (an g1_2 (an g1_3 (an n1_0 n1_1))))
    refine goR F1 ?_
    revert e20; refine cS F1 ?_ ?_ <;> intro h28 e20
    · refine goR F1 ?_
      obtain rfl := sj e20
      try dsimp only at hs
      refine rPost_exit ?_
      refine goR F1 ?_
      revert hs; refine cS F1 ?_ ?_ <;> intro h29 hs
      · refine goD F1 ?_
        obtain rfl := sj hs
        exact hQ _ _ (rg F1 (Gh.refl _))
      · refine goR F1 ?_
        obtain rfl := sj hs
        exact hQ _ _ (rg F1 (Gh.refl _))
    · revert e20; refine bK fun x35 hx36 e20 => ?_
      obtain ⟨hx36a, hx36b, hx36c, hx36d⟩ := getI_some hx36
      have f37 : partCV Tryd.prog 22 (encL a0.Funcs) (((y7.1.fn).toNat) * 2 + 1) = some (.cell (sC x35.Code)) := partCV_enc hx36d (f := 1) (by simp)
      have F2 := an F1 f37
      refine goD F2 ?_
      revert e20; refine bK fun y38 hx39 e20 => ?_
      refine cP F2 (at_program_checkInst hx39) ?_
      refine goD F2 ?_
      revert e20; refine cS F2 ?_ ?_ <;> intro h40 e20
      · refine goD F2 ?_
        obtain rfl := sj e20
        try dsimp only at hs
        refine rPost_ret ?_
        refine goD F2 ?_
        obtain rfl := sj hs
        exact hQ _ _ (rg F2 (Gh.refl _))
      · refine goD F2 ?_
        refine rPost_gh (Gh.refl _) ⟨e20, pv F2, pv F2, pv F2, pv F2, pg⟩
  · obtain ⟨e20, g1_0, g1_1, g1_2, g1_3, n1_g⟩ := hI
    try dsimp only at e20 g1_0 g1_1 g1_2 g1_3 n1_g
    rw [show xs5.drop (xs5.map (fun (y : ProgramPlace × Inst) => ([.agg [.c (.int .i64 y.1.fn), .c (.int .i64 y.1.inst)], .agg [.c (.int .i64 y.2.Op), .c (.int .i64 y.2.A), .c (.int .i64 y.2.B), .c (.int .i64 y.2.C), .c (.int .i64 y.2.Obj), .c (.int .i64 y.2.N), .c (.int .i64 y.2.Fn), .c (.int .i64 y.2.Order)]] : List EV))).length = [] by simp, program_checkCode_L1] at e20; try dsimp only at e20
    have n1_0 : ¬ (gen24 = 0) := by omega
    have n1_1 : ¬ (gen24 = 1) := by omega
    obtain rfl := sj e20
    try dsimp only at hs
    have F3 := an g1_0 (an g1_1 (an g1_2 (an g1_3 (an n1_0 n1_1))))
    refine goR F3 ?_
    revert hs; refine cS F3 ?_ ?_ <;> intro h41 hs
    · refine goD F3 ?_
      obtain rfl := sj hs
      exact hQ _ _ (rg F3 (Gh.refl _))
    · refine goR F3 ?_
      obtain rfl := sj hs
      exact hQ _ _ (rg F3 (Gh.refl _))
end Go.Dc
end
section
set_option linter.all false
namespace Go.Dc
open Go Go.Hw Go.Proofs
set_option maxRecDepth 100000
def program_checkThreads_L1 (a0 : Program) : List Start → Nat → Option (Unit ⊕ (Int × ProgramPlace))
  | [], k51 => some (.inl ())
  | x70 :: q66, k51 => cond (orB (ltI x70.Func 0) (!(ltI x70.Func ((a0.Funcs.length : Nat) : Int)))) (some (.inr (11, ({ fn := (-1), inst := (-1) } : ProgramPlace)))) (Option.bind (program_value x70.Arg) (fun y74 => cond (!y74) (some (.inr (2, ({ fn := (-1), inst := (-1) } : ProgramPlace)))) (program_checkThreads_L1 a0 q66 (k51 + 1))))

def program_checkThreads (a0 : Program) : Option (Int × ProgramPlace) :=
  cond (orB (ltI ((a0.Threads.length : Nat) : Int) 1) (ltI 8 ((a0.Threads.length : Nat) : Int))) (some (4, ({ fn := (-1), inst := (-1) } : ProgramPlace))) (Option.bind (α := Unit ⊕ (Int × ProgramPlace)) (Option.bind (program_checkThreads_L1 a0 a0.Threads 0) (fun o => match o with | .inl _ => some (.inl ()) | .inr r77 => some (.inr r77))) (fun o => match o with | .inl _ => some (0, ({ fn := (-1), inst := (-1) } : ProgramPlace)) | .inr r78 => some r78))

set_option maxHeartbeats 2000000 in
theorem at_program_checkThreads {a0 : Program} {r : Int × ProgramPlace} (hs : program_checkThreads a0 = some r) : At Tryd.prog 86 [.agg (eA a0)] (.tup [iV .i64 r.1, .agg (eA r.2)]) := by
  refine at_bound (by kernel_rfl) fun hb => ?_
  have hb1 : LenOk (.sl a0.Vars.length (encL a0.Vars)) := lkc hb
  have hb2 : LenOk (.sl a0.Mutexes.length (encL a0.Mutexes)) := lkc hb
  have hb3 : LenOk (.sl a0.Conds.length (encL a0.Conds)) := lkc hb
  have hb4 : LenOk (.sl a0.Funcs.length (encL a0.Funcs)) := lkc hb
  have hb5 : LenOk (.sl a0.Threads.length (encL a0.Threads)) := lkc hb
  refine at_code mixed Tryd.func86 (by kernel_rfl) rfl (by kernel_rfl) rfl fun Q hQ => ?_
  rw [program_checkThreads] at hs
  refine goG f0 f0 ?_
  revert hs; refine cS f0 ?_ ?_ <;> intro h1 hs
  · refine goE f0 f0 ?_
    obtain rfl := sj hs
    exact hQ _ _ (rg f0 (Gh.refl _))
  · refine goG2 f0 f0 ?_
    revert hs; refine bK fun o39 e38 hs => ?_
    refine awp_cutK (fun (v : Unit) (σ : St) => some (.inl v) = some o39 ∧ σ.env 3 = .cell (.ref (.o 1 2 0) 0) ∧ σ.env 4 = .cell (.ref (.o 2 1 0) 0) ∧ σ.hp (.o 1 2 0) = some (.cells [nC 0, nC 0]) ∧ σ.hp (.o 2 1 0) = some (.cells [nC (-1), nC (-1)]) ∧ 4 ≤ σ.gen) (by rfl) (fun Q hK40 hX41 => ?_) (fun v σ3 hp => ?_)
    · refine goG f0 f0 ?_
      revert e38; refine bK fun o61 e60 e38 => ?_
      refine awp_loopW (fun (v : (List Start) × Nat) (σ : St) => program_checkThreads_L1 a0 v.1 v.2 = some o61 ∧ v.1 = a0.Threads.drop v.2 ∧ σ.env 1 = .cell (.ref (.o 1 0 0) 0) ∧ σ.env 3 = .cell (.ref (.o 1 2 0) 0) ∧ σ.env 4 = .cell (.ref (.o 2 1 0) 0) ∧ σ.env 20 = .cell (sC a0.Threads) ∧ σ.env 21 = iV .i64 ((a0.Threads.length : Nat) : Int) ∧ σ.env 22 = iV .i64 ((v.2 : Nat) : Int) ∧ σ.hp (.o 1 0 0) = some (.cells (eA a0)) ∧ σ.hp (.o 1 2 0) = some (.cells [nC 0, nC 0]) ∧ σ.hp (.o 2 1 0) = some (.cells [nC (-1), nC (-1)]) ∧ 4 ≤ σ.gen) (fun v => v.1.length) _ (Gh.refl _) (a0.Threads, 0) ⟨e60, by simp, pv f0, pv f0, pv f0, pv f0, pv f0, pv f0, pv f0, pv f0, pv f0, pg⟩ fun v σ6 hp L62 hL63 => ?_
      obtain ⟨q65, k51⟩ := v
      dsimp only at hp hL63
      obtain ⟨e60, hd64, h5_1, h5_3, h5_4, h5_20, h5_21, h5_22, g5_0, g5_1, g5_2, n5_g⟩ := hp
      have n5_0 : ¬ (σ6.gen = 0) := by omega
      have n5_1 : ¬ (σ6.gen = 1) := by omega
      rcases q65 with _ | ⟨x70, q66⟩
      · have hlt67 := drop_end hd64
        rw [program_checkThreads_L1] at e60; try dsimp only at e60
        have F1 := an h5_1 (an h5_3 (an h5_4 (an h5_20 (an h5_21 (an h5_22 (an g5_0 (an g5_1 (an g5_2 (an n5_0 n5_1)))))))))
        refine goR F1 ?_
        refine condK_f (by simp [ltI]; omega) ?_
        obtain rfl := sj e60
        try dsimp only at e38
        exact hK40 () _ _ (Gh.refl _) ⟨e38, pv F1, pv F1, pv F1, pv F1, pg⟩
      · obtain ⟨hx69, hlt67, hd71⟩ := drop_next hd64
        have ew68 := wrap_succ hlt67 (hb5).len
        rw [program_checkThreads_L1] at e60; try dsimp only at e60
        have F2 := an h5_1 (an h5_3 (an h5_4 (an h5_20 (an h5_21 (an h5_22 (an g5_0 (an g5_1 (an g5_2 (an n5_0 (an n5_1 (an hlt67 ew68)))))))))))
        refine goR F2 ?_
        refine condK_t (by simp [ltI]; omega) ?_
        have f72 : partCV Tryd.prog 108 (encL a0.Threads) (k51 * 2) = some (.agg (eA x70)) := partCV_enc hx69 (f := 0) (by simp)
        have F3 := an F2 f72
        refine goG F3 F3 ?_
        revert e60; refine cS F3 ?_ ?_ <;> intro h73 e60
        · refine goE F3 F3 ?_
          obtain rfl := sj e60
          try dsimp only at e38
          obtain rfl := sj e38
          try dsimp only at hs
          refine hX41 _ _ (by simp) ?_
          refine goE F3 F3 ?_
          obtain rfl := sj hs
          exact hQ _ _ (rg F3 (Gh.refl _))
        · refine goG F3 F3 ?_
          revert e60; refine bK fun y74 hx75 e60 => ?_
          refine cP F3 (at_program_value hx75) ?_
          refine goG F3 F3 ?_
          revert e60; refine cS F3 ?_ ?_ <;> intro h76 e60
          · refine goE F3 F3 ?_
            obtain rfl := sj e60
            try dsimp only at e38
            obtain rfl := sj e38
            try dsimp only at hs
            refine hX41 _ _ (by simp) ?_
            refine goE F3 F3 ?_
            obtain rfl := sj hs
            exact hQ _ _ (rg F3 (Gh.refl _))
          · refine goG F3 F3 ?_
            exact hL63 (q66, (k51 + 1)) _ _ (Gh.refl _) ⟨e60, hd71, pv F3, pv F3, pv F3, pv F3, pv F3, pv F3, pv F3, pv F3, pv F3, pg⟩ (by simp)
    · obtain ⟨e38, h4_3, h4_4, g4_0, g4_1, n4_g⟩ := hp
      obtain rfl := sj e38
      try dsimp only at hs
      have n4_0 : ¬ (σ3.gen = 0) := by omega
      have n4_1 : ¬ (σ3.gen = 1) := by omega
      have F4 := an h4_3 (an h4_4 (an g4_0 (an g4_1 (an n4_0 n4_1))))
      refine goE F4 F4 ?_
      obtain rfl := sj hs
      exact hQ _ _ (rg F4 (Gh.refl _))
end Go.Dc
end
section
set_option linter.all false
namespace Go.Dc
open Go Go.Hw Go.Proofs
set_option maxRecDepth 100000

def program_Check (fuelN : Nat) (a0 : Program) : Option (Int × Int × Int) :=
  Option.bind (program_checkNames a0) (fun y1 => Option.bind (α := Int × Int × Int) (cond (eqI y1.1 0) (Option.bind (program_checkObjects a0) (fun y14 => some ((y14.1, y14.2.fn, y14.2.inst)))) (some ((y1.1, y1.2.fn, y1.2.inst)))) (fun o => match o with | (i6, i7, i8) => Option.bind (α := Int × Int × Int) (cond (eqI i6 0) (Option.bind (program_checkCode fuelN a0) (fun y27 => some ((y27.1, y27.2.fn, y27.2.inst)))) (some ((i6, i7, i8)))) (fun o => match o with | (i19, i20, i21) => cond (eqI i19 0) (Option.bind (program_checkThreads a0) (fun y30 => cond (!(eqI y30.1 0)) (some (y30.1, y30.2.fn, y30.2.inst)) (some (0, (-1), (-1))))) (cond (!(eqI i19 0)) (some (i19, i20, i21)) (some (0, (-1), (-1)))))))

set_option maxHeartbeats 2000000 in
theorem at_program_Check {fuelN : Nat} {a0 : Program} {r : Int × Int × Int} (hs : program_Check fuelN a0 = some r) : At Tryd.prog 64 [.agg (eA a0)] (.tup [iV .i64 r.1, iV .i64 r.2.1, iV .i64 r.2.2]) := by
  refine at_bound (by kernel_rfl) fun hb => ?_
  have hb1 : LenOk (.sl a0.Vars.length (encL a0.Vars)) := lkc hb
  have hb2 : LenOk (.sl a0.Mutexes.length (encL a0.Mutexes)) := lkc hb
  have hb3 : LenOk (.sl a0.Conds.length (encL a0.Conds)) := lkc hb
  have hb4 : LenOk (.sl a0.Funcs.length (encL a0.Funcs)) := lkc hb
  have hb5 : LenOk (.sl a0.Threads.length (encL a0.Threads)) := lkc hb
  refine at_code mixed Tryd.func64 (by kernel_rfl) rfl (by kernel_rfl) rfl fun Q hQ => ?_
  rw [program_Check] at hs
  refine goR f0 ?_
  revert hs; refine bK fun y1 hx2 hs => ?_
  refine cP f0 (at_program_checkNames hx2) ?_
  refine goR2 f0 ?_
  revert hs; refine bK fun o10 e9 hs => ?_
  refine awp_cutK (fun (v : Int × Int × Int) (σ : St) => some (v) = some o10 ∧ σ.env 1 = .cell (.ref (.o 1 0 0) 0) ∧ σ.env 5 = iV .i64 v.1 ∧ σ.env 6 = .cell (.ref (.o 2 5 0) 0) ∧ σ.hp (.o 1 0 0) = some (.cells (eA a0)) ∧ σ.hp (.o 2 5 0) = some (.cells [nC v.2.1, nC v.2.2]) ∧ 3 ≤ σ.gen) (by rfl) (fun Q hK11 hX12 => ?_) (fun v σ1 hp => ?_)
  · refine goR f0 ?_
    revert e9; refine cS f0 ?_ ?_ <;> intro h13 e9
    · refine goR f0 ?_
      revert e9; refine bK fun y14 hx15 e9 => ?_
      refine cP f0 (at_program_checkObjects hx15) ?_
      refine goR f0 ?_
      exact hK11 (y14.1, y14.2.fn, y14.2.inst) _ _ (Gh.refl _) ⟨e9, pv f0, pv f0, pv f0, pv f0, pv f0, pg⟩
    · refine goR f0 ?_
      exact hK11 (y1.1, y1.2.fn, y1.2.inst) _ _ (Gh.refl _) ⟨e9, pv f0, pv f0, pv f0, pv f0, pv f0, pg⟩
  · obtain ⟨i6, i7, i8⟩ := v
    dsimp only at hp
    obtain ⟨e9, h2_1, h2_5, h2_6, g2_0, g2_1, n2_g⟩ := hp
    obtain rfl := sj e9
    try dsimp only at hs
    have n2_0 : ¬ (σ1.gen = 0) := by omega
    have n2_1 : ¬ (σ1.gen = 1) := by omega
    have F1 := an h2_1 (an h2_5 (an h2_6 (an g2_0 (an g2_1 (an n2_0 n2_1)))))
    refine goR2 F1 ?_
    revert hs; refine bK fun o23 e22 hs => ?_
    refine awp_cutK (fun (v : Int × Int × Int) (σ : St) => some (v) = some o23 ∧ σ.env 1 = .cell (.ref (.o 1 0 0) 0) ∧ σ.env 5 = iV .i64 v.1 ∧ σ.env 6 = .cell (.ref (.o 2 5 0) 0) ∧ σ.hp (.o 1 0 0) = some (.cells (eA a0)) ∧ σ.hp (.o 2 5 0) = some (.cells [nC v.2.1, nC v.2.2]) ∧ (σ1.gen + 1) ≤ σ.gen) (by rfl) (fun Q hK24 hX25 => ?_) (fun v σ3 hp => ?_)
    · refine goR F1 ?_
      revert e22; refine cS F1 ?_ ?_ <;> intro h26 e22
      · refine goR F1 ?_
        revert e22; refine bK fun y27 hx28 e22 => ?_
        refine cP F1 (at_program_checkCode hx28) ?_
        refine goR F1 ?_
        exact hK24 (y27.1, y27.2.fn, y27.2.inst) _ _ (Gh.refl _) ⟨e22, pv F1, pv F1, pv F1, pv F1, pv F1, pg⟩
      · refine goR F1 ?_
        exact hK24 (i6, i7, i8) _ _ (Gh.refl _) ⟨e22, pv F1, pv F1, pv F1, pv F1, pv F1, pg⟩
    · obtain ⟨i19, i20, i21⟩ := v
      dsimp only at hp
      obtain ⟨e22, h4_1, h4_5, h4_6, g4_0, g4_1, n4_g⟩ := hp
      obtain rfl := sj e22
      try dsimp only at hs
      have n4_0 : ¬ (σ3.gen = 0) := by omega
      have n4_1 : ¬ (σ3.gen = 1) := by omega
      have F2 := an h4_1 (an h4_5 (an h4_6 (an g4_0 (an g4_1 (an n4_0 n4_1)))))
      refine goR F2 ?_
      revert hs; refine cS F2 ?_ ?_ <;> intro h29 hs
      · refine goR F2 ?_
        revert hs; refine bK fun y30 hx31 hs => ?_
        refine cP F2 (at_program_checkThreads hx31) ?_
        refine goR F2 ?_
        revert hs; refine cS F2 ?_ ?_ <;> intro h32 hs
        · refine goD F2 ?_
          obtain rfl := sj hs
          exact hQ _ _ (rg F2 (Gh.refl _))
        · refine goR F2 ?_
          obtain rfl := sj hs
          exact hQ _ _ (rg F2 (Gh.refl _))
      · refine goR F2 ?_
        revert hs; refine cS F2 ?_ ?_ <;> intro h33 hs
        · refine goD F2 ?_
          obtain rfl := sj hs
          exact hQ _ _ (rg F2 (Gh.refl _))
        · refine goR F2 ?_
          obtain rfl := sj hs
          exact hQ _ _ (rg F2 (Gh.refl _))
end Go.Dc
end
section
set_option linter.all false
namespace Go.Dc
open Go Go.Hw Go.Proofs
set_option maxRecDepth 100000

def r08_value (a0 : Int) : Option Bool :=
  some (andB (!(ltI a0 (-2147483648))) (!(ltI 2147483647 a0)))

set_option maxHeartbeats 2000000 in
theorem at_r08_value {a0 : Int} {r : Bool} (hs : r08_value a0 = some r) : At Tryd.prog 93 [iV .i64 a0] (bV r) := by
  refine at_bound (by kernel_rfl) fun hb => ?_
  refine at_code mixed Tryd.func93 (by kernel_rfl) rfl (by kernel_rfl) rfl fun Q hQ => ?_
  rw [r08_value] at hs
  refine goG f0 f0 ?_
  obtain rfl := sj hs
  exact hQ _ _ (rg f0 (Gh.refl _))
end Go.Dc
end
section
set_option linter.all false
namespace Go.Dc
open Go Go.Hw Go.Proofs
set_option maxRecDepth 100000

def r08_exists (a0 : Program) (a1 : Inst) : Option Bool :=
  Option.bind (α := Nat ⊕ Bool) (Option.bind (α := Bool) (cond (eqI a1.Op 8) (some (eqI a1.Op 8)) (cond (eqI a1.Op 9) (some (eqI a1.Op 9)) (cond (eqI a1.Op 10) (some (eqI a1.Op 10)) (cond (eqI a1.Op 11) (some (eqI a1.Op 11)) (cond (eqI a1.Op 12) (some (eqI a1.Op 12)) (some (eqI a1.Op 14))))))) (fun b42 => cond b42 (some (.inl a0.Vars.length)) (Option.bind (α := Bool) (cond (eqI a1.Op 15) (some (eqI a1.Op 15)) (cond (eqI a1.Op 16) (some (eqI a1.Op 16)) (some (eqI a1.Op 17)))) (fun b55 => cond b55 (some (.inl a0.Mutexes.length)) (cond (eqI a1.Op 18) (cond (orB (ltI a1.N 0) (!(ltI a1.N ((a0.Mutexes.length : Nat) : Int)))) (some (.inr false)) (some (.inl a0.Conds.length))) (cond (eqI a1.Op 19) (some (.inl a0.Conds.length)) (cond (eqI a1.Op 20) (some (.inl a0.Conds.length)) (cond (eqI a1.Op 21) (some (.inl a0.Funcs.length)) (some (.inr true)))))))))) (fun o => match o with | .inl k32 => some (andB (!(ltI a1.Obj 0)) (ltI a1.Obj ((k32 : Nat) : Int))) | .inr r68 => some r68)

set_option maxHeartbeats 2000000 in
theorem at_r08_exists {a0 : Program} {a1 : Inst} {r : Bool} (hs : r08_exists a0 a1 = some r) : At Tryd.prog 119 [.agg (eA a0), .agg (eA a1)] (bV r) := by
  refine at_bound (by kernel_rfl) fun hb => ?_
  have hb1 : LenOk (.sl a0.Vars.length (encL a0.Vars)) := lkc hb
  have hb2 : LenOk (.sl a0.Mutexes.length (encL a0.Mutexes)) := lkc hb
  have hb3 : LenOk (.sl a0.Conds.length (encL a0.Conds)) := lkc hb
  have hb4 : LenOk (.sl a0.Funcs.length (encL a0.Funcs)) := lkc hb
  have hb5 : LenOk (.sl a0.Threads.length (encL a0.Threads)) := lkc hb
  refine at_code mixed Tryd.func119 (by kernel_rfl) rfl (by kernel_rfl) rfl fun Q hQ => ?_
  rw [r08_exists] at hs
  refine goR2 f0 ?_
  revert hs; refine bK fun o34 e33 hs => ?_
  refine awp_cutK (fun (v : Nat) (σ : St) => some (.inl v) = some o34 ∧ σ.env 3 = .cell (.ref (.o 1 1 0) 0) ∧ σ.env 5 = iV .i64 ((v : Nat) : Int) ∧ σ.hp (.o 1 1 0) = some (.cells (eA a1)) ∧ 3 ≤ σ.gen) (by rfl) (fun Q hK35 hX36 => ?_) (fun k32 σ5 hp => ?_)
  · refine goR2 f0 ?_
    refine awp_block ?_
    refine goR2 f0 ?_
    revert e33; refine bK fun o44 e43 e33 => ?_
    refine awp_cut0 (fun (v : Bool) (σ : St) => some (v) = some o44 ∧ σ.env 2 = .cell (.ref (.o 1 0 0) 0) ∧ σ.env 3 = .cell (.ref (.o 1 1 0) 0) ∧ σ.env 7 = iV .i64 a1.Op ∧ σ.env 8 = bV v ∧ σ.hp (.o 1 0 0) = some (.cells (eA a0)) ∧ σ.hp (.o 1 1 0) = some (.cells (eA a1)) ∧ 4 ≤ σ.gen) (fun Q hK45 hX46 => ?_) (fun b42 σ7 hp => ?_)
    · refine goR f0 ?_
      revert e43; refine cS f0 ?_ ?_ <;> intro h47 e43
      · refine goR f0 ?_
        exact hK45 (eqI a1.Op 8) _ ⟨e43, pv f0, pv f0, pv f0, pv f0, pv f0, pv f0, pg⟩
      · refine goR f0 ?_
        revert e43; refine cS f0 ?_ ?_ <;> intro h48 e43
        · refine goR f0 ?_
          exact hK45 (eqI a1.Op 9) _ ⟨e43, pv f0, pv f0, pv f0, pv f0, pv f0, pv f0, pg⟩
        · refine goR f0 ?_
          revert e43; refine cS f0 ?_ ?_ <;> intro h49 e43
          · refine goR f0 ?_
            exact hK45 (eqI a1.Op 10) _ ⟨e43, pv f0, pv f0, pv f0, pv f0, pv f0, pv f0, pg⟩
          · refine goR f0 ?_
            revert e43; refine cS f0 ?_ ?_ <;> intro h50 e43
            · refine goR f0 ?_
              exact hK45 (eqI a1.Op 11) _ ⟨e43, pv f0, pv f0, pv f0, pv f0, pv f0, pv f0, pg⟩
            · refine goR f0 ?_
              revert e43; refine cS f0 ?_ ?_ <;> intro h51 e43
              · refine goR f0 ?_
                exact hK45 (eqI a1.Op 12) _ ⟨e43, pv f0, pv f0, pv f0, pv f0, pv f0, pv f0, pg⟩
              · refine goR f0 ?_
                exact hK45 (eqI a1.Op 14) _ ⟨e43, pv f0, pv f0, pv f0, pv f0, pv f0, pv f0, pg⟩
    · obtain ⟨e43, h8_2, h8_3, h8_7, h8_8, g8_0, g8_1, n8_g⟩ := hp
      obtain rfl := sj e43
      try dsimp only at e33
      have n8_0 : ¬ (σ7.gen = 0) := by omega
      have F1 := an h8_2 (an h8_3 (an h8_7 (an h8_8 (an g8_0 (an g8_1 n8_0)))))
      refine goR F1 ?_
      revert e33; refine cS F1 ?_ ?_ <;> intro h52 e33
      · refine goR F1 ?_
        exact hK35 a0.Vars.length _ _ (Gh.refl _) ⟨e33, pv F1, pv F1, pv F1, pg⟩
      · refine goR2 F1 ?_
        revert e33; refine bK fun o57 e56 e33 => ?_
        refine awp_cut0 (fun (v : Bool) (σ : St) => some (v) = some o57 ∧ σ.env 2 = .cell (.ref (.o 1 0 0) 0) ∧ σ.env 3 = .cell (.ref (.o 1 1 0) 0) ∧ σ.env 7 = iV .i64 a1.Op ∧ σ.env 18 = bV v ∧ σ.hp (.o 1 0 0) = some (.cells (eA a0)) ∧ σ.hp (.o 1 1 0) = some (.cells (eA a1)) ∧ (σ7.gen + 1) ≤ σ.gen) (fun Q hK58 hX59 => ?_) (fun b55 σ9 hp => ?_)
        · refine goR F1 ?_
          revert e56; refine cS F1 ?_ ?_ <;> intro h60 e56
          · refine goR F1 ?_
            exact hK58 (eqI a1.Op 15) _ ⟨e56, pv F1, pv F1, pv F1, pv F1, pv F1, pv F1, pg⟩
          · refine goR F1 ?_
            revert e56; refine cS F1 ?_ ?_ <;> intro h61 e56
            · refine goR F1 ?_
              exact hK58 (eqI a1.Op 16) _ ⟨e56, pv F1, pv F1, pv F1, pv F1, pv F1, pv F1, pg⟩
            · refine goR F1 ?_
              exact hK58 (eqI a1.Op 17) _ ⟨e56, pv F1, pv F1, pv F1, pv F1, pv F1, pv F1, pg⟩
        · obtain ⟨e56, h10_2, h10_3, h10_7, h10_18, g10_0, g10_1, n10_g⟩ := hp
          obtain rfl := sj e56
          try dsimp only at e33
          have n10_0 : ¬ (σ9.gen = 0) := by omega
          have F2 := an h10_2 (an h10_3 (an h10_7 (an h10_18 (an g10_0 (an g10_1 n10_0)))))
          refine goR F2 ?_
          revert e33; refine cS F2 ?_ ?_ <;> intro h62 e33
          · refine goR F2 ?_
            exact hK35 a0.Mutexes.length _ _ (Gh.refl _) ⟨e33, pv F2, pv F2, pv F2, pg⟩
          · refine goR F2 ?_
            revert e33; refine cS F2 ?_ ?_ <;> intro h63 e33
            · refine goG F2 F2 ?_
              revert e33; refine cS F2 ?_ ?_ <;> intro h64 e33
              · refine goG F2 F2 ?_
                obtain rfl := sj e33
                try dsimp only at hs
                refine hX36 _ _ (by simp) ?_
                refine goG F2 F2 ?_
                obtain rfl := sj hs
                exact hQ _ _ (rg F2 (Gh.refl _))
              · refine goG F2 F2 ?_
                exact hK35 a0.Conds.length _ _ (Gh.refl _) ⟨e33, pv F2, pv F2, pv F2, pg⟩
            · refine goR F2 ?_
              revert e33; refine cS F2 ?_ ?_ <;> intro h65 e33
              · refine goR F2 ?_
                refine condK_t (by first | exact h65 | simpa using h65) ?_
                refine goR F2 ?_
                exact hK35 a0.Conds.length _ _ (Gh.refl _) ⟨e33, pv F2, pv F2, pv F2, pg⟩
              · refine goR F2 ?_
                revert e33; refine cS F2 ?_ ?_ <;> intro h66 e33
                · refine goR F2 ?_
                  exact hK35 a0.Conds.length _ _ (Gh.refl _) ⟨e33, pv F2, pv F2, pv F2, pg⟩
                · refine goR F2 ?_
                  revert e33; refine cS F2 ?_ ?_ <;> intro h67 e33
                  · refine goR F2 ?_
                    exact hK35 a0.Funcs.length _ _ (Gh.refl _) ⟨e33, pv F2, pv F2, pv F2, pg⟩
                  · refine goR F2 ?_
                    obtain rfl := sj e33
                    try dsimp only at hs
                    refine hX36 _ _ (by simp) ?_
                    refine goR F2 ?_
                    obtain rfl := sj hs
                    exact hQ _ _ (rg F2 (Gh.refl _))
  · obtain ⟨e33, h6_3, h6_5, g6_0, n6_g⟩ := hp
    obtain rfl := sj e33
    try dsimp only at hs
    have n6_0 : ¬ (σ5.gen = 0) := by omega
    have F3 := an h6_3 (an h6_5 (an g6_0 n6_0))
    refine goG F3 F3 ?_
    obtain rfl := sj hs
    exact hQ _ _ (rg F3 (Gh.refl _))
end Go.Dc
end
section
set_option linter.all false
namespace Go.Dc
open Go Go.Hw Go.Proofs
set_option maxRecDepth 100000
def r08_code_L1 (a0 : Program) (a1 : Func) : List Inst → Nat → Option (Unit ⊕ (Int × Int))
  | [], k63 => some (.inl ())
  | x85 :: q81, k63 => Option.bind (r07_Check x85) (fun y88 => cond (!(eqI y88 0)) (some (.inr (y88, ((k63 : Nat) : Int)))) (Option.bind (r08_exists a0 x85) (fun y91 => cond (!y91) (some (.inr (11, ((k63 : Nat) : Int)))) (cond (andB (orB (eqI x85.Op 4) (eqI x85.Op 5)) (orB (ltI x85.N 0) (ltI ((a1.Code.length : Nat) : Int) x85.N))) (some (.inr (12, ((k63 : Nat) : Int)))) (r08_code_L1 a0 a1 q81 (k63 + 1))))))

def r08_code (a0 : Program) (a1 : Func) : Option (Int × Int) :=
  cond (ltI 64 ((a1.Code.length : Nat) : Int)) (some (4, (-1))) (Option.bind (α := Unit ⊕ (Int × Int)) (Option.bind (r08_code_L1 a0 a1 a1.Code 0) (fun o => match o with | .inl _ => some (.inl ()) | .inr r95 => some (.inr r95))) (fun o => match o with | .inl _ => some (0, (-1)) | .inr r96 => some r96))

set_option maxHeartbeats 2000000 in
theorem at_r08_code {a0 : Program} {a1 : Func} {r : Int × Int} (hs : r08_code a0 a1 = some r) : At Tryd.prog 94 [.agg (eA a0), .agg (eA a1)] (.tup [iV .i64 r.1, iV .i64 r.2]) := by
  refine at_bound (by kernel_rfl) fun hb => ?_
  have hb1 : LenOk (.sl a0.Vars.length (encL a0.Vars)) := lkc hb
  have hb2 : LenOk (.sl a0.Mutexes.length (encL a0.Mutexes)) := lkc hb
  have hb3 : LenOk (.sl a0.Conds.length (encL a0.Conds)) := lkc hb
  have hb4 : LenOk (.sl a0.Funcs.length (encL a0.Funcs)) := lkc hb
  have hb5 : LenOk (.sl a0.Threads.length (encL a0.Threads)) := lkc hb
  have hb6 : LenOk (.sl a1.Code.length (encL a1.Code)) := lkc hb
  refine at_code mixed Tryd.func94 (by kernel_rfl) rfl (by kernel_rfl) rfl fun Q hQ => ?_
  rw [r08_code] at hs
  refine goR f0 ?_
  revert hs; refine cS f0 ?_ ?_ <;> intro h1 hs
  · refine goR f0 ?_
    obtain rfl := sj hs
    exact hQ _ _ (rg f0 (Gh.refl _))
  · refine goR2 f0 ?_
    revert hs; refine bK fun o48 e47 hs => ?_
    refine awp_cutK (fun (v : Unit) (σ : St) => some (.inl v) = some o48 ∧ 3 ≤ σ.gen) (by rfl) (fun Q hK49 hX50 => ?_) (fun v σ3 hp => ?_)
    · refine goR f0 ?_
      revert e47; refine bK fun o76 e75 e47 => ?_
      refine awp_loopW (fun (v : (List Inst) × Nat) (σ : St) => r08_code_L1 a0 a1 v.1 v.2 = some o76 ∧ v.1 = a1.Code.drop v.2 ∧ σ.env 2 = .cell (.ref (.o 1 0 0) 0) ∧ σ.env 3 = .cell (.ref (.o 1 1 0) 0) ∧ σ.env 6 = iV .i64 ((v.2 : Nat) : Int) ∧ σ.hp (.o 1 0 0) = some (.cells (eA a0)) ∧ σ.hp (.o 1 1 0) = some (.cells (eA a1)) ∧ 3 ≤ σ.gen) (fun v => v.1.length) _ (Gh.refl _) (a1.Code, 0) ⟨e75, by simp, pv f0, pv f0, pv f0, pv f0, pv f0, pg⟩ fun v σ6 hp L77 hL78 => ?_
      obtain ⟨q80, k63⟩ := v
      dsimp only at hp hL78
      obtain ⟨e75, hd79, h5_2, h5_3, h5_6, g5_0, g5_1, n5_g⟩ := hp
      have n5_0 : ¬ (σ6.gen = 0) := by omega
      rcases q80 with _ | ⟨x85, q81⟩
      · have hlt82 := drop_end hd79
        rw [r08_code_L1] at e75; try dsimp only at e75
        have F1 := an h5_2 (an h5_3 (an h5_6 (an g5_0 (an g5_1 n5_0))))
        refine goR F1 ?_
        refine condK_f (by simp [ltI]; omega) ?_
        obtain rfl := sj e75
        try dsimp only at e47
        exact hK49 () _ _ (Gh.refl _) ⟨e47, pg⟩
      · obtain ⟨hx84, hlt82, hd86⟩ := drop_next hd79
        have ew83 := wrap_succ hlt82 (hb6).len
        rw [r08_code_L1] at e75; try dsimp only at e75
        have F2 := an h5_2 (an h5_3 (an h5_6 (an g5_0 (an g5_1 (an n5_0 (an hlt82 ew83))))))
        refine goR F2 ?_
        refine condK_t (by simp [ltI]; omega) ?_
        have f87 : partCV Tryd.prog 71 (encL a1.Code) (k63 * 8) = some (.agg (eA x85)) := partCV_enc hx84 (f := 0) (by simp)
        have F3 := an F2 f87
        refine goR F3 ?_
        revert e75; refine bK fun y88 hx89 e75 => ?_
        refine cP F3 (at_r07_Check hx89) ?_
        refine goR F3 ?_
        revert e75; refine cS F3 ?_ ?_ <;> intro h90 e75
        · refine goR F3 ?_
          obtain rfl := sj e75
          try dsimp only at e47
          obtain rfl := sj e47
          try dsimp only at hs
          refine hX50 _ _ (by simp) ?_
          refine goR F3 ?_
          obtain rfl := sj hs
          exact hQ _ _ (rg F3 (Gh.refl _))
        · refine goR F3 ?_
          revert e75; refine bK fun y91 hx92 e75 => ?_
          refine cP F3 (at_r08_exists hx92) ?_
          refine goR F3 ?_
          revert e75; refine cS F3 ?_ ?_ <;> intro h93 e75
          · refine goR F3 ?_
            obtain rfl := sj e75
            try dsimp only at e47
            obtain rfl := sj e47
            try dsimp only at hs
            refine hX50 _ _ (by simp) ?_
            refine goR F3 ?_
            obtain rfl := sj hs
            exact hQ _ _ (rg F3 (Gh.refl _))
          · refine goG F3 F3 ?_
            revert e75; refine cS F3 ?_ ?_ <;> intro h94 e75
            · refine goG F3 F3 ?_
              obtain rfl := sj e75
              try dsimp only at e47
              obtain rfl := sj e47
              try dsimp only at hs
              refine hX50 _ _ (by simp) ?_
              refine goG F3 F3 ?_
              obtain rfl := sj hs
              exact hQ _ _ (rg F3 (Gh.refl _))
            · refine goG F3 F3 ?_
              exact hL78 (q81, (k63 + 1)) _ _ (Gh.refl _) ⟨e75, hd86, pv F3, pv F3, pv F3, pv F3, pv F3, pg⟩ (by simp)
    · obtain ⟨e47, n4_g⟩ := hp
      obtain rfl := sj e47
      try dsimp only at hs
      refine goR f0 ?_
      obtain rfl := sj hs
      exact hQ _ _ (rg f0 (Gh.refl _))
end Go.Dc
end
section
set_option linter.all false
namespace Go.Dc
open Go Go.Hw Go.Proofs
set_option maxRecDepth 100000
def r08_threads_L1 (a0 : Program) : List Start → Nat → Option (Unit ⊕ Int)
  | [], k65 => some (.inl ())
  | x88 :: q84, k65 => cond (orB (ltI x88.Func 0) (!(ltI x88.Func ((a0.Funcs.length : Nat) : Int)))) (some (.inr 11)) (Option.bind (r08_value x88.Arg) (fun y94 => cond (!y94) (some (.inr 2)) (r08_threads_L1 a0 q84 (k65 + 1))))

def r08_threads (a0 : Program) : Option Int :=
  cond (orB (ltI ((a0.Threads.length : Nat) : Int) 1) (ltI 8 ((a0.Threads.length : Nat) : Int))) (some 4) (Option.bind (α := Unit ⊕ Int) (Option.bind (r08_threads_L1 a0 a0.Threads 0) (fun o => match o with | .inl _ => some (.inl ()) | .inr r97 => some (.inr r97))) (fun o => match o with | .inl _ => some 0 | .inr r98 => some r98))

set_option maxHeartbeats 2000000 in
theorem at_r08_threads {a0 : Program} {r : Int} (hs : r08_threads a0 = some r) : At Tryd.prog 95 [.agg (eA a0)] (iV .i64 r) := by
  refine at_bound (by kernel_rfl) fun hb => ?_
  have hb1 : LenOk (.sl a0.Vars.length (encL a0.Vars)) := lkc hb
  have hb2 : LenOk (.sl a0.Mutexes.length (encL a0.Mutexes)) := lkc hb
  have hb3 : LenOk (.sl a0.Conds.length (encL a0.Conds)) := lkc hb
  have hb4 : LenOk (.sl a0.Funcs.length (encL a0.Funcs)) := lkc hb
  have hb5 : LenOk (.sl a0.Threads.length (encL a0.Threads)) := lkc hb
  refine at_code mixed Tryd.func95 (by kernel_rfl) rfl (by kernel_rfl) rfl fun Q hQ => ?_
  rw [r08_threads] at hs
  refine goG f0 f0 ?_
  revert hs; refine cS f0 ?_ ?_ <;> intro h1 hs
  · refine goG f0 f0 ?_
    obtain rfl := sj hs
    exact hQ _ _ (rg f0 (Gh.refl _))
  · refine goG2 f0 f0 ?_
    revert hs; refine bK fun o49 e48 hs => ?_
    refine awp_cutK (fun (v : Unit) (σ : St) => some (.inl v) = some o49 ∧ 3 ≤ σ.gen) (by rfl) (fun Q hK50 hX51 => ?_) (fun v σ3 hp => ?_)
    · refine goG f0 f0 ?_
      revert e48; refine bK fun o79 e78 e48 => ?_
      refine awp_loopW (fun (v : (List Start) × Nat) (σ : St) => r08_threads_L1 a0 v.1 v.2 = some o79 ∧ v.1 = a0.Threads.drop v.2 ∧ σ.env 1 = .cell (.ref (.o 1 0 0) 0) ∧ σ.env 3 = iV .i64 ((v.2 : Nat) : Int) ∧ σ.hp (.o 1 0 0) = some (.cells (eA a0)) ∧ 3 ≤ σ.gen) (fun v => v.1.length) _ (Gh.refl _) (a0.Threads, 0) ⟨e78, by simp, pv f0, pv f0, pv f0, pg⟩ fun v σ6 hp L80 hL81 => ?_
      obtain ⟨q83, k65⟩ := v
      dsimp only at hp hL81
      obtain ⟨e78, hd82, h5_1, h5_3, g5_0, n5_g⟩ := hp
      have n5_0 : ¬ (σ6.gen = 0) := by omega
      rcases q83 with _ | ⟨x88, q84⟩
      · have hlt85 := drop_end hd82
        rw [r08_threads_L1] at e78; try dsimp only at e78
        have F1 := an h5_1 (an h5_3 (an g5_0 n5_0))
        refine goR F1 ?_
        refine condK_f (by simp [ltI]; omega) ?_
        obtain rfl := sj e78
        try dsimp only at e48
        exact hK50 () _ _ (Gh.refl _) ⟨e48, pg⟩
      · obtain ⟨hx87, hlt85, hd89⟩ := drop_next hd82
        have ew86 := wrap_succ hlt85 (hb5).len
        rw [r08_threads_L1] at e78; try dsimp only at e78
        have F2 := an h5_1 (an h5_3 (an g5_0 (an n5_0 (an hlt85 ew86))))
        refine goR F2 ?_
        refine condK_t (by simp [ltI]; omega) ?_
        have f91 : partCV Tryd.prog 3 (encL a0.Threads) (k65 * 2) = some (iV .i64 x88.Func) := partCV_enc hx87 (f := 0) (by simp)
        have F3 := an F2 f91
        refine goE F3 F3 ?_
        revert e78; refine cS F3 ?_ ?_ <;> intro h92 e78
        · refine goE F3 F3 ?_
          obtain rfl := sj e78
          try dsimp only at e48
          obtain rfl := sj e48
          try dsimp only at hs
          refine hX51 _ _ (by simp) ?_
          refine goE F3 F3 ?_
          obtain rfl := sj hs
          exact hQ _ _ (rg F3 (Gh.refl _))
        · have f93 : partCV Tryd.prog 3 (encL a0.Threads) (k65 * 2 + 1) = some (iV .i64 x88.Arg) := partCV_enc hx87 (f := 1) (by simp)
          have F4 := an F3 f93
          refine goE F4 F4 ?_
          revert e78; refine bK fun y94 hx95 e78 => ?_
          refine cP F4 (at_r08_value hx95) ?_
          refine goE F4 F4 ?_
          revert e78; refine cS F4 ?_ ?_ <;> intro h96 e78
          · refine goE F4 F4 ?_
            obtain rfl := sj e78
            try dsimp only at e48
            obtain rfl := sj e48
            try dsimp only at hs
            refine hX51 _ _ (by simp) ?_
            refine goE F4 F4 ?_
            obtain rfl := sj hs
            exact hQ _ _ (rg F4 (Gh.refl _))
          · refine goE F4 F4 ?_
            exact hL81 (q84, (k65 + 1)) _ _ (Gh.refl _) ⟨e78, hd89, pv F4, pv F4, pv F4, pg⟩ (by simp)
    · obtain ⟨e48, n4_g⟩ := hp
      obtain rfl := sj e48
      try dsimp only at hs
      refine goG f0 f0 ?_
      obtain rfl := sj hs
      exact hQ _ _ (rg f0 (Gh.refl _))
end Go.Dc
end
section
set_option linter.all false
namespace Go.Dc
open Go Go.Hw Go.Proofs
set_option maxRecDepth 100000
def r08_Check_L1 : List Var → Nat → Option (Unit ⊕ (Int × Int × Int))
  | [], k61 => some (.inl ())
  | x79 :: q75, k61 => Option.bind (r08_value x79.Init) (fun y82 => cond (!y82) (some (.inr (2, (-1), (-1)))) (r08_Check_L1 q75 (k61 + 1)))

def r08_Check_L2 (a0 : Program) : List Func → Nat → Option (Unit ⊕ (Int × Int × Int))
  | [], k149 => some (.inl ())
  | x172 :: q168, k149 => Option.bind (r08_code a0 x172) (fun y178 => cond (!(eqI y178.1 0)) (some (.inr (y178.1, ((k149 : Nat) : Int), y178.2))) (r08_Check_L2 a0 q168 (k149 + 1)))

def r08_Check (fuelN : Nat) (a0 : Program) : Option (Int × Int × Int) :=
  Option.bind (r08_lists a0) (fun y1 => Option.bind (r08_names fuelN y1.1) (fun y3 => cond (!(eqI y3.2 0)) (some (y3.2, (-1), (-1))) (Option.bind (r08_names fuelN a0.Mutexes) (fun y6 => cond (!(eqI y6.2 0)) (some (y6.2, (-1), (-1))) (Option.bind (r08_names fuelN a0.Conds) (fun y9 => cond (!(eqI y9.2 0)) (some (y9.2, (-1), (-1))) (Option.bind (r08_names fuelN y1.2) (fun y12 => cond (!(eqI y12.2 0)) (some (y12.2, y12.1, (-1))) (cond (orB (orB (orB (ltI 8 ((a0.Vars.length : Nat) : Int)) (ltI 4 ((a0.Mutexes.length : Nat) : Int))) (ltI 4 ((a0.Conds.length : Nat) : Int))) (ltI 8 ((a0.Funcs.length : Nat) : Int))) (some (4, (-1), (-1))) (Option.bind (α := Unit ⊕ (Int × Int × Int)) (Option.bind (r08_Check_L1 a0.Vars 0) (fun o => match o with | .inl _ => some (.inl ()) | .inr r85 => some (.inr r85))) (fun o => match o with | .inl _ => Option.bind (α := Unit ⊕ (Int × Int × Int)) (Option.bind (r08_Check_L2 a0 a0.Funcs 0) (fun o => match o with | .inl _ => some (.inl ()) | .inr r181 => some (.inr r181))) (fun o => match o with | .inl _ => Option.bind (r08_threads a0) (fun y182 => some (y182, (-1), (-1))) | .inr r184 => some r184) | .inr r185 => some r185)))))))))))

set_option maxHeartbeats 2000000 in
theorem at_r08_Check {fuelN : Nat} {a0 : Program} {r : Int × Int × Int} (hs : r08_Check fuelN a0 = some r) : At Tryd.prog 66 [.agg (eA a0)] (.tup [iV .i64 r.1, iV .i64 r.2.1, iV .i64 r.2.2]) := by
  refine at_bound (by kernel_rfl) fun hb => ?_
  have hb1 : LenOk (.sl a0.Vars.length (encL a0.Vars)) := lkc hb
  have hb2 : LenOk (.sl a0.Mutexes.length (encL a0.Mutexes)) := lkc hb
  have hb3 : LenOk (.sl a0.Conds.length (encL a0.Conds)) := lkc hb
  have hb4 : LenOk (.sl a0.Funcs.length (encL a0.Funcs)) := lkc hb
  have hb5 : LenOk (.sl a0.Threads.length (encL a0.Threads)) := lkc hb
  refine at_code mixed Tryd.func66 (by kernel_rfl) rfl (by kernel_rfl) rfl fun Q hQ => ?_
  rw [r08_Check] at hs
  refine goR f0 ?_
  revert hs; refine bK fun y1 hx2 hs => ?_
  refine cP f0 (at_r08_lists hx2) ?_
  refine goR f0 ?_
  revert hs; refine bK fun y3 hx4 hs => ?_
  refine cP f0 (at_r08_names hx4) ?_
  refine goR f0 ?_
  revert hs; refine cS f0 ?_ ?_ <;> intro h5 hs
  · refine goR f0 ?_
    obtain rfl := sj hs
    exact hQ _ _ (rg f0 (Gh.refl _))
  · refine goR f0 ?_
    revert hs; refine bK fun y6 hx7 hs => ?_
    refine cP f0 (at_r08_names hx7) ?_
    refine goR f0 ?_
    revert hs; refine cS f0 ?_ ?_ <;> intro h8 hs
    · refine goR f0 ?_
      obtain rfl := sj hs
      exact hQ _ _ (rg f0 (Gh.refl _))
    · refine goR f0 ?_
      revert hs; refine bK fun y9 hx10 hs => ?_
      refine cP f0 (at_r08_names hx10) ?_
      refine goR f0 ?_
      revert hs; refine cS f0 ?_ ?_ <;> intro h11 hs
      · refine goR f0 ?_
        obtain rfl := sj hs
        exact hQ _ _ (rg f0 (Gh.refl _))
      · refine goR f0 ?_
        revert hs; refine bK fun y12 hx13 hs => ?_
        refine cP f0 (at_r08_names hx13) ?_
        refine goR f0 ?_
        revert hs; refine cS f0 ?_ ?_ <;> intro h14 hs
        · refine goR f0 ?_
          obtain rfl := sj hs
          exact hQ _ _ (rg f0 (Gh.refl _))
        · refine goG f0 f0 ?_
          revert hs; refine cS f0 ?_ ?_ <;> intro h15 hs
          · refine goG f0 f0 ?_
            obtain rfl := sj hs
            exact hQ _ _ (rg f0 (Gh.refl _))
          · refine goG2 f0 f0 ?_
            revert hs; refine bK fun o50 e49 hs => ?_
            refine awp_cutK (fun (v : Unit) (σ : St) => some (.inl v) = some o50 ∧ σ.env 1 = .cell (.ref (.o 1 0 0) 0) ∧ σ.hp (.o 1 0 0) = some (.cells (eA a0)) ∧ 12 ≤ σ.gen) (by rfl) (fun Q hK51 hX52 => ?_) (fun v σ3 hp => ?_)
            · refine goG f0 f0 ?_
              revert e49; refine bK fun o70 e69 e49 => ?_
              refine awp_loopW (fun (v : (List Var) × Nat) (σ : St) => r08_Check_L1 v.1 v.2 = some o70 ∧ v.1 = a0.Vars.drop v.2 ∧ σ.env 1 = .cell (.ref (.o 1 0 0) 0) ∧ σ.env 15 = iV .i64 ((v.2 : Nat) : Int) ∧ σ.hp (.o 1 0 0) = some (.cells (eA a0)) ∧ 12 ≤ σ.gen) (fun v => v.1.length) _ (Gh.refl _) (a0.Vars, 0) ⟨e69, by simp, pv f0, pv f0, pv f0, pg⟩ fun v σ6 hp L71 hL72 => ?_
              obtain ⟨q74, k61⟩ := v
              dsimp only at hp hL72
              obtain ⟨e69, hd73, h5_1, h5_15, g5_0, n5_g⟩ := hp
              have n5_0 : ¬ (σ6.gen = 0) := by omega
              rcases q74 with _ | ⟨x79, q75⟩
              · have hlt76 := drop_end hd73
                rw [r08_Check_L1] at e69; try dsimp only at e69
                have F1 := an h5_1 (an h5_15 (an g5_0 n5_0))
                refine goR F1 ?_
                refine condK_f (by simp [ltI]; omega) ?_
                obtain rfl := sj e69
                try dsimp only at e49
                exact hK51 () _ _ (Gh.refl _) ⟨e49, pv F1, pv F1, pg⟩
              · obtain ⟨hx78, hlt76, hd80⟩ := drop_next hd73
                have ew77 := wrap_succ hlt76 (hb1).len
                rw [r08_Check_L1] at e69; try dsimp only at e69
                have F2 := an h5_1 (an h5_15 (an g5_0 (an n5_0 (an hlt76 ew77))))
                refine goR F2 ?_
                refine condK_t (by simp [ltI]; omega) ?_
                have f81 : partCV Tryd.prog 3 (encL a0.Vars) (k61 * 2 + 1) = some (iV .i64 x79.Init) := partCV_enc hx78 (f := 1) (by simp)
                have F3 := an F2 f81
                refine goR F3 ?_
                revert e69; refine bK fun y82 hx83 e69 => ?_
                refine cP F3 (at_r08_value hx83) ?_
                refine goR F3 ?_
                revert e69; refine cS F3 ?_ ?_ <;> intro h84 e69
                · refine goR F3 ?_
                  obtain rfl := sj e69
                  try dsimp only at e49
                  obtain rfl := sj e49
                  try dsimp only at hs
                  refine hX52 _ _ (by simp) ?_
                  refine goR F3 ?_
                  obtain rfl := sj hs
                  exact hQ _ _ (rg F3 (Gh.refl _))
                · refine goR F3 ?_
                  exact hL72 (q75, (k61 + 1)) _ _ (Gh.refl _) ⟨e69, hd80, pv F3, pv F3, pv F3, pg⟩ (by simp)
            · obtain ⟨e49, h4_1, g4_0, n4_g⟩ := hp
              obtain rfl := sj e49
              try dsimp only at hs
              have n4_0 : ¬ (σ3.gen = 0) := by omega
              have F4 := an h4_1 (an g4_0 n4_0)
              refine goG2 F4 F4 ?_
              revert hs; refine bK fun o133 e132 hs => ?_
              refine awp_cutK (fun (v : Unit) (σ : St) => some (.inl v) = some o133 ∧ σ.env 1 = .cell (.ref (.o 1 0 0) 0) ∧ σ.hp (.o 1 0 0) = some (.cells (eA a0)) ∧ (σ3.gen + 1) ≤ σ.gen) (by rfl) (fun Q hK134 hX135 => ?_) (fun v σ9 hp => ?_)
              · refine goG F4 F4 ?_
                revert e132; refine bK fun o163 e162 e132 => ?_
                refine awp_loopW (fun (v : (List Func) × Nat) (σ : St) => r08_Check_L2 a0 v.1 v.2 = some o163 ∧ v.1 = a0.Funcs.drop v.2 ∧ σ.env 1 = .cell (.ref (.o 1 0 0) 0) ∧ σ.env 16 = iV .i64 ((v.2 : Nat) : Int) ∧ σ.hp (.o 1 0 0) = some (.cells (eA a0)) ∧ (σ3.gen + 1) ≤ σ.gen) (fun v => v.1.length) _ (Gh.refl _) (a0.Funcs, 0) ⟨e162, by simp, pv F4, pv F4, pv F4, pg⟩ fun v σ12 hp L164 hL165 => ?_
                obtain ⟨q167, k149⟩ := v
                dsimp only at hp hL165
                obtain ⟨e162, hd166, h11_1, h11_16, g11_0, n11_g⟩ := hp
                have n11_0 : ¬ (σ12.gen = 0) := by omega
                rcases q167 with _ | ⟨x172, q168⟩
                · have hlt169 := drop_end hd166
                  rw [r08_Check_L2] at e162; try dsimp only at e162
                  have F5 := an h11_1 (an h11_16 (an g11_0 n11_0))
                  refine goR F5 ?_
                  refine condK_f (by simp [ltI]; omega) ?_
                  obtain rfl := sj e162
                  try dsimp only at e132
                  exact hK134 () _ _ (Gh.refl _) ⟨e132, pv F5, pv F5, pg⟩
                · obtain ⟨hx171, hlt169, hd173⟩ := drop_next hd166
                  have ew170 := wrap_succ hlt169 (hb4).len
                  rw [r08_Check_L2] at e162; try dsimp only at e162
                  have F6 := an h11_1 (an h11_16 (an g11_0 (an n11_0 (an hlt169 ew170))))
                  refine goR F6 ?_
                  refine condK_t (by simp [ltI]; omega) ?_
                  have f177 : partCV Tryd.prog 24 (encL a0.Funcs) (k149 * 2) = some (.agg (eA x172)) := partCV_enc hx171 (f := 0) (by simp)
                  have F7 := an F6 f177
                  refine goD F7 ?_
                  revert e162; refine bK fun y178 hx179 e162 => ?_
                  refine cP F7 (at_r08_code hx179) ?_
                  refine goD F7 ?_
                  revert e162; refine cS F7 ?_ ?_ <;> intro h180 e162
                  · refine goD F7 ?_
                    obtain rfl := sj e162
                    try dsimp only at e132
                    obtain rfl := sj e132
                    try dsimp only at hs
                    refine hX135 _ _ (by simp) ?_
                    refine goD F7 ?_
                    obtain rfl := sj hs
                    exact hQ _ _ (rg F7 (Gh.refl _))
                  · refine goD F7 ?_
                    exact hL165 (q168, (k149 + 1)) _ _ (Gh.refl _) ⟨e162, hd173, pv F7, pv F7, pv F7, pg⟩ (by simp)
              · obtain ⟨e132, h10_1, g10_0, n10_g⟩ := hp
                obtain rfl := sj e132
                try dsimp only at hs
                have n10_0 : ¬ (σ9.gen = 0) := by omega
                have F8 := an h10_1 (an g10_0 n10_0)
                refine goG F8 F8 ?_
                revert hs; refine bK fun y182 hx183 hs => ?_
                refine cP F8 (at_r08_threads hx183) ?_
                refine goG F8 F8 ?_
                obtain rfl := sj hs
                exact hQ _ _ (rg F8 (Gh.refl _))
end Go.Dc
end
section
set_option linter.all false
namespace Go.Dc.Pl
open Go Go.Hw Go.Dc
set_option maxRecDepth 100000
theorem obj_ex (p : Program) (x : Inst) : ∃ y e, program_objects p x.Op = some y ∧ r08_exists p x = some e ∧ (!e) = orB (andB (!(ltI y 0)) (orB (ltI x.Obj 0) (!(ltI x.Obj y)))) (andB (eqI x.Op 18) (orB (ltI x.N 0) (!(ltI x.N ((p.Mutexes.length : Nat) : Int))))) := by
  simp only [program_objects, r08_exists]
  generalize x.Op = op
  have hn : ∀ n : Nat, (!andB (!ltI x.Obj 0) (ltI x.Obj (n : Int))) = andB (!ltI (n : Int) 0) (orB (ltI x.Obj 0) (!ltI x.Obj (n : Int))) := fun n => by simp [andB_d, orB_d, ltI_d]
  have hz : ∀ n : Nat, ltI (n : Int) 0 = false := fun n => by simp [ltI_d]
  by_cases h8 : op = 8; · subst h8; exact ⟨_, _, rfl, rfl, by simp [hn, hz, andB_d, orB_d, eqI_d]⟩
  by_cases h9 : op = 9; · subst h9; exact ⟨_, _, rfl, rfl, by simp [hn, hz, andB_d, orB_d, eqI_d]⟩
  by_cases h10 : op = 10; · subst h10; exact ⟨_, _, rfl, rfl, by simp [hn, hz, andB_d, orB_d, eqI_d]⟩
  by_cases h11 : op = 11; · subst h11; exact ⟨_, _, rfl, rfl, by simp [hn, hz, andB_d, orB_d, eqI_d]⟩
  by_cases h12 : op = 12; · subst h12; exact ⟨_, _, rfl, rfl, by simp [hn, hz, andB_d, orB_d, eqI_d]⟩
  by_cases h14 : op = 14; · subst h14; exact ⟨_, _, rfl, rfl, by simp [hn, hz, andB_d, orB_d, eqI_d]⟩
  by_cases h15 : op = 15; · subst h15; exact ⟨_, _, rfl, rfl, by simp [hn, hz, andB_d, orB_d, eqI_d]⟩
  by_cases h16 : op = 16; · subst h16; exact ⟨_, _, rfl, rfl, by simp [hn, hz, andB_d, orB_d, eqI_d]⟩
  by_cases h17 : op = 17; · subst h17; exact ⟨_, _, rfl, rfl, by simp [hn, hz, andB_d, orB_d, eqI_d]⟩
  by_cases h18 : op = 18
  · subst h18
    cases h : orB (ltI x.N 0) (!(ltI x.N ((p.Mutexes.length : Nat) : Int)))
    · exact ⟨_, _, rfl, rfl, by simp [hn, hz, andB_d, orB_d, eqI_d]⟩
    · exact ⟨_, _, rfl, rfl, by simp [hn, hz, andB_d, orB_d, eqI_d]⟩
  by_cases h19 : op = 19; · subst h19; exact ⟨_, _, rfl, rfl, by simp [hn, hz, andB_d, orB_d, eqI_d]⟩
  by_cases h20 : op = 20; · subst h20; exact ⟨_, _, rfl, rfl, by simp [hn, hz, andB_d, orB_d, eqI_d]⟩
  by_cases h21 : op = 21; · subst h21; exact ⟨_, _, rfl, rfl, by simp [hn, hz, andB_d, orB_d, eqI_d]⟩
  simp only [eqI_d, h8, h9, h10, h11, h12, h14, h15, h16, h17, h18, h19, h20, h21, decide_false, cond_false, Option.bind_some]
  exact ⟨_, _, rfl, rfl, by simp [andB_d, orB_d, ltI_d]⟩
def exs (p : Program) (x : Inst) : Bool := (r08_exists p x).getD false
def ci (p : Program) (x : Inst) (n : Nat) : Int := cond (!(eqI (icode x) 0)) (icode x) (cond (!(exs p x)) 11 (cond (andB (orB (eqI x.Op 4) (eqI x.Op 5)) (orB (ltI x.N 0) (ltI (n : Int) x.N))) 12 0))
theorem own_inst (fuel : Nat) (p : Program) (x : Inst) (n : Nat) : program_checkInst (fuel + 8) p x (n : Int) = some (ci p x n) := by
  obtain ⟨y, e, h1, h2, h3⟩ := obj_ex p x
  rw [program_checkInst, (check_eq fuel x).1, Option.bind_some, h1, Option.bind_some, ci, exs, h2]
  cases !(eqI (icode x) 0)
  · simp only [cond_false, Option.getD_some, h3]
    cases andB (!(ltI y 0)) (orB (ltI x.Obj 0) (!(ltI x.Obj y)))
    · cases andB (eqI x.Op 18) (orB (ltI x.N 0) (!(ltI x.N ((p.Mutexes.length : Nat) : Int))))
      · cases andB (orB (eqI x.Op 4) (eqI x.Op 5)) (orB (ltI x.N 0) (ltI (n : Int) x.N)) <;> rfl
      · rfl
    · rfl
  · rfl
/-- The first instruction of a function that is wrong. -/
def cI (p : Program) (n j : Nat) (x : Inst) : Option (Int × Int) := onlyIf (!(eqI (ci p x n) 0)) (ci p x n, (j : Int))
def cF (p : Program) (k : Nat) (f : Func) : Option (Int × Int × Int) := cond (ltI 64 ((f.Code.length : Nat) : Int)) (some (4, (k : Int), -1)) ((first (cI p f.Code.length) f.Code 0).map fun r => (r.1, (k : Int), r.2))
theorem ref_code (p : Program) (f : Func) : r08_code p f = some (cond (ltI 64 ((f.Code.length : Nat) : Int)) (4, -1) ((first (cI p f.Code.length) f.Code 0).getD (0, -1))) := by
  rw [r08_code]
  cases ltI 64 ((f.Code.length : Nat) : Int)
  · have h := srch (L := r08_code_L1 p f) (cI p f.Code.length) (fun _ => rfl) f.Code 0 fun j x hx q => by
      obtain ⟨y, e, h1, h2, h3⟩ := obj_ex p x
      rw [Nat.zero_add, r08_code_L1, (check_eq 0 x).2, Option.bind_some, h2, Option.bind_some, cI, ci, exs, h2]
      cases hc : !(eqI (icode x) 0)
      · simp only [cond_false, Option.getD_some]
        cases e
        · rfl
        · cases andB (orB (eqI x.Op 4) (eqI x.Op 5)) (orB (ltI x.N 0) (ltI ((f.Code.length : Nat) : Int) x.N)) <;> rfl
      · simp [hc]
    rw [cond_false, h]
    cases first (cI p f.Code.length) f.Code 0 <;> rfl
  · rfl
theorem cI_ne {p : Program} {n : Nat} : ∀ (l : List Inst) (k : Nat) {r : Int × Int}, first (cI p n) l k = some r → eqI r.1 0 = false
  | [], _, _, h => by cases h
  | x :: q, k, r, h => by
    rw [first_cons, cI] at h
    cases hc : !(eqI (ci p x n) 0)
    · rw [hc] at h; exact cI_ne q _ h
    · rw [hc] at h; obtain rfl := Option.some.inj h; simpa using hc
theorem cF_ne {p : Program} {k : Nat} {f : Func} {r : Int × Int × Int} (h : cF p k f = some r) : eqI r.1 0 = false := by
  rw [cF] at h
  cases hb : ltI 64 ((f.Code.length : Nat) : Int)
  · rw [hb, cond_false, Option.map_eq_some_iff] at h
    obtain ⟨y, hy, rfl⟩ := h
    exact cI_ne _ _ hy
  · rw [hb] at h; obtain rfl := Option.some.inj h; rfl
theorem first_ne {α : Type} {f : Nat → α → Option (Int × Int × Int)} (hf : ∀ k x r, f k x = some r → eqI r.1 0 = false) : ∀ (l : List α) (k : Nat) {r}, first f l k = some r → eqI r.1 0 = false
  | [], _, _, h => by cases h
  | x :: q, k, r, h => by
    rw [first_cons] at h
    cases hc : f k x with
    | none => rw [hc] at h; exact first_ne hf q _ h
    | some y => rw [hc] at h; obtain rfl := Option.some.inj h; exact hf _ _ _ hc
theorem ref_funcs (p : Program) (l : List Func) : r08_Check_L2 p l 0 = some (toS (first (cF p) l 0)) := by
  refine srch (L := r08_Check_L2 p) (cF p) (fun _ => rfl) l 0 fun j x hx q => ?_
  rw [Nat.zero_add, r08_Check_L2, ref_code, Option.bind_some, cF]
  cases ltI 64 ((x.Code.length : Nat) : Int)
  · simp only [cond_false]
    cases h : first (cI p x.Code.length) x.Code 0 with
    | none => rfl
    | some r => have := cI_ne _ _ h; simp [this]
  · rfl
end Go.Dc.Pl
end
section
set_option linter.all false
namespace Go.Dc.Pl
open Go Go.Hw Go.Dc
set_option maxRecDepth 100000
def bigF (k : Nat) (f : Func) : Option Int := onlyIf (ltI 64 ((f.Code.length : Nat) : Int)) (k : Int)
theorem big_ge : ∀ (l : List Func) (k : Nat) {r : Int}, first bigF l k = some r → (k : Int) ≤ r
  | [], _, _, h => by cases h
  | x :: q, k, r, h => by
    rw [first_cons, bigF] at h
    cases hp : ltI 64 ((x.Code.length : Nat) : Int)
    · rw [hp] at h; have := big_ge q _ h; omega
    · rw [hp] at h; obtain rfl := Option.some.inj h; omega
theorem own_big (l : List Func) : slices_IndexFunc_api_Func_program_checkCode_1 l = some ((first bigF l 0).getD (-1)) := by
  have h := srch (L := slices_IndexFunc_api_Func_program_checkCode_1_L1) bigF (fun _ => rfl) l 0 fun j x hx q => by rw [slices_IndexFunc_api_Func_program_checkCode_1_L1]; exact step_only _ _ _
  rw [slices_IndexFunc_api_Func_program_checkCode_1, h]
  cases first bigF l 0 <;> rfl
theorem own_code1 {fuel : Nat} {p : Program} {y : Int} {k : Nat} {f : Func} (hf : p.Funcs[k]? = some f) (hy : eqI (k : Int) y = false) (rest : List (ProgramPlace × Inst)) : ∀ (q : List Inst) (j : Nat),
    program_checkCode_L1 (fuel + 8) p y (insC k j q ++ rest) = match first (cI p f.Code.length) q j with | some r => some (.inr (.inr (r.1, ({ fn := (k : Int), inst := r.2 } : ProgramPlace)))) | none => program_checkCode_L1 (fuel + 8) p y rest
  | [], j => rfl
  | x :: q, j => by
    rw [insC, List.cons_append, program_checkCode_L1, hy, cond_false, getI_nat, hf, Option.bind_some, own_inst, Option.bind_some, first_cons, cI]
    cases !(eqI (ci p x f.Code.length) 0)
    · exact own_code1 hf hy rest q (j + 1)
    · rfl
def finC (y : Int) (o : Unit ⊕ (Unit ⊕ (Int × ProgramPlace))) : Option (Int × ProgramPlace) := match o with
  | .inl _ => cond (!(ltI y 0)) (some (4, ({ fn := y, inst := -1 } : ProgramPlace))) (some (0, ({ fn := -1, inst := -1 } : ProgramPlace)))
  | .inr (.inl _) => cond (!(ltI y 0)) (some (4, ({ fn := y, inst := -1 } : ProgramPlace))) (some (0, ({ fn := -1, inst := -1 } : ProgramPlace)))
  | .inr (.inr r) => some r
def plc (r : Int × Int × Int) : Int × ProgramPlace := (r.1, { fn := r.2.1, inst := r.2.2 })
theorem own_code2 {fuel : Nat} {p : Program} {y : Int} : ∀ (l : List Func) (k : Nat), l = p.Funcs.drop k → y = (first bigF l k).getD (-1) → 
    Option.bind (program_checkCode_L1 (fuel + 8) p y (insF k l)) (finC y) = some (plc ((first (cF p) l k).getD (0, -1, -1)))
  | [], k, hd, hy => by subst hy; rfl
  | f :: l, k, hd, hy => by
    obtain ⟨hf, hk, hr⟩ := drop_next hd
    rw [first_cons, cF]
    cases hb : ltI 64 ((f.Code.length : Nat) : Int)
    · have hy2 : y = (first bigF l (k + 1)).getD (-1) := by rw [hy, first_cons, bigF, hb]; rfl
      have hne : eqI (k : Int) y = false := by
        rw [hy2, eqI_d]
        cases h : first bigF l (k + 1) with
        | none => simp
        | some r => have := big_ge _ _ h; simp; omega
      rw [insF, own_code1 hf hne, cond_false]
      cases h : first (cI p f.Code.length) f.Code 0 with
      | none => exact own_code2 l (k + 1) hr hy2
      | some r => rfl
    · have hy2 : y = (k : Int) := by rw [hy, first_cons, bigF, hb]; rfl
      subst hy2
      obtain ⟨x, q, hx⟩ : ∃ x q, f.Code = x :: q := by
        cases hc : f.Code with
        | nil => rw [hc] at hb; cases hb
        | cons x q => exact ⟨x, q, rfl⟩
      rw [insF, hx, insC, List.cons_append, program_checkCode_L1, show eqI ((k : Nat) : Int) (k : Int) = true by simp [eqI], cond_true, Option.bind_some]
      simp only [finC]
      rw [show ltI (k : Int) 0 = false by simp [ltI_d]]; rfl
theorem own_code {fuel : Nat} {p : Program} (h1 : p.Funcs.length ≤ 20) (h2 : ∀ f ∈ p.Funcs, f.Code.length ≤ 100) : program_checkCode (fuel + 8) p = some (plc ((first (cF p) p.Funcs 0).getD (0, -1, -1))) := by
  have hg : (lenB p.Funcs.length && p.Funcs.all fun f => lenB f.Code.length) = true := by
    simp only [Bool.and_eq_true, List.all_eq_true, lenB_d, decide_eq_true_eq]; exact ⟨by omega, fun f hf => by have := h2 f hf; omega⟩
  rw [program_checkCode, own_big, Option.bind_some, program_instructions, Option.bind_some, it_instructions, hg, guardO_t, Option.bind_some, ← own_code2 (fuel := fuel) p.Funcs 0 rfl rfl]
  rfl
/-- Names of a program: the first that is wrong. -/
def ckN (p : Program) : Option (Int × Int) := match badName (p.Vars.map Var.Name) with
  | some r => some (r.1, -1)
  | none => match badName p.Mutexes with
    | some r => some (r.1, -1)
    | none => match badName p.Conds with
      | some r => some (r.1, -1)
      | none => badName (p.Funcs.map Func.Name)
theorem e00 : eqI 0 0 = true := rfl
theorem badName_ne {l : List ByteArray} {r : Int × Int} (h : badName l = some r) : eqI r.1 0 = false := by
  obtain ⟨j, x, _, h⟩ := first_some h
  rw [nmF] at h
  split at h
  · obtain rfl := Option.some.inj h; rfl
  · cases hc : (List.take (0 + j) l).any (eqS x)
    · rw [hc] at h; cases h
    · rw [hc] at h; obtain rfl := Option.some.inj h; rfl
theorem own_varNames {p : Program} (h : p.Vars.length ≤ 20) : program_varNames p = some (p.Vars.map Var.Name) := by
  rw [program_varNames, appM (L := program_varNames_L1) (b := 16) (m := 20) Var.Name (by decide) (fun _ _ => rfl) (fun x q a k => by rw [program_varNames_L1]; rfl) p.Vars [] 0 (by simpa using h)]; rfl
theorem own_funcNames {p : Program} (h : p.Funcs.length ≤ 20) : program_funcNames p = some (p.Funcs.map Func.Name) := by
  rw [program_funcNames, appM (L := program_funcNames_L1) (b := 16) (m := 20) Func.Name (by decide) (fun _ _ => rfl) (fun x q a k => by rw [program_funcNames_L1]; rfl) p.Funcs [] 0 (by simpa using h)]; rfl
theorem ref_lists {p : Program} (h : p.Vars.length ≤ 20) (h2 : p.Funcs.length ≤ 20) : r08_lists p = some (p.Vars.map Var.Name, p.Funcs.map Func.Name) := by
  rw [r08_lists, appM (L := r08_lists_L1) (b := 16) (m := 20) Var.Name (by decide) (fun _ _ => rfl) (fun x q a k => by rw [r08_lists_L1]; rfl) p.Vars [] 0 (by simpa using h),
    appM (L := r08_lists_L2) (b := 16) (m := 20) Func.Name (by decide) (fun _ _ => rfl) (fun x q a k => by rw [r08_lists_L2]; rfl) p.Funcs [] 0 (by simpa using h2)]; rfl
theorem own_ckNames {p : Program} (h : p.Vars.length ≤ 20) (h2 : p.Funcs.length ≤ 20) : program_checkNames p = some (match ckN p with | some r => (r.1, { fn := r.2, inst := -1 }) | none => (0, { fn := -1, inst := -1 })) := by
  rw [program_checkNames, own_varNames h, Option.bind_some, Option.bind_some, show lenB [p.Vars.map Var.Name, p.Mutexes, p.Conds].length = true from rfl, guardO_t]
  simp only [program_checkNames_L1, own_names, Option.bind_some, ckN, own_funcNames h2]
  cases hv : badName (p.Vars.map Var.Name) with
  | some r => have := badName_ne hv; simp [this]
  | none =>
    cases hm : badName p.Mutexes with
    | some r => have := badName_ne hm; simp [this, e00]
    | none =>
      cases hc : badName p.Conds with
      | some r => have := badName_ne hc; simp [this, e00]
      | none => cases hf : badName (p.Funcs.map Func.Name) <;> simp [e00]
def limP (p : Program) : Bool := orB (orB (orB (ltI 8 ((p.Vars.length : Nat) : Int)) (ltI 4 ((p.Mutexes.length : Nat) : Int))) (ltI 4 ((p.Conds.length : Nat) : Int))) (ltI 8 ((p.Funcs.length : Nat) : Int))
def badV (n : Int) : Bool := !(andB (!(ltI n (-2147483648))) (!(ltI 2147483647 n)))
def ckO (p : Program) : Int := cond (limP p) 4 (cond (p.Vars.any fun v => badV v.Init) 2 0)
theorem own_objs (p : Program) : program_checkObjects p = some (ckO p, { fn := -1, inst := -1 }) := by
  have h := srch (L := program_checkObjects_L1) (fun _ (v : Var) => onlyIf (badV v.Init) ((2 : Int), ({ fn := -1, inst := -1 } : ProgramPlace))) (fun _ => rfl) p.Vars 0 fun j x hx q => by
    rw [program_checkObjects_L1, program_value, Option.bind_some]; exact step_only _ _ _
  rw [first_onlyC] at h
  rw [program_checkObjects, h, ckO, limP]
  cases orB (orB (orB (ltI 8 ((p.Vars.length : Nat) : Int)) (ltI 4 ((p.Mutexes.length : Nat) : Int))) (ltI 4 ((p.Conds.length : Nat) : Int))) (ltI 8 ((p.Funcs.length : Nat) : Int))
  · cases p.Vars.any fun v => badV v.Init <;> rfl
  · rfl
def thF (p : Program) (x : Start) : Option Int := cond (orB (ltI x.Func 0) (!(ltI x.Func ((p.Funcs.length : Nat) : Int)))) (some 11) (onlyIf (badV x.Arg) 2)
def ckT (p : Program) : Int := cond (orB (ltI ((p.Threads.length : Nat) : Int) 1) (ltI 8 ((p.Threads.length : Nat) : Int))) 4 ((first (fun _ => thF p) p.Threads 0).getD 0)
theorem own_threads (p : Program) : program_checkThreads p = some (ckT p, { fn := -1, inst := -1 }) := by
  have h := srch (L := program_checkThreads_L1 p) (fun _ x => (thF p x).map fun r => (r, ({ fn := -1, inst := -1 } : ProgramPlace))) (fun _ => rfl) p.Threads 0 fun j x hx q => by
    rw [program_checkThreads_L1, program_value, Option.bind_some, thF]
    cases orB (ltI x.Func 0) (!(ltI x.Func ((p.Funcs.length : Nat) : Int)))
    · show cond (badV x.Arg) _ _ = _
      cases badV x.Arg <;> rfl
    · rfl
  rw [first_map (h := fun _ => thF p) (g := fun r => (r, ({ fn := -1, inst := -1 } : ProgramPlace))) _ _ (fun _ _ => rfl)] at h
  rw [program_checkThreads, h, ckT]
  cases orB (ltI ((p.Threads.length : Nat) : Int) 1) (ltI 8 ((p.Threads.length : Nat) : Int))
  · cases first (fun _ => thF p) p.Threads 0 <;> rfl
  · rfl
theorem ref_threads (p : Program) : r08_threads p = some (ckT p) := by
  have h := srch (L := r08_threads_L1 p) (fun _ x => thF p x) (fun _ => rfl) p.Threads 0 fun j x hx q => by
    rw [r08_threads_L1, r08_value, Option.bind_some, thF]
    cases orB (ltI x.Func 0) (!(ltI x.Func ((p.Funcs.length : Nat) : Int)))
    · show cond (badV x.Arg) _ _ = _
      cases badV x.Arg <;> rfl
    · rfl
  rw [r08_threads, h, ckT]
  cases orB (ltI ((p.Threads.length : Nat) : Int) 1) (ltI 8 ((p.Threads.length : Nat) : Int))
  · cases first (fun _ => thF p) p.Threads 0 <;> rfl
  · rfl
/-- What both checks answer. -/
def chk (p : Program) : Int × Int × Int := match ckN p with
  | some r => (r.1, r.2, -1)
  | none => cond (!(eqI (ckO p) 0)) (ckO p, -1, -1) (match first (cF p) p.Funcs 0 with | some r => r | none => (ckT p, -1, -1))
theorem own_check {fuel : Nat} {p : Program} (h : small p = true) : program_Check (fuel + 8) p = some (chk p) := by
  obtain ⟨s1, s2, s3, s4, s5, s6⟩ := small_t h
  rw [program_Check, own_ckNames s1 s4, Option.bind_some, own_objs, own_code s4 s6, own_threads, chk]
  cases hn : ckN p with
  | some r =>
    have : eqI r.1 0 = false := by
      rw [ckN] at hn
      split at hn
      · rename_i hb; obtain rfl := Option.some.inj hn; have := badName_ne hb; exact this
      · split at hn
        · rename_i hb; obtain rfl := Option.some.inj hn; have := badName_ne hb; exact this
        · split at hn
          · rename_i hb; obtain rfl := Option.some.inj hn; have := badName_ne hb; exact this
          · exact badName_ne hn
    simp [this]
  | none =>
    simp only [show eqI 0 0 = true from rfl, cond_true, Option.bind_some]
    cases ho : eqI (ckO p) 0
    · simp [ho]
    · cases hf : first (cF p) p.Funcs 0 with
      | some r => have := first_ne (fun k x r h => cF_ne h) _ _ hf; simp [plc, this]
      | none =>
        simp only [Option.getD_none, plc, show eqI 0 0 = true from rfl, cond_true, Option.bind_some, Bool.not_true, cond_false]
        cases ht : eqI (ckT p) 0
        · rfl
        · have : ckT p = 0 := by simpa [eqI] using ht
          simp [this]
theorem ref_check {fuel : Nat} {p : Program} (h : small p = true) (hf : 21 ≤ fuel) : r08_Check fuel p = some (chk p) := by
  obtain ⟨s1, s2, s3, s4, s5, s6⟩ := small_t h
  have hv := srch (L := r08_Check_L1) (fun _ (v : Var) => onlyIf (badV v.Init) ((2 : Int), (-1 : Int), (-1 : Int))) (fun _ => rfl) p.Vars 0 fun j x hx q => by
    rw [r08_Check_L1, r08_value, Option.bind_some]; exact step_only _ _ _
  rw [first_onlyC] at hv
  rw [r08_Check, ref_lists s1 s4, Option.bind_some, ref_names (by simp; omega) (by simp; omega), Option.bind_some, ref_names (by omega) (by omega), Option.bind_some, ref_names (by omega) (by omega), Option.bind_some, ref_names (by simp; omega) (by simp; omega), Option.bind_some, hv, ref_funcs, ref_threads, chk, ckN]
  cases hv : badName (p.Vars.map Var.Name) with
  | some r => have := badName_ne hv; simp [this]
  | none =>
    cases hm : badName p.Mutexes with
    | some r => have := badName_ne hm; simp [this, e00]
    | none =>
      cases hc : badName p.Conds with
      | some r => have := badName_ne hc; simp [this, e00]
      | none =>
        cases hf : badName (p.Funcs.map Func.Name) with
        | some r => have := badName_ne hf; simp [this, e00]
        | none =>
          simp only [show (!(eqI 0 0)) = false from rfl, cond_false, ckO]
          show cond (limP p) _ _ = _
          cases limP p
          · cases p.Vars.any fun v => badV v.Init
            · cases hf : first (cF p) p.Funcs 0 with
              | some r => rfl
              | none => rfl
            · rfl
          · rfl
end Go.Dc.Pl
end
section
set_option linter.all false
namespace Go.Dc
open Go Go.Hw Go.Proofs
set_option maxRecDepth 100000

def await_spins_1 (a0 : Inst) (a1 : Inst) (a2 : Inst) (a3 : Int) : Option Bool :=
  some (andB (andB (andB (andB (eqI a0.Op 8) (eqI a1.Op 3)) (eqI a2.Op 5)) (eqI a2.B a1.A)) (eqI a2.N a3))

set_option maxHeartbeats 2000000 in
theorem at_await_spins_1 {a0 : Inst} {a1 : Inst} {a2 : Inst} {a3 : Int} {r : Bool} (hs : await_spins_1 a0 a1 a2 a3 = some r) : At Tryd.prog 87 [.cell (.ep [.c (.int .i64 a0.Op), .c (.int .i64 a0.A), .c (.int .i64 a0.B), .c (.int .i64 a0.C), .c (.int .i64 a0.Obj), .c (.int .i64 a0.N), .c (.int .i64 a0.Fn), .c (.int .i64 a0.Order)] 0), .cell (.ep [.c (.int .i64 a1.Op), .c (.int .i64 a1.A), .c (.int .i64 a1.B), .c (.int .i64 a1.C), .c (.int .i64 a1.Obj), .c (.int .i64 a1.N), .c (.int .i64 a1.Fn), .c (.int .i64 a1.Order)] 0), .cell (.ep [.c (.int .i64 a2.Op), .c (.int .i64 a2.A), .c (.int .i64 a2.B), .c (.int .i64 a2.C), .c (.int .i64 a2.Obj), .c (.int .i64 a2.N), .c (.int .i64 a2.Fn), .c (.int .i64 a2.Order)] 0), .cell (.ep [.c (.int .i64 a3)] 0)] (bV r) := by
  refine at_bound (by kernel_rfl) fun hb => ?_
  refine at_code mixed Tryd.func87 (by kernel_rfl) rfl (by kernel_rfl) rfl fun Q hQ => ?_
  rw [await_spins_1] at hs
  refine goG f0 f0 ?_
  obtain rfl := sj hs
  exact hQ _ _ (rg f0 (Gh.refl _))
end Go.Dc
end
section
set_option linter.all false
namespace Go.Dc
open Go Go.Hw Go.Proofs
set_option maxRecDepth 100000

def await_spins_2 (a0 : Inst) (a1 : Int) (a2 : Int) : Option Bool :=
  some (andB (andB (!(eqB (eqI a0.B a1) (eqI a0.C a1))) (!(eqI a2 a0.A))) (orB (orB (eqI a0.Fn 7) (eqI a0.Fn 8)) (andB (eqI a0.C a1) (orB (eqI a0.Fn 9) (eqI a0.Fn 10)))))

set_option maxHeartbeats 2000000 in
theorem at_await_spins_2 {a0 : Inst} {a1 : Int} {a2 : Int} {r : Bool} (hs : await_spins_2 a0 a1 a2 = some r) : At Tryd.prog 88 [.cell (.ep [.c (.int .i64 a0.Op), .c (.int .i64 a0.A), .c (.int .i64 a0.B), .c (.int .i64 a0.C), .c (.int .i64 a0.Obj), .c (.int .i64 a0.N), .c (.int .i64 a0.Fn), .c (.int .i64 a0.Order)] 0), .cell (.ep [.c (.int .i64 a1)] 0), .cell (.ep [.c (.int .i64 a2)] 0)] (bV r) := by
  refine at_bound (by kernel_rfl) fun hb => ?_
  refine at_code mixed Tryd.func88 (by kernel_rfl) rfl (by kernel_rfl) rfl fun Q hQ => ?_
  rw [await_spins_2] at hs
  refine goG f0 f0 ?_
  obtain rfl := sj hs
  exact hQ _ _ (rg f0 (Gh.refl _))
end Go.Dc
end
section
set_option linter.all false
namespace Go.Dc
open Go Go.Hw Go.Proofs
set_option maxRecDepth 100000
def await_targeted_L1 (a1 : Int) : List Inst → Nat → Option (Unit ⊕ Bool)
  | [], k38 => some (.inl ())
  | x54 :: q50, k38 => cond (andB (orB (eqI x54.Op 4) (eqI x54.Op 5)) (eqI x54.N a1)) (some (.inr true)) (await_targeted_L1 a1 q50 (k38 + 1))

def await_targeted (a0 : Func) (a1 : Int) : Option Bool :=
  Option.bind (α := Unit ⊕ Bool) (Option.bind (await_targeted_L1 a1 a0.Code 0) (fun o => match o with | .inl _ => some (.inl ()) | .inr r58 => some (.inr r58))) (fun o => match o with | .inl _ => some false | .inr r59 => some r59)

set_option maxHeartbeats 2000000 in
theorem at_await_targeted {a0 : Func} {a1 : Int} {r : Bool} (hs : await_targeted a0 a1 = some r) : At Tryd.prog 89 [.agg (eA a0), iV .i64 a1] (bV r) := by
  refine at_bound (by kernel_rfl) fun hb => ?_
  have hb1 : LenOk (.sl a0.Code.length (encL a0.Code)) := lkc hb
  refine at_code mixed Tryd.func89 (by kernel_rfl) rfl (by kernel_rfl) rfl fun Q hQ => ?_
  rw [await_targeted] at hs
  refine goR2 f0 ?_
  revert hs; refine bK fun o29 e28 hs => ?_
  refine awp_cutK (fun (v : Unit) (σ : St) => some (.inl v) = some o29 ∧ 2 ≤ σ.gen) (by rfl) (fun Q hK30 hX31 => ?_) (fun v σ3 hp => ?_)
  · refine goR f0 ?_
    revert e28; refine bK fun o45 e44 e28 => ?_
    refine awp_loopW (fun (v : (List Inst) × Nat) (σ : St) => await_targeted_L1 a1 v.1 v.2 = some o45 ∧ v.1 = a0.Code.drop v.2 ∧ σ.env 1 = iV .i64 a1 ∧ σ.env 8 = .cell (sC a0.Code) ∧ σ.env 9 = iV .i64 ((a0.Code.length : Nat) : Int) ∧ σ.env 10 = iV .i64 ((v.2 : Nat) : Int) ∧ 2 ≤ σ.gen) (fun v => v.1.length) _ (Gh.refl _) (a0.Code, 0) ⟨e44, by simp, pv f0, pv f0, pv f0, pv f0, pg⟩ fun v σ6 hp L46 hL47 => ?_
    obtain ⟨q49, k38⟩ := v
    dsimp only at hp hL47
    obtain ⟨e44, hd48, h5_1, h5_8, h5_9, h5_10, n5_g⟩ := hp
    rcases q49 with _ | ⟨x54, q50⟩
    · have hlt51 := drop_end hd48
      rw [await_targeted_L1] at e44; try dsimp only at e44
      have F1 := an h5_1 (an h5_8 (an h5_9 h5_10))
      refine goR F1 ?_
      refine condK_f (by simp [ltI]; omega) ?_
      obtain rfl := sj e44
      try dsimp only at e28
      exact hK30 () _ _ (Gh.refl _) ⟨e28, pg⟩
    · obtain ⟨hx53, hlt51, hd55⟩ := drop_next hd48
      have ew52 := wrap_succ hlt51 (hb1).len
      rw [await_targeted_L1] at e44; try dsimp only at e44
      have F2 := an h5_1 (an h5_8 (an h5_9 (an h5_10 (an hlt51 ew52))))
      refine goR F2 ?_
      refine condK_t (by simp [ltI]; omega) ?_
      have f56 : partCV Tryd.prog 71 (encL a0.Code) (k38 * 8) = some (.agg (eA x54)) := partCV_enc hx53 (f := 0) (by simp)
      have F3 := an F2 f56
      refine goG F3 F3 ?_
      revert e44; refine cS F3 ?_ ?_ <;> intro h57 e44
      · refine goG F3 F3 ?_
        obtain rfl := sj e44
        try dsimp only at e28
        obtain rfl := sj e28
        try dsimp only at hs
        refine hX31 _ _ (by simp) ?_
        refine goG F3 F3 ?_
        obtain rfl := sj hs
        exact hQ _ _ (rg F3 (Gh.refl _))
      · refine goG F3 F3 ?_
        exact hL47 (q50, (k38 + 1)) _ _ (Gh.refl _) ⟨e44, hd55, pv F3, pv F3, pv F3, pv F3, pg⟩ (by simp)
  · obtain ⟨e28, n4_g⟩ := hp
    obtain rfl := sj e28
    try dsimp only at hs
    refine goR f0 ?_
    obtain rfl := sj hs
    exact hQ _ _ (rg f0 (Gh.refl _))
end Go.Dc
end
section
set_option linter.all false
namespace Go.Dc
open Go Go.Hw Go.Proofs
set_option maxRecDepth 100000

def await_condition (a0 : Int) : Option Int :=
  cond (eqI a0 7) (some 8) (cond (eqI a0 8) (some 7) (cond (eqI a0 9) (some 10) (some 9)))

set_option maxHeartbeats 2000000 in
theorem at_await_condition {a0 : Int} {r : Int} (hs : await_condition a0 = some r) : At Tryd.prog 90 [iV .i64 a0] (iV .i64 r) := by
  refine at_bound (by kernel_rfl) fun hb => ?_
  refine at_code mixed Tryd.func90 (by kernel_rfl) rfl (by kernel_rfl) rfl fun Q hQ => ?_
  rw [await_condition] at hs
  refine goR f0 ?_
  revert hs; refine cS f0 ?_ ?_ <;> intro h1 hs
  · refine goR f0 ?_
    obtain rfl := sj hs
    exact hQ _ _ (rg f0 (Gh.refl _))
  · refine goR f0 ?_
    revert hs; refine cS f0 ?_ ?_ <;> intro h2 hs
    · refine goR f0 ?_
      obtain rfl := sj hs
      exact hQ _ _ (rg f0 (Gh.refl _))
    · refine goR f0 ?_
      revert hs; refine cS f0 ?_ ?_ <;> intro h3 hs
      · refine goR f0 ?_
        obtain rfl := sj hs
        exact hQ _ _ (rg f0 (Gh.refl _))
      · refine goR f0 ?_
        obtain rfl := sj hs
        exact hQ _ _ (rg f0 (Gh.refl _))
end Go.Dc
end
section
set_option linter.all false
namespace Go.Dc
open Go Go.Hw Go.Proofs
set_option maxRecDepth 100000
def await_spins_L2 (i2751 : Int) (x3442 : Func) : Nat → (List AwaitSpin) → Int → Option (List AwaitSpin)
  | 0, _, _ => none
  | q3606 + 1, l3547, i3548 => cond (ltI (IntKind.i64.wrap (i3548 + 2)) ((x3442.Code.length : Nat) : Int)) (Option.bind (getI x3442.Code i3548) (fun x3620 => Option.bind (getI x3442.Code (IntKind.i64.wrap (i3548 + 1))) (fun x3623 => Option.bind (getI x3442.Code (IntKind.i64.wrap (i3548 + 2))) (fun x3626 => Option.bind (α := Int) (cond (eqI x3623.C x3620.A) (some (x3623.B)) (some (x3623.C))) (fun i3630 => Option.bind (await_spins_1 x3620 x3623 x3626 i3548) (fun y3636 => cond y3636 (Option.bind (await_spins_2 x3623 x3620.A i3630) (fun y3639 => guardO (orB (!y3639) ((await_targeted x3442 (IntKind.i64.wrap (i3548 + 1))).isSome)) (guardO (orB (!(!(orB (!y3639) ((await_targeted x3442 (IntKind.i64.wrap (i3548 + 1))).getD default)))) ((await_targeted x3442 (IntKind.i64.wrap (i3548 + 2))).isSome)) (cond (orB (orB (!y3639) ((await_targeted x3442 (IntKind.i64.wrap (i3548 + 1))).getD default)) ((await_targeted x3442 (IntKind.i64.wrap (i3548 + 2))).getD default)) (await_spins_L2 i2751 x3442 q3606 l3547 (IntKind.i64.wrap (i3548 + 1))) (Option.bind (await_condition x3623.Fn) (fun y3651 => Option.bind (some ([({ fn := i2751, first := i3548, await := ({ Op := 14, A := x3620.A, B := i3630, C := 0, Obj := x3620.Obj, N := 0, Fn := y3651, Order := x3620.Order } : Inst) } : AwaitSpin)])) (fun l3653 => guardO (limB 80 (l3547.length + l3653.length)) (Option.bind (some (l3547 ++ l3653)) (fun l3656 => await_spins_L2 i2751 x3442 q3606 l3656 (IntKind.i64.wrap (i3548 + 1))))))))))) (await_spins_L2 i2751 x3442 q3606 l3547 (IntKind.i64.wrap (i3548 + 1))))))))) (some (l3547))

def await_spins_L1 (fuelN : Nat) (a0 : Program) : Nat → (List AwaitSpin) → Int → Option (List AwaitSpin)
  | 0, _, _ => none
  | q3216 + 1, l2750, i2751 => cond (ltI i2751 ((a0.Funcs.length : Nat) : Int)) (Option.bind (α := (List AwaitSpin)) (Option.bind (getI a0.Funcs i2751) (fun x3442 => Option.bind (await_spins_L2 i2751 x3442 fuelN l2750 0) (fun l3599 => some (l3599)))) (fun l3437 => await_spins_L1 fuelN a0 q3216 l3437 (IntKind.i64.wrap (i2751 + 1)))) (some (l2750))

def await_spins (fuelN : Nat) (a0 : Program) : Option (List AwaitSpin) :=
  Option.bind (α := (List AwaitSpin)) (Option.bind (await_spins_L1 fuelN a0 fuelN [] 0) (fun l3209 => some (l3209))) (fun l1827 => some l1827)

set_option maxHeartbeats 2000000 in
theorem at_await_spins {fuelN : Nat} {a0 : Program} {r : (List AwaitSpin)} (hs : await_spins fuelN a0 = some r) : At Tryd.prog 65 [.agg (eA a0)] (.cell (sC r)) := by
  refine at_bound (by kernel_rfl) fun hb => ?_
  have hb1 : LenOk (.sl a0.Vars.length (encL a0.Vars)) := lkc hb
  have hb2 : LenOk (.sl a0.Mutexes.length (encL a0.Mutexes)) := lkc hb
  have hb3 : LenOk (.sl a0.Conds.length (encL a0.Conds)) := lkc hb
  have hb4 : LenOk (.sl a0.Funcs.length (encL a0.Funcs)) := lkc hb
  have hb5 : LenOk (.sl a0.Threads.length (encL a0.Threads)) := lkc hb
  refine at_code mixed Tryd.func65 (by kernel_rfl) rfl (by kernel_rfl) rfl fun Q hQ => ?_
  rw [await_spins] at hs
  refine goR2 f0 ?_
  revert hs; refine bK fun o1829 e1828 hs => ?_
  refine awp_cutK (fun (v : (List AwaitSpin)) (σ : St) => some (v) = some o1829 ∧ σ.env 3 = .cell (.sl (.l 61) 0 10 v.length) ∧ σ.hp (.l 61) = some (.pure (encL v)) ∧ 3 ≤ σ.gen) (by rfl) (fun Q hK1830 hX1831 => ?_) (fun l1827 σ91 hp => ?_)
  · refine goR f0 ?_
    revert e1828; refine bK fun o3211 e3210 e1828 => ?_
    refine awp_loopW (fun (v : Nat × (List AwaitSpin) × Int) (σ : St) => await_spins_L1 fuelN a0 v.1 v.2.1 v.2.2 = some o3211 ∧ σ.env 3 = .cell (.sl (.l 182) 0 10 v.2.1.length) ∧ σ.env 15 = .cell (sC a0.Funcs) ∧ σ.env 16 = iV .i64 ((a0.Funcs.length : Nat) : Int) ∧ σ.env 17 = iV .i64 v.2.2 ∧ σ.hp (.l 182) = some (.pure (encL v.2.1)) ∧ 3 ≤ σ.gen) (fun v => v.1) _ (Gh.void _ (.l 182) 3 10 rfl (by simp)) (fuelN, [], 0) ⟨e3210, pv f0, pv f0, pv f0, pv f0, pv f0, pg⟩ fun v σ160 hp L3212 hL3213 => ?_
    obtain ⟨q3215, l2750, i2751⟩ := v
    dsimp only at hp hL3213
    obtain ⟨e3210, h159_3, h159_15, h159_16, h159_17, g159_0, n159_g⟩ := hp
    rcases q3215 with _ | q3216
    · rw [await_spins_L1] at e3210; cases e3210
    · rw [await_spins_L1] at e3210; try dsimp only at e3210
      have F1 := an h159_3 (an h159_15 (an h159_16 (an h159_17 g159_0)))
      refine goR F1 ?_
      revert e3210; refine cS F1 ?_ ?_ <;> intro h3220 e3210
      · refine goR2 F1 ?_
        revert e3210; refine bK fun o3439 e3438 e3210 => ?_
        refine awp_cutK (fun (v : (List AwaitSpin)) (σ : St) => some (v) = some o3439 ∧ σ.env 3 = .cell (.sl (.l 221) 0 10 v.length) ∧ σ.env 15 = .cell (sC a0.Funcs) ∧ σ.env 16 = iV .i64 ((a0.Funcs.length : Nat) : Int) ∧ σ.env 17 = iV .i64 i2751 ∧ σ.hp (.l 221) = some (.pure (encL v)) ∧ (σ160.gen + 1) ≤ σ.gen) (by rfl) (fun Q hK3440 hX3441 => ?_) (fun l3437 σ171 hp => ?_)
        · revert e3438; refine bK fun x3442 hx3443 e3438 => ?_
          obtain ⟨hx3443a, hx3443b, hx3443c, hx3443d⟩ := getI_some hx3443
          have f3444 : partCV Tryd.prog 24 (encL a0.Funcs) (((i2751).toNat) * 2) = some (.agg (eA x3442)) := partCV_enc hx3443d (f := 0) (by simp)
          have F2 := an F1 f3444
          refine goR F2 ?_
          revert e3438; refine bK fun o3601 e3600 e3438 => ?_
          refine awp_loopW (fun (v : Nat × (List AwaitSpin) × Int) (σ : St) => await_spins_L2 i2751 x3442 v.1 v.2.1 v.2.2 = some o3601 ∧ σ.env 3 = .cell (.sl (.l 236) 0 10 v.2.1.length) ∧ σ.env 4 = iV .i64 i2751 ∧ σ.env 5 = .cell (.ref (.o (σ160.gen + 2) 3 0) 0) ∧ σ.env 6 = .cell (.ref (.l 237) 0) ∧ σ.env 15 = .cell (sC a0.Funcs) ∧ σ.env 16 = iV .i64 ((a0.Funcs.length : Nat) : Int) ∧ σ.env 17 = iV .i64 i2751 ∧ σ.hp (.l 236) = some (.pure (encL v.2.1)) ∧ σ.hp (.o (σ160.gen + 2) 3 0) = some (.cells (eA x3442)) ∧ σ.hp (.l 237) = some (.cells [nC v.2.2]) ∧ (σ160.gen + 3) ≤ σ.gen) (fun v => v.1) _ ((Gh.ren _ (.l 182) (.l 236) (by simp) rfl rfl).trans (Gh.ren _ (.o (σ160.gen + 3) 0 0) (.l 237) (by simp) rfl rfl)) (fuelN, l2750, 0) ⟨e3600, pv F2, pv F2, pv F2, pv F2, pv F2, pv F2, pv F2, pv F2, pv F2, pv F2, pg⟩ fun v σ180 hp L3602 hL3603 => ?_
          obtain ⟨q3605, l3547, i3548⟩ := v
          dsimp only at hp hL3603
          obtain ⟨e3600, h179_3, h179_4, h179_5, h179_6, h179_15, h179_16, h179_17, g179_0, g179_1, g179_2, n179_g⟩ := hp
          have n179_σ160gen_0 : ¬ (σ180.gen = σ160.gen) := by omega
          have n179_σ160gen_0' : ¬ (σ160.gen = σ180.gen) := by omega
          have n179_σ160gen_1 : ¬ (σ180.gen = σ160.gen + 1) := by omega
          have n179_σ160gen_1' : ¬ (σ160.gen + 1 = σ180.gen) := by omega
          have n179_σ160gen_2 : ¬ (σ180.gen = σ160.gen + 2) := by omega
          have n179_σ160gen_2' : ¬ (σ160.gen + 2 = σ180.gen) := by omega
          have n179_σ160gen_a : ∀ j, ¬ (σ180.gen + j = σ160.gen) := fun j => by omega
          have n179_σ160gen_a' : ∀ j, ¬ (σ160.gen = σ180.gen + j) := fun j => by omega
          rcases q3605 with _ | q3606
          · rw [await_spins_L2] at e3600; cases e3600
          · rw [await_spins_L2] at e3600; try dsimp only at e3600
            have F3 := an h179_3 (an h179_4 (an h179_5 (an h179_6 (an h179_15 (an h179_16 (an h179_17 (an g179_0 (an g179_1 (an g179_2 (an n179_σ160gen_0 (an n179_σ160gen_0' (an n179_σ160gen_1 (an n179_σ160gen_1' (an n179_σ160gen_2 (an n179_σ160gen_2' (an n179_σ160gen_a (an n179_σ160gen_a' f3444)))))))))))))))))
            refine goR F3 ?_
            revert e3600; refine cS F3 ?_ ?_ <;> intro h3610 e3600
            · refine goR2 F3 ?_
              refine awp_block ?_
              revert e3600; refine bK fun x3620 hx3621 e3600 => ?_
              obtain ⟨hx3621a, hx3621b, hx3621c, hx3621d⟩ := getI_some hx3621
              have f3622 : partCV Tryd.prog 71 (encL x3442.Code) (((i3548).toNat) * 8) = some (.agg (eA x3620)) := partCV_enc hx3621d (f := 0) (by simp)
              revert e3600; refine bK fun x3623 hx3624 e3600 => ?_
              obtain ⟨hx3624a, hx3624b, hx3624c, hx3624d⟩ := getI_some hx3624
              have f3625 : partCV Tryd.prog 71 (encL x3442.Code) (((IntKind.i64.wrap (i3548 + 1)).toNat) * 8) = some (.agg (eA x3623)) := partCV_enc hx3624d (f := 0) (by simp)
              revert e3600; refine bK fun x3626 hx3627 e3600 => ?_
              obtain ⟨hx3627a, hx3627b, hx3627c, hx3627d⟩ := getI_some hx3627
              have f3628 : partCV Tryd.prog 71 (encL x3442.Code) (((IntKind.i64.wrap (i3548 + 2)).toNat) * 8) = some (.agg (eA x3626)) := partCV_enc hx3627d (f := 0) (by simp)
              have F4 := an F3 (an f3622 (an f3625 f3628))
              refine goD2 F4 ?_
              revert e3600; refine bK fun o3632 e3631 e3600 => ?_
              refine awp_cutK (fun (v : Int) (σ : St) => some (v) = some o3632 ∧ σ.env 3 = .cell (.sl (.l 236) 0 10 l3547.length) ∧ σ.env 4 = iV .i64 i2751 ∧ σ.env 5 = .cell (.ref (.o (σ160.gen + 2) 3 0) 0) ∧ σ.env 6 = .cell (.ref (.l 237) 0) ∧ σ.env 7 = .cell (.ref (.o (σ180.gen + 2) 17 0) 0) ∧ σ.env 8 = .cell (.ref (.o (σ180.gen + 2) 18 0) 0) ∧ σ.env 9 = .cell (.ref (.o (σ180.gen + 2) 19 0) 0) ∧ σ.env 10 = .cell (.ref (.o (σ180.gen + 3) 4 0) 0) ∧ σ.env 11 = .cell (.ref (.o (σ180.gen + 3) 5 0) 0) ∧ σ.env 15 = .cell (sC a0.Funcs) ∧ σ.env 16 = iV .i64 ((a0.Funcs.length : Nat) : Int) ∧ σ.env 17 = iV .i64 i2751 ∧ σ.hp (.l 236) = some (.pure (encL l3547)) ∧ σ.hp (.o (σ160.gen + 2) 3 0) = some (.cells (eA x3442)) ∧ σ.hp (.l 237) = some (.cells [nC i3548]) ∧ σ.hp (.o (σ180.gen + 2) 17 0) = some (.cells (eA x3620)) ∧ σ.hp (.o (σ180.gen + 2) 18 0) = some (.cells (eA x3623)) ∧ σ.hp (.o (σ180.gen + 2) 19 0) = some (.cells (eA x3626)) ∧ σ.hp (.o (σ180.gen + 3) 4 0) = some (.cells [nC x3620.A]) ∧ σ.hp (.o (σ180.gen + 3) 5 0) = some (.cells [nC v]) ∧ (σ180.gen + 4) ≤ σ.gen) (by rfl) (fun Q hK3633 hX3634 => ?_) (fun i3630 σ181 hp => ?_)
              · refine goD F4 ?_
                revert e3631; refine cS F4 ?_ ?_ <;> intro h3635 e3631
                · refine goD F4 ?_
                  exact hK3633 x3623.B _ _ (Gh.refl _) ⟨e3631, pv F4, pv F4, pv F4, pv F4, pv F4, pv F4, pv F4, pv F4, pv F4, pv F4, pv F4, pv F4, pv F4, pv F4, pv F4, pv F4, pv F4, pv F4, pv F4, pv F4, pg⟩
                · refine goD F4 ?_
                  exact hK3633 x3623.C _ _ (Gh.refl _) ⟨e3631, pv F4, pv F4, pv F4, pv F4, pv F4, pv F4, pv F4, pv F4, pv F4, pv F4, pv F4, pv F4, pv F4, pv F4, pv F4, pv F4, pv F4, pv F4, pv F4, pv F4, pg⟩
              · obtain ⟨e3631, h182_3, h182_4, h182_5, h182_6, h182_7, h182_8, h182_9, h182_10, h182_11, h182_15, h182_16, h182_17, g182_0, g182_1, g182_2, g182_3, g182_4, g182_5, g182_6, g182_7, n182_g⟩ := hp
                obtain rfl := sj e3631
                try dsimp only at e3600
                have n182_σ160gen_0 : ¬ (σ181.gen = σ160.gen) := by omega
                have n182_σ160gen_0' : ¬ (σ160.gen = σ181.gen) := by omega
                have n182_σ160gen_1 : ¬ (σ181.gen = σ160.gen + 1) := by omega
                have n182_σ160gen_1' : ¬ (σ160.gen + 1 = σ181.gen) := by omega
                have n182_σ160gen_2 : ¬ (σ181.gen = σ160.gen + 2) := by omega
                have n182_σ160gen_2' : ¬ (σ160.gen + 2 = σ181.gen) := by omega
                have n182_σ160gen_a : ∀ j, ¬ (σ181.gen + j = σ160.gen) := fun j => by omega
                have n182_σ160gen_a' : ∀ j, ¬ (σ160.gen = σ181.gen + j) := fun j => by omega
                have n182_σ180gen_0 : ¬ (σ181.gen = σ180.gen) := by omega
                have n182_σ180gen_0' : ¬ (σ180.gen = σ181.gen) := by omega
                have n182_σ180gen_1 : ¬ (σ181.gen = σ180.gen + 1) := by omega
                have n182_σ180gen_1' : ¬ (σ180.gen + 1 = σ181.gen) := by omega
                have n182_σ180gen_2 : ¬ (σ181.gen = σ180.gen + 2) := by omega
                have n182_σ180gen_2' : ¬ (σ180.gen + 2 = σ181.gen) := by omega
                have n182_σ180gen_3 : ¬ (σ181.gen = σ180.gen + 3) := by omega
                have n182_σ180gen_3' : ¬ (σ180.gen + 3 = σ181.gen) := by omega
                have n182_σ180gen_a : ∀ j, ¬ (σ181.gen + j = σ180.gen) := fun j => by omega
                have n182_σ180gen_a' : ∀ j, ¬ (σ180.gen = σ181.gen + j) := fun j => by omega
                have F5 := an h182_3 (an h182_4 (an h182_5 (an h182_6 (an h182_7 (an h182_8 (an h182_9 (an h182_10 (an h182_11 (an h182_15 (an h182_16 (an h182_17 (an g182_0 (an g182_1 (an g182_2 (an g182_3 (an g182_4 (an g182_5 (an g182_6 (an g182_7 (an n182_σ160gen_0 (an n182_σ160gen_0' (an n182_σ160gen_1 (an n182_σ160gen_1' (an n182_σ160gen_2 (an n182_σ160gen_2' (an n182_σ160gen_a (an n182_σ160gen_a' (an n182_σ180gen_0 (an n182_σ180gen_0' (an n182_σ180gen_1 (an n182_σ180gen_1' (an n182_σ180gen_2 (an n182_σ180gen_2' (an n182_σ180gen_3 (an n182_σ180gen_3' (an n182_σ180gen_a (an n182_σ180gen_a' (an f3444 (an f3622 (an f3625 f3628))))))))))))))))))))))))))))))))))))))))
                refine goD F5 ?_
                revert e3600; refine bK fun y3636 hx3637 e3600 => ?_
                refine cA F5 (at_await_spins_1 hx3637) ?_
                have F6 := an F5 (an hx3443a (an hx3443b (an hx3621a (an hx3621b (an hx3624a (an hx3624b (an hx3627a hx3627b)))))))
                refine goE F5 F6 ?_
                refine gsel_split (fun h3638 => ?_) (fun h3638 => ?_)
                · replace e3600 := condT h3638 e3600
                  have F7 := an F5 h3638
                  have F8 := an F7 (an hx3443a (an hx3443b (an hx3621a (an hx3621b (an hx3624a (an hx3624b (an hx3627a hx3627b)))))))
                  refine goE F7 F8 ?_
                  revert e3600; refine bK fun y3639 hx3640 e3600 => ?_
                  refine cA F7 (at_await_spins_2 hx3640) ?_
                  refine goE F7 F8 ?_
                  obtain ⟨g3641, e3600⟩ := guardO_some e3600
                  refine gsel_call (fun hg => at_await_targeted (under_call g3641 hg)) (fun hg => by (try simp at hg); (first | simp [hg, F7]); try rfl) (fun hg => by (try simp at hg); simp [hg, F7]) (by simp) ?_
                  refine goE F7 F8 ?_
                  obtain ⟨g3642, e3600⟩ := guardO_some e3600
                  refine gsel_call (fun hg => at_await_targeted (under_call g3642 hg)) (fun hg => by (try simp at hg); (first | simp [hg, F7]); try rfl) (fun hg => by (try simp at hg); simp [hg, F7]) (by simp) ?_
                  refine goE F7 F8 ?_
                  revert e3600; refine cS F7 ?_ ?_ <;> intro h3643 e3600
                  · refine goE F7 F8 ?_
                    exact hL3603 (q3606, l3547, IntKind.i64.wrap (i3548 + 1)) _ _ (Gh.ren _ (.o (σ181.gen + 5) 0 0) (.l 237) (by simp) rfl rfl) ⟨e3600, pv F7, pv F7, pv F7, pv F7, pv F7, pv F7, pv F7, pv F7, pv F7, pv F7, pg⟩ (by omega)
                  · refine goE F7 F8 ?_
                    revert e3600; refine bK fun y3651 hx3652 e3600 => ?_
                    refine cP F7 (at_await_condition hx3652) ?_
                    revert e3600; refine lK fun l3653 hx3654 e3600 => ?_
                    have hx3654n : l3653.length = 1 := by rw [hx3654]; rfl
                    obtain ⟨g3655, e3600⟩ := guardO_some e3600
                    have g3655 := limB_t g3655
                    obtain ⟨g3655a, g3655b⟩ := g3655
                    revert e3600; refine lK fun l3656 hx3657 e3600 => ?_
                    have hx3657n : l3656.length = (l3547.length + l3653.length) := by rw [hx3657]; simp
                    have hx3657e : encL l3656 = encL l3547 ++ encL l3653 := by rw [hx3657]; simp
                    have F9 := an F7 (an hx3654 (an hx3657n hx3657e))
                    have F10 := an F9 (an hx3443a (an hx3443b (an hx3621a (an hx3621b (an hx3624a (an hx3624b (an hx3627a hx3627b)))))))
                    refine goE F9 F10 ?_
                    exact hL3603 (q3606, l3656, IntKind.i64.wrap (i3548 + 1)) _ _ ((Gh.ren _ (.o (σ181.gen + 4) 16 0) (.l 236) (by simp) rfl rfl).trans (Gh.ren _ (.o (σ181.gen + 6) 0 0) (.l 237) (by simp) rfl rfl)) ⟨e3600, pv F9, pv F9, pv F9, pv F9, pv F9, pv F9, pv F9, pv F9, pv F9, pv F9, pg⟩ (by omega)
                · replace e3600 := condF h3638 e3600
                  have F11 := an F5 h3638
                  have F12 := an F11 (an hx3443a (an hx3443b (an hx3621a (an hx3621b (an hx3624a (an hx3624b (an hx3627a hx3627b)))))))
                  refine goE F11 F12 ?_
                  refine goR F11 ?_
                  exact hL3603 (q3606, l3547, IntKind.i64.wrap (i3548 + 1)) _ _ (Gh.ren _ (.o (σ181.gen + 5) 0 0) (.l 237) (by simp) rfl rfl) ⟨e3600, pv F11, pv F11, pv F11, pv F11, pv F11, pv F11, pv F11, pv F11, pv F11, pv F11, pg⟩ (by omega)
            · refine goR F3 ?_
              obtain rfl := sj e3600
              try dsimp only at e3438
              exact hK3440 l3547 _ _ (Gh.ren _ (.l 236) (.l 221) (by simp) rfl rfl) ⟨e3438, pv F3, pv F3, pv F3, pv F3, pv F3, pg⟩
        · obtain ⟨e3438, h172_3, h172_15, h172_16, h172_17, g172_0, n172_g⟩ := hp
          obtain rfl := sj e3438
          try dsimp only at e3210
          have F13 := an h172_3 (an h172_15 (an h172_16 (an h172_17 g172_0)))
          refine goR F13 ?_
          exact hL3213 (q3216, l3437, IntKind.i64.wrap (i2751 + 1)) _ _ (Gh.ren _ (.l 221) (.l 182) (by simp) rfl rfl) ⟨e3210, pv F13, pv F13, pv F13, pv F13, pv F13, pg⟩ (by omega)
      · refine goR F1 ?_
        obtain rfl := sj e3210
        try dsimp only at e1828
        exact hK1830 l2750 _ _ (Gh.ren _ (.l 182) (.l 61) (by simp) rfl rfl) ⟨e1828, pv F1, pv F1, pg⟩
  · obtain ⟨e1828, h92_3, g92_0, n92_g⟩ := hp
    obtain rfl := sj e1828
    try dsimp only at hs
    have F14 := an h92_3 g92_0
    refine goR F14 ?_
    obtain rfl := sj hs
    exact hQ _ _ (rg F14 (Gh.frz _ (.l 61)))
end Go.Dc
end
section
set_option linter.all false
namespace Go.Dc
open Go Go.Hw Go.Proofs
set_option maxRecDepth 100000
def await_Find_L1 : List AwaitSpin → (List Spin) → Nat → Option (List Spin)
  | [], l64, k65 => some (l64)
  | x86 :: q82, l64, k65 => Option.bind (some ([({ Func := x86.fn, First := x86.first, Last := IntKind.i64.wrap (x86.first + 2) } : Spin)])) (fun l90 => guardO (limB 24 (l64.length + l90.length)) (Option.bind (some (l64 ++ l90)) (fun l93 => await_Find_L1 q82 l93 (k65 + 1))))

def await_Find (fuelN : Nat) (a0 : Program) : Option ((List Spin) × Int) :=
  Option.bind (program_Check fuelN a0) (fun y1 => cond (!(eqI y1.1 0)) (some ([], y1.1)) (Option.bind (await_spins fuelN a0) (fun y4 => Option.bind (α := (List Spin)) (guardO (lenB y4.length) (Option.bind (await_Find_L1 y4 [] 0) (fun l75 => some (l75)))) (fun l48 => some (l48, 0)))))

set_option maxHeartbeats 2000000 in
theorem at_await_Find {fuelN : Nat} {a0 : Program} {r : (List Spin) × Int} (hs : await_Find fuelN a0 = some r) : At Tryd.prog 36 [.agg (eA a0)] (.tup [.cell (sC r.1), iV .i64 r.2]) := by
  refine at_bound (by kernel_rfl) fun hb => ?_
  have hb1 : LenOk (.sl a0.Vars.length (encL a0.Vars)) := lkc hb
  have hb2 : LenOk (.sl a0.Mutexes.length (encL a0.Mutexes)) := lkc hb
  have hb3 : LenOk (.sl a0.Conds.length (encL a0.Conds)) := lkc hb
  have hb4 : LenOk (.sl a0.Funcs.length (encL a0.Funcs)) := lkc hb
  have hb5 : LenOk (.sl a0.Threads.length (encL a0.Threads)) := lkc hb
  refine at_code mixed Tryd.func36 (by kernel_rfl) rfl (by kernel_rfl) rfl fun Q hQ => ?_
  rw [await_Find] at hs
  refine goR f0 ?_
  revert hs; refine bK fun y1 hx2 hs => ?_
  refine cP f0 (at_program_Check hx2) ?_
  refine goR f0 ?_
  revert hs; refine cS f0 ?_ ?_ <;> intro h3 hs
  · refine goR f0 ?_
    obtain rfl := sj hs
    exact hQ _ _ (rg f0 (Gh.unz _))
  · refine goR f0 ?_
    revert hs; refine bK fun y4 hx5 hs => ?_
    refine cP f0 (at_await_spins hx5) ?_
    refine goR2 f0 ?_
    revert hs; refine bK fun o50 e49 hs => ?_
    refine awp_cutK (fun (v : (List Spin)) (σ : St) => some (v) = some o50 ∧ σ.env 7 = .cell (.sl (.l 2) 0 3 v.length) ∧ σ.hp (.l 2) = some (.pure (encL v)) ∧ 5 ≤ σ.gen) (by rfl) (fun Q hK51 hX52 => ?_) (fun l48 σ3 hp => ?_)
    · refine goR f0 ?_
      obtain ⟨hb87, e49⟩ := guardO_some e49
      revert e49; refine bK fun o77 e76 e49 => ?_
      refine awp_loopW (fun (v : (List AwaitSpin) × (List Spin) × Nat) (σ : St) => await_Find_L1 v.1 v.2.1 v.2.2 = some o77 ∧ v.1 = y4.drop v.2.2 ∧ σ.env 7 = .cell (.sl (.l 6) 0 3 v.2.1.length) ∧ σ.env 20 = .cell (sC y4) ∧ σ.env 21 = iV .i64 ((y4.length : Nat) : Int) ∧ σ.env 22 = iV .i64 ((v.2.2 : Nat) : Int) ∧ σ.hp (.l 6) = some (.pure (encL v.2.1)) ∧ 5 ≤ σ.gen) (fun v => v.1.length) _ (Gh.void _ (.l 6) 7 3 rfl (by simp)) (y4, [], 0) ⟨e76, by simp, pv f0, pv f0, pv f0, pv f0, pv f0, pg⟩ fun v σ6 hp L78 hL79 => ?_
      obtain ⟨q81, l64, k65⟩ := v
      dsimp only at hp hL79
      obtain ⟨e76, hd80, h5_7, h5_20, h5_21, h5_22, g5_0, n5_g⟩ := hp
      rcases q81 with _ | ⟨x86, q82⟩
      · have hlt83 := drop_end hd80
        rw [await_Find_L1] at e76; try dsimp only at e76
        have F1 := an h5_7 (an h5_20 (an h5_21 (an h5_22 g5_0)))
        refine goR F1 ?_
        refine condK_f (by simp [ltI]; omega) ?_
        obtain rfl := sj e76
        try dsimp only at e49
        exact hK51 l64 _ _ (Gh.ren _ (.l 6) (.l 2) (by simp) rfl rfl) ⟨e49, pv F1, pv F1, pg⟩
      · obtain ⟨hx85, hlt83, hd88⟩ := drop_next hd80
        have ew84 := wrap_succG hlt83 hb87
        rw [await_Find_L1] at e76; try dsimp only at e76
        have F2 := an h5_7 (an h5_20 (an h5_21 (an h5_22 (an g5_0 (an hlt83 ew84)))))
        refine goR F2 ?_
        refine condK_t (by simp [ltI]; omega) ?_
        have f89 : partCV Tryd.prog 100 (encL y4) (k65 * 10) = some (.agg (eA x86)) := partCV_enc hx85 (f := 0) (by simp)
        revert e76; refine lK fun l90 hx91 e76 => ?_
        have hx91n : l90.length = 1 := by rw [hx91]; rfl
        obtain ⟨g92, e76⟩ := guardO_some e76
        have g92 := limB_t g92
        obtain ⟨g92a, g92b⟩ := g92
        revert e76; refine lK fun l93 hx94 e76 => ?_
        have hx94n : l93.length = (l64.length + l90.length) := by rw [hx94]; simp
        have hx94e : encL l93 = encL l64 ++ encL l90 := by rw [hx94]; simp
        have F3 := an F2 (an f89 (an hx91 (an hx94n hx94e)))
        refine goR F3 ?_
        exact hL79 (q82, l93, (k65 + 1)) _ _ (Gh.ren _ (.o (σ6.gen + 3) 10 0) (.l 6) (by simp) rfl rfl) ⟨e76, hd88, pv F3, pv F3, pv F3, pv F3, pv F3, pg⟩ (by simp)
    · obtain ⟨e49, h4_7, g4_0, n4_g⟩ := hp
      obtain rfl := sj e49
      try dsimp only at hs
      have F4 := an h4_7 g4_0
      refine goR F4 ?_
      obtain rfl := sj hs
      exact hQ _ _ (rg F4 (Gh.frz _ (.l 2)))
end Go.Dc
end
section
set_option linter.all false
namespace Go.Dc
open Go Go.Hw Go.Proofs
set_option maxRecDepth 100000
def r14_entered_L1 (a1 : Int) : List Inst → Nat → Option (Unit ⊕ Bool)
  | [], k42 => some (.inl ())
  | x59 :: q55, k42 => cond (andB (orB (eqI x59.Op 4) (eqI x59.Op 5)) (eqI x59.N a1)) (some (.inr true)) (r14_entered_L1 a1 q55 (k42 + 1))

def r14_entered (a0 : Func) (a1 : Int) : Option Bool :=
  Option.bind (α := Unit ⊕ Bool) (Option.bind (r14_entered_L1 a1 a0.Code 0) (fun o => match o with | .inl _ => some (.inl ()) | .inr r64 => some (.inr r64))) (fun o => match o with | .inl _ => some false | .inr r65 => some r65)

end Go.Dc
end
section
set_option linter.all false
namespace Go.Dc
open Go Go.Hw Go.Proofs
set_option maxRecDepth 100000

def r14_Condition (a0 : Func) (a1 : Int) : Option (Inst × Bool) :=
  cond (orB (ltI a1 0) (ltI (IntKind.i64.wrap (((a0.Code.length : Nat) : Int) - 3)) a1)) (some (({ Op := 0, A := 0, B := 0, C := 0, Obj := 0, N := 0, Fn := 0, Order := 0 } : Inst), false)) (Option.bind (getI a0.Code a1) (fun x11 => Option.bind (getI a0.Code (IntKind.i64.wrap (a1 + 1))) (fun x14 => Option.bind (getI a0.Code (IntKind.i64.wrap (a1 + 2))) (fun x17 => cond (orB (orB (orB (orB (!(eqI x11.Op 8)) (!(eqI x14.Op 3))) (!(eqI x17.Op 5))) (!(eqI x17.B x14.A))) (!(eqI x17.N a1))) (some (({ Op := 0, A := 0, B := 0, C := 0, Obj := 0, N := 0, Fn := 0, Order := 0 } : Inst), false)) (Option.bind (r14_entered a0 (IntKind.i64.wrap (a1 + 1))) (fun y21 => guardO (orB (!(!y21)) ((r14_entered a0 (IntKind.i64.wrap (a1 + 2))).isSome)) (cond (orB (orB y21 ((r14_entered a0 (IntKind.i64.wrap (a1 + 2))).getD default)) (eqB (eqI x14.B x11.A) (eqI x14.C x11.A))) (some (({ Op := 0, A := 0, B := 0, C := 0, Obj := 0, N := 0, Fn := 0, Order := 0 } : Inst), false)) (Option.bind (α := Int) (cond (eqI x14.B x11.A) (some (x14.C)) (some (x14.B))) (fun i26 => Option.bind (α := Nat) (cond (eqI x14.Fn 7) (some (8)) (cond (eqI x14.Fn 8) (some (7)) (cond (eqI x14.Fn 9) (some (10)) (cond (eqI x14.Fn 10) (some (9)) (some (0)))))) (fun k36 => cond (orB (orB (eqI ((k36 : Nat) : Int) 0) (eqI i26 x14.A)) (andB (eqI x14.B x11.A) (orB (eqI x14.Fn 9) (eqI x14.Fn 10)))) (some (({ Op := 0, A := 0, B := 0, C := 0, Obj := 0, N := 0, Fn := 0, Order := 0 } : Inst), false)) (some (({ Op := 14, A := x11.A, B := i26, C := 0, Obj := x11.Obj, N := 0, Fn := ((k36 : Nat) : Int), Order := x11.Order } : Inst), true))))))))))))

end Go.Dc
end
section
set_option linter.all false
namespace Go.Dc
open Go Go.Hw Go.Proofs
set_option maxRecDepth 100000
def r14_Find_L2 (a0 : Program) (i750 : Int) : Nat → (List Spin) → Int → Option (List Spin)
  | 0, _, _ => none
  | q980 + 1, l958, i959 => Option.bind (getI a0.Funcs i750) (fun x984 => cond (ltI i959 ((x984.Code.length : Nat) : Int)) (Option.bind (r14_Condition x984 i959) (fun y989 => cond y989.2 (Option.bind (some ([({ Func := i750, First := i959, Last := IntKind.i64.wrap (i959 + 2) } : Spin)])) (fun l992 => guardO (limB 24 (l958.length + l992.length)) (Option.bind (some (l958 ++ l992)) (fun l995 => r14_Find_L2 a0 i750 q980 l995 (IntKind.i64.wrap (i959 + 1)))))) (r14_Find_L2 a0 i750 q980 l958 (IntKind.i64.wrap (i959 + 1))))) (some (l958)))

def r14_Find_L1 (fuelN : Nat) (a0 : Program) : Nat → (List Spin) → Int → Option (List Spin)
  | 0, _, _ => none
  | q879 + 1, l749, i750 => cond (ltI i750 ((a0.Funcs.length : Nat) : Int)) (Option.bind (α := (List Spin)) (Option.bind (r14_Find_L2 a0 i750 fuelN l749 0) (fun l973 => some (l973))) (fun l938 => r14_Find_L1 fuelN a0 q879 l938 (IntKind.i64.wrap (i750 + 1)))) (some (l749))

def r14_Find (fuelN : Nat) (a0 : Program) : Option ((List Spin) × Int) :=
  Option.bind (r08_Check fuelN a0) (fun y1 => cond (!(eqI y1.1 0)) (some ([], y1.1)) (Option.bind (α := (List Spin)) (Option.bind (r14_Find_L1 fuelN a0 fuelN [] 0) (fun l872 => some (l872))) (fun l498 => some (l498, 0))))

end Go.Dc
end
section
set_option linter.all false
namespace Go.Dc
open Go Go.Hw Go.Proofs
set_option maxRecDepth 100000
def r14_Same_L1 (a1 : List Spin) : List Spin → Nat → Option (Unit ⊕ Bool)
  | [], k73 => some (.inl ())
  | x98 :: q94, k73 => Option.bind (a1[k73]?) (fun x105 => cond (!(andB (eqI x98.Func x105.Func) (andB (eqI x98.First x105.First) (andB (eqI x98.Last x105.Last) true)))) (some (.inr false)) (r14_Same_L1 a1 q94 (k73 + 1)))

def r14_Same (a0 : List Spin) (a1 : List Spin) : Option Bool :=
  cond (!(eqI ((a0.length : Nat) : Int) ((a1.length : Nat) : Int))) (some false) (Option.bind (α := Unit ⊕ Bool) (Option.bind (r14_Same_L1 a1 a0 0) (fun o => match o with | .inl _ => some (.inl ()) | .inr r109 => some (.inr r109))) (fun o => match o with | .inl _ => some true | .inr r110 => some r110))

set_option maxHeartbeats 2000000 in
theorem at_r14_Same {a0 : List Spin} {a1 : List Spin} {r : Bool} (hs : r14_Same a0 a1 = some r) : At Tryd.prog 38 [.cell (sC a0), .cell (sC a1)] (bV r) := by
  refine at_bound (by kernel_rfl) fun hb => ?_
  have hb1 : LenOk (.sl a0.length (encL a0)) := lkc hb
  have hb2 : LenOk (.sl a1.length (encL a1)) := lkc hb
  refine at_code mixed Tryd.func38 (by kernel_rfl) rfl (by kernel_rfl) rfl fun Q hQ => ?_
  rw [r14_Same] at hs
  refine goR f0 ?_
  revert hs; refine cS f0 ?_ ?_ <;> intro h1 hs
  · refine goR f0 ?_
    obtain rfl := sj hs
    exact hQ _ _ (rg f0 (Gh.refl _))
  · refine goR2 f0 ?_
    revert hs; refine bK fun o55 e54 hs => ?_
    refine awp_cutK (fun (v : Unit) (σ : St) => some (.inl v) = some o55 ∧ 3 ≤ σ.gen) (by rfl) (fun Q hK56 hX57 => ?_) (fun v σ3 hp => ?_)
    · refine goR f0 ?_
      revert e54; refine bK fun o89 e88 e54 => ?_
      refine awp_loopW (fun (v : (List Spin) × Nat) (σ : St) => r14_Same_L1 a1 v.1 v.2 = some o89 ∧ v.1 = a0.drop v.2 ∧ σ.env 0 = .cell (sC a0) ∧ σ.env 1 = .cell (sC a1) ∧ σ.env 5 = iV .i64 ((v.2 : Nat) : Int) ∧ 3 ≤ σ.gen) (fun v => v.1.length) _ (Gh.refl _) (a0, 0) ⟨e88, by simp, pv f0, pv f0, pv f0, pg⟩ fun v σ6 hp L90 hL91 => ?_
      obtain ⟨q93, k73⟩ := v
      dsimp only at hp hL91
      obtain ⟨e88, hd92, h5_0, h5_1, h5_5, n5_g⟩ := hp
      rcases q93 with _ | ⟨x98, q94⟩
      · have hlt95 := drop_end hd92
        rw [r14_Same_L1] at e88; try dsimp only at e88
        have F1 := an h5_0 (an h5_1 h5_5)
        refine goR F1 ?_
        refine condK_f (by simp [ltI]; omega) ?_
        obtain rfl := sj e88
        try dsimp only at e54
        exact hK56 () _ _ (Gh.refl _) ⟨e54, pg⟩
      · obtain ⟨hx97, hlt95, hd99⟩ := drop_next hd92
        have ew96 := wrap_succ hlt95 (hb1).len
        rw [r14_Same_L1] at e88; try dsimp only at e88
        have F2 := an h5_0 (an h5_1 (an h5_5 (an hlt95 ew96)))
        refine goR F2 ?_
        refine condK_t (by simp [ltI]; omega) ?_
        have f104 : partCV Tryd.prog 66 (encL a0) (k73 * 3) = some (.agg (eA x98)) := partCV_enc hx97 (f := 0) (by simp)
        revert e88; refine bK fun x105 hx106 e88 => ?_
        have hx106b := getN_some hx106
        have f107 : partCV Tryd.prog 66 (encL a1) (k73 * 3) = some (.agg (eA x105)) := partCV_enc hx106 (f := 0) (by simp)
        have F3 := an F2 (an f104 f107)
        refine goD F3 ?_
        revert e88; refine cS F3 ?_ ?_ <;> intro h108 e88
        · refine goD F3 ?_
          obtain rfl := sj e88
          try dsimp only at e54
          obtain rfl := sj e54
          try dsimp only at hs
          refine hX57 _ _ (by simp) ?_
          refine goD F3 ?_
          obtain rfl := sj hs
          exact hQ _ _ (rg F3 (Gh.refl _))
        · refine goD F3 ?_
          exact hL91 (q94, (k73 + 1)) _ _ (Gh.refl _) ⟨e88, hd99, pv F3, pv F3, pv F3, pg⟩ (by simp)
    · obtain ⟨e54, n4_g⟩ := hp
      obtain rfl := sj e54
      try dsimp only at hs
      refine goR f0 ?_
      obtain rfl := sj hs
      exact hQ _ _ (rg f0 (Gh.refl _))
end Go.Dc
end
section
set_option linter.all false
namespace Go.Dc.Pl
open Go Go.Hw Go.Dc
set_option maxRecDepth 100000
def brTo (n : Int) (x : Inst) : Bool := andB (orB (eqI x.Op 4) (eqI x.Op 5)) (eqI x.N n)
theorem targeted_eq (f : Func) (n : Int) : await_targeted f n = some (f.Code.any (brTo n)) := by
  have h := srch (L := await_targeted_L1 n) (fun _ x => onlyIf (brTo n x) true) (fun _ => rfl) f.Code 0 fun j x hx q => by rw [await_targeted_L1]; exact step_only _ _ _
  rw [first_onlyC] at h
  rw [await_targeted, h]
  cases f.Code.any (brTo n) <;> rfl
def zeroI : Inst := { Op := 0, A := 0, B := 0, C := 0, Obj := 0, N := 0, Fn := 0, Order := 0 }
def conF (n : Int) : Int := cond (eqI n 7) 8 (cond (eqI n 8) 7 (cond (eqI n 9) 10 9))
/-- The await that stands for the pattern at i. -/
def pat (f : Func) (i : Nat) (a b c : Inst) : Bool :=
  andB (andB (andB (andB (andB (eqI a.Op 8) (eqI b.Op 3)) (eqI c.Op 5)) (eqI c.B b.A)) (eqI c.N (i : Int))) (andB (!(f.Code.any (brTo ((i + 1 : Nat) : Int)))) (andB (!(f.Code.any (brTo ((i + 2 : Nat) : Int))))
    (andB (!(eqB (eqI b.B a.A) (eqI b.C a.A))) (andB (!(eqI (cond (eqI b.C a.A) b.B b.C) b.A)) (orB (orB (eqI b.Fn 7) (eqI b.Fn 8)) (andB (eqI b.C a.A) (orB (eqI b.Fn 9) (eqI b.Fn 10))))))))
def awI (a b : Inst) : Inst := { Op := 14, A := a.A, B := cond (eqI b.C a.A) b.B b.C, C := 0, Obj := a.Obj, N := 0, Fn := conF b.Fn, Order := a.Order }
def awF (f : Func) (i : Nat) : Option Inst := match f.Code[i]?, f.Code[i + 1]?, f.Code[i + 2]? with
  | some a, some b, some c => onlyIf (pat f i a b c) (awI a b)
  | _, _, _ => none
theorem awF_hi {f : Func} {i : Nat} (h : f.Code.length ≤ i + 2) : awF f i = none := by
  rw [awF]; split
  · rename_i h3; have := getN_some h3; omega
  · rfl
theorem con_eq (n : Int) : await_condition n = some (conF n) := by
  rw [await_condition, conF]; cases eqI n 7 <;> cases eqI n 8 <;> cases eqI n 9 <;> rfl
def spinO (k : Nat) (f : Func) (i : Nat) : List AwaitSpin := match awF f i with | some x => [{ fn := (k : Int), first := (i : Int), await := x }] | none => []
theorem spinO_le (k : Nat) (f : Func) (i : Nat) : (spinO k f i).length ≤ 1 := by rw [spinO]; split <;> simp
def spinsOf (k : Nat) (f : Func) : List AwaitSpin := (List.range f.Code.length).flatMap (spinO k f)
def spins (p : Program) : List AwaitSpin := (List.range p.Funcs.length).flatMap fun k => spinsOf k (gd p.Funcs k)
theorem limB80 {n : Nat} (h : n ≤ 100000) : limB 80 n = true := limB_of h (by decide)
theorem spins_L2 {f : Func} {fuel k : Nat} {s : List AwaitSpin} (hl : f.Code.length ≤ 100) (hf : 200 ≤ fuel) (hs : s.length ≤ 10000) : await_spins_L2 (k : Int) f fuel s 0 = some (s ++ spinsOf k f) := by
  have hw : ∀ i : Nat, i < 1000 → IntKind.i64.wrap ((i : Int) + 2) = ((i + 2 : Nat) : Int) := fun i hi => by rw [wrap_i64 (by omega) (by omega)]; simp
  have h := gathN (L := await_spins_L2 (k : Int) f) (f.Code.length - 2) s.length 1 (spinO k f) (spinO_le k f) (fun q s' => by
      rw [await_spins_L2, hw _ (by omega), ltI_d, show decide (((f.Code.length - 2 + 2 : Nat) : Int) < ((f.Code.length : Nat) : Int)) = false by simp; omega]; rfl) (fun q i s' hi hs' => by
      rw [await_spins_L2, hw _ (by omega), ltI_d, show decide (((i + 2 : Nat) : Int) < ((f.Code.length : Nat) : Int)) = true by simp; omega, cond_true, wrapS (by omega), spinO, awF]
      rw [getI_nat, getI_nat, getI_nat]
      obtain ⟨a, ha⟩ : ∃ a, f.Code[i]? = some a := ⟨_, List.getElem?_eq_getElem (by omega)⟩
      obtain ⟨b, hb⟩ : ∃ a, f.Code[i + 1]? = some a := ⟨_, List.getElem?_eq_getElem (by omega)⟩
      obtain ⟨c, hc⟩ : ∃ a, f.Code[i + 2]? = some a := ⟨_, List.getElem?_eq_getElem (by omega)⟩
      rw [ha, hb, hc]
      simp only [Option.bind_some, targeted_eq, Option.isSome_some, Option.getD_some, orB_t, guardO_t, pat, await_spins_1, await_spins_2, con_eq]
      rw [show cond (eqI b.C a.A) (some b.B) (some b.C) = some (cond (eqI b.C a.A) b.B b.C) by cases eqI b.C a.A <;> rfl, Option.bind_some]
      cases andB (andB (andB (andB (eqI a.Op 8) (eqI b.Op 3)) (eqI c.Op 5)) (eqI c.B b.A)) (eqI c.N (i : Int))
      · simp [andB_d]
      · rw [cond_true, awI, andB_d (andB _ _)]
        generalize cond (eqI b.C a.A) b.B b.C = o
        cases f.Code.any (brTo ((i + 1 : Nat) : Int)) <;> cases f.Code.any (brTo ((i + 2 : Nat) : Int)) <;> cases eqB (eqI b.B a.A) (eqI b.C a.A) <;> cases eqI o b.A <;> cases (orB (orB (eqI b.Fn 7) (eqI b.Fn 8)) (andB (eqI b.C a.A) (orB (eqI b.Fn 9) (eqI b.Fn 10)))) <;> simp [andB_d, orB_d, limB80 (n := s'.length + 1) (by omega)]) fuel 0 s (by omega) (by omega) (by omega)
  rw [Int.natCast_zero] at h
  rw [h, spinsOf, Nat.sub_zero, ← List.range_eq_range']
  congr 2
  obtain ⟨d, hd, hd2⟩ : ∃ d, f.Code.length = (f.Code.length - 2) + d ∧ d ≤ 2 := by
    by_cases h2 : 2 ≤ f.Code.length
    · exact ⟨2, by omega, by omega⟩
    · exact ⟨f.Code.length, by omega, by omega⟩
  rw (occs := .pos [2]) [hd]
  rw [List.range_add, List.flatMap_append]
  rw [show (List.map (fun x => f.Code.length - 2 + x) (List.range d)).flatMap (spinO k f) = [] from ?_]
  · simp
  · rw [List.flatMap_eq_nil_iff]
    intro x hx
    obtain ⟨y, _, rfl⟩ := List.mem_map.1 hx
    rw [spinO, awF_hi (by omega)]
end Go.Dc.Pl
end
section
set_option linter.all false
namespace Go.Dc
open Go Go.Hw Go.Proofs
set_option maxRecDepth 100000
def slices_Clone_api_Start (a0 : List Start) : Option (List Start) := guardO (limB 16 a0.length) (some a0)

set_option maxHeartbeats 2000000 in
theorem at_slices_Clone_api_Start {a0 r : List Start} (hs : slices_Clone_api_Start a0 = some r) : CAt Tryd.prog 100 [.cell (sC a0)] [] (.ret (.cell (.sl (.r 0) 0 2 r.length))) [(.r 0, .pure (encL r))] := by
  rw [slices_Clone_api_Start] at hs
  obtain ⟨g1, hs⟩ := guardO_some hs
  obtain rfl := Option.some.inj hs
  obtain ⟨g1a, g1b⟩ := limB_t g1
  refine at_code mixed Tryd.func100 (by kernel_rfl) rfl (by kernel_rfl) rfl fun Q hQ => ?_
  repeat (first | simp | with_reducible first | refine awp_reg ?_ | refine And.intro (by omega) ?_ | refine optF_if (by omega) ?_)
  unfold nilK
  simp only [Tryd.underlying51]
  refine ⟨fun h => ?_, ?_⟩
  · have h0 := encL_nil_of (by simp) h
    subst h0
    repeat (first | simp | with_reducible first | refine awp_reg ?_ | refine And.intro (by omega) ?_ | refine optF_if (by omega) ?_)
    refine hQ _ _ (ret2g _ (Gh.void _ (.r 0) 2 2 rfl (by simp)) (by simp [St.void, St.kil]; rfl) (by first | rfl | simp) (by simp [St.void, St.kil]))
  · repeat (first | simp | with_reducible first | refine awp_reg ?_ | refine And.intro (by omega) ?_ | refine optF_if (by omega) ?_)
    refine hQ _ _ (ret2g _ (Gh.ren _ (.o 3 2 0) (.r 0) (by simp) rfl rfl) (by simp; rfl) (by first | rfl | simp) (by simp))
end Go.Dc
end
section
set_option linter.all false
namespace Go.Dc
open Go Go.Hw Go.Proofs
set_option maxRecDepth 100000
def slices_Clone_api_Inst (a0 : List Inst) : Option (List Inst) := guardO (limB 64 a0.length) (some a0)

set_option maxHeartbeats 2000000 in
theorem at_slices_Clone_api_Inst {a0 r : List Inst} (hs : slices_Clone_api_Inst a0 = some r) : CAt Tryd.prog 101 [.cell (sC a0)] [] (.ret (.cell (.sl (.r 0) 0 8 r.length))) [(.r 0, .pure (encL r))] := by
  rw [slices_Clone_api_Inst] at hs
  obtain ⟨g1, hs⟩ := guardO_some hs
  obtain rfl := Option.some.inj hs
  obtain ⟨g1a, g1b⟩ := limB_t g1
  refine at_code mixed Tryd.func101 (by kernel_rfl) rfl (by kernel_rfl) rfl fun Q hQ => ?_
  repeat (first | simp | with_reducible first | refine awp_reg ?_ | refine And.intro (by omega) ?_ | refine optF_if (by omega) ?_)
  unfold nilK
  simp only [Tryd.underlying22]
  refine ⟨fun h => ?_, ?_⟩
  · have h0 := encL_nil_of (by simp) h
    subst h0
    repeat (first | simp | with_reducible first | refine awp_reg ?_ | refine And.intro (by omega) ?_ | refine optF_if (by omega) ?_)
    refine hQ _ _ (ret2g _ (Gh.void _ (.r 0) 2 8 rfl (by simp)) (by simp [St.void, St.kil]; rfl) (by first | rfl | simp) (by simp [St.void, St.kil]))
  · repeat (first | simp | with_reducible first | refine awp_reg ?_ | refine And.intro (by omega) ?_ | refine optF_if (by omega) ?_)
    refine hQ _ _ (ret2g _ (Gh.ren _ (.o 3 2 0) (.r 0) (by simp) rfl rfl) (by simp; rfl) (by first | rfl | simp) (by simp))
end Go.Dc
end
section
set_option linter.all false
namespace Go.Dc
open Go Go.Hw Go.Proofs
set_option maxRecDepth 100000
def slices_Clone_api_Var (a0 : List Var) : Option (List Var) := guardO (limB 24 a0.length) (some a0)

set_option maxHeartbeats 2000000 in
theorem at_slices_Clone_api_Var {a0 r : List Var} (hs : slices_Clone_api_Var a0 = some r) : CAt Tryd.prog 97 [.cell (sC a0)] [] (.ret (.cell (.sl (.r 0) 0 2 r.length))) [(.r 0, .pure (encL r))] := by
  rw [slices_Clone_api_Var] at hs
  obtain ⟨g1, hs⟩ := guardO_some hs
  obtain rfl := Option.some.inj hs
  obtain ⟨g1a, g1b⟩ := limB_t g1
  refine at_code mixed Tryd.func97 (by kernel_rfl) rfl (by kernel_rfl) rfl fun Q hQ => ?_
  repeat (first | simp | with_reducible first | refine awp_reg ?_ | refine And.intro (by omega) ?_ | refine optF_if (by omega) ?_)
  unfold nilK
  simp only [Tryd.underlying48]
  refine ⟨fun h => ?_, ?_⟩
  · have h0 := encL_nil_of (by simp) h
    subst h0
    repeat (first | simp | with_reducible first | refine awp_reg ?_ | refine And.intro (by omega) ?_ | refine optF_if (by omega) ?_)
    refine hQ _ _ (ret2g _ (Gh.void _ (.r 0) 2 2 rfl (by simp)) (by simp [St.void, St.kil]; rfl) (by first | rfl | simp) (by simp [St.void, St.kil]))
  · repeat (first | simp | with_reducible first | refine awp_reg ?_ | refine And.intro (by omega) ?_ | refine optF_if (by omega) ?_)
    refine hQ _ _ (ret2g _ (Gh.ren _ (.o 3 2 0) (.r 0) (by simp) rfl rfl) (by simp; rfl) (by first | rfl | simp) (by simp))
end Go.Dc
end
section
set_option linter.all false
namespace Go.Dc
open Go Go.Hw Go.Proofs
set_option maxRecDepth 100000
def slices_Clone_string (a0 : List ByteArray) : Option (List ByteArray) := guardO (limB 16 a0.length) (some a0)

set_option maxHeartbeats 2000000 in
theorem at_slices_Clone_string {a0 r : List ByteArray} (hs : slices_Clone_string a0 = some r) : CAt Tryd.prog 98 [.cell (sC a0)] [] (.ret (.cell (.sl (.r 0) 0 1 r.length))) [(.r 0, .pure (encL r))] := by
  rw [slices_Clone_string] at hs
  obtain ⟨g1, hs⟩ := guardO_some hs
  obtain rfl := Option.some.inj hs
  obtain ⟨g1a, g1b⟩ := limB_t g1
  refine at_code mixed Tryd.func98 (by kernel_rfl) rfl (by kernel_rfl) rfl fun Q hQ => ?_
  repeat (first | simp | with_reducible first | refine awp_reg ?_ | refine And.intro (by omega) ?_ | refine optF_if (by omega) ?_)
  unfold nilK
  simp only [Tryd.underlying49]
  refine ⟨fun h => ?_, ?_⟩
  · have h0 := encL_nil_of (by simp) h
    subst h0
    repeat (first | simp | with_reducible first | refine awp_reg ?_ | refine And.intro (by omega) ?_ | refine optF_if (by omega) ?_)
    refine hQ _ _ (ret2g _ (Gh.void _ (.r 0) 2 1 rfl (by simp)) (by simp [St.void, St.kil]; rfl) (by first | rfl | simp) (by simp [St.void, St.kil]))
  · repeat (first | simp | with_reducible first | refine awp_reg ?_ | refine And.intro (by omega) ?_ | refine optF_if (by omega) ?_)
    refine hQ _ _ (ret2g _ (Gh.ren _ (.o 3 2 0) (.r 0) (by simp) rfl rfl) (by simp; rfl) (by first | rfl | simp) (by simp))
end Go.Dc
end
section
set_option linter.all false
namespace Go.Dc
open Go Go.Hw Go.Proofs
set_option maxRecDepth 100000
def slices_Clone_api_Func (a0 : List Func) : Option (List Func) := guardO (limB 40 a0.length) (some a0)

set_option maxHeartbeats 2000000 in
theorem at_slices_Clone_api_Func {a0 r : List Func} (hs : slices_Clone_api_Func a0 = some r) : CAt Tryd.prog 99 [.cell (sC a0)] [] (.ret (.cell (.sl (.r 0) 0 2 r.length))) [(.r 0, .pure (encL r))] := by
  rw [slices_Clone_api_Func] at hs
  obtain ⟨g1, hs⟩ := guardO_some hs
  obtain rfl := Option.some.inj hs
  obtain ⟨g1a, g1b⟩ := limB_t g1
  refine at_code mixed Tryd.func99 (by kernel_rfl) rfl (by kernel_rfl) rfl fun Q hQ => ?_
  repeat (first | simp | with_reducible first | refine awp_reg ?_ | refine And.intro (by omega) ?_ | refine optF_if (by omega) ?_)
  unfold nilK
  simp only [Tryd.underlying50]
  refine ⟨fun h => ?_, ?_⟩
  · have h0 := encL_nil_of (by simp) h
    subst h0
    repeat (first | simp | with_reducible first | refine awp_reg ?_ | refine And.intro (by omega) ?_ | refine optF_if (by omega) ?_)
    refine hQ _ _ (ret2g _ (Gh.void _ (.r 0) 2 2 rfl (by simp)) (by simp [St.void, St.kil]; rfl) (by first | rfl | simp) (by simp [St.void, St.kil]))
  · repeat (first | simp | with_reducible first | refine awp_reg ?_ | refine And.intro (by omega) ?_ | refine optF_if (by omega) ?_)
    refine hQ _ _ (ret2g _ (Gh.ren _ (.o 3 2 0) (.r 0) (by simp) rfl rfl) (by simp; rfl) (by first | rfl | simp) (by simp))
end Go.Dc
end
section
set_option linter.all false
namespace Go.Dc
open Go Go.Hw Go.Proofs
set_option maxRecDepth 100000
def program_Clone_L1 (a0 : Program) : Nat → Nat → (List Func) → Option (List Func)
  | 0, k142, l143 => guardO (decide (l143.length ≤ k142)) (some (l143))
  | q171 + 1, k142, l143 => Option.bind (a0.Funcs[k142]?) (fun x185 => Option.bind (slices_Clone_api_Inst x185.Code) (fun y188 => Option.bind (l143[k142]?) (fun x190 => Option.bind (some (l143.set k142 ({ x190 with Code := y188 }))) (fun l194 => program_Clone_L1 a0 q171 (k142 + 1) l194))))

def program_Clone (a0 : Program) : Option Program :=
  Option.bind (slices_Clone_api_Var a0.Vars) (fun y11 => Option.bind (slices_Clone_string a0.Mutexes) (fun y13 => Option.bind (slices_Clone_string a0.Conds) (fun y15 => Option.bind (slices_Clone_api_Func a0.Funcs) (fun y17 => Option.bind (slices_Clone_api_Start a0.Threads) (fun y19 => Option.bind (α := (List Func)) (guardO (lenB y17.length) (Option.bind (program_Clone_L1 a0 y17.length 0 y17) (fun l164 => some (l164)))) (fun l106 => some ({ Vars := y11, Mutexes := y13, Conds := y15, Funcs := l106, Threads := y19 } : Program)))))))

set_option maxHeartbeats 2000000 in
theorem at_program_Clone {a0 : Program} {r : Program} (hs : program_Clone a0 = some r) : CAt Tryd.prog 68 [.agg (eA a0)] [] (.ret (.agg [.sl (.r 0) 0 2 r.Vars.length, .sl (.r 1) 0 1 r.Mutexes.length, .sl (.r 2) 0 1 r.Conds.length, .sl (.r 3) 0 2 r.Funcs.length, .sl (.r 4) 0 2 r.Threads.length])) [(.r 0, .pure (encL r.Vars)), (.r 1, .pure (encL r.Mutexes)), (.r 2, .pure (encL r.Conds)), (.r 3, .cells (oencL r.Funcs)), (.r 4, .pure (encL r.Threads))] := by
  refine at_bound (by kernel_rfl) fun hb => ?_
  have hb1 : LenOk (.sl a0.Vars.length (encL a0.Vars)) := lkc hb
  have hb2 : LenOk (.sl a0.Mutexes.length (encL a0.Mutexes)) := lkc hb
  have hb3 : LenOk (.sl a0.Conds.length (encL a0.Conds)) := lkc hb
  have hb4 : LenOk (.sl a0.Funcs.length (encL a0.Funcs)) := lkc hb
  have hb5 : LenOk (.sl a0.Threads.length (encL a0.Threads)) := lkc hb
  refine at_code mixed Tryd.func68 (by kernel_rfl) rfl (by kernel_rfl) rfl fun Q hQ => ?_
  rw [program_Clone] at hs
  refine goD f0 ?_
  revert hs; refine bK fun y11 hx12 hs => ?_
  refine cA f0 (at_slices_Clone_api_Var hx12) ?_
  refine goD f0 ?_
  revert hs; refine bK fun y13 hx14 hs => ?_
  refine cA f0 (at_slices_Clone_string hx14) ?_
  refine goD f0 ?_
  revert hs; refine bK fun y15 hx16 hs => ?_
  refine cA f0 (at_slices_Clone_string hx16) ?_
  refine goD f0 ?_
  revert hs; refine bK fun y17 hx18 hs => ?_
  refine cA f0 (at_slices_Clone_api_Func hx18) ?_
  refine goD f0 ?_
  revert hs; refine bK fun y19 hx20 hs => ?_
  refine cA f0 (at_slices_Clone_api_Start hx20) ?_
  refine goD2 f0 ?_
  revert hs; refine bK fun o108 e107 hs => ?_
  refine awp_cutK (fun (v : (List Func)) (σ : St) => some (v) = some o108 ∧ σ.env 2 = .cell (.ref (.o 1 1 0) 0) ∧ σ.env 3 = .cell (.ref (.o 2 16 0) 0) ∧ σ.hp (.o 1 1 0) = some (.cells [.z, .z, .z, .z, .z]) ∧ σ.hp (.l 14) = some (.cells (oencL v)) ∧ σ.hp (.o 2 16 0) = some (.cells [.sl (.o 2 2 0) 0 2 y11.length, .sl (.o 2 5 0) 0 1 y13.length, .sl (.o 2 8 0) 0 1 y15.length, .sl (.l 14) 0 2 v.length, .sl (.o 2 14 0) 0 2 y19.length]) ∧ σ.hp (.o 2 2 0) = some (.pure (encL y11)) ∧ σ.hp (.o 2 5 0) = some (.pure (encL y13)) ∧ σ.hp (.o 2 8 0) = some (.pure (encL y15)) ∧ σ.hp (.o 2 14 0) = some (.pure (encL y19)) ∧ 3 ≤ σ.gen) (by rfl) (fun Q hK109 hX110 => ?_) (fun l106 σ3 hp => ?_)
  · refine goD f0 ?_
    obtain ⟨hb175, e107⟩ := guardO_some e107
    revert e107; refine bK fun o166 e165 e107 => ?_
    refine awp_loopW (fun (v : Nat × Nat × (List Func)) (σ : St) => program_Clone_L1 a0 v.1 v.2.1 v.2.2 = some o166 ∧ v.1 + v.2.1 = y17.length ∧ σ.env 1 = .cell (.ref (.o 1 0 0) 0) ∧ σ.env 2 = .cell (.ref (.o 1 1 0) 0) ∧ σ.env 3 = .cell (.ref (.o 2 16 0) 0) ∧ σ.env 23 = iV .i64 ((y17.length : Nat) : Int) ∧ σ.env 24 = iV .i64 ((v.2.1 : Nat) : Int) ∧ σ.hp (.o 1 0 0) = some (.cells (eA a0)) ∧ σ.hp (.o 1 1 0) = some (.cells [.z, .z, .z, .z, .z]) ∧ σ.hp (.l 39) = some (.cells (mixL v.2.1 v.2.2)) ∧ σ.hp (.o 2 16 0) = some (.cells [.sl (.o 2 2 0) 0 2 y11.length, .sl (.o 2 5 0) 0 1 y13.length, .sl (.o 2 8 0) 0 1 y15.length, .sl (.l 39) 0 2 v.2.2.length, .sl (.o 2 14 0) 0 2 y19.length]) ∧ σ.hp (.o 2 2 0) = some (.pure (encL y11)) ∧ σ.hp (.o 2 5 0) = some (.pure (encL y13)) ∧ σ.hp (.o 2 8 0) = some (.pure (encL y15)) ∧ σ.hp (.o 2 14 0) = some (.pure (encL y19)) ∧ 3 ≤ σ.gen) (fun v => v.1) _ ((Gh.cel _ (.o 2 11 0)).trans (Gh.ren _ (.o 2 11 0) (.l 39) (by simp) rfl rfl)) (y17.length, 0, y17) ⟨e165, by first | omega | simp | (simp; omega), pv f0, pv f0, pv f0, pv f0, pv f0, pv f0, pv f0, pv f0, pv f0, pv f0, pv f0, pv f0, pv f0, pg⟩ fun v σ6 hp L167 hL168 => ?_
    obtain ⟨q170, k142, l143⟩ := v
    dsimp only at hp hL168
    obtain ⟨e165, hd169, h5_1, h5_2, h5_3, h5_23, h5_24, g5_0, g5_1, g5_2, g5_3, g5_4, g5_5, g5_6, g5_7, n5_g⟩ := hp
    have n5_0 : ¬ (σ6.gen = 0) := by omega
    have n5_1 : ¬ (σ6.gen = 1) := by omega
    rcases q170 with _ | q171
    · have hlt172 : ¬ k142 < y17.length := by omega
      rw [program_Clone_L1] at e165; try dsimp only at e165
      have F1 := an h5_1 (an h5_2 (an h5_3 (an h5_23 (an h5_24 (an g5_0 (an g5_1 (an g5_2 (an g5_3 (an g5_4 (an g5_5 (an g5_6 (an g5_7 (an n5_0 n5_1)))))))))))))
      refine goR F1 ?_
      refine condK_f (by simp [ltI]; omega) ?_
      obtain ⟨g176, e165⟩ := guardO_some e165
      have g176 := mixL_full (of_decide_eq_true g176)
      obtain rfl := sj e165
      try dsimp only at e107
      have F2 := an F1 g176
      exact hK109 l143 _ _ (Gh.ren _ (.l 39) (.l 14) (by simp) rfl rfl) ⟨e107, pv F2, pv F2, pv F2, pv F2, pv F2, pv F2, pv F2, pv F2, pv F2, pg⟩
    · have hlt172 : k142 < y17.length := by omega
      have ew173 := wrap_succG hlt172 hb175
      rw [program_Clone_L1] at e165; try dsimp only at e165
      have F3 := an h5_1 (an h5_2 (an h5_3 (an h5_23 (an h5_24 (an g5_0 (an g5_1 (an g5_2 (an g5_3 (an g5_4 (an g5_5 (an g5_6 (an g5_7 (an n5_0 (an n5_1 (an hlt172 ew173)))))))))))))))
      refine goR F3 ?_
      refine condK_t (by simp [ltI]; omega) ?_
      revert e165; refine bK fun x185 hx186 e165 => ?_
      have hx186b := getN_some hx186
      have f187 : partCV Tryd.prog 22 (encL a0.Funcs) (k142 * 2 + 1) = some (.cell (sC x185.Code)) := partCV_enc hx186 (f := 1) (by simp)
      have F4 := an F3 f187
      refine goD F4 ?_
      revert e165; refine bK fun y188 hx189 e165 => ?_
      refine cA F4 (at_slices_Clone_api_Inst hx189) ?_
      revert e165; refine bK fun x190 hx191 e165 => ?_
      have hx191b := getN_some hx191
      have f192l : k142 * 2 + 1 < (mixL k142 l143).length := by rw [mixL_length]; have := getN_some hx191; simp; omega
      have f192c := fun c => (set_seg f192l c).1
      have f192d := fun c => (set_seg f192l c).2
      revert e165; refine lK fun l194 hx195 e165 => ?_
      have f193 : (mixL k142 l143).set (k142 * 2 + 1) (.own (.sp 8 y188.length (encL y188))) = mixL (k142 + 1) l194 := by rw [hx195]; exact mixL_set hx191 (f := 1) (by simp) rfl
      have f193n : l194.length = l143.length := by rw [hx195]; simp
      have F5 := an F4 (an f192c (an f192d (an f193 f193n)))
      refine goN F5 ?_
      refine awp_gh (by rfl) (Gh.close _ (.l 39) (k142 * 2 + 1)) ?_
      try simp only [St.frz, St.pur]
      refine goR F5 ?_
      exact hL168 (q171, (k142 + 1), l194) _ _ (Gh.refl _) ⟨e165, (by first | omega | (simp; omega)), pv F5, pv F5, pv F5, pv F5, pv F5, pv F5, pv F5, pv F5, pv F5, pv F5, pv F5, pv F5, pv F5, pg⟩ (by omega)
  · obtain ⟨e107, h4_2, h4_3, g4_0, g4_1, g4_2, g4_3, g4_4, g4_5, g4_6, n4_g⟩ := hp
    obtain rfl := sj e107
    try dsimp only at hs
    have n4_0 : ¬ (σ3.gen = 0) := by omega
    have n4_1 : ¬ (σ3.gen = 1) := by omega
    have F6 := an h4_2 (an h4_3 (an g4_0 (an g4_1 (an g4_2 (an g4_3 (an g4_4 (an g4_5 (an g4_6 (an n4_0 n4_1)))))))))
    refine goD F6 ?_
    obtain rfl := sj hs
    refine hQ _ _ (ret2g _ ((Gh.ren _ (.o 2 2 0) (.r 0) (by simp) rfl rfl).trans ((Gh.ren _ (.o 2 5 0) (.r 1) (by simp) rfl rfl).trans ((Gh.ren _ (.o 2 8 0) (.r 2) (by simp) rfl rfl).trans ((Gh.ren _ (.l 14) (.r 3) (by simp) rfl rfl).trans (Gh.ren _ (.o 2 14 0) (.r 4) (by simp) rfl rfl))))) (by simp [St.frz, St.pur, F6]; rfl) (by first | rfl | (simp [St.frz, St.pur, F6]; done) | (rw [if_pos (by first | omega | (simp; omega))]; simp [St.frz, St.pur, F6]; first | omega | exact List.take_of_length_le (by simp; omega) | skip)) (pv F6))
end Go.Dc
end
section
set_option linter.all false
namespace Go.Dc
open Go Go.Hw Go.Proofs
set_option maxRecDepth 100000
def await_Rewrite_L1 : List AwaitSpin → Nat → (List Func) → Option (List Func)
  | [], k162, l163 => some (l163)
  | x197 :: q193, k162, l163 => Option.bind (getI l163 x197.fn) (fun x201 => Option.bind (getI x201.Code x197.first) (fun x211 => Option.bind (some (x201.Code.set ((x197.first).toNat) x197.await)) (fun l213 => Option.bind (some (l163.set ((x197.fn).toNat) ({ x201 with Code := l213 }))) (fun l217 => await_Rewrite_L1 q193 (k162 + 1) l217))))

def await_Rewrite (fuelN : Nat) (a0 : Program) : Option (Program × Int) :=
  Option.bind (program_Check fuelN a0) (fun y1 => cond (!(eqI y1.1 0)) (some (({ Vars := [], Mutexes := [], Conds := [], Funcs := [], Threads := [] } : Program), y1.1)) (Option.bind (program_Clone a0) (fun y4 => Option.bind (await_spins fuelN a0) (fun y6 => Option.bind (α := (List Func)) (guardO (lenB y6.length) (Option.bind (await_Rewrite_L1 y6 0 y4.Funcs) (fun l186 => some (l186)))) (fun l111 => some ({ y4 with Funcs := l111 }, 0))))))

set_option maxHeartbeats 2000000 in
theorem at_await_Rewrite {fuelN : Nat} {a0 : Program} {r : Program × Int} (hs : await_Rewrite fuelN a0 = some r) : At Tryd.prog 40 [.agg (eA a0)] (.tup [.agg (eA r.1), iV .i64 r.2]) := by
  refine at_bound (by kernel_rfl) fun hb => ?_
  have hb1 : LenOk (.sl a0.Vars.length (encL a0.Vars)) := lkc hb
  have hb2 : LenOk (.sl a0.Mutexes.length (encL a0.Mutexes)) := lkc hb
  have hb3 : LenOk (.sl a0.Conds.length (encL a0.Conds)) := lkc hb
  have hb4 : LenOk (.sl a0.Funcs.length (encL a0.Funcs)) := lkc hb
  have hb5 : LenOk (.sl a0.Threads.length (encL a0.Threads)) := lkc hb
  refine at_code mixed Tryd.func40 (by kernel_rfl) rfl (by kernel_rfl) rfl fun Q hQ => ?_
  rw [await_Rewrite] at hs
  refine goR f0 ?_
  revert hs; refine bK fun y1 hx2 hs => ?_
  refine cP f0 (at_program_Check hx2) ?_
  refine goR f0 ?_
  revert hs; refine cS f0 ?_ ?_ <;> intro h3 hs
  · refine goR f0 ?_
    obtain rfl := sj hs
    exact hQ _ _ (rg f0 (Gh.unz _))
  · refine goR f0 ?_
    revert hs; refine bK fun y4 hx5 hs => ?_
    refine cA f0 (at_program_Clone hx5) ?_
    refine goR f0 ?_
    revert hs; refine bK fun y6 hx7 hs => ?_
    refine cP f0 (at_await_spins hx7) ?_
    refine goR2 f0 ?_
    revert hs; refine bK fun o113 e112 hs => ?_
    refine awp_cutK (fun (v : (List Func)) (σ : St) => some (v) = some o113 ∧ σ.env 2 = .cell (.ref (.o 1 1 0) 0) ∧ σ.env 7 = .cell (.ref (.o 4 2 0) 0) ∧ σ.hp (.o 1 1 0) = some (.cells [.z, .z, .z, .z, .z]) ∧ σ.hp (.l 14) = some (.cells (oencL v)) ∧ σ.hp (.o 4 2 0) = some (.cells [.sl (.o 4 1 0) 0 2 y4.Vars.length, .sl (.o 4 1 1) 0 1 y4.Mutexes.length, .sl (.o 4 1 2) 0 1 y4.Conds.length, .sl (.l 14) 0 2 v.length, .sl (.o 4 1 4) 0 2 y4.Threads.length]) ∧ σ.hp (.o 4 1 0) = some (.pure (encL y4.Vars)) ∧ σ.hp (.o 4 1 1) = some (.pure (encL y4.Mutexes)) ∧ σ.hp (.o 4 1 2) = some (.pure (encL y4.Conds)) ∧ σ.hp (.o 4 1 4) = some (.pure (encL y4.Threads)) ∧ 5 ≤ σ.gen) (by rfl) (fun Q hK114 hX115 => ?_) (fun l111 σ3 hp => ?_)
    · refine goR f0 ?_
      obtain ⟨hb198, e112⟩ := guardO_some e112
      revert e112; refine bK fun o188 e187 e112 => ?_
      refine awp_loopW (fun (v : (List AwaitSpin) × Nat × (List Func)) (σ : St) => await_Rewrite_L1 v.1 v.2.1 v.2.2 = some o188 ∧ v.1 = y6.drop v.2.1 ∧ σ.env 2 = .cell (.ref (.o 1 1 0) 0) ∧ σ.env 7 = .cell (.ref (.o 4 2 0) 0) ∧ σ.env 23 = .cell (sC y6) ∧ σ.env 24 = iV .i64 ((y6.length : Nat) : Int) ∧ σ.env 25 = iV .i64 ((v.2.1 : Nat) : Int) ∧ σ.hp (.o 1 1 0) = some (.cells [.z, .z, .z, .z, .z]) ∧ σ.hp (.l 39) = some (.cells (oencL v.2.2)) ∧ σ.hp (.o 4 2 0) = some (.cells [.sl (.o 4 1 0) 0 2 y4.Vars.length, .sl (.o 4 1 1) 0 1 y4.Mutexes.length, .sl (.o 4 1 2) 0 1 y4.Conds.length, .sl (.l 39) 0 2 v.2.2.length, .sl (.o 4 1 4) 0 2 y4.Threads.length]) ∧ σ.hp (.o 4 1 0) = some (.pure (encL y4.Vars)) ∧ σ.hp (.o 4 1 1) = some (.pure (encL y4.Mutexes)) ∧ σ.hp (.o 4 1 2) = some (.pure (encL y4.Conds)) ∧ σ.hp (.o 4 1 4) = some (.pure (encL y4.Threads)) ∧ 5 ≤ σ.gen) (fun v => v.1.length) _ (Gh.ren _ (.o 4 1 3) (.l 39) (by simp) rfl rfl) (y6, 0, y4.Funcs) ⟨e187, by simp, pv f0, pv f0, pv f0, pv f0, pv f0, pv f0, pv f0, pv f0, pv f0, pv f0, pv f0, pv f0, pg⟩ fun v σ6 hp L189 hL190 => ?_
      obtain ⟨q192, k162, l163⟩ := v
      dsimp only at hp hL190
      obtain ⟨e187, hd191, h5_2, h5_7, h5_23, h5_24, h5_25, g5_0, g5_1, g5_2, g5_3, g5_4, g5_5, g5_6, n5_g⟩ := hp
      have n5_0 : ¬ (σ6.gen = 0) := by omega
      have n5_1 : ¬ (σ6.gen = 1) := by omega
      have n5_2 : ¬ (σ6.gen = 2) := by omega
      have n5_3 : ¬ (σ6.gen = 3) := by omega
      rcases q192 with _ | ⟨x197, q193⟩
      · have hlt194 := drop_end hd191
        rw [await_Rewrite_L1] at e187; try dsimp only at e187
        have F1 := an h5_2 (an h5_7 (an h5_23 (an h5_24 (an h5_25 (an g5_0 (an g5_1 (an g5_2 (an g5_3 (an g5_4 (an g5_5 (an g5_6 (an n5_0 (an n5_1 (an n5_2 n5_3))))))))))))))
        refine goR F1 ?_
        refine condK_f (by simp [ltI]; omega) ?_
        obtain rfl := sj e187
        try dsimp only at e112
        exact hK114 l163 _ _ (Gh.ren _ (.l 39) (.l 14) (by simp) rfl rfl) ⟨e112, pv F1, pv F1, pv F1, pv F1, pv F1, pv F1, pv F1, pv F1, pv F1, pg⟩
      · obtain ⟨hx196, hlt194, hd199⟩ := drop_next hd191
        have ew195 := wrap_succG hlt194 hb198
        rw [await_Rewrite_L1] at e187; try dsimp only at e187
        have F2 := an h5_2 (an h5_7 (an h5_23 (an h5_24 (an h5_25 (an g5_0 (an g5_1 (an g5_2 (an g5_3 (an g5_4 (an g5_5 (an g5_6 (an n5_0 (an n5_1 (an n5_2 (an n5_3 (an hlt194 ew195))))))))))))))))
        refine goR F2 ?_
        refine condK_t (by simp [ltI]; omega) ?_
        have f200 : partCV Tryd.prog 100 (encL y6) (k162 * 10) = some (.agg (eA x197)) := partCV_enc hx196 (f := 0) (by simp)
        revert e187; refine bK fun x201 hx202 e187 => ?_
        obtain ⟨hx202a, hx202b, hx202c, hx202d⟩ := getI_some hx202
        have F3 := an F2 f200
        refine goN F3 ?_
        refine awp_reg ?_
        refine goN F3 ?_
        have f203a : (oencL l163)[((x197.fn).toNat) * 2 + 1]? = some (.own (.sp 8 x201.Code.length (encL x201.Code))) := oencL_get hx202d (f := 1) rfl
        have f203l : ((x197.fn).toNat) * 2 + 1 < (oencL l163).length := (List.getElem?_eq_some_iff.1 f203a).1
        have f203c := fun c => (set_seg f203l c).1
        have f203d := fun c => (set_seg f203l c).2
        refine awp_gh (by rfl) (Gh.opn _ (.l 39) (((x197.fn).toNat) * 2 + 1)) ?_
        revert e187; refine bK fun x211 hx212 e187 => ?_
        obtain ⟨hx212a, hx212b, hx212c, hx212d⟩ := getI_some hx212
        revert e187; refine lK fun l213 hx214 e187 => ?_
        have f215 : setRun (encL x201.Code) (((x197.first).toNat) * 8) [.c (.int .i64 x197.await.Op), .c (.int .i64 x197.await.A), .c (.int .i64 x197.await.B), .c (.int .i64 x197.await.C), .c (.int .i64 x197.await.Obj), .c (.int .i64 x197.await.N), .c (.int .i64 x197.await.Fn), .c (.int .i64 x197.await.Order)] = encL l213 := hx214 ▸ setRun_enc hx212d (f := 0) (by simp) (by simp [setRun])
        simp only [setRun] at f215
        have f215n : l213.length = x201.Code.length := by rw [hx214]; simp
        revert e187; refine lK fun l217 hx218 e187 => ?_
        have f216 : (oencL l163).set (((x197.fn).toNat) * 2 + 1) (.own (.sp 8 l213.length (encL l213))) = oencL l217 := by rw [hx218]; exact oencL_set hx202d (f := 1) (by simp) rfl
        have f216n : l217.length = l163.length := by rw [hx218]; simp
        have f216t : (encL l213).take (l213.length * 8) = encL l213 := encL_takeN _ (by simp)
        have f216u : l213.length = x201.Code.length → (encL l213).take (x201.Code.length * 8) = encL l213 := fun h => by rw [← h]; exact encL_takeN _ (by simp)
        have f216v : l213.length = x201.Code.length → (oencL l163).set (((x197.fn).toNat) * 2 + 1) (.own (.sp 8 x201.Code.length (encL l213))) = oencL l217 := fun h => by rw [← h]; exact f216
        have F4 := an F3 (an f203a (an f203c (an f203d (an f215 (an f215n (an f216 (an f216n (an f216t (an f216u f216v)))))))))
        refine goN F4 ?_
        refine awp_draw ?_
        refine goN F4 ?_
        refine awp_gh (by rfl) (Gh.close _ (.l 39) (((x197.fn).toNat) * 2 + 1)) ?_
        try simp only [St.frz, St.pur]
        refine goR F4 ?_
        exact hL190 (q193, (k162 + 1), l217) _ _ (Gh.refl _) ⟨e187, hd199, pv F4, pv F4, pv F4, pv F4, pv F4, pv F4, pv F4, pv F4, pv F4, pv F4, pv F4, pv F4, pg⟩ (by simp)
    · obtain ⟨e112, h4_2, h4_7, g4_0, g4_1, g4_2, g4_3, g4_4, g4_5, g4_6, n4_g⟩ := hp
      obtain rfl := sj e112
      try dsimp only at hs
      have n4_0 : ¬ (σ3.gen = 0) := by omega
      have n4_1 : ¬ (σ3.gen = 1) := by omega
      have n4_2 : ¬ (σ3.gen = 2) := by omega
      have n4_3 : ¬ (σ3.gen = 3) := by omega
      have F5 := an h4_2 (an h4_7 (an g4_0 (an g4_1 (an g4_2 (an g4_3 (an g4_4 (an g4_5 (an g4_6 (an n4_0 (an n4_1 (an n4_2 n4_3)))))))))))
      refine goR F5 ?_
      obtain rfl := sj hs
      exact hQ _ _ (rg F5 ((Gh.frz _ (.o 4 1 0)).trans ((Gh.frz _ (.o 4 1 1)).trans ((Gh.frz _ (.o 4 1 2)).trans ((Gh.frz _ (.l 14)).trans (Gh.frz _ (.o 4 1 4)))))))
end Go.Dc
end
section
set_option linter.all false
namespace Go.Dc
open Go Go.Hw Go.Proofs
set_option maxRecDepth 100000

def law14_example (a0 : Int) : Option Program :=
  Option.bind (some ([({ Op := 1, A := 1, B := 0, C := 0, Obj := 0, N := 1, Fn := 0, Order := 0 } : Inst), ({ Op := 8, A := 2, B := 0, C := 0, Obj := 0, N := 0, Fn := 0, Order := 2 } : Inst), ({ Op := 3, A := 3, B := 2, C := 1, Obj := 0, N := 0, Fn := a0, Order := 0 } : Inst), ({ Op := 5, A := 0, B := 3, C := 0, Obj := 0, N := 1, Fn := 0, Order := 0 } : Inst)])) (fun l1 => Option.bind (some ([({ Name := (⟨#[120]⟩ : ByteArray), Init := 0 } : Var)])) (fun l3 => Option.bind (some ([({ Name := (⟨#[102]⟩ : ByteArray), Code := l1 } : Func)])) (fun l5 => Option.bind (some ([({ Func := 0, Arg := 0 } : Start)])) (fun l7 => some ({ Vars := l3, Mutexes := [], Conds := [], Funcs := l5, Threads := l7 } : Program)))))

set_option maxHeartbeats 2000000 in
theorem at_law14_example {a0 : Int} {r : Program} (hs : law14_example a0 = some r) : At Tryd.prog 63 [iV .i64 a0] (.agg (eA r)) := by
  refine at_bound (by kernel_rfl) fun hb => ?_
  refine at_code mixed Tryd.func63 (by kernel_rfl) rfl (by kernel_rfl) rfl fun Q hQ => ?_
  rw [law14_example] at hs
  revert hs; refine lK fun l1 hx2 hs => ?_
  have hx2n : l1.length = 4 := by rw [hx2]; rfl
  revert hs; refine lK fun l3 hx4 hs => ?_
  have hx4n : l3.length = 1 := by rw [hx4]; rfl
  revert hs; refine lK fun l5 hx6 hs => ?_
  have hx6n : l5.length = 1 := by rw [hx6]; rfl
  revert hs; refine lK fun l7 hx8 hs => ?_
  have hx8n : l7.length = 1 := by rw [hx8]; rfl
  have F1 := an hx2 (an hx4 (an hx6 hx8))
  refine goR F1 ?_
  obtain rfl := sj hs
  exact hQ _ _ (rg F1 ((Gh.frz _ (.o 2 5 0)).trans ((Gh.pur _ (.o 3 4 0)).trans ((Gh.frz _ (.o 3 1 0)).trans ((Gh.frz _ (.o 3 4 0)).trans ((Gh.frz _ (.o 3 6 0)).trans (Gh.unz _)))))))
end Go.Dc
end
