/- Contracts of functions, by their numbers, and the laws that walk them. Conditions: as each states. -/
import Derived.Test.YtgcinmhiohlmiaaDoorH3
set_option linter.all false
section
set_option linter.all false
namespace Go.Dc
open Go Go.Hw Go.Proofs
set_option maxRecDepth 100000
def r08_lists_L1 : List Var → (List ByteArray) → Nat → Option (List ByteArray)
  | [], l58, k59 => some (l58)
  | x80 :: q76, l58, k59 => Option.bind (some ([x80.Name])) (fun l83 => guardO (limB 16 (l58.length + l83.length)) (Option.bind (some (l58 ++ l83)) (fun l86 => r08_lists_L1 q76 l86 (k59 + 1))))

def r08_lists_L2 : List Func → (List ByteArray) → Nat → Option (List ByteArray)
  | [], l145, k146 => some (l145)
  | x167 :: q163, l145, k146 => Option.bind (some ([x167.Name])) (fun l170 => guardO (limB 16 (l145.length + l170.length)) (Option.bind (some (l145 ++ l170)) (fun l173 => r08_lists_L2 q163 l173 (k146 + 1))))

def r08_lists (a0 : Program) : Option ((List ByteArray) × (List ByteArray)) :=
  Option.bind (α := (List ByteArray)) (Option.bind (r08_lists_L1 a0.Vars [] 0) (fun l69 => some (l69))) (fun l42 => Option.bind (α := (List ByteArray)) (Option.bind (r08_lists_L2 a0.Funcs [] 0) (fun l156 => some (l156))) (fun l129 => some (l42, l129)))

set_option maxHeartbeats 2000000 in
theorem at_r08_lists {a0 : Program} {r : (List ByteArray) × (List ByteArray)} (hs : r08_lists a0 = some r) : At Tryd.prog 91 [.agg [.p (.sl a0.Vars.length (encL a0.Vars)), .p (.sl a0.Mutexes.length (encL a0.Mutexes)), .p (.sl a0.Conds.length (encL a0.Conds)), .p (.sl a0.Funcs.length (encL a0.Funcs)), .p (.sl a0.Threads.length (encL a0.Threads))]] (.tup [.cell (.p (.sl r.1.length (encL r.1))), .cell (.p (.sl r.2.length (encL r.2)))]) := by
  refine at_bound (by kernel_rfl) fun hb => ?_
  have hb1 : LenOk (.sl a0.Vars.length (encL a0.Vars)) := hb (.agg [.p (.sl a0.Vars.length (encL a0.Vars)), .p (.sl a0.Mutexes.length (encL a0.Mutexes)), .p (.sl a0.Conds.length (encL a0.Conds)), .p (.sl a0.Funcs.length (encL a0.Funcs)), .p (.sl a0.Threads.length (encL a0.Threads))]) (by simp) (.p (.sl a0.Vars.length (encL a0.Vars))) (by simp)
  have hb2 : LenOk (.sl a0.Mutexes.length (encL a0.Mutexes)) := hb (.agg [.p (.sl a0.Vars.length (encL a0.Vars)), .p (.sl a0.Mutexes.length (encL a0.Mutexes)), .p (.sl a0.Conds.length (encL a0.Conds)), .p (.sl a0.Funcs.length (encL a0.Funcs)), .p (.sl a0.Threads.length (encL a0.Threads))]) (by simp) (.p (.sl a0.Mutexes.length (encL a0.Mutexes))) (by simp)
  have hb3 : LenOk (.sl a0.Conds.length (encL a0.Conds)) := hb (.agg [.p (.sl a0.Vars.length (encL a0.Vars)), .p (.sl a0.Mutexes.length (encL a0.Mutexes)), .p (.sl a0.Conds.length (encL a0.Conds)), .p (.sl a0.Funcs.length (encL a0.Funcs)), .p (.sl a0.Threads.length (encL a0.Threads))]) (by simp) (.p (.sl a0.Conds.length (encL a0.Conds))) (by simp)
  have hb4 : LenOk (.sl a0.Funcs.length (encL a0.Funcs)) := hb (.agg [.p (.sl a0.Vars.length (encL a0.Vars)), .p (.sl a0.Mutexes.length (encL a0.Mutexes)), .p (.sl a0.Conds.length (encL a0.Conds)), .p (.sl a0.Funcs.length (encL a0.Funcs)), .p (.sl a0.Threads.length (encL a0.Threads))]) (by simp) (.p (.sl a0.Funcs.length (encL a0.Funcs))) (by simp)
  have hb5 : LenOk (.sl a0.Threads.length (encL a0.Threads)) := hb (.agg [.p (.sl a0.Vars.length (encL a0.Vars)), .p (.sl a0.Mutexes.length (encL a0.Mutexes)), .p (.sl a0.Conds.length (encL a0.Conds)), .p (.sl a0.Funcs.length (encL a0.Funcs)), .p (.sl a0.Threads.length (encL a0.Threads))]) (by simp) (.p (.sl a0.Threads.length (encL a0.Threads))) (by simp)
  refine at_code mixed Tryd.func91 (by kernel_rfl) rfl (by kernel_rfl) rfl fun Q hQ => ?_
  rw [r08_lists] at hs
  repeat (first | simp [-awp_cond_eq, -awp_block_eq] | with_reducible refine awp_reg ?_)
  obtain ⟨o44, e43, hs⟩ := bindO hs
  try dsimp only at hs
  refine awp_cutK (fun (v : (List ByteArray)) (σ : St) => some (v) = some o44 ∧ σ.env 1 = .cell (.ref (.o 1 0 0) 0) ∧ σ.env 4 = .cell (.sl (.l 2) 0 1 v.length) ∧ σ.env 5 = .cell (.z) ∧ σ.hp (.l 2) = some (.pure (encL v)) ∧ σ.hp (.o 1 0 0) = some (.cells [.p (.sl a0.Vars.length (encL a0.Vars)), .p (.sl a0.Mutexes.length (encL a0.Mutexes)), .p (.sl a0.Conds.length (encL a0.Conds)), .p (.sl a0.Funcs.length (encL a0.Funcs)), .p (.sl a0.Threads.length (encL a0.Threads))]) ∧ 3 ≤ σ.gen) (by rfl) (fun Q hK45 hX46 => ?_) (fun l42 σ3 hp => ?_)
  · repeat (first | simp | with_reducible refine awp_reg ?_)
    obtain ⟨o71, e70, e43⟩ := bindO e43
    try dsimp only at e43
    refine awp_loopW (fun (v : (List Var) × (List ByteArray) × Nat) (σ : St) => r08_lists_L1 v.1 v.2.1 v.2.2 = some o71 ∧ v.1 = a0.Vars.drop v.2.2 ∧ σ.env 1 = .cell (.ref (.o 1 0 0) 0) ∧ σ.env 4 = .cell (.sl (.l 6) 0 1 v.2.1.length) ∧ σ.env 5 = .cell (.z) ∧ σ.env 6 = iV .i64 ((v.2.2 : Nat) : Int) ∧ σ.hp (.l 6) = some (.pure (encL v.2.1)) ∧ σ.hp (.o 1 0 0) = some (.cells [.p (.sl a0.Vars.length (encL a0.Vars)), .p (.sl a0.Mutexes.length (encL a0.Mutexes)), .p (.sl a0.Conds.length (encL a0.Conds)), .p (.sl a0.Funcs.length (encL a0.Funcs)), .p (.sl a0.Threads.length (encL a0.Threads))]) ∧ 3 ≤ σ.gen) (fun v => v.1.length) _ (Gh.void _ (.l 6) 4 1 rfl (by simp)) (a0.Vars, [], 0) ⟨e70, by simp, by simp [St.frz, St.pur], by simp [St.frz, St.pur], by simp [St.frz, St.pur], by simp [St.frz, St.pur], by simp [St.frz, St.pur], by simp [St.frz, St.pur], by first | (simp; done) | (simp; omega) | omega⟩ fun v σ6 hp L72 hL73 => ?_
    obtain ⟨q75, l58, k59⟩ := v
    dsimp only at hp hL73
    obtain ⟨e70, hd74, h5_1, h5_4, h5_5, h5_6, g5_0, g5_1, n5_g⟩ := hp
    have n5_0 : ¬ (σ6.gen = 0) := by omega
    rcases q75 with _ | ⟨x80, q76⟩
    · have hlt77 := drop_end hd74
      rw [r08_lists_L1] at e70; try dsimp only at e70
      repeat (first | simp [h5_1, h5_4, h5_5, h5_6, g5_0, g5_1, n5_0] | with_reducible first | refine awp_reg ?_ | refine And.intro (by omega) ?_ | refine optF_if (by omega) ?_)
      refine condK_f (by simp [ltI]; omega) ?_
      obtain rfl := Option.some.inj e70
      try dsimp only at e43
      refine hK45 l58 _ _ (Gh.ren _ (.l 6) (.l 2) (by simp) rfl rfl) ⟨e43, ?_, ?_, ?_, ?_, ?_, by first | (simp; done) | (simp; omega) | omega⟩ <;> simp [St.frz, St.pur, h5_1, h5_4, h5_5, h5_6, g5_0, g5_1, n5_0]
    · obtain ⟨hx79, hlt77, hd81⟩ := drop_next hd74
      have ew78 := wrap_succ hlt77 (hb1).len
      rw [r08_lists_L1] at e70; try dsimp only at e70
      repeat (first | simp [h5_1, h5_4, h5_5, h5_6, g5_0, g5_1, n5_0, hlt77, ew78] | with_reducible first | refine awp_reg ?_ | refine And.intro (by omega) ?_ | refine optF_if (by omega) ?_)
      refine condK_t (by simp [ltI]; omega) ?_
      have f82 : partCV Tryd.prog 9 (encL a0.Vars) (k59 * 2) = some (sV x80.Name) := partCV_enc hx79 (f := 0) (by simp)
      obtain ⟨l83, hx84, e70⟩ := bindO e70
      try dsimp only at e70
      replace hx84 := (Option.some.inj hx84).symm
      have hx84n : l83.length = 1 := by rw [hx84]; rfl
      obtain ⟨g85, e70⟩ := guardO_some e70
      have g85 := limB_t g85
      obtain ⟨g85a, g85b⟩ := g85
      obtain ⟨l86, hx87, e70⟩ := bindO e70
      try dsimp only at e70
      replace hx87 := (Option.some.inj hx87).symm
      have hx87n : l86.length = (l58.length + l83.length) := by rw [hx87]; simp
      have hx87e : encL l86 = encL l58 ++ encL l83 := by rw [hx87]; simp
      repeat (first | simp [h5_1, h5_4, h5_5, h5_6, g5_0, g5_1, n5_0, hlt77, ew78, f82, hx84, hx87n, hx87e] | with_reducible first | refine awp_reg ?_ | refine And.intro (by omega) ?_ | refine optF_if (by omega) ?_)
      refine hL73 (q76, l86, (k59 + 1)) _ _ (Gh.ren _ (.o (σ6.gen + 2) 8 0) (.l 6) (by simp) rfl rfl) ⟨e70, hd81, ?_, ?_, ?_, ?_, ?_, ?_, by first | (simp; done) | (simp; omega) | omega⟩ (by simp) <;> simp [St.frz, St.pur, h5_1, h5_4, h5_5, h5_6, g5_0, g5_1, n5_0, hlt77, ew78, f82, hx84, hx87n, hx87e]
  · obtain ⟨e43, h4_1, h4_4, h4_5, g4_0, g4_1, n4_g⟩ := hp
    obtain rfl := Option.some.inj e43
    try dsimp only at hs
    have n4_0 : ¬ (σ3.gen = 0) := by omega
    repeat (first | simp [-awp_cond_eq, -awp_block_eq, h4_1, h4_4, h4_5, g4_0, g4_1, n4_0] | with_reducible refine awp_reg ?_)
    obtain ⟨o131, e130, hs⟩ := bindO hs
    try dsimp only at hs
    refine awp_cutK (fun (v : (List ByteArray)) (σ : St) => some (v) = some o131 ∧ σ.env 4 = .cell (.sl (.l 2) 0 1 l42.length) ∧ σ.env 5 = .cell (.sl (.l 11) 0 1 v.length) ∧ σ.hp (.l 11) = some (.pure (encL v)) ∧ σ.hp (.l 2) = some (.pure (encL l42)) ∧ (σ3.gen + 1) ≤ σ.gen) (by rfl) (fun Q hK132 hX133 => ?_) (fun l129 σ9 hp => ?_)
    · repeat (first | simp [h4_1, h4_4, h4_5, g4_0, g4_1, n4_0] | with_reducible refine awp_reg ?_)
      obtain ⟨o158, e157, e130⟩ := bindO e130
      try dsimp only at e130
      refine awp_loopW (fun (v : (List Func) × (List ByteArray) × Nat) (σ : St) => r08_lists_L2 v.1 v.2.1 v.2.2 = some o158 ∧ v.1 = a0.Funcs.drop v.2.2 ∧ σ.env 1 = .cell (.ref (.o 1 0 0) 0) ∧ σ.env 4 = .cell (.sl (.l 2) 0 1 l42.length) ∧ σ.env 5 = .cell (.sl (.l 19) 0 1 v.2.1.length) ∧ σ.env 7 = iV .i64 ((v.2.2 : Nat) : Int) ∧ σ.hp (.l 19) = some (.pure (encL v.2.1)) ∧ σ.hp (.l 2) = some (.pure (encL l42)) ∧ σ.hp (.o 1 0 0) = some (.cells [.p (.sl a0.Vars.length (encL a0.Vars)), .p (.sl a0.Mutexes.length (encL a0.Mutexes)), .p (.sl a0.Conds.length (encL a0.Conds)), .p (.sl a0.Funcs.length (encL a0.Funcs)), .p (.sl a0.Threads.length (encL a0.Threads))]) ∧ (σ3.gen + 1) ≤ σ.gen) (fun v => v.1.length) _ (Gh.void _ (.l 19) 5 1 rfl (by simp [h4_1, h4_4, h4_5, g4_0, g4_1, n4_0])) (a0.Funcs, [], 0) ⟨e157, by simp, by simp [St.frz, St.pur, h4_1, h4_4, h4_5, g4_0, g4_1, n4_0], by simp [St.frz, St.pur, h4_1, h4_4, h4_5, g4_0, g4_1, n4_0], by simp [St.frz, St.pur, h4_1, h4_4, h4_5, g4_0, g4_1, n4_0], by simp [St.frz, St.pur, h4_1, h4_4, h4_5, g4_0, g4_1, n4_0], by simp [St.frz, St.pur, h4_1, h4_4, h4_5, g4_0, g4_1, n4_0], by simp [St.frz, St.pur, h4_1, h4_4, h4_5, g4_0, g4_1, n4_0], by simp [St.frz, St.pur, h4_1, h4_4, h4_5, g4_0, g4_1, n4_0], by first | (simp; done) | (simp; omega) | omega⟩ fun v σ12 hp L159 hL160 => ?_
      obtain ⟨q162, l145, k146⟩ := v
      dsimp only at hp hL160
      obtain ⟨e157, hd161, h11_1, h11_4, h11_5, h11_7, g11_0, g11_1, g11_2, n11_g⟩ := hp
      have n11_0 : ¬ (σ12.gen = 0) := by omega
      rcases q162 with _ | ⟨x167, q163⟩
      · have hlt164 := drop_end hd161
        rw [r08_lists_L2] at e157; try dsimp only at e157
        repeat (first | simp [h11_1, h11_4, h11_5, h11_7, g11_0, g11_1, g11_2, n11_0] | with_reducible first | refine awp_reg ?_ | refine And.intro (by omega) ?_ | refine optF_if (by omega) ?_)
        refine condK_f (by simp [ltI]; omega) ?_
        obtain rfl := Option.some.inj e157
        try dsimp only at e130
        refine hK132 l145 _ _ (Gh.ren _ (.l 19) (.l 11) (by simp) rfl rfl) ⟨e130, ?_, ?_, ?_, ?_, by first | (simp; done) | (simp; omega) | omega⟩ <;> simp [St.frz, St.pur, h11_1, h11_4, h11_5, h11_7, g11_0, g11_1, g11_2, n11_0]
      · obtain ⟨hx166, hlt164, hd168⟩ := drop_next hd161
        have ew165 := wrap_succ hlt164 (hb4).len
        rw [r08_lists_L2] at e157; try dsimp only at e157
        repeat (first | simp [h11_1, h11_4, h11_5, h11_7, g11_0, g11_1, g11_2, n11_0, hlt164, ew165] | with_reducible first | refine awp_reg ?_ | refine And.intro (by omega) ?_ | refine optF_if (by omega) ?_)
        refine condK_t (by simp [ltI]; omega) ?_
        have f169 : partCV Tryd.prog 9 (encL a0.Funcs) (k146 * 2) = some (sV x167.Name) := partCV_enc hx166 (f := 0) (by simp)
        obtain ⟨l170, hx171, e157⟩ := bindO e157
        try dsimp only at e157
        replace hx171 := (Option.some.inj hx171).symm
        have hx171n : l170.length = 1 := by rw [hx171]; rfl
        obtain ⟨g172, e157⟩ := guardO_some e157
        have g172 := limB_t g172
        obtain ⟨g172a, g172b⟩ := g172
        obtain ⟨l173, hx174, e157⟩ := bindO e157
        try dsimp only at e157
        replace hx174 := (Option.some.inj hx174).symm
        have hx174n : l173.length = (l145.length + l170.length) := by rw [hx174]; simp
        have hx174e : encL l173 = encL l145 ++ encL l170 := by rw [hx174]; simp
        repeat (first | simp [h11_1, h11_4, h11_5, h11_7, g11_0, g11_1, g11_2, n11_0, hlt164, ew165, f169, hx171, hx174n, hx174e] | with_reducible first | refine awp_reg ?_ | refine And.intro (by omega) ?_ | refine optF_if (by omega) ?_)
        refine hL160 (q163, l173, (k146 + 1)) _ _ (Gh.ren _ (.o (σ12.gen + 2) 8 0) (.l 19) (by simp) rfl rfl) ⟨e157, hd168, ?_, ?_, ?_, ?_, ?_, ?_, ?_, by first | (simp; done) | (simp; omega) | omega⟩ (by simp) <;> simp [St.frz, St.pur, h11_1, h11_4, h11_5, h11_7, g11_0, g11_1, g11_2, n11_0, hlt164, ew165, f169, hx171, hx174n, hx174e]
    · obtain ⟨e130, h10_4, h10_5, g10_0, g10_1, n10_g⟩ := hp
      obtain rfl := Option.some.inj e130
      try dsimp only at hs
      repeat (first | simp [h10_4, h10_5, g10_0, g10_1] | with_reducible refine awp_reg ?_)
      obtain rfl := Option.some.inj hs
      refine hQ _ _ (ret2g _ ((Gh.frz _ (.l 2)).trans (Gh.frz _ (.l 11))) (by simp [St.frz, St.pur, h10_4, h10_5, g10_0, g10_1]; rfl) (by first | rfl | (simp [St.frz, St.pur, h10_4, h10_5, g10_0, g10_1]; done) | (rw [if_pos (by first | omega | (simp; omega))]; simp [St.frz, St.pur, h10_4, h10_5, g10_0, g10_1]; first | omega | exact List.take_of_length_le (by simp; omega) | skip)) (by simp))
end Go.Dc
end
section
set_option linter.all false
namespace Go.Dc
open Go Go.Hw Go.Proofs
set_option maxRecDepth 100000
def r08_ValidName_L1 (a0 : ByteArray) : Nat → Nat → Option (Unit ⊕ Bool)
  | 0, k36 => some (.inl ())
  | q47 + 1, k36 => Option.bind (a0[k36]?) (fun c52 => cond (andB (!(orB (andB (!(ltI (c52.toNat : Int) 97)) (!(ltI 122 (c52.toNat : Int)))) (andB (!(ltI (c52.toNat : Int) 65)) (!(ltI 90 (c52.toNat : Int)))))) (orB (eqI ((k36 : Nat) : Int) 0) (andB (!(eqI (c52.toNat : Int) 95)) (orB (ltI (c52.toNat : Int) 48) (ltI 57 (c52.toNat : Int)))))) (some (.inr false)) (r08_ValidName_L1 a0 q47 (k36 + 1)))

def r08_ValidName (a0 : ByteArray) : Option Bool :=
  cond (orB (ltI ((a0.size : Nat) : Int) 1) (ltI 16 ((a0.size : Nat) : Int))) (some false) (Option.bind (α := Unit ⊕ Bool) (guardO (lenB a0.size) (Option.bind (r08_ValidName_L1 a0 a0.size 0) (fun o => match o with | .inl _ => some (.inl ()) | .inr r55 => some (.inr r55)))) (fun o => match o with | .inl _ => some true | .inr r56 => some r56))

set_option maxHeartbeats 2000000 in
theorem at_r08_ValidName {a0 : ByteArray} {r : Bool} (hs : r08_ValidName a0 = some r) : At Tryd.prog 118 [sV a0] (bV r) := by
  refine at_bound (by kernel_rfl) fun hb => ?_
  refine at_code mixed Tryd.func118 (by kernel_rfl) rfl (by kernel_rfl) rfl fun Q hQ => ?_
  rw [r08_ValidName] at hs
  repeat (first | simp | with_reducible first | refine awp_reg ?_ | refine And.intro (by omega) ?_ | refine optF_if (by omega) ?_ | refine gsel_pure (by with_unfolding_all rfl) _ (fun hg => by (try simp at hg); first | (simp [hg]; rfl) | (simp; simp only [if_pos hg]; simp; rfl)) ?_)
  refine condK_spec (orB (ltI ((a0.size : Nat) : Int) 1) (ltI 16 ((a0.size : Nat) : Int))) (by first | rfl | (simp; done) | (simp [andB, orB, eqI, ltI, Int.natCast_inj]; done)) (fun h1 => ?_) (fun h1 => ?_)
  · replace hs := condT h1 hs
    repeat (first | simp | with_reducible first | refine awp_reg ?_ | refine And.intro (by omega) ?_ | refine optF_if (by omega) ?_ | refine gsel_pure (by with_unfolding_all rfl) _ (fun hg => by (try simp at hg); first | (simp [hg]; rfl) | (simp; simp only [if_pos hg]; simp; rfl)) ?_)
    obtain rfl := Option.some.inj hs
    refine hQ _ _ (ret2g _ (Gh.refl _) (by simp [St.frz, St.pur]; rfl) (by first | rfl | (simp [St.frz, St.pur]; done) | (rw [if_pos (by first | omega | (simp; omega))]; simp [St.frz, St.pur]; first | omega | exact List.take_of_length_le (by simp; omega) | skip)) (by simp))
  · replace hs := condF h1 hs
    repeat (first | simp [-awp_cond_eq, -awp_block_eq] | with_reducible first | refine awp_reg ?_ | refine And.intro (by omega) ?_ | refine optF_if (by omega) ?_ | refine gsel_pure (by with_unfolding_all rfl) _ (fun hg => by (try simp at hg); first | (simp [hg]; rfl) | (simp; simp only [if_pos hg]; simp; rfl)) ?_)
    obtain ⟨o28, e27, hs⟩ := bindO hs
    try dsimp only at hs
    refine awp_cutK (fun (v : Unit) (σ : St) => some (.inl v) = some o28 ∧ 3 ≤ σ.gen) (by rfl) (fun Q hK29 hX30 => ?_) (fun v σ3 hp => ?_)
    · repeat (first | simp | with_reducible first | refine awp_reg ?_ | refine And.intro (by omega) ?_ | refine optF_if (by omega) ?_ | refine gsel_pure (by with_unfolding_all rfl) _ (fun hg => by (try simp at hg); first | (simp [hg]; rfl) | (simp; simp only [if_pos hg]; simp; rfl)) ?_)
      obtain ⟨hb51, e27⟩ := guardO_some e27
      obtain ⟨o42, e41, e27⟩ := bindO e27
      try dsimp only at e27
      refine awp_loopW (fun (v : Nat × Nat) (σ : St) => r08_ValidName_L1 a0 v.1 v.2 = some o42 ∧ v.1 + v.2 = a0.size ∧ σ.env 0 = sV a0 ∧ σ.env 3 = iV .i64 ((v.2 : Nat) : Int) ∧ 3 ≤ σ.gen) (fun v => v.1) _ (Gh.refl _) (a0.size, 0) ⟨e41, by first | omega | simp | (simp; omega), by simp [St.frz, St.pur], by simp [St.frz, St.pur], by first | (simp; done) | (simp; omega) | omega⟩ fun v σ6 hp L43 hL44 => ?_
      obtain ⟨q46, k36⟩ := v
      dsimp only at hp hL44
      obtain ⟨e41, hd45, h5_0, h5_3, n5_g⟩ := hp
      rcases q46 with _ | q47
      · have hlt48 : ¬ k36 < a0.size := by omega
        rw [r08_ValidName_L1] at e41; try dsimp only at e41
        repeat (first | simp [h5_0, h5_3] | with_reducible first | refine awp_reg ?_ | refine And.intro (by omega) ?_ | refine optF_if (by omega) ?_)
        refine condK_f (by simp [ltI]; omega) ?_
        obtain rfl := Option.some.inj e41
        try dsimp only at e27
        exact hK29 () _ _ (Gh.refl _) ⟨e27, by first | (simp; done) | (simp; omega) | omega⟩
      · have hlt48 : k36 < a0.size := by omega
        have ew49 := wrap_succG hlt48 hb51
        rw [r08_ValidName_L1] at e41; try dsimp only at e41
        repeat (first | simp [h5_0, h5_3, hlt48, ew49] | with_reducible first | refine awp_reg ?_ | refine And.intro (by omega) ?_ | refine optF_if (by omega) ?_)
        refine condK_t (by simp [ltI]; omega) ?_
        obtain ⟨c52, hx53, e41⟩ := bindO e41
        try dsimp only at e41
        have hx53b := getB_some hx53
        have hx53g := getB_eq hx53
        repeat (first | simp [h5_0, h5_3, hlt48, ew49, hx53, hx53g] | with_reducible first | refine awp_reg ?_ | refine optF_if (by omega) ?_ | refine gsel_pure (by with_unfolding_all rfl) _ (fun hg => by (try simp at hg); first | (simp [hg, h5_0, h5_3, hlt48, ew49, hx53, hx53g]; rfl) | (simp [h5_0, h5_3, hlt48, ew49, hx53, hx53g]; simp only [if_pos hg]; simp [h5_0, h5_3, hlt48, ew49, hx53, hx53g]; rfl)) ?_)
        refine condK_spec (andB (!(orB (andB (!(ltI (c52.toNat : Int) 97)) (!(ltI 122 (c52.toNat : Int)))) (andB (!(ltI (c52.toNat : Int) 65)) (!(ltI 90 (c52.toNat : Int)))))) (orB (eqI ((k36 : Nat) : Int) 0) (andB (!(eqI (c52.toNat : Int) 95)) (orB (ltI (c52.toNat : Int) 48) (ltI 57 (c52.toNat : Int)))))) (by first | rfl | (simp [h5_0, h5_3, hlt48, ew49, hx53, hx53g]; done) | (simp [andB, orB, eqI, ltI, Int.natCast_inj, h5_0, h5_3, hlt48, ew49, hx53, hx53g]; done)) (fun h54 => ?_) (fun h54 => ?_)
        · replace e41 := condT h54 e41
          repeat (first | simp [h5_0, h5_3, hlt48, ew49, hx53, hx53g] | with_reducible first | refine awp_reg ?_ | refine optF_if (by omega) ?_ | refine gsel_pure (by with_unfolding_all rfl) _ (fun hg => by (try simp at hg); first | (simp [hg, h5_0, h5_3, hlt48, ew49, hx53, hx53g]; rfl) | (simp [h5_0, h5_3, hlt48, ew49, hx53, hx53g]; simp only [if_pos hg]; simp [h5_0, h5_3, hlt48, ew49, hx53, hx53g]; rfl)) ?_)
          obtain rfl := Option.some.inj e41
          try dsimp only at e27
          obtain rfl := Option.some.inj e27
          try dsimp only at hs
          refine hX30 _ _ (by simp) ?_
          repeat (first | simp [h5_0, h5_3, hlt48, ew49, hx53, hx53g] | with_reducible first | refine awp_reg ?_ | refine optF_if (by omega) ?_ | refine gsel_pure (by with_unfolding_all rfl) _ (fun hg => by (try simp at hg); first | (simp [hg, h5_0, h5_3, hlt48, ew49, hx53, hx53g]; rfl) | (simp [h5_0, h5_3, hlt48, ew49, hx53, hx53g]; simp only [if_pos hg]; simp [h5_0, h5_3, hlt48, ew49, hx53, hx53g]; rfl)) ?_)
          obtain rfl := Option.some.inj hs
          refine hQ _ _ (ret2g _ (Gh.refl _) (by simp [St.frz, St.pur, h5_0, h5_3, hlt48, ew49, hx53, hx53g]; rfl) (by first | rfl | (simp [St.frz, St.pur, h5_0, h5_3, hlt48, ew49, hx53, hx53g]; done) | (rw [if_pos (by first | omega | (simp; omega))]; simp [St.frz, St.pur, h5_0, h5_3, hlt48, ew49, hx53, hx53g]; first | omega | exact List.take_of_length_le (by simp; omega) | skip)) (by simp))
        · replace e41 := condF h54 e41
          repeat (first | simp [h5_0, h5_3, hlt48, ew49, hx53, hx53g] | with_reducible first | refine awp_reg ?_ | refine optF_if (by omega) ?_ | refine gsel_pure (by with_unfolding_all rfl) _ (fun hg => by (try simp at hg); first | (simp [hg, h5_0, h5_3, hlt48, ew49, hx53, hx53g]; rfl) | (simp [h5_0, h5_3, hlt48, ew49, hx53, hx53g]; simp only [if_pos hg]; simp [h5_0, h5_3, hlt48, ew49, hx53, hx53g]; rfl)) ?_)
          refine hL44 (q47, (k36 + 1)) _ _ (Gh.refl _) ⟨e41, (by first | omega | (simp; omega)), ?_, ?_, by first | (simp; done) | (simp; omega) | omega⟩ (by omega) <;> simp [St.frz, St.pur, h5_0, h5_3, hlt48, ew49, hx53, hx53g]
    · obtain ⟨e27, n4_g⟩ := hp
      obtain rfl := Option.some.inj e27
      try dsimp only at hs
      repeat (first | simp | with_reducible first | refine awp_reg ?_ | refine And.intro (by omega) ?_ | refine optF_if (by omega) ?_ | refine gsel_pure (by with_unfolding_all rfl) _ (fun hg => by (try simp at hg); first | (simp [hg]; rfl) | (simp; simp only [if_pos hg]; simp; rfl)) ?_)
      obtain rfl := Option.some.inj hs
      refine hQ _ _ (ret2g _ (Gh.refl _) (by simp [St.frz, St.pur]; rfl) (by first | rfl | (simp [St.frz, St.pur]; done) | (rw [if_pos (by first | omega | (simp; omega))]; simp [St.frz, St.pur]; first | omega | exact List.take_of_length_le (by simp; omega) | skip)) (by simp))
end Go.Dc
end
section
set_option linter.all false
namespace Go.Dc
open Go Go.Hw Go.Proofs
set_option maxRecDepth 100000
def r08_names_L2 (a0 : List ByteArray) (i788 : Int) (x982 : ByteArray) : Nat → Int → Option (Unit ⊕ (Int × Int))
  | 0, _ => none
  | q1012 + 1, i997 => cond (ltI i997 i788) (Option.bind (getI a0 i997) (fun x1020 => cond (eqS x1020 x982) (some (.inr (i788, 7))) (r08_names_L2 a0 i788 x982 q1012 (IntKind.i64.wrap (i997 + 1))))) (some (.inl ()))

def r08_names_L1 (fuelN : Nat) (a0 : List ByteArray) : Nat → Int → Option (Unit ⊕ (Int × Int))
  | 0, _ => none
  | q930 + 1, i788 => cond (ltI i788 ((a0.length : Nat) : Int)) (Option.bind (α := Unit ⊕ (Int × Int)) (Option.bind (getI a0 i788) (fun x982 => Option.bind (r08_ValidName x982) (fun y985 => cond (!y985) (some (.inr (i788, 6))) (Option.bind (r08_names_L2 a0 i788 x982 fuelN 0) (fun o => match o with | .inl _ => some (.inl ()) | .inr r1024 => some (.inr r1024)))))) (fun o => match o with | .inl _ => r08_names_L1 fuelN a0 q930 (IntKind.i64.wrap (i788 + 1)) | .inr r1025 => some (.inr r1025))) (some (.inl ()))

def r08_names (fuelN : Nat) (a0 : List ByteArray) : Option (Int × Int) :=
  Option.bind (α := Unit ⊕ (Int × Int)) (Option.bind (r08_names_L1 fuelN a0 fuelN 0) (fun o => match o with | .inl _ => some (.inl ()) | .inr r1026 => some (.inr r1026))) (fun o => match o with | .inl _ => some (0, 0) | .inr r1027 => some r1027)

set_option maxHeartbeats 2000000 in
theorem at_r08_names {fuelN : Nat} {a0 : List ByteArray} {r : Int × Int} (hs : r08_names fuelN a0 = some r) : At Tryd.prog 92 [.cell (.p (.sl a0.length (encL a0)))] (.tup [iV .i64 r.1, iV .i64 r.2]) := by
  refine at_bound (by kernel_rfl) fun hb => ?_
  have hb1 : LenOk (.sl a0.length (encL a0)) := hb (.cell (.p (.sl a0.length (encL a0)))) (by simp)
  refine at_code mixed Tryd.func92 (by kernel_rfl) rfl (by kernel_rfl) rfl fun Q hQ => ?_
  rw [r08_names] at hs
  repeat (first | simp [-awp_cond_eq, -awp_block_eq] | with_reducible refine awp_reg ?_)
  obtain ⟨o513, e512, hs⟩ := bindO hs
  try dsimp only at hs
  refine awp_cutK (fun (v : Unit) (σ : St) => some (.inl v) = some o513 ∧ 2 ≤ σ.gen) (by rfl) (fun Q hK514 hX515 => ?_) (fun v σ27 hp => ?_)
  · repeat (first | simp | with_reducible refine awp_reg ?_)
    obtain ⟨o925, e924, e512⟩ := bindO e512
    try dsimp only at e512
    refine awp_loopW (fun (v : Nat × Int) (σ : St) => r08_names_L1 fuelN a0 v.1 v.2 = some o925 ∧ σ.env 0 = .cell (.p (.sl a0.length (encL a0))) ∧ σ.env 4 = iV .i64 v.2 ∧ 2 ≤ σ.gen) (fun v => v.1) _ (Gh.refl _) (fuelN, 0) ⟨e924, by simp [St.frz, St.pur], by simp [St.frz, St.pur], by first | (simp; done) | (simp; omega) | omega⟩ fun v σ48 hp L926 hL927 => ?_
    obtain ⟨q929, i788⟩ := v
    dsimp only at hp hL927
    obtain ⟨e924, h47_0, h47_4, n47_g⟩ := hp
    rcases q929 with _ | q930
    · rw [r08_names_L1] at e924; cases e924
    · rw [r08_names_L1] at e924; try dsimp only at e924
      repeat (first | simp [h47_0, h47_4] | with_reducible first | refine awp_reg ?_ | refine And.intro (by omega) ?_ | refine optF_if (by omega) ?_)
      refine condK_spec (ltI i788 ((a0.length : Nat) : Int)) (by first | rfl | (simp [h47_0, h47_4]; done) | (simp [andB, orB, eqI, ltI, Int.natCast_inj, h47_0, h47_4]; done)) (fun h934 => ?_) (fun h934 => ?_)
      · replace e924 := condT h934 e924
        repeat (first | simp [-awp_cond_eq, -awp_block_eq, h47_0, h47_4] | with_reducible first | refine awp_reg ?_ | refine And.intro (by omega) ?_ | refine optF_if (by omega) ?_)
        obtain ⟨o979, e978, e924⟩ := bindO e924
        try dsimp only at e924
        refine awp_cutK (fun (v : Unit) (σ : St) => some (.inl v) = some o979 ∧ σ.env 0 = .cell (.p (.sl a0.length (encL a0))) ∧ σ.env 4 = iV .i64 i788 ∧ (σ48.gen + 1) ≤ σ.gen) (by rfl) (fun Q hK980 hX981 => ?_) (fun v σ51 hp => ?_)
        · obtain ⟨x982, hx983, e978⟩ := bindO e978
          try dsimp only at e978
          obtain ⟨hx983a, hx983b, hx983c, hx983d⟩ := getI_some hx983
          have f984 : partCV Tryd.prog 9 (encL a0) ((i788).toNat) = some (sV x982) := partCV_enc1 hx983d (by simp)
          repeat (first | simp [h47_0, h47_4, f984] | with_reducible first | refine awp_reg ?_ | refine And.intro (by omega) ?_ | refine optF_if (by omega) ?_)
          obtain ⟨y985, hx986, e978⟩ := bindO e978
          try dsimp only at e978
          refine callK_pure (at_r08_ValidName hx986) (by (first | simp [h47_0, h47_4, f984] | simp (disch := omega) [h47_0, h47_4, f984]); try rfl) (by simp) (by simp) ?_
          repeat (first | simp [h47_0, h47_4, f984] | with_reducible first | refine awp_reg ?_ | refine And.intro (by omega) ?_ | refine optF_if (by omega) ?_)
          refine condK_spec (!y985) (by first | rfl | (simp [h47_0, h47_4, f984]; done) | (simp [andB, orB, eqI, ltI, Int.natCast_inj, h47_0, h47_4, f984]; done)) (fun h987 => ?_) (fun h987 => ?_)
          · replace e978 := condT h987 e978
            repeat (first | simp [h47_0, h47_4, f984] | with_reducible first | refine awp_reg ?_ | refine And.intro (by omega) ?_ | refine optF_if (by omega) ?_)
            obtain rfl := Option.some.inj e978
            try dsimp only at e924
            refine hX981 _ _ (by simp) ?_
            repeat (first | simp [h47_0, h47_4, f984] | with_reducible first | refine awp_reg ?_ | refine And.intro (by omega) ?_ | refine optF_if (by omega) ?_)
            obtain rfl := Option.some.inj e924
            try dsimp only at e512
            obtain rfl := Option.some.inj e512
            try dsimp only at hs
            refine hX515 _ _ (by simp) ?_
            repeat (first | simp [h47_0, h47_4, f984] | with_reducible first | refine awp_reg ?_ | refine And.intro (by omega) ?_ | refine optF_if (by omega) ?_)
            obtain rfl := Option.some.inj hs
            refine hQ _ _ (ret2g _ (Gh.refl _) (by simp [St.frz, St.pur, h47_0, h47_4, f984]; rfl) (by first | rfl | (simp [St.frz, St.pur, h47_0, h47_4, f984]; done) | (rw [if_pos (by first | omega | (simp; omega))]; simp [St.frz, St.pur, h47_0, h47_4, f984]; first | omega | exact List.take_of_length_le (by simp; omega) | skip)) (by simp))
          · replace e978 := condF h987 e978
            repeat (first | simp [h47_0, h47_4, f984] | with_reducible first | refine awp_reg ?_ | refine And.intro (by omega) ?_ | refine optF_if (by omega) ?_)
            obtain ⟨o1007, e1006, e978⟩ := bindO e978
            try dsimp only at e978
            refine awp_loopW (fun (v : Nat × Int) (σ : St) => r08_names_L2 a0 i788 x982 v.1 v.2 = some o1007 ∧ σ.env 0 = .cell (.p (.sl a0.length (encL a0))) ∧ σ.env 4 = iV .i64 i788 ∧ σ.env 5 = iV .i64 v.2 ∧ (σ48.gen + 3) ≤ σ.gen) (fun v => v.1) _ (Gh.refl _) (fuelN, 0) ⟨e1006, by simp [St.frz, St.pur, h47_0, h47_4, f984], by simp [St.frz, St.pur, h47_0, h47_4, f984], by simp [St.frz, St.pur, h47_0, h47_4, f984], by first | (simp; done) | (simp; omega) | omega⟩ fun v σ54 hp L1008 hL1009 => ?_
            obtain ⟨q1011, i997⟩ := v
            dsimp only at hp hL1009
            obtain ⟨e1006, h53_0, h53_4, h53_5, n53_g⟩ := hp
            rcases q1011 with _ | q1012
            · rw [r08_names_L2] at e1006; cases e1006
            · rw [r08_names_L2] at e1006; try dsimp only at e1006
              repeat (first | simp [h53_0, h53_4, h53_5, f984] | with_reducible refine awp_reg ?_)
              refine condK_spec (ltI i997 i788) (by first | rfl | (simp [h53_0, h53_4, h53_5, f984]; done) | (simp [andB, orB, eqI, ltI, Int.natCast_inj, h53_0, h53_4, h53_5, f984]; done)) (fun h1016 => ?_) (fun h1016 => ?_)
              · replace e1006 := condT h1016 e1006
                obtain ⟨x1020, hx1021, e1006⟩ := bindO e1006
                try dsimp only at e1006
                obtain ⟨hx1021a, hx1021b, hx1021c, hx1021d⟩ := getI_some hx1021
                have f1022 : partCV Tryd.prog 9 (encL a0) ((i997).toNat) = some (sV x1020) := partCV_enc1 hx1021d (by simp)
                repeat (first | simp [h53_0, h53_4, h53_5, f984, f1022] | with_reducible first | refine awp_reg ?_ | refine awp_draw ?_ | refine ord_l (by kernel_rfl) ?_ | refine ord_e (by kernel_rfl) ?_ | refine ord_c (by kernel_rfl) ?_ | refine ord_d (by kernel_rfl) ?_ | refine optF_if (by omega) ?_)
                refine condK_spec (eqS x1020 x982) (by first | rfl | (simp [h53_0, h53_4, h53_5, f984, f1022]; done) | (simp [andB, orB, eqI, ltI, Int.natCast_inj, h53_0, h53_4, h53_5, f984, f1022]; done)) (fun h1023 => ?_) (fun h1023 => ?_)
                · replace e1006 := condT h1023 e1006
                  repeat (first | simp [h53_0, h53_4, h53_5, f984, f1022] | with_reducible first | refine awp_reg ?_ | refine awp_draw ?_ | refine ord_l (by kernel_rfl) ?_ | refine ord_e (by kernel_rfl) ?_ | refine ord_c (by kernel_rfl) ?_ | refine ord_d (by kernel_rfl) ?_ | refine optF_if (by omega) ?_)
                  obtain rfl := Option.some.inj e1006
                  try dsimp only at e978
                  obtain rfl := Option.some.inj e978
                  try dsimp only at e924
                  refine hX981 _ _ (by simp) ?_
                  repeat (first | simp [h53_0, h53_4, h53_5, f984, f1022] | with_reducible first | refine awp_reg ?_ | refine awp_draw ?_ | refine ord_l (by kernel_rfl) ?_ | refine ord_e (by kernel_rfl) ?_ | refine ord_c (by kernel_rfl) ?_ | refine ord_d (by kernel_rfl) ?_ | refine optF_if (by omega) ?_)
                  obtain rfl := Option.some.inj e924
                  try dsimp only at e512
                  obtain rfl := Option.some.inj e512
                  try dsimp only at hs
                  refine hX515 _ _ (by simp) ?_
                  repeat (first | simp [h53_0, h53_4, h53_5, f984, f1022] | with_reducible first | refine awp_reg ?_ | refine awp_draw ?_ | refine ord_l (by kernel_rfl) ?_ | refine ord_e (by kernel_rfl) ?_ | refine ord_c (by kernel_rfl) ?_ | refine ord_d (by kernel_rfl) ?_ | refine optF_if (by omega) ?_)
                  obtain rfl := Option.some.inj hs
                  refine hQ _ _ (ret2g _ (Gh.refl _) (by simp [St.frz, St.pur, h53_0, h53_4, h53_5, f984, f1022]; rfl) (by first | rfl | (simp [St.frz, St.pur, h53_0, h53_4, h53_5, f984, f1022]; done) | (rw [if_pos (by first | omega | (simp; omega))]; simp [St.frz, St.pur, h53_0, h53_4, h53_5, f984, f1022]; first | omega | exact List.take_of_length_le (by simp; omega) | skip)) (by simp))
                · replace e1006 := condF h1023 e1006
                  repeat (first | simp [h53_0, h53_4, h53_5, f984, f1022] | with_reducible first | refine awp_reg ?_ | refine awp_draw ?_ | refine ord_l (by kernel_rfl) ?_ | refine ord_e (by kernel_rfl) ?_ | refine ord_c (by kernel_rfl) ?_ | refine ord_d (by kernel_rfl) ?_ | refine optF_if (by omega) ?_)
                  refine hL1009 (q1012, IntKind.i64.wrap (i997 + 1)) _ _ (Gh.refl _) ⟨e1006, ?_, ?_, ?_, by first | (simp; done) | (simp; omega) | omega⟩ (by omega) <;> simp [St.frz, St.pur, h53_0, h53_4, h53_5, f984, f1022]
              · replace e1006 := condF h1016 e1006
                repeat (first | simp [h53_0, h53_4, h53_5, f984] | with_reducible refine awp_reg ?_)
                obtain rfl := Option.some.inj e1006
                try dsimp only at e978
                refine hK980 () _ _ (Gh.refl _) ⟨e978, ?_, ?_, by first | (simp; done) | (simp; omega) | omega⟩ <;> simp [St.frz, St.pur, h53_0, h53_4, h53_5, f984]
        · obtain ⟨e978, h52_0, h52_4, n52_g⟩ := hp
          obtain rfl := Option.some.inj e978
          try dsimp only at e924
          repeat (first | simp [h52_0, h52_4] | with_reducible first | refine awp_reg ?_ | refine And.intro (by omega) ?_ | refine optF_if (by omega) ?_)
          refine hL927 (q930, IntKind.i64.wrap (i788 + 1)) _ _ (Gh.refl _) ⟨e924, ?_, ?_, by first | (simp; done) | (simp; omega) | omega⟩ (by omega) <;> simp [St.frz, St.pur, h52_0, h52_4]
      · replace e924 := condF h934 e924
        repeat (first | simp [h47_0, h47_4] | with_reducible first | refine awp_reg ?_ | refine And.intro (by omega) ?_ | refine optF_if (by omega) ?_)
        obtain rfl := Option.some.inj e924
        try dsimp only at e512
        exact hK514 () _ _ (Gh.refl _) ⟨e512, by first | (simp; done) | (simp; omega) | omega⟩
  · obtain ⟨e512, n28_g⟩ := hp
    obtain rfl := Option.some.inj e512
    try dsimp only at hs
    repeat (first | simp | with_reducible refine awp_reg ?_)
    obtain rfl := Option.some.inj hs
    refine hQ _ _ (ret2g _ (Gh.refl _) (by simp [St.frz, St.pur]; rfl) (by first | rfl | (simp [St.frz, St.pur]; done) | (rw [if_pos (by first | omega | (simp; omega))]; simp [St.frz, St.pur]; first | omega | exact List.take_of_length_le (by simp; omega) | skip)) (by simp))
end Go.Dc
end
section
set_option linter.all false
namespace Go.Dc.Pl
open Go Go.Hw Go.Dc
theorem eqI_d (a b : Int) : eqI a b = decide (a = b) := by simp [eqI, Bool.beq_eq_decide_eq]
theorem ltI_d (a b : Int) : ltI a b = decide (a < b) := rfl
theorem andB_d (a b : Bool) : andB a b = (a && b) := rfl
theorem orB_d (a b : Bool) : orB a b = (a || b) := rfl
theorem eqS_comm (a b : ByteArray) : eqS a b = eqS b a := by simp [eqS, Bool.beq_comm]
theorem inB_d (i : Int) (n : Nat) : inB i n = decide (0 ≤ i ∧ i < n) := rfl
theorem lenB_d (n : Nat) : lenB n = decide (n ≤ 1099511627776) := rfl
def small (p : Program) : Bool := decide (p.Vars.length ≤ 20 ∧ p.Mutexes.length ≤ 20 ∧ p.Conds.length ≤ 20 ∧ p.Funcs.length ≤ 20 ∧ p.Threads.length ≤ 20) && !p.Funcs.any fun f => decide (100 < f.Code.length)
theorem small_eq (p : Program) : r08_Small p = some (small p) := by
  have h := srch (L := r08_Small_L1) (fun _ (x : Func) => onlyIf (ltI 100 ((x.Code.length : Nat) : Int)) false) (fun _ => rfl) p.Funcs 0 fun j x hx q => by
    rw [r08_Small_L1, step_only]
  rw [first_onlyC] at h
  simp only [r08_Small, small, h, orB_d, ltI_d, cond_eq_ite]
  have ha : (p.Funcs.any fun x => ltI 100 ((x.Code.length : Nat) : Int)) = (p.Funcs.any fun f => decide (100 < f.Code.length)) := by
    congr 1; funext x; simp [ltI_d]; omega
  simp only [ltI_d] at ha
  rw [ha]
  by_cases e : p.Vars.length ≤ 20 ∧ p.Mutexes.length ≤ 20 ∧ p.Conds.length ≤ 20 ∧ p.Funcs.length ≤ 20 ∧ p.Threads.length ≤ 20
  · rw [if_neg (by simp; omega)]; simp only [e]; cases p.Funcs.any fun f => decide (100 < f.Code.length) <;> simp
  · rw [if_pos (by simp; omega)]; simp only [e]; simp
theorem small_t {p : Program} (h : small p = true) : p.Vars.length ≤ 20 ∧ p.Mutexes.length ≤ 20 ∧ p.Conds.length ≤ 20 ∧ p.Funcs.length ≤ 20 ∧ p.Threads.length ≤ 20 ∧ ∀ f ∈ p.Funcs, f.Code.length ≤ 100 := by
  simp [small] at h
  obtain ⟨⟨a, b, c, d, e⟩, h⟩ := h
  exact ⟨a, b, c, d, e, h⟩

/-- What a byte of a name may not be. -/
def badC (k : Nat) (c : UInt8) : Bool := andB (!(orB (andB (!(ltI (c.toNat : Int) 97)) (!(ltI 122 (c.toNat : Int)))) (andB (!(ltI (c.toNat : Int) 65)) (!(ltI 90 (c.toNat : Int)))))) (orB (eqI ((k : Nat) : Int) 0) (andB (!(eqI (c.toNat : Int) 95)) (orB (ltI (c.toNat : Int) 48) (ltI 57 (c.toNat : Int)))))
def okName (s : ByteArray) : Bool := decide (1 ≤ s.size ∧ s.size ≤ 16) && !(((List.replicate s.size ()).zipIdx 0).any fun x => badC x.2 (bget s x.2))
theorem bget_eq {s : ByteArray} {k : Nat} (h : k < s.size) : s[k]? = some (bget s k) := by
  simp [bget, h]
theorem ref_name (s : ByteArray) : r08_ValidName s = some (okName s) := by
  simp only [r08_ValidName, okName, orB_d, ltI_d, cond_eq_ite]
  by_cases e : 1 ≤ s.size ∧ s.size ≤ 16
  · rw [if_neg (by simp; omega), show lenB s.size = true by rw [lenB_d]; simp; omega]
    have h := srchN (L := r08_ValidName_L1 s) (fun k => onlyIf (badC k (bget s k)) false) (fun _ => rfl) s.size 0 fun q j hj => by
      rw [Nat.zero_add, r08_ValidName_L1, bget_eq hj, Option.bind_some]
      exact step_only _ _ _
    rw [guardO_t, h, first_only (fun k (_ : Unit) => badC k (bget s k))]
    cases ((List.replicate s.size ()).zipIdx 0).any fun x => badC x.2 (bget s x.2) <;> simp [e]
  · rw [if_pos (by simp; omega)]; simp [e]
theorem any_ext {α : Type} {p q : α → Bool} : ∀ {l : List α}, (∀ x ∈ l, p x = q x) → l.any p = l.any q
  | [], _ => rfl
  | x :: l, h => by rw [List.any_cons, List.any_cons, h x (by simp), any_ext fun y hy => h y (by simp [hy])]
def badP (c : UInt8) : Bool := andB (andB (!(orB (andB (!(ltI (c.toNat : Int) 97)) (!(ltI 122 (c.toNat : Int)))) (andB (!(ltI (c.toNat : Int) 65)) (!(ltI 90 (c.toNat : Int)))))) (!(eqI (c.toNat : Int) 95))) (orB (ltI (c.toNat : Int) 48) (ltI 57 (c.toNat : Int)))
def letr (c : UInt8) : Bool := orB (andB (!(ltI (c.toNat : Int) 97)) (!(ltI 122 (c.toNat : Int)))) (andB (!(ltI (c.toNat : Int) 65)) (!(ltI 90 (c.toNat : Int))))
theorem own_name (s : ByteArray) : program_ValidName s = some (okName s) := by
  simp only [program_ValidName, okName]
  rw [show program_letter (bget s 0) = some (letr (bget s 0)) from rfl]
  by_cases e : 1 ≤ s.size ∧ s.size ≤ 16
  · have h := srchN (L := program_ValidName_L1 s) (fun k => onlyIf (badP (bget s k)) false) (fun _ => rfl) s.size 0 fun q j hj => by
      rw [Nat.zero_add, program_ValidName_L1, bget_eq hj, Option.bind_some, program_letter, Option.bind_some]
      exact step_only _ _ _
    rw [first_only (fun k (_ : Unit) => badP (bget s k))] at h
    rw [show (orB (ltI ((s.size : Nat) : Int) 1) (ltI 16 ((s.size : Nat) : Int))) = false by simp [orB_d, ltI_d]; omega]
    rw [show inB ((0 : Nat) : Int) s.size = true by simp [inB_d]; omega, show lenB s.size = true by rw [lenB_d]; simp; omega, h]
    have hl : badC 0 (bget s 0) = !letr (bget s 0) := by simp [badC, letr, orB_d, andB_d, eqI_d]
    have hk : ∀ k, k ≠ 0 → badC k (bget s k) = badP (bget s k) := fun k hk => by
      simp only [badC, badP, orB_d, andB_d, eqI_d, Bool.and_assoc]
      simp [hk]
    obtain ⟨n, hn⟩ : ∃ n, s.size = n + 1 := ⟨s.size - 1, by omega⟩
    rw [hn, List.replicate_succ, List.zipIdx_cons, List.any_cons, List.any_cons]
    have hr : (((List.replicate n ()).zipIdx (0 + 1)).any fun x => badC x.2 (bget s x.2)) = (((List.replicate n ()).zipIdx (0 + 1)).any fun x => badP (bget s x.2)) := by
      refine any_ext fun x hx => ?_
      have := List.mem_zipIdx hx
      exact hk _ (by omega)
    rw [hr]
    simp only [hl]
    cases hlt : letr (bget s 0)
    · simp [orB]
    · have : badP (bget s 0) = false := by simp only [letr] at hlt; simp only [badP, andB_d] at hlt ⊢; rw [hlt]; rfl
      rw [this]
      cases ((List.replicate n ()).zipIdx (0 + 1)).any fun x => badP (bget s x.2) <;> simp [orB] <;> omega
  · rw [show (orB (ltI ((s.size : Nat) : Int) 1) (ltI 16 ((s.size : Nat) : Int))) = true by simp [orB_d, ltI_d]; omega]
    simp [orB, e]
theorem index_eq (l : List ByteArray) (s : ByteArray) : slices_Index_string l s = some (((first (fun k x => onlyIf (eqS s x) (k : Int)) l 0).getD (-1))) := by
  have h := srch (L := slices_Index_string_L1 s) (fun k x => onlyIf (eqS s x) (k : Int)) (fun _ => rfl) l 0 fun j x hx q => by rw [slices_Index_string_L1]; exact step_only _ _ _
  rw [slices_Index_string, h]
  cases first (fun k x => onlyIf (eqS s x) (k : Int)) l 0 <;> rfl
theorem first_nonneg {α : Type} (p : α → Bool) : ∀ (l : List α) (k : Nat) (r : Int), first (fun k x => onlyIf (p x) (k : Int)) l k = some r → 0 ≤ r
  | [], _, _, h => by cases h
  | x :: q, k, r, h => by
    rw [first_cons] at h
    cases hp : p x
    · simp [hp] at h; exact first_nonneg p q _ r h
    · simp [hp] at h; omega
theorem contains_eq (l : List ByteArray) (s : ByteArray) : slices_Contains_string l s = some (l.any (eqS s)) := by
  rw [slices_Contains_string, index_eq, ← first_isSome (eqS s) (fun k _ => (k : Int)) l 0, Option.bind_some]
  have := first_nonneg (eqS s) l 0
  cases h : first (fun k x => onlyIf (eqS s x) (k : Int)) l 0 with
  | none => rfl
  | some r => have := this r h; simp [ltI_d]; omega
/-- What is wrong with a name of a list. -/
def nmF (l : List ByteArray) (k : Nat) (x : ByteArray) : Option (Int × Int) := if okName x = false then some (6, (k : Int)) else onlyIf ((l.take k).any (eqS x)) (7, (k : Int))
def badName (l : List ByteArray) : Option (Int × Int) := first (nmF l) l 0
theorem own_names (l : List ByteArray) : program_names l = some ((badName l).getD (0, -1)) := by
  have h := srch (L := program_names_L1 l) (nmF l) (fun _ => rfl) l 0 fun j x hx q => by
    have hj := getN_some hx
    rw [Nat.zero_add, program_names_L1, own_name, Option.bind_some, nmF]
    cases okName x
    · rfl
    · rw [show slB 0 ((j : Nat) : Int) l.length = true by simp [slB]; omega, guardO_t, Option.bind_some, contains_eq, Option.bind_some, show subL l 0 (j : Int) = l.take j by simp [subL], if_neg (by simp), Bool.not_true, cond_false]
      exact step_only _ _ _
  rw [program_names, h]
  show _ = some ((first (nmF l) l 0).getD _)
  cases first (nmF l) l 0 <;> rfl
theorem ref_names {l : List ByteArray} {fuel : Nat} (hl : l.length < fuel) (hl2 : l.length ≤ 1099511627776) : r08_names fuel l = some (match badName l with | some r => (r.2, r.1) | none => (0, 0)) := by
  have h := srchI (L := r08_names_L1 fuel l) l (fun k x => (nmF l k x).map fun r => (r.2, r.1)) (fun q => by rw [r08_names_L1]; simp [ltI_d]) (fun q k x hx => by
    have hk := getN_some hx
    have h2 := srchI (L := r08_names_L2 l (k : Int) x) (l.take k) (fun _ y => onlyIf (eqS y x) ((k : Int), (7 : Int))) (fun q => by
      rw [r08_names_L2, List.length_take, Nat.min_eq_left (by omega)]; simp [ltI_d]) (fun q j y hy => by
      have hj := getN_some hy
      rw [List.length_take, Nat.min_eq_left (by omega)] at hj
      rw [List.getElem?_take_of_lt hj] at hy
      rw [r08_names_L2, ltI_d, show decide ((j : Int) < k) = true by simp; omega, cond_true, getI_nat, hy, Option.bind_some, wrapS (by omega)]
      exact step_only _ _ _) fuel 0 (by omega) (by rw [List.length_take]; omega)
    rw [List.drop_zero, first_onlyC] at h2
    rw [r08_names_L1, ltI_d, show decide ((k : Int) < (l.length : Nat)) = true by simp; omega, cond_true, getI_nat, hx, Option.bind_some, ref_name, Option.bind_some, wrapS (by omega), nmF]
    rw [Int.natCast_zero] at h2
    rw [h2, show ((l.take k).any fun y => eqS y x) = (l.take k).any (eqS x) from any_ext fun y _ => eqS_comm _ _]
    cases okName x
    · rfl
    · cases (l.take k).any (eqS x) <;> rfl) fuel 0 (by omega) (by omega)
  rw [List.drop_zero, first_map (h := nmF l) (g := fun r => (r.2, r.1)) l 0 (fun _ _ => rfl), Int.natCast_zero] at h
  rw [r08_names, h, badName]
  cases first (nmF l) l 0 <;> rfl
end Go.Dc.Pl
end
section
set_option linter.all false
namespace Go.Dc
open Go Go.Hw Go.Proofs
set_option maxRecDepth 100000

def inst_known (a0 : Int) : Option Bool :=
  some (andB (!(ltI a0 1)) (!(ltI 22 a0)))

set_option maxHeartbeats 2000000 in
theorem at_inst_known {a0 : Int} {r : Bool} (hs : inst_known a0 = some r) : At Tryd.prog 104 [iV .i64 a0] (bV r) := by
  refine at_bound (by kernel_rfl) fun hb => ?_
  refine at_code mixed Tryd.func104 (by kernel_rfl) rfl (by kernel_rfl) rfl fun Q hQ => ?_
  rw [inst_known] at hs
  repeat (first | simp | with_reducible first | refine awp_reg ?_ | refine gsel_pure (by with_unfolding_all rfl) _ (fun hg => by (try simp at hg); first | (simp [hg]; rfl) | (simp; simp only [if_pos hg]; simp; rfl)) ?_)
  obtain rfl := Option.some.inj hs
  refine hQ _ _ (ret2g _ (Gh.refl _) (by simp [St.frz, St.pur]; rfl) (by first | rfl | (simp [St.frz, St.pur]; done) | (rw [if_pos (by first | omega | (simp; omega))]; simp [St.frz, St.pur]; first | omega | exact List.take_of_length_le (by simp; omega) | skip)) (by simp))
end Go.Dc
end
section
set_option linter.all false
namespace Go.Dc
open Go Go.Hw Go.Proofs
set_option maxRecDepth 100000

def inst_values (a0 : Inst) : Option (Arr 7 Int) :=
  some (Arr.of 7 [a0.A, a0.B, a0.C, a0.Obj, a0.N, a0.Fn, a0.Order])

set_option maxHeartbeats 2000000 in
theorem at_inst_values {a0 : Inst} {r : (Arr 7 Int)} (hs : inst_values a0 = some r) : At Tryd.prog 105 [.agg [.p (.c (.int .i64 a0.Op)), .p (.c (.int .i64 a0.A)), .p (.c (.int .i64 a0.B)), .p (.c (.int .i64 a0.C)), .p (.c (.int .i64 a0.Obj)), .p (.c (.int .i64 a0.N)), .p (.c (.int .i64 a0.Fn)), .p (.c (.int .i64 a0.Order))]] (.agg [.p (.c (.int .i64 (r.f 0))), .p (.c (.int .i64 (r.f 1))), .p (.c (.int .i64 (r.f 2))), .p (.c (.int .i64 (r.f 3))), .p (.c (.int .i64 (r.f 4))), .p (.c (.int .i64 (r.f 5))), .p (.c (.int .i64 (r.f 6)))]) := by
  refine at_bound (by kernel_rfl) fun hb => ?_
  refine at_code mixed Tryd.func105 (by kernel_rfl) rfl (by kernel_rfl) rfl fun Q hQ => ?_
  rw [inst_values] at hs
  repeat (first | simp | with_reducible first | refine awp_reg ?_ | refine And.intro (by omega) ?_ | refine optF_if (by omega) ?_)
  obtain rfl := Option.some.inj hs
  refine hQ _ _ (ret2g _ (Gh.refl _) (by simp [St.frz, St.pur]; rfl) (by first | rfl | (simp [St.frz, St.pur]; done) | (rw [if_pos (by first | omega | (simp; omega))]; simp [St.frz, St.pur]; first | omega | exact List.take_of_length_le (by simp; omega) | skip)) (by simp))
end Go.Dc
end
section
set_option linter.all false
namespace Go.Dc
open Go Go.Hw Go.Proofs
set_option maxRecDepth 100000

def value_Name (a0 : Int) : Option ByteArray :=
  cond (orB (ltI a0 1) (ltI 10 a0)) (some (⟨#[]⟩ : ByteArray)) (Option.bind (getI namesTab (IntKind.i64.wrap (a0 - 1))) (fun x2 => some x2))

set_option maxHeartbeats 2000000 in
theorem at_value_Name {a0 : Int} {r : ByteArray} (hs : value_Name a0 = some r) : At Tryd.prog 106 [iV .i64 a0] (sV r) := by
  refine at_bound (by kernel_rfl) fun hb => ?_
  refine at_code mixed Tryd.func106 (by kernel_rfl) rfl (by kernel_rfl) rfl fun Q hQ => ?_
  rw [value_Name] at hs
  repeat (first | simp | with_reducible first | refine awp_reg ?_ | refine gsel_pure (by with_unfolding_all rfl) _ (fun hg => by (try simp at hg); first | (simp [hg]; rfl) | (simp; simp only [if_pos hg]; simp; rfl)) ?_)
  refine condK_spec (orB (ltI a0 1) (ltI 10 a0)) (by first | rfl | (simp; done) | (simp [andB, orB, eqI, ltI, Int.natCast_inj]; done)) (fun h1 => ?_) (fun h1 => ?_)
  · replace hs := condT h1 hs
    repeat (first | simp | with_reducible first | refine awp_reg ?_ | refine gsel_pure (by with_unfolding_all rfl) _ (fun hg => by (try simp at hg); first | (simp [hg]; rfl) | (simp; simp only [if_pos hg]; simp; rfl)) ?_)
    obtain rfl := Option.some.inj hs
    refine hQ _ _ (ret2g _ (Gh.refl _) (by simp [St.frz, St.pur]; rfl) (by first | rfl | (simp [St.frz, St.pur]; done) | (rw [if_pos (by first | omega | (simp; omega))]; simp [St.frz, St.pur]; first | omega | exact List.take_of_length_le (by simp; omega) | skip)) (by simp))
  · replace hs := condF h1 hs
    obtain ⟨x2, hx3, hs⟩ := bindO hs
    try dsimp only at hs
    obtain ⟨hx3a, hx3b, hx3c, hx3d⟩ := getI_some hx3
    have t4L : namesTab.length = 10 := rfl
    have f5 : partCV Tryd.prog 9 (encL namesTab) ((IntKind.i64.wrap (a0 - 1)).toNat) = some (sV x2) := partCV_enc1 hx3d (by simp)
    repeat (first | simp [f5] | with_reducible first | refine awp_reg ?_ | refine optF_if (by omega) ?_ | refine gsel_pure (by with_unfolding_all rfl) _ (fun hg => by (try simp at hg); first | (simp [hg, f5, hx3a, hx3b]; rfl) | (simp [f5]; simp only [if_pos hg]; simp [f5]; rfl)) ?_)
    obtain rfl := Option.some.inj hs
    refine hQ _ _ (ret2g _ (Gh.refl _) (by simp [St.frz, St.pur, f5]; rfl) (by first | rfl | (simp [St.frz, St.pur, f5]; done) | (rw [if_pos (by first | omega | (simp; omega))]; simp [St.frz, St.pur, f5]; first | omega | exact List.take_of_length_le (by simp; omega) | skip)) (by simp))
end Go.Dc
end
section
set_option linter.all false
namespace Go.Dc
open Go Go.Hw Go.Proofs
set_option maxRecDepth 100000
def inst_Check_L1 (x4 : InstRow) (y8 : (Arr 7 Int)) : Nat → Int → Option (Unit ⊕ Int)
  | 0, _ => none
  | q65 + 1, i52 => cond (ltI i52 7) (guardO (inB i52 7) (guardO (inB i52 7) (cond (andB (!(x4.uses.f ((i52).toNat))) (!(eqI (y8.f ((i52).toNat)) 0))) (some (.inr 9)) (inst_Check_L1 x4 y8 q65 (IntKind.i64.wrap (i52 + 1)))))) (some (.inl ()))

def inst_Check_L2 (a0 : Inst) (x4 : InstRow) : Nat → Int → Option (Unit ⊕ Int)
  | 0, _ => none
  | q131 + 1, i118 => cond (ltI i118 3) (guardO (inB i118 3) (guardO (inB i118 7) (cond (andB (x4.uses.f ((i118).toNat)) (orB (ltI ((Arr.of 3 [a0.A, a0.B, a0.C] : Arr 3 Int).f ((i118).toNat)) 0) (!(ltI ((Arr.of 3 [a0.A, a0.B, a0.C] : Arr 3 Int).f ((i118).toNat)) 8)))) (some (.inr 10)) (inst_Check_L2 a0 x4 q131 (IntKind.i64.wrap (i118 + 1)))))) (some (.inl ()))

def inst_Check (fuelN : Nat) (a0 : Inst) : Option Int :=
  Option.bind (inst_known a0.Op) (fun y1 => cond (!y1) (some 8) (Option.bind (getI rowsTab (IntKind.i64.wrap (a0.Op - 1))) (fun x4 => Option.bind (inst_values a0) (fun y8 => Option.bind (α := Unit ⊕ Int) (Option.bind (inst_Check_L1 x4 y8 fuelN 0) (fun o => match o with | .inl _ => some (.inl ()) | .inr r75 => some (.inr r75))) (fun o => match o with | .inl _ => Option.bind (α := Unit ⊕ Int) (Option.bind (inst_Check_L2 a0 x4 fuelN 0) (fun o => match o with | .inl _ => some (.inl ()) | .inr r141 => some (.inr r141))) (fun o => match o with | .inl _ => cond (andB (x4.uses.f 6) (orB (ltI a0.Order 0) (ltI 2 a0.Order))) (some 13) (guardO (orB (!(x4.uses.f 5)) ((value_Name a0.Fn).isSome)) (cond (andB (x4.uses.f 5) (eqS ((value_Name a0.Fn).getD default) (⟨#[]⟩ : ByteArray))) (some 8) (cond (andB (eqI a0.Op 1) (orB (ltI a0.N (-2147483648)) (ltI 2147483647 a0.N))) (some 2) (some 0)))) | .inr r146 => some r146) | .inr r147 => some r147)))))

set_option maxHeartbeats 2000000 in
theorem at_inst_Check {fuelN : Nat} {a0 : Inst} {r : Int} (hs : inst_Check fuelN a0 = some r) : At Tryd.prog 72 [.agg [.p (.c (.int .i64 a0.Op)), .p (.c (.int .i64 a0.A)), .p (.c (.int .i64 a0.B)), .p (.c (.int .i64 a0.C)), .p (.c (.int .i64 a0.Obj)), .p (.c (.int .i64 a0.N)), .p (.c (.int .i64 a0.Fn)), .p (.c (.int .i64 a0.Order))]] (iV .i64 r) := by
  refine at_bound (by kernel_rfl) fun hb => ?_
  refine at_code mixed Tryd.func72 (by kernel_rfl) rfl (by kernel_rfl) rfl fun Q hQ => ?_
  rw [inst_Check] at hs
  repeat (first | simp | with_reducible first | refine awp_reg ?_ | refine And.intro (by omega) ?_ | refine optF_if (by omega) ?_)
  obtain ⟨y1, hx2, hs⟩ := bindO hs
  try dsimp only at hs
  refine callK_pure (at_inst_known hx2) (by (first | simp | simp (disch := omega) []); try rfl) (by simp) (by simp) ?_
  repeat (first | simp | with_reducible first | refine awp_reg ?_ | refine And.intro (by omega) ?_ | refine optF_if (by omega) ?_)
  refine condK_spec (!y1) (by first | rfl | (simp; done) | (simp [andB, orB, eqI, ltI, Int.natCast_inj]; done)) (fun h3 => ?_) (fun h3 => ?_)
  · replace hs := condT h3 hs
    repeat (first | simp | with_reducible first | refine awp_reg ?_ | refine And.intro (by omega) ?_ | refine optF_if (by omega) ?_)
    obtain rfl := Option.some.inj hs
    refine hQ _ _ (ret2g _ (Gh.refl _) (by simp [St.frz, St.pur]; rfl) (by first | rfl | (simp [St.frz, St.pur]; done) | (rw [if_pos (by first | omega | (simp; omega))]; simp [St.frz, St.pur]; first | omega | exact List.take_of_length_le (by simp; omega) | skip)) (by simp))
  · replace hs := condF h3 hs
    obtain ⟨x4, hx5, hs⟩ := bindO hs
    try dsimp only at hs
    obtain ⟨hx5a, hx5b, hx5c, hx5d⟩ := getI_some hx5
    have t6L : rowsTab.length = 22 := rfl
    have f7 : partCV Tryd.prog 142 (encL rowsTab) (((IntKind.i64.wrap (a0.Op - 1)).toNat) * 8 + 1) = some (.agg [.p (.c (.bool (x4.uses.f 0))), .p (.c (.bool (x4.uses.f 1))), .p (.c (.bool (x4.uses.f 2))), .p (.c (.bool (x4.uses.f 3))), .p (.c (.bool (x4.uses.f 4))), .p (.c (.bool (x4.uses.f 5))), .p (.c (.bool (x4.uses.f 6)))]) := partCV_enc hx5d (f := 1) (by simp)
    repeat (first | simp [f7] | with_reducible first | refine awp_reg ?_ | refine And.intro (by omega) ?_ | refine optF_if (by omega) ?_)
    obtain ⟨y8, hx9, hs⟩ := bindO hs
    try dsimp only at hs
    refine callK_pure (at_inst_values hx9) (by (first | simp [f7] | simp (disch := omega) [f7]); try rfl) (by simp) (by simp) ?_
    repeat (first | simp [-awp_cond_eq, -awp_block_eq, f7] | with_reducible first | refine awp_reg ?_ | refine And.intro (by omega) ?_ | refine optF_if (by omega) ?_)
    obtain ⟨o42, e41, hs⟩ := bindO hs
    try dsimp only at hs
    refine awp_cutK (fun (v : Unit) (σ : St) => some (.inl v) = some o42 ∧ σ.env 1 = .cell (.ref (.o 1 0 0) 0) ∧ σ.env 3 = .cell (.ref (.o 3 6 0) 0) ∧ σ.hp (.o 1 0 0) = some (.cells [.p (.c (.int .i64 a0.Op)), .p (.c (.int .i64 a0.A)), .p (.c (.int .i64 a0.B)), .p (.c (.int .i64 a0.C)), .p (.c (.int .i64 a0.Obj)), .p (.c (.int .i64 a0.N)), .p (.c (.int .i64 a0.Fn)), .p (.c (.int .i64 a0.Order))]) ∧ σ.hp (.o 3 6 0) = some (.cells [.p (.c (.bool (x4.uses.f 0))), .p (.c (.bool (x4.uses.f 1))), .p (.c (.bool (x4.uses.f 2))), .p (.c (.bool (x4.uses.f 3))), .p (.c (.bool (x4.uses.f 4))), .p (.c (.bool (x4.uses.f 5))), .p (.c (.bool (x4.uses.f 6)))]) ∧ 4 ≤ σ.gen) (by rfl) (fun Q hK43 hX44 => ?_) (fun v σ3 hp => ?_)
    · repeat (first | simp [f7] | with_reducible first | refine awp_reg ?_ | refine And.intro (by omega) ?_ | refine optF_if (by omega) ?_)
      obtain ⟨o60, e59, e41⟩ := bindO e41
      try dsimp only at e41
      refine awp_loopW (fun (v : Nat × Int) (σ : St) => inst_Check_L1 x4 y8 v.1 v.2 = some o60 ∧ σ.env 1 = .cell (.ref (.o 1 0 0) 0) ∧ σ.env 3 = .cell (.ref (.o 3 6 0) 0) ∧ σ.env 19 = .agg [.p (.c (.int .i64 (y8.f 0))), .p (.c (.int .i64 (y8.f 1))), .p (.c (.int .i64 (y8.f 2))), .p (.c (.int .i64 (y8.f 3))), .p (.c (.int .i64 (y8.f 4))), .p (.c (.int .i64 (y8.f 5))), .p (.c (.int .i64 (y8.f 6)))] ∧ σ.env 20 = iV .i64 v.2 ∧ σ.hp (.o 1 0 0) = some (.cells [.p (.c (.int .i64 a0.Op)), .p (.c (.int .i64 a0.A)), .p (.c (.int .i64 a0.B)), .p (.c (.int .i64 a0.C)), .p (.c (.int .i64 a0.Obj)), .p (.c (.int .i64 a0.N)), .p (.c (.int .i64 a0.Fn)), .p (.c (.int .i64 a0.Order))]) ∧ σ.hp (.o 3 6 0) = some (.cells [.p (.c (.bool (x4.uses.f 0))), .p (.c (.bool (x4.uses.f 1))), .p (.c (.bool (x4.uses.f 2))), .p (.c (.bool (x4.uses.f 3))), .p (.c (.bool (x4.uses.f 4))), .p (.c (.bool (x4.uses.f 5))), .p (.c (.bool (x4.uses.f 6)))]) ∧ 4 ≤ σ.gen) (fun v => v.1) _ (Gh.refl _) (fuelN, 0) ⟨e59, by simp [St.frz, St.pur, f7], by simp [St.frz, St.pur, f7], by simp [St.frz, St.pur, f7], by simp [St.frz, St.pur, f7], by simp [St.frz, St.pur, f7], by simp [St.frz, St.pur, f7], by first | (simp; done) | (simp; omega) | omega⟩ fun v σ6 hp L61 hL62 => ?_
      obtain ⟨q64, i52⟩ := v
      dsimp only at hp hL62
      obtain ⟨e59, h5_1, h5_3, h5_19, h5_20, g5_0, g5_1, n5_g⟩ := hp
      have n5_0 : ¬ (σ6.gen = 0) := by omega
      have n5_1 : ¬ (σ6.gen = 1) := by omega
      have n5_2 : ¬ (σ6.gen = 2) := by omega
      rcases q64 with _ | q65
      · rw [inst_Check_L1] at e59; cases e59
      · rw [inst_Check_L1] at e59; try dsimp only at e59
        repeat (first | simp [h5_1, h5_3, h5_19, h5_20, g5_0, g5_1, n5_0, n5_1, n5_2, f7] | with_reducible refine awp_reg ?_)
        refine condK_spec (ltI i52 7) (by first | rfl | (simp [h5_1, h5_3, h5_19, h5_20, g5_0, g5_1, n5_0, n5_1, n5_2, f7]; done) | (simp [andB, orB, eqI, ltI, Int.natCast_inj, h5_1, h5_3, h5_19, h5_20, g5_0, g5_1, n5_0, n5_1, n5_2, f7]; done)) (fun h69 => ?_) (fun h69 => ?_)
        · replace e59 := condT h69 e59
          obtain ⟨g70, e59⟩ := guardO_some e59
          have g70a : 0 ≤ i52 := (inB_t g70).1
          have g70b : i52 < 7 := (inB_t g70).2.1
          have g70n : (i52).toNat < 7 :=  by simpa using (inB_t g70).2.2
          have f71 : ([.p (.c (.int .i64 (y8.f 0))), .p (.c (.int .i64 (y8.f 1))), .p (.c (.int .i64 (y8.f 2))), .p (.c (.int .i64 (y8.f 3))), .p (.c (.int .i64 (y8.f 4))), .p (.c (.int .i64 (y8.f 5))), .p (.c (.int .i64 (y8.f 6)))] : List AC)[(i52).toNat]? = some (.p (.c (.int .i64 (y8.f ((i52).toNat))))) := arr_read (n := 7) (fun j => (.p (.c (.int .i64 (y8.f j))) : AC)) g70n
          have f71t := take_one f71
          have f71g := get_of f71
          obtain ⟨g72, e59⟩ := guardO_some e59
          have g72a : 0 ≤ i52 := (inB_t g72).1
          have g72b : i52 < 7 := (inB_t g72).2.1
          have g72n : (i52).toNat < 7 :=  by simpa using (inB_t g72).2.2
          have f73 : ([.p (.c (.bool (x4.uses.f 0))), .p (.c (.bool (x4.uses.f 1))), .p (.c (.bool (x4.uses.f 2))), .p (.c (.bool (x4.uses.f 3))), .p (.c (.bool (x4.uses.f 4))), .p (.c (.bool (x4.uses.f 5))), .p (.c (.bool (x4.uses.f 6)))] : List AC)[(i52).toNat]? = some (.p (.c (.bool (x4.uses.f ((i52).toNat))))) := arr_read (n := 7) (fun j => (.p (.c (.bool (x4.uses.f j))) : AC)) g72n
          have f73t := take_one f73
          have f73g := get_of f73
          repeat (first | simp [h5_1, h5_3, h5_19, h5_20, g5_0, g5_1, n5_0, n5_1, n5_2, f7, g70a, g70b, g70n, f71, f71t, f71g, g72a, g72b, g72n, f73, f73t, f73g] | with_reducible first | refine awp_reg ?_ | refine optF_if (by omega) ?_ | refine gsel_pure (by with_unfolding_all rfl) _ (fun hg => by (try simp at hg); first | (simp [hg, h5_1, h5_3, h5_19, h5_20, g5_0, g5_1, n5_0, n5_1, n5_2, f7, g70a, g70b, g70n, f71, f71t, f71g, g72a, g72b, g72n, f73, f73t, f73g, hx5a, hx5b]; rfl) | (simp [h5_1, h5_3, h5_19, h5_20, g5_0, g5_1, n5_0, n5_1, n5_2, f7, g70a, g70b, g70n, f71, f71t, f71g, g72a, g72b, g72n, f73, f73t, f73g]; simp only [if_pos hg]; simp [h5_1, h5_3, h5_19, h5_20, g5_0, g5_1, n5_0, n5_1, n5_2, f7, g70a, g70b, g70n, f71, f71t, f71g, g72a, g72b, g72n, f73, f73t, f73g]; rfl)) ?_)
          refine condK_spec (andB (!(x4.uses.f ((i52).toNat))) (!(eqI (y8.f ((i52).toNat)) 0))) (by first | rfl | (simp [h5_1, h5_3, h5_19, h5_20, g5_0, g5_1, n5_0, n5_1, n5_2, f7, g70a, g70b, g70n, f71, f71t, f71g, g72a, g72b, g72n, f73, f73t, f73g]; done) | (simp [andB, orB, eqI, ltI, Int.natCast_inj, h5_1, h5_3, h5_19, h5_20, g5_0, g5_1, n5_0, n5_1, n5_2, f7, g70a, g70b, g70n, f71, f71t, f71g, g72a, g72b, g72n, f73, f73t, f73g]; done)) (fun h74 => ?_) (fun h74 => ?_)
          · replace e59 := condT h74 e59
            repeat (first | simp [h5_1, h5_3, h5_19, h5_20, g5_0, g5_1, n5_0, n5_1, n5_2, f7, g70a, g70b, g70n, f71, f71t, f71g, g72a, g72b, g72n, f73, f73t, f73g] | with_reducible first | refine awp_reg ?_ | refine optF_if (by omega) ?_ | refine gsel_pure (by with_unfolding_all rfl) _ (fun hg => by (try simp at hg); first | (simp [hg, h5_1, h5_3, h5_19, h5_20, g5_0, g5_1, n5_0, n5_1, n5_2, f7, g70a, g70b, g70n, f71, f71t, f71g, g72a, g72b, g72n, f73, f73t, f73g, hx5a, hx5b]; rfl) | (simp [h5_1, h5_3, h5_19, h5_20, g5_0, g5_1, n5_0, n5_1, n5_2, f7, g70a, g70b, g70n, f71, f71t, f71g, g72a, g72b, g72n, f73, f73t, f73g]; simp only [if_pos hg]; simp [h5_1, h5_3, h5_19, h5_20, g5_0, g5_1, n5_0, n5_1, n5_2, f7, g70a, g70b, g70n, f71, f71t, f71g, g72a, g72b, g72n, f73, f73t, f73g]; rfl)) ?_)
            obtain rfl := Option.some.inj e59
            try dsimp only at e41
            obtain rfl := Option.some.inj e41
            try dsimp only at hs
            refine hX44 _ _ (by simp) ?_
            repeat (first | simp [h5_1, h5_3, h5_19, h5_20, g5_0, g5_1, n5_0, n5_1, n5_2, f7, g70a, g70b, g70n, f71, f71t, f71g, g72a, g72b, g72n, f73, f73t, f73g] | with_reducible first | refine awp_reg ?_ | refine optF_if (by omega) ?_ | refine gsel_pure (by with_unfolding_all rfl) _ (fun hg => by (try simp at hg); first | (simp [hg, h5_1, h5_3, h5_19, h5_20, g5_0, g5_1, n5_0, n5_1, n5_2, f7, g70a, g70b, g70n, f71, f71t, f71g, g72a, g72b, g72n, f73, f73t, f73g, hx5a, hx5b]; rfl) | (simp [h5_1, h5_3, h5_19, h5_20, g5_0, g5_1, n5_0, n5_1, n5_2, f7, g70a, g70b, g70n, f71, f71t, f71g, g72a, g72b, g72n, f73, f73t, f73g]; simp only [if_pos hg]; simp [h5_1, h5_3, h5_19, h5_20, g5_0, g5_1, n5_0, n5_1, n5_2, f7, g70a, g70b, g70n, f71, f71t, f71g, g72a, g72b, g72n, f73, f73t, f73g]; rfl)) ?_)
            obtain rfl := Option.some.inj hs
            refine hQ _ _ (ret2g _ (Gh.refl _) (by simp [St.frz, St.pur, h5_1, h5_3, h5_19, h5_20, g5_0, g5_1, n5_0, n5_1, n5_2, f7, g70a, g70b, g70n, f71, f71t, f71g, g72a, g72b, g72n, f73, f73t, f73g]; rfl) (by first | rfl | (simp [St.frz, St.pur, h5_1, h5_3, h5_19, h5_20, g5_0, g5_1, n5_0, n5_1, n5_2, f7, g70a, g70b, g70n, f71, f71t, f71g, g72a, g72b, g72n, f73, f73t, f73g]; done) | (rw [if_pos (by first | omega | (simp; omega))]; simp [St.frz, St.pur, h5_1, h5_3, h5_19, h5_20, g5_0, g5_1, n5_0, n5_1, n5_2, f7, g70a, g70b, g70n, f71, f71t, f71g, g72a, g72b, g72n, f73, f73t, f73g]; first | omega | exact List.take_of_length_le (by simp; omega) | skip)) (by simp))
          · replace e59 := condF h74 e59
            repeat (first | simp [h5_1, h5_3, h5_19, h5_20, g5_0, g5_1, n5_0, n5_1, n5_2, f7, g70a, g70b, g70n, f71, f71t, f71g, g72a, g72b, g72n, f73, f73t, f73g] | with_reducible first | refine awp_reg ?_ | refine optF_if (by omega) ?_ | refine gsel_pure (by with_unfolding_all rfl) _ (fun hg => by (try simp at hg); first | (simp [hg, h5_1, h5_3, h5_19, h5_20, g5_0, g5_1, n5_0, n5_1, n5_2, f7, g70a, g70b, g70n, f71, f71t, f71g, g72a, g72b, g72n, f73, f73t, f73g, hx5a, hx5b]; rfl) | (simp [h5_1, h5_3, h5_19, h5_20, g5_0, g5_1, n5_0, n5_1, n5_2, f7, g70a, g70b, g70n, f71, f71t, f71g, g72a, g72b, g72n, f73, f73t, f73g]; simp only [if_pos hg]; simp [h5_1, h5_3, h5_19, h5_20, g5_0, g5_1, n5_0, n5_1, n5_2, f7, g70a, g70b, g70n, f71, f71t, f71g, g72a, g72b, g72n, f73, f73t, f73g]; rfl)) ?_)
            refine hL62 (q65, IntKind.i64.wrap (i52 + 1)) _ _ (Gh.refl _) ⟨e59, ?_, ?_, ?_, ?_, ?_, ?_, by first | (simp; done) | (simp; omega) | omega⟩ (by omega) <;> simp [St.frz, St.pur, h5_1, h5_3, h5_19, h5_20, g5_0, g5_1, n5_0, n5_1, n5_2, f7, g70a, g70b, g70n, f71, f71t, f71g, g72a, g72b, g72n, f73, f73t, f73g]
        · replace e59 := condF h69 e59
          repeat (first | simp [h5_1, h5_3, h5_19, h5_20, g5_0, g5_1, n5_0, n5_1, n5_2, f7] | with_reducible refine awp_reg ?_)
          obtain rfl := Option.some.inj e59
          try dsimp only at e41
          refine hK43 () _ _ (Gh.refl _) ⟨e41, ?_, ?_, ?_, ?_, by first | (simp; done) | (simp; omega) | omega⟩ <;> simp [St.frz, St.pur, h5_1, h5_3, h5_19, h5_20, g5_0, g5_1, n5_0, n5_1, n5_2, f7]
    · obtain ⟨e41, h4_1, h4_3, g4_0, g4_1, n4_g⟩ := hp
      obtain rfl := Option.some.inj e41
      try dsimp only at hs
      have n4_0 : ¬ (σ3.gen = 0) := by omega
      have n4_1 : ¬ (σ3.gen = 1) := by omega
      have n4_2 : ¬ (σ3.gen = 2) := by omega
      repeat (first | simp [-awp_cond_eq, -awp_block_eq, h4_1, h4_3, g4_0, g4_1, n4_0, n4_1, n4_2, f7] | with_reducible first | refine awp_reg ?_ | refine And.intro (by omega) ?_ | refine optF_if (by omega) ?_)
      obtain ⟨o108, e107, hs⟩ := bindO hs
      try dsimp only at hs
      refine awp_cutK (fun (v : Unit) (σ : St) => some (.inl v) = some o108 ∧ σ.env 1 = .cell (.ref (.o 1 0 0) 0) ∧ σ.env 3 = .cell (.ref (.o 3 6 0) 0) ∧ σ.hp (.o 1 0 0) = some (.cells [.p (.c (.int .i64 a0.Op)), .p (.c (.int .i64 a0.A)), .p (.c (.int .i64 a0.B)), .p (.c (.int .i64 a0.C)), .p (.c (.int .i64 a0.Obj)), .p (.c (.int .i64 a0.N)), .p (.c (.int .i64 a0.Fn)), .p (.c (.int .i64 a0.Order))]) ∧ σ.hp (.o 3 6 0) = some (.cells [.p (.c (.bool (x4.uses.f 0))), .p (.c (.bool (x4.uses.f 1))), .p (.c (.bool (x4.uses.f 2))), .p (.c (.bool (x4.uses.f 3))), .p (.c (.bool (x4.uses.f 4))), .p (.c (.bool (x4.uses.f 5))), .p (.c (.bool (x4.uses.f 6)))]) ∧ (σ3.gen + 1) ≤ σ.gen) (by rfl) (fun Q hK109 hX110 => ?_) (fun v σ9 hp => ?_)
      · repeat (first | simp [h4_1, h4_3, g4_0, g4_1, n4_0, n4_1, n4_2, f7] | with_reducible first | refine awp_reg ?_ | refine And.intro (by omega) ?_ | refine optF_if (by omega) ?_)
        obtain ⟨o126, e125, e107⟩ := bindO e107
        try dsimp only at e107
        refine awp_loopW (fun (v : Nat × Int) (σ : St) => inst_Check_L2 a0 x4 v.1 v.2 = some o126 ∧ σ.env 1 = .cell (.ref (.o 1 0 0) 0) ∧ σ.env 3 = .cell (.ref (.o 3 6 0) 0) ∧ σ.env 39 = .agg [.p (.c (.int .i64 a0.A)), .p (.c (.int .i64 a0.B)), .p (.c (.int .i64 a0.C))] ∧ σ.env 40 = iV .i64 v.2 ∧ σ.hp (.o 1 0 0) = some (.cells [.p (.c (.int .i64 a0.Op)), .p (.c (.int .i64 a0.A)), .p (.c (.int .i64 a0.B)), .p (.c (.int .i64 a0.C)), .p (.c (.int .i64 a0.Obj)), .p (.c (.int .i64 a0.N)), .p (.c (.int .i64 a0.Fn)), .p (.c (.int .i64 a0.Order))]) ∧ σ.hp (.o 3 6 0) = some (.cells [.p (.c (.bool (x4.uses.f 0))), .p (.c (.bool (x4.uses.f 1))), .p (.c (.bool (x4.uses.f 2))), .p (.c (.bool (x4.uses.f 3))), .p (.c (.bool (x4.uses.f 4))), .p (.c (.bool (x4.uses.f 5))), .p (.c (.bool (x4.uses.f 6)))]) ∧ (σ3.gen + 1) ≤ σ.gen) (fun v => v.1) _ (Gh.refl _) (fuelN, 0) ⟨e125, by simp [St.frz, St.pur, h4_1, h4_3, g4_0, g4_1, n4_0, n4_1, n4_2, f7], by simp [St.frz, St.pur, h4_1, h4_3, g4_0, g4_1, n4_0, n4_1, n4_2, f7], by simp [St.frz, St.pur, h4_1, h4_3, g4_0, g4_1, n4_0, n4_1, n4_2, f7], by simp [St.frz, St.pur, h4_1, h4_3, g4_0, g4_1, n4_0, n4_1, n4_2, f7], by simp [St.frz, St.pur, h4_1, h4_3, g4_0, g4_1, n4_0, n4_1, n4_2, f7], by simp [St.frz, St.pur, h4_1, h4_3, g4_0, g4_1, n4_0, n4_1, n4_2, f7], by first | (simp; done) | (simp; omega) | omega⟩ fun v σ12 hp L127 hL128 => ?_
        obtain ⟨q130, i118⟩ := v
        dsimp only at hp hL128
        obtain ⟨e125, h11_1, h11_3, h11_39, h11_40, g11_0, g11_1, n11_g⟩ := hp
        have n11_0 : ¬ (σ12.gen = 0) := by omega
        have n11_1 : ¬ (σ12.gen = 1) := by omega
        have n11_2 : ¬ (σ12.gen = 2) := by omega
        rcases q130 with _ | q131
        · rw [inst_Check_L2] at e125; cases e125
        · rw [inst_Check_L2] at e125; try dsimp only at e125
          repeat (first | simp [h11_1, h11_3, h11_39, h11_40, g11_0, g11_1, n11_0, n11_1, n11_2, f7] | with_reducible refine awp_reg ?_)
          refine condK_spec (ltI i118 3) (by first | rfl | (simp [h11_1, h11_3, h11_39, h11_40, g11_0, g11_1, n11_0, n11_1, n11_2, f7]; done) | (simp [andB, orB, eqI, ltI, Int.natCast_inj, h11_1, h11_3, h11_39, h11_40, g11_0, g11_1, n11_0, n11_1, n11_2, f7]; done)) (fun h135 => ?_) (fun h135 => ?_)
          · replace e125 := condT h135 e125
            obtain ⟨g136, e125⟩ := guardO_some e125
            have g136a : 0 ≤ i118 := (inB_t g136).1
            have g136b : i118 < 3 := (inB_t g136).2.1
            have g136n : (i118).toNat < 3 :=  by simpa using (inB_t g136).2.2
            have f137 : ([.p (.c (.int .i64 a0.A)), .p (.c (.int .i64 a0.B)), .p (.c (.int .i64 a0.C))] : List AC)[(i118).toNat]? = some (.p (.c (.int .i64 ((Arr.of 3 [a0.A, a0.B, a0.C] : Arr 3 Int).f ((i118).toNat))))) := arr_readL (n := 3) ([a0.A, a0.B, a0.C] : List Int) (fun y => (.p (.c (.int .i64 y)) : AC)) g136n
            have f137t := take_one f137
            have f137g := get_of f137
            obtain ⟨g138, e125⟩ := guardO_some e125
            have g138a : 0 ≤ i118 := (inB_t g138).1
            have g138b : i118 < 7 := (inB_t g138).2.1
            have g138n : (i118).toNat < 7 :=  by simpa using (inB_t g138).2.2
            have f139 : ([.p (.c (.bool (x4.uses.f 0))), .p (.c (.bool (x4.uses.f 1))), .p (.c (.bool (x4.uses.f 2))), .p (.c (.bool (x4.uses.f 3))), .p (.c (.bool (x4.uses.f 4))), .p (.c (.bool (x4.uses.f 5))), .p (.c (.bool (x4.uses.f 6)))] : List AC)[(i118).toNat]? = some (.p (.c (.bool (x4.uses.f ((i118).toNat))))) := arr_read (n := 7) (fun j => (.p (.c (.bool (x4.uses.f j))) : AC)) g138n
            have f139t := take_one f139
            have f139g := get_of f139
            repeat (first | simp [h11_1, h11_3, h11_39, h11_40, g11_0, g11_1, n11_0, n11_1, n11_2, f7, g136a, g136b, g136n, f137, f137t, f137g, g138a, g138b, g138n, f139, f139t, f139g] | with_reducible first | refine awp_reg ?_ | refine optF_if (by omega) ?_ | refine gsel_pure (by with_unfolding_all rfl) _ (fun hg => by (try simp at hg); first | (simp [hg, h11_1, h11_3, h11_39, h11_40, g11_0, g11_1, n11_0, n11_1, n11_2, f7, g136a, g136b, g136n, f137, f137t, f137g, g138a, g138b, g138n, f139, f139t, f139g, hx5a, hx5b]; rfl) | (simp [h11_1, h11_3, h11_39, h11_40, g11_0, g11_1, n11_0, n11_1, n11_2, f7, g136a, g136b, g136n, f137, f137t, f137g, g138a, g138b, g138n, f139, f139t, f139g]; simp only [if_pos hg]; simp [h11_1, h11_3, h11_39, h11_40, g11_0, g11_1, n11_0, n11_1, n11_2, f7, g136a, g136b, g136n, f137, f137t, f137g, g138a, g138b, g138n, f139, f139t, f139g]; rfl)) ?_)
            refine condK_spec (andB (x4.uses.f ((i118).toNat)) (orB (ltI ((Arr.of 3 [a0.A, a0.B, a0.C] : Arr 3 Int).f ((i118).toNat)) 0) (!(ltI ((Arr.of 3 [a0.A, a0.B, a0.C] : Arr 3 Int).f ((i118).toNat)) 8)))) (by first | rfl | (simp [h11_1, h11_3, h11_39, h11_40, g11_0, g11_1, n11_0, n11_1, n11_2, f7, g136a, g136b, g136n, f137, f137t, f137g, g138a, g138b, g138n, f139, f139t, f139g]; done) | (simp [andB, orB, eqI, ltI, Int.natCast_inj, h11_1, h11_3, h11_39, h11_40, g11_0, g11_1, n11_0, n11_1, n11_2, f7, g136a, g136b, g136n, f137, f137t, f137g, g138a, g138b, g138n, f139, f139t, f139g]; done)) (fun h140 => ?_) (fun h140 => ?_)
            · replace e125 := condT h140 e125
              repeat (first | simp [h11_1, h11_3, h11_39, h11_40, g11_0, g11_1, n11_0, n11_1, n11_2, f7, g136a, g136b, g136n, f137, f137t, f137g, g138a, g138b, g138n, f139, f139t, f139g] | with_reducible first | refine awp_reg ?_ | refine optF_if (by omega) ?_ | refine gsel_pure (by with_unfolding_all rfl) _ (fun hg => by (try simp at hg); first | (simp [hg, h11_1, h11_3, h11_39, h11_40, g11_0, g11_1, n11_0, n11_1, n11_2, f7, g136a, g136b, g136n, f137, f137t, f137g, g138a, g138b, g138n, f139, f139t, f139g, hx5a, hx5b]; rfl) | (simp [h11_1, h11_3, h11_39, h11_40, g11_0, g11_1, n11_0, n11_1, n11_2, f7, g136a, g136b, g136n, f137, f137t, f137g, g138a, g138b, g138n, f139, f139t, f139g]; simp only [if_pos hg]; simp [h11_1, h11_3, h11_39, h11_40, g11_0, g11_1, n11_0, n11_1, n11_2, f7, g136a, g136b, g136n, f137, f137t, f137g, g138a, g138b, g138n, f139, f139t, f139g]; rfl)) ?_)
              obtain rfl := Option.some.inj e125
              try dsimp only at e107
              obtain rfl := Option.some.inj e107
              try dsimp only at hs
              refine hX110 _ _ (by simp) ?_
              repeat (first | simp [h11_1, h11_3, h11_39, h11_40, g11_0, g11_1, n11_0, n11_1, n11_2, f7, g136a, g136b, g136n, f137, f137t, f137g, g138a, g138b, g138n, f139, f139t, f139g] | with_reducible first | refine awp_reg ?_ | refine optF_if (by omega) ?_ | refine gsel_pure (by with_unfolding_all rfl) _ (fun hg => by (try simp at hg); first | (simp [hg, h11_1, h11_3, h11_39, h11_40, g11_0, g11_1, n11_0, n11_1, n11_2, f7, g136a, g136b, g136n, f137, f137t, f137g, g138a, g138b, g138n, f139, f139t, f139g, hx5a, hx5b]; rfl) | (simp [h11_1, h11_3, h11_39, h11_40, g11_0, g11_1, n11_0, n11_1, n11_2, f7, g136a, g136b, g136n, f137, f137t, f137g, g138a, g138b, g138n, f139, f139t, f139g]; simp only [if_pos hg]; simp [h11_1, h11_3, h11_39, h11_40, g11_0, g11_1, n11_0, n11_1, n11_2, f7, g136a, g136b, g136n, f137, f137t, f137g, g138a, g138b, g138n, f139, f139t, f139g]; rfl)) ?_)
              obtain rfl := Option.some.inj hs
              refine hQ _ _ (ret2g _ (Gh.refl _) (by simp [St.frz, St.pur, h11_1, h11_3, h11_39, h11_40, g11_0, g11_1, n11_0, n11_1, n11_2, f7, g136a, g136b, g136n, f137, f137t, f137g, g138a, g138b, g138n, f139, f139t, f139g]; rfl) (by first | rfl | (simp [St.frz, St.pur, h11_1, h11_3, h11_39, h11_40, g11_0, g11_1, n11_0, n11_1, n11_2, f7, g136a, g136b, g136n, f137, f137t, f137g, g138a, g138b, g138n, f139, f139t, f139g]; done) | (rw [if_pos (by first | omega | (simp; omega))]; simp [St.frz, St.pur, h11_1, h11_3, h11_39, h11_40, g11_0, g11_1, n11_0, n11_1, n11_2, f7, g136a, g136b, g136n, f137, f137t, f137g, g138a, g138b, g138n, f139, f139t, f139g]; first | omega | exact List.take_of_length_le (by simp; omega) | skip)) (by simp))
            · replace e125 := condF h140 e125
              repeat (first | simp [h11_1, h11_3, h11_39, h11_40, g11_0, g11_1, n11_0, n11_1, n11_2, f7, g136a, g136b, g136n, f137, f137t, f137g, g138a, g138b, g138n, f139, f139t, f139g] | with_reducible first | refine awp_reg ?_ | refine optF_if (by omega) ?_ | refine gsel_pure (by with_unfolding_all rfl) _ (fun hg => by (try simp at hg); first | (simp [hg, h11_1, h11_3, h11_39, h11_40, g11_0, g11_1, n11_0, n11_1, n11_2, f7, g136a, g136b, g136n, f137, f137t, f137g, g138a, g138b, g138n, f139, f139t, f139g, hx5a, hx5b]; rfl) | (simp [h11_1, h11_3, h11_39, h11_40, g11_0, g11_1, n11_0, n11_1, n11_2, f7, g136a, g136b, g136n, f137, f137t, f137g, g138a, g138b, g138n, f139, f139t, f139g]; simp only [if_pos hg]; simp [h11_1, h11_3, h11_39, h11_40, g11_0, g11_1, n11_0, n11_1, n11_2, f7, g136a, g136b, g136n, f137, f137t, f137g, g138a, g138b, g138n, f139, f139t, f139g]; rfl)) ?_)
              refine hL128 (q131, IntKind.i64.wrap (i118 + 1)) _ _ (Gh.refl _) ⟨e125, ?_, ?_, ?_, ?_, ?_, ?_, by first | (simp; done) | (simp; omega) | omega⟩ (by omega) <;> simp [St.frz, St.pur, h11_1, h11_3, h11_39, h11_40, g11_0, g11_1, n11_0, n11_1, n11_2, f7, g136a, g136b, g136n, f137, f137t, f137g, g138a, g138b, g138n, f139, f139t, f139g]
          · replace e125 := condF h135 e125
            repeat (first | simp [h11_1, h11_3, h11_39, h11_40, g11_0, g11_1, n11_0, n11_1, n11_2, f7] | with_reducible refine awp_reg ?_)
            obtain rfl := Option.some.inj e125
            try dsimp only at e107
            refine hK109 () _ _ (Gh.refl _) ⟨e107, ?_, ?_, ?_, ?_, by first | (simp; done) | (simp; omega) | omega⟩ <;> simp [St.frz, St.pur, h11_1, h11_3, h11_39, h11_40, g11_0, g11_1, n11_0, n11_1, n11_2, f7]
      · obtain ⟨e107, h10_1, h10_3, g10_0, g10_1, n10_g⟩ := hp
        obtain rfl := Option.some.inj e107
        try dsimp only at hs
        have n10_0 : ¬ (σ9.gen = 0) := by omega
        have n10_1 : ¬ (σ9.gen = 1) := by omega
        have n10_2 : ¬ (σ9.gen = 2) := by omega
        repeat (first | simp [h10_1, h10_3, g10_0, g10_1, n10_0, n10_1, n10_2, f7] | with_reducible first | refine awp_reg ?_ | refine And.intro (by omega) ?_ | refine optF_if (by omega) ?_ | refine gsel_pure (by with_unfolding_all rfl) _ (fun hg => by (try simp at hg); first | (simp [hg, h10_1, h10_3, g10_0, g10_1, n10_0, n10_1, n10_2, f7, hx5a, hx5b]; rfl) | (simp [h10_1, h10_3, g10_0, g10_1, n10_0, n10_1, n10_2, f7]; simp only [if_pos hg]; simp [h10_1, h10_3, g10_0, g10_1, n10_0, n10_1, n10_2, f7]; rfl)) ?_)
        refine condK_spec (andB (x4.uses.f 6) (orB (ltI a0.Order 0) (ltI 2 a0.Order))) (by first | rfl | (simp [h10_1, h10_3, g10_0, g10_1, n10_0, n10_1, n10_2, f7]; done) | (simp [andB, orB, eqI, ltI, Int.natCast_inj, h10_1, h10_3, g10_0, g10_1, n10_0, n10_1, n10_2, f7]; done)) (fun h142 => ?_) (fun h142 => ?_)
        · replace hs := condT h142 hs
          repeat (first | simp [h10_1, h10_3, g10_0, g10_1, n10_0, n10_1, n10_2, f7] | with_reducible first | refine awp_reg ?_ | refine And.intro (by omega) ?_ | refine optF_if (by omega) ?_ | refine gsel_pure (by with_unfolding_all rfl) _ (fun hg => by (try simp at hg); first | (simp [hg, h10_1, h10_3, g10_0, g10_1, n10_0, n10_1, n10_2, f7, hx5a, hx5b]; rfl) | (simp [h10_1, h10_3, g10_0, g10_1, n10_0, n10_1, n10_2, f7]; simp only [if_pos hg]; simp [h10_1, h10_3, g10_0, g10_1, n10_0, n10_1, n10_2, f7]; rfl)) ?_)
          obtain rfl := Option.some.inj hs
          refine hQ _ _ (ret2g _ (Gh.refl _) (by simp [St.frz, St.pur, h10_1, h10_3, g10_0, g10_1, n10_0, n10_1, n10_2, f7]; rfl) (by first | rfl | (simp [St.frz, St.pur, h10_1, h10_3, g10_0, g10_1, n10_0, n10_1, n10_2, f7]; done) | (rw [if_pos (by first | omega | (simp; omega))]; simp [St.frz, St.pur, h10_1, h10_3, g10_0, g10_1, n10_0, n10_1, n10_2, f7]; first | omega | exact List.take_of_length_le (by simp; omega) | skip)) (by simp))
        · replace hs := condF h142 hs
          repeat (first | simp [h10_1, h10_3, g10_0, g10_1, n10_0, n10_1, n10_2, f7] | with_reducible first | refine awp_reg ?_ | refine And.intro (by omega) ?_ | refine optF_if (by omega) ?_ | refine gsel_pure (by with_unfolding_all rfl) _ (fun hg => by (try simp at hg); first | (simp [hg, h10_1, h10_3, g10_0, g10_1, n10_0, n10_1, n10_2, f7, hx5a, hx5b]; rfl) | (simp [h10_1, h10_3, g10_0, g10_1, n10_0, n10_1, n10_2, f7]; simp only [if_pos hg]; simp [h10_1, h10_3, g10_0, g10_1, n10_0, n10_1, n10_2, f7]; rfl)) ?_)
          obtain ⟨g143, hs⟩ := guardO_some hs
          refine gsel_call (fun hg => at_value_Name (under_call g143 hg)) (fun hg => by (try simp at hg); (first | simp [hg, h10_1, h10_3, g10_0, g10_1, n10_0, n10_1, n10_2, f7]); try rfl) (fun hg => by (try simp at hg); simp [hg, h10_1, h10_3, g10_0, g10_1, n10_0, n10_1, n10_2, f7]) (by simp) ?_
          repeat (first | simp [h10_1, h10_3, g10_0, g10_1, n10_0, n10_1, n10_2, f7] | with_reducible first | refine awp_reg ?_ | refine And.intro (by omega) ?_ | refine optF_if (by omega) ?_ | refine gsel_pure (by with_unfolding_all rfl) _ (fun hg => by (try simp at hg); first | (simp [hg, h10_1, h10_3, g10_0, g10_1, n10_0, n10_1, n10_2, f7, hx5a, hx5b]; rfl) | (simp [h10_1, h10_3, g10_0, g10_1, n10_0, n10_1, n10_2, f7]; simp only [if_pos hg]; simp [h10_1, h10_3, g10_0, g10_1, n10_0, n10_1, n10_2, f7]; rfl)) ?_)
          refine condK_spec (andB (x4.uses.f 5) (eqS ((value_Name a0.Fn).getD default) (⟨#[]⟩ : ByteArray))) (by first | rfl | (simp [h10_1, h10_3, g10_0, g10_1, n10_0, n10_1, n10_2, f7]; done) | (simp [andB, orB, eqI, ltI, Int.natCast_inj, h10_1, h10_3, g10_0, g10_1, n10_0, n10_1, n10_2, f7]; done)) (fun h144 => ?_) (fun h144 => ?_)
          · replace hs := condT h144 hs
            repeat (first | simp [h10_1, h10_3, g10_0, g10_1, n10_0, n10_1, n10_2, f7] | with_reducible first | refine awp_reg ?_ | refine And.intro (by omega) ?_ | refine optF_if (by omega) ?_ | refine gsel_pure (by with_unfolding_all rfl) _ (fun hg => by (try simp at hg); first | (simp [hg, h10_1, h10_3, g10_0, g10_1, n10_0, n10_1, n10_2, f7, hx5a, hx5b]; rfl) | (simp [h10_1, h10_3, g10_0, g10_1, n10_0, n10_1, n10_2, f7]; simp only [if_pos hg]; simp [h10_1, h10_3, g10_0, g10_1, n10_0, n10_1, n10_2, f7]; rfl)) ?_)
            obtain rfl := Option.some.inj hs
            refine hQ _ _ (ret2g _ (Gh.refl _) (by simp [St.frz, St.pur, h10_1, h10_3, g10_0, g10_1, n10_0, n10_1, n10_2, f7]; rfl) (by first | rfl | (simp [St.frz, St.pur, h10_1, h10_3, g10_0, g10_1, n10_0, n10_1, n10_2, f7]; done) | (rw [if_pos (by first | omega | (simp; omega))]; simp [St.frz, St.pur, h10_1, h10_3, g10_0, g10_1, n10_0, n10_1, n10_2, f7]; first | omega | exact List.take_of_length_le (by simp; omega) | skip)) (by simp))
          · replace hs := condF h144 hs
            repeat (first | simp [h10_1, h10_3, g10_0, g10_1, n10_0, n10_1, n10_2, f7] | with_reducible first | refine awp_reg ?_ | refine And.intro (by omega) ?_ | refine optF_if (by omega) ?_ | refine gsel_pure (by with_unfolding_all rfl) _ (fun hg => by (try simp at hg); first | (simp [hg, h10_1, h10_3, g10_0, g10_1, n10_0, n10_1, n10_2, f7, hx5a, hx5b]; rfl) | (simp [h10_1, h10_3, g10_0, g10_1, n10_0, n10_1, n10_2, f7]; simp only [if_pos hg]; simp [h10_1, h10_3, g10_0, g10_1, n10_0, n10_1, n10_2, f7]; rfl)) ?_)
            refine condK_spec (andB (eqI a0.Op 1) (orB (ltI a0.N (-2147483648)) (ltI 2147483647 a0.N))) (by first | rfl | (simp [h10_1, h10_3, g10_0, g10_1, n10_0, n10_1, n10_2, f7]; done) | (simp [andB, orB, eqI, ltI, Int.natCast_inj, h10_1, h10_3, g10_0, g10_1, n10_0, n10_1, n10_2, f7]; done)) (fun h145 => ?_) (fun h145 => ?_)
            · replace hs := condT h145 hs
              repeat (first | simp [h10_1, h10_3, g10_0, g10_1, n10_0, n10_1, n10_2, f7] | with_reducible first | refine awp_reg ?_ | refine And.intro (by omega) ?_ | refine optF_if (by omega) ?_ | refine gsel_pure (by with_unfolding_all rfl) _ (fun hg => by (try simp at hg); first | (simp [hg, h10_1, h10_3, g10_0, g10_1, n10_0, n10_1, n10_2, f7, hx5a, hx5b]; rfl) | (simp [h10_1, h10_3, g10_0, g10_1, n10_0, n10_1, n10_2, f7]; simp only [if_pos hg]; simp [h10_1, h10_3, g10_0, g10_1, n10_0, n10_1, n10_2, f7]; rfl)) ?_)
              obtain rfl := Option.some.inj hs
              refine hQ _ _ (ret2g _ (Gh.refl _) (by simp [St.frz, St.pur, h10_1, h10_3, g10_0, g10_1, n10_0, n10_1, n10_2, f7]; rfl) (by first | rfl | (simp [St.frz, St.pur, h10_1, h10_3, g10_0, g10_1, n10_0, n10_1, n10_2, f7]; done) | (rw [if_pos (by first | omega | (simp; omega))]; simp [St.frz, St.pur, h10_1, h10_3, g10_0, g10_1, n10_0, n10_1, n10_2, f7]; first | omega | exact List.take_of_length_le (by simp; omega) | skip)) (by simp))
            · replace hs := condF h145 hs
              repeat (first | simp [h10_1, h10_3, g10_0, g10_1, n10_0, n10_1, n10_2, f7] | with_reducible first | refine awp_reg ?_ | refine And.intro (by omega) ?_ | refine optF_if (by omega) ?_ | refine gsel_pure (by with_unfolding_all rfl) _ (fun hg => by (try simp at hg); first | (simp [hg, h10_1, h10_3, g10_0, g10_1, n10_0, n10_1, n10_2, f7, hx5a, hx5b]; rfl) | (simp [h10_1, h10_3, g10_0, g10_1, n10_0, n10_1, n10_2, f7]; simp only [if_pos hg]; simp [h10_1, h10_3, g10_0, g10_1, n10_0, n10_1, n10_2, f7]; rfl)) ?_)
              obtain rfl := Option.some.inj hs
              refine hQ _ _ (ret2g _ (Gh.refl _) (by simp [St.frz, St.pur, h10_1, h10_3, g10_0, g10_1, n10_0, n10_1, n10_2, f7]; rfl) (by first | rfl | (simp [St.frz, St.pur, h10_1, h10_3, g10_0, g10_1, n10_0, n10_1, n10_2, f7]; done) | (rw [if_pos (by first | omega | (simp; omega))]; simp [St.frz, St.pur, h10_1, h10_3, g10_0, g10_1, n10_0, n10_1, n10_2, f7]; first | omega | exact List.take_of_length_le (by simp; omega) | skip)) (by simp))
end Go.Dc
end
section
set_option linter.all false
namespace Go.Dc
open Go Go.Hw Go.Proofs
set_option maxRecDepth 100000

def r07_fields  : Option (List ByteArray) :=
  Option.bind (some ([(⟨#[65, 78]⟩ : ByteArray), (⟨#[65, 66]⟩ : ByteArray), (⟨#[70, 65, 66, 67]⟩ : ByteArray), (⟨#[78]⟩ : ByteArray), (⟨#[66, 78]⟩ : ByteArray), (⟨#[66]⟩ : ByteArray), (⟨#[]⟩ : ByteArray), (⟨#[65, 79, 82]⟩ : ByteArray), (⟨#[79, 66, 82]⟩ : ByteArray), (⟨#[65, 79, 66, 82]⟩ : ByteArray), (⟨#[65, 79, 66, 82]⟩ : ByteArray), (⟨#[65, 79, 66, 67, 82]⟩ : ByteArray), (⟨#[]⟩ : ByteArray), (⟨#[65, 79, 70, 66, 82]⟩ : ByteArray), (⟨#[79]⟩ : ByteArray), (⟨#[79]⟩ : ByteArray), (⟨#[65, 79]⟩ : ByteArray), (⟨#[79, 78]⟩ : ByteArray), (⟨#[79]⟩ : ByteArray), (⟨#[79]⟩ : ByteArray), (⟨#[65, 79, 66]⟩ : ByteArray), (⟨#[66]⟩ : ByteArray)])) (fun l1 => some l1)

set_option maxHeartbeats 2000000 in
theorem at_r07_fields  {r : (List ByteArray)} (hs : r07_fields = some r) : At Tryd.prog 120 [] (.cell (.p (.sl r.length (encL r)))) := by
  refine at_bound (by kernel_rfl) fun hb => ?_
  refine at_code mixed Tryd.func120 (by kernel_rfl) rfl (by kernel_rfl) rfl fun Q hQ => ?_
  rw [r07_fields] at hs
  obtain ⟨l1, hx2, hs⟩ := bindO hs
  try dsimp only at hs
  replace hx2 := (Option.some.inj hx2).symm
  have hx2n : l1.length = 22 := by rw [hx2]; rfl
  repeat (first | simp [hx2] | with_reducible first | refine awp_reg ?_ | refine And.intro (by omega) ?_ | refine optF_if (by omega) ?_)
  obtain rfl := Option.some.inj hs
  refine hQ _ _ (ret2g _ (Gh.frz _ (.o 2 0 0)) (by simp [St.frz, St.pur, hx2]; rfl) (by first | rfl | (simp [St.frz, St.pur, hx2]; done) | (rw [if_pos (by first | omega | (simp; omega))]; simp [St.frz, St.pur, hx2]; first | omega | exact List.take_of_length_le (by simp; omega) | skip)) (by simp))
end Go.Dc
end
section
set_option linter.all false
namespace Go.Dc
open Go Go.Hw Go.Proofs
set_option maxRecDepth 100000
def r07_has_L1 (a1 : UInt8) (x4 : ByteArray) : Nat → Nat → Option (Unit ⊕ Bool)
  | 0, k41 => some (.inl ())
  | q52 + 1, k41 => Option.bind (x4[k41]?) (fun c57 => cond (eqI (c57.toNat : Int) (a1.toNat : Int)) (some (.inr true)) (r07_has_L1 a1 x4 q52 (k41 + 1)))

def r07_has (a0 : Int) (a1 : UInt8) : Option Bool :=
  cond (orB (ltI a0 1) (ltI 22 a0)) (some false) (Option.bind (r07_fields) (fun y2 => Option.bind (getI y2 (IntKind.i64.wrap (a0 - 1))) (fun x4 => Option.bind (α := Unit ⊕ Bool) (guardO (lenB x4.size) (Option.bind (r07_has_L1 a1 x4 x4.size 0) (fun o => match o with | .inl _ => some (.inl ()) | .inr r60 => some (.inr r60)))) (fun o => match o with | .inl _ => some false | .inr r61 => some r61))))

set_option maxHeartbeats 2000000 in
theorem at_r07_has {a0 : Int} {a1 : UInt8} {r : Bool} (hs : r07_has a0 a1 = some r) : At Tryd.prog 107 [iV .i64 a0, iV .u8 (a1.toNat : Int)] (bV r) := by
  refine at_bound (by kernel_rfl) fun hb => ?_
  refine at_code mixed Tryd.func107 (by kernel_rfl) rfl (by kernel_rfl) rfl fun Q hQ => ?_
  rw [r07_has] at hs
  repeat (first | simp | with_reducible first | refine awp_reg ?_ | refine gsel_pure (by with_unfolding_all rfl) _ (fun hg => by (try simp at hg); first | (simp [hg]; rfl) | (simp; simp only [if_pos hg]; simp; rfl)) ?_)
  refine condK_spec (orB (ltI a0 1) (ltI 22 a0)) (by first | rfl | (simp; done) | (simp [andB, orB, eqI, ltI, Int.natCast_inj]; done)) (fun h1 => ?_) (fun h1 => ?_)
  · replace hs := condT h1 hs
    repeat (first | simp | with_reducible first | refine awp_reg ?_ | refine gsel_pure (by with_unfolding_all rfl) _ (fun hg => by (try simp at hg); first | (simp [hg]; rfl) | (simp; simp only [if_pos hg]; simp; rfl)) ?_)
    obtain rfl := Option.some.inj hs
    refine hQ _ _ (ret2g _ (Gh.refl _) (by simp [St.frz, St.pur]; rfl) (by first | rfl | (simp [St.frz, St.pur]; done) | (rw [if_pos (by first | omega | (simp; omega))]; simp [St.frz, St.pur]; first | omega | exact List.take_of_length_le (by simp; omega) | skip)) (by simp))
  · replace hs := condF h1 hs
    repeat (first | simp | with_reducible first | refine awp_reg ?_ | refine And.intro (by omega) ?_ | refine optF_if (by omega) ?_ | refine gsel_pure (by with_unfolding_all rfl) _ (fun hg => by (try simp at hg); first | (simp [hg]; rfl) | (simp; simp only [if_pos hg]; simp; rfl)) ?_)
    obtain ⟨y2, hx3, hs⟩ := bindO hs
    try dsimp only at hs
    refine callK_pure (at_r07_fields hx3) (by (first | simp | simp (disch := omega) []); try rfl) (by simp) (by simp) ?_
    obtain ⟨x4, hx5, hs⟩ := bindO hs
    try dsimp only at hs
    obtain ⟨hx5a, hx5b, hx5c, hx5d⟩ := getI_some hx5
    have f6 : partCV Tryd.prog 9 (encL y2) ((IntKind.i64.wrap (a0 - 1)).toNat) = some (sV x4) := partCV_enc1 hx5d (by simp)
    repeat (first | simp [-awp_cond_eq, -awp_block_eq, f6] | with_reducible first | refine awp_reg ?_ | refine And.intro (by omega) ?_ | refine optF_if (by omega) ?_ | refine gsel_pure (by with_unfolding_all rfl) _ (fun hg => by (try simp at hg); first | (simp [hg, f6, hx5a, hx5b]; rfl) | (simp [f6]; simp only [if_pos hg]; simp [f6]; rfl)) ?_)
    obtain ⟨o33, e32, hs⟩ := bindO hs
    try dsimp only at hs
    refine awp_cutK (fun (v : Unit) (σ : St) => some (.inl v) = some o33 ∧ 4 ≤ σ.gen) (by rfl) (fun Q hK34 hX35 => ?_) (fun v σ3 hp => ?_)
    · repeat (first | simp [f6] | with_reducible first | refine awp_reg ?_ | refine And.intro (by omega) ?_ | refine optF_if (by omega) ?_ | refine gsel_pure (by with_unfolding_all rfl) _ (fun hg => by (try simp at hg); first | (simp [hg, f6, hx5a, hx5b]; rfl) | (simp [f6]; simp only [if_pos hg]; simp [f6]; rfl)) ?_)
      obtain ⟨hb56, e32⟩ := guardO_some e32
      obtain ⟨o47, e46, e32⟩ := bindO e32
      try dsimp only at e32
      refine awp_loopW (fun (v : Nat × Nat) (σ : St) => r07_has_L1 a1 x4 v.1 v.2 = some o47 ∧ v.1 + v.2 = x4.size ∧ σ.env 1 = iV .u8 (a1.toNat : Int) ∧ σ.env 5 = sV x4 ∧ σ.env 6 = iV .i64 ((v.2 : Nat) : Int) ∧ 4 ≤ σ.gen) (fun v => v.1) _ (Gh.refl _) (x4.size, 0) ⟨e46, by first | omega | simp | (simp; omega), by simp [St.frz, St.pur, f6], by simp [St.frz, St.pur, f6], by simp [St.frz, St.pur, f6], by first | (simp; done) | (simp; omega) | omega⟩ fun v σ6 hp L48 hL49 => ?_
      obtain ⟨q51, k41⟩ := v
      dsimp only at hp hL49
      obtain ⟨e46, hd50, h5_1, h5_5, h5_6, n5_g⟩ := hp
      rcases q51 with _ | q52
      · have hlt53 : ¬ k41 < x4.size := by omega
        rw [r07_has_L1] at e46; try dsimp only at e46
        repeat (first | simp [h5_1, h5_5, h5_6, f6] | with_reducible first | refine awp_reg ?_ | refine And.intro (by omega) ?_ | refine optF_if (by omega) ?_)
        refine condK_f (by simp [ltI]; omega) ?_
        obtain rfl := Option.some.inj e46
        try dsimp only at e32
        exact hK34 () _ _ (Gh.refl _) ⟨e32, by first | (simp; done) | (simp; omega) | omega⟩
      · have hlt53 : k41 < x4.size := by omega
        have ew54 := wrap_succG hlt53 hb56
        rw [r07_has_L1] at e46; try dsimp only at e46
        repeat (first | simp [h5_1, h5_5, h5_6, f6, hlt53, ew54] | with_reducible first | refine awp_reg ?_ | refine And.intro (by omega) ?_ | refine optF_if (by omega) ?_)
        refine condK_t (by simp [ltI]; omega) ?_
        obtain ⟨c57, hx58, e46⟩ := bindO e46
        try dsimp only at e46
        have hx58b := getB_some hx58
        have hx58g := getB_eq hx58
        repeat (first | simp [h5_1, h5_5, h5_6, f6, hlt53, ew54, hx58, hx58g] | with_reducible first | refine awp_reg ?_ | refine optF_if (by omega) ?_)
        refine condK_spec (eqI (c57.toNat : Int) (a1.toNat : Int)) (by first | rfl | (simp [h5_1, h5_5, h5_6, f6, hlt53, ew54, hx58, hx58g]; done) | (simp [andB, orB, eqI, ltI, Int.natCast_inj, h5_1, h5_5, h5_6, f6, hlt53, ew54, hx58, hx58g]; done)) (fun h59 => ?_) (fun h59 => ?_)
        · replace e46 := condT h59 e46
          repeat (first | simp [h5_1, h5_5, h5_6, f6, hlt53, ew54, hx58, hx58g] | with_reducible first | refine awp_reg ?_ | refine optF_if (by omega) ?_)
          obtain rfl := Option.some.inj e46
          try dsimp only at e32
          obtain rfl := Option.some.inj e32
          try dsimp only at hs
          refine hX35 _ _ (by simp) ?_
          repeat (first | simp [h5_1, h5_5, h5_6, f6, hlt53, ew54, hx58, hx58g] | with_reducible first | refine awp_reg ?_ | refine optF_if (by omega) ?_)
          obtain rfl := Option.some.inj hs
          refine hQ _ _ (ret2g _ (Gh.refl _) (by simp [St.frz, St.pur, h5_1, h5_5, h5_6, f6, hlt53, ew54, hx58, hx58g]; rfl) (by first | rfl | (simp [St.frz, St.pur, h5_1, h5_5, h5_6, f6, hlt53, ew54, hx58, hx58g]; done) | (rw [if_pos (by first | omega | (simp; omega))]; simp [St.frz, St.pur, h5_1, h5_5, h5_6, f6, hlt53, ew54, hx58, hx58g]; first | omega | exact List.take_of_length_le (by simp; omega) | skip)) (by simp))
        · replace e46 := condF h59 e46
          repeat (first | simp [h5_1, h5_5, h5_6, f6, hlt53, ew54, hx58, hx58g] | with_reducible first | refine awp_reg ?_ | refine optF_if (by omega) ?_)
          refine hL49 (q52, (k41 + 1)) _ _ (Gh.refl _) ⟨e46, (by first | omega | (simp; omega)), ?_, ?_, ?_, by first | (simp; done) | (simp; omega) | omega⟩ (by omega) <;> simp [St.frz, St.pur, h5_1, h5_5, h5_6, f6, hlt53, ew54, hx58, hx58g]
    · obtain ⟨e32, n4_g⟩ := hp
      obtain rfl := Option.some.inj e32
      try dsimp only at hs
      repeat (first | simp [f6] | with_reducible first | refine awp_reg ?_ | refine And.intro (by omega) ?_ | refine optF_if (by omega) ?_ | refine gsel_pure (by with_unfolding_all rfl) _ (fun hg => by (try simp at hg); first | (simp [hg, f6, hx5a, hx5b]; rfl) | (simp [f6]; simp only [if_pos hg]; simp [f6]; rfl)) ?_)
      obtain rfl := Option.some.inj hs
      refine hQ _ _ (ret2g _ (Gh.refl _) (by simp [St.frz, St.pur, f6]; rfl) (by first | rfl | (simp [St.frz, St.pur, f6]; done) | (rw [if_pos (by first | omega | (simp; omega))]; simp [St.frz, St.pur, f6]; first | omega | exact List.take_of_length_le (by simp; omega) | skip)) (by simp))
end Go.Dc
end
section
set_option linter.all false
namespace Go.Dc
open Go Go.Hw Go.Proofs
set_option maxRecDepth 100000

def r07_register (a0 : Int) : Option Bool :=
  some (andB (!(ltI a0 0)) (ltI a0 8))

set_option maxHeartbeats 2000000 in
theorem at_r07_register {a0 : Int} {r : Bool} (hs : r07_register a0 = some r) : At Tryd.prog 108 [iV .i64 a0] (bV r) := by
  refine at_bound (by kernel_rfl) fun hb => ?_
  refine at_code mixed Tryd.func108 (by kernel_rfl) rfl (by kernel_rfl) rfl fun Q hQ => ?_
  rw [r07_register] at hs
  repeat (first | simp | with_reducible first | refine awp_reg ?_ | refine gsel_pure (by with_unfolding_all rfl) _ (fun hg => by (try simp at hg); first | (simp [hg]; rfl) | (simp; simp only [if_pos hg]; simp; rfl)) ?_)
  obtain rfl := Option.some.inj hs
  refine hQ _ _ (ret2g _ (Gh.refl _) (by simp [St.frz, St.pur]; rfl) (by first | rfl | (simp [St.frz, St.pur]; done) | (rw [if_pos (by first | omega | (simp; omega))]; simp [St.frz, St.pur]; first | omega | exact List.take_of_length_le (by simp; omega) | skip)) (by simp))
end Go.Dc
end
section
set_option linter.all false
namespace Go.Dc
open Go Go.Hw Go.Proofs
set_option maxRecDepth 100000

def r01_Name (a0 : Int) : Option ByteArray :=
  cond (eqI a0 1) (some (⟨#[97, 100, 100]⟩ : ByteArray)) (cond (eqI a0 2) (some (⟨#[115, 117, 98]⟩ : ByteArray)) (cond (eqI a0 3) (some (⟨#[109, 117, 108]⟩ : ByteArray)) (cond (eqI a0 4) (some (⟨#[97, 110, 100]⟩ : ByteArray)) (cond (eqI a0 5) (some (⟨#[111, 114]⟩ : ByteArray)) (cond (eqI a0 6) (some (⟨#[120, 111, 114]⟩ : ByteArray)) (cond (eqI a0 7) (some (⟨#[101, 113]⟩ : ByteArray)) (cond (eqI a0 8) (some (⟨#[110, 101]⟩ : ByteArray)) (cond (eqI a0 9) (some (⟨#[108, 116]⟩ : ByteArray)) (cond (eqI a0 10) (some (⟨#[108, 101]⟩ : ByteArray)) (some (⟨#[]⟩ : ByteArray)))))))))))

set_option maxHeartbeats 2000000 in
theorem at_r01_Name {a0 : Int} {r : ByteArray} (hs : r01_Name a0 = some r) : At Tryd.prog 109 [iV .i64 a0] (sV r) := by
  refine at_bound (by kernel_rfl) fun hb => ?_
  refine at_code mixed Tryd.func109 (by kernel_rfl) rfl (by kernel_rfl) rfl fun Q hQ => ?_
  rw [r01_Name] at hs
  repeat (first | simp | with_reducible refine awp_reg ?_)
  refine condK_spec (eqI a0 1) (by first | rfl | (simp; done) | (simp [andB, orB, eqI, ltI, Int.natCast_inj]; done)) (fun h1 => ?_) (fun h1 => ?_)
  · replace hs := condT h1 hs
    repeat (first | simp | with_reducible refine awp_reg ?_)
    obtain rfl := Option.some.inj hs
    refine hQ _ _ (ret2g _ (Gh.refl _) (by simp [St.frz, St.pur]; rfl) (by first | rfl | (simp [St.frz, St.pur]; done) | (rw [if_pos (by first | omega | (simp; omega))]; simp [St.frz, St.pur]; first | omega | exact List.take_of_length_le (by simp; omega) | skip)) (by simp))
  · replace hs := condF h1 hs
    repeat (first | simp | with_reducible refine awp_reg ?_)
    refine condK_spec (eqI a0 2) (by first | rfl | (simp; done) | (simp [andB, orB, eqI, ltI, Int.natCast_inj]; done)) (fun h2 => ?_) (fun h2 => ?_)
    · replace hs := condT h2 hs
      repeat (first | simp | with_reducible refine awp_reg ?_)
      obtain rfl := Option.some.inj hs
      refine hQ _ _ (ret2g _ (Gh.refl _) (by simp [St.frz, St.pur]; rfl) (by first | rfl | (simp [St.frz, St.pur]; done) | (rw [if_pos (by first | omega | (simp; omega))]; simp [St.frz, St.pur]; first | omega | exact List.take_of_length_le (by simp; omega) | skip)) (by simp))
    · replace hs := condF h2 hs
      repeat (first | simp | with_reducible refine awp_reg ?_)
      refine condK_spec (eqI a0 3) (by first | rfl | (simp; done) | (simp [andB, orB, eqI, ltI, Int.natCast_inj]; done)) (fun h3 => ?_) (fun h3 => ?_)
      · replace hs := condT h3 hs
        repeat (first | simp | with_reducible refine awp_reg ?_)
        obtain rfl := Option.some.inj hs
        refine hQ _ _ (ret2g _ (Gh.refl _) (by simp [St.frz, St.pur]; rfl) (by first | rfl | (simp [St.frz, St.pur]; done) | (rw [if_pos (by first | omega | (simp; omega))]; simp [St.frz, St.pur]; first | omega | exact List.take_of_length_le (by simp; omega) | skip)) (by simp))
      · replace hs := condF h3 hs
        repeat (first | simp | with_reducible refine awp_reg ?_)
        refine condK_spec (eqI a0 4) (by first | rfl | (simp; done) | (simp [andB, orB, eqI, ltI, Int.natCast_inj]; done)) (fun h4 => ?_) (fun h4 => ?_)
        · replace hs := condT h4 hs
          repeat (first | simp | with_reducible refine awp_reg ?_)
          obtain rfl := Option.some.inj hs
          refine hQ _ _ (ret2g _ (Gh.refl _) (by simp [St.frz, St.pur]; rfl) (by first | rfl | (simp [St.frz, St.pur]; done) | (rw [if_pos (by first | omega | (simp; omega))]; simp [St.frz, St.pur]; first | omega | exact List.take_of_length_le (by simp; omega) | skip)) (by simp))
        · replace hs := condF h4 hs
          repeat (first | simp | with_reducible refine awp_reg ?_)
          refine condK_spec (eqI a0 5) (by first | rfl | (simp; done) | (simp [andB, orB, eqI, ltI, Int.natCast_inj]; done)) (fun h5 => ?_) (fun h5 => ?_)
          · replace hs := condT h5 hs
            repeat (first | simp | with_reducible refine awp_reg ?_)
            obtain rfl := Option.some.inj hs
            refine hQ _ _ (ret2g _ (Gh.refl _) (by simp [St.frz, St.pur]; rfl) (by first | rfl | (simp [St.frz, St.pur]; done) | (rw [if_pos (by first | omega | (simp; omega))]; simp [St.frz, St.pur]; first | omega | exact List.take_of_length_le (by simp; omega) | skip)) (by simp))
          · replace hs := condF h5 hs
            repeat (first | simp | with_reducible refine awp_reg ?_)
            refine condK_spec (eqI a0 6) (by first | rfl | (simp; done) | (simp [andB, orB, eqI, ltI, Int.natCast_inj]; done)) (fun h6 => ?_) (fun h6 => ?_)
            · replace hs := condT h6 hs
              repeat (first | simp | with_reducible refine awp_reg ?_)
              obtain rfl := Option.some.inj hs
              refine hQ _ _ (ret2g _ (Gh.refl _) (by simp [St.frz, St.pur]; rfl) (by first | rfl | (simp [St.frz, St.pur]; done) | (rw [if_pos (by first | omega | (simp; omega))]; simp [St.frz, St.pur]; first | omega | exact List.take_of_length_le (by simp; omega) | skip)) (by simp))
            · replace hs := condF h6 hs
              repeat (first | simp | with_reducible refine awp_reg ?_)
              refine condK_spec (eqI a0 7) (by first | rfl | (simp; done) | (simp [andB, orB, eqI, ltI, Int.natCast_inj]; done)) (fun h7 => ?_) (fun h7 => ?_)
              · replace hs := condT h7 hs
                repeat (first | simp | with_reducible refine awp_reg ?_)
                obtain rfl := Option.some.inj hs
                refine hQ _ _ (ret2g _ (Gh.refl _) (by simp [St.frz, St.pur]; rfl) (by first | rfl | (simp [St.frz, St.pur]; done) | (rw [if_pos (by first | omega | (simp; omega))]; simp [St.frz, St.pur]; first | omega | exact List.take_of_length_le (by simp; omega) | skip)) (by simp))
              · replace hs := condF h7 hs
                repeat (first | simp | with_reducible refine awp_reg ?_)
                refine condK_spec (eqI a0 8) (by first | rfl | (simp; done) | (simp [andB, orB, eqI, ltI, Int.natCast_inj]; done)) (fun h8 => ?_) (fun h8 => ?_)
                · replace hs := condT h8 hs
                  repeat (first | simp | with_reducible refine awp_reg ?_)
                  obtain rfl := Option.some.inj hs
                  refine hQ _ _ (ret2g _ (Gh.refl _) (by simp [St.frz, St.pur]; rfl) (by first | rfl | (simp [St.frz, St.pur]; done) | (rw [if_pos (by first | omega | (simp; omega))]; simp [St.frz, St.pur]; first | omega | exact List.take_of_length_le (by simp; omega) | skip)) (by simp))
                · replace hs := condF h8 hs
                  repeat (first | simp | with_reducible refine awp_reg ?_)
                  refine condK_spec (eqI a0 9) (by first | rfl | (simp; done) | (simp [andB, orB, eqI, ltI, Int.natCast_inj]; done)) (fun h9 => ?_) (fun h9 => ?_)
                  · replace hs := condT h9 hs
                    repeat (first | simp | with_reducible refine awp_reg ?_)
                    obtain rfl := Option.some.inj hs
                    refine hQ _ _ (ret2g _ (Gh.refl _) (by simp [St.frz, St.pur]; rfl) (by first | rfl | (simp [St.frz, St.pur]; done) | (rw [if_pos (by first | omega | (simp; omega))]; simp [St.frz, St.pur]; first | omega | exact List.take_of_length_le (by simp; omega) | skip)) (by simp))
                  · replace hs := condF h9 hs
                    repeat (first | simp | with_reducible refine awp_reg ?_)
                    refine condK_spec (eqI a0 10) (by first | rfl | (simp; done) | (simp [andB, orB, eqI, ltI, Int.natCast_inj]; done)) (fun h10 => ?_) (fun h10 => ?_)
                    · replace hs := condT h10 hs
                      repeat (first | simp | with_reducible refine awp_reg ?_)
                      obtain rfl := Option.some.inj hs
                      refine hQ _ _ (ret2g _ (Gh.refl _) (by simp [St.frz, St.pur]; rfl) (by first | rfl | (simp [St.frz, St.pur]; done) | (rw [if_pos (by first | omega | (simp; omega))]; simp [St.frz, St.pur]; first | omega | exact List.take_of_length_le (by simp; omega) | skip)) (by simp))
                    · replace hs := condF h10 hs
                      repeat (first | simp | with_reducible refine awp_reg ?_)
                      obtain rfl := Option.some.inj hs
                      refine hQ _ _ (ret2g _ (Gh.refl _) (by simp [St.frz, St.pur]; rfl) (by first | rfl | (simp [St.frz, St.pur]; done) | (rw [if_pos (by first | omega | (simp; omega))]; simp [St.frz, St.pur]; first | omega | exact List.take_of_length_le (by simp; omega) | skip)) (by simp))
end Go.Dc
end
section
set_option linter.all false
namespace Go.Dc
open Go Go.Hw Go.Proofs
set_option maxRecDepth 100000

def r07_Check (a0 : Inst) : Option Int :=
  cond (orB (ltI a0.Op 1) (ltI 22 a0.Op)) (some 8) (Option.bind (r07_has a0.Op 65) (fun y2 => guardO (orB (!(!(andB (!y2) (!(eqI a0.A 0))))) ((r07_has a0.Op 66).isSome)) (guardO (orB (!(!(orB (andB (!y2) (!(eqI a0.A 0))) (andB (!((r07_has a0.Op 66).getD default)) (!(eqI a0.B 0)))))) ((r07_has a0.Op 67).isSome)) (guardO (orB (!(!(orB (orB (andB (!y2) (!(eqI a0.A 0))) (andB (!((r07_has a0.Op 66).getD default)) (!(eqI a0.B 0)))) (andB (!((r07_has a0.Op 67).getD default)) (!(eqI a0.C 0)))))) ((r07_has a0.Op 79).isSome)) (guardO (orB (!(!(orB (orB (orB (andB (!y2) (!(eqI a0.A 0))) (andB (!((r07_has a0.Op 66).getD default)) (!(eqI a0.B 0)))) (andB (!((r07_has a0.Op 67).getD default)) (!(eqI a0.C 0)))) (andB (!((r07_has a0.Op 79).getD default)) (!(eqI a0.Obj 0)))))) ((r07_has a0.Op 78).isSome)) (guardO (orB (!(!(orB (orB (orB (orB (andB (!y2) (!(eqI a0.A 0))) (andB (!((r07_has a0.Op 66).getD default)) (!(eqI a0.B 0)))) (andB (!((r07_has a0.Op 67).getD default)) (!(eqI a0.C 0)))) (andB (!((r07_has a0.Op 79).getD default)) (!(eqI a0.Obj 0)))) (andB (!((r07_has a0.Op 78).getD default)) (!(eqI a0.N 0)))))) ((r07_has a0.Op 70).isSome)) (guardO (orB (!(!(orB (orB (orB (orB (orB (andB (!y2) (!(eqI a0.A 0))) (andB (!((r07_has a0.Op 66).getD default)) (!(eqI a0.B 0)))) (andB (!((r07_has a0.Op 67).getD default)) (!(eqI a0.C 0)))) (andB (!((r07_has a0.Op 79).getD default)) (!(eqI a0.Obj 0)))) (andB (!((r07_has a0.Op 78).getD default)) (!(eqI a0.N 0)))) (andB (!((r07_has a0.Op 70).getD default)) (!(eqI a0.Fn 0)))))) ((r07_has a0.Op 82).isSome)) (cond (orB (orB (orB (orB (orB (orB (andB (!y2) (!(eqI a0.A 0))) (andB (!((r07_has a0.Op 66).getD default)) (!(eqI a0.B 0)))) (andB (!((r07_has a0.Op 67).getD default)) (!(eqI a0.C 0)))) (andB (!((r07_has a0.Op 79).getD default)) (!(eqI a0.Obj 0)))) (andB (!((r07_has a0.Op 78).getD default)) (!(eqI a0.N 0)))) (andB (!((r07_has a0.Op 70).getD default)) (!(eqI a0.Fn 0)))) (andB (!((r07_has a0.Op 82).getD default)) (!(eqI a0.Order 0)))) (some 9) (Option.bind (r07_register a0.A) (fun y11 => guardO (orB (!y11) ((r07_register a0.B).isSome)) (guardO (orB (!(!(orB (!y11) (!((r07_register a0.B).getD default))))) ((r07_register a0.C).isSome)) (cond (orB (orB (!y11) (!((r07_register a0.B).getD default))) (!((r07_register a0.C).getD default))) (some 10) (cond (orB (ltI a0.Order 0) (ltI 2 a0.Order)) (some 13) (Option.bind (r07_has a0.Op 70) (fun y17 => guardO (orB (!y17) ((r01_Name a0.Fn).isSome)) (cond (andB y17 (eqS ((r01_Name a0.Fn).getD default) (⟨#[]⟩ : ByteArray))) (some 8) (cond (andB (eqI a0.Op 1) (orB (ltI a0.N (-2147483648)) (ltI 2147483647 a0.N))) (some 2) (some 0))))))))))))))))))

set_option maxHeartbeats 2000000 in
theorem at_r07_Check {a0 : Inst} {r : Int} (hs : r07_Check a0 = some r) : At Tryd.prog 75 [.agg [.p (.c (.int .i64 a0.Op)), .p (.c (.int .i64 a0.A)), .p (.c (.int .i64 a0.B)), .p (.c (.int .i64 a0.C)), .p (.c (.int .i64 a0.Obj)), .p (.c (.int .i64 a0.N)), .p (.c (.int .i64 a0.Fn)), .p (.c (.int .i64 a0.Order))]] (iV .i64 r) := by
  refine at_bound (by kernel_rfl) fun hb => ?_
  refine at_code mixed Tryd.func75 (by kernel_rfl) rfl (by kernel_rfl) rfl fun Q hQ => ?_
  rw [r07_Check] at hs
  repeat (first | simp | with_reducible first | refine awp_reg ?_ | refine gsel_pure (by with_unfolding_all rfl) _ (fun hg => by (try simp at hg); first | (simp [hg]; rfl) | (simp; simp only [if_pos hg]; simp; rfl)) ?_)
  refine condK_spec (orB (ltI a0.Op 1) (ltI 22 a0.Op)) (by first | rfl | (simp; done) | (simp [andB, orB, eqI, ltI, Int.natCast_inj]; done)) (fun h1 => ?_) (fun h1 => ?_)
  · replace hs := condT h1 hs
    repeat (first | simp | with_reducible first | refine awp_reg ?_ | refine gsel_pure (by with_unfolding_all rfl) _ (fun hg => by (try simp at hg); first | (simp [hg]; rfl) | (simp; simp only [if_pos hg]; simp; rfl)) ?_)
    obtain rfl := Option.some.inj hs
    refine hQ _ _ (ret2g _ (Gh.refl _) (by simp [St.frz, St.pur]; rfl) (by first | rfl | (simp [St.frz, St.pur]; done) | (rw [if_pos (by first | omega | (simp; omega))]; simp [St.frz, St.pur]; first | omega | exact List.take_of_length_le (by simp; omega) | skip)) (by simp))
  · replace hs := condF h1 hs
    repeat (first | simp | with_reducible first | refine awp_reg ?_ | refine And.intro (by omega) ?_ | refine optF_if (by omega) ?_ | refine gsel_pure (by with_unfolding_all rfl) _ (fun hg => by (try simp at hg); first | (simp [hg]; rfl) | (simp; simp only [if_pos hg]; simp; rfl)) ?_)
    obtain ⟨y2, hx3, hs⟩ := bindO hs
    try dsimp only at hs
    refine callK_pure (at_r07_has hx3) (by (first | simp | simp (disch := omega) []); try rfl) (by simp) (by simp) ?_
    repeat (first | simp | with_reducible first | refine awp_reg ?_ | refine And.intro (by omega) ?_ | refine optF_if (by omega) ?_ | refine gsel_pure (by with_unfolding_all rfl) _ (fun hg => by (try simp at hg); first | (simp [hg]; rfl) | (simp; simp only [if_pos hg]; simp; rfl)) ?_)
    obtain ⟨g4, hs⟩ := guardO_some hs
    refine gsel_call (fun hg => at_r07_has (under_call g4 hg)) (fun hg => by (try simp at hg); (first | simp [hg, id]); try rfl) (fun hg => by (try simp at hg); simp [hg, id]) (by simp) ?_
    repeat (first | simp | with_reducible first | refine awp_reg ?_ | refine And.intro (by omega) ?_ | refine optF_if (by omega) ?_ | refine gsel_pure (by with_unfolding_all rfl) _ (fun hg => by (try simp at hg); first | (simp [hg]; rfl) | (simp; simp only [if_pos hg]; simp; rfl)) ?_)
    obtain ⟨g5, hs⟩ := guardO_some hs
    refine gsel_call (fun hg => at_r07_has (under_call g5 hg)) (fun hg => by (try simp at hg); (first | simp [hg, id]); try rfl) (fun hg => by (try simp at hg); simp [hg, id]) (by simp) ?_
    repeat (first | simp | with_reducible first | refine awp_reg ?_ | refine And.intro (by omega) ?_ | refine optF_if (by omega) ?_ | refine gsel_pure (by with_unfolding_all rfl) _ (fun hg => by (try simp at hg); first | (simp [hg]; rfl) | (simp; simp only [if_pos hg]; simp; rfl)) ?_)
    obtain ⟨g6, hs⟩ := guardO_some hs
    refine gsel_call (fun hg => at_r07_has (under_call g6 hg)) (fun hg => by (try simp at hg); (first | simp [hg, id]); try rfl) (fun hg => by (try simp at hg); simp [hg, id]) (by simp) ?_
    repeat (first | simp | with_reducible first | refine awp_reg ?_ | refine And.intro (by omega) ?_ | refine optF_if (by omega) ?_ | refine gsel_pure (by with_unfolding_all rfl) _ (fun hg => by (try simp at hg); first | (simp [hg]; rfl) | (simp; simp only [if_pos hg]; simp; rfl)) ?_)
    obtain ⟨g7, hs⟩ := guardO_some hs
    refine gsel_call (fun hg => at_r07_has (under_call g7 hg)) (fun hg => by (try simp at hg); (first | simp [hg, id]); try rfl) (fun hg => by (try simp at hg); simp [hg, id]) (by simp) ?_
    repeat (first | simp | with_reducible first | refine awp_reg ?_ | refine And.intro (by omega) ?_ | refine optF_if (by omega) ?_ | refine gsel_pure (by with_unfolding_all rfl) _ (fun hg => by (try simp at hg); first | (simp [hg]; rfl) | (simp; simp only [if_pos hg]; simp; rfl)) ?_)
    obtain ⟨g8, hs⟩ := guardO_some hs
    refine gsel_call (fun hg => at_r07_has (under_call g8 hg)) (fun hg => by (try simp at hg); (first | simp [hg, id]); try rfl) (fun hg => by (try simp at hg); simp [hg, id]) (by simp) ?_
    repeat (first | simp | with_reducible first | refine awp_reg ?_ | refine And.intro (by omega) ?_ | refine optF_if (by omega) ?_ | refine gsel_pure (by with_unfolding_all rfl) _ (fun hg => by (try simp at hg); first | (simp [hg]; rfl) | (simp; simp only [if_pos hg]; simp; rfl)) ?_)
    obtain ⟨g9, hs⟩ := guardO_some hs
    refine gsel_call (fun hg => at_r07_has (under_call g9 hg)) (fun hg => by (try simp at hg); (first | simp [hg, id]); try rfl) (fun hg => by (try simp at hg); simp [hg, id]) (by simp) ?_
    repeat (first | simp | with_reducible first | refine awp_reg ?_ | refine And.intro (by omega) ?_ | refine optF_if (by omega) ?_ | refine gsel_pure (by with_unfolding_all rfl) _ (fun hg => by (try simp at hg); first | (simp [hg]; rfl) | (simp; simp only [if_pos hg]; simp; rfl)) ?_)
    refine condK_spec (orB (orB (orB (orB (orB (orB (andB (!y2) (!(eqI a0.A 0))) (andB (!((r07_has a0.Op 66).getD default)) (!(eqI a0.B 0)))) (andB (!((r07_has a0.Op 67).getD default)) (!(eqI a0.C 0)))) (andB (!((r07_has a0.Op 79).getD default)) (!(eqI a0.Obj 0)))) (andB (!((r07_has a0.Op 78).getD default)) (!(eqI a0.N 0)))) (andB (!((r07_has a0.Op 70).getD default)) (!(eqI a0.Fn 0)))) (andB (!((r07_has a0.Op 82).getD default)) (!(eqI a0.Order 0)))) (by first | rfl | (simp; done) | (simp [andB, orB, eqI, ltI, Int.natCast_inj]; done)) (fun h10 => ?_) (fun h10 => ?_)
    · replace hs := condT h10 hs
      repeat (first | simp | with_reducible first | refine awp_reg ?_ | refine And.intro (by omega) ?_ | refine optF_if (by omega) ?_ | refine gsel_pure (by with_unfolding_all rfl) _ (fun hg => by (try simp at hg); first | (simp [hg]; rfl) | (simp; simp only [if_pos hg]; simp; rfl)) ?_)
      obtain rfl := Option.some.inj hs
      refine hQ _ _ (ret2g _ (Gh.refl _) (by simp [St.frz, St.pur]; rfl) (by first | rfl | (simp [St.frz, St.pur]; done) | (rw [if_pos (by first | omega | (simp; omega))]; simp [St.frz, St.pur]; first | omega | exact List.take_of_length_le (by simp; omega) | skip)) (by simp))
    · replace hs := condF h10 hs
      repeat (first | simp | with_reducible first | refine awp_reg ?_ | refine And.intro (by omega) ?_ | refine optF_if (by omega) ?_ | refine gsel_pure (by with_unfolding_all rfl) _ (fun hg => by (try simp at hg); first | (simp [hg]; rfl) | (simp; simp only [if_pos hg]; simp; rfl)) ?_)
      obtain ⟨y11, hx12, hs⟩ := bindO hs
      try dsimp only at hs
      refine callK_pure (at_r07_register hx12) (by (first | simp | simp (disch := omega) []); try rfl) (by simp) (by simp) ?_
      repeat (first | simp | with_reducible first | refine awp_reg ?_ | refine And.intro (by omega) ?_ | refine optF_if (by omega) ?_ | refine gsel_pure (by with_unfolding_all rfl) _ (fun hg => by (try simp at hg); first | (simp [hg]; rfl) | (simp; simp only [if_pos hg]; simp; rfl)) ?_)
      obtain ⟨g13, hs⟩ := guardO_some hs
      refine gsel_call (fun hg => at_r07_register (under_call g13 hg)) (fun hg => by (try simp at hg); (first | simp [hg, id]); try rfl) (fun hg => by (try simp at hg); simp [hg, id]) (by simp) ?_
      repeat (first | simp | with_reducible first | refine awp_reg ?_ | refine And.intro (by omega) ?_ | refine optF_if (by omega) ?_ | refine gsel_pure (by with_unfolding_all rfl) _ (fun hg => by (try simp at hg); first | (simp [hg]; rfl) | (simp; simp only [if_pos hg]; simp; rfl)) ?_)
      obtain ⟨g14, hs⟩ := guardO_some hs
      refine gsel_call (fun hg => at_r07_register (under_call g14 hg)) (fun hg => by (try simp at hg); (first | simp [hg, id]); try rfl) (fun hg => by (try simp at hg); simp [hg, id]) (by simp) ?_
      repeat (first | simp | with_reducible first | refine awp_reg ?_ | refine And.intro (by omega) ?_ | refine optF_if (by omega) ?_ | refine gsel_pure (by with_unfolding_all rfl) _ (fun hg => by (try simp at hg); first | (simp [hg]; rfl) | (simp; simp only [if_pos hg]; simp; rfl)) ?_)
      refine condK_spec (orB (orB (!y11) (!((r07_register a0.B).getD default))) (!((r07_register a0.C).getD default))) (by first | rfl | (simp; done) | (simp [andB, orB, eqI, ltI, Int.natCast_inj]; done)) (fun h15 => ?_) (fun h15 => ?_)
      · replace hs := condT h15 hs
        repeat (first | simp | with_reducible first | refine awp_reg ?_ | refine And.intro (by omega) ?_ | refine optF_if (by omega) ?_ | refine gsel_pure (by with_unfolding_all rfl) _ (fun hg => by (try simp at hg); first | (simp [hg]; rfl) | (simp; simp only [if_pos hg]; simp; rfl)) ?_)
        obtain rfl := Option.some.inj hs
        refine hQ _ _ (ret2g _ (Gh.refl _) (by simp [St.frz, St.pur]; rfl) (by first | rfl | (simp [St.frz, St.pur]; done) | (rw [if_pos (by first | omega | (simp; omega))]; simp [St.frz, St.pur]; first | omega | exact List.take_of_length_le (by simp; omega) | skip)) (by simp))
      · replace hs := condF h15 hs
        repeat (first | simp | with_reducible first | refine awp_reg ?_ | refine And.intro (by omega) ?_ | refine optF_if (by omega) ?_ | refine gsel_pure (by with_unfolding_all rfl) _ (fun hg => by (try simp at hg); first | (simp [hg]; rfl) | (simp; simp only [if_pos hg]; simp; rfl)) ?_)
        refine condK_spec (orB (ltI a0.Order 0) (ltI 2 a0.Order)) (by first | rfl | (simp; done) | (simp [andB, orB, eqI, ltI, Int.natCast_inj]; done)) (fun h16 => ?_) (fun h16 => ?_)
        · replace hs := condT h16 hs
          repeat (first | simp | with_reducible first | refine awp_reg ?_ | refine And.intro (by omega) ?_ | refine optF_if (by omega) ?_ | refine gsel_pure (by with_unfolding_all rfl) _ (fun hg => by (try simp at hg); first | (simp [hg]; rfl) | (simp; simp only [if_pos hg]; simp; rfl)) ?_)
          obtain rfl := Option.some.inj hs
          refine hQ _ _ (ret2g _ (Gh.refl _) (by simp [St.frz, St.pur]; rfl) (by first | rfl | (simp [St.frz, St.pur]; done) | (rw [if_pos (by first | omega | (simp; omega))]; simp [St.frz, St.pur]; first | omega | exact List.take_of_length_le (by simp; omega) | skip)) (by simp))
        · replace hs := condF h16 hs
          repeat (first | simp | with_reducible first | refine awp_reg ?_ | refine And.intro (by omega) ?_ | refine optF_if (by omega) ?_ | refine gsel_pure (by with_unfolding_all rfl) _ (fun hg => by (try simp at hg); first | (simp [hg]; rfl) | (simp; simp only [if_pos hg]; simp; rfl)) ?_)
          obtain ⟨y17, hx18, hs⟩ := bindO hs
          try dsimp only at hs
          refine callK_pure (at_r07_has hx18) (by (first | simp | simp (disch := omega) []); try rfl) (by simp) (by simp) ?_
          repeat (first | simp | with_reducible first | refine awp_reg ?_ | refine And.intro (by omega) ?_ | refine optF_if (by omega) ?_ | refine gsel_pure (by with_unfolding_all rfl) _ (fun hg => by (try simp at hg); first | (simp [hg]; rfl) | (simp; simp only [if_pos hg]; simp; rfl)) ?_)
          obtain ⟨g19, hs⟩ := guardO_some hs
          refine gsel_call (fun hg => at_r01_Name (under_call g19 hg)) (fun hg => by (try simp at hg); (first | simp [hg, id]); try rfl) (fun hg => by (try simp at hg); simp [hg, id]) (by simp) ?_
          repeat (first | simp | with_reducible first | refine awp_reg ?_ | refine And.intro (by omega) ?_ | refine optF_if (by omega) ?_ | refine gsel_pure (by with_unfolding_all rfl) _ (fun hg => by (try simp at hg); first | (simp [hg]; rfl) | (simp; simp only [if_pos hg]; simp; rfl)) ?_)
          refine condK_spec (andB y17 (eqS ((r01_Name a0.Fn).getD default) (⟨#[]⟩ : ByteArray))) (by first | rfl | (simp; done) | (simp [andB, orB, eqI, ltI, Int.natCast_inj]; done)) (fun h20 => ?_) (fun h20 => ?_)
          · replace hs := condT h20 hs
            repeat (first | simp | with_reducible first | refine awp_reg ?_ | refine And.intro (by omega) ?_ | refine optF_if (by omega) ?_ | refine gsel_pure (by with_unfolding_all rfl) _ (fun hg => by (try simp at hg); first | (simp [hg]; rfl) | (simp; simp only [if_pos hg]; simp; rfl)) ?_)
            obtain rfl := Option.some.inj hs
            refine hQ _ _ (ret2g _ (Gh.refl _) (by simp [St.frz, St.pur]; rfl) (by first | rfl | (simp [St.frz, St.pur]; done) | (rw [if_pos (by first | omega | (simp; omega))]; simp [St.frz, St.pur]; first | omega | exact List.take_of_length_le (by simp; omega) | skip)) (by simp))
          · replace hs := condF h20 hs
            repeat (first | simp | with_reducible first | refine awp_reg ?_ | refine And.intro (by omega) ?_ | refine optF_if (by omega) ?_ | refine gsel_pure (by with_unfolding_all rfl) _ (fun hg => by (try simp at hg); first | (simp [hg]; rfl) | (simp; simp only [if_pos hg]; simp; rfl)) ?_)
            refine condK_spec (andB (eqI a0.Op 1) (orB (ltI a0.N (-2147483648)) (ltI 2147483647 a0.N))) (by first | rfl | (simp; done) | (simp [andB, orB, eqI, ltI, Int.natCast_inj]; done)) (fun h21 => ?_) (fun h21 => ?_)
            · replace hs := condT h21 hs
              repeat (first | simp | with_reducible first | refine awp_reg ?_ | refine And.intro (by omega) ?_ | refine optF_if (by omega) ?_ | refine gsel_pure (by with_unfolding_all rfl) _ (fun hg => by (try simp at hg); first | (simp [hg]; rfl) | (simp; simp only [if_pos hg]; simp; rfl)) ?_)
              obtain rfl := Option.some.inj hs
              refine hQ _ _ (ret2g _ (Gh.refl _) (by simp [St.frz, St.pur]; rfl) (by first | rfl | (simp [St.frz, St.pur]; done) | (rw [if_pos (by first | omega | (simp; omega))]; simp [St.frz, St.pur]; first | omega | exact List.take_of_length_le (by simp; omega) | skip)) (by simp))
            · replace hs := condF h21 hs
              repeat (first | simp | with_reducible first | refine awp_reg ?_ | refine And.intro (by omega) ?_ | refine optF_if (by omega) ?_ | refine gsel_pure (by with_unfolding_all rfl) _ (fun hg => by (try simp at hg); first | (simp [hg]; rfl) | (simp; simp only [if_pos hg]; simp; rfl)) ?_)
              obtain rfl := Option.some.inj hs
              refine hQ _ _ (ret2g _ (Gh.refl _) (by simp [St.frz, St.pur]; rfl) (by first | rfl | (simp [St.frz, St.pur]; done) | (rw [if_pos (by first | omega | (simp; omega))]; simp [St.frz, St.pur]; first | omega | exact List.take_of_length_le (by simp; omega) | skip)) (by simp))
end Go.Dc
end
section
set_option linter.all false
namespace Go.Dc.Pl
open Go Go.Hw Go.Dc
set_option maxRecDepth 100000
def hasB (op : Int) (c : UInt8) : Bool := (r07_has op c).getD false
theorem ops22 {op : Int} (h1 : 1 ≤ op) (h2 : op ≤ 22) : op ∈ (List.range 22).map fun n => ((n + 1 : Nat) : Int) := by
  simp only [List.mem_map, List.mem_range]; exact ⟨(op - 1).toNat, by omega, by omega⟩
/-- A row of the table of instructions and the letters of the same instruction. -/
def rowB (op : Int) : Bool := match getI rowsTab (IntKind.i64.wrap (op - 1)) with
  | none => false
  | some r => decide (r07_has op 65 = some (r.uses.f 0)) && decide (r07_has op 66 = some (r.uses.f 1)) && decide (r07_has op 67 = some (r.uses.f 2)) && decide (r07_has op 79 = some (r.uses.f 3)) && decide (r07_has op 78 = some (r.uses.f 4)) && decide (r07_has op 70 = some (r.uses.f 5)) && decide (r07_has op 82 = some (r.uses.f 6))
theorem rowsB : (((List.range 22).map fun n => ((n + 1 : Nat) : Int)).all rowB) = true := by kernel_rfl
theorem row_ex {op : Int} (h1 : 1 ≤ op) (h2 : op ≤ 22) : ∃ r : InstRow, getI rowsTab (IntKind.i64.wrap (op - 1)) = some r ∧ r07_has op 65 = some (r.uses.f 0) ∧ r07_has op 66 = some (r.uses.f 1) ∧ r07_has op 67 = some (r.uses.f 2) ∧
    r07_has op 79 = some (r.uses.f 3) ∧ r07_has op 78 = some (r.uses.f 4) ∧ r07_has op 70 = some (r.uses.f 5) ∧ r07_has op 82 = some (r.uses.f 6) := by
  have h := List.all_eq_true.1 rowsB op (ops22 h1 h2)
  rw [rowB] at h
  split at h
  · cases h
  · rename_i r hr; simp only [Bool.and_eq_true, decide_eq_true_eq] at h; obtain ⟨⟨⟨⟨⟨⟨a, b⟩, c⟩, d⟩, e⟩, f⟩, g⟩ := h; exact ⟨r, hr, a, b, c, d, e, f, g⟩
def noName (n : Int) : Bool := orB (ltI n 1) (ltI 10 n)
theorem ops10 {op : Int} (h1 : 1 ≤ op) (h2 : op ≤ 10) : op ∈ (List.range 10).map fun n => ((n + 1 : Nat) : Int) := by
  simp only [List.mem_map, List.mem_range]; exact ⟨(op - 1).toNat, by omega, by omega⟩
theorem names_some : (((List.range 10).map fun n => ((n + 1 : Nat) : Int)).all fun n => match value_Name n, r01_Name n with | some a, some b => a.size != 0 && b.size != 0 | _, _ => false) = true := by kernel_rfl
theorem eqS_data (a b : ByteArray) : eqS a b = (a.data.toList == b.data.toList) := by unfold eqS; rw [ByteArray.toList_eq, ByteArray.toList_eq]
theorem str_len (s : ByteArray) : s.size = s.data.toList.length := by rw [Array.length_toList]; rfl
theorem eqS_empty (a : ByteArray) : eqS a ⟨#[]⟩ = decide (a.size = 0) := by
  rw [eqS_data, str_len]
  cases h : a.data.toList with
  | nil => rfl
  | cons x l => rfl
theorem eqS_refl (a : ByteArray) : eqS a a = true := by simp [eqS]
theorem names_eq (n : Int) : ∃ a b, value_Name n = some a ∧ r01_Name n = some b ∧ eqS a ⟨#[]⟩ = noName n ∧ eqS b ⟨#[]⟩ = noName n := by
  by_cases h : 1 ≤ n ∧ n ≤ 10
  · have h2 := List.all_eq_true.1 names_some n (ops10 h.1 h.2)
    have h3 : noName n = false := by simp [noName, orB_d, ltI_d]; omega
    split at h2
    · rename_i a b ha hb
      simp at h2
      exact ⟨a, b, ha, hb, by rw [eqS_empty, h3]; simpa using h2.1, by rw [eqS_empty, h3]; simpa using h2.2⟩
    · cases h2
  · have h3 : noName n = true := by simp [noName, orB_d, ltI_d]; omega
    refine ⟨⟨#[]⟩, ⟨#[]⟩, ?_, ?_, by rw [h3, eqS_refl], by rw [h3, eqS_refl]⟩
    · rw [value_Name, show orB (ltI n 1) (ltI 10 n) = true from h3]; rfl
    · simp only [r01_Name, eqI_d]
      have h4 : n < 1 ∨ 10 < n := by omega
      simp [show n ≠ 1 by omega, show n ≠ 2 by omega, show n ≠ 3 by omega, show n ≠ 4 by omega, show n ≠ 5 by omega, show n ≠ 6 by omega, show n ≠ 7 by omega, show n ≠ 8 by omega, show n ≠ 9 by omega, show n ≠ 10 by omega]
theorem inst_L1 (r : InstRow) (y : Arr 7 Int) (fuel : Nat) : inst_Check_L1 r y (fuel + 8) 0 = some (toS (onlyIf (((List.range 7).zipIdx 0).any fun x => andB (!(r.uses.f x.2)) (!(eqI (y.f x.2) 0))) 9)) := by
  have h := srchI (L := inst_Check_L1 r y) (List.range 7) (fun k _ => onlyIf (andB (!(r.uses.f k)) (!(eqI (y.f k) 0))) 9) (fun q => by rw [inst_Check_L1]; rfl) (fun q k x hx => by
    have hk := getN_some hx
    rw [List.length_range] at hk
    rw [inst_Check_L1, ltI_d, show decide ((k : Int) < 7) = true by simp; omega, cond_true, show inB (k : Int) 7 = true by simp [inB_d]; omega, guardO_t, guardO_t, Int.toNat_natCast, wrapS (by omega)]
    exact step_only _ _ _) (fuel + 8) 0 (by simp) (by simp)
  rw [List.drop_zero, first_only (fun k (_ : Nat) => andB (!(r.uses.f k)) (!(eqI (y.f k) 0)))] at h
  exact h
theorem inst_L2 (a : Inst) (r : InstRow) (fuel : Nat) : inst_Check_L2 a r (fuel + 8) 0 = some (toS (onlyIf (((List.range 3).zipIdx 0).any fun x => andB (r.uses.f x.2) (orB (ltI ((Arr.of 3 [a.A, a.B, a.C] : Arr 3 Int).f x.2) 0) (!(ltI ((Arr.of 3 [a.A, a.B, a.C] : Arr 3 Int).f x.2) 8)))) 10)) := by
  have h := srchI (L := inst_Check_L2 a r) (List.range 3) (fun k _ => onlyIf (andB (r.uses.f k) (orB (ltI ((Arr.of 3 [a.A, a.B, a.C] : Arr 3 Int).f k) 0) (!(ltI ((Arr.of 3 [a.A, a.B, a.C] : Arr 3 Int).f k) 8)))) 10) (fun q => by rw [inst_Check_L2]; rfl) (fun q k x hx => by
    have hk := getN_some hx
    rw [List.length_range] at hk
    rw [inst_Check_L2, ltI_d, show decide ((k : Int) < 3) = true by simp; omega, cond_true, show inB (k : Int) 3 = true by simp [inB_d]; omega, show inB (k : Int) 7 = true by simp [inB_d]; omega, guardO_t, guardO_t, Int.toNat_natCast, wrapS (by omega)]
    exact step_only _ _ _) (fuel + 8) 0 (by simp) (by simp)
  rw [List.drop_zero, first_only (fun k (_ : Nat) => andB (r.uses.f k) (orB (ltI ((Arr.of 3 [a.A, a.B, a.C] : Arr 3 Int).f k) 0) (!(ltI ((Arr.of 3 [a.A, a.B, a.C] : Arr 3 Int).f k) 8)))) ] at h
  exact h
theorem orB_t (b : Bool) : orB b true = true := by cases b <;> rfl
theorem reg_eq {u : Bool} {n : Int} (h : andB (!u) (!eqI n 0) = false) : andB u (orB (ltI n 0) (!ltI n 8)) = !andB (!ltI n 0) (ltI n 8) := by
  cases u
  · have : n = 0 := by simpa [andB_d, eqI_d] using h
    subst this; decide
  · simp [andB_d, orB_d]
theorem ord_eq {u : Bool} {n : Int} (h : andB (!u) (!eqI n 0) = false) : andB u (orB (ltI n 0) (ltI 2 n)) = orB (ltI n 0) (ltI 2 n) := by
  cases u
  · have : n = 0 := by simpa [andB_d, eqI_d] using h
    subst this; decide
  · simp [andB_d, orB_d]
/-- What an instruction's check answers. -/
def icode (x : Inst) : Int := (r07_Check x).getD 0
theorem check_eq (fuel : Nat) (x : Inst) : inst_Check (fuel + 8) x = some (icode x) ∧ r07_Check x = some (icode x) := by
  suffices h : ∃ r, inst_Check (fuel + 8) x = some r ∧ r07_Check x = some r by obtain ⟨r, a, b⟩ := h; rw [icode, b]; exact ⟨a, rfl⟩
  by_cases hop : 1 ≤ x.Op ∧ x.Op ≤ 22
  · obtain ⟨r, hr, h0, h1, h2, h3, h4, h5, h6⟩ := row_ex hop.1 hop.2
    obtain ⟨na, nb, hna, hnb, hea, heb⟩ := names_eq x.Fn
    simp only [inst_Check, inst_known, r07_Check, Option.bind_some, hr, h0, h1, h2, h3, h4, h5, h6, hna, hnb, Option.getD_some, Option.isSome_some, hea, heb, r07_register]
    rw [show (andB (!(ltI x.Op 1)) (!(ltI 22 x.Op))) = true by simp [andB_d, ltI_d]; omega, show orB (ltI x.Op 1) (ltI 22 x.Op) = false by simp [orB_d, ltI_d]; omega]
    simp only [inst_values, Option.bind_some, Bool.not_true, cond_false, inst_L1, inst_L2]
    simp only [show (List.range 7).zipIdx 0 = [(0, 0), (1, 1), (2, 2), (3, 3), (4, 4), (5, 5), (6, 6)] from rfl, show (List.range 3).zipIdx 0 = [(0, 0), (1, 1), (2, 2)] from rfl, List.any_cons, List.any_nil, arr_of_f, List.getD_cons_zero, List.getD_cons_succ, Bool.or_false]
    generalize r.uses.f 0 = u0, r.uses.f 1 = u1, r.uses.f 2 = u2, r.uses.f 3 = u3, r.uses.f 4 = u4, r.uses.f 5 = u5, r.uses.f 6 = u6
    simp only [orB_t, guardO_t]
    have p1 : ∀ a b c d e f g : Bool, (a || (b || (c || (d || (e || (f || g)))))) = orB (orB (orB (orB (orB (orB a b) c) d) e) f) g := by decide
    have p2 : ∀ a b c : Bool, (a || (b || c)) = orB (orB a b) c := by decide
    rw [p1, p2]
    cases ha : orB (orB (orB (orB (orB (orB (andB (!u0) (!eqI x.A 0)) (andB (!u1) (!eqI x.B 0))) (andB (!u2) (!eqI x.C 0))) (andB (!u3) (!eqI x.Obj 0))) (andB (!u4) (!eqI x.N 0))) (andB (!u5) (!eqI x.Fn 0))) (andB (!u6) (!eqI x.Order 0))
    · simp only [orB_d, Bool.or_eq_false_iff] at ha
      obtain ⟨⟨⟨⟨⟨⟨a0, a1⟩, a2⟩, _⟩, _⟩, _⟩, a6⟩ := ha
      rw [reg_eq a0, reg_eq a1, reg_eq a2, ord_eq a6]
      cases orB (orB (!andB (!ltI x.A 0) (ltI x.A 8)) (!andB (!ltI x.B 0) (ltI x.B 8))) (!andB (!ltI x.C 0) (ltI x.C 8))
      · cases orB (ltI x.Order 0) (ltI 2 x.Order)
        · cases andB u5 (noName x.Fn)
          · cases andB (eqI x.Op 1) (orB (ltI x.N (-2147483648)) (ltI 2147483647 x.N))
            · exact ⟨_, rfl, rfl⟩
            · exact ⟨_, rfl, rfl⟩
          · exact ⟨_, rfl, rfl⟩
        · exact ⟨_, rfl, rfl⟩
      · exact ⟨_, rfl, rfl⟩
    · exact ⟨_, rfl, rfl⟩
  · refine ⟨8, ?_, ?_⟩
    · rw [inst_Check, inst_known, show (andB (!(ltI x.Op 1)) (!(ltI 22 x.Op))) = false by simp [andB_d, ltI_d]; omega]; rfl
    · rw [r07_Check, show orB (ltI x.Op 1) (ltI 22 x.Op) = true by simp [orB_d, ltI_d]; omega]; rfl
end Go.Dc.Pl
end
section
set_option linter.all false
namespace Go.Dc
open Go Go.Hw Go.Proofs
set_option maxRecDepth 100000

def program_value (a0 : Int) : Option Bool :=
  some (andB (!(ltI a0 (-2147483648))) (!(ltI 2147483647 a0)))

set_option maxHeartbeats 2000000 in
theorem at_program_value {a0 : Int} {r : Bool} (hs : program_value a0 = some r) : At Tryd.prog 113 [iV .i64 a0] (bV r) := by
  refine at_bound (by kernel_rfl) fun hb => ?_
  refine at_code mixed Tryd.func113 (by kernel_rfl) rfl (by kernel_rfl) rfl fun Q hQ => ?_
  rw [program_value] at hs
  repeat (first | simp | with_reducible first | refine awp_reg ?_ | refine gsel_pure (by with_unfolding_all rfl) _ (fun hg => by (try simp at hg); first | (simp [hg]; rfl) | (simp; simp only [if_pos hg]; simp; rfl)) ?_)
  obtain rfl := Option.some.inj hs
  refine hQ _ _ (ret2g _ (Gh.refl _) (by simp [St.frz, St.pur]; rfl) (by first | rfl | (simp [St.frz, St.pur]; done) | (rw [if_pos (by first | omega | (simp; omega))]; simp [St.frz, St.pur]; first | omega | exact List.take_of_length_le (by simp; omega) | skip)) (by simp))
end Go.Dc
end
section
set_option linter.all false
namespace Go.Dc
open Go Go.Hw Go.Proofs
set_option maxRecDepth 100000
def program_checkObjects_L1 : List Var → Nat → Option (Unit ⊕ (Int × ProgramPlace))
  | [], k47 => some (.inl ())
  | x65 :: q61, k47 => Option.bind (program_value x65.Init) (fun y68 => cond (!y68) (some (.inr (2, ({ fn := (-1), inst := (-1) } : ProgramPlace)))) (program_checkObjects_L1 q61 (k47 + 1)))

def program_checkObjects (a0 : Program) : Option (Int × ProgramPlace) :=
  cond (orB (orB (orB (ltI 8 ((a0.Vars.length : Nat) : Int)) (ltI 4 ((a0.Mutexes.length : Nat) : Int))) (ltI 4 ((a0.Conds.length : Nat) : Int))) (ltI 8 ((a0.Funcs.length : Nat) : Int))) (some (4, ({ fn := (-1), inst := (-1) } : ProgramPlace))) (Option.bind (α := Unit ⊕ (Int × ProgramPlace)) (Option.bind (program_checkObjects_L1 a0.Vars 0) (fun o => match o with | .inl _ => some (.inl ()) | .inr r71 => some (.inr r71))) (fun o => match o with | .inl _ => some (0, ({ fn := (-1), inst := (-1) } : ProgramPlace)) | .inr r72 => some r72))

set_option maxHeartbeats 2000000 in
theorem at_program_checkObjects {a0 : Program} {r : Int × ProgramPlace} (hs : program_checkObjects a0 = some r) : At Tryd.prog 84 [.agg [.p (.sl a0.Vars.length (encL a0.Vars)), .p (.sl a0.Mutexes.length (encL a0.Mutexes)), .p (.sl a0.Conds.length (encL a0.Conds)), .p (.sl a0.Funcs.length (encL a0.Funcs)), .p (.sl a0.Threads.length (encL a0.Threads))]] (.tup [iV .i64 r.1, .agg [.p (.c (.int .i64 r.2.fn)), .p (.c (.int .i64 r.2.inst))]]) := by
  refine at_bound (by kernel_rfl) fun hb => ?_
  have hb1 : LenOk (.sl a0.Vars.length (encL a0.Vars)) := hb (.agg [.p (.sl a0.Vars.length (encL a0.Vars)), .p (.sl a0.Mutexes.length (encL a0.Mutexes)), .p (.sl a0.Conds.length (encL a0.Conds)), .p (.sl a0.Funcs.length (encL a0.Funcs)), .p (.sl a0.Threads.length (encL a0.Threads))]) (by simp) (.p (.sl a0.Vars.length (encL a0.Vars))) (by simp)
  have hb2 : LenOk (.sl a0.Mutexes.length (encL a0.Mutexes)) := hb (.agg [.p (.sl a0.Vars.length (encL a0.Vars)), .p (.sl a0.Mutexes.length (encL a0.Mutexes)), .p (.sl a0.Conds.length (encL a0.Conds)), .p (.sl a0.Funcs.length (encL a0.Funcs)), .p (.sl a0.Threads.length (encL a0.Threads))]) (by simp) (.p (.sl a0.Mutexes.length (encL a0.Mutexes))) (by simp)
  have hb3 : LenOk (.sl a0.Conds.length (encL a0.Conds)) := hb (.agg [.p (.sl a0.Vars.length (encL a0.Vars)), .p (.sl a0.Mutexes.length (encL a0.Mutexes)), .p (.sl a0.Conds.length (encL a0.Conds)), .p (.sl a0.Funcs.length (encL a0.Funcs)), .p (.sl a0.Threads.length (encL a0.Threads))]) (by simp) (.p (.sl a0.Conds.length (encL a0.Conds))) (by simp)
  have hb4 : LenOk (.sl a0.Funcs.length (encL a0.Funcs)) := hb (.agg [.p (.sl a0.Vars.length (encL a0.Vars)), .p (.sl a0.Mutexes.length (encL a0.Mutexes)), .p (.sl a0.Conds.length (encL a0.Conds)), .p (.sl a0.Funcs.length (encL a0.Funcs)), .p (.sl a0.Threads.length (encL a0.Threads))]) (by simp) (.p (.sl a0.Funcs.length (encL a0.Funcs))) (by simp)
  have hb5 : LenOk (.sl a0.Threads.length (encL a0.Threads)) := hb (.agg [.p (.sl a0.Vars.length (encL a0.Vars)), .p (.sl a0.Mutexes.length (encL a0.Mutexes)), .p (.sl a0.Conds.length (encL a0.Conds)), .p (.sl a0.Funcs.length (encL a0.Funcs)), .p (.sl a0.Threads.length (encL a0.Threads))]) (by simp) (.p (.sl a0.Threads.length (encL a0.Threads))) (by simp)
  refine at_code mixed Tryd.func84 (by kernel_rfl) rfl (by kernel_rfl) rfl fun Q hQ => ?_
  rw [program_checkObjects] at hs
  repeat (first | simp | with_reducible first | refine awp_reg ?_ | refine And.intro (by omega) ?_ | refine optF_if (by omega) ?_ | refine gsel_pure (by with_unfolding_all rfl) _ (fun hg => by (try simp at hg); first | (simp [hg]; rfl) | (simp; simp only [if_pos hg]; simp; rfl)) ?_)
  refine condK_spec (orB (orB (orB (ltI 8 ((a0.Vars.length : Nat) : Int)) (ltI 4 ((a0.Mutexes.length : Nat) : Int))) (ltI 4 ((a0.Conds.length : Nat) : Int))) (ltI 8 ((a0.Funcs.length : Nat) : Int))) (by first | rfl | (simp; done) | (simp [andB, orB, eqI, ltI, Int.natCast_inj]; done)) (fun h1 => ?_) (fun h1 => ?_)
  · replace hs := condT h1 hs
    repeat (first | simp | with_reducible first | refine awp_reg ?_ | refine awp_draw ?_ | refine ord_l (by kernel_rfl) ?_ | refine ord_e (by kernel_rfl) ?_ | refine ord_c (by kernel_rfl) ?_ | refine ord_d (by kernel_rfl) ?_ | refine And.intro (by omega) ?_ | refine optF_if (by omega) ?_ | refine gsel_pure (by with_unfolding_all rfl) _ (fun hg => by (try simp at hg); first | (simp [hg]; rfl) | (simp; simp only [if_pos hg]; simp; rfl)) ?_ | refine dskip_intro ?_ | refine dsel_pure (by with_unfolding_all rfl) _ (fun hg => by (try simp at hg); simp [hg]; rfl) ?_)
    obtain rfl := Option.some.inj hs
    refine hQ _ _ (ret2g _ (Gh.refl _) (by simp [St.frz, St.pur]; rfl) (by first | rfl | (simp [St.frz, St.pur]; done) | (rw [if_pos (by first | omega | (simp; omega))]; simp [St.frz, St.pur]; first | omega | exact List.take_of_length_le (by simp; omega) | skip)) (by simp))
  · replace hs := condF h1 hs
    repeat (first | simp [-awp_cond_eq, -awp_block_eq] | with_reducible first | refine awp_reg ?_ | refine And.intro (by omega) ?_ | refine optF_if (by omega) ?_ | refine gsel_pure (by with_unfolding_all rfl) _ (fun hg => by (try simp at hg); first | (simp [hg]; rfl) | (simp; simp only [if_pos hg]; simp; rfl)) ?_)
    obtain ⟨o36, e35, hs⟩ := bindO hs
    try dsimp only at hs
    refine awp_cutK (fun (v : Unit) (σ : St) => some (.inl v) = some o36 ∧ σ.env 3 = .cell (.ref (.o 1 2 0) 0) ∧ σ.env 4 = .cell (.ref (.o 2 1 0) 0) ∧ σ.hp (.o 1 2 0) = some (.cells [.p (.c (.int .i64 0)), .p (.c (.int .i64 0))]) ∧ σ.hp (.o 2 1 0) = some (.cells [.p (.c (.int .i64 (-1))), .p (.c (.int .i64 (-1)))]) ∧ 4 ≤ σ.gen) (by rfl) (fun Q hK37 hX38 => ?_) (fun v σ3 hp => ?_)
    · repeat (first | simp | with_reducible first | refine awp_reg ?_ | refine And.intro (by omega) ?_ | refine optF_if (by omega) ?_ | refine gsel_pure (by with_unfolding_all rfl) _ (fun hg => by (try simp at hg); first | (simp [hg]; rfl) | (simp; simp only [if_pos hg]; simp; rfl)) ?_)
      obtain ⟨o56, e55, e35⟩ := bindO e35
      try dsimp only at e35
      refine awp_loopW (fun (v : (List Var) × Nat) (σ : St) => program_checkObjects_L1 v.1 v.2 = some o56 ∧ v.1 = a0.Vars.drop v.2 ∧ σ.env 3 = .cell (.ref (.o 1 2 0) 0) ∧ σ.env 4 = .cell (.ref (.o 2 1 0) 0) ∧ σ.env 32 = .cell (.p (.sl a0.Vars.length (encL a0.Vars))) ∧ σ.env 33 = iV .i64 ((a0.Vars.length : Nat) : Int) ∧ σ.env 34 = iV .i64 ((v.2 : Nat) : Int) ∧ σ.hp (.o 1 2 0) = some (.cells [.p (.c (.int .i64 0)), .p (.c (.int .i64 0))]) ∧ σ.hp (.o 2 1 0) = some (.cells [.p (.c (.int .i64 (-1))), .p (.c (.int .i64 (-1)))]) ∧ 4 ≤ σ.gen) (fun v => v.1.length) _ (Gh.refl _) (a0.Vars, 0) ⟨e55, by simp, by simp [St.frz, St.pur], by simp [St.frz, St.pur], by simp [St.frz, St.pur], by simp [St.frz, St.pur], by simp [St.frz, St.pur], by simp [St.frz, St.pur], by simp [St.frz, St.pur], by first | (simp; done) | (simp; omega) | omega⟩ fun v σ6 hp L57 hL58 => ?_
      obtain ⟨q60, k47⟩ := v
      dsimp only at hp hL58
      obtain ⟨e55, hd59, h5_3, h5_4, h5_32, h5_33, h5_34, g5_0, g5_1, n5_g⟩ := hp
      have n5_0 : ¬ (σ6.gen = 0) := by omega
      have n5_1 : ¬ (σ6.gen = 1) := by omega
      rcases q60 with _ | ⟨x65, q61⟩
      · have hlt62 := drop_end hd59
        rw [program_checkObjects_L1] at e55; try dsimp only at e55
        repeat (first | simp [h5_3, h5_4, h5_32, h5_33, h5_34, g5_0, g5_1, n5_0, n5_1] | with_reducible refine awp_reg ?_)
        refine condK_f (by simp [ltI]; omega) ?_
        obtain rfl := Option.some.inj e55
        try dsimp only at e35
        refine hK37 () _ _ (Gh.refl _) ⟨e35, ?_, ?_, ?_, ?_, by first | (simp; done) | (simp; omega) | omega⟩ <;> simp [St.frz, St.pur, h5_3, h5_4, h5_32, h5_33, h5_34, g5_0, g5_1, n5_0, n5_1]
      · obtain ⟨hx64, hlt62, hd66⟩ := drop_next hd59
        have ew63 := wrap_succ hlt62 (hb1).len
        rw [program_checkObjects_L1] at e55; try dsimp only at e55
        repeat (first | simp [h5_3, h5_4, h5_32, h5_33, h5_34, g5_0, g5_1, n5_0, n5_1, hlt62, ew63] | with_reducible refine awp_reg ?_)
        refine condK_t (by simp [ltI]; omega) ?_
        have f67 : partCV Tryd.prog 105 (encL a0.Vars) (k47 * 2) = some (.agg [.p (.c (.string x65.Name)), .p (.c (.int .i64 x65.Init))]) := partCV_enc hx64 (f := 0) (by simp)
        repeat (first | simp [h5_3, h5_4, h5_32, h5_33, h5_34, g5_0, g5_1, n5_0, n5_1, hlt62, ew63, f67] | with_reducible first | refine awp_reg ?_ | refine And.intro (by omega) ?_ | refine optF_if (by omega) ?_)
        obtain ⟨y68, hx69, e55⟩ := bindO e55
        try dsimp only at e55
        refine callK_pure (at_program_value hx69) (by (first | simp [h5_3, h5_4, h5_32, h5_33, h5_34, g5_0, g5_1, n5_0, n5_1, hlt62, ew63, f67] | simp (disch := omega) [h5_3, h5_4, h5_32, h5_33, h5_34, g5_0, g5_1, n5_0, n5_1, hlt62, ew63, f67]); try rfl) (by simp) (by simp) ?_
        repeat (first | simp [h5_3, h5_4, h5_32, h5_33, h5_34, g5_0, g5_1, n5_0, n5_1, hlt62, ew63, f67] | with_reducible first | refine awp_reg ?_ | refine And.intro (by omega) ?_ | refine optF_if (by omega) ?_)
        refine condK_spec (!y68) (by first | rfl | (simp [h5_3, h5_4, h5_32, h5_33, h5_34, g5_0, g5_1, n5_0, n5_1, hlt62, ew63, f67]; done) | (simp [andB, orB, eqI, ltI, Int.natCast_inj, h5_3, h5_4, h5_32, h5_33, h5_34, g5_0, g5_1, n5_0, n5_1, hlt62, ew63, f67]; done)) (fun h70 => ?_) (fun h70 => ?_)
        · replace e55 := condT h70 e55
          repeat (first | simp [h5_3, h5_4, h5_32, h5_33, h5_34, g5_0, g5_1, n5_0, n5_1, hlt62, ew63, f67] | with_reducible first | refine awp_reg ?_ | refine awp_draw ?_ | refine ord_l (by kernel_rfl) ?_ | refine ord_e (by kernel_rfl) ?_ | refine ord_c (by kernel_rfl) ?_ | refine ord_d (by kernel_rfl) ?_ | refine And.intro (by omega) ?_ | refine optF_if (by omega) ?_)
          obtain rfl := Option.some.inj e55
          try dsimp only at e35
          obtain rfl := Option.some.inj e35
          try dsimp only at hs
          refine hX38 _ _ (by simp) ?_
          repeat (first | simp [h5_3, h5_4, h5_32, h5_33, h5_34, g5_0, g5_1, n5_0, n5_1, hlt62, ew63, f67] | with_reducible first | refine awp_reg ?_ | refine awp_draw ?_ | refine ord_l (by kernel_rfl) ?_ | refine ord_e (by kernel_rfl) ?_ | refine ord_c (by kernel_rfl) ?_ | refine ord_d (by kernel_rfl) ?_ | refine And.intro (by omega) ?_ | refine optF_if (by omega) ?_)
          obtain rfl := Option.some.inj hs
          refine hQ _ _ (ret2g _ (Gh.refl _) (by simp [St.frz, St.pur, h5_3, h5_4, h5_32, h5_33, h5_34, g5_0, g5_1, n5_0, n5_1, hlt62, ew63, f67]; rfl) (by first | rfl | (simp [St.frz, St.pur, h5_3, h5_4, h5_32, h5_33, h5_34, g5_0, g5_1, n5_0, n5_1, hlt62, ew63, f67]; done) | (rw [if_pos (by first | omega | (simp; omega))]; simp [St.frz, St.pur, h5_3, h5_4, h5_32, h5_33, h5_34, g5_0, g5_1, n5_0, n5_1, hlt62, ew63, f67]; first | omega | exact List.take_of_length_le (by simp; omega) | skip)) (by simp))
        · replace e55 := condF h70 e55
          repeat (first | simp [h5_3, h5_4, h5_32, h5_33, h5_34, g5_0, g5_1, n5_0, n5_1, hlt62, ew63, f67] | with_reducible first | refine awp_reg ?_ | refine And.intro (by omega) ?_ | refine optF_if (by omega) ?_)
          refine hL58 (q61, (k47 + 1)) _ _ (Gh.refl _) ⟨e55, hd66, ?_, ?_, ?_, ?_, ?_, ?_, ?_, by first | (simp; done) | (simp; omega) | omega⟩ (by simp) <;> simp [St.frz, St.pur, h5_3, h5_4, h5_32, h5_33, h5_34, g5_0, g5_1, n5_0, n5_1, hlt62, ew63, f67]
    · obtain ⟨e35, h4_3, h4_4, g4_0, g4_1, n4_g⟩ := hp
      obtain rfl := Option.some.inj e35
      try dsimp only at hs
      have n4_0 : ¬ (σ3.gen = 0) := by omega
      have n4_1 : ¬ (σ3.gen = 1) := by omega
      repeat (first | simp [h4_3, h4_4, g4_0, g4_1, n4_0, n4_1] | with_reducible first | refine awp_reg ?_ | refine awp_draw ?_ | refine ord_l (by kernel_rfl) ?_ | refine ord_e (by kernel_rfl) ?_ | refine ord_c (by kernel_rfl) ?_ | refine ord_d (by kernel_rfl) ?_ | refine And.intro (by omega) ?_ | refine optF_if (by omega) ?_ | refine gsel_pure (by with_unfolding_all rfl) _ (fun hg => by (try simp at hg); first | (simp [hg, h4_3, h4_4, g4_0, g4_1, n4_0, n4_1]; rfl) | (simp [h4_3, h4_4, g4_0, g4_1, n4_0, n4_1]; simp only [if_pos hg]; simp [h4_3, h4_4, g4_0, g4_1, n4_0, n4_1]; rfl)) ?_ | refine dskip_intro ?_ | refine dsel_pure (by with_unfolding_all rfl) _ (fun hg => by (try simp at hg); simp [hg, h4_3, h4_4, g4_0, g4_1, n4_0, n4_1]; rfl) ?_)
      obtain rfl := Option.some.inj hs
      refine hQ _ _ (ret2g _ (Gh.refl _) (by simp [St.frz, St.pur, h4_3, h4_4, g4_0, g4_1, n4_0, n4_1]; rfl) (by first | rfl | (simp [St.frz, St.pur, h4_3, h4_4, g4_0, g4_1, n4_0, n4_1]; done) | (rw [if_pos (by first | omega | (simp; omega))]; simp [St.frz, St.pur, h4_3, h4_4, g4_0, g4_1, n4_0, n4_1]; first | omega | exact List.take_of_length_le (by simp; omega) | skip)) (by simp))
end Go.Dc
end
section
set_option linter.all false
namespace Go.Dc
open Go Go.Hw Go.Proofs
set_option maxRecDepth 100000

def program_checkCode_1 (a0 : Func) : Option Bool :=
  some (ltI 64 ((a0.Code.length : Nat) : Int))

set_option maxHeartbeats 2000000 in
theorem at_program_checkCode_1 {a0 : Func} {r : Bool} (hs : program_checkCode_1 a0 = some r) : At Tryd.prog 115 [.agg [.p (.c (.string a0.Name)), .p (.sl a0.Code.length (encL a0.Code))]] (bV r) := by
  refine at_bound (by kernel_rfl) fun hb => ?_
  have hb1 : LenOk (.sl a0.Code.length (encL a0.Code)) := hb (.agg [.p (.c (.string a0.Name)), .p (.sl a0.Code.length (encL a0.Code))]) (by simp) (.p (.sl a0.Code.length (encL a0.Code))) (by simp)
  refine at_code mixed Tryd.func115 (by kernel_rfl) rfl (by kernel_rfl) rfl fun Q hQ => ?_
  rw [program_checkCode_1] at hs
  repeat (first | simp | with_reducible first | refine awp_reg ?_ | refine And.intro (by omega) ?_ | refine optF_if (by omega) ?_)
  obtain rfl := Option.some.inj hs
  refine hQ _ _ (ret2g _ (Gh.refl _) (by simp [St.frz, St.pur]; rfl) (by first | rfl | (simp [St.frz, St.pur]; done) | (rw [if_pos (by first | omega | (simp; omega))]; simp [St.frz, St.pur]; first | omega | exact List.take_of_length_le (by simp; omega) | skip)) (by simp))
end Go.Dc
end
section
set_option linter.all false
namespace Go.Dc
open Go Go.Hw Go.Proofs
set_option maxRecDepth 100000
def slices_IndexFunc_api_Func_program_checkCode_1_L1 : List Func → Nat → Option (Unit ⊕ Int)
  | [], k46 => some (.inl ())
  | x64 :: q60, k46 => Option.bind (program_checkCode_1 x64) (fun y67 => cond y67 (some (.inr ((k46 : Nat) : Int))) (slices_IndexFunc_api_Func_program_checkCode_1_L1 q60 (k46 + 1)))

def slices_IndexFunc_api_Func_program_checkCode_1 (a0 : List Func) : Option Int :=
  Option.bind (α := Unit ⊕ Int) (Option.bind (slices_IndexFunc_api_Func_program_checkCode_1_L1 a0 0) (fun o => match o with | .inl _ => some (.inl ()) | .inr r70 => some (.inr r70))) (fun o => match o with | .inl _ => some (-1) | .inr r71 => some r71)

set_option maxHeartbeats 2000000 in
theorem at_slices_IndexFunc_api_Func_program_checkCode_1 {a0 : List Func} {r : Int} (hs : slices_IndexFunc_api_Func_program_checkCode_1 a0 = some r) : At Tryd.prog 114 [.cell (.p (.sl a0.length (encL a0))), .cell (.p (.c (.func (.func 115) #[] #[])))] (iV .i64 r) := by
  refine at_bound (by kernel_rfl) fun hb => ?_
  have hb1 : LenOk (.sl a0.length (encL a0)) := hb (.cell (.p (.sl a0.length (encL a0)))) (by simp)
  refine at_code mixed Tryd.func114 (by kernel_rfl) rfl (by kernel_rfl) rfl fun Q hQ => ?_
  rw [slices_IndexFunc_api_Func_program_checkCode_1] at hs
  repeat (first | simp [-awp_cond_eq, -awp_block_eq] | with_reducible first | refine awp_reg ?_ | refine And.intro (by omega) ?_ | refine optF_if (by omega) ?_)
  obtain ⟨o35, e34, hs⟩ := bindO hs
  try dsimp only at hs
  refine awp_cutK (fun (v : Unit) (σ : St) => some (.inl v) = some o35 ∧ 2 ≤ σ.gen) (by rfl) (fun Q hK36 hX37 => ?_) (fun v σ3 hp => ?_)
  · repeat (first | simp | with_reducible first | refine awp_reg ?_ | refine And.intro (by omega) ?_ | refine optF_if (by omega) ?_)
    obtain ⟨o55, e54, e34⟩ := bindO e34
    try dsimp only at e34
    refine awp_loopW (fun (v : (List Func) × Nat) (σ : St) => slices_IndexFunc_api_Func_program_checkCode_1_L1 v.1 v.2 = some o55 ∧ v.1 = a0.drop v.2 ∧ σ.env 0 = .cell (.p (.sl a0.length (encL a0))) ∧ σ.env 1 = .cell (.p (.c (.func (.func 115) #[] #[]))) ∧ σ.env 7 = iV .i64 ((a0.length : Nat) : Int) ∧ σ.env 8 = iV .i64 ((v.2 : Nat) : Int) ∧ 2 ≤ σ.gen) (fun v => v.1.length) _ (Gh.refl _) (a0, 0) ⟨e54, by simp, by simp [St.frz, St.pur], by simp [St.frz, St.pur], by simp [St.frz, St.pur], by simp [St.frz, St.pur], by first | (simp; done) | (simp; omega) | omega⟩ fun v σ6 hp L56 hL57 => ?_
    obtain ⟨q59, k46⟩ := v
    dsimp only at hp hL57
    obtain ⟨e54, hd58, h5_0, h5_1, h5_7, h5_8, n5_g⟩ := hp
    rcases q59 with _ | ⟨x64, q60⟩
    · have hlt61 := drop_end hd58
      rw [slices_IndexFunc_api_Func_program_checkCode_1_L1] at e54; try dsimp only at e54
      repeat (first | simp [h5_0, h5_1, h5_7, h5_8] | with_reducible refine awp_reg ?_)
      refine condK_f (by simp [ltI]; omega) ?_
      obtain rfl := Option.some.inj e54
      try dsimp only at e34
      exact hK36 () _ _ (Gh.refl _) ⟨e34, by first | (simp; done) | (simp; omega) | omega⟩
    · obtain ⟨hx63, hlt61, hd65⟩ := drop_next hd58
      have ew62 := wrap_succ hlt61 (hb1).len
      rw [slices_IndexFunc_api_Func_program_checkCode_1_L1] at e54; try dsimp only at e54
      repeat (first | simp [h5_0, h5_1, h5_7, h5_8, hlt61, ew62] | with_reducible refine awp_reg ?_)
      refine condK_t (by simp [ltI]; omega) ?_
      have f66 : partCV Tryd.prog 24 (encL a0) (k46 * 2) = some (.agg [.p (.c (.string x64.Name)), .p (.sl x64.Code.length (encL x64.Code))]) := partCV_enc hx63 (f := 0) (by simp)
      repeat (first | simp [h5_0, h5_1, h5_7, h5_8, hlt61, ew62, f66] | with_reducible first | refine awp_reg ?_ | refine And.intro (by omega) ?_ | refine optF_if (by omega) ?_)
      obtain ⟨y67, hx68, e54⟩ := bindO e54
      try dsimp only at e54
      refine callK_pure (at_program_checkCode_1 hx68) (by (first | simp [h5_0, h5_1, h5_7, h5_8, hlt61, ew62, f66] | simp (disch := omega) [h5_0, h5_1, h5_7, h5_8, hlt61, ew62, f66]); try rfl) (by simp) (by simp) ?_
      repeat (first | simp [h5_0, h5_1, h5_7, h5_8, hlt61, ew62, f66] | with_reducible first | refine awp_reg ?_ | refine And.intro (by omega) ?_ | refine optF_if (by omega) ?_)
      refine condK_spec y67 (by first | rfl | (simp [h5_0, h5_1, h5_7, h5_8, hlt61, ew62, f66]; done) | (simp [andB, orB, eqI, ltI, Int.natCast_inj, h5_0, h5_1, h5_7, h5_8, hlt61, ew62, f66]; done)) (fun h69 => ?_) (fun h69 => ?_)
      · replace e54 := condT h69 e54
        repeat (first | simp [h5_0, h5_1, h5_7, h5_8, hlt61, ew62, f66] | with_reducible first | refine awp_reg ?_ | refine And.intro (by omega) ?_ | refine optF_if (by omega) ?_)
        obtain rfl := Option.some.inj e54
        try dsimp only at e34
        obtain rfl := Option.some.inj e34
        try dsimp only at hs
        refine hX37 _ _ (by simp) ?_
        repeat (first | simp [h5_0, h5_1, h5_7, h5_8, hlt61, ew62, f66] | with_reducible first | refine awp_reg ?_ | refine And.intro (by omega) ?_ | refine optF_if (by omega) ?_)
        obtain rfl := Option.some.inj hs
        refine hQ _ _ (ret2g _ (Gh.refl _) (by simp [St.frz, St.pur, h5_0, h5_1, h5_7, h5_8, hlt61, ew62, f66]; rfl) (by first | rfl | (simp [St.frz, St.pur, h5_0, h5_1, h5_7, h5_8, hlt61, ew62, f66]; done) | (rw [if_pos (by first | omega | (simp; omega))]; simp [St.frz, St.pur, h5_0, h5_1, h5_7, h5_8, hlt61, ew62, f66]; first | omega | exact List.take_of_length_le (by simp; omega) | skip)) (by simp))
      · replace e54 := condF h69 e54
        repeat (first | simp [h5_0, h5_1, h5_7, h5_8, hlt61, ew62, f66] | with_reducible first | refine awp_reg ?_ | refine And.intro (by omega) ?_ | refine optF_if (by omega) ?_)
        refine hL57 (q60, (k46 + 1)) _ _ (Gh.refl _) ⟨e54, hd65, ?_, ?_, ?_, ?_, by first | (simp; done) | (simp; omega) | omega⟩ (by simp) <;> simp [St.frz, St.pur, h5_0, h5_1, h5_7, h5_8, hlt61, ew62, f66]
  · obtain ⟨e34, n4_g⟩ := hp
    obtain rfl := Option.some.inj e34
    try dsimp only at hs
    repeat (first | simp | with_reducible first | refine awp_reg ?_ | refine And.intro (by omega) ?_ | refine optF_if (by omega) ?_)
    obtain rfl := Option.some.inj hs
    refine hQ _ _ (ret2g _ (Gh.refl _) (by simp [St.frz, St.pur]; rfl) (by first | rfl | (simp [St.frz, St.pur]; done) | (rw [if_pos (by first | omega | (simp; omega))]; simp [St.frz, St.pur]; first | omega | exact List.take_of_length_le (by simp; omega) | skip)) (by simp))
end Go.Dc
end
section
set_option linter.all false
namespace Go.Dc
open Go Go.Hw Go.Proofs
set_option maxRecDepth 100000

def program_instructions (a0 : Program) : Option Program :=
  some a0

set_option maxHeartbeats 2000000 in
theorem at_program_instructions {a0 : Program} {r : Program} (hs : program_instructions a0 = some r) : At Tryd.prog 116 [.agg [.p (.sl a0.Vars.length (encL a0.Vars)), .p (.sl a0.Mutexes.length (encL a0.Mutexes)), .p (.sl a0.Conds.length (encL a0.Conds)), .p (.sl a0.Funcs.length (encL a0.Funcs)), .p (.sl a0.Threads.length (encL a0.Threads))]] (.cell (.fn 123 [.inr (.bx [.sl r.Vars.length (encL r.Vars), .sl r.Mutexes.length (encL r.Mutexes), .sl r.Conds.length (encL r.Conds), .sl r.Funcs.length (encL r.Funcs), .sl r.Threads.length (encL r.Threads)])])) := by
  refine at_bound (by kernel_rfl) fun hb => ?_
  have hb1 : LenOk (.sl a0.Vars.length (encL a0.Vars)) := hb (.agg [.p (.sl a0.Vars.length (encL a0.Vars)), .p (.sl a0.Mutexes.length (encL a0.Mutexes)), .p (.sl a0.Conds.length (encL a0.Conds)), .p (.sl a0.Funcs.length (encL a0.Funcs)), .p (.sl a0.Threads.length (encL a0.Threads))]) (by simp) (.p (.sl a0.Vars.length (encL a0.Vars))) (by simp)
  have hb2 : LenOk (.sl a0.Mutexes.length (encL a0.Mutexes)) := hb (.agg [.p (.sl a0.Vars.length (encL a0.Vars)), .p (.sl a0.Mutexes.length (encL a0.Mutexes)), .p (.sl a0.Conds.length (encL a0.Conds)), .p (.sl a0.Funcs.length (encL a0.Funcs)), .p (.sl a0.Threads.length (encL a0.Threads))]) (by simp) (.p (.sl a0.Mutexes.length (encL a0.Mutexes))) (by simp)
  have hb3 : LenOk (.sl a0.Conds.length (encL a0.Conds)) := hb (.agg [.p (.sl a0.Vars.length (encL a0.Vars)), .p (.sl a0.Mutexes.length (encL a0.Mutexes)), .p (.sl a0.Conds.length (encL a0.Conds)), .p (.sl a0.Funcs.length (encL a0.Funcs)), .p (.sl a0.Threads.length (encL a0.Threads))]) (by simp) (.p (.sl a0.Conds.length (encL a0.Conds))) (by simp)
  have hb4 : LenOk (.sl a0.Funcs.length (encL a0.Funcs)) := hb (.agg [.p (.sl a0.Vars.length (encL a0.Vars)), .p (.sl a0.Mutexes.length (encL a0.Mutexes)), .p (.sl a0.Conds.length (encL a0.Conds)), .p (.sl a0.Funcs.length (encL a0.Funcs)), .p (.sl a0.Threads.length (encL a0.Threads))]) (by simp) (.p (.sl a0.Funcs.length (encL a0.Funcs))) (by simp)
  have hb5 : LenOk (.sl a0.Threads.length (encL a0.Threads)) := hb (.agg [.p (.sl a0.Vars.length (encL a0.Vars)), .p (.sl a0.Mutexes.length (encL a0.Mutexes)), .p (.sl a0.Conds.length (encL a0.Conds)), .p (.sl a0.Funcs.length (encL a0.Funcs)), .p (.sl a0.Threads.length (encL a0.Threads))]) (by simp) (.p (.sl a0.Threads.length (encL a0.Threads))) (by simp)
  refine at_code mixed Tryd.func116 (by kernel_rfl) rfl (by kernel_rfl) rfl fun Q hQ => ?_
  rw [program_instructions] at hs
  repeat (first | simp | with_reducible refine awp_reg ?_)
  obtain rfl := Option.some.inj hs
  refine hQ _ _ (ret2g _ (Gh.frz _ (.o 1 0 0)) (by simp [St.frz, St.pur]; rfl) (by first | rfl | (simp [St.frz, St.pur]; done) | (rw [if_pos (by first | omega | (simp; omega))]; simp [St.frz, St.pur]; first | omega | exact List.take_of_length_le (by simp; omega) | skip)) (by simp))
end Go.Dc
end
section
set_option linter.all false
namespace Go.Dc
open Go Go.Hw Go.Proofs
set_option maxRecDepth 100000

def program_objects (a0 : Program) (a1 : Int) : Option Int :=
  Option.bind (α := Unit ⊕ Int) (Option.bind (α := Bool) (cond (eqI a1 8) (some (eqI a1 8)) (cond (eqI a1 9) (some (eqI a1 9)) (cond (eqI a1 10) (some (eqI a1 10)) (cond (eqI a1 11) (some (eqI a1 11)) (cond (eqI a1 12) (some (eqI a1 12)) (some (eqI a1 14))))))) (fun b40 => cond b40 (some (.inr ((a0.Vars.length : Nat) : Int))) (Option.bind (α := Bool) (cond (eqI a1 15) (some (eqI a1 15)) (cond (eqI a1 16) (some (eqI a1 16)) (some (eqI a1 17)))) (fun b53 => cond b53 (some (.inr ((a0.Mutexes.length : Nat) : Int))) (cond (eqI a1 18) (some (.inr ((a0.Conds.length : Nat) : Int))) (cond (eqI a1 19) (some (.inr ((a0.Conds.length : Nat) : Int))) (cond (eqI a1 20) (some (.inr ((a0.Conds.length : Nat) : Int))) (cond (eqI a1 21) (some (.inr ((a0.Funcs.length : Nat) : Int))) (some (.inl ())))))))))) (fun o => match o with | .inl _ => some (-1) | .inr r65 => some r65)

set_option maxHeartbeats 2000000 in
theorem at_program_objects {a0 : Program} {a1 : Int} {r : Int} (hs : program_objects a0 a1 = some r) : At Tryd.prog 124 [.agg [.p (.sl a0.Vars.length (encL a0.Vars)), .p (.sl a0.Mutexes.length (encL a0.Mutexes)), .p (.sl a0.Conds.length (encL a0.Conds)), .p (.sl a0.Funcs.length (encL a0.Funcs)), .p (.sl a0.Threads.length (encL a0.Threads))], iV .i64 a1] (iV .i64 r) := by
  refine at_bound (by kernel_rfl) fun hb => ?_
  have hb1 : LenOk (.sl a0.Vars.length (encL a0.Vars)) := hb (.agg [.p (.sl a0.Vars.length (encL a0.Vars)), .p (.sl a0.Mutexes.length (encL a0.Mutexes)), .p (.sl a0.Conds.length (encL a0.Conds)), .p (.sl a0.Funcs.length (encL a0.Funcs)), .p (.sl a0.Threads.length (encL a0.Threads))]) (by simp) (.p (.sl a0.Vars.length (encL a0.Vars))) (by simp)
  have hb2 : LenOk (.sl a0.Mutexes.length (encL a0.Mutexes)) := hb (.agg [.p (.sl a0.Vars.length (encL a0.Vars)), .p (.sl a0.Mutexes.length (encL a0.Mutexes)), .p (.sl a0.Conds.length (encL a0.Conds)), .p (.sl a0.Funcs.length (encL a0.Funcs)), .p (.sl a0.Threads.length (encL a0.Threads))]) (by simp) (.p (.sl a0.Mutexes.length (encL a0.Mutexes))) (by simp)
  have hb3 : LenOk (.sl a0.Conds.length (encL a0.Conds)) := hb (.agg [.p (.sl a0.Vars.length (encL a0.Vars)), .p (.sl a0.Mutexes.length (encL a0.Mutexes)), .p (.sl a0.Conds.length (encL a0.Conds)), .p (.sl a0.Funcs.length (encL a0.Funcs)), .p (.sl a0.Threads.length (encL a0.Threads))]) (by simp) (.p (.sl a0.Conds.length (encL a0.Conds))) (by simp)
  have hb4 : LenOk (.sl a0.Funcs.length (encL a0.Funcs)) := hb (.agg [.p (.sl a0.Vars.length (encL a0.Vars)), .p (.sl a0.Mutexes.length (encL a0.Mutexes)), .p (.sl a0.Conds.length (encL a0.Conds)), .p (.sl a0.Funcs.length (encL a0.Funcs)), .p (.sl a0.Threads.length (encL a0.Threads))]) (by simp) (.p (.sl a0.Funcs.length (encL a0.Funcs))) (by simp)
  have hb5 : LenOk (.sl a0.Threads.length (encL a0.Threads)) := hb (.agg [.p (.sl a0.Vars.length (encL a0.Vars)), .p (.sl a0.Mutexes.length (encL a0.Mutexes)), .p (.sl a0.Conds.length (encL a0.Conds)), .p (.sl a0.Funcs.length (encL a0.Funcs)), .p (.sl a0.Threads.length (encL a0.Threads))]) (by simp) (.p (.sl a0.Threads.length (encL a0.Threads))) (by simp)
  refine at_code mixed Tryd.func124 (by kernel_rfl) rfl (by kernel_rfl) rfl fun Q hQ => ?_
  rw [program_objects] at hs
  repeat (first | simp [-awp_cond_eq, -awp_block_eq] | with_reducible refine awp_reg ?_)
  obtain ⟨o32, e31, hs⟩ := bindO hs
  try dsimp only at hs
  refine awp_cutK (fun (v : Unit) (σ : St) => some (.inl v) = some o32 ∧ 2 ≤ σ.gen) (by rfl) (fun Q hK33 hX34 => ?_) (fun v σ5 hp => ?_)
  · repeat (first | simp [-awp_cond_eq, -awp_block_eq] | with_reducible refine awp_reg ?_)
    refine awp_block ?_
    repeat (first | simp [-awp_cond_eq, -awp_block_eq] | with_reducible refine awp_reg ?_)
    obtain ⟨o42, e41, e31⟩ := bindO e31
    try dsimp only at e31
    refine awp_cut0 (fun (v : Bool) (σ : St) => some (v) = some o42 ∧ σ.env 2 = .cell (.ref (.o 1 0 0) 0) ∧ σ.env 5 = iV .i64 a1 ∧ σ.env 6 = bV v ∧ σ.hp (.o 1 0 0) = some (.cells [.p (.sl a0.Vars.length (encL a0.Vars)), .p (.sl a0.Mutexes.length (encL a0.Mutexes)), .p (.sl a0.Conds.length (encL a0.Conds)), .p (.sl a0.Funcs.length (encL a0.Funcs)), .p (.sl a0.Threads.length (encL a0.Threads))]) ∧ 3 ≤ σ.gen) (fun Q hK43 hX44 => ?_) (fun b40 σ7 hp => ?_)
    · repeat (first | simp | with_reducible refine awp_reg ?_)
      refine condK_spec (eqI a1 8) (by first | rfl | (simp; done) | (simp [andB, orB, eqI, ltI, Int.natCast_inj]; done)) (fun h45 => ?_) (fun h45 => ?_)
      · replace e41 := condT h45 e41
        repeat (first | simp | with_reducible refine awp_reg ?_)
        exact hK43 (eqI a1 8) _ ⟨e41, by simp [St.frz, St.pur], by simp [St.frz, St.pur], by simp [St.frz, St.pur], by simp [St.frz, St.pur], by first | (simp; done) | (simp; omega) | omega⟩
      · replace e41 := condF h45 e41
        repeat (first | simp | with_reducible refine awp_reg ?_)
        refine condK_spec (eqI a1 9) (by first | rfl | (simp; done) | (simp [andB, orB, eqI, ltI, Int.natCast_inj]; done)) (fun h46 => ?_) (fun h46 => ?_)
        · replace e41 := condT h46 e41
          repeat (first | simp | with_reducible refine awp_reg ?_)
          exact hK43 (eqI a1 9) _ ⟨e41, by simp [St.frz, St.pur], by simp [St.frz, St.pur], by simp [St.frz, St.pur], by simp [St.frz, St.pur], by first | (simp; done) | (simp; omega) | omega⟩
        · replace e41 := condF h46 e41
          repeat (first | simp | with_reducible refine awp_reg ?_)
          refine condK_spec (eqI a1 10) (by first | rfl | (simp; done) | (simp [andB, orB, eqI, ltI, Int.natCast_inj]; done)) (fun h47 => ?_) (fun h47 => ?_)
          · replace e41 := condT h47 e41
            repeat (first | simp | with_reducible refine awp_reg ?_)
            exact hK43 (eqI a1 10) _ ⟨e41, by simp [St.frz, St.pur], by simp [St.frz, St.pur], by simp [St.frz, St.pur], by simp [St.frz, St.pur], by first | (simp; done) | (simp; omega) | omega⟩
          · replace e41 := condF h47 e41
            repeat (first | simp | with_reducible refine awp_reg ?_)
            refine condK_spec (eqI a1 11) (by first | rfl | (simp; done) | (simp [andB, orB, eqI, ltI, Int.natCast_inj]; done)) (fun h48 => ?_) (fun h48 => ?_)
            · replace e41 := condT h48 e41
              repeat (first | simp | with_reducible refine awp_reg ?_)
              exact hK43 (eqI a1 11) _ ⟨e41, by simp [St.frz, St.pur], by simp [St.frz, St.pur], by simp [St.frz, St.pur], by simp [St.frz, St.pur], by first | (simp; done) | (simp; omega) | omega⟩
            · replace e41 := condF h48 e41
              repeat (first | simp | with_reducible refine awp_reg ?_)
              refine condK_spec (eqI a1 12) (by first | rfl | (simp; done) | (simp [andB, orB, eqI, ltI, Int.natCast_inj]; done)) (fun h49 => ?_) (fun h49 => ?_)
              · replace e41 := condT h49 e41
                repeat (first | simp | with_reducible refine awp_reg ?_)
                exact hK43 (eqI a1 12) _ ⟨e41, by simp [St.frz, St.pur], by simp [St.frz, St.pur], by simp [St.frz, St.pur], by simp [St.frz, St.pur], by first | (simp; done) | (simp; omega) | omega⟩
              · replace e41 := condF h49 e41
                repeat (first | simp | with_reducible refine awp_reg ?_)
                exact hK43 (eqI a1 14) _ ⟨e41, by simp [St.frz, St.pur], by simp [St.frz, St.pur], by simp [St.frz, St.pur], by simp [St.frz, St.pur], by first | (simp; done) | (simp; omega) | omega⟩
    · obtain ⟨e41, h8_2, h8_5, h8_6, g8_0, n8_g⟩ := hp
      obtain rfl := Option.some.inj e41
      try dsimp only at e31
      have n8_0 : ¬ (σ7.gen = 0) := by omega
      repeat (first | simp [h8_2, h8_5, h8_6, g8_0, n8_0] | with_reducible refine awp_reg ?_)
      refine condK_spec b40 (by first | rfl | (simp [h8_2, h8_5, h8_6, g8_0, n8_0]; done) | (simp [andB, orB, eqI, ltI, Int.natCast_inj, h8_2, h8_5, h8_6, g8_0, n8_0]; done)) (fun h50 => ?_) (fun h50 => ?_)
      · replace e31 := condT h50 e31
        repeat (first | simp [h8_2, h8_5, h8_6, g8_0, n8_0] | with_reducible first | refine awp_reg ?_ | refine And.intro (by omega) ?_ | refine optF_if (by omega) ?_)
        obtain rfl := Option.some.inj e31
        try dsimp only at hs
        refine hX34 _ _ (by simp) ?_
        repeat (first | simp [h8_2, h8_5, h8_6, g8_0, n8_0] | with_reducible first | refine awp_reg ?_ | refine And.intro (by omega) ?_ | refine optF_if (by omega) ?_)
        obtain rfl := Option.some.inj hs
        refine hQ _ _ (ret2g _ (Gh.refl _) (by simp [St.frz, St.pur, h8_2, h8_5, h8_6, g8_0, n8_0]; rfl) (by first | rfl | (simp [St.frz, St.pur, h8_2, h8_5, h8_6, g8_0, n8_0]; done) | (rw [if_pos (by first | omega | (simp; omega))]; simp [St.frz, St.pur, h8_2, h8_5, h8_6, g8_0, n8_0]; first | omega | exact List.take_of_length_le (by simp; omega) | skip)) (by simp))
      · replace e31 := condF h50 e31
        repeat (first | simp [-awp_cond_eq, -awp_block_eq, h8_2, h8_5, h8_6, g8_0, n8_0] | with_reducible refine awp_reg ?_)
        obtain ⟨o55, e54, e31⟩ := bindO e31
        try dsimp only at e31
        refine awp_cut0 (fun (v : Bool) (σ : St) => some (v) = some o55 ∧ σ.env 2 = .cell (.ref (.o 1 0 0) 0) ∧ σ.env 5 = iV .i64 a1 ∧ σ.env 16 = bV v ∧ σ.hp (.o 1 0 0) = some (.cells [.p (.sl a0.Vars.length (encL a0.Vars)), .p (.sl a0.Mutexes.length (encL a0.Mutexes)), .p (.sl a0.Conds.length (encL a0.Conds)), .p (.sl a0.Funcs.length (encL a0.Funcs)), .p (.sl a0.Threads.length (encL a0.Threads))]) ∧ (σ7.gen + 1) ≤ σ.gen) (fun Q hK56 hX57 => ?_) (fun b53 σ9 hp => ?_)
        · repeat (first | simp [h8_2, h8_5, h8_6, g8_0, n8_0] | with_reducible refine awp_reg ?_)
          refine condK_spec (eqI a1 15) (by first | rfl | (simp [h8_2, h8_5, h8_6, g8_0, n8_0]; done) | (simp [andB, orB, eqI, ltI, Int.natCast_inj, h8_2, h8_5, h8_6, g8_0, n8_0]; done)) (fun h58 => ?_) (fun h58 => ?_)
          · replace e54 := condT h58 e54
            repeat (first | simp [h8_2, h8_5, h8_6, g8_0, n8_0] | with_reducible refine awp_reg ?_)
            refine hK56 (eqI a1 15) _ ⟨e54, ?_, ?_, ?_, ?_, by first | (simp; done) | (simp; omega) | omega⟩ <;> simp [St.frz, St.pur, h8_2, h8_5, h8_6, g8_0, n8_0]
          · replace e54 := condF h58 e54
            repeat (first | simp [h8_2, h8_5, h8_6, g8_0, n8_0] | with_reducible refine awp_reg ?_)
            refine condK_spec (eqI a1 16) (by first | rfl | (simp [h8_2, h8_5, h8_6, g8_0, n8_0]; done) | (simp [andB, orB, eqI, ltI, Int.natCast_inj, h8_2, h8_5, h8_6, g8_0, n8_0]; done)) (fun h59 => ?_) (fun h59 => ?_)
            · replace e54 := condT h59 e54
              repeat (first | simp [h8_2, h8_5, h8_6, g8_0, n8_0] | with_reducible refine awp_reg ?_)
              refine hK56 (eqI a1 16) _ ⟨e54, ?_, ?_, ?_, ?_, by first | (simp; done) | (simp; omega) | omega⟩ <;> simp [St.frz, St.pur, h8_2, h8_5, h8_6, g8_0, n8_0]
            · replace e54 := condF h59 e54
              repeat (first | simp [h8_2, h8_5, h8_6, g8_0, n8_0] | with_reducible refine awp_reg ?_)
              refine hK56 (eqI a1 17) _ ⟨e54, ?_, ?_, ?_, ?_, by first | (simp; done) | (simp; omega) | omega⟩ <;> simp [St.frz, St.pur, h8_2, h8_5, h8_6, g8_0, n8_0]
        · obtain ⟨e54, h10_2, h10_5, h10_16, g10_0, n10_g⟩ := hp
          obtain rfl := Option.some.inj e54
          try dsimp only at e31
          have n10_0 : ¬ (σ9.gen = 0) := by omega
          repeat (first | simp [h10_2, h10_5, h10_16, g10_0, n10_0] | with_reducible refine awp_reg ?_)
          refine condK_spec b53 (by first | rfl | (simp [h10_2, h10_5, h10_16, g10_0, n10_0]; done) | (simp [andB, orB, eqI, ltI, Int.natCast_inj, h10_2, h10_5, h10_16, g10_0, n10_0]; done)) (fun h60 => ?_) (fun h60 => ?_)
          · replace e31 := condT h60 e31
            repeat (first | simp [h10_2, h10_5, h10_16, g10_0, n10_0] | with_reducible first | refine awp_reg ?_ | refine And.intro (by omega) ?_ | refine optF_if (by omega) ?_)
            obtain rfl := Option.some.inj e31
            try dsimp only at hs
            refine hX34 _ _ (by simp) ?_
            repeat (first | simp [h10_2, h10_5, h10_16, g10_0, n10_0] | with_reducible first | refine awp_reg ?_ | refine And.intro (by omega) ?_ | refine optF_if (by omega) ?_)
            obtain rfl := Option.some.inj hs
            refine hQ _ _ (ret2g _ (Gh.refl _) (by simp [St.frz, St.pur, h10_2, h10_5, h10_16, g10_0, n10_0]; rfl) (by first | rfl | (simp [St.frz, St.pur, h10_2, h10_5, h10_16, g10_0, n10_0]; done) | (rw [if_pos (by first | omega | (simp; omega))]; simp [St.frz, St.pur, h10_2, h10_5, h10_16, g10_0, n10_0]; first | omega | exact List.take_of_length_le (by simp; omega) | skip)) (by simp))
          · replace e31 := condF h60 e31
            repeat (first | simp [h10_2, h10_5, h10_16, g10_0, n10_0] | with_reducible refine awp_reg ?_)
            refine condK_spec (eqI a1 18) (by first | rfl | (simp [h10_2, h10_5, h10_16, g10_0, n10_0]; done) | (simp [andB, orB, eqI, ltI, Int.natCast_inj, h10_2, h10_5, h10_16, g10_0, n10_0]; done)) (fun h61 => ?_) (fun h61 => ?_)
            · replace e31 := condT h61 e31
              repeat (first | simp [h10_2, h10_5, h10_16, g10_0, n10_0] | with_reducible refine awp_reg ?_)
              refine condK_t (by first | exact h61 | simpa using h61) ?_
              repeat (first | simp [h10_2, h10_5, h10_16, g10_0, n10_0] | with_reducible first | refine awp_reg ?_ | refine And.intro (by omega) ?_ | refine optF_if (by omega) ?_)
              obtain rfl := Option.some.inj e31
              try dsimp only at hs
              refine hX34 _ _ (by simp) ?_
              repeat (first | simp [h10_2, h10_5, h10_16, g10_0, n10_0] | with_reducible first | refine awp_reg ?_ | refine And.intro (by omega) ?_ | refine optF_if (by omega) ?_)
              obtain rfl := Option.some.inj hs
              refine hQ _ _ (ret2g _ (Gh.refl _) (by simp [St.frz, St.pur, h10_2, h10_5, h10_16, g10_0, n10_0]; rfl) (by first | rfl | (simp [St.frz, St.pur, h10_2, h10_5, h10_16, g10_0, n10_0]; done) | (rw [if_pos (by first | omega | (simp; omega))]; simp [St.frz, St.pur, h10_2, h10_5, h10_16, g10_0, n10_0]; first | omega | exact List.take_of_length_le (by simp; omega) | skip)) (by simp))
            · replace e31 := condF h61 e31
              repeat (first | simp [h10_2, h10_5, h10_16, g10_0, n10_0] | with_reducible refine awp_reg ?_)
              refine condK_spec (eqI a1 19) (by first | rfl | (simp [h10_2, h10_5, h10_16, g10_0, n10_0]; done) | (simp [andB, orB, eqI, ltI, Int.natCast_inj, h10_2, h10_5, h10_16, g10_0, n10_0]; done)) (fun h62 => ?_) (fun h62 => ?_)
              · replace e31 := condT h62 e31
                repeat (first | simp [h10_2, h10_5, h10_16, g10_0, n10_0] | with_reducible refine awp_reg ?_)
                refine condK_t (by first | exact h62 | simpa using h62) ?_
                repeat (first | simp [h10_2, h10_5, h10_16, g10_0, n10_0] | with_reducible first | refine awp_reg ?_ | refine And.intro (by omega) ?_ | refine optF_if (by omega) ?_)
                obtain rfl := Option.some.inj e31
                try dsimp only at hs
                refine hX34 _ _ (by simp) ?_
                repeat (first | simp [h10_2, h10_5, h10_16, g10_0, n10_0] | with_reducible first | refine awp_reg ?_ | refine And.intro (by omega) ?_ | refine optF_if (by omega) ?_)
                obtain rfl := Option.some.inj hs
                refine hQ _ _ (ret2g _ (Gh.refl _) (by simp [St.frz, St.pur, h10_2, h10_5, h10_16, g10_0, n10_0]; rfl) (by first | rfl | (simp [St.frz, St.pur, h10_2, h10_5, h10_16, g10_0, n10_0]; done) | (rw [if_pos (by first | omega | (simp; omega))]; simp [St.frz, St.pur, h10_2, h10_5, h10_16, g10_0, n10_0]; first | omega | exact List.take_of_length_le (by simp; omega) | skip)) (by simp))
              · replace e31 := condF h62 e31
                repeat (first | simp [h10_2, h10_5, h10_16, g10_0, n10_0] | with_reducible refine awp_reg ?_)
                refine condK_spec (eqI a1 20) (by first | rfl | (simp [h10_2, h10_5, h10_16, g10_0, n10_0]; done) | (simp [andB, orB, eqI, ltI, Int.natCast_inj, h10_2, h10_5, h10_16, g10_0, n10_0]; done)) (fun h63 => ?_) (fun h63 => ?_)
                · replace e31 := condT h63 e31
                  repeat (first | simp [h10_2, h10_5, h10_16, g10_0, n10_0] | with_reducible first | refine awp_reg ?_ | refine And.intro (by omega) ?_ | refine optF_if (by omega) ?_)
                  obtain rfl := Option.some.inj e31
                  try dsimp only at hs
                  refine hX34 _ _ (by simp) ?_
                  repeat (first | simp [h10_2, h10_5, h10_16, g10_0, n10_0] | with_reducible first | refine awp_reg ?_ | refine And.intro (by omega) ?_ | refine optF_if (by omega) ?_)
                  obtain rfl := Option.some.inj hs
                  refine hQ _ _ (ret2g _ (Gh.refl _) (by simp [St.frz, St.pur, h10_2, h10_5, h10_16, g10_0, n10_0]; rfl) (by first | rfl | (simp [St.frz, St.pur, h10_2, h10_5, h10_16, g10_0, n10_0]; done) | (rw [if_pos (by first | omega | (simp; omega))]; simp [St.frz, St.pur, h10_2, h10_5, h10_16, g10_0, n10_0]; first | omega | exact List.take_of_length_le (by simp; omega) | skip)) (by simp))
                · replace e31 := condF h63 e31
                  repeat (first | simp [h10_2, h10_5, h10_16, g10_0, n10_0] | with_reducible refine awp_reg ?_)
                  refine condK_spec (eqI a1 21) (by first | rfl | (simp [h10_2, h10_5, h10_16, g10_0, n10_0]; done) | (simp [andB, orB, eqI, ltI, Int.natCast_inj, h10_2, h10_5, h10_16, g10_0, n10_0]; done)) (fun h64 => ?_) (fun h64 => ?_)
                  · replace e31 := condT h64 e31
                    repeat (first | simp [h10_2, h10_5, h10_16, g10_0, n10_0] | with_reducible first | refine awp_reg ?_ | refine And.intro (by omega) ?_ | refine optF_if (by omega) ?_)
                    obtain rfl := Option.some.inj e31
                    try dsimp only at hs
                    refine hX34 _ _ (by simp) ?_
                    repeat (first | simp [h10_2, h10_5, h10_16, g10_0, n10_0] | with_reducible first | refine awp_reg ?_ | refine And.intro (by omega) ?_ | refine optF_if (by omega) ?_)
                    obtain rfl := Option.some.inj hs
                    refine hQ _ _ (ret2g _ (Gh.refl _) (by simp [St.frz, St.pur, h10_2, h10_5, h10_16, g10_0, n10_0]; rfl) (by first | rfl | (simp [St.frz, St.pur, h10_2, h10_5, h10_16, g10_0, n10_0]; done) | (rw [if_pos (by first | omega | (simp; omega))]; simp [St.frz, St.pur, h10_2, h10_5, h10_16, g10_0, n10_0]; first | omega | exact List.take_of_length_le (by simp; omega) | skip)) (by simp))
                  · replace e31 := condF h64 e31
                    repeat (first | simp [h10_2, h10_5, h10_16, g10_0, n10_0] | with_reducible refine awp_reg ?_)
                    exact hK33 () _ _ (Gh.refl _) ⟨e31, by first | (simp; done) | (simp; omega) | omega⟩
  · obtain ⟨e31, n6_g⟩ := hp
    obtain rfl := Option.some.inj e31
    try dsimp only at hs
    repeat (first | simp | with_reducible refine awp_reg ?_)
    obtain rfl := Option.some.inj hs
    refine hQ _ _ (ret2g _ (Gh.refl _) (by simp [St.frz, St.pur]; rfl) (by first | rfl | (simp [St.frz, St.pur]; done) | (rw [if_pos (by first | omega | (simp; omega))]; simp [St.frz, St.pur]; first | omega | exact List.take_of_length_le (by simp; omega) | skip)) (by simp))
end Go.Dc
end
section
set_option linter.all false
namespace Go.Dc
open Go Go.Hw Go.Proofs
set_option maxRecDepth 100000

def program_checkInst (fuelN : Nat) (a0 : Program) (a1 : Inst) (a2 : Int) : Option Int :=
  Option.bind (inst_Check fuelN a1) (fun y1 => cond (!(eqI y1 0)) (some y1) (Option.bind (program_objects a0 a1.Op) (fun y4 => cond (andB (!(ltI y4 0)) (orB (ltI a1.Obj 0) (!(ltI a1.Obj y4)))) (some 11) (cond (andB (eqI a1.Op 18) (orB (ltI a1.N 0) (!(ltI a1.N ((a0.Mutexes.length : Nat) : Int))))) (some 11) (cond (andB (orB (eqI a1.Op 4) (eqI a1.Op 5)) (orB (ltI a1.N 0) (ltI a2 a1.N))) (some 12) (some 0))))))

set_option maxHeartbeats 2000000 in
theorem at_program_checkInst {fuelN : Nat} {a0 : Program} {a1 : Inst} {a2 : Int} {r : Int} (hs : program_checkInst fuelN a0 a1 a2 = some r) : At Tryd.prog 117 [.agg [.p (.sl a0.Vars.length (encL a0.Vars)), .p (.sl a0.Mutexes.length (encL a0.Mutexes)), .p (.sl a0.Conds.length (encL a0.Conds)), .p (.sl a0.Funcs.length (encL a0.Funcs)), .p (.sl a0.Threads.length (encL a0.Threads))], .agg [.p (.c (.int .i64 a1.Op)), .p (.c (.int .i64 a1.A)), .p (.c (.int .i64 a1.B)), .p (.c (.int .i64 a1.C)), .p (.c (.int .i64 a1.Obj)), .p (.c (.int .i64 a1.N)), .p (.c (.int .i64 a1.Fn)), .p (.c (.int .i64 a1.Order))], iV .i64 a2] (iV .i64 r) := by
  refine at_bound (by kernel_rfl) fun hb => ?_
  have hb1 : LenOk (.sl a0.Vars.length (encL a0.Vars)) := hb (.agg [.p (.sl a0.Vars.length (encL a0.Vars)), .p (.sl a0.Mutexes.length (encL a0.Mutexes)), .p (.sl a0.Conds.length (encL a0.Conds)), .p (.sl a0.Funcs.length (encL a0.Funcs)), .p (.sl a0.Threads.length (encL a0.Threads))]) (by simp) (.p (.sl a0.Vars.length (encL a0.Vars))) (by simp)
  have hb2 : LenOk (.sl a0.Mutexes.length (encL a0.Mutexes)) := hb (.agg [.p (.sl a0.Vars.length (encL a0.Vars)), .p (.sl a0.Mutexes.length (encL a0.Mutexes)), .p (.sl a0.Conds.length (encL a0.Conds)), .p (.sl a0.Funcs.length (encL a0.Funcs)), .p (.sl a0.Threads.length (encL a0.Threads))]) (by simp) (.p (.sl a0.Mutexes.length (encL a0.Mutexes))) (by simp)
  have hb3 : LenOk (.sl a0.Conds.length (encL a0.Conds)) := hb (.agg [.p (.sl a0.Vars.length (encL a0.Vars)), .p (.sl a0.Mutexes.length (encL a0.Mutexes)), .p (.sl a0.Conds.length (encL a0.Conds)), .p (.sl a0.Funcs.length (encL a0.Funcs)), .p (.sl a0.Threads.length (encL a0.Threads))]) (by simp) (.p (.sl a0.Conds.length (encL a0.Conds))) (by simp)
  have hb4 : LenOk (.sl a0.Funcs.length (encL a0.Funcs)) := hb (.agg [.p (.sl a0.Vars.length (encL a0.Vars)), .p (.sl a0.Mutexes.length (encL a0.Mutexes)), .p (.sl a0.Conds.length (encL a0.Conds)), .p (.sl a0.Funcs.length (encL a0.Funcs)), .p (.sl a0.Threads.length (encL a0.Threads))]) (by simp) (.p (.sl a0.Funcs.length (encL a0.Funcs))) (by simp)
  have hb5 : LenOk (.sl a0.Threads.length (encL a0.Threads)) := hb (.agg [.p (.sl a0.Vars.length (encL a0.Vars)), .p (.sl a0.Mutexes.length (encL a0.Mutexes)), .p (.sl a0.Conds.length (encL a0.Conds)), .p (.sl a0.Funcs.length (encL a0.Funcs)), .p (.sl a0.Threads.length (encL a0.Threads))]) (by simp) (.p (.sl a0.Threads.length (encL a0.Threads))) (by simp)
  refine at_code mixed Tryd.func117 (by kernel_rfl) rfl (by kernel_rfl) rfl fun Q hQ => ?_
  rw [program_checkInst] at hs
  repeat (first | simp | with_reducible first | refine awp_reg ?_ | refine And.intro (by omega) ?_ | refine optF_if (by omega) ?_)
  obtain ⟨y1, hx2, hs⟩ := bindO hs
  try dsimp only at hs
  refine callK_pure (at_inst_Check hx2) (by (first | simp | simp (disch := omega) []); try rfl) (by simp) (by simp) ?_
  repeat (first | simp | with_reducible first | refine awp_reg ?_ | refine And.intro (by omega) ?_ | refine optF_if (by omega) ?_)
  refine condK_spec (!(eqI y1 0)) (by first | rfl | (simp; done) | (simp [andB, orB, eqI, ltI, Int.natCast_inj]; done)) (fun h3 => ?_) (fun h3 => ?_)
  · replace hs := condT h3 hs
    repeat (first | simp | with_reducible first | refine awp_reg ?_ | refine And.intro (by omega) ?_ | refine optF_if (by omega) ?_)
    obtain rfl := Option.some.inj hs
    refine hQ _ _ (ret2g _ (Gh.refl _) (by simp [St.frz, St.pur]; rfl) (by first | rfl | (simp [St.frz, St.pur]; done) | (rw [if_pos (by first | omega | (simp; omega))]; simp [St.frz, St.pur]; first | omega | exact List.take_of_length_le (by simp; omega) | skip)) (by simp))
  · replace hs := condF h3 hs
    repeat (first | simp | with_reducible first | refine awp_reg ?_ | refine And.intro (by omega) ?_ | refine optF_if (by omega) ?_)
    obtain ⟨y4, hx5, hs⟩ := bindO hs
    try dsimp only at hs
    refine callK_pure (at_program_objects hx5) (by (first | simp | simp (disch := omega) []); try rfl) (by simp) (by simp) ?_
    repeat (first | simp | with_reducible first | refine awp_reg ?_ | refine And.intro (by omega) ?_ | refine optF_if (by omega) ?_ | refine gsel_pure (by with_unfolding_all rfl) _ (fun hg => by (try simp at hg); first | (simp [hg]; rfl) | (simp; simp only [if_pos hg]; simp; rfl)) ?_)
    refine condK_spec (andB (!(ltI y4 0)) (orB (ltI a1.Obj 0) (!(ltI a1.Obj y4)))) (by first | rfl | (simp; done) | (simp [andB, orB, eqI, ltI, Int.natCast_inj]; done)) (fun h6 => ?_) (fun h6 => ?_)
    · replace hs := condT h6 hs
      repeat (first | simp | with_reducible first | refine awp_reg ?_ | refine And.intro (by omega) ?_ | refine optF_if (by omega) ?_ | refine gsel_pure (by with_unfolding_all rfl) _ (fun hg => by (try simp at hg); first | (simp [hg]; rfl) | (simp; simp only [if_pos hg]; simp; rfl)) ?_)
      obtain rfl := Option.some.inj hs
      refine hQ _ _ (ret2g _ (Gh.refl _) (by simp [St.frz, St.pur]; rfl) (by first | rfl | (simp [St.frz, St.pur]; done) | (rw [if_pos (by first | omega | (simp; omega))]; simp [St.frz, St.pur]; first | omega | exact List.take_of_length_le (by simp; omega) | skip)) (by simp))
    · replace hs := condF h6 hs
      repeat (first | simp | with_reducible first | refine awp_reg ?_ | refine And.intro (by omega) ?_ | refine optF_if (by omega) ?_ | refine gsel_pure (by with_unfolding_all rfl) _ (fun hg => by (try simp at hg); first | (simp [hg]; rfl) | (simp; simp only [if_pos hg]; simp; rfl)) ?_)
      refine condK_spec (andB (eqI a1.Op 18) (orB (ltI a1.N 0) (!(ltI a1.N ((a0.Mutexes.length : Nat) : Int))))) (by first | rfl | (simp; done) | (simp [andB, orB, eqI, ltI, Int.natCast_inj]; done)) (fun h7 => ?_) (fun h7 => ?_)
      · replace hs := condT h7 hs
        repeat (first | simp | with_reducible first | refine awp_reg ?_ | refine And.intro (by omega) ?_ | refine optF_if (by omega) ?_ | refine gsel_pure (by with_unfolding_all rfl) _ (fun hg => by (try simp at hg); first | (simp [hg]; rfl) | (simp; simp only [if_pos hg]; simp; rfl)) ?_)
        obtain rfl := Option.some.inj hs
        refine hQ _ _ (ret2g _ (Gh.refl _) (by simp [St.frz, St.pur]; rfl) (by first | rfl | (simp [St.frz, St.pur]; done) | (rw [if_pos (by first | omega | (simp; omega))]; simp [St.frz, St.pur]; first | omega | exact List.take_of_length_le (by simp; omega) | skip)) (by simp))
      · replace hs := condF h7 hs
        repeat (first | simp | with_reducible first | refine awp_reg ?_ | refine And.intro (by omega) ?_ | refine optF_if (by omega) ?_ | refine gsel_pure (by with_unfolding_all rfl) _ (fun hg => by (try simp at hg); first | (simp [hg]; rfl) | (simp; simp only [if_pos hg]; simp; rfl)) ?_)
        refine condK_spec (andB (orB (eqI a1.Op 4) (eqI a1.Op 5)) (orB (ltI a1.N 0) (ltI a2 a1.N))) (by first | rfl | (simp; done) | (simp [andB, orB, eqI, ltI, Int.natCast_inj]; done)) (fun h8 => ?_) (fun h8 => ?_)
        · replace hs := condT h8 hs
          repeat (first | simp | with_reducible first | refine awp_reg ?_ | refine And.intro (by omega) ?_ | refine optF_if (by omega) ?_ | refine gsel_pure (by with_unfolding_all rfl) _ (fun hg => by (try simp at hg); first | (simp [hg]; rfl) | (simp; simp only [if_pos hg]; simp; rfl)) ?_)
          obtain rfl := Option.some.inj hs
          refine hQ _ _ (ret2g _ (Gh.refl _) (by simp [St.frz, St.pur]; rfl) (by first | rfl | (simp [St.frz, St.pur]; done) | (rw [if_pos (by first | omega | (simp; omega))]; simp [St.frz, St.pur]; first | omega | exact List.take_of_length_le (by simp; omega) | skip)) (by simp))
        · replace hs := condF h8 hs
          repeat (first | simp | with_reducible first | refine awp_reg ?_ | refine And.intro (by omega) ?_ | refine optF_if (by omega) ?_ | refine gsel_pure (by with_unfolding_all rfl) _ (fun hg => by (try simp at hg); first | (simp [hg]; rfl) | (simp; simp only [if_pos hg]; simp; rfl)) ?_)
          obtain rfl := Option.some.inj hs
          refine hQ _ _ (ret2g _ (Gh.refl _) (by simp [St.frz, St.pur]; rfl) (by first | rfl | (simp [St.frz, St.pur]; done) | (rw [if_pos (by first | omega | (simp; omega))]; simp [St.frz, St.pur]; first | omega | exact List.take_of_length_le (by simp; omega) | skip)) (by simp))
end Go.Dc
end
section
set_option linter.all false
namespace Go.Dc
open Go Go.Hw Go.Proofs
set_option maxRecDepth 100000
def insC (a : Nat) : Nat → List Inst → List (ProgramPlace × Inst)
  | _, [] => []
  | b, i :: r => (⟨(a : Int), (b : Int)⟩, i) :: insC a (b + 1) r
def insF : Nat → List Func → List (ProgramPlace × Inst)
  | _, [] => []
  | a, f :: r => insC a 0 f.Code ++ insF (a + 1) r
def it_instructions (p : Program) : Option (List (ProgramPlace × Inst)) :=
  guardO (lenB p.Funcs.length && p.Funcs.all fun f => lenB f.Code.length) (some (insF 0 p.Funcs))
abbrev insEv : ProgramPlace × Inst → List EV := fun y => ([.agg [.c (.int .i64 y.1.fn), .c (.int .i64 y.1.inst)], .agg [.c (.int .i64 y.2.Op), .c (.int .i64 y.2.A), .c (.int .i64 y.2.B), .c (.int .i64 y.2.C), .c (.int .i64 y.2.Obj), .c (.int .i64 y.2.N), .c (.int .i64 y.2.Fn), .c (.int .i64 y.2.Order)]] : List EV)
set_option maxHeartbeats 2000000 in
theorem seq_instructions {p : Program} {xs : List (ProgramPlace × Inst)} (h : it_instructions p = some xs) : SeqAt Tryd.prog 123 [.cell (.p (.bx [.sl p.Vars.length (encL p.Vars), .sl p.Mutexes.length (encL p.Mutexes), .sl p.Conds.length (encL p.Conds), .sl p.Funcs.length (encL p.Funcs), .sl p.Threads.length (encL p.Threads)]))] (xs.map insEv) := by
  obtain ⟨g, h⟩ := guardO_some h
  obtain rfl := Option.some.inj h
  simp only [Bool.and_eq_true, List.all_eq_true] at g
  obtain ⟨g1, g2⟩ := g
  refine seq_unbx (by simp; rfl) ?_
  refine seq_code mixed Tryd.func123 (by kernel_rfl) rfl (by kernel_rfl) rfl fun ℓ Q hQ => ?_
  repeat (first | simp | with_reducible refine awp_reg ?_)
  refine awp_loopW (fun (v : Nat × Nat) (σ : St) => v.1 ≤ p.Funcs.length ∧ (insF 0 p.Funcs).drop v.2 = insF v.1 (p.Funcs.drop v.1) ∧ v.2 ≤ (insF 0 p.Funcs).length ∧ σ.env 10 = iV .i64 (v.1 : Nat) ∧ σ.env 8 = .cell (.p (.sl p.Funcs.length (encL p.Funcs))) ∧ σ.env 9 = iV .i64 p.Funcs.length ∧ σ.env 0 = .cell (.yl ℓ) ∧ σ.acc = some ⟨ℓ, (insF 0 p.Funcs).map insEv, v.2, true⟩) (fun v => p.Funcs.length - v.1) _ (Gh.refl _) (0, 0) ⟨by simp, by simp, by simp, by simp, by simp, by simp, by simp, by simp⟩ fun v σ hp L hL => ?_
  obtain ⟨a, n⟩ := v
  dsimp only at hp hL
  obtain ⟨ha, hn, hnl, h10, h8, h9, h0, hacc⟩ := hp
  repeat (first | simp [h10, h8, h9, h0, hacc] | with_reducible refine awp_reg ?_)
  by_cases hlt : a < p.Funcs.length
  · refine condK_t (by simp [ltI]; omega) ?_
    have hx := List.getElem?_eq_getElem hlt
    have ew := wrap_succG hlt g1
    have hcl := g2 _ (List.getElem_mem hlt)
    rw [List.drop_eq_getElem_cons hlt] at hn
    generalize p.Funcs[a] = f at *
    have f1 : partCV Tryd.prog 24 (encL p.Funcs) (a * 2) = some (.agg [.p (.c (.string f.Name)), .p (.sl f.Code.length (encL f.Code))]) := partCV_enc hx (f := 0) (by simp)
    repeat (first | simp [h10, h8, h9, h0, hacc, f1, hlt] | with_reducible refine awp_reg ?_ | with_reducible refine optF_if (by omega) ?_)
    refine awp_loopW (fun (v : Nat × Nat) (σ2 : St) => v.1 ≤ f.Code.length ∧ (insF 0 p.Funcs).drop v.2 = insC a v.1 (f.Code.drop v.1) ++ insF (a + 1) (p.Funcs.drop (a + 1)) ∧ v.2 ≤ (insF 0 p.Funcs).length ∧ σ2.env 18 = iV .i64 (v.1 : Nat) ∧ σ2.env 16 = .cell (.p (.sl f.Code.length (encL f.Code))) ∧ σ2.env 17 = iV .i64 f.Code.length ∧ σ2.env 3 = iV .i64 a ∧ σ2.env 10 = iV .i64 a ∧ σ2.env 8 = .cell (.p (.sl p.Funcs.length (encL p.Funcs))) ∧ σ2.env 9 = iV .i64 p.Funcs.length ∧ σ2.env 0 = .cell (.yl ℓ) ∧ σ2.acc = some ⟨ℓ, (insF 0 p.Funcs).map insEv, v.2, true⟩) (fun v => f.Code.length - v.1) _ (Gh.refl _) (0, n) ⟨by simp, by simpa [insF] using hn, hnl, by simp [h10, h8, h9, h0, hacc], by simp [h10, h8, h9, h0, hacc], by simp [h10, h8, h9, h0, hacc], by simp [h10, h8, h9, h0, hacc], by simp [h10, h8, h9, h0, hacc], by simp [h10, h8, h9, h0, hacc], by simp [h10, h8, h9, h0, hacc], by simp [h10, h8, h9, h0, hacc], by simp [h10, h8, h9, h0, hacc]⟩ fun v σ2 hp L2 hL2 => ?_
    obtain ⟨b, m⟩ := v
    dsimp only at hp hL2
    obtain ⟨hb, hm, hml, k18, k16, k17, k3, k10, k8, k9, k0, kacc⟩ := hp
    repeat (first | simp [k18, k16, k17, k3, k10, k8, k9, k0, kacc] | with_reducible refine awp_reg ?_)
    by_cases hltb : b < f.Code.length
    · refine condK_t (by simp [ltI]; omega) ?_
      have hxb := List.getElem?_eq_getElem hltb
      have ewb := wrap_succG hltb hcl
      rw [List.drop_eq_getElem_cons hltb] at hm
      generalize f.Code[b] = i at *
      have hy : (insF 0 p.Funcs)[m]? = some (⟨(a : Int), (b : Int)⟩, i) := by
        have : ((insF 0 p.Funcs).drop m)[0]? = some (⟨(a : Int), (b : Int)⟩, i) := by rw [hm]; rfl
        simpa using this
      have hm1 : (insF 0 p.Funcs).drop (m + 1) = insC a (b + 1) (f.Code.drop (b + 1)) ++ insF (a + 1) (p.Funcs.drop (a + 1)) := by
        rw [← List.drop_drop, hm]; rfl
      have hm2 : m + 1 ≤ (insF 0 p.Funcs).length := (List.getElem?_eq_some_iff.1 hy).1
      have hye : ((insF 0 p.Funcs).map insEv)[m]? = some (insEv (⟨(a : Int), (b : Int)⟩, i)) := by rw [List.getElem?_map, hy]; rfl
      have hye' : Option.map insEv (insF 0 p.Funcs)[m]? = some (insEv (⟨(a : Int), (b : Int)⟩, i)) := by rw [hy]; rfl
      have f2 : partCV Tryd.prog 71 (encL f.Code) (b * 8) = some (.agg [.p (.c (.int .i64 i.Op)), .p (.c (.int .i64 i.A)), .p (.c (.int .i64 i.B)), .p (.c (.int .i64 i.C)), .p (.c (.int .i64 i.Obj)), .p (.c (.int .i64 i.N)), .p (.c (.int .i64 i.Fn)), .p (.c (.int .i64 i.Order))]) := partCV_enc hxb (f := 0) (by simp)
      repeat (first | simp [k18, k16, k17, k3, k10, k8, k9, k0, kacc, f2, hltb, hy] | with_reducible refine awp_reg ?_ | with_reducible refine optF_if (by omega) ?_)
      refine ⟨?_, ?_⟩
      · repeat (first | simp [k18, k16, k17, k3, k10, k8, k9, k0, kacc, ewb] | with_reducible refine awp_reg ?_)
        exact hL2 (b + 1, m + 1) _ _ (Gh.refl _) ⟨hltb, hm1, hm2, by simp [k18, ewb], by simp [k16], by simp [k17], by simp [k3], by simp [k10], by simp [k8], by simp [k9], by simp [k0], by simp⟩ (by simp; omega)
      · repeat (first | simp [k18, k16, k17, k3, k10, k8, k9, k0, kacc] | with_reducible refine awp_reg ?_)
        refine hQ _ _ (seqPost_end (.inr rfl) (by simp; rfl) (by simp; first | exact ⟨rfl, rfl⟩ | exact ⟨rfl, rfl, rfl⟩ | rfl) ?_)
        simp
    · refine condK_f (by simp [ltI]; omega) ?_
      have : b = f.Code.length := by omega
      subst this
      have hn' : (insF 0 p.Funcs).drop m = insF (a + 1) (p.Funcs.drop (a + 1)) := by rw [hm]; simp [insC]
      repeat (first | simp [k18, k16, k17, k3, k10, k8, k9, k0, kacc, ew] | with_reducible refine awp_reg ?_)
      exact hL (a + 1, m) _ _ (Gh.refl _) ⟨hlt, hn', hml, by simp [k10, ew], by simp [k8], by simp [k9], by simp [k0], by simp [kacc]⟩ (by simp; omega)
  · refine condK_f (by simp [ltI]; omega) ?_
    have : a = p.Funcs.length := by omega
    subst this
    repeat (first | simp [h10, h8, h9, h0, hacc] | with_reducible refine awp_reg ?_)
    refine hQ _ _ (seqPost_end (.inl rfl) (by simp; rfl) (by simp [hacc]; first | exact ⟨rfl, rfl⟩ | exact ⟨rfl, rfl, rfl⟩ | rfl) ?_)
    intro _
    have := congrArg List.length hn
    simp [insF] at this
    simp
    omega
end Go.Dc
end
section
set_option linter.all false
namespace Go.Dc
open Go Go.Hw Go.Proofs
set_option maxRecDepth 100000
def program_checkCode_L1 (fuelN : Nat) (a0 : Program) (y1 : Int) : List (ProgramPlace × Inst) → Option (Unit ⊕ (Unit ⊕ (Int × ProgramPlace)))
  | [] => some (.inl ())
  | y7 :: q27 => cond (eqI y7.1.fn y1) (some (.inr (.inl ()))) (Option.bind (getI a0.Funcs y7.1.fn) (fun x35 => Option.bind (program_checkInst fuelN a0 y7.2 ((x35.Code.length : Nat) : Int)) (fun y38 => cond (!(eqI y38 0)) (some (.inr (.inr (y38, y7.1)))) (program_checkCode_L1 fuelN a0 y1 q27))))

def program_checkCode (fuelN : Nat) (a0 : Program) : Option (Int × ProgramPlace) :=
  Option.bind (slices_IndexFunc_api_Func_program_checkCode_1 a0.Funcs) (fun y1 => Option.bind (program_instructions a0) (fun y3 => Option.bind (it_instructions y3) (fun xs5 => Option.bind (program_checkCode_L1 fuelN a0 y1 xs5) (fun o => match o with | .inl _ => cond (!(ltI y1 0)) (some (4, ({ fn := y1, inst := (-1) } : ProgramPlace))) (some (0, ({ fn := (-1), inst := (-1) } : ProgramPlace))) | .inr (.inl _) => cond (!(ltI y1 0)) (some (4, ({ fn := y1, inst := (-1) } : ProgramPlace))) (some (0, ({ fn := (-1), inst := (-1) } : ProgramPlace))) | .inr (.inr r44) => some r44))))

set_option maxHeartbeats 2000000 in
theorem at_program_checkCode {fuelN : Nat} {a0 : Program} {r : Int × ProgramPlace} (hs : program_checkCode fuelN a0 = some r) : At Tryd.prog 85 [.agg [.p (.sl a0.Vars.length (encL a0.Vars)), .p (.sl a0.Mutexes.length (encL a0.Mutexes)), .p (.sl a0.Conds.length (encL a0.Conds)), .p (.sl a0.Funcs.length (encL a0.Funcs)), .p (.sl a0.Threads.length (encL a0.Threads))]] (.tup [iV .i64 r.1, .agg [.p (.c (.int .i64 r.2.fn)), .p (.c (.int .i64 r.2.inst))]]) := by
  refine at_bound (by kernel_rfl) fun hb => ?_
  have hb1 : LenOk (.sl a0.Vars.length (encL a0.Vars)) := hb (.agg [.p (.sl a0.Vars.length (encL a0.Vars)), .p (.sl a0.Mutexes.length (encL a0.Mutexes)), .p (.sl a0.Conds.length (encL a0.Conds)), .p (.sl a0.Funcs.length (encL a0.Funcs)), .p (.sl a0.Threads.length (encL a0.Threads))]) (by simp) (.p (.sl a0.Vars.length (encL a0.Vars))) (by simp)
  have hb2 : LenOk (.sl a0.Mutexes.length (encL a0.Mutexes)) := hb (.agg [.p (.sl a0.Vars.length (encL a0.Vars)), .p (.sl a0.Mutexes.length (encL a0.Mutexes)), .p (.sl a0.Conds.length (encL a0.Conds)), .p (.sl a0.Funcs.length (encL a0.Funcs)), .p (.sl a0.Threads.length (encL a0.Threads))]) (by simp) (.p (.sl a0.Mutexes.length (encL a0.Mutexes))) (by simp)
  have hb3 : LenOk (.sl a0.Conds.length (encL a0.Conds)) := hb (.agg [.p (.sl a0.Vars.length (encL a0.Vars)), .p (.sl a0.Mutexes.length (encL a0.Mutexes)), .p (.sl a0.Conds.length (encL a0.Conds)), .p (.sl a0.Funcs.length (encL a0.Funcs)), .p (.sl a0.Threads.length (encL a0.Threads))]) (by simp) (.p (.sl a0.Conds.length (encL a0.Conds))) (by simp)
  have hb4 : LenOk (.sl a0.Funcs.length (encL a0.Funcs)) := hb (.agg [.p (.sl a0.Vars.length (encL a0.Vars)), .p (.sl a0.Mutexes.length (encL a0.Mutexes)), .p (.sl a0.Conds.length (encL a0.Conds)), .p (.sl a0.Funcs.length (encL a0.Funcs)), .p (.sl a0.Threads.length (encL a0.Threads))]) (by simp) (.p (.sl a0.Funcs.length (encL a0.Funcs))) (by simp)
  have hb5 : LenOk (.sl a0.Threads.length (encL a0.Threads)) := hb (.agg [.p (.sl a0.Vars.length (encL a0.Vars)), .p (.sl a0.Mutexes.length (encL a0.Mutexes)), .p (.sl a0.Conds.length (encL a0.Conds)), .p (.sl a0.Funcs.length (encL a0.Funcs)), .p (.sl a0.Threads.length (encL a0.Threads))]) (by simp) (.p (.sl a0.Threads.length (encL a0.Threads))) (by simp)
  refine at_code mixed Tryd.func85 (by kernel_rfl) rfl (by kernel_rfl) rfl fun Q hQ => ?_
  rw [program_checkCode] at hs
  repeat (first | simp | with_reducible first | refine awp_reg ?_ | refine And.intro (by omega) ?_ | refine optF_if (by omega) ?_)
  obtain ⟨y1, hx2, hs⟩ := bindO hs
  try dsimp only at hs
  refine callK_pure (at_slices_IndexFunc_api_Func_program_checkCode_1 hx2) (by (first | simp | simp (disch := omega) []); try rfl) (by simp) (by simp) ?_
  repeat (first | simp | with_reducible first | refine awp_reg ?_ | refine And.intro (by omega) ?_ | refine optF_if (by omega) ?_)
  obtain ⟨y3, hx4, hs⟩ := bindO hs
  try dsimp only at hs
  refine callK_pure (at_program_instructions hx4) (by (first | simp | simp (disch := omega) []); try rfl) (by simp) (by simp) ?_
  repeat (first | simp | with_reducible first | refine awp_reg ?_ | refine And.intro (by omega) ?_ | refine optF_if (by omega) ?_)
  obtain ⟨xs5, hx6, hs⟩ := bindO hs
  try dsimp only at hs
  obtain ⟨o21, e20, hs⟩ := bindO hs
  try dsimp only at hs
  refine awp_range (gf := 123) (cs := [.bx [.sl y3.Vars.length (encL y3.Vars), .sl y3.Mutexes.length (encL y3.Mutexes), .sl y3.Conds.length (encL y3.Conds), .sl y3.Funcs.length (encL y3.Funcs), .sl y3.Threads.length (encL y3.Threads)]]) (xs5.map (fun (y : ProgramPlace × Inst) => ([.agg [.c (.int .i64 y.1.fn), .c (.int .i64 y.1.inst)], .agg [.c (.int .i64 y.2.Op), .c (.int .i64 y.2.A), .c (.int .i64 y.2.B), .c (.int .i64 y.2.C), .c (.int .i64 y.2.Obj), .c (.int .i64 y.2.N), .c (.int .i64 y.2.Fn), .c (.int .i64 y.2.Order)]] : List EV))) (fun (k22 : Nat) (hp23 : Go.Hw.Id → Option Blk) (gen24 : Nat) => program_checkCode_L1 fuelN a0 y1 (xs5.drop k22) = some o21 ∧ hp23 (.o 1 0 0) = some (.cells [.p (.sl a0.Vars.length (encL a0.Vars)), .p (.sl a0.Mutexes.length (encL a0.Mutexes)), .p (.sl a0.Conds.length (encL a0.Conds)), .p (.sl a0.Funcs.length (encL a0.Funcs)), .p (.sl a0.Threads.length (encL a0.Threads))]) ∧ hp23 (.o 1 1 0) = some (.cells [.p (.c (.int .i64 0))]) ∧ hp23 (.o 1 2 0) = some (.cells [.p (.c (.int .i64 0)), .p (.c (.int .i64 0))]) ∧ hp23 (.o 2 3 0) = some (.cells [.p (.c (.int .i64 y1))]) ∧ 3 ≤ gen24) _ (Gh.refl _) (by simp [St.frz, St.pur]) (seq_instructions hx6) (fun x hx => by obtain ⟨y, _, rfl⟩ := List.mem_map.1 hx; rfl) ⟨e20, by simp [St.frz, St.pur], by simp [St.frz, St.pur], by simp [St.frz, St.pur], by simp [St.frz, St.pur], by first | (simp; done) | (simp; omega) | omega⟩ (fun k22 x hp23 gen24 hx hI => ?_) (fun hp23 gen24 hI => ?_)
  · obtain ⟨e20, g1_0, g1_1, g1_2, g1_3, n1_g⟩ := hI
    try dsimp only at e20 g1_0 g1_1 g1_2 g1_3 n1_g
    obtain ⟨y7, hy25, rfl⟩ := map_get hx
    rw [drop_at hy25, program_checkCode_L1] at e20; try dsimp only at e20
    have n1_0 : ¬ (gen24 = 0) := by omega
    have n1_1 : ¬ (gen24 = 1) := by omega
    repeat (first | simp [g1_0, g1_1, g1_2, g1_3, n1_0, n1_1] | with_reducible first | refine awp_reg ?_ | refine And.intro (by omega) ?_ | refine optF_if (by omega) ?_)
    refine condK_spec (eqI y7.1.fn y1) (by first | rfl | (simp [g1_0, g1_1, g1_2, g1_3, n1_0, n1_1]; done) | (simp [andB, orB, eqI, ltI, Int.natCast_inj, g1_0, g1_1, g1_2, g1_3, n1_0, n1_1]; done)) (fun h28 => ?_) (fun h28 => ?_)
    · replace e20 := condT h28 e20
      repeat (first | simp [g1_0, g1_1, g1_2, g1_3, n1_0, n1_1] | with_reducible first | refine awp_reg ?_ | refine And.intro (by omega) ?_ | refine optF_if (by omega) ?_)
      obtain rfl := Option.some.inj e20
      try dsimp only at hs
      refine rPost_exit ?_
      repeat (first | simp [g1_0, g1_1, g1_2, g1_3, n1_0, n1_1] | with_reducible first | refine awp_reg ?_ | refine And.intro (by omega) ?_ | refine optF_if (by omega) ?_)
      refine condK_spec (!(ltI y1 0)) (by first | rfl | (simp [g1_0, g1_1, g1_2, g1_3, n1_0, n1_1]; done) | (simp [andB, orB, eqI, ltI, Int.natCast_inj, g1_0, g1_1, g1_2, g1_3, n1_0, n1_1]; done)) (fun h29 => ?_) (fun h29 => ?_)
      · replace hs := condT h29 hs
        repeat (first | simp [g1_0, g1_1, g1_2, g1_3, n1_0, n1_1] | with_reducible first | refine awp_reg ?_ | refine awp_draw ?_ | refine ord_l (by kernel_rfl) ?_ | refine ord_e (by kernel_rfl) ?_ | refine ord_c (by kernel_rfl) ?_ | refine ord_d (by kernel_rfl) ?_ | refine And.intro (by omega) ?_ | refine optF_if (by omega) ?_)
        obtain rfl := Option.some.inj hs
        refine hQ _ _ (ret2g _ (Gh.refl _) (by simp [St.frz, St.pur, g1_0, g1_1, g1_2, g1_3, n1_0, n1_1]; rfl) (by first | rfl | (simp [St.frz, St.pur, g1_0, g1_1, g1_2, g1_3, n1_0, n1_1]; done) | (rw [if_pos (by first | omega | (simp; omega))]; simp [St.frz, St.pur, g1_0, g1_1, g1_2, g1_3, n1_0, n1_1]; first | omega | exact List.take_of_length_le (by simp; omega) | skip)) (by simp))
      · replace hs := condF h29 hs
        repeat (first | simp [g1_0, g1_1, g1_2, g1_3, n1_0, n1_1] | with_reducible first | refine awp_reg ?_ | refine And.intro (by omega) ?_ | refine optF_if (by omega) ?_)
        obtain rfl := Option.some.inj hs
        refine hQ _ _ (ret2g _ (Gh.refl _) (by simp [St.frz, St.pur, g1_0, g1_1, g1_2, g1_3, n1_0, n1_1]; rfl) (by first | rfl | (simp [St.frz, St.pur, g1_0, g1_1, g1_2, g1_3, n1_0, n1_1]; done) | (rw [if_pos (by first | omega | (simp; omega))]; simp [St.frz, St.pur, g1_0, g1_1, g1_2, g1_3, n1_0, n1_1]; first | omega | exact List.take_of_length_le (by simp; omega) | skip)) (by simp))
    · replace e20 := condF h28 e20
      obtain ⟨x35, hx36, e20⟩ := bindO e20
      try dsimp only at e20
      obtain ⟨hx36a, hx36b, hx36c, hx36d⟩ := getI_some hx36
      have f37 : partCV Tryd.prog 22 (encL a0.Funcs) (((y7.1.fn).toNat) * 2 + 1) = some (.cell (.p (.sl x35.Code.length (encL x35.Code)))) := partCV_enc hx36d (f := 1) (by simp)
      repeat (first | simp [g1_0, g1_1, g1_2, g1_3, n1_0, n1_1, f37] | with_reducible first | refine awp_reg ?_ | refine awp_draw ?_ | refine ord_l (by kernel_rfl) ?_ | refine ord_e (by kernel_rfl) ?_ | refine ord_c (by kernel_rfl) ?_ | refine ord_d (by kernel_rfl) ?_ | refine And.intro (by omega) ?_ | refine optF_if (by omega) ?_)
      obtain ⟨y38, hx39, e20⟩ := bindO e20
      try dsimp only at e20
      refine callK_pure (at_program_checkInst hx39) (by (first | simp [g1_0, g1_1, g1_2, g1_3, n1_0, n1_1, f37] | simp (disch := omega) [g1_0, g1_1, g1_2, g1_3, n1_0, n1_1, f37]); try rfl) (by simp) (by simp) ?_
      repeat (first | simp [g1_0, g1_1, g1_2, g1_3, n1_0, n1_1, f37] | with_reducible first | refine awp_reg ?_ | refine awp_draw ?_ | refine ord_l (by kernel_rfl) ?_ | refine ord_e (by kernel_rfl) ?_ | refine ord_c (by kernel_rfl) ?_ | refine ord_d (by kernel_rfl) ?_ | refine And.intro (by omega) ?_ | refine optF_if (by omega) ?_)
      refine condK_spec (!(eqI y38 0)) (by first | rfl | (simp [g1_0, g1_1, g1_2, g1_3, n1_0, n1_1, f37]; done) | (simp [andB, orB, eqI, ltI, Int.natCast_inj, g1_0, g1_1, g1_2, g1_3, n1_0, n1_1, f37]; done)) (fun h40 => ?_) (fun h40 => ?_)
      · replace e20 := condT h40 e20
        repeat (first | simp [g1_0, g1_1, g1_2, g1_3, n1_0, n1_1, f37] | with_reducible first | refine awp_reg ?_ | refine awp_draw ?_ | refine ord_l (by kernel_rfl) ?_ | refine ord_e (by kernel_rfl) ?_ | refine ord_c (by kernel_rfl) ?_ | refine ord_d (by kernel_rfl) ?_ | refine And.intro (by omega) ?_ | refine optF_if (by omega) ?_)
        obtain rfl := Option.some.inj e20
        try dsimp only at hs
        refine rPost_ret ?_
        repeat (first | simp [g1_0, g1_1, g1_2, g1_3, n1_0, n1_1, f37] | with_reducible first | refine awp_reg ?_ | refine awp_draw ?_ | refine ord_l (by kernel_rfl) ?_ | refine ord_e (by kernel_rfl) ?_ | refine ord_c (by kernel_rfl) ?_ | refine ord_d (by kernel_rfl) ?_ | refine And.intro (by omega) ?_ | refine optF_if (by omega) ?_)
        obtain rfl := Option.some.inj hs
        refine hQ _ _ (ret2g _ (Gh.refl _) (by simp [St.frz, St.pur, g1_0, g1_1, g1_2, g1_3, n1_0, n1_1, f37]; rfl) (by first | rfl | (simp [St.frz, St.pur, g1_0, g1_1, g1_2, g1_3, n1_0, n1_1, f37]; done) | (rw [if_pos (by first | omega | (simp; omega))]; simp [St.frz, St.pur, g1_0, g1_1, g1_2, g1_3, n1_0, n1_1, f37]; first | omega | exact List.take_of_length_le (by simp; omega) | skip)) (by simp))
      · replace e20 := condF h40 e20
        repeat (first | simp [g1_0, g1_1, g1_2, g1_3, n1_0, n1_1, f37] | with_reducible first | refine awp_reg ?_ | refine awp_draw ?_ | refine ord_l (by kernel_rfl) ?_ | refine ord_e (by kernel_rfl) ?_ | refine ord_c (by kernel_rfl) ?_ | refine ord_d (by kernel_rfl) ?_ | refine And.intro (by omega) ?_ | refine optF_if (by omega) ?_)
        refine rPost_gh (Gh.refl _) ⟨e20, by simp [St.frz, St.pur, g1_0, g1_1, g1_2, g1_3, n1_0, n1_1, f37], by simp [St.frz, St.pur, g1_0, g1_1, g1_2, g1_3, n1_0, n1_1, f37], by simp [St.frz, St.pur, g1_0, g1_1, g1_2, g1_3, n1_0, n1_1, f37], by simp [St.frz, St.pur, g1_0, g1_1, g1_2, g1_3, n1_0, n1_1, f37], by first | (simp; done) | (simp; omega) | omega⟩
  · obtain ⟨e20, g1_0, g1_1, g1_2, g1_3, n1_g⟩ := hI
    try dsimp only at e20 g1_0 g1_1 g1_2 g1_3 n1_g
    rw [show xs5.drop (xs5.map (fun (y : ProgramPlace × Inst) => ([.agg [.c (.int .i64 y.1.fn), .c (.int .i64 y.1.inst)], .agg [.c (.int .i64 y.2.Op), .c (.int .i64 y.2.A), .c (.int .i64 y.2.B), .c (.int .i64 y.2.C), .c (.int .i64 y.2.Obj), .c (.int .i64 y.2.N), .c (.int .i64 y.2.Fn), .c (.int .i64 y.2.Order)]] : List EV))).length = [] by simp, program_checkCode_L1] at e20; try dsimp only at e20
    have n1_0 : ¬ (gen24 = 0) := by omega
    have n1_1 : ¬ (gen24 = 1) := by omega
    obtain rfl := Option.some.inj e20
    try dsimp only at hs
    repeat (first | simp [g1_0, g1_1, g1_2, g1_3, n1_0, n1_1] | with_reducible first | refine awp_reg ?_ | refine And.intro (by omega) ?_ | refine optF_if (by omega) ?_)
    refine condK_spec (!(ltI y1 0)) (by first | rfl | (simp [g1_0, g1_1, g1_2, g1_3, n1_0, n1_1]; done) | (simp [andB, orB, eqI, ltI, Int.natCast_inj, g1_0, g1_1, g1_2, g1_3, n1_0, n1_1]; done)) (fun h41 => ?_) (fun h41 => ?_)
    · replace hs := condT h41 hs
      repeat (first | simp [g1_0, g1_1, g1_2, g1_3, n1_0, n1_1] | with_reducible first | refine awp_reg ?_ | refine awp_draw ?_ | refine ord_l (by kernel_rfl) ?_ | refine ord_e (by kernel_rfl) ?_ | refine ord_c (by kernel_rfl) ?_ | refine ord_d (by kernel_rfl) ?_ | refine And.intro (by omega) ?_ | refine optF_if (by omega) ?_)
      obtain rfl := Option.some.inj hs
      refine hQ _ _ (ret2g _ (Gh.refl _) (by simp [St.frz, St.pur, g1_0, g1_1, g1_2, g1_3, n1_0, n1_1]; rfl) (by first | rfl | (simp [St.frz, St.pur, g1_0, g1_1, g1_2, g1_3, n1_0, n1_1]; done) | (rw [if_pos (by first | omega | (simp; omega))]; simp [St.frz, St.pur, g1_0, g1_1, g1_2, g1_3, n1_0, n1_1]; first | omega | exact List.take_of_length_le (by simp; omega) | skip)) (by simp))
    · replace hs := condF h41 hs
      repeat (first | simp [g1_0, g1_1, g1_2, g1_3, n1_0, n1_1] | with_reducible first | refine awp_reg ?_ | refine And.intro (by omega) ?_ | refine optF_if (by omega) ?_)
      obtain rfl := Option.some.inj hs
      refine hQ _ _ (ret2g _ (Gh.refl _) (by simp [St.frz, St.pur, g1_0, g1_1, g1_2, g1_3, n1_0, n1_1]; rfl) (by first | rfl | (simp [St.frz, St.pur, g1_0, g1_1, g1_2, g1_3, n1_0, n1_1]; done) | (rw [if_pos (by first | omega | (simp; omega))]; simp [St.frz, St.pur, g1_0, g1_1, g1_2, g1_3, n1_0, n1_1]; first | omega | exact List.take_of_length_le (by simp; omega) | skip)) (by simp))
end Go.Dc
end
section
set_option linter.all false
namespace Go.Dc
open Go Go.Hw Go.Proofs
set_option maxRecDepth 100000
def program_checkThreads_L1 (a0 : Program) : List Start → Nat → Option (Unit ⊕ (Int × ProgramPlace))
  | [], k51 => some (.inl ())
  | x70 :: q66, k51 => cond (orB (ltI x70.Func 0) (!(ltI x70.Func ((a0.Funcs.length : Nat) : Int)))) (some (.inr (11, ({ fn := (-1), inst := (-1) } : ProgramPlace)))) (Option.bind (program_value x70.Arg) (fun y74 => cond (!y74) (some (.inr (2, ({ fn := (-1), inst := (-1) } : ProgramPlace)))) (program_checkThreads_L1 a0 q66 (k51 + 1))))

def program_checkThreads (a0 : Program) : Option (Int × ProgramPlace) :=
  cond (orB (ltI ((a0.Threads.length : Nat) : Int) 1) (ltI 8 ((a0.Threads.length : Nat) : Int))) (some (4, ({ fn := (-1), inst := (-1) } : ProgramPlace))) (Option.bind (α := Unit ⊕ (Int × ProgramPlace)) (Option.bind (program_checkThreads_L1 a0 a0.Threads 0) (fun o => match o with | .inl _ => some (.inl ()) | .inr r77 => some (.inr r77))) (fun o => match o with | .inl _ => some (0, ({ fn := (-1), inst := (-1) } : ProgramPlace)) | .inr r78 => some r78))

set_option maxHeartbeats 2000000 in
theorem at_program_checkThreads {a0 : Program} {r : Int × ProgramPlace} (hs : program_checkThreads a0 = some r) : At Tryd.prog 86 [.agg [.p (.sl a0.Vars.length (encL a0.Vars)), .p (.sl a0.Mutexes.length (encL a0.Mutexes)), .p (.sl a0.Conds.length (encL a0.Conds)), .p (.sl a0.Funcs.length (encL a0.Funcs)), .p (.sl a0.Threads.length (encL a0.Threads))]] (.tup [iV .i64 r.1, .agg [.p (.c (.int .i64 r.2.fn)), .p (.c (.int .i64 r.2.inst))]]) := by
  refine at_bound (by kernel_rfl) fun hb => ?_
  have hb1 : LenOk (.sl a0.Vars.length (encL a0.Vars)) := hb (.agg [.p (.sl a0.Vars.length (encL a0.Vars)), .p (.sl a0.Mutexes.length (encL a0.Mutexes)), .p (.sl a0.Conds.length (encL a0.Conds)), .p (.sl a0.Funcs.length (encL a0.Funcs)), .p (.sl a0.Threads.length (encL a0.Threads))]) (by simp) (.p (.sl a0.Vars.length (encL a0.Vars))) (by simp)
  have hb2 : LenOk (.sl a0.Mutexes.length (encL a0.Mutexes)) := hb (.agg [.p (.sl a0.Vars.length (encL a0.Vars)), .p (.sl a0.Mutexes.length (encL a0.Mutexes)), .p (.sl a0.Conds.length (encL a0.Conds)), .p (.sl a0.Funcs.length (encL a0.Funcs)), .p (.sl a0.Threads.length (encL a0.Threads))]) (by simp) (.p (.sl a0.Mutexes.length (encL a0.Mutexes))) (by simp)
  have hb3 : LenOk (.sl a0.Conds.length (encL a0.Conds)) := hb (.agg [.p (.sl a0.Vars.length (encL a0.Vars)), .p (.sl a0.Mutexes.length (encL a0.Mutexes)), .p (.sl a0.Conds.length (encL a0.Conds)), .p (.sl a0.Funcs.length (encL a0.Funcs)), .p (.sl a0.Threads.length (encL a0.Threads))]) (by simp) (.p (.sl a0.Conds.length (encL a0.Conds))) (by simp)
  have hb4 : LenOk (.sl a0.Funcs.length (encL a0.Funcs)) := hb (.agg [.p (.sl a0.Vars.length (encL a0.Vars)), .p (.sl a0.Mutexes.length (encL a0.Mutexes)), .p (.sl a0.Conds.length (encL a0.Conds)), .p (.sl a0.Funcs.length (encL a0.Funcs)), .p (.sl a0.Threads.length (encL a0.Threads))]) (by simp) (.p (.sl a0.Funcs.length (encL a0.Funcs))) (by simp)
  have hb5 : LenOk (.sl a0.Threads.length (encL a0.Threads)) := hb (.agg [.p (.sl a0.Vars.length (encL a0.Vars)), .p (.sl a0.Mutexes.length (encL a0.Mutexes)), .p (.sl a0.Conds.length (encL a0.Conds)), .p (.sl a0.Funcs.length (encL a0.Funcs)), .p (.sl a0.Threads.length (encL a0.Threads))]) (by simp) (.p (.sl a0.Threads.length (encL a0.Threads))) (by simp)
  refine at_code mixed Tryd.func86 (by kernel_rfl) rfl (by kernel_rfl) rfl fun Q hQ => ?_
  rw [program_checkThreads] at hs
  repeat (first | simp | with_reducible first | refine awp_reg ?_ | refine And.intro (by omega) ?_ | refine optF_if (by omega) ?_ | refine gsel_pure (by with_unfolding_all rfl) _ (fun hg => by (try simp at hg); first | (simp [hg]; rfl) | (simp; simp only [if_pos hg]; simp; rfl)) ?_)
  refine condK_spec (orB (ltI ((a0.Threads.length : Nat) : Int) 1) (ltI 8 ((a0.Threads.length : Nat) : Int))) (by first | rfl | (simp; done) | (simp [andB, orB, eqI, ltI, Int.natCast_inj]; done)) (fun h1 => ?_) (fun h1 => ?_)
  · replace hs := condT h1 hs
    repeat (first | simp | with_reducible first | refine awp_reg ?_ | refine awp_draw ?_ | refine ord_l (by kernel_rfl) ?_ | refine ord_e (by kernel_rfl) ?_ | refine ord_c (by kernel_rfl) ?_ | refine ord_d (by kernel_rfl) ?_ | refine And.intro (by omega) ?_ | refine optF_if (by omega) ?_ | refine gsel_pure (by with_unfolding_all rfl) _ (fun hg => by (try simp at hg); first | (simp [hg]; rfl) | (simp; simp only [if_pos hg]; simp; rfl)) ?_ | refine dskip_intro ?_ | refine dsel_pure (by with_unfolding_all rfl) _ (fun hg => by (try simp at hg); simp [hg]; rfl) ?_)
    obtain rfl := Option.some.inj hs
    refine hQ _ _ (ret2g _ (Gh.refl _) (by simp [St.frz, St.pur]; rfl) (by first | rfl | (simp [St.frz, St.pur]; done) | (rw [if_pos (by first | omega | (simp; omega))]; simp [St.frz, St.pur]; first | omega | exact List.take_of_length_le (by simp; omega) | skip)) (by simp))
  · replace hs := condF h1 hs
    repeat (first | simp [-awp_cond_eq, -awp_block_eq] | with_reducible first | refine awp_reg ?_ | refine And.intro (by omega) ?_ | refine optF_if (by omega) ?_ | refine gsel_pure (by with_unfolding_all rfl) _ (fun hg => by (try simp at hg); first | (simp [hg]; rfl) | (simp; simp only [if_pos hg]; simp; rfl)) ?_)
    obtain ⟨o39, e38, hs⟩ := bindO hs
    try dsimp only at hs
    refine awp_cutK (fun (v : Unit) (σ : St) => some (.inl v) = some o39 ∧ σ.env 3 = .cell (.ref (.o 1 2 0) 0) ∧ σ.env 4 = .cell (.ref (.o 2 1 0) 0) ∧ σ.hp (.o 1 2 0) = some (.cells [.p (.c (.int .i64 0)), .p (.c (.int .i64 0))]) ∧ σ.hp (.o 2 1 0) = some (.cells [.p (.c (.int .i64 (-1))), .p (.c (.int .i64 (-1)))]) ∧ 4 ≤ σ.gen) (by rfl) (fun Q hK40 hX41 => ?_) (fun v σ3 hp => ?_)
    · repeat (first | simp | with_reducible first | refine awp_reg ?_ | refine And.intro (by omega) ?_ | refine optF_if (by omega) ?_ | refine gsel_pure (by with_unfolding_all rfl) _ (fun hg => by (try simp at hg); first | (simp [hg]; rfl) | (simp; simp only [if_pos hg]; simp; rfl)) ?_)
      obtain ⟨o61, e60, e38⟩ := bindO e38
      try dsimp only at e38
      refine awp_loopW (fun (v : (List Start) × Nat) (σ : St) => program_checkThreads_L1 a0 v.1 v.2 = some o61 ∧ v.1 = a0.Threads.drop v.2 ∧ σ.env 1 = .cell (.ref (.o 1 0 0) 0) ∧ σ.env 3 = .cell (.ref (.o 1 2 0) 0) ∧ σ.env 4 = .cell (.ref (.o 2 1 0) 0) ∧ σ.env 20 = .cell (.p (.sl a0.Threads.length (encL a0.Threads))) ∧ σ.env 21 = iV .i64 ((a0.Threads.length : Nat) : Int) ∧ σ.env 22 = iV .i64 ((v.2 : Nat) : Int) ∧ σ.hp (.o 1 0 0) = some (.cells [.p (.sl a0.Vars.length (encL a0.Vars)), .p (.sl a0.Mutexes.length (encL a0.Mutexes)), .p (.sl a0.Conds.length (encL a0.Conds)), .p (.sl a0.Funcs.length (encL a0.Funcs)), .p (.sl a0.Threads.length (encL a0.Threads))]) ∧ σ.hp (.o 1 2 0) = some (.cells [.p (.c (.int .i64 0)), .p (.c (.int .i64 0))]) ∧ σ.hp (.o 2 1 0) = some (.cells [.p (.c (.int .i64 (-1))), .p (.c (.int .i64 (-1)))]) ∧ 4 ≤ σ.gen) (fun v => v.1.length) _ (Gh.refl _) (a0.Threads, 0) ⟨e60, by simp, by simp [St.frz, St.pur], by simp [St.frz, St.pur], by simp [St.frz, St.pur], by simp [St.frz, St.pur], by simp [St.frz, St.pur], by simp [St.frz, St.pur], by simp [St.frz, St.pur], by simp [St.frz, St.pur], by simp [St.frz, St.pur], by first | (simp; done) | (simp; omega) | omega⟩ fun v σ6 hp L62 hL63 => ?_
      obtain ⟨q65, k51⟩ := v
      dsimp only at hp hL63
      obtain ⟨e60, hd64, h5_1, h5_3, h5_4, h5_20, h5_21, h5_22, g5_0, g5_1, g5_2, n5_g⟩ := hp
      have n5_0 : ¬ (σ6.gen = 0) := by omega
      have n5_1 : ¬ (σ6.gen = 1) := by omega
      rcases q65 with _ | ⟨x70, q66⟩
      · have hlt67 := drop_end hd64
        rw [program_checkThreads_L1] at e60; try dsimp only at e60
        repeat (first | simp [h5_1, h5_3, h5_4, h5_20, h5_21, h5_22, g5_0, g5_1, g5_2, n5_0, n5_1] | with_reducible refine awp_reg ?_)
        refine condK_f (by simp [ltI]; omega) ?_
        obtain rfl := Option.some.inj e60
        try dsimp only at e38
        refine hK40 () _ _ (Gh.refl _) ⟨e38, ?_, ?_, ?_, ?_, by first | (simp; done) | (simp; omega) | omega⟩ <;> simp [St.frz, St.pur, h5_1, h5_3, h5_4, h5_20, h5_21, h5_22, g5_0, g5_1, g5_2, n5_0, n5_1]
      · obtain ⟨hx69, hlt67, hd71⟩ := drop_next hd64
        have ew68 := wrap_succ hlt67 (hb5).len
        rw [program_checkThreads_L1] at e60; try dsimp only at e60
        repeat (first | simp [h5_1, h5_3, h5_4, h5_20, h5_21, h5_22, g5_0, g5_1, g5_2, n5_0, n5_1, hlt67, ew68] | with_reducible refine awp_reg ?_)
        refine condK_t (by simp [ltI]; omega) ?_
        have f72 : partCV Tryd.prog 108 (encL a0.Threads) (k51 * 2) = some (.agg [.p (.c (.int .i64 x70.Func)), .p (.c (.int .i64 x70.Arg))]) := partCV_enc hx69 (f := 0) (by simp)
        repeat (first | simp [h5_1, h5_3, h5_4, h5_20, h5_21, h5_22, g5_0, g5_1, g5_2, n5_0, n5_1, hlt67, ew68, f72] | with_reducible first | refine awp_reg ?_ | refine And.intro (by omega) ?_ | refine optF_if (by omega) ?_ | refine gsel_pure (by with_unfolding_all rfl) _ (fun hg => by (try simp at hg); first | (simp [hg, h5_1, h5_3, h5_4, h5_20, h5_21, h5_22, g5_0, g5_1, g5_2, n5_0, n5_1, hlt67, ew68, f72]; rfl) | (simp [h5_1, h5_3, h5_4, h5_20, h5_21, h5_22, g5_0, g5_1, g5_2, n5_0, n5_1, hlt67, ew68, f72]; simp only [if_pos hg]; simp [h5_1, h5_3, h5_4, h5_20, h5_21, h5_22, g5_0, g5_1, g5_2, n5_0, n5_1, hlt67, ew68, f72]; rfl)) ?_)
        refine condK_spec (orB (ltI x70.Func 0) (!(ltI x70.Func ((a0.Funcs.length : Nat) : Int)))) (by first | rfl | (simp [h5_1, h5_3, h5_4, h5_20, h5_21, h5_22, g5_0, g5_1, g5_2, n5_0, n5_1, hlt67, ew68, f72]; done) | (simp [andB, orB, eqI, ltI, Int.natCast_inj, h5_1, h5_3, h5_4, h5_20, h5_21, h5_22, g5_0, g5_1, g5_2, n5_0, n5_1, hlt67, ew68, f72]; done)) (fun h73 => ?_) (fun h73 => ?_)
        · replace e60 := condT h73 e60
          repeat (first | simp [h5_1, h5_3, h5_4, h5_20, h5_21, h5_22, g5_0, g5_1, g5_2, n5_0, n5_1, hlt67, ew68, f72] | with_reducible first | refine awp_reg ?_ | refine awp_draw ?_ | refine ord_l (by kernel_rfl) ?_ | refine ord_e (by kernel_rfl) ?_ | refine ord_c (by kernel_rfl) ?_ | refine ord_d (by kernel_rfl) ?_ | refine And.intro (by omega) ?_ | refine optF_if (by omega) ?_ | refine gsel_pure (by with_unfolding_all rfl) _ (fun hg => by (try simp at hg); first | (simp [hg, h5_1, h5_3, h5_4, h5_20, h5_21, h5_22, g5_0, g5_1, g5_2, n5_0, n5_1, hlt67, ew68, f72]; rfl) | (simp [h5_1, h5_3, h5_4, h5_20, h5_21, h5_22, g5_0, g5_1, g5_2, n5_0, n5_1, hlt67, ew68, f72]; simp only [if_pos hg]; simp [h5_1, h5_3, h5_4, h5_20, h5_21, h5_22, g5_0, g5_1, g5_2, n5_0, n5_1, hlt67, ew68, f72]; rfl)) ?_ | refine dskip_intro ?_ | refine dsel_pure (by with_unfolding_all rfl) _ (fun hg => by (try simp at hg); simp [hg, h5_1, h5_3, h5_4, h5_20, h5_21, h5_22, g5_0, g5_1, g5_2, n5_0, n5_1, hlt67, ew68, f72]; rfl) ?_)
          obtain rfl := Option.some.inj e60
          try dsimp only at e38
          obtain rfl := Option.some.inj e38
          try dsimp only at hs
          refine hX41 _ _ (by simp) ?_
          repeat (first | simp [h5_1, h5_3, h5_4, h5_20, h5_21, h5_22, g5_0, g5_1, g5_2, n5_0, n5_1, hlt67, ew68, f72] | with_reducible first | refine awp_reg ?_ | refine awp_draw ?_ | refine ord_l (by kernel_rfl) ?_ | refine ord_e (by kernel_rfl) ?_ | refine ord_c (by kernel_rfl) ?_ | refine ord_d (by kernel_rfl) ?_ | refine And.intro (by omega) ?_ | refine optF_if (by omega) ?_ | refine gsel_pure (by with_unfolding_all rfl) _ (fun hg => by (try simp at hg); first | (simp [hg, h5_1, h5_3, h5_4, h5_20, h5_21, h5_22, g5_0, g5_1, g5_2, n5_0, n5_1, hlt67, ew68, f72]; rfl) | (simp [h5_1, h5_3, h5_4, h5_20, h5_21, h5_22, g5_0, g5_1, g5_2, n5_0, n5_1, hlt67, ew68, f72]; simp only [if_pos hg]; simp [h5_1, h5_3, h5_4, h5_20, h5_21, h5_22, g5_0, g5_1, g5_2, n5_0, n5_1, hlt67, ew68, f72]; rfl)) ?_ | refine dskip_intro ?_ | refine dsel_pure (by with_unfolding_all rfl) _ (fun hg => by (try simp at hg); simp [hg, h5_1, h5_3, h5_4, h5_20, h5_21, h5_22, g5_0, g5_1, g5_2, n5_0, n5_1, hlt67, ew68, f72]; rfl) ?_)
          obtain rfl := Option.some.inj hs
          refine hQ _ _ (ret2g _ (Gh.refl _) (by simp [St.frz, St.pur, h5_1, h5_3, h5_4, h5_20, h5_21, h5_22, g5_0, g5_1, g5_2, n5_0, n5_1, hlt67, ew68, f72]; rfl) (by first | rfl | (simp [St.frz, St.pur, h5_1, h5_3, h5_4, h5_20, h5_21, h5_22, g5_0, g5_1, g5_2, n5_0, n5_1, hlt67, ew68, f72]; done) | (rw [if_pos (by first | omega | (simp; omega))]; simp [St.frz, St.pur, h5_1, h5_3, h5_4, h5_20, h5_21, h5_22, g5_0, g5_1, g5_2, n5_0, n5_1, hlt67, ew68, f72]; first | omega | exact List.take_of_length_le (by simp; omega) | skip)) (by simp))
        · replace e60 := condF h73 e60
          repeat (first | simp [h5_1, h5_3, h5_4, h5_20, h5_21, h5_22, g5_0, g5_1, g5_2, n5_0, n5_1, hlt67, ew68, f72] | with_reducible first | refine awp_reg ?_ | refine And.intro (by omega) ?_ | refine optF_if (by omega) ?_ | refine gsel_pure (by with_unfolding_all rfl) _ (fun hg => by (try simp at hg); first | (simp [hg, h5_1, h5_3, h5_4, h5_20, h5_21, h5_22, g5_0, g5_1, g5_2, n5_0, n5_1, hlt67, ew68, f72]; rfl) | (simp [h5_1, h5_3, h5_4, h5_20, h5_21, h5_22, g5_0, g5_1, g5_2, n5_0, n5_1, hlt67, ew68, f72]; simp only [if_pos hg]; simp [h5_1, h5_3, h5_4, h5_20, h5_21, h5_22, g5_0, g5_1, g5_2, n5_0, n5_1, hlt67, ew68, f72]; rfl)) ?_)
          obtain ⟨y74, hx75, e60⟩ := bindO e60
          try dsimp only at e60
          refine callK_pure (at_program_value hx75) (by (first | simp [h5_1, h5_3, h5_4, h5_20, h5_21, h5_22, g5_0, g5_1, g5_2, n5_0, n5_1, hlt67, ew68, f72] | simp (disch := omega) [h5_1, h5_3, h5_4, h5_20, h5_21, h5_22, g5_0, g5_1, g5_2, n5_0, n5_1, hlt67, ew68, f72]); try rfl) (by simp) (by simp) ?_
          repeat (first | simp [h5_1, h5_3, h5_4, h5_20, h5_21, h5_22, g5_0, g5_1, g5_2, n5_0, n5_1, hlt67, ew68, f72] | with_reducible first | refine awp_reg ?_ | refine And.intro (by omega) ?_ | refine optF_if (by omega) ?_ | refine gsel_pure (by with_unfolding_all rfl) _ (fun hg => by (try simp at hg); first | (simp [hg, h5_1, h5_3, h5_4, h5_20, h5_21, h5_22, g5_0, g5_1, g5_2, n5_0, n5_1, hlt67, ew68, f72]; rfl) | (simp [h5_1, h5_3, h5_4, h5_20, h5_21, h5_22, g5_0, g5_1, g5_2, n5_0, n5_1, hlt67, ew68, f72]; simp only [if_pos hg]; simp [h5_1, h5_3, h5_4, h5_20, h5_21, h5_22, g5_0, g5_1, g5_2, n5_0, n5_1, hlt67, ew68, f72]; rfl)) ?_)
          refine condK_spec (!y74) (by first | rfl | (simp [h5_1, h5_3, h5_4, h5_20, h5_21, h5_22, g5_0, g5_1, g5_2, n5_0, n5_1, hlt67, ew68, f72]; done) | (simp [andB, orB, eqI, ltI, Int.natCast_inj, h5_1, h5_3, h5_4, h5_20, h5_21, h5_22, g5_0, g5_1, g5_2, n5_0, n5_1, hlt67, ew68, f72]; done)) (fun h76 => ?_) (fun h76 => ?_)
          · replace e60 := condT h76 e60
            repeat (first | simp [h5_1, h5_3, h5_4, h5_20, h5_21, h5_22, g5_0, g5_1, g5_2, n5_0, n5_1, hlt67, ew68, f72] | with_reducible first | refine awp_reg ?_ | refine awp_draw ?_ | refine ord_l (by kernel_rfl) ?_ | refine ord_e (by kernel_rfl) ?_ | refine ord_c (by kernel_rfl) ?_ | refine ord_d (by kernel_rfl) ?_ | refine And.intro (by omega) ?_ | refine optF_if (by omega) ?_ | refine gsel_pure (by with_unfolding_all rfl) _ (fun hg => by (try simp at hg); first | (simp [hg, h5_1, h5_3, h5_4, h5_20, h5_21, h5_22, g5_0, g5_1, g5_2, n5_0, n5_1, hlt67, ew68, f72]; rfl) | (simp [h5_1, h5_3, h5_4, h5_20, h5_21, h5_22, g5_0, g5_1, g5_2, n5_0, n5_1, hlt67, ew68, f72]; simp only [if_pos hg]; simp [h5_1, h5_3, h5_4, h5_20, h5_21, h5_22, g5_0, g5_1, g5_2, n5_0, n5_1, hlt67, ew68, f72]; rfl)) ?_ | refine dskip_intro ?_ | refine dsel_pure (by with_unfolding_all rfl) _ (fun hg => by (try simp at hg); simp [hg, h5_1, h5_3, h5_4, h5_20, h5_21, h5_22, g5_0, g5_1, g5_2, n5_0, n5_1, hlt67, ew68, f72]; rfl) ?_)
            obtain rfl := Option.some.inj e60
            try dsimp only at e38
            obtain rfl := Option.some.inj e38
            try dsimp only at hs
            refine hX41 _ _ (by simp) ?_
            repeat (first | simp [h5_1, h5_3, h5_4, h5_20, h5_21, h5_22, g5_0, g5_1, g5_2, n5_0, n5_1, hlt67, ew68, f72] | with_reducible first | refine awp_reg ?_ | refine awp_draw ?_ | refine ord_l (by kernel_rfl) ?_ | refine ord_e (by kernel_rfl) ?_ | refine ord_c (by kernel_rfl) ?_ | refine ord_d (by kernel_rfl) ?_ | refine And.intro (by omega) ?_ | refine optF_if (by omega) ?_ | refine gsel_pure (by with_unfolding_all rfl) _ (fun hg => by (try simp at hg); first | (simp [hg, h5_1, h5_3, h5_4, h5_20, h5_21, h5_22, g5_0, g5_1, g5_2, n5_0, n5_1, hlt67, ew68, f72]; rfl) | (simp [h5_1, h5_3, h5_4, h5_20, h5_21, h5_22, g5_0, g5_1, g5_2, n5_0, n5_1, hlt67, ew68, f72]; simp only [if_pos hg]; simp [h5_1, h5_3, h5_4, h5_20, h5_21, h5_22, g5_0, g5_1, g5_2, n5_0, n5_1, hlt67, ew68, f72]; rfl)) ?_ | refine dskip_intro ?_ | refine dsel_pure (by with_unfolding_all rfl) _ (fun hg => by (try simp at hg); simp [hg, h5_1, h5_3, h5_4, h5_20, h5_21, h5_22, g5_0, g5_1, g5_2, n5_0, n5_1, hlt67, ew68, f72]; rfl) ?_)
            obtain rfl := Option.some.inj hs
            refine hQ _ _ (ret2g _ (Gh.refl _) (by simp [St.frz, St.pur, h5_1, h5_3, h5_4, h5_20, h5_21, h5_22, g5_0, g5_1, g5_2, n5_0, n5_1, hlt67, ew68, f72]; rfl) (by first | rfl | (simp [St.frz, St.pur, h5_1, h5_3, h5_4, h5_20, h5_21, h5_22, g5_0, g5_1, g5_2, n5_0, n5_1, hlt67, ew68, f72]; done) | (rw [if_pos (by first | omega | (simp; omega))]; simp [St.frz, St.pur, h5_1, h5_3, h5_4, h5_20, h5_21, h5_22, g5_0, g5_1, g5_2, n5_0, n5_1, hlt67, ew68, f72]; first | omega | exact List.take_of_length_le (by simp; omega) | skip)) (by simp))
          · replace e60 := condF h76 e60
            repeat (first | simp [h5_1, h5_3, h5_4, h5_20, h5_21, h5_22, g5_0, g5_1, g5_2, n5_0, n5_1, hlt67, ew68, f72] | with_reducible first | refine awp_reg ?_ | refine And.intro (by omega) ?_ | refine optF_if (by omega) ?_ | refine gsel_pure (by with_unfolding_all rfl) _ (fun hg => by (try simp at hg); first | (simp [hg, h5_1, h5_3, h5_4, h5_20, h5_21, h5_22, g5_0, g5_1, g5_2, n5_0, n5_1, hlt67, ew68, f72]; rfl) | (simp [h5_1, h5_3, h5_4, h5_20, h5_21, h5_22, g5_0, g5_1, g5_2, n5_0, n5_1, hlt67, ew68, f72]; simp only [if_pos hg]; simp [h5_1, h5_3, h5_4, h5_20, h5_21, h5_22, g5_0, g5_1, g5_2, n5_0, n5_1, hlt67, ew68, f72]; rfl)) ?_)
            refine hL63 (q66, (k51 + 1)) _ _ (Gh.refl _) ⟨e60, hd71, ?_, ?_, ?_, ?_, ?_, ?_, ?_, ?_, ?_, by first | (simp; done) | (simp; omega) | omega⟩ (by simp) <;> simp [St.frz, St.pur, h5_1, h5_3, h5_4, h5_20, h5_21, h5_22, g5_0, g5_1, g5_2, n5_0, n5_1, hlt67, ew68, f72]
    · obtain ⟨e38, h4_3, h4_4, g4_0, g4_1, n4_g⟩ := hp
      obtain rfl := Option.some.inj e38
      try dsimp only at hs
      have n4_0 : ¬ (σ3.gen = 0) := by omega
      have n4_1 : ¬ (σ3.gen = 1) := by omega
      repeat (first | simp [h4_3, h4_4, g4_0, g4_1, n4_0, n4_1] | with_reducible first | refine awp_reg ?_ | refine awp_draw ?_ | refine ord_l (by kernel_rfl) ?_ | refine ord_e (by kernel_rfl) ?_ | refine ord_c (by kernel_rfl) ?_ | refine ord_d (by kernel_rfl) ?_ | refine And.intro (by omega) ?_ | refine optF_if (by omega) ?_ | refine gsel_pure (by with_unfolding_all rfl) _ (fun hg => by (try simp at hg); first | (simp [hg, h4_3, h4_4, g4_0, g4_1, n4_0, n4_1]; rfl) | (simp [h4_3, h4_4, g4_0, g4_1, n4_0, n4_1]; simp only [if_pos hg]; simp [h4_3, h4_4, g4_0, g4_1, n4_0, n4_1]; rfl)) ?_ | refine dskip_intro ?_ | refine dsel_pure (by with_unfolding_all rfl) _ (fun hg => by (try simp at hg); simp [hg, h4_3, h4_4, g4_0, g4_1, n4_0, n4_1]; rfl) ?_)
      obtain rfl := Option.some.inj hs
      refine hQ _ _ (ret2g _ (Gh.refl _) (by simp [St.frz, St.pur, h4_3, h4_4, g4_0, g4_1, n4_0, n4_1]; rfl) (by first | rfl | (simp [St.frz, St.pur, h4_3, h4_4, g4_0, g4_1, n4_0, n4_1]; done) | (rw [if_pos (by first | omega | (simp; omega))]; simp [St.frz, St.pur, h4_3, h4_4, g4_0, g4_1, n4_0, n4_1]; first | omega | exact List.take_of_length_le (by simp; omega) | skip)) (by simp))
end Go.Dc
end
section
set_option linter.all false
namespace Go.Dc
open Go Go.Hw Go.Proofs
set_option maxRecDepth 100000

def program_Check (fuelN : Nat) (a0 : Program) : Option (Int × Int × Int) :=
  Option.bind (program_checkNames a0) (fun y1 => Option.bind (α := Int × Int × Int) (cond (eqI y1.1 0) (Option.bind (program_checkObjects a0) (fun y14 => some ((y14.1, y14.2.fn, y14.2.inst)))) (some ((y1.1, y1.2.fn, y1.2.inst)))) (fun o => match o with | (i6, i7, i8) => Option.bind (α := Int × Int × Int) (cond (eqI i6 0) (Option.bind (program_checkCode fuelN a0) (fun y27 => some ((y27.1, y27.2.fn, y27.2.inst)))) (some ((i6, i7, i8)))) (fun o => match o with | (i19, i20, i21) => cond (eqI i19 0) (Option.bind (program_checkThreads a0) (fun y30 => cond (!(eqI y30.1 0)) (some (y30.1, y30.2.fn, y30.2.inst)) (some (0, (-1), (-1))))) (cond (!(eqI i19 0)) (some (i19, i20, i21)) (some (0, (-1), (-1)))))))

set_option maxHeartbeats 2000000 in
theorem at_program_Check {fuelN : Nat} {a0 : Program} {r : Int × Int × Int} (hs : program_Check fuelN a0 = some r) : At Tryd.prog 64 [.agg [.p (.sl a0.Vars.length (encL a0.Vars)), .p (.sl a0.Mutexes.length (encL a0.Mutexes)), .p (.sl a0.Conds.length (encL a0.Conds)), .p (.sl a0.Funcs.length (encL a0.Funcs)), .p (.sl a0.Threads.length (encL a0.Threads))]] (.tup [iV .i64 r.1, iV .i64 r.2.1, iV .i64 r.2.2]) := by
  refine at_bound (by kernel_rfl) fun hb => ?_
  have hb1 : LenOk (.sl a0.Vars.length (encL a0.Vars)) := hb (.agg [.p (.sl a0.Vars.length (encL a0.Vars)), .p (.sl a0.Mutexes.length (encL a0.Mutexes)), .p (.sl a0.Conds.length (encL a0.Conds)), .p (.sl a0.Funcs.length (encL a0.Funcs)), .p (.sl a0.Threads.length (encL a0.Threads))]) (by simp) (.p (.sl a0.Vars.length (encL a0.Vars))) (by simp)
  have hb2 : LenOk (.sl a0.Mutexes.length (encL a0.Mutexes)) := hb (.agg [.p (.sl a0.Vars.length (encL a0.Vars)), .p (.sl a0.Mutexes.length (encL a0.Mutexes)), .p (.sl a0.Conds.length (encL a0.Conds)), .p (.sl a0.Funcs.length (encL a0.Funcs)), .p (.sl a0.Threads.length (encL a0.Threads))]) (by simp) (.p (.sl a0.Mutexes.length (encL a0.Mutexes))) (by simp)
  have hb3 : LenOk (.sl a0.Conds.length (encL a0.Conds)) := hb (.agg [.p (.sl a0.Vars.length (encL a0.Vars)), .p (.sl a0.Mutexes.length (encL a0.Mutexes)), .p (.sl a0.Conds.length (encL a0.Conds)), .p (.sl a0.Funcs.length (encL a0.Funcs)), .p (.sl a0.Threads.length (encL a0.Threads))]) (by simp) (.p (.sl a0.Conds.length (encL a0.Conds))) (by simp)
  have hb4 : LenOk (.sl a0.Funcs.length (encL a0.Funcs)) := hb (.agg [.p (.sl a0.Vars.length (encL a0.Vars)), .p (.sl a0.Mutexes.length (encL a0.Mutexes)), .p (.sl a0.Conds.length (encL a0.Conds)), .p (.sl a0.Funcs.length (encL a0.Funcs)), .p (.sl a0.Threads.length (encL a0.Threads))]) (by simp) (.p (.sl a0.Funcs.length (encL a0.Funcs))) (by simp)
  have hb5 : LenOk (.sl a0.Threads.length (encL a0.Threads)) := hb (.agg [.p (.sl a0.Vars.length (encL a0.Vars)), .p (.sl a0.Mutexes.length (encL a0.Mutexes)), .p (.sl a0.Conds.length (encL a0.Conds)), .p (.sl a0.Funcs.length (encL a0.Funcs)), .p (.sl a0.Threads.length (encL a0.Threads))]) (by simp) (.p (.sl a0.Threads.length (encL a0.Threads))) (by simp)
  refine at_code mixed Tryd.func64 (by kernel_rfl) rfl (by kernel_rfl) rfl fun Q hQ => ?_
  rw [program_Check] at hs
  repeat (first | simp | with_reducible first | refine awp_reg ?_ | refine And.intro (by omega) ?_ | refine optF_if (by omega) ?_)
  obtain ⟨y1, hx2, hs⟩ := bindO hs
  try dsimp only at hs
  refine callK_pure (at_program_checkNames hx2) (by (first | simp | simp (disch := omega) []); try rfl) (by simp) (by simp) ?_
  repeat (first | simp [-awp_cond_eq, -awp_block_eq] | with_reducible first | refine awp_reg ?_ | refine And.intro (by omega) ?_ | refine optF_if (by omega) ?_)
  obtain ⟨o10, e9, hs⟩ := bindO hs
  try dsimp only at hs
  refine awp_cutK (fun (v : Int × Int × Int) (σ : St) => some (v) = some o10 ∧ σ.env 1 = .cell (.ref (.o 1 0 0) 0) ∧ σ.env 5 = iV .i64 v.1 ∧ σ.env 6 = .cell (.ref (.o 2 5 0) 0) ∧ σ.hp (.o 1 0 0) = some (.cells [.p (.sl a0.Vars.length (encL a0.Vars)), .p (.sl a0.Mutexes.length (encL a0.Mutexes)), .p (.sl a0.Conds.length (encL a0.Conds)), .p (.sl a0.Funcs.length (encL a0.Funcs)), .p (.sl a0.Threads.length (encL a0.Threads))]) ∧ σ.hp (.o 2 5 0) = some (.cells [.p (.c (.int .i64 v.2.1)), .p (.c (.int .i64 v.2.2))]) ∧ 3 ≤ σ.gen) (by rfl) (fun Q hK11 hX12 => ?_) (fun v σ1 hp => ?_)
  · repeat (first | simp | with_reducible first | refine awp_reg ?_ | refine And.intro (by omega) ?_ | refine optF_if (by omega) ?_)
    refine condK_spec (eqI y1.1 0) (by first | rfl | (simp; done) | (simp [andB, orB, eqI, ltI, Int.natCast_inj]; done)) (fun h13 => ?_) (fun h13 => ?_)
    · replace e9 := condT h13 e9
      repeat (first | simp | with_reducible first | refine awp_reg ?_ | refine And.intro (by omega) ?_ | refine optF_if (by omega) ?_)
      obtain ⟨y14, hx15, e9⟩ := bindO e9
      try dsimp only at e9
      refine callK_pure (at_program_checkObjects hx15) (by (first | simp | simp (disch := omega) []); try rfl) (by simp) (by simp) ?_
      repeat (first | simp | with_reducible first | refine awp_reg ?_ | refine And.intro (by omega) ?_ | refine optF_if (by omega) ?_)
      exact hK11 (y14.1, y14.2.fn, y14.2.inst) _ _ (Gh.refl _) ⟨e9, by simp [St.frz, St.pur], by simp [St.frz, St.pur], by simp [St.frz, St.pur], by simp [St.frz, St.pur], by simp [St.frz, St.pur], by first | (simp; done) | (simp; omega) | omega⟩
    · replace e9 := condF h13 e9
      repeat (first | simp | with_reducible first | refine awp_reg ?_ | refine And.intro (by omega) ?_ | refine optF_if (by omega) ?_)
      exact hK11 (y1.1, y1.2.fn, y1.2.inst) _ _ (Gh.refl _) ⟨e9, by simp [St.frz, St.pur], by simp [St.frz, St.pur], by simp [St.frz, St.pur], by simp [St.frz, St.pur], by simp [St.frz, St.pur], by first | (simp; done) | (simp; omega) | omega⟩
  · obtain ⟨i6, i7, i8⟩ := v
    dsimp only at hp
    obtain ⟨e9, h2_1, h2_5, h2_6, g2_0, g2_1, n2_g⟩ := hp
    obtain rfl := Option.some.inj e9
    try dsimp only at hs
    have n2_0 : ¬ (σ1.gen = 0) := by omega
    have n2_1 : ¬ (σ1.gen = 1) := by omega
    repeat (first | simp [-awp_cond_eq, -awp_block_eq, h2_1, h2_5, h2_6, g2_0, g2_1, n2_0, n2_1] | with_reducible first | refine awp_reg ?_ | refine And.intro (by omega) ?_ | refine optF_if (by omega) ?_)
    obtain ⟨o23, e22, hs⟩ := bindO hs
    try dsimp only at hs
    refine awp_cutK (fun (v : Int × Int × Int) (σ : St) => some (v) = some o23 ∧ σ.env 1 = .cell (.ref (.o 1 0 0) 0) ∧ σ.env 5 = iV .i64 v.1 ∧ σ.env 6 = .cell (.ref (.o 2 5 0) 0) ∧ σ.hp (.o 1 0 0) = some (.cells [.p (.sl a0.Vars.length (encL a0.Vars)), .p (.sl a0.Mutexes.length (encL a0.Mutexes)), .p (.sl a0.Conds.length (encL a0.Conds)), .p (.sl a0.Funcs.length (encL a0.Funcs)), .p (.sl a0.Threads.length (encL a0.Threads))]) ∧ σ.hp (.o 2 5 0) = some (.cells [.p (.c (.int .i64 v.2.1)), .p (.c (.int .i64 v.2.2))]) ∧ (σ1.gen + 1) ≤ σ.gen) (by rfl) (fun Q hK24 hX25 => ?_) (fun v σ3 hp => ?_)
    · repeat (first | simp [h2_1, h2_5, h2_6, g2_0, g2_1, n2_0, n2_1] | with_reducible first | refine awp_reg ?_ | refine And.intro (by omega) ?_ | refine optF_if (by omega) ?_)
      refine condK_spec (eqI i6 0) (by first | rfl | (simp [h2_1, h2_5, h2_6, g2_0, g2_1, n2_0, n2_1]; done) | (simp [andB, orB, eqI, ltI, Int.natCast_inj, h2_1, h2_5, h2_6, g2_0, g2_1, n2_0, n2_1]; done)) (fun h26 => ?_) (fun h26 => ?_)
      · replace e22 := condT h26 e22
        repeat (first | simp [h2_1, h2_5, h2_6, g2_0, g2_1, n2_0, n2_1] | with_reducible first | refine awp_reg ?_ | refine And.intro (by omega) ?_ | refine optF_if (by omega) ?_)
        obtain ⟨y27, hx28, e22⟩ := bindO e22
        try dsimp only at e22
        refine callK_pure (at_program_checkCode hx28) (by (first | simp [h2_1, h2_5, h2_6, g2_0, g2_1, n2_0, n2_1] | simp (disch := omega) [h2_1, h2_5, h2_6, g2_0, g2_1, n2_0, n2_1]); try rfl) (by simp) (by simp) ?_
        repeat (first | simp [h2_1, h2_5, h2_6, g2_0, g2_1, n2_0, n2_1] | with_reducible first | refine awp_reg ?_ | refine And.intro (by omega) ?_ | refine optF_if (by omega) ?_)
        refine hK24 (y27.1, y27.2.fn, y27.2.inst) _ _ (Gh.refl _) ⟨e22, ?_, ?_, ?_, ?_, ?_, by first | (simp; done) | (simp; omega) | omega⟩ <;> simp [St.frz, St.pur, h2_1, h2_5, h2_6, g2_0, g2_1, n2_0, n2_1]
      · replace e22 := condF h26 e22
        repeat (first | simp [h2_1, h2_5, h2_6, g2_0, g2_1, n2_0, n2_1] | with_reducible first | refine awp_reg ?_ | refine And.intro (by omega) ?_ | refine optF_if (by omega) ?_)
        refine hK24 (i6, i7, i8) _ _ (Gh.refl _) ⟨e22, ?_, ?_, ?_, ?_, ?_, by first | (simp; done) | (simp; omega) | omega⟩ <;> simp [St.frz, St.pur, h2_1, h2_5, h2_6, g2_0, g2_1, n2_0, n2_1]
    · obtain ⟨i19, i20, i21⟩ := v
      dsimp only at hp
      obtain ⟨e22, h4_1, h4_5, h4_6, g4_0, g4_1, n4_g⟩ := hp
      obtain rfl := Option.some.inj e22
      try dsimp only at hs
      have n4_0 : ¬ (σ3.gen = 0) := by omega
      have n4_1 : ¬ (σ3.gen = 1) := by omega
      repeat (first | simp [h4_1, h4_5, h4_6, g4_0, g4_1, n4_0, n4_1] | with_reducible first | refine awp_reg ?_ | refine And.intro (by omega) ?_ | refine optF_if (by omega) ?_)
      refine condK_spec (eqI i19 0) (by first | rfl | (simp [h4_1, h4_5, h4_6, g4_0, g4_1, n4_0, n4_1]; done) | (simp [andB, orB, eqI, ltI, Int.natCast_inj, h4_1, h4_5, h4_6, g4_0, g4_1, n4_0, n4_1]; done)) (fun h29 => ?_) (fun h29 => ?_)
      · replace hs := condT h29 hs
        repeat (first | simp [h4_1, h4_5, h4_6, g4_0, g4_1, n4_0, n4_1] | with_reducible first | refine awp_reg ?_ | refine And.intro (by omega) ?_ | refine optF_if (by omega) ?_)
        obtain ⟨y30, hx31, hs⟩ := bindO hs
        try dsimp only at hs
        refine callK_pure (at_program_checkThreads hx31) (by (first | simp [h4_1, h4_5, h4_6, g4_0, g4_1, n4_0, n4_1] | simp (disch := omega) [h4_1, h4_5, h4_6, g4_0, g4_1, n4_0, n4_1]); try rfl) (by simp) (by simp) ?_
        repeat (first | simp [h4_1, h4_5, h4_6, g4_0, g4_1, n4_0, n4_1] | with_reducible first | refine awp_reg ?_ | refine And.intro (by omega) ?_ | refine optF_if (by omega) ?_)
        refine condK_spec (!(eqI y30.1 0)) (by first | rfl | (simp [h4_1, h4_5, h4_6, g4_0, g4_1, n4_0, n4_1]; done) | (simp [andB, orB, eqI, ltI, Int.natCast_inj, h4_1, h4_5, h4_6, g4_0, g4_1, n4_0, n4_1]; done)) (fun h32 => ?_) (fun h32 => ?_)
        · replace hs := condT h32 hs
          repeat (first | simp [h4_1, h4_5, h4_6, g4_0, g4_1, n4_0, n4_1] | with_reducible first | refine awp_reg ?_ | refine awp_draw ?_ | refine ord_l (by kernel_rfl) ?_ | refine ord_e (by kernel_rfl) ?_ | refine ord_c (by kernel_rfl) ?_ | refine ord_d (by kernel_rfl) ?_ | refine And.intro (by omega) ?_ | refine optF_if (by omega) ?_)
          obtain rfl := Option.some.inj hs
          refine hQ _ _ (ret2g _ (Gh.refl _) (by simp [St.frz, St.pur, h4_1, h4_5, h4_6, g4_0, g4_1, n4_0, n4_1]; rfl) (by first | rfl | (simp [St.frz, St.pur, h4_1, h4_5, h4_6, g4_0, g4_1, n4_0, n4_1]; done) | (rw [if_pos (by first | omega | (simp; omega))]; simp [St.frz, St.pur, h4_1, h4_5, h4_6, g4_0, g4_1, n4_0, n4_1]; first | omega | exact List.take_of_length_le (by simp; omega) | skip)) (by simp))
        · replace hs := condF h32 hs
          repeat (first | simp [h4_1, h4_5, h4_6, g4_0, g4_1, n4_0, n4_1] | with_reducible first | refine awp_reg ?_ | refine And.intro (by omega) ?_ | refine optF_if (by omega) ?_)
          obtain rfl := Option.some.inj hs
          refine hQ _ _ (ret2g _ (Gh.refl _) (by simp [St.frz, St.pur, h4_1, h4_5, h4_6, g4_0, g4_1, n4_0, n4_1]; rfl) (by first | rfl | (simp [St.frz, St.pur, h4_1, h4_5, h4_6, g4_0, g4_1, n4_0, n4_1]; done) | (rw [if_pos (by first | omega | (simp; omega))]; simp [St.frz, St.pur, h4_1, h4_5, h4_6, g4_0, g4_1, n4_0, n4_1]; first | omega | exact List.take_of_length_le (by simp; omega) | skip)) (by simp))
      · replace hs := condF h29 hs
        repeat (first | simp [h4_1, h4_5, h4_6, g4_0, g4_1, n4_0, n4_1] | with_reducible first | refine awp_reg ?_ | refine And.intro (by omega) ?_ | refine optF_if (by omega) ?_)
        refine condK_spec (!(eqI i19 0)) (by first | rfl | (simp [h4_1, h4_5, h4_6, g4_0, g4_1, n4_0, n4_1]; done) | (simp [andB, orB, eqI, ltI, Int.natCast_inj, h4_1, h4_5, h4_6, g4_0, g4_1, n4_0, n4_1]; done)) (fun h33 => ?_) (fun h33 => ?_)
        · replace hs := condT h33 hs
          repeat (first | simp [h4_1, h4_5, h4_6, g4_0, g4_1, n4_0, n4_1] | with_reducible first | refine awp_reg ?_ | refine awp_draw ?_ | refine ord_l (by kernel_rfl) ?_ | refine ord_e (by kernel_rfl) ?_ | refine ord_c (by kernel_rfl) ?_ | refine ord_d (by kernel_rfl) ?_ | refine And.intro (by omega) ?_ | refine optF_if (by omega) ?_)
          obtain rfl := Option.some.inj hs
          refine hQ _ _ (ret2g _ (Gh.refl _) (by simp [St.frz, St.pur, h4_1, h4_5, h4_6, g4_0, g4_1, n4_0, n4_1]; rfl) (by first | rfl | (simp [St.frz, St.pur, h4_1, h4_5, h4_6, g4_0, g4_1, n4_0, n4_1]; done) | (rw [if_pos (by first | omega | (simp; omega))]; simp [St.frz, St.pur, h4_1, h4_5, h4_6, g4_0, g4_1, n4_0, n4_1]; first | omega | exact List.take_of_length_le (by simp; omega) | skip)) (by simp))
        · replace hs := condF h33 hs
          repeat (first | simp [h4_1, h4_5, h4_6, g4_0, g4_1, n4_0, n4_1] | with_reducible first | refine awp_reg ?_ | refine And.intro (by omega) ?_ | refine optF_if (by omega) ?_)
          obtain rfl := Option.some.inj hs
          refine hQ _ _ (ret2g _ (Gh.refl _) (by simp [St.frz, St.pur, h4_1, h4_5, h4_6, g4_0, g4_1, n4_0, n4_1]; rfl) (by first | rfl | (simp [St.frz, St.pur, h4_1, h4_5, h4_6, g4_0, g4_1, n4_0, n4_1]; done) | (rw [if_pos (by first | omega | (simp; omega))]; simp [St.frz, St.pur, h4_1, h4_5, h4_6, g4_0, g4_1, n4_0, n4_1]; first | omega | exact List.take_of_length_le (by simp; omega) | skip)) (by simp))
end Go.Dc
end
section
set_option linter.all false
namespace Go.Dc
open Go Go.Hw Go.Proofs
set_option maxRecDepth 100000

def r08_value (a0 : Int) : Option Bool :=
  some (andB (!(ltI a0 (-2147483648))) (!(ltI 2147483647 a0)))

set_option maxHeartbeats 2000000 in
theorem at_r08_value {a0 : Int} {r : Bool} (hs : r08_value a0 = some r) : At Tryd.prog 93 [iV .i64 a0] (bV r) := by
  refine at_bound (by kernel_rfl) fun hb => ?_
  refine at_code mixed Tryd.func93 (by kernel_rfl) rfl (by kernel_rfl) rfl fun Q hQ => ?_
  rw [r08_value] at hs
  repeat (first | simp | with_reducible first | refine awp_reg ?_ | refine gsel_pure (by with_unfolding_all rfl) _ (fun hg => by (try simp at hg); first | (simp [hg]; rfl) | (simp; simp only [if_pos hg]; simp; rfl)) ?_)
  obtain rfl := Option.some.inj hs
  refine hQ _ _ (ret2g _ (Gh.refl _) (by simp [St.frz, St.pur]; rfl) (by first | rfl | (simp [St.frz, St.pur]; done) | (rw [if_pos (by first | omega | (simp; omega))]; simp [St.frz, St.pur]; first | omega | exact List.take_of_length_le (by simp; omega) | skip)) (by simp))
end Go.Dc
end
