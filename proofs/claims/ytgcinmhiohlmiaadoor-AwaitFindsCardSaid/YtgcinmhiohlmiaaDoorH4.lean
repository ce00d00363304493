/- Contracts of functions, by their numbers, and the laws that walk them. Conditions: as each states. -/
import Derived.Test.YtgcinmhiohlmiaaDoorH3
set_option linter.all false
section
set_option linter.all false
namespace Go.Dc
open Go Go.Hw Go.Proofs
set_option maxRecDepth 100000
def program_varNames_L1 : List Var → (List ByteArray) → Nat → Option (List ByteArray)
  | [], l58, k59 => some (l58)
  | x80 :: q76, l58, k59 => Option.bind (some ([x80.Name])) (fun l83 => guardO (limB 16 (l58.length + l83.length)) (Option.bind (some (l58 ++ l83)) (fun l86 => program_varNames_L1 q76 l86 (k59 + 1))))

def program_varNames (a0 : Program) : Option (List ByteArray) :=
  Option.bind (α := (List ByteArray)) (Option.bind (program_varNames_L1 a0.Vars [] 0) (fun l69 => some (l69))) (fun l42 => some l42)

set_option maxHeartbeats 2000000 in
theorem at_program_varNames {a0 : Program} {r : (List ByteArray)} (hs : program_varNames a0 = some r) : At Tryd.prog 110 [.agg [.p (.sl a0.Vars.length (encL a0.Vars)), .p (.sl a0.Mutexes.length (encL a0.Mutexes)), .p (.sl a0.Conds.length (encL a0.Conds)), .p (.sl a0.Funcs.length (encL a0.Funcs)), .p (.sl a0.Threads.length (encL a0.Threads))]] (.cell (.p (.sl r.length (encL r)))) := by
  refine at_bound (by kernel_rfl) fun hb => ?_
  have hb1 : LenOk (.sl a0.Vars.length (encL a0.Vars)) := hb (.agg [.p (.sl a0.Vars.length (encL a0.Vars)), .p (.sl a0.Mutexes.length (encL a0.Mutexes)), .p (.sl a0.Conds.length (encL a0.Conds)), .p (.sl a0.Funcs.length (encL a0.Funcs)), .p (.sl a0.Threads.length (encL a0.Threads))]) (by simp) (.p (.sl a0.Vars.length (encL a0.Vars))) (by simp)
  have hb2 : LenOk (.sl a0.Mutexes.length (encL a0.Mutexes)) := hb (.agg [.p (.sl a0.Vars.length (encL a0.Vars)), .p (.sl a0.Mutexes.length (encL a0.Mutexes)), .p (.sl a0.Conds.length (encL a0.Conds)), .p (.sl a0.Funcs.length (encL a0.Funcs)), .p (.sl a0.Threads.length (encL a0.Threads))]) (by simp) (.p (.sl a0.Mutexes.length (encL a0.Mutexes))) (by simp)
  have hb3 : LenOk (.sl a0.Conds.length (encL a0.Conds)) := hb (.agg [.p (.sl a0.Vars.length (encL a0.Vars)), .p (.sl a0.Mutexes.length (encL a0.Mutexes)), .p (.sl a0.Conds.length (encL a0.Conds)), .p (.sl a0.Funcs.length (encL a0.Funcs)), .p (.sl a0.Threads.length (encL a0.Threads))]) (by simp) (.p (.sl a0.Conds.length (encL a0.Conds))) (by simp)
  have hb4 : LenOk (.sl a0.Funcs.length (encL a0.Funcs)) := hb (.agg [.p (.sl a0.Vars.length (encL a0.Vars)), .p (.sl a0.Mutexes.length (encL a0.Mutexes)), .p (.sl a0.Conds.length (encL a0.Conds)), .p (.sl a0.Funcs.length (encL a0.Funcs)), .p (.sl a0.Threads.length (encL a0.Threads))]) (by simp) (.p (.sl a0.Funcs.length (encL a0.Funcs))) (by simp)
  have hb5 : LenOk (.sl a0.Threads.length (encL a0.Threads)) := hb (.agg [.p (.sl a0.Vars.length (encL a0.Vars)), .p (.sl a0.Mutexes.length (encL a0.Mutexes)), .p (.sl a0.Conds.length (encL a0.Conds)), .p (.sl a0.Funcs.length (encL a0.Funcs)), .p (.sl a0.Threads.length (encL a0.Threads))]) (by simp) (.p (.sl a0.Threads.length (encL a0.Threads))) (by simp)
  refine at_code mixed Tryd.func110 (by kernel_rfl) rfl (by kernel_rfl) rfl fun Q hQ => ?_
  rw [program_varNames] at hs
  repeat (first | simp [-awp_cond_eq, -awp_block_eq] | with_reducible refine awp_reg ?_ | with_reducible refine And.intro (by omega) ?_ | with_reducible refine optF_if (by omega) ?_)
  obtain ⟨o44, e43, hs⟩ := bindO hs
  try dsimp only at hs
  refine awp_cutK (fun (v : (List ByteArray)) (σ : St) => some (v) = some o44 ∧ σ.env 3 = .cell (.sl (.l 2) 0 1 v.length) ∧ σ.hp (.l 2) = some (.pure (encL v)) ∧ 3 ≤ σ.gen) (by rfl) (fun Q hK45 hX46 => ?_) (fun l42 σ3 hp => ?_)
  · repeat (first | simp | with_reducible refine awp_reg ?_ | with_reducible refine And.intro (by omega) ?_ | with_reducible refine optF_if (by omega) ?_)
    obtain ⟨o71, e70, e43⟩ := bindO e43
    try dsimp only at e43
    refine awp_loopW (fun (v : (List Var) × (List ByteArray) × Nat) (σ : St) => program_varNames_L1 v.1 v.2.1 v.2.2 = some o71 ∧ v.1 = a0.Vars.drop v.2.2 ∧ σ.env 3 = .cell (.sl (.l 6) 0 1 v.2.1.length) ∧ σ.env 7 = .cell (.p (.sl a0.Vars.length (encL a0.Vars))) ∧ σ.env 8 = iV .i64 ((a0.Vars.length : Nat) : Int) ∧ σ.env 9 = iV .i64 ((v.2.2 : Nat) : Int) ∧ σ.hp (.l 6) = some (.pure (encL v.2.1)) ∧ 3 ≤ σ.gen) (fun v => v.1.length) _ (Gh.void _ (.l 6) 3 1 rfl (by simp)) (a0.Vars, [], 0) ⟨e70, by simp, by simp [St.frz, St.pur], by simp [St.frz, St.pur], by simp [St.frz, St.pur], by simp [St.frz, St.pur], by simp [St.frz, St.pur], by first | (simp; done) | (simp; omega) | omega⟩ fun v σ6 hp L72 hL73 => ?_
    obtain ⟨q75, l58, k59⟩ := v
    dsimp only at hp hL73
    obtain ⟨e70, hd74, h5_3, h5_7, h5_8, h5_9, g5_0, n5_g⟩ := hp
    rcases q75 with _ | ⟨x80, q76⟩
    · have hlt77 := drop_end hd74
      rw [program_varNames_L1] at e70; try dsimp only at e70
      repeat (first | simp [h5_3, h5_7, h5_8, h5_9, g5_0] | with_reducible refine awp_reg ?_)
      refine condK_f (by simp [ltI]; omega) ?_
      obtain rfl := Option.some.inj e70
      try dsimp only at e43
      exact hK45 l58 _ _ (Gh.ren _ (.l 6) (.l 2) (by simp) rfl rfl) ⟨e43, by simp [St.frz, St.pur, h5_3, h5_7, h5_8, h5_9, g5_0], by simp [St.frz, St.pur, h5_3, h5_7, h5_8, h5_9, g5_0], by first | (simp; done) | (simp; omega) | omega⟩
    · obtain ⟨hx79, hlt77, hd81⟩ := drop_next hd74
      have ew78 := wrap_succ hlt77 (hb1).len
      rw [program_varNames_L1] at e70; try dsimp only at e70
      repeat (first | simp [h5_3, h5_7, h5_8, h5_9, g5_0, hlt77, ew78] | with_reducible refine awp_reg ?_)
      refine condK_t (by simp [ltI]; omega) ?_
      have f82 : partCV Tryd.prog 105 (encL a0.Vars) (k59 * 2) = some (.agg [.p (.c (.string x80.Name)), .p (.c (.int .i64 x80.Init))]) := partCV_enc hx79 (f := 0) (by simp)
      obtain ⟨l83, hx84, e70⟩ := bindO e70
      try dsimp only at e70
      replace hx84 := (Option.some.inj hx84).symm
      have hx84n : l83.length = 1 := by rw [hx84]; rfl
      obtain ⟨g85, e70⟩ := guardO_some e70
      have g85 := limB_t g85
      obtain ⟨g85a, g85b⟩ := g85
      obtain ⟨l86, hx87, e70⟩ := bindO e70
      try dsimp only at e70
      replace hx87 := (Option.some.inj hx87).symm
      have hx87n : l86.length = (l58.length + l83.length) := by rw [hx87]; simp
      have hx87e : encL l86 = encL l58 ++ encL l83 := by rw [hx87]; simp
      repeat (first | simp [h5_3, h5_7, h5_8, h5_9, g5_0, hlt77, ew78, f82, hx84, hx87n, hx87e] | with_reducible refine awp_reg ?_ | with_reducible refine And.intro (by omega) ?_ | with_reducible refine optF_if (by omega) ?_)
      exact hL73 (q76, l86, (k59 + 1)) _ _ (Gh.ren _ (.o (σ6.gen + 3) 4 0) (.l 6) (by simp) rfl rfl) ⟨e70, hd81, by simp [St.frz, St.pur, h5_3, h5_7, h5_8, h5_9, g5_0, hlt77, ew78, f82, hx84, hx87n, hx87e], by simp [St.frz, St.pur, h5_3, h5_7, h5_8, h5_9, g5_0, hlt77, ew78, f82, hx84, hx87n, hx87e], by simp [St.frz, St.pur, h5_3, h5_7, h5_8, h5_9, g5_0, hlt77, ew78, f82, hx84, hx87n, hx87e], by simp [St.frz, St.pur, h5_3, h5_7, h5_8, h5_9, g5_0, hlt77, ew78, f82, hx84, hx87n, hx87e], by simp [St.frz, St.pur, h5_3, h5_7, h5_8, h5_9, g5_0, hlt77, ew78, f82, hx84, hx87n, hx87e], by first | (simp; done) | (simp; omega) | omega⟩ (by simp)
  · obtain ⟨e43, h4_3, g4_0, n4_g⟩ := hp
    obtain rfl := Option.some.inj e43
    try dsimp only at hs
    repeat (first | simp [h4_3, g4_0] | with_reducible refine awp_reg ?_ | with_reducible refine And.intro (by omega) ?_ | with_reducible refine optF_if (by omega) ?_)
    obtain rfl := Option.some.inj hs
    refine hQ _ _ (ret2g _ (Gh.frz _ (.l 2)) (by simp [St.frz, St.pur, h4_3, g4_0]; rfl) (by first | rfl | (simp [St.frz, St.pur, h4_3, g4_0]; done) | (rw [if_pos (by first | omega | (simp; omega))]; simp [St.frz, St.pur, h4_3, g4_0]; first | omega | exact List.take_of_length_le (by simp; omega) | skip)) (by simp))
end Go.Dc
end
section
set_option linter.all false
namespace Go.Dc
open Go Go.Hw Go.Proofs
set_option maxRecDepth 100000

def program_letter (a0 : UInt8) : Option Bool :=
  some (orB (andB (!(ltI (a0.toNat : Int) 97)) (!(ltI 122 (a0.toNat : Int)))) (andB (!(ltI (a0.toNat : Int) 65)) (!(ltI 90 (a0.toNat : Int)))))

set_option maxHeartbeats 2000000 in
theorem at_program_letter {a0 : UInt8} {r : Bool} (hs : program_letter a0 = some r) : At Tryd.prog 125 [iV .u8 (a0.toNat : Int)] (bV r) := by
  refine at_bound (by kernel_rfl) fun hb => ?_
  refine at_code mixed Tryd.func125 (by kernel_rfl) rfl (by kernel_rfl) rfl fun Q hQ => ?_
  rw [program_letter] at hs
  repeat (first | simp | with_reducible refine awp_reg ?_ | with_reducible refine gsel_pure (by with_unfolding_all rfl) _ (fun hg => by (try simp at hg); first | (simp [hg]; rfl) | (simp; simp only [if_pos hg]; simp; rfl)) ?_)
  obtain rfl := Option.some.inj hs
  refine hQ _ _ (ret2g _ (Gh.refl _) (by simp [St.frz, St.pur]; rfl) (by first | rfl | (simp [St.frz, St.pur]; done) | (rw [if_pos (by first | omega | (simp; omega))]; simp [St.frz, St.pur]; first | omega | exact List.take_of_length_le (by simp; omega) | skip)) (by simp))
end Go.Dc
end
section
set_option linter.all false
namespace Go.Dc
open Go Go.Hw Go.Proofs
set_option maxRecDepth 100000
def program_ValidName_L1 (a0 : ByteArray) : Nat → Nat → Option (Unit ⊕ Bool)
  | 0, k46 => some (.inl ())
  | q59 + 1, k46 => Option.bind (a0[k46]?) (fun c64 => Option.bind (program_letter c64) (fun y66 => cond (andB (andB (!y66) (!(eqI (c64.toNat : Int) 95))) (orB (ltI (c64.toNat : Int) 48) (ltI 57 (c64.toNat : Int)))) (some (.inr false)) (program_ValidName_L1 a0 q59 (k46 + 1))))

def program_ValidName (a0 : ByteArray) : Option Bool :=
  guardO (orB (!(!(orB (ltI ((a0.size : Nat) : Int) 1) (ltI 16 ((a0.size : Nat) : Int))))) (inB ((0 : Nat) : Int) a0.size)) (guardO (orB (!(!(orB (ltI ((a0.size : Nat) : Int) 1) (ltI 16 ((a0.size : Nat) : Int))))) ((program_letter (bget a0 0)).isSome)) (cond (orB (orB (ltI ((a0.size : Nat) : Int) 1) (ltI 16 ((a0.size : Nat) : Int))) (!((program_letter (bget a0 0)).getD default))) (some false) (Option.bind (α := Unit ⊕ Bool) (guardO (lenB a0.size) (Option.bind (program_ValidName_L1 a0 a0.size 0) (fun o => match o with | .inl _ => some (.inl ()) | .inr r69 => some (.inr r69)))) (fun o => match o with | .inl _ => some true | .inr r70 => some r70))))

set_option maxHeartbeats 2000000 in
theorem at_program_ValidName {a0 : ByteArray} {r : Bool} (hs : program_ValidName a0 = some r) : At Tryd.prog 121 [sV a0] (bV r) := by
  refine at_bound (by kernel_rfl) fun hb => ?_
  refine at_code mixed Tryd.func121 (by kernel_rfl) rfl (by kernel_rfl) rfl fun Q hQ => ?_
  rw [program_ValidName] at hs
  obtain ⟨g1, hs⟩ := guardO_some hs
  have g1a : (!(orB (ltI ((a0.size : Nat) : Int) 1) (ltI 16 ((a0.size : Nat) : Int)))) = true → 0 ≤ ((0 : Nat) : Int) := fun hg => (under_byte g1 hg).1
  have g1c : (!(orB (ltI ((a0.size : Nat) : Int) 1) (ltI 16 ((a0.size : Nat) : Int)))) = true → a0[0]? = some (bget a0 0) := fun hg => by simpa using (under_byte g1 hg).2.2
  repeat (first | simp [g1a, g1c] | with_reducible refine awp_reg ?_ | with_reducible refine And.intro (by omega) ?_ | with_reducible refine optF_if (by omega) ?_ | with_reducible refine gsel_pure (by with_unfolding_all rfl) _ (fun hg => by (try simp at hg); first | (simp [hg, g1a, g1c]; rfl) | (simp [g1a, g1c]; simp only [if_pos hg]; simp [g1a, g1c]; rfl)) ?_)
  obtain ⟨g2, hs⟩ := guardO_some hs
  refine gsel_call (fun hg => at_program_letter (under_call g2 hg)) (fun hg => by (try simp at hg); (first | simp [hg, g1a, g1c]); try rfl) (fun hg => by (try simp at hg); simp [hg, g1a, g1c]) (by simp) ?_
  repeat (first | simp [g1a, g1c] | with_reducible refine awp_reg ?_ | with_reducible refine And.intro (by omega) ?_ | with_reducible refine optF_if (by omega) ?_ | with_reducible refine gsel_pure (by with_unfolding_all rfl) _ (fun hg => by (try simp at hg); first | (simp [hg, g1a, g1c]; rfl) | (simp [g1a, g1c]; simp only [if_pos hg]; simp [g1a, g1c]; rfl)) ?_)
  refine condK_spec (orB (orB (ltI ((a0.size : Nat) : Int) 1) (ltI 16 ((a0.size : Nat) : Int))) (!((program_letter (bget a0 0)).getD default))) (by first | rfl | (simp [g1a, g1c]; done) | (simp [andB, orB, eqI, ltI, Int.natCast_inj, g1a, g1c]; done)) (fun h3 => ?_) (fun h3 => ?_)
  · replace hs := condT h3 hs
    repeat (first | simp [g1a, g1c] | with_reducible refine awp_reg ?_ | with_reducible refine And.intro (by omega) ?_ | with_reducible refine optF_if (by omega) ?_ | with_reducible refine gsel_pure (by with_unfolding_all rfl) _ (fun hg => by (try simp at hg); first | (simp [hg, g1a, g1c]; rfl) | (simp [g1a, g1c]; simp only [if_pos hg]; simp [g1a, g1c]; rfl)) ?_)
    obtain rfl := Option.some.inj hs
    refine hQ _ _ (ret2g _ (Gh.refl _) (by simp [St.frz, St.pur, g1a, g1c]; rfl) (by first | rfl | (simp [St.frz, St.pur, g1a, g1c]; done) | (rw [if_pos (by first | omega | (simp; omega))]; simp [St.frz, St.pur, g1a, g1c]; first | omega | exact List.take_of_length_le (by simp; omega) | skip)) (by simp))
  · replace hs := condF h3 hs
    repeat (first | simp [-awp_cond_eq, -awp_block_eq, g1a, g1c] | with_reducible refine awp_reg ?_ | with_reducible refine And.intro (by omega) ?_ | with_reducible refine optF_if (by omega) ?_ | with_reducible refine gsel_pure (by with_unfolding_all rfl) _ (fun hg => by (try simp at hg); first | (simp [hg, g1a, g1c]; rfl) | (simp [g1a, g1c]; simp only [if_pos hg]; simp [g1a, g1c]; rfl)) ?_)
    obtain ⟨o36, e35, hs⟩ := bindO hs
    try dsimp only at hs
    refine awp_cutK (fun (v : Unit) (σ : St) => some (.inl v) = some o36 ∧ 3 ≤ σ.gen) (by rfl) (fun Q hK37 hX38 => ?_) (fun v σ3 hp => ?_)
    · repeat (first | simp [g1a, g1c] | with_reducible refine awp_reg ?_ | with_reducible refine And.intro (by omega) ?_ | with_reducible refine optF_if (by omega) ?_ | with_reducible refine gsel_pure (by with_unfolding_all rfl) _ (fun hg => by (try simp at hg); first | (simp [hg, g1a, g1c]; rfl) | (simp [g1a, g1c]; simp only [if_pos hg]; simp [g1a, g1c]; rfl)) ?_)
      obtain ⟨hb63, e35⟩ := guardO_some e35
      obtain ⟨o54, e53, e35⟩ := bindO e35
      try dsimp only at e35
      refine awp_loopW (fun (v : Nat × Nat) (σ : St) => program_ValidName_L1 a0 v.1 v.2 = some o54 ∧ v.1 + v.2 = a0.size ∧ σ.env 0 = sV a0 ∧ σ.env 19 = iV .i64 ((a0.size : Nat) : Int) ∧ σ.env 20 = iV .i64 ((v.2 : Nat) : Int) ∧ 3 ≤ σ.gen) (fun v => v.1) _ (Gh.refl _) (a0.size, 0) ⟨e53, by first | omega | simp | (simp; omega), by simp [St.frz, St.pur, g1a, g1c], by simp [St.frz, St.pur, g1a, g1c], by simp [St.frz, St.pur, g1a, g1c], by first | (simp; done) | (simp; omega) | omega⟩ fun v σ6 hp L55 hL56 => ?_
      obtain ⟨q58, k46⟩ := v
      dsimp only at hp hL56
      obtain ⟨e53, hd57, h5_0, h5_19, h5_20, n5_g⟩ := hp
      rcases q58 with _ | q59
      · have hlt60 : ¬ k46 < a0.size := by omega
        rw [program_ValidName_L1] at e53; try dsimp only at e53
        repeat (first | simp [h5_0, h5_19, h5_20, g1a, g1c] | with_reducible refine awp_reg ?_)
        refine condK_f (by simp [ltI]; omega) ?_
        obtain rfl := Option.some.inj e53
        try dsimp only at e35
        exact hK37 () _ _ (Gh.refl _) ⟨e35, by first | (simp; done) | (simp; omega) | omega⟩
      · have hlt60 : k46 < a0.size := by omega
        have ew61 := wrap_succG hlt60 hb63
        rw [program_ValidName_L1] at e53; try dsimp only at e53
        repeat (first | simp [h5_0, h5_19, h5_20, g1a, g1c, hlt60, ew61] | with_reducible refine awp_reg ?_)
        refine condK_t (by simp [ltI]; omega) ?_
        obtain ⟨c64, hx65, e53⟩ := bindO e53
        try dsimp only at e53
        have hx65b := getB_some hx65
        have hx65g := getB_eq hx65
        repeat (first | simp [h5_0, h5_19, h5_20, g1a, g1c, hlt60, ew61, hx65, hx65g] | with_reducible refine awp_reg ?_ | with_reducible refine And.intro (by omega) ?_ | with_reducible refine optF_if (by omega) ?_)
        obtain ⟨y66, hx67, e53⟩ := bindO e53
        try dsimp only at e53
        refine callK_pure (at_program_letter hx67) (by (first | simp [h5_0, h5_19, h5_20, g1a, g1c, hlt60, ew61, hx65, hx65g] | simp (disch := omega) [h5_0, h5_19, h5_20, g1a, g1c, hlt60, ew61, hx65, hx65g]); try rfl) (by simp) (by simp) ?_
        repeat (first | simp [h5_0, h5_19, h5_20, g1a, g1c, hlt60, ew61, hx65, hx65g] | with_reducible refine awp_reg ?_ | with_reducible refine And.intro (by omega) ?_ | with_reducible refine optF_if (by omega) ?_ | with_reducible refine gsel_pure (by with_unfolding_all rfl) _ (fun hg => by (try simp at hg); first | (simp [hg, h5_0, h5_19, h5_20, g1a, g1c, hlt60, ew61, hx65, hx65g]; rfl) | (simp [h5_0, h5_19, h5_20, g1a, g1c, hlt60, ew61, hx65, hx65g]; simp only [if_pos hg]; simp [h5_0, h5_19, h5_20, g1a, g1c, hlt60, ew61, hx65, hx65g]; rfl)) ?_)
        refine condK_spec (andB (andB (!y66) (!(eqI (c64.toNat : Int) 95))) (orB (ltI (c64.toNat : Int) 48) (ltI 57 (c64.toNat : Int)))) (by first | rfl | (simp [h5_0, h5_19, h5_20, g1a, g1c, hlt60, ew61, hx65, hx65g]; done) | (simp [andB, orB, eqI, ltI, Int.natCast_inj, h5_0, h5_19, h5_20, g1a, g1c, hlt60, ew61, hx65, hx65g]; done)) (fun h68 => ?_) (fun h68 => ?_)
        · replace e53 := condT h68 e53
          repeat (first | simp [h5_0, h5_19, h5_20, g1a, g1c, hlt60, ew61, hx65, hx65g] | with_reducible refine awp_reg ?_ | with_reducible refine And.intro (by omega) ?_ | with_reducible refine optF_if (by omega) ?_ | with_reducible refine gsel_pure (by with_unfolding_all rfl) _ (fun hg => by (try simp at hg); first | (simp [hg, h5_0, h5_19, h5_20, g1a, g1c, hlt60, ew61, hx65, hx65g]; rfl) | (simp [h5_0, h5_19, h5_20, g1a, g1c, hlt60, ew61, hx65, hx65g]; simp only [if_pos hg]; simp [h5_0, h5_19, h5_20, g1a, g1c, hlt60, ew61, hx65, hx65g]; rfl)) ?_)
          obtain rfl := Option.some.inj e53
          try dsimp only at e35
          obtain rfl := Option.some.inj e35
          try dsimp only at hs
          refine hX38 _ _ (by simp) ?_
          repeat (first | simp [h5_0, h5_19, h5_20, g1a, g1c, hlt60, ew61, hx65, hx65g] | with_reducible refine awp_reg ?_ | with_reducible refine And.intro (by omega) ?_ | with_reducible refine optF_if (by omega) ?_ | with_reducible refine gsel_pure (by with_unfolding_all rfl) _ (fun hg => by (try simp at hg); first | (simp [hg, h5_0, h5_19, h5_20, g1a, g1c, hlt60, ew61, hx65, hx65g]; rfl) | (simp [h5_0, h5_19, h5_20, g1a, g1c, hlt60, ew61, hx65, hx65g]; simp only [if_pos hg]; simp [h5_0, h5_19, h5_20, g1a, g1c, hlt60, ew61, hx65, hx65g]; rfl)) ?_)
          obtain rfl := Option.some.inj hs
          refine hQ _ _ (ret2g _ (Gh.refl _) (by simp [St.frz, St.pur, h5_0, h5_19, h5_20, g1a, g1c, hlt60, ew61, hx65, hx65g]; rfl) (by first | rfl | (simp [St.frz, St.pur, h5_0, h5_19, h5_20, g1a, g1c, hlt60, ew61, hx65, hx65g]; done) | (rw [if_pos (by first | omega | (simp; omega))]; simp [St.frz, St.pur, h5_0, h5_19, h5_20, g1a, g1c, hlt60, ew61, hx65, hx65g]; first | omega | exact List.take_of_length_le (by simp; omega) | skip)) (by simp))
        · replace e53 := condF h68 e53
          repeat (first | simp [h5_0, h5_19, h5_20, g1a, g1c, hlt60, ew61, hx65, hx65g] | with_reducible refine awp_reg ?_ | with_reducible refine And.intro (by omega) ?_ | with_reducible refine optF_if (by omega) ?_ | with_reducible refine gsel_pure (by with_unfolding_all rfl) _ (fun hg => by (try simp at hg); first | (simp [hg, h5_0, h5_19, h5_20, g1a, g1c, hlt60, ew61, hx65, hx65g]; rfl) | (simp [h5_0, h5_19, h5_20, g1a, g1c, hlt60, ew61, hx65, hx65g]; simp only [if_pos hg]; simp [h5_0, h5_19, h5_20, g1a, g1c, hlt60, ew61, hx65, hx65g]; rfl)) ?_)
          exact hL56 (q59, (k46 + 1)) _ _ (Gh.refl _) ⟨e53, (by first | omega | (simp; omega)), by simp [St.frz, St.pur, h5_0, h5_19, h5_20, g1a, g1c, hlt60, ew61, hx65, hx65g], by simp [St.frz, St.pur, h5_0, h5_19, h5_20, g1a, g1c, hlt60, ew61, hx65, hx65g], by simp [St.frz, St.pur, h5_0, h5_19, h5_20, g1a, g1c, hlt60, ew61, hx65, hx65g], by first | (simp; done) | (simp; omega) | omega⟩ (by omega)
    · obtain ⟨e35, n4_g⟩ := hp
      obtain rfl := Option.some.inj e35
      try dsimp only at hs
      repeat (first | simp [g1a, g1c] | with_reducible refine awp_reg ?_ | with_reducible refine And.intro (by omega) ?_ | with_reducible refine optF_if (by omega) ?_ | with_reducible refine gsel_pure (by with_unfolding_all rfl) _ (fun hg => by (try simp at hg); first | (simp [hg, g1a, g1c]; rfl) | (simp [g1a, g1c]; simp only [if_pos hg]; simp [g1a, g1c]; rfl)) ?_)
      obtain rfl := Option.some.inj hs
      refine hQ _ _ (ret2g _ (Gh.refl _) (by simp [St.frz, St.pur, g1a, g1c]; rfl) (by first | rfl | (simp [St.frz, St.pur, g1a, g1c]; done) | (rw [if_pos (by first | omega | (simp; omega))]; simp [St.frz, St.pur, g1a, g1c]; first | omega | exact List.take_of_length_le (by simp; omega) | skip)) (by simp))
end Go.Dc
end
section
set_option linter.all false
namespace Go.Dc
open Go Go.Hw Go.Proofs
set_option maxRecDepth 100000
def slices_Index_string_L1 (a1 : ByteArray) : List ByteArray → Nat → Option (Unit ⊕ Int)
  | [], k38 => some (.inl ())
  | x54 :: q50, k38 => cond (eqS a1 x54) (some (.inr ((k38 : Nat) : Int))) (slices_Index_string_L1 a1 q50 (k38 + 1))

def slices_Index_string (a0 : List ByteArray) (a1 : ByteArray) : Option Int :=
  Option.bind (α := Unit ⊕ Int) (Option.bind (slices_Index_string_L1 a1 a0 0) (fun o => match o with | .inl _ => some (.inl ()) | .inr r58 => some (.inr r58))) (fun o => match o with | .inl _ => some (-1) | .inr r59 => some r59)

set_option maxHeartbeats 2000000 in
theorem at_slices_Index_string {a0 : List ByteArray} {a1 : ByteArray} {r : Int} (hs : slices_Index_string a0 a1 = some r) : At Tryd.prog 126 [.cell (.p (.sl a0.length (encL a0))), sV a1] (iV .i64 r) := by
  refine at_bound (by kernel_rfl) fun hb => ?_
  have hb1 : LenOk (.sl a0.length (encL a0)) := hb (.cell (.p (.sl a0.length (encL a0)))) (by simp)
  refine at_code mixed Tryd.func126 (by kernel_rfl) rfl (by kernel_rfl) rfl fun Q hQ => ?_
  rw [slices_Index_string] at hs
  repeat (first | simp [-awp_cond_eq, -awp_block_eq] | with_reducible refine awp_reg ?_ | with_reducible refine And.intro (by omega) ?_ | with_reducible refine optF_if (by omega) ?_)
  obtain ⟨o29, e28, hs⟩ := bindO hs
  try dsimp only at hs
  refine awp_cutK (fun (v : Unit) (σ : St) => some (.inl v) = some o29 ∧ 2 ≤ σ.gen) (by rfl) (fun Q hK30 hX31 => ?_) (fun v σ3 hp => ?_)
  · repeat (first | simp | with_reducible refine awp_reg ?_ | with_reducible refine And.intro (by omega) ?_ | with_reducible refine optF_if (by omega) ?_)
    obtain ⟨o45, e44, e28⟩ := bindO e28
    try dsimp only at e28
    refine awp_loopW (fun (v : (List ByteArray) × Nat) (σ : St) => slices_Index_string_L1 a1 v.1 v.2 = some o45 ∧ v.1 = a0.drop v.2 ∧ σ.env 0 = .cell (.p (.sl a0.length (encL a0))) ∧ σ.env 1 = sV a1 ∧ σ.env 7 = iV .i64 ((a0.length : Nat) : Int) ∧ σ.env 8 = iV .i64 ((v.2 : Nat) : Int) ∧ 2 ≤ σ.gen) (fun v => v.1.length) _ (Gh.refl _) (a0, 0) ⟨e44, by simp, by simp [St.frz, St.pur], by simp [St.frz, St.pur], by simp [St.frz, St.pur], by simp [St.frz, St.pur], by first | (simp; done) | (simp; omega) | omega⟩ fun v σ6 hp L46 hL47 => ?_
    obtain ⟨q49, k38⟩ := v
    dsimp only at hp hL47
    obtain ⟨e44, hd48, h5_0, h5_1, h5_7, h5_8, n5_g⟩ := hp
    rcases q49 with _ | ⟨x54, q50⟩
    · have hlt51 := drop_end hd48
      rw [slices_Index_string_L1] at e44; try dsimp only at e44
      repeat (first | simp [h5_0, h5_1, h5_7, h5_8] | with_reducible refine awp_reg ?_)
      refine condK_f (by simp [ltI]; omega) ?_
      obtain rfl := Option.some.inj e44
      try dsimp only at e28
      exact hK30 () _ _ (Gh.refl _) ⟨e28, by first | (simp; done) | (simp; omega) | omega⟩
    · obtain ⟨hx53, hlt51, hd55⟩ := drop_next hd48
      have ew52 := wrap_succ hlt51 (hb1).len
      rw [slices_Index_string_L1] at e44; try dsimp only at e44
      repeat (first | simp [h5_0, h5_1, h5_7, h5_8, hlt51, ew52] | with_reducible refine awp_reg ?_)
      refine condK_t (by simp [ltI]; omega) ?_
      have f56 : partCV Tryd.prog 9 (encL a0) (k38) = some (sV x54) := partCV_enc1 hx53 (by simp)
      repeat (first | simp [h5_0, h5_1, h5_7, h5_8, hlt51, ew52, f56] | with_reducible refine awp_reg ?_ | with_reducible refine optF_if (by omega) ?_)
      refine condK_spec (eqS a1 x54) (by first | rfl | (simp [h5_0, h5_1, h5_7, h5_8, hlt51, ew52, f56]; done) | (simp [andB, orB, eqI, ltI, Int.natCast_inj, h5_0, h5_1, h5_7, h5_8, hlt51, ew52, f56]; done)) (fun h57 => ?_) (fun h57 => ?_)
      · replace e44 := condT h57 e44
        repeat (first | simp [h5_0, h5_1, h5_7, h5_8, hlt51, ew52, f56] | with_reducible refine awp_reg ?_ | with_reducible refine optF_if (by omega) ?_)
        obtain rfl := Option.some.inj e44
        try dsimp only at e28
        obtain rfl := Option.some.inj e28
        try dsimp only at hs
        refine hX31 _ _ (by simp) ?_
        repeat (first | simp [h5_0, h5_1, h5_7, h5_8, hlt51, ew52, f56] | with_reducible refine awp_reg ?_ | with_reducible refine optF_if (by omega) ?_)
        obtain rfl := Option.some.inj hs
        refine hQ _ _ (ret2g _ (Gh.refl _) (by simp [St.frz, St.pur, h5_0, h5_1, h5_7, h5_8, hlt51, ew52, f56]; rfl) (by first | rfl | (simp [St.frz, St.pur, h5_0, h5_1, h5_7, h5_8, hlt51, ew52, f56]; done) | (rw [if_pos (by first | omega | (simp; omega))]; simp [St.frz, St.pur, h5_0, h5_1, h5_7, h5_8, hlt51, ew52, f56]; first | omega | exact List.take_of_length_le (by simp; omega) | skip)) (by simp))
      · replace e44 := condF h57 e44
        repeat (first | simp [h5_0, h5_1, h5_7, h5_8, hlt51, ew52, f56] | with_reducible refine awp_reg ?_ | with_reducible refine optF_if (by omega) ?_)
        exact hL47 (q50, (k38 + 1)) _ _ (Gh.refl _) ⟨e44, hd55, by simp [St.frz, St.pur, h5_0, h5_1, h5_7, h5_8, hlt51, ew52, f56], by simp [St.frz, St.pur, h5_0, h5_1, h5_7, h5_8, hlt51, ew52, f56], by simp [St.frz, St.pur, h5_0, h5_1, h5_7, h5_8, hlt51, ew52, f56], by simp [St.frz, St.pur, h5_0, h5_1, h5_7, h5_8, hlt51, ew52, f56], by first | (simp; done) | (simp; omega) | omega⟩ (by simp)
  · obtain ⟨e28, n4_g⟩ := hp
    obtain rfl := Option.some.inj e28
    try dsimp only at hs
    repeat (first | simp | with_reducible refine awp_reg ?_ | with_reducible refine And.intro (by omega) ?_ | with_reducible refine optF_if (by omega) ?_)
    obtain rfl := Option.some.inj hs
    refine hQ _ _ (ret2g _ (Gh.refl _) (by simp [St.frz, St.pur]; rfl) (by first | rfl | (simp [St.frz, St.pur]; done) | (rw [if_pos (by first | omega | (simp; omega))]; simp [St.frz, St.pur]; first | omega | exact List.take_of_length_le (by simp; omega) | skip)) (by simp))
end Go.Dc
end
section
set_option linter.all false
namespace Go.Dc
open Go Go.Hw Go.Proofs
set_option maxRecDepth 100000

def slices_Contains_string (a0 : List ByteArray) (a1 : ByteArray) : Option Bool :=
  Option.bind (slices_Index_string a0 a1) (fun y1 => some (!(ltI y1 0)))

set_option maxHeartbeats 2000000 in
theorem at_slices_Contains_string {a0 : List ByteArray} {a1 : ByteArray} {r : Bool} (hs : slices_Contains_string a0 a1 = some r) : At Tryd.prog 122 [.cell (.p (.sl a0.length (encL a0))), sV a1] (bV r) := by
  refine at_bound (by kernel_rfl) fun hb => ?_
  have hb1 : LenOk (.sl a0.length (encL a0)) := hb (.cell (.p (.sl a0.length (encL a0)))) (by simp)
  refine at_code mixed Tryd.func122 (by kernel_rfl) rfl (by kernel_rfl) rfl fun Q hQ => ?_
  rw [slices_Contains_string] at hs
  repeat (first | simp | with_reducible refine awp_reg ?_ | with_reducible refine And.intro (by omega) ?_ | with_reducible refine optF_if (by omega) ?_)
  obtain ⟨y1, hx2, hs⟩ := bindO hs
  try dsimp only at hs
  refine callK_pure (at_slices_Index_string hx2) (by (first | simp | simp (disch := omega) []); try rfl) (by simp) (by simp) ?_
  repeat (first | simp | with_reducible refine awp_reg ?_ | with_reducible refine And.intro (by omega) ?_ | with_reducible refine optF_if (by omega) ?_)
  obtain rfl := Option.some.inj hs
  refine hQ _ _ (ret2g _ (Gh.refl _) (by simp [St.frz, St.pur]; rfl) (by first | rfl | (simp [St.frz, St.pur]; done) | (rw [if_pos (by first | omega | (simp; omega))]; simp [St.frz, St.pur]; first | omega | exact List.take_of_length_le (by simp; omega) | skip)) (by simp))
end Go.Dc
end
section
set_option linter.all false
namespace Go.Dc
open Go Go.Hw Go.Proofs
set_option maxRecDepth 100000
def program_names_L1 (a0 : List ByteArray) : List ByteArray → Nat → Option (Unit ⊕ (Int × Int))
  | [], k74 => some (.inl ())
  | x99 :: q95, k74 => Option.bind (program_ValidName x99) (fun y102 => cond (!y102) (some (.inr (6, ((k74 : Nat) : Int)))) (guardO (slB 0 ((k74 : Nat) : Int) a0.length) (Option.bind (some (subL a0 0 ((k74 : Nat) : Int))) (fun l106 => Option.bind (slices_Contains_string l106 x99) (fun y109 => cond y109 (some (.inr (7, ((k74 : Nat) : Int)))) (program_names_L1 a0 q95 (k74 + 1)))))))

def program_names (a0 : List ByteArray) : Option (Int × Int) :=
  Option.bind (α := Unit ⊕ (Int × Int)) (Option.bind (program_names_L1 a0 a0 0) (fun o => match o with | .inl _ => some (.inl ()) | .inr r112 => some (.inr r112))) (fun o => match o with | .inl _ => some (0, (-1)) | .inr r113 => some r113)

set_option maxHeartbeats 2000000 in
theorem at_program_names {a0 : List ByteArray} {r : Int × Int} (hs : program_names a0 = some r) : At Tryd.prog 111 [.cell (.p (.sl a0.length (encL a0)))] (.tup [iV .i64 r.1, iV .i64 r.2]) := by
  refine at_bound (by kernel_rfl) fun hb => ?_
  have hb1 : LenOk (.sl a0.length (encL a0)) := hb (.cell (.p (.sl a0.length (encL a0)))) (by simp)
  refine at_code mixed Tryd.func111 (by kernel_rfl) rfl (by kernel_rfl) rfl fun Q hQ => ?_
  rw [program_names] at hs
  repeat (first | simp [-awp_cond_eq, -awp_block_eq] | with_reducible refine awp_reg ?_ | with_reducible refine And.intro (by omega) ?_ | with_reducible refine optF_if (by omega) ?_)
  obtain ⟨o56, e55, hs⟩ := bindO hs
  try dsimp only at hs
  refine awp_cutK (fun (v : Unit) (σ : St) => some (.inl v) = some o56 ∧ 2 ≤ σ.gen) (by rfl) (fun Q hK57 hX58 => ?_) (fun v σ3 hp => ?_)
  · repeat (first | simp | with_reducible refine awp_reg ?_ | with_reducible refine And.intro (by omega) ?_ | with_reducible refine optF_if (by omega) ?_)
    obtain ⟨o90, e89, e55⟩ := bindO e55
    try dsimp only at e55
    refine awp_loopW (fun (v : (List ByteArray) × Nat) (σ : St) => program_names_L1 a0 v.1 v.2 = some o90 ∧ v.1 = a0.drop v.2 ∧ σ.env 0 = .cell (.p (.sl a0.length (encL a0))) ∧ σ.env 6 = .cell (.p (.sl a0.length (encL a0))) ∧ σ.env 7 = iV .i64 ((a0.length : Nat) : Int) ∧ σ.env 8 = iV .i64 ((v.2 : Nat) : Int) ∧ 2 ≤ σ.gen) (fun v => v.1.length) _ (Gh.refl _) (a0, 0) ⟨e89, by simp, by simp [St.frz, St.pur], by simp [St.frz, St.pur], by simp [St.frz, St.pur], by simp [St.frz, St.pur], by first | (simp; done) | (simp; omega) | omega⟩ fun v σ6 hp L91 hL92 => ?_
    obtain ⟨q94, k74⟩ := v
    dsimp only at hp hL92
    obtain ⟨e89, hd93, h5_0, h5_6, h5_7, h5_8, n5_g⟩ := hp
    rcases q94 with _ | ⟨x99, q95⟩
    · have hlt96 := drop_end hd93
      rw [program_names_L1] at e89; try dsimp only at e89
      repeat (first | simp [h5_0, h5_6, h5_7, h5_8] | with_reducible refine awp_reg ?_)
      refine condK_f (by simp [ltI]; omega) ?_
      obtain rfl := Option.some.inj e89
      try dsimp only at e55
      exact hK57 () _ _ (Gh.refl _) ⟨e55, by first | (simp; done) | (simp; omega) | omega⟩
    · obtain ⟨hx98, hlt96, hd100⟩ := drop_next hd93
      have ew97 := wrap_succ hlt96 (hb1).len
      rw [program_names_L1] at e89; try dsimp only at e89
      repeat (first | simp [h5_0, h5_6, h5_7, h5_8, hlt96, ew97] | with_reducible refine awp_reg ?_)
      refine condK_t (by simp [ltI]; omega) ?_
      have f101 : partCV Tryd.prog 9 (encL a0) (k74) = some (sV x99) := partCV_enc1 hx98 (by simp)
      repeat (first | simp [h5_0, h5_6, h5_7, h5_8, hlt96, ew97, f101] | with_reducible refine awp_reg ?_ | with_reducible refine And.intro (by omega) ?_ | with_reducible refine optF_if (by omega) ?_)
      obtain ⟨y102, hx103, e89⟩ := bindO e89
      try dsimp only at e89
      refine callK_pure (at_program_ValidName hx103) (by (first | simp [h5_0, h5_6, h5_7, h5_8, hlt96, ew97, f101] | simp (disch := omega) [h5_0, h5_6, h5_7, h5_8, hlt96, ew97, f101]); try rfl) (by simp) (by simp) ?_
      repeat (first | simp [h5_0, h5_6, h5_7, h5_8, hlt96, ew97, f101] | with_reducible refine awp_reg ?_ | with_reducible refine And.intro (by omega) ?_ | with_reducible refine optF_if (by omega) ?_)
      refine condK_spec (!y102) (by first | rfl | (simp [h5_0, h5_6, h5_7, h5_8, hlt96, ew97, f101]; done) | (simp [andB, orB, eqI, ltI, Int.natCast_inj, h5_0, h5_6, h5_7, h5_8, hlt96, ew97, f101]; done)) (fun h104 => ?_) (fun h104 => ?_)
      · replace e89 := condT h104 e89
        repeat (first | simp [h5_0, h5_6, h5_7, h5_8, hlt96, ew97, f101] | with_reducible refine awp_reg ?_ | with_reducible refine And.intro (by omega) ?_ | with_reducible refine optF_if (by omega) ?_)
        obtain rfl := Option.some.inj e89
        try dsimp only at e55
        obtain rfl := Option.some.inj e55
        try dsimp only at hs
        refine hX58 _ _ (by simp) ?_
        repeat (first | simp [h5_0, h5_6, h5_7, h5_8, hlt96, ew97, f101] | with_reducible refine awp_reg ?_ | with_reducible refine And.intro (by omega) ?_ | with_reducible refine optF_if (by omega) ?_)
        obtain rfl := Option.some.inj hs
        refine hQ _ _ (ret2g _ (Gh.refl _) (by simp [St.frz, St.pur, h5_0, h5_6, h5_7, h5_8, hlt96, ew97, f101]; rfl) (by first | rfl | (simp [St.frz, St.pur, h5_0, h5_6, h5_7, h5_8, hlt96, ew97, f101]; done) | (rw [if_pos (by first | omega | (simp; omega))]; simp [St.frz, St.pur, h5_0, h5_6, h5_7, h5_8, hlt96, ew97, f101]; first | omega | exact List.take_of_length_le (by simp; omega) | skip)) (by simp))
      · replace e89 := condF h104 e89
        obtain ⟨g105, e89⟩ := guardO_some e89
        obtain ⟨g105a, g105b, g105c⟩ := slB_t g105
        obtain ⟨l106, hx107, e89⟩ := bindO e89
        try dsimp only at e89
        replace hx107 := (Option.some.inj hx107).symm
        have f108n : l106.length = (((k74 : Nat) : Int) - 0).toNat := by rw [hx107]; exact subL_len ⟨g105a, g105b, g105c⟩
        have f108e : ((encL a0).drop ((0 : Int).toNat * 1)).take ((((k74 : Nat) : Int) - 0).toNat * 1) = encL l106 := by rw [hx107]; exact subL_enc (α := ByteArray)
        try simp at f108n
        try simp at f108e
        have f108o : LenOk (.sl l106.length (encL l106)) := by rw [hx107]; exact subL_ok hb1
        repeat (first | simp [h5_0, h5_6, h5_7, h5_8, hlt96, ew97, f101, g105a, g105b, g105c, f108n, f108e] | with_reducible refine awp_reg ?_ | with_reducible refine And.intro (by omega) ?_ | with_reducible refine optF_if (by omega) ?_)
        obtain ⟨y109, hx110, e89⟩ := bindO e89
        try dsimp only at e89
        refine callK_pure (at_slices_Contains_string hx110) (by (first | simp [h5_0, h5_6, h5_7, h5_8, hlt96, ew97, f101, g105a, g105b, g105c, f108n, f108e] | simp (disch := omega) [h5_0, h5_6, h5_7, h5_8, hlt96, ew97, f101, g105a, g105b, g105c, f108n, f108e]); try rfl) (by simp) (by simp) ?_
        repeat (first | simp [h5_0, h5_6, h5_7, h5_8, hlt96, ew97, f101, g105a, g105b, g105c, f108n, f108e] | with_reducible refine awp_reg ?_ | with_reducible refine And.intro (by omega) ?_ | with_reducible refine optF_if (by omega) ?_)
        refine condK_spec y109 (by first | rfl | (simp [h5_0, h5_6, h5_7, h5_8, hlt96, ew97, f101, g105a, g105b, g105c, f108n, f108e]; done) | (simp [andB, orB, eqI, ltI, Int.natCast_inj, h5_0, h5_6, h5_7, h5_8, hlt96, ew97, f101, g105a, g105b, g105c, f108n, f108e]; done)) (fun h111 => ?_) (fun h111 => ?_)
        · replace e89 := condT h111 e89
          repeat (first | simp [h5_0, h5_6, h5_7, h5_8, hlt96, ew97, f101, g105a, g105b, g105c, f108n, f108e] | with_reducible refine awp_reg ?_ | with_reducible refine And.intro (by omega) ?_ | with_reducible refine optF_if (by omega) ?_)
          obtain rfl := Option.some.inj e89
          try dsimp only at e55
          obtain rfl := Option.some.inj e55
          try dsimp only at hs
          refine hX58 _ _ (by simp) ?_
          repeat (first | simp [h5_0, h5_6, h5_7, h5_8, hlt96, ew97, f101, g105a, g105b, g105c, f108n, f108e] | with_reducible refine awp_reg ?_ | with_reducible refine And.intro (by omega) ?_ | with_reducible refine optF_if (by omega) ?_)
          obtain rfl := Option.some.inj hs
          refine hQ _ _ (ret2g _ (Gh.refl _) (by simp [St.frz, St.pur, h5_0, h5_6, h5_7, h5_8, hlt96, ew97, f101, g105a, g105b, g105c, f108n, f108e]; rfl) (by first | rfl | (simp [St.frz, St.pur, h5_0, h5_6, h5_7, h5_8, hlt96, ew97, f101, g105a, g105b, g105c, f108n, f108e]; done) | (rw [if_pos (by first | omega | (simp; omega))]; simp [St.frz, St.pur, h5_0, h5_6, h5_7, h5_8, hlt96, ew97, f101, g105a, g105b, g105c, f108n, f108e]; first | omega | exact List.take_of_length_le (by simp; omega) | skip)) (by simp))
        · replace e89 := condF h111 e89
          repeat (first | simp [h5_0, h5_6, h5_7, h5_8, hlt96, ew97, f101, g105a, g105b, g105c, f108n, f108e] | with_reducible refine awp_reg ?_ | with_reducible refine And.intro (by omega) ?_ | with_reducible refine optF_if (by omega) ?_)
          exact hL92 (q95, (k74 + 1)) _ _ (Gh.refl _) ⟨e89, hd100, by simp [St.frz, St.pur, h5_0, h5_6, h5_7, h5_8, hlt96, ew97, f101, g105a, g105b, g105c, f108n, f108e], by simp [St.frz, St.pur, h5_0, h5_6, h5_7, h5_8, hlt96, ew97, f101, g105a, g105b, g105c, f108n, f108e], by simp [St.frz, St.pur, h5_0, h5_6, h5_7, h5_8, hlt96, ew97, f101, g105a, g105b, g105c, f108n, f108e], by simp [St.frz, St.pur, h5_0, h5_6, h5_7, h5_8, hlt96, ew97, f101, g105a, g105b, g105c, f108n, f108e], by first | (simp; done) | (simp; omega) | omega⟩ (by simp)
  · obtain ⟨e55, n4_g⟩ := hp
    obtain rfl := Option.some.inj e55
    try dsimp only at hs
    repeat (first | simp | with_reducible refine awp_reg ?_ | with_reducible refine And.intro (by omega) ?_ | with_reducible refine optF_if (by omega) ?_)
    obtain rfl := Option.some.inj hs
    refine hQ _ _ (ret2g _ (Gh.refl _) (by simp [St.frz, St.pur]; rfl) (by first | rfl | (simp [St.frz, St.pur]; done) | (rw [if_pos (by first | omega | (simp; omega))]; simp [St.frz, St.pur]; first | omega | exact List.take_of_length_le (by simp; omega) | skip)) (by simp))
end Go.Dc
end
section
set_option linter.all false
namespace Go.Dc
open Go Go.Hw Go.Proofs
set_option maxRecDepth 100000
def program_funcNames_L1 : List Func → (List ByteArray) → Nat → Option (List ByteArray)
  | [], l58, k59 => some (l58)
  | x80 :: q76, l58, k59 => Option.bind (some ([x80.Name])) (fun l83 => guardO (limB 16 (l58.length + l83.length)) (Option.bind (some (l58 ++ l83)) (fun l86 => program_funcNames_L1 q76 l86 (k59 + 1))))

def program_funcNames (a0 : Program) : Option (List ByteArray) :=
  Option.bind (α := (List ByteArray)) (Option.bind (program_funcNames_L1 a0.Funcs [] 0) (fun l69 => some (l69))) (fun l42 => some l42)

set_option maxHeartbeats 2000000 in
theorem at_program_funcNames {a0 : Program} {r : (List ByteArray)} (hs : program_funcNames a0 = some r) : At Tryd.prog 112 [.agg [.p (.sl a0.Vars.length (encL a0.Vars)), .p (.sl a0.Mutexes.length (encL a0.Mutexes)), .p (.sl a0.Conds.length (encL a0.Conds)), .p (.sl a0.Funcs.length (encL a0.Funcs)), .p (.sl a0.Threads.length (encL a0.Threads))]] (.cell (.p (.sl r.length (encL r)))) := by
  refine at_bound (by kernel_rfl) fun hb => ?_
  have hb1 : LenOk (.sl a0.Vars.length (encL a0.Vars)) := hb (.agg [.p (.sl a0.Vars.length (encL a0.Vars)), .p (.sl a0.Mutexes.length (encL a0.Mutexes)), .p (.sl a0.Conds.length (encL a0.Conds)), .p (.sl a0.Funcs.length (encL a0.Funcs)), .p (.sl a0.Threads.length (encL a0.Threads))]) (by simp) (.p (.sl a0.Vars.length (encL a0.Vars))) (by simp)
  have hb2 : LenOk (.sl a0.Mutexes.length (encL a0.Mutexes)) := hb (.agg [.p (.sl a0.Vars.length (encL a0.Vars)), .p (.sl a0.Mutexes.length (encL a0.Mutexes)), .p (.sl a0.Conds.length (encL a0.Conds)), .p (.sl a0.Funcs.length (encL a0.Funcs)), .p (.sl a0.Threads.length (encL a0.Threads))]) (by simp) (.p (.sl a0.Mutexes.length (encL a0.Mutexes))) (by simp)
  have hb3 : LenOk (.sl a0.Conds.length (encL a0.Conds)) := hb (.agg [.p (.sl a0.Vars.length (encL a0.Vars)), .p (.sl a0.Mutexes.length (encL a0.Mutexes)), .p (.sl a0.Conds.length (encL a0.Conds)), .p (.sl a0.Funcs.length (encL a0.Funcs)), .p (.sl a0.Threads.length (encL a0.Threads))]) (by simp) (.p (.sl a0.Conds.length (encL a0.Conds))) (by simp)
  have hb4 : LenOk (.sl a0.Funcs.length (encL a0.Funcs)) := hb (.agg [.p (.sl a0.Vars.length (encL a0.Vars)), .p (.sl a0.Mutexes.length (encL a0.Mutexes)), .p (.sl a0.Conds.length (encL a0.Conds)), .p (.sl a0.Funcs.length (encL a0.Funcs)), .p (.sl a0.Threads.length (encL a0.Threads))]) (by simp) (.p (.sl a0.Funcs.length (encL a0.Funcs))) (by simp)
  have hb5 : LenOk (.sl a0.Threads.length (encL a0.Threads)) := hb (.agg [.p (.sl a0.Vars.length (encL a0.Vars)), .p (.sl a0.Mutexes.length (encL a0.Mutexes)), .p (.sl a0.Conds.length (encL a0.Conds)), .p (.sl a0.Funcs.length (encL a0.Funcs)), .p (.sl a0.Threads.length (encL a0.Threads))]) (by simp) (.p (.sl a0.Threads.length (encL a0.Threads))) (by simp)
  refine at_code mixed Tryd.func112 (by kernel_rfl) rfl (by kernel_rfl) rfl fun Q hQ => ?_
  rw [program_funcNames] at hs
  repeat (first | simp [-awp_cond_eq, -awp_block_eq] | with_reducible refine awp_reg ?_ | with_reducible refine And.intro (by omega) ?_ | with_reducible refine optF_if (by omega) ?_)
  obtain ⟨o44, e43, hs⟩ := bindO hs
  try dsimp only at hs
  refine awp_cutK (fun (v : (List ByteArray)) (σ : St) => some (v) = some o44 ∧ σ.env 3 = .cell (.sl (.l 2) 0 1 v.length) ∧ σ.hp (.l 2) = some (.pure (encL v)) ∧ 3 ≤ σ.gen) (by rfl) (fun Q hK45 hX46 => ?_) (fun l42 σ3 hp => ?_)
  · repeat (first | simp | with_reducible refine awp_reg ?_ | with_reducible refine And.intro (by omega) ?_ | with_reducible refine optF_if (by omega) ?_)
    obtain ⟨o71, e70, e43⟩ := bindO e43
    try dsimp only at e43
    refine awp_loopW (fun (v : (List Func) × (List ByteArray) × Nat) (σ : St) => program_funcNames_L1 v.1 v.2.1 v.2.2 = some o71 ∧ v.1 = a0.Funcs.drop v.2.2 ∧ σ.env 3 = .cell (.sl (.l 6) 0 1 v.2.1.length) ∧ σ.env 7 = .cell (.p (.sl a0.Funcs.length (encL a0.Funcs))) ∧ σ.env 8 = iV .i64 ((a0.Funcs.length : Nat) : Int) ∧ σ.env 9 = iV .i64 ((v.2.2 : Nat) : Int) ∧ σ.hp (.l 6) = some (.pure (encL v.2.1)) ∧ 3 ≤ σ.gen) (fun v => v.1.length) _ (Gh.void _ (.l 6) 3 1 rfl (by simp)) (a0.Funcs, [], 0) ⟨e70, by simp, by simp [St.frz, St.pur], by simp [St.frz, St.pur], by simp [St.frz, St.pur], by simp [St.frz, St.pur], by simp [St.frz, St.pur], by first | (simp; done) | (simp; omega) | omega⟩ fun v σ6 hp L72 hL73 => ?_
    obtain ⟨q75, l58, k59⟩ := v
    dsimp only at hp hL73
    obtain ⟨e70, hd74, h5_3, h5_7, h5_8, h5_9, g5_0, n5_g⟩ := hp
    rcases q75 with _ | ⟨x80, q76⟩
    · have hlt77 := drop_end hd74
      rw [program_funcNames_L1] at e70; try dsimp only at e70
      repeat (first | simp [h5_3, h5_7, h5_8, h5_9, g5_0] | with_reducible refine awp_reg ?_)
      refine condK_f (by simp [ltI]; omega) ?_
      obtain rfl := Option.some.inj e70
      try dsimp only at e43
      exact hK45 l58 _ _ (Gh.ren _ (.l 6) (.l 2) (by simp) rfl rfl) ⟨e43, by simp [St.frz, St.pur, h5_3, h5_7, h5_8, h5_9, g5_0], by simp [St.frz, St.pur, h5_3, h5_7, h5_8, h5_9, g5_0], by first | (simp; done) | (simp; omega) | omega⟩
    · obtain ⟨hx79, hlt77, hd81⟩ := drop_next hd74
      have ew78 := wrap_succ hlt77 (hb4).len
      rw [program_funcNames_L1] at e70; try dsimp only at e70
      repeat (first | simp [h5_3, h5_7, h5_8, h5_9, g5_0, hlt77, ew78] | with_reducible refine awp_reg ?_)
      refine condK_t (by simp [ltI]; omega) ?_
      have f82 : partCV Tryd.prog 24 (encL a0.Funcs) (k59 * 2) = some (.agg [.p (.c (.string x80.Name)), .p (.sl x80.Code.length (encL x80.Code))]) := partCV_enc hx79 (f := 0) (by simp)
      obtain ⟨l83, hx84, e70⟩ := bindO e70
      try dsimp only at e70
      replace hx84 := (Option.some.inj hx84).symm
      have hx84n : l83.length = 1 := by rw [hx84]; rfl
      obtain ⟨g85, e70⟩ := guardO_some e70
      have g85 := limB_t g85
      obtain ⟨g85a, g85b⟩ := g85
      obtain ⟨l86, hx87, e70⟩ := bindO e70
      try dsimp only at e70
      replace hx87 := (Option.some.inj hx87).symm
      have hx87n : l86.length = (l58.length + l83.length) := by rw [hx87]; simp
      have hx87e : encL l86 = encL l58 ++ encL l83 := by rw [hx87]; simp
      repeat (first | simp [h5_3, h5_7, h5_8, h5_9, g5_0, hlt77, ew78, f82, hx84, hx87n, hx87e] | with_reducible refine awp_reg ?_ | with_reducible refine And.intro (by omega) ?_ | with_reducible refine optF_if (by omega) ?_)
      exact hL73 (q76, l86, (k59 + 1)) _ _ (Gh.ren _ (.o (σ6.gen + 3) 4 0) (.l 6) (by simp) rfl rfl) ⟨e70, hd81, by simp [St.frz, St.pur, h5_3, h5_7, h5_8, h5_9, g5_0, hlt77, ew78, f82, hx84, hx87n, hx87e], by simp [St.frz, St.pur, h5_3, h5_7, h5_8, h5_9, g5_0, hlt77, ew78, f82, hx84, hx87n, hx87e], by simp [St.frz, St.pur, h5_3, h5_7, h5_8, h5_9, g5_0, hlt77, ew78, f82, hx84, hx87n, hx87e], by simp [St.frz, St.pur, h5_3, h5_7, h5_8, h5_9, g5_0, hlt77, ew78, f82, hx84, hx87n, hx87e], by simp [St.frz, St.pur, h5_3, h5_7, h5_8, h5_9, g5_0, hlt77, ew78, f82, hx84, hx87n, hx87e], by first | (simp; done) | (simp; omega) | omega⟩ (by simp)
  · obtain ⟨e43, h4_3, g4_0, n4_g⟩ := hp
    obtain rfl := Option.some.inj e43
    try dsimp only at hs
    repeat (first | simp [h4_3, g4_0] | with_reducible refine awp_reg ?_ | with_reducible refine And.intro (by omega) ?_ | with_reducible refine optF_if (by omega) ?_)
    obtain rfl := Option.some.inj hs
    refine hQ _ _ (ret2g _ (Gh.frz _ (.l 2)) (by simp [St.frz, St.pur, h4_3, g4_0]; rfl) (by first | rfl | (simp [St.frz, St.pur, h4_3, g4_0]; done) | (rw [if_pos (by first | omega | (simp; omega))]; simp [St.frz, St.pur, h4_3, g4_0]; first | omega | exact List.take_of_length_le (by simp; omega) | skip)) (by simp))
end Go.Dc
end
section
set_option linter.all false
namespace Go.Dc
open Go Go.Hw Go.Proofs
set_option maxRecDepth 100000
def program_checkNames_L1 : List (List ByteArray) → Nat → Option (Unit ⊕ (Int × ProgramPlace))
  | [], k55 => some (.inl ())
  | x73 :: q69, k55 => Option.bind (program_names x73) (fun y77 => cond (!(eqI y77.1 0)) (some (.inr (y77.1, ({ fn := (-1), inst := (-1) } : ProgramPlace)))) (program_checkNames_L1 q69 (k55 + 1)))

def program_checkNames (a0 : Program) : Option (Int × ProgramPlace) :=
  Option.bind (program_varNames a0) (fun y5 => Option.bind (some ([y5, a0.Mutexes, a0.Conds])) (fun l7 => Option.bind (α := Unit ⊕ (Int × ProgramPlace)) (guardO (lenB l7.length) (Option.bind (program_checkNames_L1 l7 0) (fun o => match o with | .inl _ => some (.inl ()) | .inr r80 => some (.inr r80)))) (fun o => match o with | .inl _ => Option.bind (program_funcNames a0) (fun y81 => Option.bind (program_names y81) (fun y83 => some (y83.1, ({ fn := y83.2, inst := (-1) } : ProgramPlace)))) | .inr r85 => some r85)))

set_option maxHeartbeats 2000000 in
theorem at_program_checkNames {a0 : Program} {r : Int × ProgramPlace} (hs : program_checkNames a0 = some r) : At Tryd.prog 83 [.agg [.p (.sl a0.Vars.length (encL a0.Vars)), .p (.sl a0.Mutexes.length (encL a0.Mutexes)), .p (.sl a0.Conds.length (encL a0.Conds)), .p (.sl a0.Funcs.length (encL a0.Funcs)), .p (.sl a0.Threads.length (encL a0.Threads))]] (.tup [iV .i64 r.1, .agg [.p (.c (.int .i64 r.2.fn)), .p (.c (.int .i64 r.2.inst))]]) := by
  refine at_bound (by kernel_rfl) fun hb => ?_
  have hb1 : LenOk (.sl a0.Vars.length (encL a0.Vars)) := hb (.agg [.p (.sl a0.Vars.length (encL a0.Vars)), .p (.sl a0.Mutexes.length (encL a0.Mutexes)), .p (.sl a0.Conds.length (encL a0.Conds)), .p (.sl a0.Funcs.length (encL a0.Funcs)), .p (.sl a0.Threads.length (encL a0.Threads))]) (by simp) (.p (.sl a0.Vars.length (encL a0.Vars))) (by simp)
  have hb2 : LenOk (.sl a0.Mutexes.length (encL a0.Mutexes)) := hb (.agg [.p (.sl a0.Vars.length (encL a0.Vars)), .p (.sl a0.Mutexes.length (encL a0.Mutexes)), .p (.sl a0.Conds.length (encL a0.Conds)), .p (.sl a0.Funcs.length (encL a0.Funcs)), .p (.sl a0.Threads.length (encL a0.Threads))]) (by simp) (.p (.sl a0.Mutexes.length (encL a0.Mutexes))) (by simp)
  have hb3 : LenOk (.sl a0.Conds.length (encL a0.Conds)) := hb (.agg [.p (.sl a0.Vars.length (encL a0.Vars)), .p (.sl a0.Mutexes.length (encL a0.Mutexes)), .p (.sl a0.Conds.length (encL a0.Conds)), .p (.sl a0.Funcs.length (encL a0.Funcs)), .p (.sl a0.Threads.length (encL a0.Threads))]) (by simp) (.p (.sl a0.Conds.length (encL a0.Conds))) (by simp)
  have hb4 : LenOk (.sl a0.Funcs.length (encL a0.Funcs)) := hb (.agg [.p (.sl a0.Vars.length (encL a0.Vars)), .p (.sl a0.Mutexes.length (encL a0.Mutexes)), .p (.sl a0.Conds.length (encL a0.Conds)), .p (.sl a0.Funcs.length (encL a0.Funcs)), .p (.sl a0.Threads.length (encL a0.Threads))]) (by simp) (.p (.sl a0.Funcs.length (encL a0.Funcs))) (by simp)
  have hb5 : LenOk (.sl a0.Threads.length (encL a0.Threads)) := hb (.agg [.p (.sl a0.Vars.length (encL a0.Vars)), .p (.sl a0.Mutexes.length (encL a0.Mutexes)), .p (.sl a0.Conds.length (encL a0.Conds)), .p (.sl a0.Funcs.length (encL a0.Funcs)), .p (.sl a0.Threads.length (encL a0.Threads))]) (by simp) (.p (.sl a0.Threads.length (encL a0.Threads))) (by simp)
  refine at_code mixed Tryd.func83 (by kernel_rfl) rfl (by kernel_rfl) rfl fun Q hQ => ?_
  rw [program_checkNames] at hs
  repeat (first | simp | with_reducible refine awp_reg ?_ | with_reducible refine awp_draw ?_ | with_reducible refine ord_l (by kernel_rfl) ?_ | with_reducible refine ord_e (by kernel_rfl) ?_ | with_reducible refine ord_c (by kernel_rfl) ?_ | with_reducible refine ord_d (by kernel_rfl) ?_ | with_reducible refine And.intro (by omega) ?_ | with_reducible refine optF_if (by omega) ?_)
  obtain ⟨y5, hx6, hs⟩ := bindO hs
  try dsimp only at hs
  refine callK_pure (at_program_varNames hx6) (by (first | simp | simp (disch := omega) []); try rfl) (by simp) (by simp) ?_
  obtain ⟨l7, hx8, hs⟩ := bindO hs
  try dsimp only at hs
  replace hx8 := (Option.some.inj hx8).symm
  have hx8n : l7.length = 3 := by rw [hx8]; rfl
  repeat (first | simp [-awp_cond_eq, -awp_block_eq, hx8] | with_reducible refine awp_reg ?_ | with_reducible refine awp_draw ?_ | with_reducible refine ord_l (by kernel_rfl) ?_ | with_reducible refine ord_e (by kernel_rfl) ?_ | with_reducible refine ord_c (by kernel_rfl) ?_ | with_reducible refine ord_d (by kernel_rfl) ?_ | with_reducible refine And.intro (by omega) ?_ | with_reducible refine optF_if (by omega) ?_)
  obtain ⟨o44, e43, hs⟩ := bindO hs
  try dsimp only at hs
  refine awp_cutK (fun (v : Unit) (σ : St) => some (.inl v) = some o44 ∧ σ.env 1 = .cell (.ref (.o 1 0 0) 0) ∧ σ.env 3 = .cell (.ref (.o 1 2 0) 0) ∧ σ.hp (.o 1 0 0) = some (.cells [.p (.sl a0.Vars.length (encL a0.Vars)), .p (.sl a0.Mutexes.length (encL a0.Mutexes)), .p (.sl a0.Conds.length (encL a0.Conds)), .p (.sl a0.Funcs.length (encL a0.Funcs)), .p (.sl a0.Threads.length (encL a0.Threads))]) ∧ σ.hp (.o 1 2 0) = some (.cells [.p (.c (.int .i64 0)), .p (.c (.int .i64 0))]) ∧ 2 ≤ σ.gen) (by rfl) (fun Q hK45 hX46 => ?_) (fun v σ3 hp => ?_)
  · repeat (first | simp [hx8] | with_reducible refine awp_reg ?_ | with_reducible refine awp_draw ?_ | with_reducible refine ord_l (by kernel_rfl) ?_ | with_reducible refine ord_e (by kernel_rfl) ?_ | with_reducible refine ord_c (by kernel_rfl) ?_ | with_reducible refine ord_d (by kernel_rfl) ?_ | with_reducible refine And.intro (by omega) ?_ | with_reducible refine optF_if (by omega) ?_)
    obtain ⟨hb74, e43⟩ := guardO_some e43
    obtain ⟨o64, e63, e43⟩ := bindO e43
    try dsimp only at e43
    refine awp_loopW (fun (v : (List (List ByteArray)) × Nat) (σ : St) => program_checkNames_L1 v.1 v.2 = some o64 ∧ v.1 = l7.drop v.2 ∧ σ.env 1 = .cell (.ref (.o 1 0 0) 0) ∧ σ.env 3 = .cell (.ref (.o 1 2 0) 0) ∧ σ.env 16 = .cell (.sl (.o 2 6 0) 0 1 l7.length) ∧ σ.env 17 = iV .i64 ((l7.length : Nat) : Int) ∧ σ.env 18 = iV .i64 ((v.2 : Nat) : Int) ∧ σ.hp (.o 2 6 0) = some (.pure (encL l7)) ∧ σ.hp (.o 1 0 0) = some (.cells [.p (.sl a0.Vars.length (encL a0.Vars)), .p (.sl a0.Mutexes.length (encL a0.Mutexes)), .p (.sl a0.Conds.length (encL a0.Conds)), .p (.sl a0.Funcs.length (encL a0.Funcs)), .p (.sl a0.Threads.length (encL a0.Threads))]) ∧ σ.hp (.o 1 2 0) = some (.cells [.p (.c (.int .i64 0)), .p (.c (.int .i64 0))]) ∧ 2 ≤ σ.gen) (fun v => v.1.length) _ (Gh.refl _) (l7, 0) ⟨e63, by simp, by simp [St.frz, St.pur, hx8], by simp [St.frz, St.pur, hx8], by simp [St.frz, St.pur, hx8], by simp [St.frz, St.pur, hx8], by simp [St.frz, St.pur, hx8], by simp [St.frz, St.pur, hx8], by simp [St.frz, St.pur, hx8], by simp [St.frz, St.pur, hx8], by first | (simp; done) | (simp; omega) | omega⟩ fun v σ6 hp L65 hL66 => ?_
    obtain ⟨q68, k55⟩ := v
    dsimp only at hp hL66
    obtain ⟨e63, hd67, h5_1, h5_3, h5_16, h5_17, h5_18, g5_0, g5_1, g5_2, n5_g⟩ := hp
    have n5_0 : ¬ (σ6.gen = 0) := by omega
    have n5_1 : ¬ (σ6.gen = 1) := by omega
    rcases q68 with _ | ⟨x73, q69⟩
    · have hlt70 := drop_end hd67
      rw [program_checkNames_L1] at e63; try dsimp only at e63
      repeat (first | simp [h5_1, h5_3, h5_16, h5_17, h5_18, g5_0, g5_1, g5_2, n5_0, n5_1] | with_reducible refine awp_reg ?_)
      refine condK_f (by simp [ltI]; omega) ?_
      obtain rfl := Option.some.inj e63
      try dsimp only at e43
      exact hK45 () _ _ (Gh.refl _) ⟨e43, by simp [St.frz, St.pur, h5_1, h5_3, h5_16, h5_17, h5_18, g5_0, g5_1, g5_2, n5_0, n5_1], by simp [St.frz, St.pur, h5_1, h5_3, h5_16, h5_17, h5_18, g5_0, g5_1, g5_2, n5_0, n5_1], by simp [St.frz, St.pur, h5_1, h5_3, h5_16, h5_17, h5_18, g5_0, g5_1, g5_2, n5_0, n5_1], by simp [St.frz, St.pur, h5_1, h5_3, h5_16, h5_17, h5_18, g5_0, g5_1, g5_2, n5_0, n5_1], by first | (simp; done) | (simp; omega) | omega⟩
    · obtain ⟨hx72, hlt70, hd75⟩ := drop_next hd67
      have ew71 := wrap_succG hlt70 hb74
      rw [program_checkNames_L1] at e63; try dsimp only at e63
      repeat (first | simp [h5_1, h5_3, h5_16, h5_17, h5_18, g5_0, g5_1, g5_2, n5_0, n5_1, hlt70, ew71] | with_reducible refine awp_reg ?_)
      refine condK_t (by simp [ltI]; omega) ?_
      have f76 : partCV Tryd.prog 49 (encL l7) (k55) = some (.cell (.p (.sl x73.length (encL x73)))) := partCV_enc1 hx72 (by simp)
      repeat (first | simp [h5_1, h5_3, h5_16, h5_17, h5_18, g5_0, g5_1, g5_2, n5_0, n5_1, hlt70, ew71, f76] | with_reducible refine awp_reg ?_ | with_reducible refine And.intro (by omega) ?_ | with_reducible refine optF_if (by omega) ?_)
      obtain ⟨y77, hx78, e63⟩ := bindO e63
      try dsimp only at e63
      refine callK_pure (at_program_names hx78) (by (first | simp [h5_1, h5_3, h5_16, h5_17, h5_18, g5_0, g5_1, g5_2, n5_0, n5_1, hlt70, ew71, f76] | simp (disch := omega) [h5_1, h5_3, h5_16, h5_17, h5_18, g5_0, g5_1, g5_2, n5_0, n5_1, hlt70, ew71, f76]); try rfl) (by simp) (by simp) ?_
      repeat (first | simp [h5_1, h5_3, h5_16, h5_17, h5_18, g5_0, g5_1, g5_2, n5_0, n5_1, hlt70, ew71, f76] | with_reducible refine awp_reg ?_ | with_reducible refine And.intro (by omega) ?_ | with_reducible refine optF_if (by omega) ?_)
      refine condK_spec (!(eqI y77.1 0)) (by first | rfl | (simp [h5_1, h5_3, h5_16, h5_17, h5_18, g5_0, g5_1, g5_2, n5_0, n5_1, hlt70, ew71, f76]; done) | (simp [andB, orB, eqI, ltI, Int.natCast_inj, h5_1, h5_3, h5_16, h5_17, h5_18, g5_0, g5_1, g5_2, n5_0, n5_1, hlt70, ew71, f76]; done)) (fun h79 => ?_) (fun h79 => ?_)
      · replace e63 := condT h79 e63
        repeat (first | simp [h5_1, h5_3, h5_16, h5_17, h5_18, g5_0, g5_1, g5_2, n5_0, n5_1, hlt70, ew71, f76] | with_reducible refine awp_reg ?_ | with_reducible refine And.intro (by omega) ?_ | with_reducible refine optF_if (by omega) ?_)
        obtain rfl := Option.some.inj e63
        try dsimp only at e43
        obtain rfl := Option.some.inj e43
        try dsimp only at hs
        refine hX46 _ _ (by simp) ?_
        repeat (first | simp [h5_1, h5_3, h5_16, h5_17, h5_18, g5_0, g5_1, g5_2, n5_0, n5_1, hlt70, ew71, f76] | with_reducible refine awp_reg ?_ | with_reducible refine And.intro (by omega) ?_ | with_reducible refine optF_if (by omega) ?_)
        obtain rfl := Option.some.inj hs
        refine hQ _ _ (ret2g _ (Gh.refl _) (by simp [St.frz, St.pur, h5_1, h5_3, h5_16, h5_17, h5_18, g5_0, g5_1, g5_2, n5_0, n5_1, hlt70, ew71, f76]; rfl) (by first | rfl | (simp [St.frz, St.pur, h5_1, h5_3, h5_16, h5_17, h5_18, g5_0, g5_1, g5_2, n5_0, n5_1, hlt70, ew71, f76]; done) | (rw [if_pos (by first | omega | (simp; omega))]; simp [St.frz, St.pur, h5_1, h5_3, h5_16, h5_17, h5_18, g5_0, g5_1, g5_2, n5_0, n5_1, hlt70, ew71, f76]; first | omega | exact List.take_of_length_le (by simp; omega) | skip)) (by simp))
      · replace e63 := condF h79 e63
        repeat (first | simp [h5_1, h5_3, h5_16, h5_17, h5_18, g5_0, g5_1, g5_2, n5_0, n5_1, hlt70, ew71, f76] | with_reducible refine awp_reg ?_ | with_reducible refine And.intro (by omega) ?_ | with_reducible refine optF_if (by omega) ?_)
        exact hL66 (q69, (k55 + 1)) _ _ (Gh.refl _) ⟨e63, hd75, by simp [St.frz, St.pur, h5_1, h5_3, h5_16, h5_17, h5_18, g5_0, g5_1, g5_2, n5_0, n5_1, hlt70, ew71, f76], by simp [St.frz, St.pur, h5_1, h5_3, h5_16, h5_17, h5_18, g5_0, g5_1, g5_2, n5_0, n5_1, hlt70, ew71, f76], by simp [St.frz, St.pur, h5_1, h5_3, h5_16, h5_17, h5_18, g5_0, g5_1, g5_2, n5_0, n5_1, hlt70, ew71, f76], by simp [St.frz, St.pur, h5_1, h5_3, h5_16, h5_17, h5_18, g5_0, g5_1, g5_2, n5_0, n5_1, hlt70, ew71, f76], by simp [St.frz, St.pur, h5_1, h5_3, h5_16, h5_17, h5_18, g5_0, g5_1, g5_2, n5_0, n5_1, hlt70, ew71, f76], by simp [St.frz, St.pur, h5_1, h5_3, h5_16, h5_17, h5_18, g5_0, g5_1, g5_2, n5_0, n5_1, hlt70, ew71, f76], by simp [St.frz, St.pur, h5_1, h5_3, h5_16, h5_17, h5_18, g5_0, g5_1, g5_2, n5_0, n5_1, hlt70, ew71, f76], by simp [St.frz, St.pur, h5_1, h5_3, h5_16, h5_17, h5_18, g5_0, g5_1, g5_2, n5_0, n5_1, hlt70, ew71, f76], by first | (simp; done) | (simp; omega) | omega⟩ (by simp)
  · obtain ⟨e43, h4_1, h4_3, g4_0, g4_1, n4_g⟩ := hp
    obtain rfl := Option.some.inj e43
    try dsimp only at hs
    have n4_0 : ¬ (σ3.gen = 0) := by omega
    repeat (first | simp [h4_1, h4_3, g4_0, g4_1, n4_0] | with_reducible refine awp_reg ?_ | with_reducible refine awp_draw ?_ | with_reducible refine ord_l (by kernel_rfl) ?_ | with_reducible refine ord_e (by kernel_rfl) ?_ | with_reducible refine ord_c (by kernel_rfl) ?_ | with_reducible refine ord_d (by kernel_rfl) ?_ | with_reducible refine And.intro (by omega) ?_ | with_reducible refine optF_if (by omega) ?_)
    obtain ⟨y81, hx82, hs⟩ := bindO hs
    try dsimp only at hs
    refine callK_pure (at_program_funcNames hx82) (by (first | simp [h4_1, h4_3, g4_0, g4_1, n4_0] | simp (disch := omega) [h4_1, h4_3, g4_0, g4_1, n4_0]); try rfl) (by simp) (by simp) ?_
    repeat (first | simp [h4_1, h4_3, g4_0, g4_1, n4_0] | with_reducible refine awp_reg ?_ | with_reducible refine awp_draw ?_ | with_reducible refine ord_l (by kernel_rfl) ?_ | with_reducible refine ord_e (by kernel_rfl) ?_ | with_reducible refine ord_c (by kernel_rfl) ?_ | with_reducible refine ord_d (by kernel_rfl) ?_ | with_reducible refine And.intro (by omega) ?_ | with_reducible refine optF_if (by omega) ?_)
    obtain ⟨y83, hx84, hs⟩ := bindO hs
    try dsimp only at hs
    refine callK_pure (at_program_names hx84) (by (first | simp [h4_1, h4_3, g4_0, g4_1, n4_0] | simp (disch := omega) [h4_1, h4_3, g4_0, g4_1, n4_0]); try rfl) (by simp) (by simp) ?_
    repeat (first | simp [h4_1, h4_3, g4_0, g4_1, n4_0] | with_reducible refine awp_reg ?_ | with_reducible refine awp_draw ?_ | with_reducible refine ord_l (by kernel_rfl) ?_ | with_reducible refine ord_e (by kernel_rfl) ?_ | with_reducible refine ord_c (by kernel_rfl) ?_ | with_reducible refine ord_d (by kernel_rfl) ?_ | with_reducible refine And.intro (by omega) ?_ | with_reducible refine optF_if (by omega) ?_)
    obtain rfl := Option.some.inj hs
    refine hQ _ _ (ret2g _ (Gh.refl _) (by simp [St.frz, St.pur, h4_1, h4_3, g4_0, g4_1, n4_0]; rfl) (by first | rfl | (simp [St.frz, St.pur, h4_1, h4_3, g4_0, g4_1, n4_0]; done) | (rw [if_pos (by first | omega | (simp; omega))]; simp [St.frz, St.pur, h4_1, h4_3, g4_0, g4_1, n4_0]; first | omega | exact List.take_of_length_le (by simp; omega) | skip)) (by simp))
end Go.Dc
end
section
set_option linter.all false
namespace Go.Dc
open Go Go.Hw Go.Proofs
set_option maxRecDepth 100000

def program_value (a0 : Int) : Option Bool :=
  some (andB (!(ltI a0 (-2147483648))) (!(ltI 2147483647 a0)))

set_option maxHeartbeats 2000000 in
theorem at_program_value {a0 : Int} {r : Bool} (hs : program_value a0 = some r) : At Tryd.prog 113 [iV .i64 a0] (bV r) := by
  refine at_bound (by kernel_rfl) fun hb => ?_
  refine at_code mixed Tryd.func113 (by kernel_rfl) rfl (by kernel_rfl) rfl fun Q hQ => ?_
  rw [program_value] at hs
  repeat (first | simp | with_reducible refine awp_reg ?_ | with_reducible refine gsel_pure (by with_unfolding_all rfl) _ (fun hg => by (try simp at hg); first | (simp [hg]; rfl) | (simp; simp only [if_pos hg]; simp; rfl)) ?_)
  obtain rfl := Option.some.inj hs
  refine hQ _ _ (ret2g _ (Gh.refl _) (by simp [St.frz, St.pur]; rfl) (by first | rfl | (simp [St.frz, St.pur]; done) | (rw [if_pos (by first | omega | (simp; omega))]; simp [St.frz, St.pur]; first | omega | exact List.take_of_length_le (by simp; omega) | skip)) (by simp))
end Go.Dc
end
section
set_option linter.all false
namespace Go.Dc
open Go Go.Hw Go.Proofs
set_option maxRecDepth 100000
def program_checkObjects_L1 : List Var → Nat → Option (Unit ⊕ (Int × ProgramPlace))
  | [], k47 => some (.inl ())
  | x65 :: q61, k47 => Option.bind (program_value x65.Init) (fun y68 => cond (!y68) (some (.inr (2, ({ fn := (-1), inst := (-1) } : ProgramPlace)))) (program_checkObjects_L1 q61 (k47 + 1)))

def program_checkObjects (a0 : Program) : Option (Int × ProgramPlace) :=
  cond (orB (orB (orB (ltI 8 ((a0.Vars.length : Nat) : Int)) (ltI 4 ((a0.Mutexes.length : Nat) : Int))) (ltI 4 ((a0.Conds.length : Nat) : Int))) (ltI 8 ((a0.Funcs.length : Nat) : Int))) (some (4, ({ fn := (-1), inst := (-1) } : ProgramPlace))) (Option.bind (α := Unit ⊕ (Int × ProgramPlace)) (Option.bind (program_checkObjects_L1 a0.Vars 0) (fun o => match o with | .inl _ => some (.inl ()) | .inr r71 => some (.inr r71))) (fun o => match o with | .inl _ => some (0, ({ fn := (-1), inst := (-1) } : ProgramPlace)) | .inr r72 => some r72))

set_option maxHeartbeats 2000000 in
theorem at_program_checkObjects {a0 : Program} {r : Int × ProgramPlace} (hs : program_checkObjects a0 = some r) : At Tryd.prog 84 [.agg [.p (.sl a0.Vars.length (encL a0.Vars)), .p (.sl a0.Mutexes.length (encL a0.Mutexes)), .p (.sl a0.Conds.length (encL a0.Conds)), .p (.sl a0.Funcs.length (encL a0.Funcs)), .p (.sl a0.Threads.length (encL a0.Threads))]] (.tup [iV .i64 r.1, .agg [.p (.c (.int .i64 r.2.fn)), .p (.c (.int .i64 r.2.inst))]]) := by
  refine at_bound (by kernel_rfl) fun hb => ?_
  have hb1 : LenOk (.sl a0.Vars.length (encL a0.Vars)) := hb (.agg [.p (.sl a0.Vars.length (encL a0.Vars)), .p (.sl a0.Mutexes.length (encL a0.Mutexes)), .p (.sl a0.Conds.length (encL a0.Conds)), .p (.sl a0.Funcs.length (encL a0.Funcs)), .p (.sl a0.Threads.length (encL a0.Threads))]) (by simp) (.p (.sl a0.Vars.length (encL a0.Vars))) (by simp)
  have hb2 : LenOk (.sl a0.Mutexes.length (encL a0.Mutexes)) := hb (.agg [.p (.sl a0.Vars.length (encL a0.Vars)), .p (.sl a0.Mutexes.length (encL a0.Mutexes)), .p (.sl a0.Conds.length (encL a0.Conds)), .p (.sl a0.Funcs.length (encL a0.Funcs)), .p (.sl a0.Threads.length (encL a0.Threads))]) (by simp) (.p (.sl a0.Mutexes.length (encL a0.Mutexes))) (by simp)
  have hb3 : LenOk (.sl a0.Conds.length (encL a0.Conds)) := hb (.agg [.p (.sl a0.Vars.length (encL a0.Vars)), .p (.sl a0.Mutexes.length (encL a0.Mutexes)), .p (.sl a0.Conds.length (encL a0.Conds)), .p (.sl a0.Funcs.length (encL a0.Funcs)), .p (.sl a0.Threads.length (encL a0.Threads))]) (by simp) (.p (.sl a0.Conds.length (encL a0.Conds))) (by simp)
  have hb4 : LenOk (.sl a0.Funcs.length (encL a0.Funcs)) := hb (.agg [.p (.sl a0.Vars.length (encL a0.Vars)), .p (.sl a0.Mutexes.length (encL a0.Mutexes)), .p (.sl a0.Conds.length (encL a0.Conds)), .p (.sl a0.Funcs.length (encL a0.Funcs)), .p (.sl a0.Threads.length (encL a0.Threads))]) (by simp) (.p (.sl a0.Funcs.length (encL a0.Funcs))) (by simp)
  have hb5 : LenOk (.sl a0.Threads.length (encL a0.Threads)) := hb (.agg [.p (.sl a0.Vars.length (encL a0.Vars)), .p (.sl a0.Mutexes.length (encL a0.Mutexes)), .p (.sl a0.Conds.length (encL a0.Conds)), .p (.sl a0.Funcs.length (encL a0.Funcs)), .p (.sl a0.Threads.length (encL a0.Threads))]) (by simp) (.p (.sl a0.Threads.length (encL a0.Threads))) (by simp)
  refine at_code mixed Tryd.func84 (by kernel_rfl) rfl (by kernel_rfl) rfl fun Q hQ => ?_
  rw [program_checkObjects] at hs
  repeat (first | simp | with_reducible refine awp_reg ?_ | with_reducible refine And.intro (by omega) ?_ | with_reducible refine optF_if (by omega) ?_ | with_reducible refine gsel_pure (by with_unfolding_all rfl) _ (fun hg => by (try simp at hg); first | (simp [hg]; rfl) | (simp; simp only [if_pos hg]; simp; rfl)) ?_)
  refine condK_spec (orB (orB (orB (ltI 8 ((a0.Vars.length : Nat) : Int)) (ltI 4 ((a0.Mutexes.length : Nat) : Int))) (ltI 4 ((a0.Conds.length : Nat) : Int))) (ltI 8 ((a0.Funcs.length : Nat) : Int))) (by first | rfl | (simp; done) | (simp [andB, orB, eqI, ltI, Int.natCast_inj]; done)) (fun h1 => ?_) (fun h1 => ?_)
  · replace hs := condT h1 hs
    repeat (first | simp | with_reducible refine awp_reg ?_ | with_reducible refine awp_draw ?_ | with_reducible refine ord_l (by kernel_rfl) ?_ | with_reducible refine ord_e (by kernel_rfl) ?_ | with_reducible refine ord_c (by kernel_rfl) ?_ | with_reducible refine ord_d (by kernel_rfl) ?_ | with_reducible refine And.intro (by omega) ?_ | with_reducible refine optF_if (by omega) ?_ | with_reducible refine gsel_pure (by with_unfolding_all rfl) _ (fun hg => by (try simp at hg); first | (simp [hg]; rfl) | (simp; simp only [if_pos hg]; simp; rfl)) ?_ | with_reducible refine dskip_intro ?_ | with_reducible refine dsel_pure (by with_unfolding_all rfl) _ (fun hg => by (try simp at hg); simp [hg]; rfl) ?_)
    obtain rfl := Option.some.inj hs
    refine hQ _ _ (ret2g _ (Gh.refl _) (by simp [St.frz, St.pur]; rfl) (by first | rfl | (simp [St.frz, St.pur]; done) | (rw [if_pos (by first | omega | (simp; omega))]; simp [St.frz, St.pur]; first | omega | exact List.take_of_length_le (by simp; omega) | skip)) (by simp))
  · replace hs := condF h1 hs
    repeat (first | simp [-awp_cond_eq, -awp_block_eq] | with_reducible refine awp_reg ?_ | with_reducible refine And.intro (by omega) ?_ | with_reducible refine optF_if (by omega) ?_ | with_reducible refine gsel_pure (by with_unfolding_all rfl) _ (fun hg => by (try simp at hg); first | (simp [hg]; rfl) | (simp; simp only [if_pos hg]; simp; rfl)) ?_)
    obtain ⟨o36, e35, hs⟩ := bindO hs
    try dsimp only at hs
    refine awp_cutK (fun (v : Unit) (σ : St) => some (.inl v) = some o36 ∧ σ.env 3 = .cell (.ref (.o 1 2 0) 0) ∧ σ.env 4 = .cell (.ref (.o 2 1 0) 0) ∧ σ.hp (.o 1 2 0) = some (.cells [.p (.c (.int .i64 0)), .p (.c (.int .i64 0))]) ∧ σ.hp (.o 2 1 0) = some (.cells [.p (.c (.int .i64 (-1))), .p (.c (.int .i64 (-1)))]) ∧ 4 ≤ σ.gen) (by rfl) (fun Q hK37 hX38 => ?_) (fun v σ3 hp => ?_)
    · repeat (first | simp | with_reducible refine awp_reg ?_ | with_reducible refine And.intro (by omega) ?_ | with_reducible refine optF_if (by omega) ?_ | with_reducible refine gsel_pure (by with_unfolding_all rfl) _ (fun hg => by (try simp at hg); first | (simp [hg]; rfl) | (simp; simp only [if_pos hg]; simp; rfl)) ?_)
      obtain ⟨o56, e55, e35⟩ := bindO e35
      try dsimp only at e35
      refine awp_loopW (fun (v : (List Var) × Nat) (σ : St) => program_checkObjects_L1 v.1 v.2 = some o56 ∧ v.1 = a0.Vars.drop v.2 ∧ σ.env 3 = .cell (.ref (.o 1 2 0) 0) ∧ σ.env 4 = .cell (.ref (.o 2 1 0) 0) ∧ σ.env 32 = .cell (.p (.sl a0.Vars.length (encL a0.Vars))) ∧ σ.env 33 = iV .i64 ((a0.Vars.length : Nat) : Int) ∧ σ.env 34 = iV .i64 ((v.2 : Nat) : Int) ∧ σ.hp (.o 1 2 0) = some (.cells [.p (.c (.int .i64 0)), .p (.c (.int .i64 0))]) ∧ σ.hp (.o 2 1 0) = some (.cells [.p (.c (.int .i64 (-1))), .p (.c (.int .i64 (-1)))]) ∧ 4 ≤ σ.gen) (fun v => v.1.length) _ (Gh.refl _) (a0.Vars, 0) ⟨e55, by simp, by simp [St.frz, St.pur], by simp [St.frz, St.pur], by simp [St.frz, St.pur], by simp [St.frz, St.pur], by simp [St.frz, St.pur], by simp [St.frz, St.pur], by simp [St.frz, St.pur], by first | (simp; done) | (simp; omega) | omega⟩ fun v σ6 hp L57 hL58 => ?_
      obtain ⟨q60, k47⟩ := v
      dsimp only at hp hL58
      obtain ⟨e55, hd59, h5_3, h5_4, h5_32, h5_33, h5_34, g5_0, g5_1, n5_g⟩ := hp
      have n5_0 : ¬ (σ6.gen = 0) := by omega
      have n5_1 : ¬ (σ6.gen = 1) := by omega
      rcases q60 with _ | ⟨x65, q61⟩
      · have hlt62 := drop_end hd59
        rw [program_checkObjects_L1] at e55; try dsimp only at e55
        repeat (first | simp [h5_3, h5_4, h5_32, h5_33, h5_34, g5_0, g5_1, n5_0, n5_1] | with_reducible refine awp_reg ?_)
        refine condK_f (by simp [ltI]; omega) ?_
        obtain rfl := Option.some.inj e55
        try dsimp only at e35
        exact hK37 () _ _ (Gh.refl _) ⟨e35, by simp [St.frz, St.pur, h5_3, h5_4, h5_32, h5_33, h5_34, g5_0, g5_1, n5_0, n5_1], by simp [St.frz, St.pur, h5_3, h5_4, h5_32, h5_33, h5_34, g5_0, g5_1, n5_0, n5_1], by simp [St.frz, St.pur, h5_3, h5_4, h5_32, h5_33, h5_34, g5_0, g5_1, n5_0, n5_1], by simp [St.frz, St.pur, h5_3, h5_4, h5_32, h5_33, h5_34, g5_0, g5_1, n5_0, n5_1], by first | (simp; done) | (simp; omega) | omega⟩
      · obtain ⟨hx64, hlt62, hd66⟩ := drop_next hd59
        have ew63 := wrap_succ hlt62 (hb1).len
        rw [program_checkObjects_L1] at e55; try dsimp only at e55
        repeat (first | simp [h5_3, h5_4, h5_32, h5_33, h5_34, g5_0, g5_1, n5_0, n5_1, hlt62, ew63] | with_reducible refine awp_reg ?_)
        refine condK_t (by simp [ltI]; omega) ?_
        have f67 : partCV Tryd.prog 105 (encL a0.Vars) (k47 * 2) = some (.agg [.p (.c (.string x65.Name)), .p (.c (.int .i64 x65.Init))]) := partCV_enc hx64 (f := 0) (by simp)
        repeat (first | simp [h5_3, h5_4, h5_32, h5_33, h5_34, g5_0, g5_1, n5_0, n5_1, hlt62, ew63, f67] | with_reducible refine awp_reg ?_ | with_reducible refine And.intro (by omega) ?_ | with_reducible refine optF_if (by omega) ?_)
        obtain ⟨y68, hx69, e55⟩ := bindO e55
        try dsimp only at e55
        refine callK_pure (at_program_value hx69) (by (first | simp [h5_3, h5_4, h5_32, h5_33, h5_34, g5_0, g5_1, n5_0, n5_1, hlt62, ew63, f67] | simp (disch := omega) [h5_3, h5_4, h5_32, h5_33, h5_34, g5_0, g5_1, n5_0, n5_1, hlt62, ew63, f67]); try rfl) (by simp) (by simp) ?_
        repeat (first | simp [h5_3, h5_4, h5_32, h5_33, h5_34, g5_0, g5_1, n5_0, n5_1, hlt62, ew63, f67] | with_reducible refine awp_reg ?_ | with_reducible refine And.intro (by omega) ?_ | with_reducible refine optF_if (by omega) ?_)
        refine condK_spec (!y68) (by first | rfl | (simp [h5_3, h5_4, h5_32, h5_33, h5_34, g5_0, g5_1, n5_0, n5_1, hlt62, ew63, f67]; done) | (simp [andB, orB, eqI, ltI, Int.natCast_inj, h5_3, h5_4, h5_32, h5_33, h5_34, g5_0, g5_1, n5_0, n5_1, hlt62, ew63, f67]; done)) (fun h70 => ?_) (fun h70 => ?_)
        · replace e55 := condT h70 e55
          repeat (first | simp [h5_3, h5_4, h5_32, h5_33, h5_34, g5_0, g5_1, n5_0, n5_1, hlt62, ew63, f67] | with_reducible refine awp_reg ?_ | with_reducible refine awp_draw ?_ | with_reducible refine ord_l (by kernel_rfl) ?_ | with_reducible refine ord_e (by kernel_rfl) ?_ | with_reducible refine ord_c (by kernel_rfl) ?_ | with_reducible refine ord_d (by kernel_rfl) ?_ | with_reducible refine And.intro (by omega) ?_ | with_reducible refine optF_if (by omega) ?_)
          obtain rfl := Option.some.inj e55
          try dsimp only at e35
          obtain rfl := Option.some.inj e35
          try dsimp only at hs
          refine hX38 _ _ (by simp) ?_
          repeat (first | simp [h5_3, h5_4, h5_32, h5_33, h5_34, g5_0, g5_1, n5_0, n5_1, hlt62, ew63, f67] | with_reducible refine awp_reg ?_ | with_reducible refine awp_draw ?_ | with_reducible refine ord_l (by kernel_rfl) ?_ | with_reducible refine ord_e (by kernel_rfl) ?_ | with_reducible refine ord_c (by kernel_rfl) ?_ | with_reducible refine ord_d (by kernel_rfl) ?_ | with_reducible refine And.intro (by omega) ?_ | with_reducible refine optF_if (by omega) ?_)
          obtain rfl := Option.some.inj hs
          refine hQ _ _ (ret2g _ (Gh.refl _) (by simp [St.frz, St.pur, h5_3, h5_4, h5_32, h5_33, h5_34, g5_0, g5_1, n5_0, n5_1, hlt62, ew63, f67]; rfl) (by first | rfl | (simp [St.frz, St.pur, h5_3, h5_4, h5_32, h5_33, h5_34, g5_0, g5_1, n5_0, n5_1, hlt62, ew63, f67]; done) | (rw [if_pos (by first | omega | (simp; omega))]; simp [St.frz, St.pur, h5_3, h5_4, h5_32, h5_33, h5_34, g5_0, g5_1, n5_0, n5_1, hlt62, ew63, f67]; first | omega | exact List.take_of_length_le (by simp; omega) | skip)) (by simp))
        · replace e55 := condF h70 e55
          repeat (first | simp [h5_3, h5_4, h5_32, h5_33, h5_34, g5_0, g5_1, n5_0, n5_1, hlt62, ew63, f67] | with_reducible refine awp_reg ?_ | with_reducible refine And.intro (by omega) ?_ | with_reducible refine optF_if (by omega) ?_)
          exact hL58 (q61, (k47 + 1)) _ _ (Gh.refl _) ⟨e55, hd66, by simp [St.frz, St.pur, h5_3, h5_4, h5_32, h5_33, h5_34, g5_0, g5_1, n5_0, n5_1, hlt62, ew63, f67], by simp [St.frz, St.pur, h5_3, h5_4, h5_32, h5_33, h5_34, g5_0, g5_1, n5_0, n5_1, hlt62, ew63, f67], by simp [St.frz, St.pur, h5_3, h5_4, h5_32, h5_33, h5_34, g5_0, g5_1, n5_0, n5_1, hlt62, ew63, f67], by simp [St.frz, St.pur, h5_3, h5_4, h5_32, h5_33, h5_34, g5_0, g5_1, n5_0, n5_1, hlt62, ew63, f67], by simp [St.frz, St.pur, h5_3, h5_4, h5_32, h5_33, h5_34, g5_0, g5_1, n5_0, n5_1, hlt62, ew63, f67], by simp [St.frz, St.pur, h5_3, h5_4, h5_32, h5_33, h5_34, g5_0, g5_1, n5_0, n5_1, hlt62, ew63, f67], by simp [St.frz, St.pur, h5_3, h5_4, h5_32, h5_33, h5_34, g5_0, g5_1, n5_0, n5_1, hlt62, ew63, f67], by first | (simp; done) | (simp; omega) | omega⟩ (by simp)
    · obtain ⟨e35, h4_3, h4_4, g4_0, g4_1, n4_g⟩ := hp
      obtain rfl := Option.some.inj e35
      try dsimp only at hs
      have n4_0 : ¬ (σ3.gen = 0) := by omega
      have n4_1 : ¬ (σ3.gen = 1) := by omega
      repeat (first | simp [h4_3, h4_4, g4_0, g4_1, n4_0, n4_1] | with_reducible refine awp_reg ?_ | with_reducible refine awp_draw ?_ | with_reducible refine ord_l (by kernel_rfl) ?_ | with_reducible refine ord_e (by kernel_rfl) ?_ | with_reducible refine ord_c (by kernel_rfl) ?_ | with_reducible refine ord_d (by kernel_rfl) ?_ | with_reducible refine And.intro (by omega) ?_ | with_reducible refine optF_if (by omega) ?_ | with_reducible refine gsel_pure (by with_unfolding_all rfl) _ (fun hg => by (try simp at hg); first | (simp [hg, h4_3, h4_4, g4_0, g4_1, n4_0, n4_1]; rfl) | (simp [h4_3, h4_4, g4_0, g4_1, n4_0, n4_1]; simp only [if_pos hg]; simp [h4_3, h4_4, g4_0, g4_1, n4_0, n4_1]; rfl)) ?_ | with_reducible refine dskip_intro ?_ | with_reducible refine dsel_pure (by with_unfolding_all rfl) _ (fun hg => by (try simp at hg); simp [hg, h4_3, h4_4, g4_0, g4_1, n4_0, n4_1]; rfl) ?_)
      obtain rfl := Option.some.inj hs
      refine hQ _ _ (ret2g _ (Gh.refl _) (by simp [St.frz, St.pur, h4_3, h4_4, g4_0, g4_1, n4_0, n4_1]; rfl) (by first | rfl | (simp [St.frz, St.pur, h4_3, h4_4, g4_0, g4_1, n4_0, n4_1]; done) | (rw [if_pos (by first | omega | (simp; omega))]; simp [St.frz, St.pur, h4_3, h4_4, g4_0, g4_1, n4_0, n4_1]; first | omega | exact List.take_of_length_le (by simp; omega) | skip)) (by simp))
end Go.Dc
end
section
set_option linter.all false
namespace Go.Dc
open Go Go.Hw Go.Proofs
set_option maxRecDepth 100000

def program_checkCode_1 (a0 : Func) : Option Bool :=
  some (ltI 64 ((a0.Code.length : Nat) : Int))

set_option maxHeartbeats 2000000 in
theorem at_program_checkCode_1 {a0 : Func} {r : Bool} (hs : program_checkCode_1 a0 = some r) : At Tryd.prog 115 [.agg [.p (.c (.string a0.Name)), .p (.sl a0.Code.length (encL a0.Code))]] (bV r) := by
  refine at_bound (by kernel_rfl) fun hb => ?_
  have hb1 : LenOk (.sl a0.Code.length (encL a0.Code)) := hb (.agg [.p (.c (.string a0.Name)), .p (.sl a0.Code.length (encL a0.Code))]) (by simp) (.p (.sl a0.Code.length (encL a0.Code))) (by simp)
  refine at_code mixed Tryd.func115 (by kernel_rfl) rfl (by kernel_rfl) rfl fun Q hQ => ?_
  rw [program_checkCode_1] at hs
  repeat (first | simp | with_reducible refine awp_reg ?_ | with_reducible refine And.intro (by omega) ?_ | with_reducible refine optF_if (by omega) ?_)
  obtain rfl := Option.some.inj hs
  refine hQ _ _ (ret2g _ (Gh.refl _) (by simp [St.frz, St.pur]; rfl) (by first | rfl | (simp [St.frz, St.pur]; done) | (rw [if_pos (by first | omega | (simp; omega))]; simp [St.frz, St.pur]; first | omega | exact List.take_of_length_le (by simp; omega) | skip)) (by simp))
end Go.Dc
end
section
set_option linter.all false
namespace Go.Dc
open Go Go.Hw Go.Proofs
set_option maxRecDepth 100000
def slices_IndexFunc_api_Func_program_checkCode_1_L1 : List Func → Nat → Option (Unit ⊕ Int)
  | [], k46 => some (.inl ())
  | x64 :: q60, k46 => Option.bind (program_checkCode_1 x64) (fun y67 => cond y67 (some (.inr ((k46 : Nat) : Int))) (slices_IndexFunc_api_Func_program_checkCode_1_L1 q60 (k46 + 1)))

def slices_IndexFunc_api_Func_program_checkCode_1 (a0 : List Func) : Option Int :=
  Option.bind (α := Unit ⊕ Int) (Option.bind (slices_IndexFunc_api_Func_program_checkCode_1_L1 a0 0) (fun o => match o with | .inl _ => some (.inl ()) | .inr r70 => some (.inr r70))) (fun o => match o with | .inl _ => some (-1) | .inr r71 => some r71)

set_option maxHeartbeats 2000000 in
theorem at_slices_IndexFunc_api_Func_program_checkCode_1 {a0 : List Func} {r : Int} (hs : slices_IndexFunc_api_Func_program_checkCode_1 a0 = some r) : At Tryd.prog 114 [.cell (.p (.sl a0.length (encL a0))), .cell (.p (.c (.func (.func 115) #[] #[])))] (iV .i64 r) := by
  refine at_bound (by kernel_rfl) fun hb => ?_
  have hb1 : LenOk (.sl a0.length (encL a0)) := hb (.cell (.p (.sl a0.length (encL a0)))) (by simp)
  refine at_code mixed Tryd.func114 (by kernel_rfl) rfl (by kernel_rfl) rfl fun Q hQ => ?_
  rw [slices_IndexFunc_api_Func_program_checkCode_1] at hs
  repeat (first | simp [-awp_cond_eq, -awp_block_eq] | with_reducible refine awp_reg ?_ | with_reducible refine And.intro (by omega) ?_ | with_reducible refine optF_if (by omega) ?_)
  obtain ⟨o35, e34, hs⟩ := bindO hs
  try dsimp only at hs
  refine awp_cutK (fun (v : Unit) (σ : St) => some (.inl v) = some o35 ∧ 2 ≤ σ.gen) (by rfl) (fun Q hK36 hX37 => ?_) (fun v σ3 hp => ?_)
  · repeat (first | simp | with_reducible refine awp_reg ?_ | with_reducible refine And.intro (by omega) ?_ | with_reducible refine optF_if (by omega) ?_)
    obtain ⟨o55, e54, e34⟩ := bindO e34
    try dsimp only at e34
    refine awp_loopW (fun (v : (List Func) × Nat) (σ : St) => slices_IndexFunc_api_Func_program_checkCode_1_L1 v.1 v.2 = some o55 ∧ v.1 = a0.drop v.2 ∧ σ.env 0 = .cell (.p (.sl a0.length (encL a0))) ∧ σ.env 1 = .cell (.p (.c (.func (.func 115) #[] #[]))) ∧ σ.env 7 = iV .i64 ((a0.length : Nat) : Int) ∧ σ.env 8 = iV .i64 ((v.2 : Nat) : Int) ∧ 2 ≤ σ.gen) (fun v => v.1.length) _ (Gh.refl _) (a0, 0) ⟨e54, by simp, by simp [St.frz, St.pur], by simp [St.frz, St.pur], by simp [St.frz, St.pur], by simp [St.frz, St.pur], by first | (simp; done) | (simp; omega) | omega⟩ fun v σ6 hp L56 hL57 => ?_
    obtain ⟨q59, k46⟩ := v
    dsimp only at hp hL57
    obtain ⟨e54, hd58, h5_0, h5_1, h5_7, h5_8, n5_g⟩ := hp
    rcases q59 with _ | ⟨x64, q60⟩
    · have hlt61 := drop_end hd58
      rw [slices_IndexFunc_api_Func_program_checkCode_1_L1] at e54; try dsimp only at e54
      repeat (first | simp [h5_0, h5_1, h5_7, h5_8] | with_reducible refine awp_reg ?_)
      refine condK_f (by simp [ltI]; omega) ?_
      obtain rfl := Option.some.inj e54
      try dsimp only at e34
      exact hK36 () _ _ (Gh.refl _) ⟨e34, by first | (simp; done) | (simp; omega) | omega⟩
    · obtain ⟨hx63, hlt61, hd65⟩ := drop_next hd58
      have ew62 := wrap_succ hlt61 (hb1).len
      rw [slices_IndexFunc_api_Func_program_checkCode_1_L1] at e54; try dsimp only at e54
      repeat (first | simp [h5_0, h5_1, h5_7, h5_8, hlt61, ew62] | with_reducible refine awp_reg ?_)
      refine condK_t (by simp [ltI]; omega) ?_
      have f66 : partCV Tryd.prog 24 (encL a0) (k46 * 2) = some (.agg [.p (.c (.string x64.Name)), .p (.sl x64.Code.length (encL x64.Code))]) := partCV_enc hx63 (f := 0) (by simp)
      repeat (first | simp [h5_0, h5_1, h5_7, h5_8, hlt61, ew62, f66] | with_reducible refine awp_reg ?_ | with_reducible refine And.intro (by omega) ?_ | with_reducible refine optF_if (by omega) ?_)
      obtain ⟨y67, hx68, e54⟩ := bindO e54
      try dsimp only at e54
      refine callK_pure (at_program_checkCode_1 hx68) (by (first | simp [h5_0, h5_1, h5_7, h5_8, hlt61, ew62, f66] | simp (disch := omega) [h5_0, h5_1, h5_7, h5_8, hlt61, ew62, f66]); try rfl) (by simp) (by simp) ?_
      repeat (first | simp [h5_0, h5_1, h5_7, h5_8, hlt61, ew62, f66] | with_reducible refine awp_reg ?_ | with_reducible refine And.intro (by omega) ?_ | with_reducible refine optF_if (by omega) ?_)
      refine condK_spec y67 (by first | rfl | (simp [h5_0, h5_1, h5_7, h5_8, hlt61, ew62, f66]; done) | (simp [andB, orB, eqI, ltI, Int.natCast_inj, h5_0, h5_1, h5_7, h5_8, hlt61, ew62, f66]; done)) (fun h69 => ?_) (fun h69 => ?_)
      · replace e54 := condT h69 e54
        repeat (first | simp [h5_0, h5_1, h5_7, h5_8, hlt61, ew62, f66] | with_reducible refine awp_reg ?_ | with_reducible refine And.intro (by omega) ?_ | with_reducible refine optF_if (by omega) ?_)
        obtain rfl := Option.some.inj e54
        try dsimp only at e34
        obtain rfl := Option.some.inj e34
        try dsimp only at hs
        refine hX37 _ _ (by simp) ?_
        repeat (first | simp [h5_0, h5_1, h5_7, h5_8, hlt61, ew62, f66] | with_reducible refine awp_reg ?_ | with_reducible refine And.intro (by omega) ?_ | with_reducible refine optF_if (by omega) ?_)
        obtain rfl := Option.some.inj hs
        refine hQ _ _ (ret2g _ (Gh.refl _) (by simp [St.frz, St.pur, h5_0, h5_1, h5_7, h5_8, hlt61, ew62, f66]; rfl) (by first | rfl | (simp [St.frz, St.pur, h5_0, h5_1, h5_7, h5_8, hlt61, ew62, f66]; done) | (rw [if_pos (by first | omega | (simp; omega))]; simp [St.frz, St.pur, h5_0, h5_1, h5_7, h5_8, hlt61, ew62, f66]; first | omega | exact List.take_of_length_le (by simp; omega) | skip)) (by simp))
      · replace e54 := condF h69 e54
        repeat (first | simp [h5_0, h5_1, h5_7, h5_8, hlt61, ew62, f66] | with_reducible refine awp_reg ?_ | with_reducible refine And.intro (by omega) ?_ | with_reducible refine optF_if (by omega) ?_)
        exact hL57 (q60, (k46 + 1)) _ _ (Gh.refl _) ⟨e54, hd65, by simp [St.frz, St.pur, h5_0, h5_1, h5_7, h5_8, hlt61, ew62, f66], by simp [St.frz, St.pur, h5_0, h5_1, h5_7, h5_8, hlt61, ew62, f66], by simp [St.frz, St.pur, h5_0, h5_1, h5_7, h5_8, hlt61, ew62, f66], by simp [St.frz, St.pur, h5_0, h5_1, h5_7, h5_8, hlt61, ew62, f66], by first | (simp; done) | (simp; omega) | omega⟩ (by simp)
  · obtain ⟨e34, n4_g⟩ := hp
    obtain rfl := Option.some.inj e34
    try dsimp only at hs
    repeat (first | simp | with_reducible refine awp_reg ?_ | with_reducible refine And.intro (by omega) ?_ | with_reducible refine optF_if (by omega) ?_)
    obtain rfl := Option.some.inj hs
    refine hQ _ _ (ret2g _ (Gh.refl _) (by simp [St.frz, St.pur]; rfl) (by first | rfl | (simp [St.frz, St.pur]; done) | (rw [if_pos (by first | omega | (simp; omega))]; simp [St.frz, St.pur]; first | omega | exact List.take_of_length_le (by simp; omega) | skip)) (by simp))
end Go.Dc
end
section
set_option linter.all false
namespace Go.Dc
open Go Go.Hw Go.Proofs
set_option maxRecDepth 100000

def program_instructions (a0 : Program) : Option Program :=
  some a0

set_option maxHeartbeats 2000000 in
theorem at_program_instructions {a0 : Program} {r : Program} (hs : program_instructions a0 = some r) : At Tryd.prog 116 [.agg [.p (.sl a0.Vars.length (encL a0.Vars)), .p (.sl a0.Mutexes.length (encL a0.Mutexes)), .p (.sl a0.Conds.length (encL a0.Conds)), .p (.sl a0.Funcs.length (encL a0.Funcs)), .p (.sl a0.Threads.length (encL a0.Threads))]] (.cell (.fn 123 [.inr (.bx [.sl r.Vars.length (encL r.Vars), .sl r.Mutexes.length (encL r.Mutexes), .sl r.Conds.length (encL r.Conds), .sl r.Funcs.length (encL r.Funcs), .sl r.Threads.length (encL r.Threads)])])) := by
  refine at_bound (by kernel_rfl) fun hb => ?_
  have hb1 : LenOk (.sl a0.Vars.length (encL a0.Vars)) := hb (.agg [.p (.sl a0.Vars.length (encL a0.Vars)), .p (.sl a0.Mutexes.length (encL a0.Mutexes)), .p (.sl a0.Conds.length (encL a0.Conds)), .p (.sl a0.Funcs.length (encL a0.Funcs)), .p (.sl a0.Threads.length (encL a0.Threads))]) (by simp) (.p (.sl a0.Vars.length (encL a0.Vars))) (by simp)
  have hb2 : LenOk (.sl a0.Mutexes.length (encL a0.Mutexes)) := hb (.agg [.p (.sl a0.Vars.length (encL a0.Vars)), .p (.sl a0.Mutexes.length (encL a0.Mutexes)), .p (.sl a0.Conds.length (encL a0.Conds)), .p (.sl a0.Funcs.length (encL a0.Funcs)), .p (.sl a0.Threads.length (encL a0.Threads))]) (by simp) (.p (.sl a0.Mutexes.length (encL a0.Mutexes))) (by simp)
  have hb3 : LenOk (.sl a0.Conds.length (encL a0.Conds)) := hb (.agg [.p (.sl a0.Vars.length (encL a0.Vars)), .p (.sl a0.Mutexes.length (encL a0.Mutexes)), .p (.sl a0.Conds.length (encL a0.Conds)), .p (.sl a0.Funcs.length (encL a0.Funcs)), .p (.sl a0.Threads.length (encL a0.Threads))]) (by simp) (.p (.sl a0.Conds.length (encL a0.Conds))) (by simp)
  have hb4 : LenOk (.sl a0.Funcs.length (encL a0.Funcs)) := hb (.agg [.p (.sl a0.Vars.length (encL a0.Vars)), .p (.sl a0.Mutexes.length (encL a0.Mutexes)), .p (.sl a0.Conds.length (encL a0.Conds)), .p (.sl a0.Funcs.length (encL a0.Funcs)), .p (.sl a0.Threads.length (encL a0.Threads))]) (by simp) (.p (.sl a0.Funcs.length (encL a0.Funcs))) (by simp)
  have hb5 : LenOk (.sl a0.Threads.length (encL a0.Threads)) := hb (.agg [.p (.sl a0.Vars.length (encL a0.Vars)), .p (.sl a0.Mutexes.length (encL a0.Mutexes)), .p (.sl a0.Conds.length (encL a0.Conds)), .p (.sl a0.Funcs.length (encL a0.Funcs)), .p (.sl a0.Threads.length (encL a0.Threads))]) (by simp) (.p (.sl a0.Threads.length (encL a0.Threads))) (by simp)
  refine at_code mixed Tryd.func116 (by kernel_rfl) rfl (by kernel_rfl) rfl fun Q hQ => ?_
  rw [program_instructions] at hs
  repeat (first | simp | with_reducible refine awp_reg ?_)
  obtain rfl := Option.some.inj hs
  refine hQ _ _ (ret2g _ (Gh.frz _ (.o 1 0 0)) (by simp [St.frz, St.pur]; rfl) (by first | rfl | (simp [St.frz, St.pur]; done) | (rw [if_pos (by first | omega | (simp; omega))]; simp [St.frz, St.pur]; first | omega | exact List.take_of_length_le (by simp; omega) | skip)) (by simp))
end Go.Dc
end
section
set_option linter.all false
namespace Go.Dc
open Go Go.Hw Go.Proofs
set_option maxRecDepth 100000

def program_objects (a0 : Program) (a1 : Int) : Option Int :=
  Option.bind (α := Unit ⊕ Int) (Option.bind (α := Bool) (cond (eqI a1 8) (some (eqI a1 8)) (cond (eqI a1 9) (some (eqI a1 9)) (cond (eqI a1 10) (some (eqI a1 10)) (cond (eqI a1 11) (some (eqI a1 11)) (cond (eqI a1 12) (some (eqI a1 12)) (some (eqI a1 14))))))) (fun b40 => cond b40 (some (.inr ((a0.Vars.length : Nat) : Int))) (Option.bind (α := Bool) (cond (eqI a1 15) (some (eqI a1 15)) (cond (eqI a1 16) (some (eqI a1 16)) (some (eqI a1 17)))) (fun b53 => cond b53 (some (.inr ((a0.Mutexes.length : Nat) : Int))) (cond (eqI a1 18) (some (.inr ((a0.Conds.length : Nat) : Int))) (cond (eqI a1 19) (some (.inr ((a0.Conds.length : Nat) : Int))) (cond (eqI a1 20) (some (.inr ((a0.Conds.length : Nat) : Int))) (cond (eqI a1 21) (some (.inr ((a0.Funcs.length : Nat) : Int))) (some (.inl ())))))))))) (fun o => match o with | .inl _ => some (-1) | .inr r65 => some r65)

set_option maxHeartbeats 2000000 in
theorem at_program_objects {a0 : Program} {a1 : Int} {r : Int} (hs : program_objects a0 a1 = some r) : At Tryd.prog 124 [.agg [.p (.sl a0.Vars.length (encL a0.Vars)), .p (.sl a0.Mutexes.length (encL a0.Mutexes)), .p (.sl a0.Conds.length (encL a0.Conds)), .p (.sl a0.Funcs.length (encL a0.Funcs)), .p (.sl a0.Threads.length (encL a0.Threads))], iV .i64 a1] (iV .i64 r) := by
  refine at_bound (by kernel_rfl) fun hb => ?_
  have hb1 : LenOk (.sl a0.Vars.length (encL a0.Vars)) := hb (.agg [.p (.sl a0.Vars.length (encL a0.Vars)), .p (.sl a0.Mutexes.length (encL a0.Mutexes)), .p (.sl a0.Conds.length (encL a0.Conds)), .p (.sl a0.Funcs.length (encL a0.Funcs)), .p (.sl a0.Threads.length (encL a0.Threads))]) (by simp) (.p (.sl a0.Vars.length (encL a0.Vars))) (by simp)
  have hb2 : LenOk (.sl a0.Mutexes.length (encL a0.Mutexes)) := hb (.agg [.p (.sl a0.Vars.length (encL a0.Vars)), .p (.sl a0.Mutexes.length (encL a0.Mutexes)), .p (.sl a0.Conds.length (encL a0.Conds)), .p (.sl a0.Funcs.length (encL a0.Funcs)), .p (.sl a0.Threads.length (encL a0.Threads))]) (by simp) (.p (.sl a0.Mutexes.length (encL a0.Mutexes))) (by simp)
  have hb3 : LenOk (.sl a0.Conds.length (encL a0.Conds)) := hb (.agg [.p (.sl a0.Vars.length (encL a0.Vars)), .p (.sl a0.Mutexes.length (encL a0.Mutexes)), .p (.sl a0.Conds.length (encL a0.Conds)), .p (.sl a0.Funcs.length (encL a0.Funcs)), .p (.sl a0.Threads.length (encL a0.Threads))]) (by simp) (.p (.sl a0.Conds.length (encL a0.Conds))) (by simp)
  have hb4 : LenOk (.sl a0.Funcs.length (encL a0.Funcs)) := hb (.agg [.p (.sl a0.Vars.length (encL a0.Vars)), .p (.sl a0.Mutexes.length (encL a0.Mutexes)), .p (.sl a0.Conds.length (encL a0.Conds)), .p (.sl a0.Funcs.length (encL a0.Funcs)), .p (.sl a0.Threads.length (encL a0.Threads))]) (by simp) (.p (.sl a0.Funcs.length (encL a0.Funcs))) (by simp)
  have hb5 : LenOk (.sl a0.Threads.length (encL a0.Threads)) := hb (.agg [.p (.sl a0.Vars.length (encL a0.Vars)), .p (.sl a0.Mutexes.length (encL a0.Mutexes)), .p (.sl a0.Conds.length (encL a0.Conds)), .p (.sl a0.Funcs.length (encL a0.Funcs)), .p (.sl a0.Threads.length (encL a0.Threads))]) (by simp) (.p (.sl a0.Threads.length (encL a0.Threads))) (by simp)
  refine at_code mixed Tryd.func124 (by kernel_rfl) rfl (by kernel_rfl) rfl fun Q hQ => ?_
  rw [program_objects] at hs
  repeat (first | simp [-awp_cond_eq, -awp_block_eq] | with_reducible refine awp_reg ?_)
  obtain ⟨o32, e31, hs⟩ := bindO hs
  try dsimp only at hs
  refine awp_cutK (fun (v : Unit) (σ : St) => some (.inl v) = some o32 ∧ 2 ≤ σ.gen) (by rfl) (fun Q hK33 hX34 => ?_) (fun v σ5 hp => ?_)
  · repeat (first | simp [-awp_cond_eq, -awp_block_eq] | with_reducible refine awp_reg ?_)
    refine awp_block ?_
    repeat (first | simp [-awp_cond_eq, -awp_block_eq] | with_reducible refine awp_reg ?_)
    obtain ⟨o42, e41, e31⟩ := bindO e31
    try dsimp only at e31
    refine awp_cut0 (fun (v : Bool) (σ : St) => some (v) = some o42 ∧ σ.env 2 = .cell (.ref (.o 1 0 0) 0) ∧ σ.env 5 = iV .i64 a1 ∧ σ.env 6 = bV v ∧ σ.hp (.o 1 0 0) = some (.cells [.p (.sl a0.Vars.length (encL a0.Vars)), .p (.sl a0.Mutexes.length (encL a0.Mutexes)), .p (.sl a0.Conds.length (encL a0.Conds)), .p (.sl a0.Funcs.length (encL a0.Funcs)), .p (.sl a0.Threads.length (encL a0.Threads))]) ∧ 3 ≤ σ.gen) (fun Q hK43 hX44 => ?_) (fun b40 σ7 hp => ?_)
    · repeat (first | simp | with_reducible refine awp_reg ?_)
      refine condK_spec (eqI a1 8) (by first | rfl | (simp; done) | (simp [andB, orB, eqI, ltI, Int.natCast_inj]; done)) (fun h45 => ?_) (fun h45 => ?_)
      · replace e41 := condT h45 e41
        repeat (first | simp | with_reducible refine awp_reg ?_)
        exact hK43 (eqI a1 8) _ ⟨e41, by simp [St.frz, St.pur], by simp [St.frz, St.pur], by simp [St.frz, St.pur], by simp [St.frz, St.pur], by first | (simp; done) | (simp; omega) | omega⟩
      · replace e41 := condF h45 e41
        repeat (first | simp | with_reducible refine awp_reg ?_)
        refine condK_spec (eqI a1 9) (by first | rfl | (simp; done) | (simp [andB, orB, eqI, ltI, Int.natCast_inj]; done)) (fun h46 => ?_) (fun h46 => ?_)
        · replace e41 := condT h46 e41
          repeat (first | simp | with_reducible refine awp_reg ?_)
          exact hK43 (eqI a1 9) _ ⟨e41, by simp [St.frz, St.pur], by simp [St.frz, St.pur], by simp [St.frz, St.pur], by simp [St.frz, St.pur], by first | (simp; done) | (simp; omega) | omega⟩
        · replace e41 := condF h46 e41
          repeat (first | simp | with_reducible refine awp_reg ?_)
          refine condK_spec (eqI a1 10) (by first | rfl | (simp; done) | (simp [andB, orB, eqI, ltI, Int.natCast_inj]; done)) (fun h47 => ?_) (fun h47 => ?_)
          · replace e41 := condT h47 e41
            repeat (first | simp | with_reducible refine awp_reg ?_)
            exact hK43 (eqI a1 10) _ ⟨e41, by simp [St.frz, St.pur], by simp [St.frz, St.pur], by simp [St.frz, St.pur], by simp [St.frz, St.pur], by first | (simp; done) | (simp; omega) | omega⟩
          · replace e41 := condF h47 e41
            repeat (first | simp | with_reducible refine awp_reg ?_)
            refine condK_spec (eqI a1 11) (by first | rfl | (simp; done) | (simp [andB, orB, eqI, ltI, Int.natCast_inj]; done)) (fun h48 => ?_) (fun h48 => ?_)
            · replace e41 := condT h48 e41
              repeat (first | simp | with_reducible refine awp_reg ?_)
              exact hK43 (eqI a1 11) _ ⟨e41, by simp [St.frz, St.pur], by simp [St.frz, St.pur], by simp [St.frz, St.pur], by simp [St.frz, St.pur], by first | (simp; done) | (simp; omega) | omega⟩
            · replace e41 := condF h48 e41
              repeat (first | simp | with_reducible refine awp_reg ?_)
              refine condK_spec (eqI a1 12) (by first | rfl | (simp; done) | (simp [andB, orB, eqI, ltI, Int.natCast_inj]; done)) (fun h49 => ?_) (fun h49 => ?_)
              · replace e41 := condT h49 e41
                repeat (first | simp | with_reducible refine awp_reg ?_)
                exact hK43 (eqI a1 12) _ ⟨e41, by simp [St.frz, St.pur], by simp [St.frz, St.pur], by simp [St.frz, St.pur], by simp [St.frz, St.pur], by first | (simp; done) | (simp; omega) | omega⟩
              · replace e41 := condF h49 e41
                repeat (first | simp | with_reducible refine awp_reg ?_)
                exact hK43 (eqI a1 14) _ ⟨e41, by simp [St.frz, St.pur], by simp [St.frz, St.pur], by simp [St.frz, St.pur], by simp [St.frz, St.pur], by first | (simp; done) | (simp; omega) | omega⟩
    · obtain ⟨e41, h8_2, h8_5, h8_6, g8_0, n8_g⟩ := hp
      obtain rfl := Option.some.inj e41
      try dsimp only at e31
      have n8_0 : ¬ (σ7.gen = 0) := by omega
      repeat (first | simp [h8_2, h8_5, h8_6, g8_0, n8_0] | with_reducible refine awp_reg ?_)
      refine condK_spec b40 (by first | rfl | (simp [h8_2, h8_5, h8_6, g8_0, n8_0]; done) | (simp [andB, orB, eqI, ltI, Int.natCast_inj, h8_2, h8_5, h8_6, g8_0, n8_0]; done)) (fun h50 => ?_) (fun h50 => ?_)
      · replace e31 := condT h50 e31
        repeat (first | simp [h8_2, h8_5, h8_6, g8_0, n8_0] | with_reducible refine awp_reg ?_ | with_reducible refine And.intro (by omega) ?_ | with_reducible refine optF_if (by omega) ?_)
        obtain rfl := Option.some.inj e31
        try dsimp only at hs
        refine hX34 _ _ (by simp) ?_
        repeat (first | simp [h8_2, h8_5, h8_6, g8_0, n8_0] | with_reducible refine awp_reg ?_ | with_reducible refine And.intro (by omega) ?_ | with_reducible refine optF_if (by omega) ?_)
        obtain rfl := Option.some.inj hs
        refine hQ _ _ (ret2g _ (Gh.refl _) (by simp [St.frz, St.pur, h8_2, h8_5, h8_6, g8_0, n8_0]; rfl) (by first | rfl | (simp [St.frz, St.pur, h8_2, h8_5, h8_6, g8_0, n8_0]; done) | (rw [if_pos (by first | omega | (simp; omega))]; simp [St.frz, St.pur, h8_2, h8_5, h8_6, g8_0, n8_0]; first | omega | exact List.take_of_length_le (by simp; omega) | skip)) (by simp))
      · replace e31 := condF h50 e31
        repeat (first | simp [-awp_cond_eq, -awp_block_eq, h8_2, h8_5, h8_6, g8_0, n8_0] | with_reducible refine awp_reg ?_)
        obtain ⟨o55, e54, e31⟩ := bindO e31
        try dsimp only at e31
        refine awp_cut0 (fun (v : Bool) (σ : St) => some (v) = some o55 ∧ σ.env 2 = .cell (.ref (.o 1 0 0) 0) ∧ σ.env 5 = iV .i64 a1 ∧ σ.env 16 = bV v ∧ σ.hp (.o 1 0 0) = some (.cells [.p (.sl a0.Vars.length (encL a0.Vars)), .p (.sl a0.Mutexes.length (encL a0.Mutexes)), .p (.sl a0.Conds.length (encL a0.Conds)), .p (.sl a0.Funcs.length (encL a0.Funcs)), .p (.sl a0.Threads.length (encL a0.Threads))]) ∧ (σ7.gen + 1) ≤ σ.gen) (fun Q hK56 hX57 => ?_) (fun b53 σ9 hp => ?_)
        · repeat (first | simp [h8_2, h8_5, h8_6, g8_0, n8_0] | with_reducible refine awp_reg ?_)
          refine condK_spec (eqI a1 15) (by first | rfl | (simp [h8_2, h8_5, h8_6, g8_0, n8_0]; done) | (simp [andB, orB, eqI, ltI, Int.natCast_inj, h8_2, h8_5, h8_6, g8_0, n8_0]; done)) (fun h58 => ?_) (fun h58 => ?_)
          · replace e54 := condT h58 e54
            repeat (first | simp [h8_2, h8_5, h8_6, g8_0, n8_0] | with_reducible refine awp_reg ?_)
            exact hK56 (eqI a1 15) _ ⟨e54, by simp [St.frz, St.pur, h8_2, h8_5, h8_6, g8_0, n8_0], by simp [St.frz, St.pur, h8_2, h8_5, h8_6, g8_0, n8_0], by simp [St.frz, St.pur, h8_2, h8_5, h8_6, g8_0, n8_0], by simp [St.frz, St.pur, h8_2, h8_5, h8_6, g8_0, n8_0], by first | (simp; done) | (simp; omega) | omega⟩
          · replace e54 := condF h58 e54
            repeat (first | simp [h8_2, h8_5, h8_6, g8_0, n8_0] | with_reducible refine awp_reg ?_)
            refine condK_spec (eqI a1 16) (by first | rfl | (simp [h8_2, h8_5, h8_6, g8_0, n8_0]; done) | (simp [andB, orB, eqI, ltI, Int.natCast_inj, h8_2, h8_5, h8_6, g8_0, n8_0]; done)) (fun h59 => ?_) (fun h59 => ?_)
            · replace e54 := condT h59 e54
              repeat (first | simp [h8_2, h8_5, h8_6, g8_0, n8_0] | with_reducible refine awp_reg ?_)
              exact hK56 (eqI a1 16) _ ⟨e54, by simp [St.frz, St.pur, h8_2, h8_5, h8_6, g8_0, n8_0], by simp [St.frz, St.pur, h8_2, h8_5, h8_6, g8_0, n8_0], by simp [St.frz, St.pur, h8_2, h8_5, h8_6, g8_0, n8_0], by simp [St.frz, St.pur, h8_2, h8_5, h8_6, g8_0, n8_0], by first | (simp; done) | (simp; omega) | omega⟩
            · replace e54 := condF h59 e54
              repeat (first | simp [h8_2, h8_5, h8_6, g8_0, n8_0] | with_reducible refine awp_reg ?_)
              exact hK56 (eqI a1 17) _ ⟨e54, by simp [St.frz, St.pur, h8_2, h8_5, h8_6, g8_0, n8_0], by simp [St.frz, St.pur, h8_2, h8_5, h8_6, g8_0, n8_0], by simp [St.frz, St.pur, h8_2, h8_5, h8_6, g8_0, n8_0], by simp [St.frz, St.pur, h8_2, h8_5, h8_6, g8_0, n8_0], by first | (simp; done) | (simp; omega) | omega⟩
        · obtain ⟨e54, h10_2, h10_5, h10_16, g10_0, n10_g⟩ := hp
          obtain rfl := Option.some.inj e54
          try dsimp only at e31
          have n10_0 : ¬ (σ9.gen = 0) := by omega
          repeat (first | simp [h10_2, h10_5, h10_16, g10_0, n10_0] | with_reducible refine awp_reg ?_)
          refine condK_spec b53 (by first | rfl | (simp [h10_2, h10_5, h10_16, g10_0, n10_0]; done) | (simp [andB, orB, eqI, ltI, Int.natCast_inj, h10_2, h10_5, h10_16, g10_0, n10_0]; done)) (fun h60 => ?_) (fun h60 => ?_)
          · replace e31 := condT h60 e31
            repeat (first | simp [h10_2, h10_5, h10_16, g10_0, n10_0] | with_reducible refine awp_reg ?_ | with_reducible refine And.intro (by omega) ?_ | with_reducible refine optF_if (by omega) ?_)
            obtain rfl := Option.some.inj e31
            try dsimp only at hs
            refine hX34 _ _ (by simp) ?_
            repeat (first | simp [h10_2, h10_5, h10_16, g10_0, n10_0] | with_reducible refine awp_reg ?_ | with_reducible refine And.intro (by omega) ?_ | with_reducible refine optF_if (by omega) ?_)
            obtain rfl := Option.some.inj hs
            refine hQ _ _ (ret2g _ (Gh.refl _) (by simp [St.frz, St.pur, h10_2, h10_5, h10_16, g10_0, n10_0]; rfl) (by first | rfl | (simp [St.frz, St.pur, h10_2, h10_5, h10_16, g10_0, n10_0]; done) | (rw [if_pos (by first | omega | (simp; omega))]; simp [St.frz, St.pur, h10_2, h10_5, h10_16, g10_0, n10_0]; first | omega | exact List.take_of_length_le (by simp; omega) | skip)) (by simp))
          · replace e31 := condF h60 e31
            repeat (first | simp [h10_2, h10_5, h10_16, g10_0, n10_0] | with_reducible refine awp_reg ?_)
            refine condK_spec (eqI a1 18) (by first | rfl | (simp [h10_2, h10_5, h10_16, g10_0, n10_0]; done) | (simp [andB, orB, eqI, ltI, Int.natCast_inj, h10_2, h10_5, h10_16, g10_0, n10_0]; done)) (fun h61 => ?_) (fun h61 => ?_)
            · replace e31 := condT h61 e31
              repeat (first | simp [h10_2, h10_5, h10_16, g10_0, n10_0] | with_reducible refine awp_reg ?_)
              refine condK_t (by first | exact h61 | simpa using h61) ?_
              repeat (first | simp [h10_2, h10_5, h10_16, g10_0, n10_0] | with_reducible refine awp_reg ?_ | with_reducible refine And.intro (by omega) ?_ | with_reducible refine optF_if (by omega) ?_)
              obtain rfl := Option.some.inj e31
              try dsimp only at hs
              refine hX34 _ _ (by simp) ?_
              repeat (first | simp [h10_2, h10_5, h10_16, g10_0, n10_0] | with_reducible refine awp_reg ?_ | with_reducible refine And.intro (by omega) ?_ | with_reducible refine optF_if (by omega) ?_)
              obtain rfl := Option.some.inj hs
              refine hQ _ _ (ret2g _ (Gh.refl _) (by simp [St.frz, St.pur, h10_2, h10_5, h10_16, g10_0, n10_0]; rfl) (by first | rfl | (simp [St.frz, St.pur, h10_2, h10_5, h10_16, g10_0, n10_0]; done) | (rw [if_pos (by first | omega | (simp; omega))]; simp [St.frz, St.pur, h10_2, h10_5, h10_16, g10_0, n10_0]; first | omega | exact List.take_of_length_le (by simp; omega) | skip)) (by simp))
            · replace e31 := condF h61 e31
              repeat (first | simp [h10_2, h10_5, h10_16, g10_0, n10_0] | with_reducible refine awp_reg ?_)
              refine condK_spec (eqI a1 19) (by first | rfl | (simp [h10_2, h10_5, h10_16, g10_0, n10_0]; done) | (simp [andB, orB, eqI, ltI, Int.natCast_inj, h10_2, h10_5, h10_16, g10_0, n10_0]; done)) (fun h62 => ?_) (fun h62 => ?_)
              · replace e31 := condT h62 e31
                repeat (first | simp [h10_2, h10_5, h10_16, g10_0, n10_0] | with_reducible refine awp_reg ?_)
                refine condK_t (by first | exact h62 | simpa using h62) ?_
                repeat (first | simp [h10_2, h10_5, h10_16, g10_0, n10_0] | with_reducible refine awp_reg ?_ | with_reducible refine And.intro (by omega) ?_ | with_reducible refine optF_if (by omega) ?_)
                obtain rfl := Option.some.inj e31
                try dsimp only at hs
                refine hX34 _ _ (by simp) ?_
                repeat (first | simp [h10_2, h10_5, h10_16, g10_0, n10_0] | with_reducible refine awp_reg ?_ | with_reducible refine And.intro (by omega) ?_ | with_reducible refine optF_if (by omega) ?_)
                obtain rfl := Option.some.inj hs
                refine hQ _ _ (ret2g _ (Gh.refl _) (by simp [St.frz, St.pur, h10_2, h10_5, h10_16, g10_0, n10_0]; rfl) (by first | rfl | (simp [St.frz, St.pur, h10_2, h10_5, h10_16, g10_0, n10_0]; done) | (rw [if_pos (by first | omega | (simp; omega))]; simp [St.frz, St.pur, h10_2, h10_5, h10_16, g10_0, n10_0]; first | omega | exact List.take_of_length_le (by simp; omega) | skip)) (by simp))
              · replace e31 := condF h62 e31
                repeat (first | simp [h10_2, h10_5, h10_16, g10_0, n10_0] | with_reducible refine awp_reg ?_)
                refine condK_spec (eqI a1 20) (by first | rfl | (simp [h10_2, h10_5, h10_16, g10_0, n10_0]; done) | (simp [andB, orB, eqI, ltI, Int.natCast_inj, h10_2, h10_5, h10_16, g10_0, n10_0]; done)) (fun h63 => ?_) (fun h63 => ?_)
                · replace e31 := condT h63 e31
                  repeat (first | simp [h10_2, h10_5, h10_16, g10_0, n10_0] | with_reducible refine awp_reg ?_ | with_reducible refine And.intro (by omega) ?_ | with_reducible refine optF_if (by omega) ?_)
                  obtain rfl := Option.some.inj e31
                  try dsimp only at hs
                  refine hX34 _ _ (by simp) ?_
                  repeat (first | simp [h10_2, h10_5, h10_16, g10_0, n10_0] | with_reducible refine awp_reg ?_ | with_reducible refine And.intro (by omega) ?_ | with_reducible refine optF_if (by omega) ?_)
                  obtain rfl := Option.some.inj hs
                  refine hQ _ _ (ret2g _ (Gh.refl _) (by simp [St.frz, St.pur, h10_2, h10_5, h10_16, g10_0, n10_0]; rfl) (by first | rfl | (simp [St.frz, St.pur, h10_2, h10_5, h10_16, g10_0, n10_0]; done) | (rw [if_pos (by first | omega | (simp; omega))]; simp [St.frz, St.pur, h10_2, h10_5, h10_16, g10_0, n10_0]; first | omega | exact List.take_of_length_le (by simp; omega) | skip)) (by simp))
                · replace e31 := condF h63 e31
                  repeat (first | simp [h10_2, h10_5, h10_16, g10_0, n10_0] | with_reducible refine awp_reg ?_)
                  refine condK_spec (eqI a1 21) (by first | rfl | (simp [h10_2, h10_5, h10_16, g10_0, n10_0]; done) | (simp [andB, orB, eqI, ltI, Int.natCast_inj, h10_2, h10_5, h10_16, g10_0, n10_0]; done)) (fun h64 => ?_) (fun h64 => ?_)
                  · replace e31 := condT h64 e31
                    repeat (first | simp [h10_2, h10_5, h10_16, g10_0, n10_0] | with_reducible refine awp_reg ?_ | with_reducible refine And.intro (by omega) ?_ | with_reducible refine optF_if (by omega) ?_)
                    obtain rfl := Option.some.inj e31
                    try dsimp only at hs
                    refine hX34 _ _ (by simp) ?_
                    repeat (first | simp [h10_2, h10_5, h10_16, g10_0, n10_0] | with_reducible refine awp_reg ?_ | with_reducible refine And.intro (by omega) ?_ | with_reducible refine optF_if (by omega) ?_)
                    obtain rfl := Option.some.inj hs
                    refine hQ _ _ (ret2g _ (Gh.refl _) (by simp [St.frz, St.pur, h10_2, h10_5, h10_16, g10_0, n10_0]; rfl) (by first | rfl | (simp [St.frz, St.pur, h10_2, h10_5, h10_16, g10_0, n10_0]; done) | (rw [if_pos (by first | omega | (simp; omega))]; simp [St.frz, St.pur, h10_2, h10_5, h10_16, g10_0, n10_0]; first | omega | exact List.take_of_length_le (by simp; omega) | skip)) (by simp))
                  · replace e31 := condF h64 e31
                    repeat (first | simp [h10_2, h10_5, h10_16, g10_0, n10_0] | with_reducible refine awp_reg ?_)
                    exact hK33 () _ _ (Gh.refl _) ⟨e31, by first | (simp; done) | (simp; omega) | omega⟩
  · obtain ⟨e31, n6_g⟩ := hp
    obtain rfl := Option.some.inj e31
    try dsimp only at hs
    repeat (first | simp | with_reducible refine awp_reg ?_)
    obtain rfl := Option.some.inj hs
    refine hQ _ _ (ret2g _ (Gh.refl _) (by simp [St.frz, St.pur]; rfl) (by first | rfl | (simp [St.frz, St.pur]; done) | (rw [if_pos (by first | omega | (simp; omega))]; simp [St.frz, St.pur]; first | omega | exact List.take_of_length_le (by simp; omega) | skip)) (by simp))
end Go.Dc
end
section
set_option linter.all false
namespace Go.Dc
open Go Go.Hw Go.Proofs
set_option maxRecDepth 100000

def inst_known (a0 : Int) : Option Bool :=
  some (andB (!(ltI a0 1)) (!(ltI 22 a0)))

set_option maxHeartbeats 2000000 in
theorem at_inst_known {a0 : Int} {r : Bool} (hs : inst_known a0 = some r) : At Tryd.prog 104 [iV .i64 a0] (bV r) := by
  refine at_bound (by kernel_rfl) fun hb => ?_
  refine at_code mixed Tryd.func104 (by kernel_rfl) rfl (by kernel_rfl) rfl fun Q hQ => ?_
  rw [inst_known] at hs
  repeat (first | simp | with_reducible refine awp_reg ?_ | with_reducible refine gsel_pure (by with_unfolding_all rfl) _ (fun hg => by (try simp at hg); first | (simp [hg]; rfl) | (simp; simp only [if_pos hg]; simp; rfl)) ?_)
  obtain rfl := Option.some.inj hs
  refine hQ _ _ (ret2g _ (Gh.refl _) (by simp [St.frz, St.pur]; rfl) (by first | rfl | (simp [St.frz, St.pur]; done) | (rw [if_pos (by first | omega | (simp; omega))]; simp [St.frz, St.pur]; first | omega | exact List.take_of_length_le (by simp; omega) | skip)) (by simp))
end Go.Dc
end
section
set_option linter.all false
namespace Go.Dc
open Go Go.Hw Go.Proofs
set_option maxRecDepth 100000

def inst_values (a0 : Inst) : Option (Arr 7 Int) :=
  some (Arr.of 7 [a0.A, a0.B, a0.C, a0.Obj, a0.N, a0.Fn, a0.Order])

set_option maxHeartbeats 2000000 in
theorem at_inst_values {a0 : Inst} {r : (Arr 7 Int)} (hs : inst_values a0 = some r) : At Tryd.prog 105 [.agg [.p (.c (.int .i64 a0.Op)), .p (.c (.int .i64 a0.A)), .p (.c (.int .i64 a0.B)), .p (.c (.int .i64 a0.C)), .p (.c (.int .i64 a0.Obj)), .p (.c (.int .i64 a0.N)), .p (.c (.int .i64 a0.Fn)), .p (.c (.int .i64 a0.Order))]] (.agg [.p (.c (.int .i64 (r.f 0))), .p (.c (.int .i64 (r.f 1))), .p (.c (.int .i64 (r.f 2))), .p (.c (.int .i64 (r.f 3))), .p (.c (.int .i64 (r.f 4))), .p (.c (.int .i64 (r.f 5))), .p (.c (.int .i64 (r.f 6)))]) := by
  refine at_bound (by kernel_rfl) fun hb => ?_
  refine at_code mixed Tryd.func105 (by kernel_rfl) rfl (by kernel_rfl) rfl fun Q hQ => ?_
  rw [inst_values] at hs
  repeat (first | simp | with_reducible refine awp_reg ?_ | with_reducible refine And.intro (by omega) ?_ | with_reducible refine optF_if (by omega) ?_)
  obtain rfl := Option.some.inj hs
  refine hQ _ _ (ret2g _ (Gh.refl _) (by simp [St.frz, St.pur]; rfl) (by first | rfl | (simp [St.frz, St.pur]; done) | (rw [if_pos (by first | omega | (simp; omega))]; simp [St.frz, St.pur]; first | omega | exact List.take_of_length_le (by simp; omega) | skip)) (by simp))
end Go.Dc
end
section
set_option linter.all false
namespace Go.Dc
open Go Go.Hw Go.Proofs
set_option maxRecDepth 100000

def value_Name (a0 : Int) : Option ByteArray :=
  cond (orB (ltI a0 1) (ltI 10 a0)) (some (⟨#[]⟩ : ByteArray)) (Option.bind (getI namesTab (IntKind.i64.wrap (a0 - 1))) (fun x2 => some x2))

set_option maxHeartbeats 2000000 in
theorem at_value_Name {a0 : Int} {r : ByteArray} (hs : value_Name a0 = some r) : At Tryd.prog 106 [iV .i64 a0] (sV r) := by
  refine at_bound (by kernel_rfl) fun hb => ?_
  refine at_code mixed Tryd.func106 (by kernel_rfl) rfl (by kernel_rfl) rfl fun Q hQ => ?_
  rw [value_Name] at hs
  repeat (first | simp | with_reducible refine awp_reg ?_ | with_reducible refine gsel_pure (by with_unfolding_all rfl) _ (fun hg => by (try simp at hg); first | (simp [hg]; rfl) | (simp; simp only [if_pos hg]; simp; rfl)) ?_)
  refine condK_spec (orB (ltI a0 1) (ltI 10 a0)) (by first | rfl | (simp; done) | (simp [andB, orB, eqI, ltI, Int.natCast_inj]; done)) (fun h1 => ?_) (fun h1 => ?_)
  · replace hs := condT h1 hs
    repeat (first | simp | with_reducible refine awp_reg ?_ | with_reducible refine gsel_pure (by with_unfolding_all rfl) _ (fun hg => by (try simp at hg); first | (simp [hg]; rfl) | (simp; simp only [if_pos hg]; simp; rfl)) ?_)
    obtain rfl := Option.some.inj hs
    refine hQ _ _ (ret2g _ (Gh.refl _) (by simp [St.frz, St.pur]; rfl) (by first | rfl | (simp [St.frz, St.pur]; done) | (rw [if_pos (by first | omega | (simp; omega))]; simp [St.frz, St.pur]; first | omega | exact List.take_of_length_le (by simp; omega) | skip)) (by simp))
  · replace hs := condF h1 hs
    obtain ⟨x2, hx3, hs⟩ := bindO hs
    try dsimp only at hs
    obtain ⟨hx3a, hx3b, hx3c, hx3d⟩ := getI_some hx3
    have t4L : namesTab.length = 10 := rfl
    have f5 : partCV Tryd.prog 9 (encL namesTab) ((IntKind.i64.wrap (a0 - 1)).toNat) = some (sV x2) := partCV_enc1 hx3d (by simp)
    repeat (first | simp [f5] | with_reducible refine awp_reg ?_ | with_reducible refine optF_if (by omega) ?_ | with_reducible refine gsel_pure (by with_unfolding_all rfl) _ (fun hg => by (try simp at hg); first | (simp [hg, f5]; rfl) | (simp [f5]; simp only [if_pos hg]; simp [f5]; rfl)) ?_)
    obtain rfl := Option.some.inj hs
    refine hQ _ _ (ret2g _ (Gh.refl _) (by simp [St.frz, St.pur, f5]; rfl) (by first | rfl | (simp [St.frz, St.pur, f5]; done) | (rw [if_pos (by first | omega | (simp; omega))]; simp [St.frz, St.pur, f5]; first | omega | exact List.take_of_length_le (by simp; omega) | skip)) (by simp))
end Go.Dc
end
section
set_option linter.all false
namespace Go.Dc
open Go Go.Hw Go.Proofs
set_option maxRecDepth 100000
def inst_Check_L1 (x4 : InstRow) (y8 : (Arr 7 Int)) : Nat → Int → Option (Unit ⊕ Int)
  | 0, _ => none
  | q65 + 1, i52 => cond (ltI i52 7) (guardO (inB i52 7) (guardO (inB i52 7) (cond (andB (!(x4.uses.f ((i52).toNat))) (!(eqI (y8.f ((i52).toNat)) 0))) (some (.inr 9)) (inst_Check_L1 x4 y8 q65 (IntKind.i64.wrap (i52 + 1)))))) (some (.inl ()))

def inst_Check_L2 (a0 : Inst) (x4 : InstRow) : Nat → Int → Option (Unit ⊕ Int)
  | 0, _ => none
  | q131 + 1, i118 => cond (ltI i118 3) (guardO (inB i118 3) (guardO (inB i118 7) (cond (andB (x4.uses.f ((i118).toNat)) (orB (ltI ((Arr.of 3 [a0.A, a0.B, a0.C] : Arr 3 Int).f ((i118).toNat)) 0) (!(ltI ((Arr.of 3 [a0.A, a0.B, a0.C] : Arr 3 Int).f ((i118).toNat)) 8)))) (some (.inr 10)) (inst_Check_L2 a0 x4 q131 (IntKind.i64.wrap (i118 + 1)))))) (some (.inl ()))

def inst_Check (fuelN : Nat) (a0 : Inst) : Option Int :=
  Option.bind (inst_known a0.Op) (fun y1 => cond (!y1) (some 8) (Option.bind (getI rowsTab (IntKind.i64.wrap (a0.Op - 1))) (fun x4 => Option.bind (inst_values a0) (fun y8 => Option.bind (α := Unit ⊕ Int) (Option.bind (inst_Check_L1 x4 y8 fuelN 0) (fun o => match o with | .inl _ => some (.inl ()) | .inr r75 => some (.inr r75))) (fun o => match o with | .inl _ => Option.bind (α := Unit ⊕ Int) (Option.bind (inst_Check_L2 a0 x4 fuelN 0) (fun o => match o with | .inl _ => some (.inl ()) | .inr r141 => some (.inr r141))) (fun o => match o with | .inl _ => cond (andB (x4.uses.f 6) (orB (ltI a0.Order 0) (ltI 2 a0.Order))) (some 13) (guardO (orB (!(x4.uses.f 5)) ((value_Name a0.Fn).isSome)) (cond (andB (x4.uses.f 5) (eqS ((value_Name a0.Fn).getD default) (⟨#[]⟩ : ByteArray))) (some 8) (cond (andB (eqI a0.Op 1) (orB (ltI a0.N (-2147483648)) (ltI 2147483647 a0.N))) (some 2) (some 0)))) | .inr r146 => some r146) | .inr r147 => some r147)))))

set_option maxHeartbeats 2000000 in
theorem at_inst_Check {fuelN : Nat} {a0 : Inst} {r : Int} (hs : inst_Check fuelN a0 = some r) : At Tryd.prog 72 [.agg [.p (.c (.int .i64 a0.Op)), .p (.c (.int .i64 a0.A)), .p (.c (.int .i64 a0.B)), .p (.c (.int .i64 a0.C)), .p (.c (.int .i64 a0.Obj)), .p (.c (.int .i64 a0.N)), .p (.c (.int .i64 a0.Fn)), .p (.c (.int .i64 a0.Order))]] (iV .i64 r) := by
  refine at_bound (by kernel_rfl) fun hb => ?_
  refine at_code mixed Tryd.func72 (by kernel_rfl) rfl (by kernel_rfl) rfl fun Q hQ => ?_
  rw [inst_Check] at hs
  repeat (first | simp | with_reducible refine awp_reg ?_ | with_reducible refine And.intro (by omega) ?_ | with_reducible refine optF_if (by omega) ?_)
  obtain ⟨y1, hx2, hs⟩ := bindO hs
  try dsimp only at hs
  refine callK_pure (at_inst_known hx2) (by (first | simp | simp (disch := omega) []); try rfl) (by simp) (by simp) ?_
  repeat (first | simp | with_reducible refine awp_reg ?_ | with_reducible refine And.intro (by omega) ?_ | with_reducible refine optF_if (by omega) ?_)
  refine condK_spec (!y1) (by first | rfl | (simp; done) | (simp [andB, orB, eqI, ltI, Int.natCast_inj]; done)) (fun h3 => ?_) (fun h3 => ?_)
  · replace hs := condT h3 hs
    repeat (first | simp | with_reducible refine awp_reg ?_ | with_reducible refine And.intro (by omega) ?_ | with_reducible refine optF_if (by omega) ?_)
    obtain rfl := Option.some.inj hs
    refine hQ _ _ (ret2g _ (Gh.refl _) (by simp [St.frz, St.pur]; rfl) (by first | rfl | (simp [St.frz, St.pur]; done) | (rw [if_pos (by first | omega | (simp; omega))]; simp [St.frz, St.pur]; first | omega | exact List.take_of_length_le (by simp; omega) | skip)) (by simp))
  · replace hs := condF h3 hs
    obtain ⟨x4, hx5, hs⟩ := bindO hs
    try dsimp only at hs
    obtain ⟨hx5a, hx5b, hx5c, hx5d⟩ := getI_some hx5
    have t6L : rowsTab.length = 22 := rfl
    have f7 : partCV Tryd.prog 142 (encL rowsTab) (((IntKind.i64.wrap (a0.Op - 1)).toNat) * 8 + 1) = some (.agg [.p (.c (.bool (x4.uses.f 0))), .p (.c (.bool (x4.uses.f 1))), .p (.c (.bool (x4.uses.f 2))), .p (.c (.bool (x4.uses.f 3))), .p (.c (.bool (x4.uses.f 4))), .p (.c (.bool (x4.uses.f 5))), .p (.c (.bool (x4.uses.f 6)))]) := partCV_enc hx5d (f := 1) (by simp)
    repeat (first | simp [f7] | with_reducible refine awp_reg ?_ | with_reducible refine And.intro (by omega) ?_ | with_reducible refine optF_if (by omega) ?_)
    obtain ⟨y8, hx9, hs⟩ := bindO hs
    try dsimp only at hs
    refine callK_pure (at_inst_values hx9) (by (first | simp [f7] | simp (disch := omega) [f7]); try rfl) (by simp) (by simp) ?_
    repeat (first | simp [-awp_cond_eq, -awp_block_eq, f7] | with_reducible refine awp_reg ?_ | with_reducible refine And.intro (by omega) ?_ | with_reducible refine optF_if (by omega) ?_)
    obtain ⟨o42, e41, hs⟩ := bindO hs
    try dsimp only at hs
    refine awp_cutK (fun (v : Unit) (σ : St) => some (.inl v) = some o42 ∧ σ.env 1 = .cell (.ref (.o 1 0 0) 0) ∧ σ.env 3 = .cell (.ref (.o 3 6 0) 0) ∧ σ.hp (.o 1 0 0) = some (.cells [.p (.c (.int .i64 a0.Op)), .p (.c (.int .i64 a0.A)), .p (.c (.int .i64 a0.B)), .p (.c (.int .i64 a0.C)), .p (.c (.int .i64 a0.Obj)), .p (.c (.int .i64 a0.N)), .p (.c (.int .i64 a0.Fn)), .p (.c (.int .i64 a0.Order))]) ∧ σ.hp (.o 3 6 0) = some (.cells [.p (.c (.bool (x4.uses.f 0))), .p (.c (.bool (x4.uses.f 1))), .p (.c (.bool (x4.uses.f 2))), .p (.c (.bool (x4.uses.f 3))), .p (.c (.bool (x4.uses.f 4))), .p (.c (.bool (x4.uses.f 5))), .p (.c (.bool (x4.uses.f 6)))]) ∧ 4 ≤ σ.gen) (by rfl) (fun Q hK43 hX44 => ?_) (fun v σ3 hp => ?_)
    · repeat (first | simp [f7] | with_reducible refine awp_reg ?_ | with_reducible refine And.intro (by omega) ?_ | with_reducible refine optF_if (by omega) ?_)
      obtain ⟨o60, e59, e41⟩ := bindO e41
      try dsimp only at e41
      refine awp_loopW (fun (v : Nat × Int) (σ : St) => inst_Check_L1 x4 y8 v.1 v.2 = some o60 ∧ σ.env 1 = .cell (.ref (.o 1 0 0) 0) ∧ σ.env 3 = .cell (.ref (.o 3 6 0) 0) ∧ σ.env 19 = .agg [.p (.c (.int .i64 (y8.f 0))), .p (.c (.int .i64 (y8.f 1))), .p (.c (.int .i64 (y8.f 2))), .p (.c (.int .i64 (y8.f 3))), .p (.c (.int .i64 (y8.f 4))), .p (.c (.int .i64 (y8.f 5))), .p (.c (.int .i64 (y8.f 6)))] ∧ σ.env 20 = iV .i64 v.2 ∧ σ.hp (.o 1 0 0) = some (.cells [.p (.c (.int .i64 a0.Op)), .p (.c (.int .i64 a0.A)), .p (.c (.int .i64 a0.B)), .p (.c (.int .i64 a0.C)), .p (.c (.int .i64 a0.Obj)), .p (.c (.int .i64 a0.N)), .p (.c (.int .i64 a0.Fn)), .p (.c (.int .i64 a0.Order))]) ∧ σ.hp (.o 3 6 0) = some (.cells [.p (.c (.bool (x4.uses.f 0))), .p (.c (.bool (x4.uses.f 1))), .p (.c (.bool (x4.uses.f 2))), .p (.c (.bool (x4.uses.f 3))), .p (.c (.bool (x4.uses.f 4))), .p (.c (.bool (x4.uses.f 5))), .p (.c (.bool (x4.uses.f 6)))]) ∧ 4 ≤ σ.gen) (fun v => v.1) _ (Gh.refl _) (fuelN, 0) ⟨e59, by simp [St.frz, St.pur, f7], by simp [St.frz, St.pur, f7], by simp [St.frz, St.pur, f7], by simp [St.frz, St.pur, f7], by simp [St.frz, St.pur, f7], by simp [St.frz, St.pur, f7], by first | (simp; done) | (simp; omega) | omega⟩ fun v σ6 hp L61 hL62 => ?_
      obtain ⟨q64, i52⟩ := v
      dsimp only at hp hL62
      obtain ⟨e59, h5_1, h5_3, h5_19, h5_20, g5_0, g5_1, n5_g⟩ := hp
      have n5_0 : ¬ (σ6.gen = 0) := by omega
      have n5_1 : ¬ (σ6.gen = 1) := by omega
      have n5_2 : ¬ (σ6.gen = 2) := by omega
      rcases q64 with _ | q65
      · rw [inst_Check_L1] at e59; cases e59
      · rw [inst_Check_L1] at e59; try dsimp only at e59
        repeat (first | simp [h5_1, h5_3, h5_19, h5_20, g5_0, g5_1, n5_0, n5_1, n5_2, f7] | with_reducible refine awp_reg ?_)
        refine condK_spec (ltI i52 7) (by first | rfl | (simp [h5_1, h5_3, h5_19, h5_20, g5_0, g5_1, n5_0, n5_1, n5_2, f7]; done) | (simp [andB, orB, eqI, ltI, Int.natCast_inj, h5_1, h5_3, h5_19, h5_20, g5_0, g5_1, n5_0, n5_1, n5_2, f7]; done)) (fun h69 => ?_) (fun h69 => ?_)
        · replace e59 := condT h69 e59
          obtain ⟨g70, e59⟩ := guardO_some e59
          have g70a : 0 ≤ i52 := (inB_t g70).1
          have g70b : i52 < 7 := (inB_t g70).2.1
          have g70n : (i52).toNat < 7 :=  by simpa using (inB_t g70).2.2
          have f71 : ([.p (.c (.int .i64 (y8.f 0))), .p (.c (.int .i64 (y8.f 1))), .p (.c (.int .i64 (y8.f 2))), .p (.c (.int .i64 (y8.f 3))), .p (.c (.int .i64 (y8.f 4))), .p (.c (.int .i64 (y8.f 5))), .p (.c (.int .i64 (y8.f 6)))] : List AC)[(i52).toNat]? = some (.p (.c (.int .i64 (y8.f ((i52).toNat))))) := arr_read (n := 7) (fun j => (.p (.c (.int .i64 (y8.f j))) : AC)) g70n
          have f71t := take_one f71
          have f71g := get_of f71
          obtain ⟨g72, e59⟩ := guardO_some e59
          have g72a : 0 ≤ i52 := (inB_t g72).1
          have g72b : i52 < 7 := (inB_t g72).2.1
          have g72n : (i52).toNat < 7 :=  by simpa using (inB_t g72).2.2
          have f73 : ([.p (.c (.bool (x4.uses.f 0))), .p (.c (.bool (x4.uses.f 1))), .p (.c (.bool (x4.uses.f 2))), .p (.c (.bool (x4.uses.f 3))), .p (.c (.bool (x4.uses.f 4))), .p (.c (.bool (x4.uses.f 5))), .p (.c (.bool (x4.uses.f 6)))] : List AC)[(i52).toNat]? = some (.p (.c (.bool (x4.uses.f ((i52).toNat))))) := arr_read (n := 7) (fun j => (.p (.c (.bool (x4.uses.f j))) : AC)) g72n
          have f73t := take_one f73
          have f73g := get_of f73
          repeat (first | simp [h5_1, h5_3, h5_19, h5_20, g5_0, g5_1, n5_0, n5_1, n5_2, f7, g70a, g70b, g70n, f71, f71t, f71g, g72a, g72b, g72n, f73, f73t, f73g] | with_reducible refine awp_reg ?_ | with_reducible refine optF_if (by omega) ?_ | with_reducible refine gsel_pure (by with_unfolding_all rfl) _ (fun hg => by (try simp at hg); first | (simp [hg, h5_1, h5_3, h5_19, h5_20, g5_0, g5_1, n5_0, n5_1, n5_2, f7, g70a, g70b, g70n, f71, f71t, f71g, g72a, g72b, g72n, f73, f73t, f73g]; rfl) | (simp [h5_1, h5_3, h5_19, h5_20, g5_0, g5_1, n5_0, n5_1, n5_2, f7, g70a, g70b, g70n, f71, f71t, f71g, g72a, g72b, g72n, f73, f73t, f73g]; simp only [if_pos hg]; simp [h5_1, h5_3, h5_19, h5_20, g5_0, g5_1, n5_0, n5_1, n5_2, f7, g70a, g70b, g70n, f71, f71t, f71g, g72a, g72b, g72n, f73, f73t, f73g]; rfl)) ?_)
          refine condK_spec (andB (!(x4.uses.f ((i52).toNat))) (!(eqI (y8.f ((i52).toNat)) 0))) (by first | rfl | (simp [h5_1, h5_3, h5_19, h5_20, g5_0, g5_1, n5_0, n5_1, n5_2, f7, g70a, g70b, g70n, f71, f71t, f71g, g72a, g72b, g72n, f73, f73t, f73g]; done) | (simp [andB, orB, eqI, ltI, Int.natCast_inj, h5_1, h5_3, h5_19, h5_20, g5_0, g5_1, n5_0, n5_1, n5_2, f7, g70a, g70b, g70n, f71, f71t, f71g, g72a, g72b, g72n, f73, f73t, f73g]; done)) (fun h74 => ?_) (fun h74 => ?_)
          · replace e59 := condT h74 e59
            repeat (first | simp [h5_1, h5_3, h5_19, h5_20, g5_0, g5_1, n5_0, n5_1, n5_2, f7, g70a, g70b, g70n, f71, f71t, f71g, g72a, g72b, g72n, f73, f73t, f73g] | with_reducible refine awp_reg ?_ | with_reducible refine optF_if (by omega) ?_ | with_reducible refine gsel_pure (by with_unfolding_all rfl) _ (fun hg => by (try simp at hg); first | (simp [hg, h5_1, h5_3, h5_19, h5_20, g5_0, g5_1, n5_0, n5_1, n5_2, f7, g70a, g70b, g70n, f71, f71t, f71g, g72a, g72b, g72n, f73, f73t, f73g]; rfl) | (simp [h5_1, h5_3, h5_19, h5_20, g5_0, g5_1, n5_0, n5_1, n5_2, f7, g70a, g70b, g70n, f71, f71t, f71g, g72a, g72b, g72n, f73, f73t, f73g]; simp only [if_pos hg]; simp [h5_1, h5_3, h5_19, h5_20, g5_0, g5_1, n5_0, n5_1, n5_2, f7, g70a, g70b, g70n, f71, f71t, f71g, g72a, g72b, g72n, f73, f73t, f73g]; rfl)) ?_)
            obtain rfl := Option.some.inj e59
            try dsimp only at e41
            obtain rfl := Option.some.inj e41
            try dsimp only at hs
            refine hX44 _ _ (by simp) ?_
            repeat (first | simp [h5_1, h5_3, h5_19, h5_20, g5_0, g5_1, n5_0, n5_1, n5_2, f7, g70a, g70b, g70n, f71, f71t, f71g, g72a, g72b, g72n, f73, f73t, f73g] | with_reducible refine awp_reg ?_ | with_reducible refine optF_if (by omega) ?_ | with_reducible refine gsel_pure (by with_unfolding_all rfl) _ (fun hg => by (try simp at hg); first | (simp [hg, h5_1, h5_3, h5_19, h5_20, g5_0, g5_1, n5_0, n5_1, n5_2, f7, g70a, g70b, g70n, f71, f71t, f71g, g72a, g72b, g72n, f73, f73t, f73g]; rfl) | (simp [h5_1, h5_3, h5_19, h5_20, g5_0, g5_1, n5_0, n5_1, n5_2, f7, g70a, g70b, g70n, f71, f71t, f71g, g72a, g72b, g72n, f73, f73t, f73g]; simp only [if_pos hg]; simp [h5_1, h5_3, h5_19, h5_20, g5_0, g5_1, n5_0, n5_1, n5_2, f7, g70a, g70b, g70n, f71, f71t, f71g, g72a, g72b, g72n, f73, f73t, f73g]; rfl)) ?_)
            obtain rfl := Option.some.inj hs
            refine hQ _ _ (ret2g _ (Gh.refl _) (by simp [St.frz, St.pur, h5_1, h5_3, h5_19, h5_20, g5_0, g5_1, n5_0, n5_1, n5_2, f7, g70a, g70b, g70n, f71, f71t, f71g, g72a, g72b, g72n, f73, f73t, f73g]; rfl) (by first | rfl | (simp [St.frz, St.pur, h5_1, h5_3, h5_19, h5_20, g5_0, g5_1, n5_0, n5_1, n5_2, f7, g70a, g70b, g70n, f71, f71t, f71g, g72a, g72b, g72n, f73, f73t, f73g]; done) | (rw [if_pos (by first | omega | (simp; omega))]; simp [St.frz, St.pur, h5_1, h5_3, h5_19, h5_20, g5_0, g5_1, n5_0, n5_1, n5_2, f7, g70a, g70b, g70n, f71, f71t, f71g, g72a, g72b, g72n, f73, f73t, f73g]; first | omega | exact List.take_of_length_le (by simp; omega) | skip)) (by simp))
          · replace e59 := condF h74 e59
            repeat (first | simp [h5_1, h5_3, h5_19, h5_20, g5_0, g5_1, n5_0, n5_1, n5_2, f7, g70a, g70b, g70n, f71, f71t, f71g, g72a, g72b, g72n, f73, f73t, f73g] | with_reducible refine awp_reg ?_ | with_reducible refine optF_if (by omega) ?_ | with_reducible refine gsel_pure (by with_unfolding_all rfl) _ (fun hg => by (try simp at hg); first | (simp [hg, h5_1, h5_3, h5_19, h5_20, g5_0, g5_1, n5_0, n5_1, n5_2, f7, g70a, g70b, g70n, f71, f71t, f71g, g72a, g72b, g72n, f73, f73t, f73g]; rfl) | (simp [h5_1, h5_3, h5_19, h5_20, g5_0, g5_1, n5_0, n5_1, n5_2, f7, g70a, g70b, g70n, f71, f71t, f71g, g72a, g72b, g72n, f73, f73t, f73g]; simp only [if_pos hg]; simp [h5_1, h5_3, h5_19, h5_20, g5_0, g5_1, n5_0, n5_1, n5_2, f7, g70a, g70b, g70n, f71, f71t, f71g, g72a, g72b, g72n, f73, f73t, f73g]; rfl)) ?_)
            exact hL62 (q65, IntKind.i64.wrap (i52 + 1)) _ _ (Gh.refl _) ⟨e59, by simp [St.frz, St.pur, h5_1, h5_3, h5_19, h5_20, g5_0, g5_1, n5_0, n5_1, n5_2, f7, g70a, g70b, g70n, f71, f71t, f71g, g72a, g72b, g72n, f73, f73t, f73g], by simp [St.frz, St.pur, h5_1, h5_3, h5_19, h5_20, g5_0, g5_1, n5_0, n5_1, n5_2, f7, g70a, g70b, g70n, f71, f71t, f71g, g72a, g72b, g72n, f73, f73t, f73g], by simp [St.frz, St.pur, h5_1, h5_3, h5_19, h5_20, g5_0, g5_1, n5_0, n5_1, n5_2, f7, g70a, g70b, g70n, f71, f71t, f71g, g72a, g72b, g72n, f73, f73t, f73g], by simp [St.frz, St.pur, h5_1, h5_3, h5_19, h5_20, g5_0, g5_1, n5_0, n5_1, n5_2, f7, g70a, g70b, g70n, f71, f71t, f71g, g72a, g72b, g72n, f73, f73t, f73g], by simp [St.frz, St.pur, h5_1, h5_3, h5_19, h5_20, g5_0, g5_1, n5_0, n5_1, n5_2, f7, g70a, g70b, g70n, f71, f71t, f71g, g72a, g72b, g72n, f73, f73t, f73g], by simp [St.frz, St.pur, h5_1, h5_3, h5_19, h5_20, g5_0, g5_1, n5_0, n5_1, n5_2, f7, g70a, g70b, g70n, f71, f71t, f71g, g72a, g72b, g72n, f73, f73t, f73g], by first | (simp; done) | (simp; omega) | omega⟩ (by omega)
        · replace e59 := condF h69 e59
          repeat (first | simp [h5_1, h5_3, h5_19, h5_20, g5_0, g5_1, n5_0, n5_1, n5_2, f7] | with_reducible refine awp_reg ?_)
          obtain rfl := Option.some.inj e59
          try dsimp only at e41
          exact hK43 () _ _ (Gh.refl _) ⟨e41, by simp [St.frz, St.pur, h5_1, h5_3, h5_19, h5_20, g5_0, g5_1, n5_0, n5_1, n5_2, f7], by simp [St.frz, St.pur, h5_1, h5_3, h5_19, h5_20, g5_0, g5_1, n5_0, n5_1, n5_2, f7], by simp [St.frz, St.pur, h5_1, h5_3, h5_19, h5_20, g5_0, g5_1, n5_0, n5_1, n5_2, f7], by simp [St.frz, St.pur, h5_1, h5_3, h5_19, h5_20, g5_0, g5_1, n5_0, n5_1, n5_2, f7], by first | (simp; done) | (simp; omega) | omega⟩
    · obtain ⟨e41, h4_1, h4_3, g4_0, g4_1, n4_g⟩ := hp
      obtain rfl := Option.some.inj e41
      try dsimp only at hs
      have n4_0 : ¬ (σ3.gen = 0) := by omega
      have n4_1 : ¬ (σ3.gen = 1) := by omega
      have n4_2 : ¬ (σ3.gen = 2) := by omega
      repeat (first | simp [-awp_cond_eq, -awp_block_eq, h4_1, h4_3, g4_0, g4_1, n4_0, n4_1, n4_2, f7] | with_reducible refine awp_reg ?_ | with_reducible refine And.intro (by omega) ?_ | with_reducible refine optF_if (by omega) ?_)
      obtain ⟨o108, e107, hs⟩ := bindO hs
      try dsimp only at hs
      refine awp_cutK (fun (v : Unit) (σ : St) => some (.inl v) = some o108 ∧ σ.env 1 = .cell (.ref (.o 1 0 0) 0) ∧ σ.env 3 = .cell (.ref (.o 3 6 0) 0) ∧ σ.hp (.o 1 0 0) = some (.cells [.p (.c (.int .i64 a0.Op)), .p (.c (.int .i64 a0.A)), .p (.c (.int .i64 a0.B)), .p (.c (.int .i64 a0.C)), .p (.c (.int .i64 a0.Obj)), .p (.c (.int .i64 a0.N)), .p (.c (.int .i64 a0.Fn)), .p (.c (.int .i64 a0.Order))]) ∧ σ.hp (.o 3 6 0) = some (.cells [.p (.c (.bool (x4.uses.f 0))), .p (.c (.bool (x4.uses.f 1))), .p (.c (.bool (x4.uses.f 2))), .p (.c (.bool (x4.uses.f 3))), .p (.c (.bool (x4.uses.f 4))), .p (.c (.bool (x4.uses.f 5))), .p (.c (.bool (x4.uses.f 6)))]) ∧ (σ3.gen + 1) ≤ σ.gen) (by rfl) (fun Q hK109 hX110 => ?_) (fun v σ9 hp => ?_)
      · repeat (first | simp [h4_1, h4_3, g4_0, g4_1, n4_0, n4_1, n4_2, f7] | with_reducible refine awp_reg ?_ | with_reducible refine And.intro (by omega) ?_ | with_reducible refine optF_if (by omega) ?_)
        obtain ⟨o126, e125, e107⟩ := bindO e107
        try dsimp only at e107
        refine awp_loopW (fun (v : Nat × Int) (σ : St) => inst_Check_L2 a0 x4 v.1 v.2 = some o126 ∧ σ.env 1 = .cell (.ref (.o 1 0 0) 0) ∧ σ.env 3 = .cell (.ref (.o 3 6 0) 0) ∧ σ.env 39 = .agg [.p (.c (.int .i64 a0.A)), .p (.c (.int .i64 a0.B)), .p (.c (.int .i64 a0.C))] ∧ σ.env 40 = iV .i64 v.2 ∧ σ.hp (.o 1 0 0) = some (.cells [.p (.c (.int .i64 a0.Op)), .p (.c (.int .i64 a0.A)), .p (.c (.int .i64 a0.B)), .p (.c (.int .i64 a0.C)), .p (.c (.int .i64 a0.Obj)), .p (.c (.int .i64 a0.N)), .p (.c (.int .i64 a0.Fn)), .p (.c (.int .i64 a0.Order))]) ∧ σ.hp (.o 3 6 0) = some (.cells [.p (.c (.bool (x4.uses.f 0))), .p (.c (.bool (x4.uses.f 1))), .p (.c (.bool (x4.uses.f 2))), .p (.c (.bool (x4.uses.f 3))), .p (.c (.bool (x4.uses.f 4))), .p (.c (.bool (x4.uses.f 5))), .p (.c (.bool (x4.uses.f 6)))]) ∧ (σ3.gen + 1) ≤ σ.gen) (fun v => v.1) _ (Gh.refl _) (fuelN, 0) ⟨e125, by simp [St.frz, St.pur, h4_1, h4_3, g4_0, g4_1, n4_0, n4_1, n4_2, f7], by simp [St.frz, St.pur, h4_1, h4_3, g4_0, g4_1, n4_0, n4_1, n4_2, f7], by simp [St.frz, St.pur, h4_1, h4_3, g4_0, g4_1, n4_0, n4_1, n4_2, f7], by simp [St.frz, St.pur, h4_1, h4_3, g4_0, g4_1, n4_0, n4_1, n4_2, f7], by simp [St.frz, St.pur, h4_1, h4_3, g4_0, g4_1, n4_0, n4_1, n4_2, f7], by simp [St.frz, St.pur, h4_1, h4_3, g4_0, g4_1, n4_0, n4_1, n4_2, f7], by first | (simp; done) | (simp; omega) | omega⟩ fun v σ12 hp L127 hL128 => ?_
        obtain ⟨q130, i118⟩ := v
        dsimp only at hp hL128
        obtain ⟨e125, h11_1, h11_3, h11_39, h11_40, g11_0, g11_1, n11_g⟩ := hp
        have n11_0 : ¬ (σ12.gen = 0) := by omega
        have n11_1 : ¬ (σ12.gen = 1) := by omega
        have n11_2 : ¬ (σ12.gen = 2) := by omega
        rcases q130 with _ | q131
        · rw [inst_Check_L2] at e125; cases e125
        · rw [inst_Check_L2] at e125; try dsimp only at e125
          repeat (first | simp [h11_1, h11_3, h11_39, h11_40, g11_0, g11_1, n11_0, n11_1, n11_2, f7] | with_reducible refine awp_reg ?_)
          refine condK_spec (ltI i118 3) (by first | rfl | (simp [h11_1, h11_3, h11_39, h11_40, g11_0, g11_1, n11_0, n11_1, n11_2, f7]; done) | (simp [andB, orB, eqI, ltI, Int.natCast_inj, h11_1, h11_3, h11_39, h11_40, g11_0, g11_1, n11_0, n11_1, n11_2, f7]; done)) (fun h135 => ?_) (fun h135 => ?_)
          · replace e125 := condT h135 e125
            obtain ⟨g136, e125⟩ := guardO_some e125
            have g136a : 0 ≤ i118 := (inB_t g136).1
            have g136b : i118 < 3 := (inB_t g136).2.1
            have g136n : (i118).toNat < 3 :=  by simpa using (inB_t g136).2.2
            have f137 : ([.p (.c (.int .i64 a0.A)), .p (.c (.int .i64 a0.B)), .p (.c (.int .i64 a0.C))] : List AC)[(i118).toNat]? = some (.p (.c (.int .i64 ((Arr.of 3 [a0.A, a0.B, a0.C] : Arr 3 Int).f ((i118).toNat))))) := arr_readL (n := 3) ([a0.A, a0.B, a0.C] : List Int) (fun y => (.p (.c (.int .i64 y)) : AC)) g136n
            have f137t := take_one f137
            have f137g := get_of f137
            obtain ⟨g138, e125⟩ := guardO_some e125
            have g138a : 0 ≤ i118 := (inB_t g138).1
            have g138b : i118 < 7 := (inB_t g138).2.1
            have g138n : (i118).toNat < 7 :=  by simpa using (inB_t g138).2.2
            have f139 : ([.p (.c (.bool (x4.uses.f 0))), .p (.c (.bool (x4.uses.f 1))), .p (.c (.bool (x4.uses.f 2))), .p (.c (.bool (x4.uses.f 3))), .p (.c (.bool (x4.uses.f 4))), .p (.c (.bool (x4.uses.f 5))), .p (.c (.bool (x4.uses.f 6)))] : List AC)[(i118).toNat]? = some (.p (.c (.bool (x4.uses.f ((i118).toNat))))) := arr_read (n := 7) (fun j => (.p (.c (.bool (x4.uses.f j))) : AC)) g138n
            have f139t := take_one f139
            have f139g := get_of f139
            repeat (first | simp [h11_1, h11_3, h11_39, h11_40, g11_0, g11_1, n11_0, n11_1, n11_2, f7, g136a, g136b, g136n, f137, f137t, f137g, g138a, g138b, g138n, f139, f139t, f139g] | with_reducible refine awp_reg ?_ | with_reducible refine optF_if (by omega) ?_ | with_reducible refine gsel_pure (by with_unfolding_all rfl) _ (fun hg => by (try simp at hg); first | (simp [hg, h11_1, h11_3, h11_39, h11_40, g11_0, g11_1, n11_0, n11_1, n11_2, f7, g136a, g136b, g136n, f137, f137t, f137g, g138a, g138b, g138n, f139, f139t, f139g]; rfl) | (simp [h11_1, h11_3, h11_39, h11_40, g11_0, g11_1, n11_0, n11_1, n11_2, f7, g136a, g136b, g136n, f137, f137t, f137g, g138a, g138b, g138n, f139, f139t, f139g]; simp only [if_pos hg]; simp [h11_1, h11_3, h11_39, h11_40, g11_0, g11_1, n11_0, n11_1, n11_2, f7, g136a, g136b, g136n, f137, f137t, f137g, g138a, g138b, g138n, f139, f139t, f139g]; rfl)) ?_)
            refine condK_spec (andB (x4.uses.f ((i118).toNat)) (orB (ltI ((Arr.of 3 [a0.A, a0.B, a0.C] : Arr 3 Int).f ((i118).toNat)) 0) (!(ltI ((Arr.of 3 [a0.A, a0.B, a0.C] : Arr 3 Int).f ((i118).toNat)) 8)))) (by first | rfl | (simp [h11_1, h11_3, h11_39, h11_40, g11_0, g11_1, n11_0, n11_1, n11_2, f7, g136a, g136b, g136n, f137, f137t, f137g, g138a, g138b, g138n, f139, f139t, f139g]; done) | (simp [andB, orB, eqI, ltI, Int.natCast_inj, h11_1, h11_3, h11_39, h11_40, g11_0, g11_1, n11_0, n11_1, n11_2, f7, g136a, g136b, g136n, f137, f137t, f137g, g138a, g138b, g138n, f139, f139t, f139g]; done)) (fun h140 => ?_) (fun h140 => ?_)
            · replace e125 := condT h140 e125
              repeat (first | simp [h11_1, h11_3, h11_39, h11_40, g11_0, g11_1, n11_0, n11_1, n11_2, f7, g136a, g136b, g136n, f137, f137t, f137g, g138a, g138b, g138n, f139, f139t, f139g] | with_reducible refine awp_reg ?_ | with_reducible refine optF_if (by omega) ?_ | with_reducible refine gsel_pure (by with_unfolding_all rfl) _ (fun hg => by (try simp at hg); first | (simp [hg, h11_1, h11_3, h11_39, h11_40, g11_0, g11_1, n11_0, n11_1, n11_2, f7, g136a, g136b, g136n, f137, f137t, f137g, g138a, g138b, g138n, f139, f139t, f139g]; rfl) | (simp [h11_1, h11_3, h11_39, h11_40, g11_0, g11_1, n11_0, n11_1, n11_2, f7, g136a, g136b, g136n, f137, f137t, f137g, g138a, g138b, g138n, f139, f139t, f139g]; simp only [if_pos hg]; simp [h11_1, h11_3, h11_39, h11_40, g11_0, g11_1, n11_0, n11_1, n11_2, f7, g136a, g136b, g136n, f137, f137t, f137g, g138a, g138b, g138n, f139, f139t, f139g]; rfl)) ?_)
              obtain rfl := Option.some.inj e125
              try dsimp only at e107
              obtain rfl := Option.some.inj e107
              try dsimp only at hs
              refine hX110 _ _ (by simp) ?_
              repeat (first | simp [h11_1, h11_3, h11_39, h11_40, g11_0, g11_1, n11_0, n11_1, n11_2, f7, g136a, g136b, g136n, f137, f137t, f137g, g138a, g138b, g138n, f139, f139t, f139g] | with_reducible refine awp_reg ?_ | with_reducible refine optF_if (by omega) ?_ | with_reducible refine gsel_pure (by with_unfolding_all rfl) _ (fun hg => by (try simp at hg); first | (simp [hg, h11_1, h11_3, h11_39, h11_40, g11_0, g11_1, n11_0, n11_1, n11_2, f7, g136a, g136b, g136n, f137, f137t, f137g, g138a, g138b, g138n, f139, f139t, f139g]; rfl) | (simp [h11_1, h11_3, h11_39, h11_40, g11_0, g11_1, n11_0, n11_1, n11_2, f7, g136a, g136b, g136n, f137, f137t, f137g, g138a, g138b, g138n, f139, f139t, f139g]; simp only [if_pos hg]; simp [h11_1, h11_3, h11_39, h11_40, g11_0, g11_1, n11_0, n11_1, n11_2, f7, g136a, g136b, g136n, f137, f137t, f137g, g138a, g138b, g138n, f139, f139t, f139g]; rfl)) ?_)
              obtain rfl := Option.some.inj hs
              refine hQ _ _ (ret2g _ (Gh.refl _) (by simp [St.frz, St.pur, h11_1, h11_3, h11_39, h11_40, g11_0, g11_1, n11_0, n11_1, n11_2, f7, g136a, g136b, g136n, f137, f137t, f137g, g138a, g138b, g138n, f139, f139t, f139g]; rfl) (by first | rfl | (simp [St.frz, St.pur, h11_1, h11_3, h11_39, h11_40, g11_0, g11_1, n11_0, n11_1, n11_2, f7, g136a, g136b, g136n, f137, f137t, f137g, g138a, g138b, g138n, f139, f139t, f139g]; done) | (rw [if_pos (by first | omega | (simp; omega))]; simp [St.frz, St.pur, h11_1, h11_3, h11_39, h11_40, g11_0, g11_1, n11_0, n11_1, n11_2, f7, g136a, g136b, g136n, f137, f137t, f137g, g138a, g138b, g138n, f139, f139t, f139g]; first | omega | exact List.take_of_length_le (by simp; omega) | skip)) (by simp))
            · replace e125 := condF h140 e125
              repeat (first | simp [h11_1, h11_3, h11_39, h11_40, g11_0, g11_1, n11_0, n11_1, n11_2, f7, g136a, g136b, g136n, f137, f137t, f137g, g138a, g138b, g138n, f139, f139t, f139g] | with_reducible refine awp_reg ?_ | with_reducible refine optF_if (by omega) ?_ | with_reducible refine gsel_pure (by with_unfolding_all rfl) _ (fun hg => by (try simp at hg); first | (simp [hg, h11_1, h11_3, h11_39, h11_40, g11_0, g11_1, n11_0, n11_1, n11_2, f7, g136a, g136b, g136n, f137, f137t, f137g, g138a, g138b, g138n, f139, f139t, f139g]; rfl) | (simp [h11_1, h11_3, h11_39, h11_40, g11_0, g11_1, n11_0, n11_1, n11_2, f7, g136a, g136b, g136n, f137, f137t, f137g, g138a, g138b, g138n, f139, f139t, f139g]; simp only [if_pos hg]; simp [h11_1, h11_3, h11_39, h11_40, g11_0, g11_1, n11_0, n11_1, n11_2, f7, g136a, g136b, g136n, f137, f137t, f137g, g138a, g138b, g138n, f139, f139t, f139g]; rfl)) ?_)
              exact hL128 (q131, IntKind.i64.wrap (i118 + 1)) _ _ (Gh.refl _) ⟨e125, by simp [St.frz, St.pur, h11_1, h11_3, h11_39, h11_40, g11_0, g11_1, n11_0, n11_1, n11_2, f7, g136a, g136b, g136n, f137, f137t, f137g, g138a, g138b, g138n, f139, f139t, f139g], by simp [St.frz, St.pur, h11_1, h11_3, h11_39, h11_40, g11_0, g11_1, n11_0, n11_1, n11_2, f7, g136a, g136b, g136n, f137, f137t, f137g, g138a, g138b, g138n, f139, f139t, f139g], by simp [St.frz, St.pur, h11_1, h11_3, h11_39, h11_40, g11_0, g11_1, n11_0, n11_1, n11_2, f7, g136a, g136b, g136n, f137, f137t, f137g, g138a, g138b, g138n, f139, f139t, f139g], by simp [St.frz, St.pur, h11_1, h11_3, h11_39, h11_40, g11_0, g11_1, n11_0, n11_1, n11_2, f7, g136a, g136b, g136n, f137, f137t, f137g, g138a, g138b, g138n, f139, f139t, f139g], by simp [St.frz, St.pur, h11_1, h11_3, h11_39, h11_40, g11_0, g11_1, n11_0, n11_1, n11_2, f7, g136a, g136b, g136n, f137, f137t, f137g, g138a, g138b, g138n, f139, f139t, f139g], by simp [St.frz, St.pur, h11_1, h11_3, h11_39, h11_40, g11_0, g11_1, n11_0, n11_1, n11_2, f7, g136a, g136b, g136n, f137, f137t, f137g, g138a, g138b, g138n, f139, f139t, f139g], by first | (simp; done) | (simp; omega) | omega⟩ (by omega)
          · replace e125 := condF h135 e125
            repeat (first | simp [h11_1, h11_3, h11_39, h11_40, g11_0, g11_1, n11_0, n11_1, n11_2, f7] | with_reducible refine awp_reg ?_)
            obtain rfl := Option.some.inj e125
            try dsimp only at e107
            exact hK109 () _ _ (Gh.refl _) ⟨e107, by simp [St.frz, St.pur, h11_1, h11_3, h11_39, h11_40, g11_0, g11_1, n11_0, n11_1, n11_2, f7], by simp [St.frz, St.pur, h11_1, h11_3, h11_39, h11_40, g11_0, g11_1, n11_0, n11_1, n11_2, f7], by simp [St.frz, St.pur, h11_1, h11_3, h11_39, h11_40, g11_0, g11_1, n11_0, n11_1, n11_2, f7], by simp [St.frz, St.pur, h11_1, h11_3, h11_39, h11_40, g11_0, g11_1, n11_0, n11_1, n11_2, f7], by first | (simp; done) | (simp; omega) | omega⟩
      · obtain ⟨e107, h10_1, h10_3, g10_0, g10_1, n10_g⟩ := hp
        obtain rfl := Option.some.inj e107
        try dsimp only at hs
        have n10_0 : ¬ (σ9.gen = 0) := by omega
        have n10_1 : ¬ (σ9.gen = 1) := by omega
        have n10_2 : ¬ (σ9.gen = 2) := by omega
        repeat (first | simp [h10_1, h10_3, g10_0, g10_1, n10_0, n10_1, n10_2, f7] | with_reducible refine awp_reg ?_ | with_reducible refine And.intro (by omega) ?_ | with_reducible refine optF_if (by omega) ?_ | with_reducible refine gsel_pure (by with_unfolding_all rfl) _ (fun hg => by (try simp at hg); first | (simp [hg, h10_1, h10_3, g10_0, g10_1, n10_0, n10_1, n10_2, f7]; rfl) | (simp [h10_1, h10_3, g10_0, g10_1, n10_0, n10_1, n10_2, f7]; simp only [if_pos hg]; simp [h10_1, h10_3, g10_0, g10_1, n10_0, n10_1, n10_2, f7]; rfl)) ?_)
        refine condK_spec (andB (x4.uses.f 6) (orB (ltI a0.Order 0) (ltI 2 a0.Order))) (by first | rfl | (simp [h10_1, h10_3, g10_0, g10_1, n10_0, n10_1, n10_2, f7]; done) | (simp [andB, orB, eqI, ltI, Int.natCast_inj, h10_1, h10_3, g10_0, g10_1, n10_0, n10_1, n10_2, f7]; done)) (fun h142 => ?_) (fun h142 => ?_)
        · replace hs := condT h142 hs
          repeat (first | simp [h10_1, h10_3, g10_0, g10_1, n10_0, n10_1, n10_2, f7] | with_reducible refine awp_reg ?_ | with_reducible refine And.intro (by omega) ?_ | with_reducible refine optF_if (by omega) ?_ | with_reducible refine gsel_pure (by with_unfolding_all rfl) _ (fun hg => by (try simp at hg); first | (simp [hg, h10_1, h10_3, g10_0, g10_1, n10_0, n10_1, n10_2, f7]; rfl) | (simp [h10_1, h10_3, g10_0, g10_1, n10_0, n10_1, n10_2, f7]; simp only [if_pos hg]; simp [h10_1, h10_3, g10_0, g10_1, n10_0, n10_1, n10_2, f7]; rfl)) ?_)
          obtain rfl := Option.some.inj hs
          refine hQ _ _ (ret2g _ (Gh.refl _) (by simp [St.frz, St.pur, h10_1, h10_3, g10_0, g10_1, n10_0, n10_1, n10_2, f7]; rfl) (by first | rfl | (simp [St.frz, St.pur, h10_1, h10_3, g10_0, g10_1, n10_0, n10_1, n10_2, f7]; done) | (rw [if_pos (by first | omega | (simp; omega))]; simp [St.frz, St.pur, h10_1, h10_3, g10_0, g10_1, n10_0, n10_1, n10_2, f7]; first | omega | exact List.take_of_length_le (by simp; omega) | skip)) (by simp))
        · replace hs := condF h142 hs
          repeat (first | simp [h10_1, h10_3, g10_0, g10_1, n10_0, n10_1, n10_2, f7] | with_reducible refine awp_reg ?_ | with_reducible refine And.intro (by omega) ?_ | with_reducible refine optF_if (by omega) ?_ | with_reducible refine gsel_pure (by with_unfolding_all rfl) _ (fun hg => by (try simp at hg); first | (simp [hg, h10_1, h10_3, g10_0, g10_1, n10_0, n10_1, n10_2, f7]; rfl) | (simp [h10_1, h10_3, g10_0, g10_1, n10_0, n10_1, n10_2, f7]; simp only [if_pos hg]; simp [h10_1, h10_3, g10_0, g10_1, n10_0, n10_1, n10_2, f7]; rfl)) ?_)
          obtain ⟨g143, hs⟩ := guardO_some hs
          refine gsel_call (fun hg => at_value_Name (under_call g143 hg)) (fun hg => by (try simp at hg); (first | simp [hg, h10_1, h10_3, g10_0, g10_1, n10_0, n10_1, n10_2, f7]); try rfl) (fun hg => by (try simp at hg); simp [hg, h10_1, h10_3, g10_0, g10_1, n10_0, n10_1, n10_2, f7]) (by simp) ?_
          repeat (first | simp [h10_1, h10_3, g10_0, g10_1, n10_0, n10_1, n10_2, f7] | with_reducible refine awp_reg ?_ | with_reducible refine And.intro (by omega) ?_ | with_reducible refine optF_if (by omega) ?_ | with_reducible refine gsel_pure (by with_unfolding_all rfl) _ (fun hg => by (try simp at hg); first | (simp [hg, h10_1, h10_3, g10_0, g10_1, n10_0, n10_1, n10_2, f7]; rfl) | (simp [h10_1, h10_3, g10_0, g10_1, n10_0, n10_1, n10_2, f7]; simp only [if_pos hg]; simp [h10_1, h10_3, g10_0, g10_1, n10_0, n10_1, n10_2, f7]; rfl)) ?_)
          refine condK_spec (andB (x4.uses.f 5) (eqS ((value_Name a0.Fn).getD default) (⟨#[]⟩ : ByteArray))) (by first | rfl | (simp [h10_1, h10_3, g10_0, g10_1, n10_0, n10_1, n10_2, f7]; done) | (simp [andB, orB, eqI, ltI, Int.natCast_inj, h10_1, h10_3, g10_0, g10_1, n10_0, n10_1, n10_2, f7]; done)) (fun h144 => ?_) (fun h144 => ?_)
          · replace hs := condT h144 hs
            repeat (first | simp [h10_1, h10_3, g10_0, g10_1, n10_0, n10_1, n10_2, f7] | with_reducible refine awp_reg ?_ | with_reducible refine And.intro (by omega) ?_ | with_reducible refine optF_if (by omega) ?_ | with_reducible refine gsel_pure (by with_unfolding_all rfl) _ (fun hg => by (try simp at hg); first | (simp [hg, h10_1, h10_3, g10_0, g10_1, n10_0, n10_1, n10_2, f7]; rfl) | (simp [h10_1, h10_3, g10_0, g10_1, n10_0, n10_1, n10_2, f7]; simp only [if_pos hg]; simp [h10_1, h10_3, g10_0, g10_1, n10_0, n10_1, n10_2, f7]; rfl)) ?_)
            obtain rfl := Option.some.inj hs
            refine hQ _ _ (ret2g _ (Gh.refl _) (by simp [St.frz, St.pur, h10_1, h10_3, g10_0, g10_1, n10_0, n10_1, n10_2, f7]; rfl) (by first | rfl | (simp [St.frz, St.pur, h10_1, h10_3, g10_0, g10_1, n10_0, n10_1, n10_2, f7]; done) | (rw [if_pos (by first | omega | (simp; omega))]; simp [St.frz, St.pur, h10_1, h10_3, g10_0, g10_1, n10_0, n10_1, n10_2, f7]; first | omega | exact List.take_of_length_le (by simp; omega) | skip)) (by simp))
          · replace hs := condF h144 hs
            repeat (first | simp [h10_1, h10_3, g10_0, g10_1, n10_0, n10_1, n10_2, f7] | with_reducible refine awp_reg ?_ | with_reducible refine And.intro (by omega) ?_ | with_reducible refine optF_if (by omega) ?_ | with_reducible refine gsel_pure (by with_unfolding_all rfl) _ (fun hg => by (try simp at hg); first | (simp [hg, h10_1, h10_3, g10_0, g10_1, n10_0, n10_1, n10_2, f7]; rfl) | (simp [h10_1, h10_3, g10_0, g10_1, n10_0, n10_1, n10_2, f7]; simp only [if_pos hg]; simp [h10_1, h10_3, g10_0, g10_1, n10_0, n10_1, n10_2, f7]; rfl)) ?_)
            refine condK_spec (andB (eqI a0.Op 1) (orB (ltI a0.N (-2147483648)) (ltI 2147483647 a0.N))) (by first | rfl | (simp [h10_1, h10_3, g10_0, g10_1, n10_0, n10_1, n10_2, f7]; done) | (simp [andB, orB, eqI, ltI, Int.natCast_inj, h10_1, h10_3, g10_0, g10_1, n10_0, n10_1, n10_2, f7]; done)) (fun h145 => ?_) (fun h145 => ?_)
            · replace hs := condT h145 hs
              repeat (first | simp [h10_1, h10_3, g10_0, g10_1, n10_0, n10_1, n10_2, f7] | with_reducible refine awp_reg ?_ | with_reducible refine And.intro (by omega) ?_ | with_reducible refine optF_if (by omega) ?_ | with_reducible refine gsel_pure (by with_unfolding_all rfl) _ (fun hg => by (try simp at hg); first | (simp [hg, h10_1, h10_3, g10_0, g10_1, n10_0, n10_1, n10_2, f7]; rfl) | (simp [h10_1, h10_3, g10_0, g10_1, n10_0, n10_1, n10_2, f7]; simp only [if_pos hg]; simp [h10_1, h10_3, g10_0, g10_1, n10_0, n10_1, n10_2, f7]; rfl)) ?_)
              obtain rfl := Option.some.inj hs
              refine hQ _ _ (ret2g _ (Gh.refl _) (by simp [St.frz, St.pur, h10_1, h10_3, g10_0, g10_1, n10_0, n10_1, n10_2, f7]; rfl) (by first | rfl | (simp [St.frz, St.pur, h10_1, h10_3, g10_0, g10_1, n10_0, n10_1, n10_2, f7]; done) | (rw [if_pos (by first | omega | (simp; omega))]; simp [St.frz, St.pur, h10_1, h10_3, g10_0, g10_1, n10_0, n10_1, n10_2, f7]; first | omega | exact List.take_of_length_le (by simp; omega) | skip)) (by simp))
            · replace hs := condF h145 hs
              repeat (first | simp [h10_1, h10_3, g10_0, g10_1, n10_0, n10_1, n10_2, f7] | with_reducible refine awp_reg ?_ | with_reducible refine And.intro (by omega) ?_ | with_reducible refine optF_if (by omega) ?_ | with_reducible refine gsel_pure (by with_unfolding_all rfl) _ (fun hg => by (try simp at hg); first | (simp [hg, h10_1, h10_3, g10_0, g10_1, n10_0, n10_1, n10_2, f7]; rfl) | (simp [h10_1, h10_3, g10_0, g10_1, n10_0, n10_1, n10_2, f7]; simp only [if_pos hg]; simp [h10_1, h10_3, g10_0, g10_1, n10_0, n10_1, n10_2, f7]; rfl)) ?_)
              obtain rfl := Option.some.inj hs
              refine hQ _ _ (ret2g _ (Gh.refl _) (by simp [St.frz, St.pur, h10_1, h10_3, g10_0, g10_1, n10_0, n10_1, n10_2, f7]; rfl) (by first | rfl | (simp [St.frz, St.pur, h10_1, h10_3, g10_0, g10_1, n10_0, n10_1, n10_2, f7]; done) | (rw [if_pos (by first | omega | (simp; omega))]; simp [St.frz, St.pur, h10_1, h10_3, g10_0, g10_1, n10_0, n10_1, n10_2, f7]; first | omega | exact List.take_of_length_le (by simp; omega) | skip)) (by simp))
end Go.Dc
end
section
set_option linter.all false
namespace Go.Dc
open Go Go.Hw Go.Proofs
set_option maxRecDepth 100000

def program_checkInst (fuelN : Nat) (a0 : Program) (a1 : Inst) (a2 : Int) : Option Int :=
  Option.bind (inst_Check fuelN a1) (fun y1 => cond (!(eqI y1 0)) (some y1) (Option.bind (program_objects a0 a1.Op) (fun y4 => cond (andB (!(ltI y4 0)) (orB (ltI a1.Obj 0) (!(ltI a1.Obj y4)))) (some 11) (cond (andB (eqI a1.Op 18) (orB (ltI a1.N 0) (!(ltI a1.N ((a0.Mutexes.length : Nat) : Int))))) (some 11) (cond (andB (orB (eqI a1.Op 4) (eqI a1.Op 5)) (orB (ltI a1.N 0) (ltI a2 a1.N))) (some 12) (some 0))))))

set_option maxHeartbeats 2000000 in
theorem at_program_checkInst {fuelN : Nat} {a0 : Program} {a1 : Inst} {a2 : Int} {r : Int} (hs : program_checkInst fuelN a0 a1 a2 = some r) : At Tryd.prog 117 [.agg [.p (.sl a0.Vars.length (encL a0.Vars)), .p (.sl a0.Mutexes.length (encL a0.Mutexes)), .p (.sl a0.Conds.length (encL a0.Conds)), .p (.sl a0.Funcs.length (encL a0.Funcs)), .p (.sl a0.Threads.length (encL a0.Threads))], .agg [.p (.c (.int .i64 a1.Op)), .p (.c (.int .i64 a1.A)), .p (.c (.int .i64 a1.B)), .p (.c (.int .i64 a1.C)), .p (.c (.int .i64 a1.Obj)), .p (.c (.int .i64 a1.N)), .p (.c (.int .i64 a1.Fn)), .p (.c (.int .i64 a1.Order))], iV .i64 a2] (iV .i64 r) := by
  refine at_bound (by kernel_rfl) fun hb => ?_
  have hb1 : LenOk (.sl a0.Vars.length (encL a0.Vars)) := hb (.agg [.p (.sl a0.Vars.length (encL a0.Vars)), .p (.sl a0.Mutexes.length (encL a0.Mutexes)), .p (.sl a0.Conds.length (encL a0.Conds)), .p (.sl a0.Funcs.length (encL a0.Funcs)), .p (.sl a0.Threads.length (encL a0.Threads))]) (by simp) (.p (.sl a0.Vars.length (encL a0.Vars))) (by simp)
  have hb2 : LenOk (.sl a0.Mutexes.length (encL a0.Mutexes)) := hb (.agg [.p (.sl a0.Vars.length (encL a0.Vars)), .p (.sl a0.Mutexes.length (encL a0.Mutexes)), .p (.sl a0.Conds.length (encL a0.Conds)), .p (.sl a0.Funcs.length (encL a0.Funcs)), .p (.sl a0.Threads.length (encL a0.Threads))]) (by simp) (.p (.sl a0.Mutexes.length (encL a0.Mutexes))) (by simp)
  have hb3 : LenOk (.sl a0.Conds.length (encL a0.Conds)) := hb (.agg [.p (.sl a0.Vars.length (encL a0.Vars)), .p (.sl a0.Mutexes.length (encL a0.Mutexes)), .p (.sl a0.Conds.length (encL a0.Conds)), .p (.sl a0.Funcs.length (encL a0.Funcs)), .p (.sl a0.Threads.length (encL a0.Threads))]) (by simp) (.p (.sl a0.Conds.length (encL a0.Conds))) (by simp)
  have hb4 : LenOk (.sl a0.Funcs.length (encL a0.Funcs)) := hb (.agg [.p (.sl a0.Vars.length (encL a0.Vars)), .p (.sl a0.Mutexes.length (encL a0.Mutexes)), .p (.sl a0.Conds.length (encL a0.Conds)), .p (.sl a0.Funcs.length (encL a0.Funcs)), .p (.sl a0.Threads.length (encL a0.Threads))]) (by simp) (.p (.sl a0.Funcs.length (encL a0.Funcs))) (by simp)
  have hb5 : LenOk (.sl a0.Threads.length (encL a0.Threads)) := hb (.agg [.p (.sl a0.Vars.length (encL a0.Vars)), .p (.sl a0.Mutexes.length (encL a0.Mutexes)), .p (.sl a0.Conds.length (encL a0.Conds)), .p (.sl a0.Funcs.length (encL a0.Funcs)), .p (.sl a0.Threads.length (encL a0.Threads))]) (by simp) (.p (.sl a0.Threads.length (encL a0.Threads))) (by simp)
  refine at_code mixed Tryd.func117 (by kernel_rfl) rfl (by kernel_rfl) rfl fun Q hQ => ?_
  rw [program_checkInst] at hs
  repeat (first | simp | with_reducible refine awp_reg ?_ | with_reducible refine And.intro (by omega) ?_ | with_reducible refine optF_if (by omega) ?_)
  obtain ⟨y1, hx2, hs⟩ := bindO hs
  try dsimp only at hs
  refine callK_pure (at_inst_Check hx2) (by (first | simp | simp (disch := omega) []); try rfl) (by simp) (by simp) ?_
  repeat (first | simp | with_reducible refine awp_reg ?_ | with_reducible refine And.intro (by omega) ?_ | with_reducible refine optF_if (by omega) ?_)
  refine condK_spec (!(eqI y1 0)) (by first | rfl | (simp; done) | (simp [andB, orB, eqI, ltI, Int.natCast_inj]; done)) (fun h3 => ?_) (fun h3 => ?_)
  · replace hs := condT h3 hs
    repeat (first | simp | with_reducible refine awp_reg ?_ | with_reducible refine And.intro (by omega) ?_ | with_reducible refine optF_if (by omega) ?_)
    obtain rfl := Option.some.inj hs
    refine hQ _ _ (ret2g _ (Gh.refl _) (by simp [St.frz, St.pur]; rfl) (by first | rfl | (simp [St.frz, St.pur]; done) | (rw [if_pos (by first | omega | (simp; omega))]; simp [St.frz, St.pur]; first | omega | exact List.take_of_length_le (by simp; omega) | skip)) (by simp))
  · replace hs := condF h3 hs
    repeat (first | simp | with_reducible refine awp_reg ?_ | with_reducible refine And.intro (by omega) ?_ | with_reducible refine optF_if (by omega) ?_)
    obtain ⟨y4, hx5, hs⟩ := bindO hs
    try dsimp only at hs
    refine callK_pure (at_program_objects hx5) (by (first | simp | simp (disch := omega) []); try rfl) (by simp) (by simp) ?_
    repeat (first | simp | with_reducible refine awp_reg ?_ | with_reducible refine And.intro (by omega) ?_ | with_reducible refine optF_if (by omega) ?_ | with_reducible refine gsel_pure (by with_unfolding_all rfl) _ (fun hg => by (try simp at hg); first | (simp [hg]; rfl) | (simp; simp only [if_pos hg]; simp; rfl)) ?_)
    refine condK_spec (andB (!(ltI y4 0)) (orB (ltI a1.Obj 0) (!(ltI a1.Obj y4)))) (by first | rfl | (simp; done) | (simp [andB, orB, eqI, ltI, Int.natCast_inj]; done)) (fun h6 => ?_) (fun h6 => ?_)
    · replace hs := condT h6 hs
      repeat (first | simp | with_reducible refine awp_reg ?_ | with_reducible refine And.intro (by omega) ?_ | with_reducible refine optF_if (by omega) ?_ | with_reducible refine gsel_pure (by with_unfolding_all rfl) _ (fun hg => by (try simp at hg); first | (simp [hg]; rfl) | (simp; simp only [if_pos hg]; simp; rfl)) ?_)
      obtain rfl := Option.some.inj hs
      refine hQ _ _ (ret2g _ (Gh.refl _) (by simp [St.frz, St.pur]; rfl) (by first | rfl | (simp [St.frz, St.pur]; done) | (rw [if_pos (by first | omega | (simp; omega))]; simp [St.frz, St.pur]; first | omega | exact List.take_of_length_le (by simp; omega) | skip)) (by simp))
    · replace hs := condF h6 hs
      repeat (first | simp | with_reducible refine awp_reg ?_ | with_reducible refine And.intro (by omega) ?_ | with_reducible refine optF_if (by omega) ?_ | with_reducible refine gsel_pure (by with_unfolding_all rfl) _ (fun hg => by (try simp at hg); first | (simp [hg]; rfl) | (simp; simp only [if_pos hg]; simp; rfl)) ?_)
      refine condK_spec (andB (eqI a1.Op 18) (orB (ltI a1.N 0) (!(ltI a1.N ((a0.Mutexes.length : Nat) : Int))))) (by first | rfl | (simp; done) | (simp [andB, orB, eqI, ltI, Int.natCast_inj]; done)) (fun h7 => ?_) (fun h7 => ?_)
      · replace hs := condT h7 hs
        repeat (first | simp | with_reducible refine awp_reg ?_ | with_reducible refine And.intro (by omega) ?_ | with_reducible refine optF_if (by omega) ?_ | with_reducible refine gsel_pure (by with_unfolding_all rfl) _ (fun hg => by (try simp at hg); first | (simp [hg]; rfl) | (simp; simp only [if_pos hg]; simp; rfl)) ?_)
        obtain rfl := Option.some.inj hs
        refine hQ _ _ (ret2g _ (Gh.refl _) (by simp [St.frz, St.pur]; rfl) (by first | rfl | (simp [St.frz, St.pur]; done) | (rw [if_pos (by first | omega | (simp; omega))]; simp [St.frz, St.pur]; first | omega | exact List.take_of_length_le (by simp; omega) | skip)) (by simp))
      · replace hs := condF h7 hs
        repeat (first | simp | with_reducible refine awp_reg ?_ | with_reducible refine And.intro (by omega) ?_ | with_reducible refine optF_if (by omega) ?_ | with_reducible refine gsel_pure (by with_unfolding_all rfl) _ (fun hg => by (try simp at hg); first | (simp [hg]; rfl) | (simp; simp only [if_pos hg]; simp; rfl)) ?_)
        refine condK_spec (andB (orB (eqI a1.Op 4) (eqI a1.Op 5)) (orB (ltI a1.N 0) (ltI a2 a1.N))) (by first | rfl | (simp; done) | (simp [andB, orB, eqI, ltI, Int.natCast_inj]; done)) (fun h8 => ?_) (fun h8 => ?_)
        · replace hs := condT h8 hs
          repeat (first | simp | with_reducible refine awp_reg ?_ | with_reducible refine And.intro (by omega) ?_ | with_reducible refine optF_if (by omega) ?_ | with_reducible refine gsel_pure (by with_unfolding_all rfl) _ (fun hg => by (try simp at hg); first | (simp [hg]; rfl) | (simp; simp only [if_pos hg]; simp; rfl)) ?_)
          obtain rfl := Option.some.inj hs
          refine hQ _ _ (ret2g _ (Gh.refl _) (by simp [St.frz, St.pur]; rfl) (by first | rfl | (simp [St.frz, St.pur]; done) | (rw [if_pos (by first | omega | (simp; omega))]; simp [St.frz, St.pur]; first | omega | exact List.take_of_length_le (by simp; omega) | skip)) (by simp))
        · replace hs := condF h8 hs
          repeat (first | simp | with_reducible refine awp_reg ?_ | with_reducible refine And.intro (by omega) ?_ | with_reducible refine optF_if (by omega) ?_ | with_reducible refine gsel_pure (by with_unfolding_all rfl) _ (fun hg => by (try simp at hg); first | (simp [hg]; rfl) | (simp; simp only [if_pos hg]; simp; rfl)) ?_)
          obtain rfl := Option.some.inj hs
          refine hQ _ _ (ret2g _ (Gh.refl _) (by simp [St.frz, St.pur]; rfl) (by first | rfl | (simp [St.frz, St.pur]; done) | (rw [if_pos (by first | omega | (simp; omega))]; simp [St.frz, St.pur]; first | omega | exact List.take_of_length_le (by simp; omega) | skip)) (by simp))
end Go.Dc
end
section
set_option linter.all false
namespace Go.Dc
open Go Go.Hw Go.Proofs
set_option maxRecDepth 100000
def insC (a : Nat) : Nat → List Inst → List (ProgramPlace × Inst)
  | _, [] => []
  | b, i :: r => (⟨(a : Int), (b : Int)⟩, i) :: insC a (b + 1) r
def insF : Nat → List Func → List (ProgramPlace × Inst)
  | _, [] => []
  | a, f :: r => insC a 0 f.Code ++ insF (a + 1) r
def it_instructions (p : Program) : Option (List (ProgramPlace × Inst)) :=
  guardO (lenB p.Funcs.length && p.Funcs.all fun f => lenB f.Code.length) (some (insF 0 p.Funcs))
abbrev insEv : ProgramPlace × Inst → List EV := fun y => ([.agg [.c (.int .i64 y.1.fn), .c (.int .i64 y.1.inst)], .agg [.c (.int .i64 y.2.Op), .c (.int .i64 y.2.A), .c (.int .i64 y.2.B), .c (.int .i64 y.2.C), .c (.int .i64 y.2.Obj), .c (.int .i64 y.2.N), .c (.int .i64 y.2.Fn), .c (.int .i64 y.2.Order)]] : List EV)
set_option maxHeartbeats 2000000 in
theorem seq_instructions {p : Program} {xs : List (ProgramPlace × Inst)} (h : it_instructions p = some xs) : SeqAt Tryd.prog 123 [.cell (.p (.bx [.sl p.Vars.length (encL p.Vars), .sl p.Mutexes.length (encL p.Mutexes), .sl p.Conds.length (encL p.Conds), .sl p.Funcs.length (encL p.Funcs), .sl p.Threads.length (encL p.Threads)]))] (xs.map insEv) := by
  obtain ⟨g, h⟩ := guardO_some h
  obtain rfl := Option.some.inj h
  simp only [Bool.and_eq_true, List.all_eq_true] at g
  obtain ⟨g1, g2⟩ := g
  refine seq_unbx (by simp; rfl) ?_
  refine seq_code mixed Tryd.func123 (by kernel_rfl) rfl (by kernel_rfl) rfl fun ℓ Q hQ => ?_
  repeat (first | simp | with_reducible refine awp_reg ?_)
  refine awp_loopW (fun (v : Nat × Nat) (σ : St) => v.1 ≤ p.Funcs.length ∧ (insF 0 p.Funcs).drop v.2 = insF v.1 (p.Funcs.drop v.1) ∧ v.2 ≤ (insF 0 p.Funcs).length ∧ σ.env 10 = iV .i64 (v.1 : Nat) ∧ σ.env 8 = .cell (.p (.sl p.Funcs.length (encL p.Funcs))) ∧ σ.env 9 = iV .i64 p.Funcs.length ∧ σ.env 0 = .cell (.yl ℓ) ∧ σ.acc = some ⟨ℓ, (insF 0 p.Funcs).map insEv, v.2, true⟩) (fun v => p.Funcs.length - v.1) _ (Gh.refl _) (0, 0) ⟨by simp, by simp, by simp, by simp, by simp, by simp, by simp, by simp⟩ fun v σ hp L hL => ?_
  obtain ⟨a, n⟩ := v
  dsimp only at hp hL
  obtain ⟨ha, hn, hnl, h10, h8, h9, h0, hacc⟩ := hp
  repeat (first | simp [h10, h8, h9, h0, hacc] | with_reducible refine awp_reg ?_)
  by_cases hlt : a < p.Funcs.length
  · refine condK_t (by simp [ltI]; omega) ?_
    have hx := List.getElem?_eq_getElem hlt
    have ew := wrap_succG hlt g1
    have hcl := g2 _ (List.getElem_mem hlt)
    rw [List.drop_eq_getElem_cons hlt] at hn
    generalize p.Funcs[a] = f at *
    have f1 : partCV Tryd.prog 24 (encL p.Funcs) (a * 2) = some (.agg [.p (.c (.string f.Name)), .p (.sl f.Code.length (encL f.Code))]) := partCV_enc hx (f := 0) (by simp)
    repeat (first | simp [h10, h8, h9, h0, hacc, f1, hlt] | with_reducible refine awp_reg ?_ | with_reducible refine optF_if (by omega) ?_)
    refine awp_loopW (fun (v : Nat × Nat) (σ2 : St) => v.1 ≤ f.Code.length ∧ (insF 0 p.Funcs).drop v.2 = insC a v.1 (f.Code.drop v.1) ++ insF (a + 1) (p.Funcs.drop (a + 1)) ∧ v.2 ≤ (insF 0 p.Funcs).length ∧ σ2.env 18 = iV .i64 (v.1 : Nat) ∧ σ2.env 16 = .cell (.p (.sl f.Code.length (encL f.Code))) ∧ σ2.env 17 = iV .i64 f.Code.length ∧ σ2.env 3 = iV .i64 a ∧ σ2.env 10 = iV .i64 a ∧ σ2.env 8 = .cell (.p (.sl p.Funcs.length (encL p.Funcs))) ∧ σ2.env 9 = iV .i64 p.Funcs.length ∧ σ2.env 0 = .cell (.yl ℓ) ∧ σ2.acc = some ⟨ℓ, (insF 0 p.Funcs).map insEv, v.2, true⟩) (fun v => f.Code.length - v.1) _ (Gh.refl _) (0, n) ⟨by simp, by simpa [insF] using hn, hnl, by simp [h10, h8, h9, h0, hacc], by simp [h10, h8, h9, h0, hacc], by simp [h10, h8, h9, h0, hacc], by simp [h10, h8, h9, h0, hacc], by simp [h10, h8, h9, h0, hacc], by simp [h10, h8, h9, h0, hacc], by simp [h10, h8, h9, h0, hacc], by simp [h10, h8, h9, h0, hacc], by simp [h10, h8, h9, h0, hacc]⟩ fun v σ2 hp L2 hL2 => ?_
    obtain ⟨b, m⟩ := v
    dsimp only at hp hL2
    obtain ⟨hb, hm, hml, k18, k16, k17, k3, k10, k8, k9, k0, kacc⟩ := hp
    repeat (first | simp [k18, k16, k17, k3, k10, k8, k9, k0, kacc] | with_reducible refine awp_reg ?_)
    by_cases hltb : b < f.Code.length
    · refine condK_t (by simp [ltI]; omega) ?_
      have hxb := List.getElem?_eq_getElem hltb
      have ewb := wrap_succG hltb hcl
      rw [List.drop_eq_getElem_cons hltb] at hm
      generalize f.Code[b] = i at *
      have hy : (insF 0 p.Funcs)[m]? = some (⟨(a : Int), (b : Int)⟩, i) := by
        have : ((insF 0 p.Funcs).drop m)[0]? = some (⟨(a : Int), (b : Int)⟩, i) := by rw [hm]; rfl
        simpa using this
      have hm1 : (insF 0 p.Funcs).drop (m + 1) = insC a (b + 1) (f.Code.drop (b + 1)) ++ insF (a + 1) (p.Funcs.drop (a + 1)) := by
        rw [← List.drop_drop, hm]; rfl
      have hm2 : m + 1 ≤ (insF 0 p.Funcs).length := (List.getElem?_eq_some_iff.1 hy).1
      have hye : ((insF 0 p.Funcs).map insEv)[m]? = some (insEv (⟨(a : Int), (b : Int)⟩, i)) := by rw [List.getElem?_map, hy]; rfl
      have hye' : Option.map insEv (insF 0 p.Funcs)[m]? = some (insEv (⟨(a : Int), (b : Int)⟩, i)) := by rw [hy]; rfl
      have f2 : partCV Tryd.prog 71 (encL f.Code) (b * 8) = some (.agg [.p (.c (.int .i64 i.Op)), .p (.c (.int .i64 i.A)), .p (.c (.int .i64 i.B)), .p (.c (.int .i64 i.C)), .p (.c (.int .i64 i.Obj)), .p (.c (.int .i64 i.N)), .p (.c (.int .i64 i.Fn)), .p (.c (.int .i64 i.Order))]) := partCV_enc hxb (f := 0) (by simp)
      repeat (first | simp [k18, k16, k17, k3, k10, k8, k9, k0, kacc, f2, hltb, hy] | with_reducible refine awp_reg ?_ | with_reducible refine optF_if (by omega) ?_)
      refine ⟨?_, ?_⟩
      · repeat (first | simp [k18, k16, k17, k3, k10, k8, k9, k0, kacc, ewb] | with_reducible refine awp_reg ?_)
        exact hL2 (b + 1, m + 1) _ _ (Gh.refl _) ⟨hltb, hm1, hm2, by simp [k18, ewb], by simp [k16], by simp [k17], by simp [k3], by simp [k10], by simp [k8], by simp [k9], by simp [k0], by simp⟩ (by simp; omega)
      · repeat (first | simp [k18, k16, k17, k3, k10, k8, k9, k0, kacc] | with_reducible refine awp_reg ?_)
        refine hQ _ _ (seqPost_end (.inr rfl) (by simp; rfl) (by simp; first | exact ⟨rfl, rfl⟩ | exact ⟨rfl, rfl, rfl⟩ | rfl) ?_)
        simp
    · refine condK_f (by simp [ltI]; omega) ?_
      have : b = f.Code.length := by omega
      subst this
      have hn' : (insF 0 p.Funcs).drop m = insF (a + 1) (p.Funcs.drop (a + 1)) := by rw [hm]; simp [insC]
      repeat (first | simp [k18, k16, k17, k3, k10, k8, k9, k0, kacc, ew] | with_reducible refine awp_reg ?_)
      exact hL (a + 1, m) _ _ (Gh.refl _) ⟨hlt, hn', hml, by simp [k10, ew], by simp [k8], by simp [k9], by simp [k0], by simp [kacc]⟩ (by simp; omega)
  · refine condK_f (by simp [ltI]; omega) ?_
    have : a = p.Funcs.length := by omega
    subst this
    repeat (first | simp [h10, h8, h9, h0, hacc] | with_reducible refine awp_reg ?_)
    refine hQ _ _ (seqPost_end (.inl rfl) (by simp; rfl) (by simp [hacc]; first | exact ⟨rfl, rfl⟩ | exact ⟨rfl, rfl, rfl⟩ | rfl) ?_)
    intro _
    have := congrArg List.length hn
    simp [insF] at this
    simp
    omega
end Go.Dc
end
section
set_option linter.all false
namespace Go.Dc
open Go Go.Hw Go.Proofs
set_option maxRecDepth 100000
def program_checkCode_L1 (fuelN : Nat) (a0 : Program) (y1 : Int) : List (ProgramPlace × Inst) → Option (Unit ⊕ (Unit ⊕ (Int × ProgramPlace)))
  | [] => some (.inl ())
  | y7 :: q27 => cond (eqI y7.1.fn y1) (some (.inr (.inl ()))) (Option.bind (getI a0.Funcs y7.1.fn) (fun x35 => Option.bind (program_checkInst fuelN a0 y7.2 ((x35.Code.length : Nat) : Int)) (fun y38 => cond (!(eqI y38 0)) (some (.inr (.inr (y38, y7.1)))) (program_checkCode_L1 fuelN a0 y1 q27))))

def program_checkCode (fuelN : Nat) (a0 : Program) : Option (Int × ProgramPlace) :=
  Option.bind (slices_IndexFunc_api_Func_program_checkCode_1 a0.Funcs) (fun y1 => Option.bind (program_instructions a0) (fun y3 => Option.bind (it_instructions y3) (fun xs5 => Option.bind (program_checkCode_L1 fuelN a0 y1 xs5) (fun o => match o with | .inl _ => cond (!(ltI y1 0)) (some (4, ({ fn := y1, inst := (-1) } : ProgramPlace))) (some (0, ({ fn := (-1), inst := (-1) } : ProgramPlace))) | .inr (.inl _) => cond (!(ltI y1 0)) (some (4, ({ fn := y1, inst := (-1) } : ProgramPlace))) (some (0, ({ fn := (-1), inst := (-1) } : ProgramPlace))) | .inr (.inr r44) => some r44))))

set_option maxHeartbeats 2000000 in
theorem at_program_checkCode {fuelN : Nat} {a0 : Program} {r : Int × ProgramPlace} (hs : program_checkCode fuelN a0 = some r) : At Tryd.prog 85 [.agg [.p (.sl a0.Vars.length (encL a0.Vars)), .p (.sl a0.Mutexes.length (encL a0.Mutexes)), .p (.sl a0.Conds.length (encL a0.Conds)), .p (.sl a0.Funcs.length (encL a0.Funcs)), .p (.sl a0.Threads.length (encL a0.Threads))]] (.tup [iV .i64 r.1, .agg [.p (.c (.int .i64 r.2.fn)), .p (.c (.int .i64 r.2.inst))]]) := by
  refine at_bound (by kernel_rfl) fun hb => ?_
  have hb1 : LenOk (.sl a0.Vars.length (encL a0.Vars)) := hb (.agg [.p (.sl a0.Vars.length (encL a0.Vars)), .p (.sl a0.Mutexes.length (encL a0.Mutexes)), .p (.sl a0.Conds.length (encL a0.Conds)), .p (.sl a0.Funcs.length (encL a0.Funcs)), .p (.sl a0.Threads.length (encL a0.Threads))]) (by simp) (.p (.sl a0.Vars.length (encL a0.Vars))) (by simp)
  have hb2 : LenOk (.sl a0.Mutexes.length (encL a0.Mutexes)) := hb (.agg [.p (.sl a0.Vars.length (encL a0.Vars)), .p (.sl a0.Mutexes.length (encL a0.Mutexes)), .p (.sl a0.Conds.length (encL a0.Conds)), .p (.sl a0.Funcs.length (encL a0.Funcs)), .p (.sl a0.Threads.length (encL a0.Threads))]) (by simp) (.p (.sl a0.Mutexes.length (encL a0.Mutexes))) (by simp)
  have hb3 : LenOk (.sl a0.Conds.length (encL a0.Conds)) := hb (.agg [.p (.sl a0.Vars.length (encL a0.Vars)), .p (.sl a0.Mutexes.length (encL a0.Mutexes)), .p (.sl a0.Conds.length (encL a0.Conds)), .p (.sl a0.Funcs.length (encL a0.Funcs)), .p (.sl a0.Threads.length (encL a0.Threads))]) (by simp) (.p (.sl a0.Conds.length (encL a0.Conds))) (by simp)
  have hb4 : LenOk (.sl a0.Funcs.length (encL a0.Funcs)) := hb (.agg [.p (.sl a0.Vars.length (encL a0.Vars)), .p (.sl a0.Mutexes.length (encL a0.Mutexes)), .p (.sl a0.Conds.length (encL a0.Conds)), .p (.sl a0.Funcs.length (encL a0.Funcs)), .p (.sl a0.Threads.length (encL a0.Threads))]) (by simp) (.p (.sl a0.Funcs.length (encL a0.Funcs))) (by simp)
  have hb5 : LenOk (.sl a0.Threads.length (encL a0.Threads)) := hb (.agg [.p (.sl a0.Vars.length (encL a0.Vars)), .p (.sl a0.Mutexes.length (encL a0.Mutexes)), .p (.sl a0.Conds.length (encL a0.Conds)), .p (.sl a0.Funcs.length (encL a0.Funcs)), .p (.sl a0.Threads.length (encL a0.Threads))]) (by simp) (.p (.sl a0.Threads.length (encL a0.Threads))) (by simp)
  refine at_code mixed Tryd.func85 (by kernel_rfl) rfl (by kernel_rfl) rfl fun Q hQ => ?_
  rw [program_checkCode] at hs
  repeat (first | simp | with_reducible refine awp_reg ?_ | with_reducible refine And.intro (by omega) ?_ | with_reducible refine optF_if (by omega) ?_)
  obtain ⟨y1, hx2, hs⟩ := bindO hs
  try dsimp only at hs
  refine callK_pure (at_slices_IndexFunc_api_Func_program_checkCode_1 hx2) (by (first | simp | simp (disch := omega) []); try rfl) (by simp) (by simp) ?_
  repeat (first | simp | with_reducible refine awp_reg ?_ | with_reducible refine And.intro (by omega) ?_ | with_reducible refine optF_if (by omega) ?_)
  obtain ⟨y3, hx4, hs⟩ := bindO hs
  try dsimp only at hs
  refine callK_pure (at_program_instructions hx4) (by (first | simp | simp (disch := omega) []); try rfl) (by simp) (by simp) ?_
  repeat (first | simp | with_reducible refine awp_reg ?_ | with_reducible refine And.intro (by omega) ?_ | with_reducible refine optF_if (by omega) ?_)
  obtain ⟨xs5, hx6, hs⟩ := bindO hs
  try dsimp only at hs
  obtain ⟨o21, e20, hs⟩ := bindO hs
  try dsimp only at hs
  refine awp_range (gf := 123) (cs := [.bx [.sl y3.Vars.length (encL y3.Vars), .sl y3.Mutexes.length (encL y3.Mutexes), .sl y3.Conds.length (encL y3.Conds), .sl y3.Funcs.length (encL y3.Funcs), .sl y3.Threads.length (encL y3.Threads)]]) (xs5.map (fun (y : ProgramPlace × Inst) => ([.agg [.c (.int .i64 y.1.fn), .c (.int .i64 y.1.inst)], .agg [.c (.int .i64 y.2.Op), .c (.int .i64 y.2.A), .c (.int .i64 y.2.B), .c (.int .i64 y.2.C), .c (.int .i64 y.2.Obj), .c (.int .i64 y.2.N), .c (.int .i64 y.2.Fn), .c (.int .i64 y.2.Order)]] : List EV))) (fun (k22 : Nat) (hp23 : Go.Hw.Id → Option Blk) (gen24 : Nat) => program_checkCode_L1 fuelN a0 y1 (xs5.drop k22) = some o21 ∧ hp23 (.o 1 0 0) = some (.cells [.p (.sl a0.Vars.length (encL a0.Vars)), .p (.sl a0.Mutexes.length (encL a0.Mutexes)), .p (.sl a0.Conds.length (encL a0.Conds)), .p (.sl a0.Funcs.length (encL a0.Funcs)), .p (.sl a0.Threads.length (encL a0.Threads))]) ∧ hp23 (.o 1 1 0) = some (.cells [.p (.c (.int .i64 0))]) ∧ hp23 (.o 1 2 0) = some (.cells [.p (.c (.int .i64 0)), .p (.c (.int .i64 0))]) ∧ hp23 (.o 2 3 0) = some (.cells [.p (.c (.int .i64 y1))]) ∧ 3 ≤ gen24) _ (Gh.refl _) (by simp [St.frz, St.pur]) (seq_instructions hx6) (fun x hx => by obtain ⟨y, _, rfl⟩ := List.mem_map.1 hx; rfl) ⟨e20, by simp [St.frz, St.pur], by simp [St.frz, St.pur], by simp [St.frz, St.pur], by simp [St.frz, St.pur], by first | (simp; done) | (simp; omega) | omega⟩ (fun k22 x hp23 gen24 hx hI => ?_) (fun hp23 gen24 hI => ?_)
  · obtain ⟨e20, g1_0, g1_1, g1_2, g1_3, n1_g⟩ := hI
    try dsimp only at e20 g1_0 g1_1 g1_2 g1_3 n1_g
    obtain ⟨y7, hy25, rfl⟩ := map_get hx
    rw [drop_at hy25, program_checkCode_L1] at e20; try dsimp only at e20
    have n1_0 : ¬ (gen24 = 0) := by omega
    have n1_1 : ¬ (gen24 = 1) := by omega
    repeat (first | simp [g1_0, g1_1, g1_2, g1_3, n1_0, n1_1] | with_reducible refine awp_reg ?_ | with_reducible refine And.intro (by omega) ?_ | with_reducible refine optF_if (by omega) ?_)
    refine condK_spec (eqI y7.1.fn y1) (by first | rfl | (simp [g1_0, g1_1, g1_2, g1_3, n1_0, n1_1]; done) | (simp [andB, orB, eqI, ltI, Int.natCast_inj, g1_0, g1_1, g1_2, g1_3, n1_0, n1_1]; done)) (fun h28 => ?_) (fun h28 => ?_)
    · replace e20 := condT h28 e20
      repeat (first | simp [g1_0, g1_1, g1_2, g1_3, n1_0, n1_1] | with_reducible refine awp_reg ?_ | with_reducible refine And.intro (by omega) ?_ | with_reducible refine optF_if (by omega) ?_)
      obtain rfl := Option.some.inj e20
      try dsimp only at hs
      refine rPost_exit ?_
      repeat (first | simp [g1_0, g1_1, g1_2, g1_3, n1_0, n1_1] | with_reducible refine awp_reg ?_ | with_reducible refine And.intro (by omega) ?_ | with_reducible refine optF_if (by omega) ?_)
      refine condK_spec (!(ltI y1 0)) (by first | rfl | (simp [g1_0, g1_1, g1_2, g1_3, n1_0, n1_1]; done) | (simp [andB, orB, eqI, ltI, Int.natCast_inj, g1_0, g1_1, g1_2, g1_3, n1_0, n1_1]; done)) (fun h29 => ?_) (fun h29 => ?_)
      · replace hs := condT h29 hs
        repeat (first | simp [g1_0, g1_1, g1_2, g1_3, n1_0, n1_1] | with_reducible refine awp_reg ?_ | with_reducible refine awp_draw ?_ | with_reducible refine ord_l (by kernel_rfl) ?_ | with_reducible refine ord_e (by kernel_rfl) ?_ | with_reducible refine ord_c (by kernel_rfl) ?_ | with_reducible refine ord_d (by kernel_rfl) ?_ | with_reducible refine And.intro (by omega) ?_ | with_reducible refine optF_if (by omega) ?_)
        obtain rfl := Option.some.inj hs
        refine hQ _ _ (ret2g _ (Gh.refl _) (by simp [St.frz, St.pur, g1_0, g1_1, g1_2, g1_3, n1_0, n1_1]; rfl) (by first | rfl | (simp [St.frz, St.pur, g1_0, g1_1, g1_2, g1_3, n1_0, n1_1]; done) | (rw [if_pos (by first | omega | (simp; omega))]; simp [St.frz, St.pur, g1_0, g1_1, g1_2, g1_3, n1_0, n1_1]; first | omega | exact List.take_of_length_le (by simp; omega) | skip)) (by simp))
      · replace hs := condF h29 hs
        repeat (first | simp [g1_0, g1_1, g1_2, g1_3, n1_0, n1_1] | with_reducible refine awp_reg ?_ | with_reducible refine And.intro (by omega) ?_ | with_reducible refine optF_if (by omega) ?_)
        obtain rfl := Option.some.inj hs
        refine hQ _ _ (ret2g _ (Gh.refl _) (by simp [St.frz, St.pur, g1_0, g1_1, g1_2, g1_3, n1_0, n1_1]; rfl) (by first | rfl | (simp [St.frz, St.pur, g1_0, g1_1, g1_2, g1_3, n1_0, n1_1]; done) | (rw [if_pos (by first | omega | (simp; omega))]; simp [St.frz, St.pur, g1_0, g1_1, g1_2, g1_3, n1_0, n1_1]; first | omega | exact List.take_of_length_le (by simp; omega) | skip)) (by simp))
    · replace e20 := condF h28 e20
      obtain ⟨x35, hx36, e20⟩ := bindO e20
      try dsimp only at e20
      obtain ⟨hx36a, hx36b, hx36c, hx36d⟩ := getI_some hx36
      have f37 : partCV Tryd.prog 22 (encL a0.Funcs) (((y7.1.fn).toNat) * 2 + 1) = some (.cell (.p (.sl x35.Code.length (encL x35.Code)))) := partCV_enc hx36d (f := 1) (by simp)
      repeat (first | simp [g1_0, g1_1, g1_2, g1_3, n1_0, n1_1, f37] | with_reducible refine awp_reg ?_ | with_reducible refine awp_draw ?_ | with_reducible refine ord_l (by kernel_rfl) ?_ | with_reducible refine ord_e (by kernel_rfl) ?_ | with_reducible refine ord_c (by kernel_rfl) ?_ | with_reducible refine ord_d (by kernel_rfl) ?_ | with_reducible refine And.intro (by omega) ?_ | with_reducible refine optF_if (by omega) ?_)
      obtain ⟨y38, hx39, e20⟩ := bindO e20
      try dsimp only at e20
      refine callK_pure (at_program_checkInst hx39) (by (first | simp [g1_0, g1_1, g1_2, g1_3, n1_0, n1_1, f37] | simp (disch := omega) [g1_0, g1_1, g1_2, g1_3, n1_0, n1_1, f37]); try rfl) (by simp) (by simp) ?_
      repeat (first | simp [g1_0, g1_1, g1_2, g1_3, n1_0, n1_1, f37] | with_reducible refine awp_reg ?_ | with_reducible refine awp_draw ?_ | with_reducible refine ord_l (by kernel_rfl) ?_ | with_reducible refine ord_e (by kernel_rfl) ?_ | with_reducible refine ord_c (by kernel_rfl) ?_ | with_reducible refine ord_d (by kernel_rfl) ?_ | with_reducible refine And.intro (by omega) ?_ | with_reducible refine optF_if (by omega) ?_)
      refine condK_spec (!(eqI y38 0)) (by first | rfl | (simp [g1_0, g1_1, g1_2, g1_3, n1_0, n1_1, f37]; done) | (simp [andB, orB, eqI, ltI, Int.natCast_inj, g1_0, g1_1, g1_2, g1_3, n1_0, n1_1, f37]; done)) (fun h40 => ?_) (fun h40 => ?_)
      · replace e20 := condT h40 e20
        repeat (first | simp [g1_0, g1_1, g1_2, g1_3, n1_0, n1_1, f37] | with_reducible refine awp_reg ?_ | with_reducible refine awp_draw ?_ | with_reducible refine ord_l (by kernel_rfl) ?_ | with_reducible refine ord_e (by kernel_rfl) ?_ | with_reducible refine ord_c (by kernel_rfl) ?_ | with_reducible refine ord_d (by kernel_rfl) ?_ | with_reducible refine And.intro (by omega) ?_ | with_reducible refine optF_if (by omega) ?_)
        obtain rfl := Option.some.inj e20
        try dsimp only at hs
        refine rPost_ret ?_
        repeat (first | simp [g1_0, g1_1, g1_2, g1_3, n1_0, n1_1, f37] | with_reducible refine awp_reg ?_ | with_reducible refine awp_draw ?_ | with_reducible refine ord_l (by kernel_rfl) ?_ | with_reducible refine ord_e (by kernel_rfl) ?_ | with_reducible refine ord_c (by kernel_rfl) ?_ | with_reducible refine ord_d (by kernel_rfl) ?_ | with_reducible refine And.intro (by omega) ?_ | with_reducible refine optF_if (by omega) ?_)
        obtain rfl := Option.some.inj hs
        refine hQ _ _ (ret2g _ (Gh.refl _) (by simp [St.frz, St.pur, g1_0, g1_1, g1_2, g1_3, n1_0, n1_1, f37]; rfl) (by first | rfl | (simp [St.frz, St.pur, g1_0, g1_1, g1_2, g1_3, n1_0, n1_1, f37]; done) | (rw [if_pos (by first | omega | (simp; omega))]; simp [St.frz, St.pur, g1_0, g1_1, g1_2, g1_3, n1_0, n1_1, f37]; first | omega | exact List.take_of_length_le (by simp; omega) | skip)) (by simp))
      · replace e20 := condF h40 e20
        repeat (first | simp [g1_0, g1_1, g1_2, g1_3, n1_0, n1_1, f37] | with_reducible refine awp_reg ?_ | with_reducible refine awp_draw ?_ | with_reducible refine ord_l (by kernel_rfl) ?_ | with_reducible refine ord_e (by kernel_rfl) ?_ | with_reducible refine ord_c (by kernel_rfl) ?_ | with_reducible refine ord_d (by kernel_rfl) ?_ | with_reducible refine And.intro (by omega) ?_ | with_reducible refine optF_if (by omega) ?_)
        refine rPost_gh (Gh.refl _) ⟨e20, by simp [St.frz, St.pur, g1_0, g1_1, g1_2, g1_3, n1_0, n1_1, f37], by simp [St.frz, St.pur, g1_0, g1_1, g1_2, g1_3, n1_0, n1_1, f37], by simp [St.frz, St.pur, g1_0, g1_1, g1_2, g1_3, n1_0, n1_1, f37], by simp [St.frz, St.pur, g1_0, g1_1, g1_2, g1_3, n1_0, n1_1, f37], by first | (simp; done) | (simp; omega) | omega⟩
  · obtain ⟨e20, g1_0, g1_1, g1_2, g1_3, n1_g⟩ := hI
    try dsimp only at e20 g1_0 g1_1 g1_2 g1_3 n1_g
    rw [show xs5.drop (xs5.map (fun (y : ProgramPlace × Inst) => ([.agg [.c (.int .i64 y.1.fn), .c (.int .i64 y.1.inst)], .agg [.c (.int .i64 y.2.Op), .c (.int .i64 y.2.A), .c (.int .i64 y.2.B), .c (.int .i64 y.2.C), .c (.int .i64 y.2.Obj), .c (.int .i64 y.2.N), .c (.int .i64 y.2.Fn), .c (.int .i64 y.2.Order)]] : List EV))).length = [] by simp, program_checkCode_L1] at e20; try dsimp only at e20
    have n1_0 : ¬ (gen24 = 0) := by omega
    have n1_1 : ¬ (gen24 = 1) := by omega
    obtain rfl := Option.some.inj e20
    try dsimp only at hs
    repeat (first | simp [g1_0, g1_1, g1_2, g1_3, n1_0, n1_1] | with_reducible refine awp_reg ?_ | with_reducible refine And.intro (by omega) ?_ | with_reducible refine optF_if (by omega) ?_)
    refine condK_spec (!(ltI y1 0)) (by first | rfl | (simp [g1_0, g1_1, g1_2, g1_3, n1_0, n1_1]; done) | (simp [andB, orB, eqI, ltI, Int.natCast_inj, g1_0, g1_1, g1_2, g1_3, n1_0, n1_1]; done)) (fun h41 => ?_) (fun h41 => ?_)
    · replace hs := condT h41 hs
      repeat (first | simp [g1_0, g1_1, g1_2, g1_3, n1_0, n1_1] | with_reducible refine awp_reg ?_ | with_reducible refine awp_draw ?_ | with_reducible refine ord_l (by kernel_rfl) ?_ | with_reducible refine ord_e (by kernel_rfl) ?_ | with_reducible refine ord_c (by kernel_rfl) ?_ | with_reducible refine ord_d (by kernel_rfl) ?_ | with_reducible refine And.intro (by omega) ?_ | with_reducible refine optF_if (by omega) ?_)
      obtain rfl := Option.some.inj hs
      refine hQ _ _ (ret2g _ (Gh.refl _) (by simp [St.frz, St.pur, g1_0, g1_1, g1_2, g1_3, n1_0, n1_1]; rfl) (by first | rfl | (simp [St.frz, St.pur, g1_0, g1_1, g1_2, g1_3, n1_0, n1_1]; done) | (rw [if_pos (by first | omega | (simp; omega))]; simp [St.frz, St.pur, g1_0, g1_1, g1_2, g1_3, n1_0, n1_1]; first | omega | exact List.take_of_length_le (by simp; omega) | skip)) (by simp))
    · replace hs := condF h41 hs
      repeat (first | simp [g1_0, g1_1, g1_2, g1_3, n1_0, n1_1] | with_reducible refine awp_reg ?_ | with_reducible refine And.intro (by omega) ?_ | with_reducible refine optF_if (by omega) ?_)
      obtain rfl := Option.some.inj hs
      refine hQ _ _ (ret2g _ (Gh.refl _) (by simp [St.frz, St.pur, g1_0, g1_1, g1_2, g1_3, n1_0, n1_1]; rfl) (by first | rfl | (simp [St.frz, St.pur, g1_0, g1_1, g1_2, g1_3, n1_0, n1_1]; done) | (rw [if_pos (by first | omega | (simp; omega))]; simp [St.frz, St.pur, g1_0, g1_1, g1_2, g1_3, n1_0, n1_1]; first | omega | exact List.take_of_length_le (by simp; omega) | skip)) (by simp))
end Go.Dc
end
section
set_option linter.all false
namespace Go.Dc
open Go Go.Hw Go.Proofs
set_option maxRecDepth 100000
def program_checkThreads_L1 (a0 : Program) : List Start → Nat → Option (Unit ⊕ (Int × ProgramPlace))
  | [], k51 => some (.inl ())
  | x70 :: q66, k51 => cond (orB (ltI x70.Func 0) (!(ltI x70.Func ((a0.Funcs.length : Nat) : Int)))) (some (.inr (11, ({ fn := (-1), inst := (-1) } : ProgramPlace)))) (Option.bind (program_value x70.Arg) (fun y74 => cond (!y74) (some (.inr (2, ({ fn := (-1), inst := (-1) } : ProgramPlace)))) (program_checkThreads_L1 a0 q66 (k51 + 1))))

def program_checkThreads (a0 : Program) : Option (Int × ProgramPlace) :=
  cond (orB (ltI ((a0.Threads.length : Nat) : Int) 1) (ltI 8 ((a0.Threads.length : Nat) : Int))) (some (4, ({ fn := (-1), inst := (-1) } : ProgramPlace))) (Option.bind (α := Unit ⊕ (Int × ProgramPlace)) (Option.bind (program_checkThreads_L1 a0 a0.Threads 0) (fun o => match o with | .inl _ => some (.inl ()) | .inr r77 => some (.inr r77))) (fun o => match o with | .inl _ => some (0, ({ fn := (-1), inst := (-1) } : ProgramPlace)) | .inr r78 => some r78))

set_option maxHeartbeats 2000000 in
theorem at_program_checkThreads {a0 : Program} {r : Int × ProgramPlace} (hs : program_checkThreads a0 = some r) : At Tryd.prog 86 [.agg [.p (.sl a0.Vars.length (encL a0.Vars)), .p (.sl a0.Mutexes.length (encL a0.Mutexes)), .p (.sl a0.Conds.length (encL a0.Conds)), .p (.sl a0.Funcs.length (encL a0.Funcs)), .p (.sl a0.Threads.length (encL a0.Threads))]] (.tup [iV .i64 r.1, .agg [.p (.c (.int .i64 r.2.fn)), .p (.c (.int .i64 r.2.inst))]]) := by
  refine at_bound (by kernel_rfl) fun hb => ?_
  have hb1 : LenOk (.sl a0.Vars.length (encL a0.Vars)) := hb (.agg [.p (.sl a0.Vars.length (encL a0.Vars)), .p (.sl a0.Mutexes.length (encL a0.Mutexes)), .p (.sl a0.Conds.length (encL a0.Conds)), .p (.sl a0.Funcs.length (encL a0.Funcs)), .p (.sl a0.Threads.length (encL a0.Threads))]) (by simp) (.p (.sl a0.Vars.length (encL a0.Vars))) (by simp)
  have hb2 : LenOk (.sl a0.Mutexes.length (encL a0.Mutexes)) := hb (.agg [.p (.sl a0.Vars.length (encL a0.Vars)), .p (.sl a0.Mutexes.length (encL a0.Mutexes)), .p (.sl a0.Conds.length (encL a0.Conds)), .p (.sl a0.Funcs.length (encL a0.Funcs)), .p (.sl a0.Threads.length (encL a0.Threads))]) (by simp) (.p (.sl a0.Mutexes.length (encL a0.Mutexes))) (by simp)
  have hb3 : LenOk (.sl a0.Conds.length (encL a0.Conds)) := hb (.agg [.p (.sl a0.Vars.length (encL a0.Vars)), .p (.sl a0.Mutexes.length (encL a0.Mutexes)), .p (.sl a0.Conds.length (encL a0.Conds)), .p (.sl a0.Funcs.length (encL a0.Funcs)), .p (.sl a0.Threads.length (encL a0.Threads))]) (by simp) (.p (.sl a0.Conds.length (encL a0.Conds))) (by simp)
  have hb4 : LenOk (.sl a0.Funcs.length (encL a0.Funcs)) := hb (.agg [.p (.sl a0.Vars.length (encL a0.Vars)), .p (.sl a0.Mutexes.length (encL a0.Mutexes)), .p (.sl a0.Conds.length (encL a0.Conds)), .p (.sl a0.Funcs.length (encL a0.Funcs)), .p (.sl a0.Threads.length (encL a0.Threads))]) (by simp) (.p (.sl a0.Funcs.length (encL a0.Funcs))) (by simp)
  have hb5 : LenOk (.sl a0.Threads.length (encL a0.Threads)) := hb (.agg [.p (.sl a0.Vars.length (encL a0.Vars)), .p (.sl a0.Mutexes.length (encL a0.Mutexes)), .p (.sl a0.Conds.length (encL a0.Conds)), .p (.sl a0.Funcs.length (encL a0.Funcs)), .p (.sl a0.Threads.length (encL a0.Threads))]) (by simp) (.p (.sl a0.Threads.length (encL a0.Threads))) (by simp)
  refine at_code mixed Tryd.func86 (by kernel_rfl) rfl (by kernel_rfl) rfl fun Q hQ => ?_
  rw [program_checkThreads] at hs
  repeat (first | simp | with_reducible refine awp_reg ?_ | with_reducible refine And.intro (by omega) ?_ | with_reducible refine optF_if (by omega) ?_ | with_reducible refine gsel_pure (by with_unfolding_all rfl) _ (fun hg => by (try simp at hg); first | (simp [hg]; rfl) | (simp; simp only [if_pos hg]; simp; rfl)) ?_)
  refine condK_spec (orB (ltI ((a0.Threads.length : Nat) : Int) 1) (ltI 8 ((a0.Threads.length : Nat) : Int))) (by first | rfl | (simp; done) | (simp [andB, orB, eqI, ltI, Int.natCast_inj]; done)) (fun h1 => ?_) (fun h1 => ?_)
  · replace hs := condT h1 hs
    repeat (first | simp | with_reducible refine awp_reg ?_ | with_reducible refine awp_draw ?_ | with_reducible refine ord_l (by kernel_rfl) ?_ | with_reducible refine ord_e (by kernel_rfl) ?_ | with_reducible refine ord_c (by kernel_rfl) ?_ | with_reducible refine ord_d (by kernel_rfl) ?_ | with_reducible refine And.intro (by omega) ?_ | with_reducible refine optF_if (by omega) ?_ | with_reducible refine gsel_pure (by with_unfolding_all rfl) _ (fun hg => by (try simp at hg); first | (simp [hg]; rfl) | (simp; simp only [if_pos hg]; simp; rfl)) ?_ | with_reducible refine dskip_intro ?_ | with_reducible refine dsel_pure (by with_unfolding_all rfl) _ (fun hg => by (try simp at hg); simp [hg]; rfl) ?_)
    obtain rfl := Option.some.inj hs
    refine hQ _ _ (ret2g _ (Gh.refl _) (by simp [St.frz, St.pur]; rfl) (by first | rfl | (simp [St.frz, St.pur]; done) | (rw [if_pos (by first | omega | (simp; omega))]; simp [St.frz, St.pur]; first | omega | exact List.take_of_length_le (by simp; omega) | skip)) (by simp))
  · replace hs := condF h1 hs
    repeat (first | simp [-awp_cond_eq, -awp_block_eq] | with_reducible refine awp_reg ?_ | with_reducible refine And.intro (by omega) ?_ | with_reducible refine optF_if (by omega) ?_ | with_reducible refine gsel_pure (by with_unfolding_all rfl) _ (fun hg => by (try simp at hg); first | (simp [hg]; rfl) | (simp; simp only [if_pos hg]; simp; rfl)) ?_)
    obtain ⟨o39, e38, hs⟩ := bindO hs
    try dsimp only at hs
    refine awp_cutK (fun (v : Unit) (σ : St) => some (.inl v) = some o39 ∧ σ.env 3 = .cell (.ref (.o 1 2 0) 0) ∧ σ.env 4 = .cell (.ref (.o 2 1 0) 0) ∧ σ.hp (.o 1 2 0) = some (.cells [.p (.c (.int .i64 0)), .p (.c (.int .i64 0))]) ∧ σ.hp (.o 2 1 0) = some (.cells [.p (.c (.int .i64 (-1))), .p (.c (.int .i64 (-1)))]) ∧ 4 ≤ σ.gen) (by rfl) (fun Q hK40 hX41 => ?_) (fun v σ3 hp => ?_)
    · repeat (first | simp | with_reducible refine awp_reg ?_ | with_reducible refine And.intro (by omega) ?_ | with_reducible refine optF_if (by omega) ?_ | with_reducible refine gsel_pure (by with_unfolding_all rfl) _ (fun hg => by (try simp at hg); first | (simp [hg]; rfl) | (simp; simp only [if_pos hg]; simp; rfl)) ?_)
      obtain ⟨o61, e60, e38⟩ := bindO e38
      try dsimp only at e38
      refine awp_loopW (fun (v : (List Start) × Nat) (σ : St) => program_checkThreads_L1 a0 v.1 v.2 = some o61 ∧ v.1 = a0.Threads.drop v.2 ∧ σ.env 1 = .cell (.ref (.o 1 0 0) 0) ∧ σ.env 3 = .cell (.ref (.o 1 2 0) 0) ∧ σ.env 4 = .cell (.ref (.o 2 1 0) 0) ∧ σ.env 20 = .cell (.p (.sl a0.Threads.length (encL a0.Threads))) ∧ σ.env 21 = iV .i64 ((a0.Threads.length : Nat) : Int) ∧ σ.env 22 = iV .i64 ((v.2 : Nat) : Int) ∧ σ.hp (.o 1 0 0) = some (.cells [.p (.sl a0.Vars.length (encL a0.Vars)), .p (.sl a0.Mutexes.length (encL a0.Mutexes)), .p (.sl a0.Conds.length (encL a0.Conds)), .p (.sl a0.Funcs.length (encL a0.Funcs)), .p (.sl a0.Threads.length (encL a0.Threads))]) ∧ σ.hp (.o 1 2 0) = some (.cells [.p (.c (.int .i64 0)), .p (.c (.int .i64 0))]) ∧ σ.hp (.o 2 1 0) = some (.cells [.p (.c (.int .i64 (-1))), .p (.c (.int .i64 (-1)))]) ∧ 4 ≤ σ.gen) (fun v => v.1.length) _ (Gh.refl _) (a0.Threads, 0) ⟨e60, by simp, by simp [St.frz, St.pur], by simp [St.frz, St.pur], by simp [St.frz, St.pur], by simp [St.frz, St.pur], by simp [St.frz, St.pur], by simp [St.frz, St.pur], by simp [St.frz, St.pur], by simp [St.frz, St.pur], by simp [St.frz, St.pur], by first | (simp; done) | (simp; omega) | omega⟩ fun v σ6 hp L62 hL63 => ?_
      obtain ⟨q65, k51⟩ := v
      dsimp only at hp hL63
      obtain ⟨e60, hd64, h5_1, h5_3, h5_4, h5_20, h5_21, h5_22, g5_0, g5_1, g5_2, n5_g⟩ := hp
      have n5_0 : ¬ (σ6.gen = 0) := by omega
      have n5_1 : ¬ (σ6.gen = 1) := by omega
      rcases q65 with _ | ⟨x70, q66⟩
      · have hlt67 := drop_end hd64
        rw [program_checkThreads_L1] at e60; try dsimp only at e60
        repeat (first | simp [h5_1, h5_3, h5_4, h5_20, h5_21, h5_22, g5_0, g5_1, g5_2, n5_0, n5_1] | with_reducible refine awp_reg ?_)
        refine condK_f (by simp [ltI]; omega) ?_
        obtain rfl := Option.some.inj e60
        try dsimp only at e38
        exact hK40 () _ _ (Gh.refl _) ⟨e38, by simp [St.frz, St.pur, h5_1, h5_3, h5_4, h5_20, h5_21, h5_22, g5_0, g5_1, g5_2, n5_0, n5_1], by simp [St.frz, St.pur, h5_1, h5_3, h5_4, h5_20, h5_21, h5_22, g5_0, g5_1, g5_2, n5_0, n5_1], by simp [St.frz, St.pur, h5_1, h5_3, h5_4, h5_20, h5_21, h5_22, g5_0, g5_1, g5_2, n5_0, n5_1], by simp [St.frz, St.pur, h5_1, h5_3, h5_4, h5_20, h5_21, h5_22, g5_0, g5_1, g5_2, n5_0, n5_1], by first | (simp; done) | (simp; omega) | omega⟩
      · obtain ⟨hx69, hlt67, hd71⟩ := drop_next hd64
        have ew68 := wrap_succ hlt67 (hb5).len
        rw [program_checkThreads_L1] at e60; try dsimp only at e60
        repeat (first | simp [h5_1, h5_3, h5_4, h5_20, h5_21, h5_22, g5_0, g5_1, g5_2, n5_0, n5_1, hlt67, ew68] | with_reducible refine awp_reg ?_)
        refine condK_t (by simp [ltI]; omega) ?_
        have f72 : partCV Tryd.prog 108 (encL a0.Threads) (k51 * 2) = some (.agg [.p (.c (.int .i64 x70.Func)), .p (.c (.int .i64 x70.Arg))]) := partCV_enc hx69 (f := 0) (by simp)
        repeat (first | simp [h5_1, h5_3, h5_4, h5_20, h5_21, h5_22, g5_0, g5_1, g5_2, n5_0, n5_1, hlt67, ew68, f72] | with_reducible refine awp_reg ?_ | with_reducible refine And.intro (by omega) ?_ | with_reducible refine optF_if (by omega) ?_ | with_reducible refine gsel_pure (by with_unfolding_all rfl) _ (fun hg => by (try simp at hg); first | (simp [hg, h5_1, h5_3, h5_4, h5_20, h5_21, h5_22, g5_0, g5_1, g5_2, n5_0, n5_1, hlt67, ew68, f72]; rfl) | (simp [h5_1, h5_3, h5_4, h5_20, h5_21, h5_22, g5_0, g5_1, g5_2, n5_0, n5_1, hlt67, ew68, f72]; simp only [if_pos hg]; simp [h5_1, h5_3, h5_4, h5_20, h5_21, h5_22, g5_0, g5_1, g5_2, n5_0, n5_1, hlt67, ew68, f72]; rfl)) ?_)
        refine condK_spec (orB (ltI x70.Func 0) (!(ltI x70.Func ((a0.Funcs.length : Nat) : Int)))) (by first | rfl | (simp [h5_1, h5_3, h5_4, h5_20, h5_21, h5_22, g5_0, g5_1, g5_2, n5_0, n5_1, hlt67, ew68, f72]; done) | (simp [andB, orB, eqI, ltI, Int.natCast_inj, h5_1, h5_3, h5_4, h5_20, h5_21, h5_22, g5_0, g5_1, g5_2, n5_0, n5_1, hlt67, ew68, f72]; done)) (fun h73 => ?_) (fun h73 => ?_)
        · replace e60 := condT h73 e60
          repeat (first | simp [h5_1, h5_3, h5_4, h5_20, h5_21, h5_22, g5_0, g5_1, g5_2, n5_0, n5_1, hlt67, ew68, f72] | with_reducible refine awp_reg ?_ | with_reducible refine awp_draw ?_ | with_reducible refine ord_l (by kernel_rfl) ?_ | with_reducible refine ord_e (by kernel_rfl) ?_ | with_reducible refine ord_c (by kernel_rfl) ?_ | with_reducible refine ord_d (by kernel_rfl) ?_ | with_reducible refine And.intro (by omega) ?_ | with_reducible refine optF_if (by omega) ?_ | with_reducible refine gsel_pure (by with_unfolding_all rfl) _ (fun hg => by (try simp at hg); first | (simp [hg, h5_1, h5_3, h5_4, h5_20, h5_21, h5_22, g5_0, g5_1, g5_2, n5_0, n5_1, hlt67, ew68, f72]; rfl) | (simp [h5_1, h5_3, h5_4, h5_20, h5_21, h5_22, g5_0, g5_1, g5_2, n5_0, n5_1, hlt67, ew68, f72]; simp only [if_pos hg]; simp [h5_1, h5_3, h5_4, h5_20, h5_21, h5_22, g5_0, g5_1, g5_2, n5_0, n5_1, hlt67, ew68, f72]; rfl)) ?_ | with_reducible refine dskip_intro ?_ | with_reducible refine dsel_pure (by with_unfolding_all rfl) _ (fun hg => by (try simp at hg); simp [hg, h5_1, h5_3, h5_4, h5_20, h5_21, h5_22, g5_0, g5_1, g5_2, n5_0, n5_1, hlt67, ew68, f72]; rfl) ?_)
          obtain rfl := Option.some.inj e60
          try dsimp only at e38
          obtain rfl := Option.some.inj e38
          try dsimp only at hs
          refine hX41 _ _ (by simp) ?_
          repeat (first | simp [h5_1, h5_3, h5_4, h5_20, h5_21, h5_22, g5_0, g5_1, g5_2, n5_0, n5_1, hlt67, ew68, f72] | with_reducible refine awp_reg ?_ | with_reducible refine awp_draw ?_ | with_reducible refine ord_l (by kernel_rfl) ?_ | with_reducible refine ord_e (by kernel_rfl) ?_ | with_reducible refine ord_c (by kernel_rfl) ?_ | with_reducible refine ord_d (by kernel_rfl) ?_ | with_reducible refine And.intro (by omega) ?_ | with_reducible refine optF_if (by omega) ?_ | with_reducible refine gsel_pure (by with_unfolding_all rfl) _ (fun hg => by (try simp at hg); first | (simp [hg, h5_1, h5_3, h5_4, h5_20, h5_21, h5_22, g5_0, g5_1, g5_2, n5_0, n5_1, hlt67, ew68, f72]; rfl) | (simp [h5_1, h5_3, h5_4, h5_20, h5_21, h5_22, g5_0, g5_1, g5_2, n5_0, n5_1, hlt67, ew68, f72]; simp only [if_pos hg]; simp [h5_1, h5_3, h5_4, h5_20, h5_21, h5_22, g5_0, g5_1, g5_2, n5_0, n5_1, hlt67, ew68, f72]; rfl)) ?_ | with_reducible refine dskip_intro ?_ | with_reducible refine dsel_pure (by with_unfolding_all rfl) _ (fun hg => by (try simp at hg); simp [hg, h5_1, h5_3, h5_4, h5_20, h5_21, h5_22, g5_0, g5_1, g5_2, n5_0, n5_1, hlt67, ew68, f72]; rfl) ?_)
          obtain rfl := Option.some.inj hs
          refine hQ _ _ (ret2g _ (Gh.refl _) (by simp [St.frz, St.pur, h5_1, h5_3, h5_4, h5_20, h5_21, h5_22, g5_0, g5_1, g5_2, n5_0, n5_1, hlt67, ew68, f72]; rfl) (by first | rfl | (simp [St.frz, St.pur, h5_1, h5_3, h5_4, h5_20, h5_21, h5_22, g5_0, g5_1, g5_2, n5_0, n5_1, hlt67, ew68, f72]; done) | (rw [if_pos (by first | omega | (simp; omega))]; simp [St.frz, St.pur, h5_1, h5_3, h5_4, h5_20, h5_21, h5_22, g5_0, g5_1, g5_2, n5_0, n5_1, hlt67, ew68, f72]; first | omega | exact List.take_of_length_le (by simp; omega) | skip)) (by simp))
        · replace e60 := condF h73 e60
          repeat (first | simp [h5_1, h5_3, h5_4, h5_20, h5_21, h5_22, g5_0, g5_1, g5_2, n5_0, n5_1, hlt67, ew68, f72] | with_reducible refine awp_reg ?_ | with_reducible refine And.intro (by omega) ?_ | with_reducible refine optF_if (by omega) ?_ | with_reducible refine gsel_pure (by with_unfolding_all rfl) _ (fun hg => by (try simp at hg); first | (simp [hg, h5_1, h5_3, h5_4, h5_20, h5_21, h5_22, g5_0, g5_1, g5_2, n5_0, n5_1, hlt67, ew68, f72]; rfl) | (simp [h5_1, h5_3, h5_4, h5_20, h5_21, h5_22, g5_0, g5_1, g5_2, n5_0, n5_1, hlt67, ew68, f72]; simp only [if_pos hg]; simp [h5_1, h5_3, h5_4, h5_20, h5_21, h5_22, g5_0, g5_1, g5_2, n5_0, n5_1, hlt67, ew68, f72]; rfl)) ?_)
          obtain ⟨y74, hx75, e60⟩ := bindO e60
          try dsimp only at e60
          refine callK_pure (at_program_value hx75) (by (first | simp [h5_1, h5_3, h5_4, h5_20, h5_21, h5_22, g5_0, g5_1, g5_2, n5_0, n5_1, hlt67, ew68, f72] | simp (disch := omega) [h5_1, h5_3, h5_4, h5_20, h5_21, h5_22, g5_0, g5_1, g5_2, n5_0, n5_1, hlt67, ew68, f72]); try rfl) (by simp) (by simp) ?_
          repeat (first | simp [h5_1, h5_3, h5_4, h5_20, h5_21, h5_22, g5_0, g5_1, g5_2, n5_0, n5_1, hlt67, ew68, f72] | with_reducible refine awp_reg ?_ | with_reducible refine And.intro (by omega) ?_ | with_reducible refine optF_if (by omega) ?_ | with_reducible refine gsel_pure (by with_unfolding_all rfl) _ (fun hg => by (try simp at hg); first | (simp [hg, h5_1, h5_3, h5_4, h5_20, h5_21, h5_22, g5_0, g5_1, g5_2, n5_0, n5_1, hlt67, ew68, f72]; rfl) | (simp [h5_1, h5_3, h5_4, h5_20, h5_21, h5_22, g5_0, g5_1, g5_2, n5_0, n5_1, hlt67, ew68, f72]; simp only [if_pos hg]; simp [h5_1, h5_3, h5_4, h5_20, h5_21, h5_22, g5_0, g5_1, g5_2, n5_0, n5_1, hlt67, ew68, f72]; rfl)) ?_)
          refine condK_spec (!y74) (by first | rfl | (simp [h5_1, h5_3, h5_4, h5_20, h5_21, h5_22, g5_0, g5_1, g5_2, n5_0, n5_1, hlt67, ew68, f72]; done) | (simp [andB, orB, eqI, ltI, Int.natCast_inj, h5_1, h5_3, h5_4, h5_20, h5_21, h5_22, g5_0, g5_1, g5_2, n5_0, n5_1, hlt67, ew68, f72]; done)) (fun h76 => ?_) (fun h76 => ?_)
          · replace e60 := condT h76 e60
            repeat (first | simp [h5_1, h5_3, h5_4, h5_20, h5_21, h5_22, g5_0, g5_1, g5_2, n5_0, n5_1, hlt67, ew68, f72] | with_reducible refine awp_reg ?_ | with_reducible refine awp_draw ?_ | with_reducible refine ord_l (by kernel_rfl) ?_ | with_reducible refine ord_e (by kernel_rfl) ?_ | with_reducible refine ord_c (by kernel_rfl) ?_ | with_reducible refine ord_d (by kernel_rfl) ?_ | with_reducible refine And.intro (by omega) ?_ | with_reducible refine optF_if (by omega) ?_ | with_reducible refine gsel_pure (by with_unfolding_all rfl) _ (fun hg => by (try simp at hg); first | (simp [hg, h5_1, h5_3, h5_4, h5_20, h5_21, h5_22, g5_0, g5_1, g5_2, n5_0, n5_1, hlt67, ew68, f72]; rfl) | (simp [h5_1, h5_3, h5_4, h5_20, h5_21, h5_22, g5_0, g5_1, g5_2, n5_0, n5_1, hlt67, ew68, f72]; simp only [if_pos hg]; simp [h5_1, h5_3, h5_4, h5_20, h5_21, h5_22, g5_0, g5_1, g5_2, n5_0, n5_1, hlt67, ew68, f72]; rfl)) ?_ | with_reducible refine dskip_intro ?_ | with_reducible refine dsel_pure (by with_unfolding_all rfl) _ (fun hg => by (try simp at hg); simp [hg, h5_1, h5_3, h5_4, h5_20, h5_21, h5_22, g5_0, g5_1, g5_2, n5_0, n5_1, hlt67, ew68, f72]; rfl) ?_)
            obtain rfl := Option.some.inj e60
            try dsimp only at e38
            obtain rfl := Option.some.inj e38
            try dsimp only at hs
            refine hX41 _ _ (by simp) ?_
            repeat (first | simp [h5_1, h5_3, h5_4, h5_20, h5_21, h5_22, g5_0, g5_1, g5_2, n5_0, n5_1, hlt67, ew68, f72] | with_reducible refine awp_reg ?_ | with_reducible refine awp_draw ?_ | with_reducible refine ord_l (by kernel_rfl) ?_ | with_reducible refine ord_e (by kernel_rfl) ?_ | with_reducible refine ord_c (by kernel_rfl) ?_ | with_reducible refine ord_d (by kernel_rfl) ?_ | with_reducible refine And.intro (by omega) ?_ | with_reducible refine optF_if (by omega) ?_ | with_reducible refine gsel_pure (by with_unfolding_all rfl) _ (fun hg => by (try simp at hg); first | (simp [hg, h5_1, h5_3, h5_4, h5_20, h5_21, h5_22, g5_0, g5_1, g5_2, n5_0, n5_1, hlt67, ew68, f72]; rfl) | (simp [h5_1, h5_3, h5_4, h5_20, h5_21, h5_22, g5_0, g5_1, g5_2, n5_0, n5_1, hlt67, ew68, f72]; simp only [if_pos hg]; simp [h5_1, h5_3, h5_4, h5_20, h5_21, h5_22, g5_0, g5_1, g5_2, n5_0, n5_1, hlt67, ew68, f72]; rfl)) ?_ | with_reducible refine dskip_intro ?_ | with_reducible refine dsel_pure (by with_unfolding_all rfl) _ (fun hg => by (try simp at hg); simp [hg, h5_1, h5_3, h5_4, h5_20, h5_21, h5_22, g5_0, g5_1, g5_2, n5_0, n5_1, hlt67, ew68, f72]; rfl) ?_)
            obtain rfl := Option.some.inj hs
            refine hQ _ _ (ret2g _ (Gh.refl _) (by simp [St.frz, St.pur, h5_1, h5_3, h5_4, h5_20, h5_21, h5_22, g5_0, g5_1, g5_2, n5_0, n5_1, hlt67, ew68, f72]; rfl) (by first | rfl | (simp [St.frz, St.pur, h5_1, h5_3, h5_4, h5_20, h5_21, h5_22, g5_0, g5_1, g5_2, n5_0, n5_1, hlt67, ew68, f72]; done) | (rw [if_pos (by first | omega | (simp; omega))]; simp [St.frz, St.pur, h5_1, h5_3, h5_4, h5_20, h5_21, h5_22, g5_0, g5_1, g5_2, n5_0, n5_1, hlt67, ew68, f72]; first | omega | exact List.take_of_length_le (by simp; omega) | skip)) (by simp))
          · replace e60 := condF h76 e60
            repeat (first | simp [h5_1, h5_3, h5_4, h5_20, h5_21, h5_22, g5_0, g5_1, g5_2, n5_0, n5_1, hlt67, ew68, f72] | with_reducible refine awp_reg ?_ | with_reducible refine And.intro (by omega) ?_ | with_reducible refine optF_if (by omega) ?_ | with_reducible refine gsel_pure (by with_unfolding_all rfl) _ (fun hg => by (try simp at hg); first | (simp [hg, h5_1, h5_3, h5_4, h5_20, h5_21, h5_22, g5_0, g5_1, g5_2, n5_0, n5_1, hlt67, ew68, f72]; rfl) | (simp [h5_1, h5_3, h5_4, h5_20, h5_21, h5_22, g5_0, g5_1, g5_2, n5_0, n5_1, hlt67, ew68, f72]; simp only [if_pos hg]; simp [h5_1, h5_3, h5_4, h5_20, h5_21, h5_22, g5_0, g5_1, g5_2, n5_0, n5_1, hlt67, ew68, f72]; rfl)) ?_)
            exact hL63 (q66, (k51 + 1)) _ _ (Gh.refl _) ⟨e60, hd71, by simp [St.frz, St.pur, h5_1, h5_3, h5_4, h5_20, h5_21, h5_22, g5_0, g5_1, g5_2, n5_0, n5_1, hlt67, ew68, f72], by simp [St.frz, St.pur, h5_1, h5_3, h5_4, h5_20, h5_21, h5_22, g5_0, g5_1, g5_2, n5_0, n5_1, hlt67, ew68, f72], by simp [St.frz, St.pur, h5_1, h5_3, h5_4, h5_20, h5_21, h5_22, g5_0, g5_1, g5_2, n5_0, n5_1, hlt67, ew68, f72], by simp [St.frz, St.pur, h5_1, h5_3, h5_4, h5_20, h5_21, h5_22, g5_0, g5_1, g5_2, n5_0, n5_1, hlt67, ew68, f72], by simp [St.frz, St.pur, h5_1, h5_3, h5_4, h5_20, h5_21, h5_22, g5_0, g5_1, g5_2, n5_0, n5_1, hlt67, ew68, f72], by simp [St.frz, St.pur, h5_1, h5_3, h5_4, h5_20, h5_21, h5_22, g5_0, g5_1, g5_2, n5_0, n5_1, hlt67, ew68, f72], by simp [St.frz, St.pur, h5_1, h5_3, h5_4, h5_20, h5_21, h5_22, g5_0, g5_1, g5_2, n5_0, n5_1, hlt67, ew68, f72], by simp [St.frz, St.pur, h5_1, h5_3, h5_4, h5_20, h5_21, h5_22, g5_0, g5_1, g5_2, n5_0, n5_1, hlt67, ew68, f72], by simp [St.frz, St.pur, h5_1, h5_3, h5_4, h5_20, h5_21, h5_22, g5_0, g5_1, g5_2, n5_0, n5_1, hlt67, ew68, f72], by first | (simp; done) | (simp; omega) | omega⟩ (by simp)
    · obtain ⟨e38, h4_3, h4_4, g4_0, g4_1, n4_g⟩ := hp
      obtain rfl := Option.some.inj e38
      try dsimp only at hs
      have n4_0 : ¬ (σ3.gen = 0) := by omega
      have n4_1 : ¬ (σ3.gen = 1) := by omega
      repeat (first | simp [h4_3, h4_4, g4_0, g4_1, n4_0, n4_1] | with_reducible refine awp_reg ?_ | with_reducible refine awp_draw ?_ | with_reducible refine ord_l (by kernel_rfl) ?_ | with_reducible refine ord_e (by kernel_rfl) ?_ | with_reducible refine ord_c (by kernel_rfl) ?_ | with_reducible refine ord_d (by kernel_rfl) ?_ | with_reducible refine And.intro (by omega) ?_ | with_reducible refine optF_if (by omega) ?_ | with_reducible refine gsel_pure (by with_unfolding_all rfl) _ (fun hg => by (try simp at hg); first | (simp [hg, h4_3, h4_4, g4_0, g4_1, n4_0, n4_1]; rfl) | (simp [h4_3, h4_4, g4_0, g4_1, n4_0, n4_1]; simp only [if_pos hg]; simp [h4_3, h4_4, g4_0, g4_1, n4_0, n4_1]; rfl)) ?_ | with_reducible refine dskip_intro ?_ | with_reducible refine dsel_pure (by with_unfolding_all rfl) _ (fun hg => by (try simp at hg); simp [hg, h4_3, h4_4, g4_0, g4_1, n4_0, n4_1]; rfl) ?_)
      obtain rfl := Option.some.inj hs
      refine hQ _ _ (ret2g _ (Gh.refl _) (by simp [St.frz, St.pur, h4_3, h4_4, g4_0, g4_1, n4_0, n4_1]; rfl) (by first | rfl | (simp [St.frz, St.pur, h4_3, h4_4, g4_0, g4_1, n4_0, n4_1]; done) | (rw [if_pos (by first | omega | (simp; omega))]; simp [St.frz, St.pur, h4_3, h4_4, g4_0, g4_1, n4_0, n4_1]; first | omega | exact List.take_of_length_le (by simp; omega) | skip)) (by simp))
end Go.Dc
end
section
set_option linter.all false
namespace Go.Dc
open Go Go.Hw Go.Proofs
set_option maxRecDepth 100000

def program_Check (fuelN : Nat) (a0 : Program) : Option (Int × Int × Int) :=
  Option.bind (program_checkNames a0) (fun y1 => Option.bind (α := Int × Int × Int) (cond (eqI y1.1 0) (Option.bind (program_checkObjects a0) (fun y14 => some ((y14.1, y14.2.fn, y14.2.inst)))) (some ((y1.1, y1.2.fn, y1.2.inst)))) (fun o => match o with | (i6, i7, i8) => Option.bind (α := Int × Int × Int) (cond (eqI i6 0) (Option.bind (program_checkCode fuelN a0) (fun y27 => some ((y27.1, y27.2.fn, y27.2.inst)))) (some ((i6, i7, i8)))) (fun o => match o with | (i19, i20, i21) => cond (eqI i19 0) (Option.bind (program_checkThreads a0) (fun y30 => cond (!(eqI y30.1 0)) (some (y30.1, y30.2.fn, y30.2.inst)) (some (0, (-1), (-1))))) (cond (!(eqI i19 0)) (some (i19, i20, i21)) (some (0, (-1), (-1)))))))

set_option maxHeartbeats 2000000 in
theorem at_program_Check {fuelN : Nat} {a0 : Program} {r : Int × Int × Int} (hs : program_Check fuelN a0 = some r) : At Tryd.prog 64 [.agg [.p (.sl a0.Vars.length (encL a0.Vars)), .p (.sl a0.Mutexes.length (encL a0.Mutexes)), .p (.sl a0.Conds.length (encL a0.Conds)), .p (.sl a0.Funcs.length (encL a0.Funcs)), .p (.sl a0.Threads.length (encL a0.Threads))]] (.tup [iV .i64 r.1, iV .i64 r.2.1, iV .i64 r.2.2]) := by
  refine at_bound (by kernel_rfl) fun hb => ?_
  have hb1 : LenOk (.sl a0.Vars.length (encL a0.Vars)) := hb (.agg [.p (.sl a0.Vars.length (encL a0.Vars)), .p (.sl a0.Mutexes.length (encL a0.Mutexes)), .p (.sl a0.Conds.length (encL a0.Conds)), .p (.sl a0.Funcs.length (encL a0.Funcs)), .p (.sl a0.Threads.length (encL a0.Threads))]) (by simp) (.p (.sl a0.Vars.length (encL a0.Vars))) (by simp)
  have hb2 : LenOk (.sl a0.Mutexes.length (encL a0.Mutexes)) := hb (.agg [.p (.sl a0.Vars.length (encL a0.Vars)), .p (.sl a0.Mutexes.length (encL a0.Mutexes)), .p (.sl a0.Conds.length (encL a0.Conds)), .p (.sl a0.Funcs.length (encL a0.Funcs)), .p (.sl a0.Threads.length (encL a0.Threads))]) (by simp) (.p (.sl a0.Mutexes.length (encL a0.Mutexes))) (by simp)
  have hb3 : LenOk (.sl a0.Conds.length (encL a0.Conds)) := hb (.agg [.p (.sl a0.Vars.length (encL a0.Vars)), .p (.sl a0.Mutexes.length (encL a0.Mutexes)), .p (.sl a0.Conds.length (encL a0.Conds)), .p (.sl a0.Funcs.length (encL a0.Funcs)), .p (.sl a0.Threads.length (encL a0.Threads))]) (by simp) (.p (.sl a0.Conds.length (encL a0.Conds))) (by simp)
  have hb4 : LenOk (.sl a0.Funcs.length (encL a0.Funcs)) := hb (.agg [.p (.sl a0.Vars.length (encL a0.Vars)), .p (.sl a0.Mutexes.length (encL a0.Mutexes)), .p (.sl a0.Conds.length (encL a0.Conds)), .p (.sl a0.Funcs.length (encL a0.Funcs)), .p (.sl a0.Threads.length (encL a0.Threads))]) (by simp) (.p (.sl a0.Funcs.length (encL a0.Funcs))) (by simp)
  have hb5 : LenOk (.sl a0.Threads.length (encL a0.Threads)) := hb (.agg [.p (.sl a0.Vars.length (encL a0.Vars)), .p (.sl a0.Mutexes.length (encL a0.Mutexes)), .p (.sl a0.Conds.length (encL a0.Conds)), .p (.sl a0.Funcs.length (encL a0.Funcs)), .p (.sl a0.Threads.length (encL a0.Threads))]) (by simp) (.p (.sl a0.Threads.length (encL a0.Threads))) (by simp)
  refine at_code mixed Tryd.func64 (by kernel_rfl) rfl (by kernel_rfl) rfl fun Q hQ => ?_
  rw [program_Check] at hs
  repeat (first | simp | with_reducible refine awp_reg ?_ | with_reducible refine And.intro (by omega) ?_ | with_reducible refine optF_if (by omega) ?_)
  obtain ⟨y1, hx2, hs⟩ := bindO hs
  try dsimp only at hs
  refine callK_pure (at_program_checkNames hx2) (by (first | simp | simp (disch := omega) []); try rfl) (by simp) (by simp) ?_
  repeat (first | simp [-awp_cond_eq, -awp_block_eq] | with_reducible refine awp_reg ?_ | with_reducible refine And.intro (by omega) ?_ | with_reducible refine optF_if (by omega) ?_)
  obtain ⟨o10, e9, hs⟩ := bindO hs
  try dsimp only at hs
  refine awp_cutK (fun (v : Int × Int × Int) (σ : St) => some (v) = some o10 ∧ σ.env 1 = .cell (.ref (.o 1 0 0) 0) ∧ σ.env 5 = iV .i64 v.1 ∧ σ.env 6 = .cell (.ref (.o 2 5 0) 0) ∧ σ.hp (.o 1 0 0) = some (.cells [.p (.sl a0.Vars.length (encL a0.Vars)), .p (.sl a0.Mutexes.length (encL a0.Mutexes)), .p (.sl a0.Conds.length (encL a0.Conds)), .p (.sl a0.Funcs.length (encL a0.Funcs)), .p (.sl a0.Threads.length (encL a0.Threads))]) ∧ σ.hp (.o 2 5 0) = some (.cells [.p (.c (.int .i64 v.2.1)), .p (.c (.int .i64 v.2.2))]) ∧ 3 ≤ σ.gen) (by rfl) (fun Q hK11 hX12 => ?_) (fun v σ1 hp => ?_)
  · repeat (first | simp | with_reducible refine awp_reg ?_ | with_reducible refine And.intro (by omega) ?_ | with_reducible refine optF_if (by omega) ?_)
    refine condK_spec (eqI y1.1 0) (by first | rfl | (simp; done) | (simp [andB, orB, eqI, ltI, Int.natCast_inj]; done)) (fun h13 => ?_) (fun h13 => ?_)
    · replace e9 := condT h13 e9
      repeat (first | simp | with_reducible refine awp_reg ?_ | with_reducible refine And.intro (by omega) ?_ | with_reducible refine optF_if (by omega) ?_)
      obtain ⟨y14, hx15, e9⟩ := bindO e9
      try dsimp only at e9
      refine callK_pure (at_program_checkObjects hx15) (by (first | simp | simp (disch := omega) []); try rfl) (by simp) (by simp) ?_
      repeat (first | simp | with_reducible refine awp_reg ?_ | with_reducible refine And.intro (by omega) ?_ | with_reducible refine optF_if (by omega) ?_)
      exact hK11 (y14.1, y14.2.fn, y14.2.inst) _ _ (Gh.refl _) ⟨e9, by simp [St.frz, St.pur], by simp [St.frz, St.pur], by simp [St.frz, St.pur], by simp [St.frz, St.pur], by simp [St.frz, St.pur], by first | (simp; done) | (simp; omega) | omega⟩
    · replace e9 := condF h13 e9
      repeat (first | simp | with_reducible refine awp_reg ?_ | with_reducible refine And.intro (by omega) ?_ | with_reducible refine optF_if (by omega) ?_)
      exact hK11 (y1.1, y1.2.fn, y1.2.inst) _ _ (Gh.refl _) ⟨e9, by simp [St.frz, St.pur], by simp [St.frz, St.pur], by simp [St.frz, St.pur], by simp [St.frz, St.pur], by simp [St.frz, St.pur], by first | (simp; done) | (simp; omega) | omega⟩
  · obtain ⟨i6, i7, i8⟩ := v
    dsimp only at hp
    obtain ⟨e9, h2_1, h2_5, h2_6, g2_0, g2_1, n2_g⟩ := hp
    obtain rfl := Option.some.inj e9
    try dsimp only at hs
    have n2_0 : ¬ (σ1.gen = 0) := by omega
    have n2_1 : ¬ (σ1.gen = 1) := by omega
    repeat (first | simp [-awp_cond_eq, -awp_block_eq, h2_1, h2_5, h2_6, g2_0, g2_1, n2_0, n2_1] | with_reducible refine awp_reg ?_ | with_reducible refine And.intro (by omega) ?_ | with_reducible refine optF_if (by omega) ?_)
    obtain ⟨o23, e22, hs⟩ := bindO hs
    try dsimp only at hs
    refine awp_cutK (fun (v : Int × Int × Int) (σ : St) => some (v) = some o23 ∧ σ.env 1 = .cell (.ref (.o 1 0 0) 0) ∧ σ.env 5 = iV .i64 v.1 ∧ σ.env 6 = .cell (.ref (.o 2 5 0) 0) ∧ σ.hp (.o 1 0 0) = some (.cells [.p (.sl a0.Vars.length (encL a0.Vars)), .p (.sl a0.Mutexes.length (encL a0.Mutexes)), .p (.sl a0.Conds.length (encL a0.Conds)), .p (.sl a0.Funcs.length (encL a0.Funcs)), .p (.sl a0.Threads.length (encL a0.Threads))]) ∧ σ.hp (.o 2 5 0) = some (.cells [.p (.c (.int .i64 v.2.1)), .p (.c (.int .i64 v.2.2))]) ∧ (σ1.gen + 1) ≤ σ.gen) (by rfl) (fun Q hK24 hX25 => ?_) (fun v σ3 hp => ?_)
    · repeat (first | simp [h2_1, h2_5, h2_6, g2_0, g2_1, n2_0, n2_1] | with_reducible refine awp_reg ?_ | with_reducible refine And.intro (by omega) ?_ | with_reducible refine optF_if (by omega) ?_)
      refine condK_spec (eqI i6 0) (by first | rfl | (simp [h2_1, h2_5, h2_6, g2_0, g2_1, n2_0, n2_1]; done) | (simp [andB, orB, eqI, ltI, Int.natCast_inj, h2_1, h2_5, h2_6, g2_0, g2_1, n2_0, n2_1]; done)) (fun h26 => ?_) (fun h26 => ?_)
      · replace e22 := condT h26 e22
        repeat (first | simp [h2_1, h2_5, h2_6, g2_0, g2_1, n2_0, n2_1] | with_reducible refine awp_reg ?_ | with_reducible refine And.intro (by omega) ?_ | with_reducible refine optF_if (by omega) ?_)
        obtain ⟨y27, hx28, e22⟩ := bindO e22
        try dsimp only at e22
        refine callK_pure (at_program_checkCode hx28) (by (first | simp [h2_1, h2_5, h2_6, g2_0, g2_1, n2_0, n2_1] | simp (disch := omega) [h2_1, h2_5, h2_6, g2_0, g2_1, n2_0, n2_1]); try rfl) (by simp) (by simp) ?_
        repeat (first | simp [h2_1, h2_5, h2_6, g2_0, g2_1, n2_0, n2_1] | with_reducible refine awp_reg ?_ | with_reducible refine And.intro (by omega) ?_ | with_reducible refine optF_if (by omega) ?_)
        exact hK24 (y27.1, y27.2.fn, y27.2.inst) _ _ (Gh.refl _) ⟨e22, by simp [St.frz, St.pur, h2_1, h2_5, h2_6, g2_0, g2_1, n2_0, n2_1], by simp [St.frz, St.pur, h2_1, h2_5, h2_6, g2_0, g2_1, n2_0, n2_1], by simp [St.frz, St.pur, h2_1, h2_5, h2_6, g2_0, g2_1, n2_0, n2_1], by simp [St.frz, St.pur, h2_1, h2_5, h2_6, g2_0, g2_1, n2_0, n2_1], by simp [St.frz, St.pur, h2_1, h2_5, h2_6, g2_0, g2_1, n2_0, n2_1], by first | (simp; done) | (simp; omega) | omega⟩
      · replace e22 := condF h26 e22
        repeat (first | simp [h2_1, h2_5, h2_6, g2_0, g2_1, n2_0, n2_1] | with_reducible refine awp_reg ?_ | with_reducible refine And.intro (by omega) ?_ | with_reducible refine optF_if (by omega) ?_)
        exact hK24 (i6, i7, i8) _ _ (Gh.refl _) ⟨e22, by simp [St.frz, St.pur, h2_1, h2_5, h2_6, g2_0, g2_1, n2_0, n2_1], by simp [St.frz, St.pur, h2_1, h2_5, h2_6, g2_0, g2_1, n2_0, n2_1], by simp [St.frz, St.pur, h2_1, h2_5, h2_6, g2_0, g2_1, n2_0, n2_1], by simp [St.frz, St.pur, h2_1, h2_5, h2_6, g2_0, g2_1, n2_0, n2_1], by simp [St.frz, St.pur, h2_1, h2_5, h2_6, g2_0, g2_1, n2_0, n2_1], by first | (simp; done) | (simp; omega) | omega⟩
    · obtain ⟨i19, i20, i21⟩ := v
      dsimp only at hp
      obtain ⟨e22, h4_1, h4_5, h4_6, g4_0, g4_1, n4_g⟩ := hp
      obtain rfl := Option.some.inj e22
      try dsimp only at hs
      have n4_0 : ¬ (σ3.gen = 0) := by omega
      have n4_1 : ¬ (σ3.gen = 1) := by omega
      repeat (first | simp [h4_1, h4_5, h4_6, g4_0, g4_1, n4_0, n4_1] | with_reducible refine awp_reg ?_ | with_reducible refine And.intro (by omega) ?_ | with_reducible refine optF_if (by omega) ?_)
      refine condK_spec (eqI i19 0) (by first | rfl | (simp [h4_1, h4_5, h4_6, g4_0, g4_1, n4_0, n4_1]; done) | (simp [andB, orB, eqI, ltI, Int.natCast_inj, h4_1, h4_5, h4_6, g4_0, g4_1, n4_0, n4_1]; done)) (fun h29 => ?_) (fun h29 => ?_)
      · replace hs := condT h29 hs
        repeat (first | simp [h4_1, h4_5, h4_6, g4_0, g4_1, n4_0, n4_1] | with_reducible refine awp_reg ?_ | with_reducible refine And.intro (by omega) ?_ | with_reducible refine optF_if (by omega) ?_)
        obtain ⟨y30, hx31, hs⟩ := bindO hs
        try dsimp only at hs
        refine callK_pure (at_program_checkThreads hx31) (by (first | simp [h4_1, h4_5, h4_6, g4_0, g4_1, n4_0, n4_1] | simp (disch := omega) [h4_1, h4_5, h4_6, g4_0, g4_1, n4_0, n4_1]); try rfl) (by simp) (by simp) ?_
        repeat (first | simp [h4_1, h4_5, h4_6, g4_0, g4_1, n4_0, n4_1] | with_reducible refine awp_reg ?_ | with_reducible refine And.intro (by omega) ?_ | with_reducible refine optF_if (by omega) ?_)
        refine condK_spec (!(eqI y30.1 0)) (by first | rfl | (simp [h4_1, h4_5, h4_6, g4_0, g4_1, n4_0, n4_1]; done) | (simp [andB, orB, eqI, ltI, Int.natCast_inj, h4_1, h4_5, h4_6, g4_0, g4_1, n4_0, n4_1]; done)) (fun h32 => ?_) (fun h32 => ?_)
        · replace hs := condT h32 hs
          repeat (first | simp [h4_1, h4_5, h4_6, g4_0, g4_1, n4_0, n4_1] | with_reducible refine awp_reg ?_ | with_reducible refine awp_draw ?_ | with_reducible refine ord_l (by kernel_rfl) ?_ | with_reducible refine ord_e (by kernel_rfl) ?_ | with_reducible refine ord_c (by kernel_rfl) ?_ | with_reducible refine ord_d (by kernel_rfl) ?_ | with_reducible refine And.intro (by omega) ?_ | with_reducible refine optF_if (by omega) ?_)
          obtain rfl := Option.some.inj hs
          refine hQ _ _ (ret2g _ (Gh.refl _) (by simp [St.frz, St.pur, h4_1, h4_5, h4_6, g4_0, g4_1, n4_0, n4_1]; rfl) (by first | rfl | (simp [St.frz, St.pur, h4_1, h4_5, h4_6, g4_0, g4_1, n4_0, n4_1]; done) | (rw [if_pos (by first | omega | (simp; omega))]; simp [St.frz, St.pur, h4_1, h4_5, h4_6, g4_0, g4_1, n4_0, n4_1]; first | omega | exact List.take_of_length_le (by simp; omega) | skip)) (by simp))
        · replace hs := condF h32 hs
          repeat (first | simp [h4_1, h4_5, h4_6, g4_0, g4_1, n4_0, n4_1] | with_reducible refine awp_reg ?_ | with_reducible refine And.intro (by omega) ?_ | with_reducible refine optF_if (by omega) ?_)
          obtain rfl := Option.some.inj hs
          refine hQ _ _ (ret2g _ (Gh.refl _) (by simp [St.frz, St.pur, h4_1, h4_5, h4_6, g4_0, g4_1, n4_0, n4_1]; rfl) (by first | rfl | (simp [St.frz, St.pur, h4_1, h4_5, h4_6, g4_0, g4_1, n4_0, n4_1]; done) | (rw [if_pos (by first | omega | (simp; omega))]; simp [St.frz, St.pur, h4_1, h4_5, h4_6, g4_0, g4_1, n4_0, n4_1]; first | omega | exact List.take_of_length_le (by simp; omega) | skip)) (by simp))
      · replace hs := condF h29 hs
        repeat (first | simp [h4_1, h4_5, h4_6, g4_0, g4_1, n4_0, n4_1] | with_reducible refine awp_reg ?_ | with_reducible refine And.intro (by omega) ?_ | with_reducible refine optF_if (by omega) ?_)
        refine condK_spec (!(eqI i19 0)) (by first | rfl | (simp [h4_1, h4_5, h4_6, g4_0, g4_1, n4_0, n4_1]; done) | (simp [andB, orB, eqI, ltI, Int.natCast_inj, h4_1, h4_5, h4_6, g4_0, g4_1, n4_0, n4_1]; done)) (fun h33 => ?_) (fun h33 => ?_)
        · replace hs := condT h33 hs
          repeat (first | simp [h4_1, h4_5, h4_6, g4_0, g4_1, n4_0, n4_1] | with_reducible refine awp_reg ?_ | with_reducible refine awp_draw ?_ | with_reducible refine ord_l (by kernel_rfl) ?_ | with_reducible refine ord_e (by kernel_rfl) ?_ | with_reducible refine ord_c (by kernel_rfl) ?_ | with_reducible refine ord_d (by kernel_rfl) ?_ | with_reducible refine And.intro (by omega) ?_ | with_reducible refine optF_if (by omega) ?_)
          obtain rfl := Option.some.inj hs
          refine hQ _ _ (ret2g _ (Gh.refl _) (by simp [St.frz, St.pur, h4_1, h4_5, h4_6, g4_0, g4_1, n4_0, n4_1]; rfl) (by first | rfl | (simp [St.frz, St.pur, h4_1, h4_5, h4_6, g4_0, g4_1, n4_0, n4_1]; done) | (rw [if_pos (by first | omega | (simp; omega))]; simp [St.frz, St.pur, h4_1, h4_5, h4_6, g4_0, g4_1, n4_0, n4_1]; first | omega | exact List.take_of_length_le (by simp; omega) | skip)) (by simp))
        · replace hs := condF h33 hs
          repeat (first | simp [h4_1, h4_5, h4_6, g4_0, g4_1, n4_0, n4_1] | with_reducible refine awp_reg ?_ | with_reducible refine And.intro (by omega) ?_ | with_reducible refine optF_if (by omega) ?_)
          obtain rfl := Option.some.inj hs
          refine hQ _ _ (ret2g _ (Gh.refl _) (by simp [St.frz, St.pur, h4_1, h4_5, h4_6, g4_0, g4_1, n4_0, n4_1]; rfl) (by first | rfl | (simp [St.frz, St.pur, h4_1, h4_5, h4_6, g4_0, g4_1, n4_0, n4_1]; done) | (rw [if_pos (by first | omega | (simp; omega))]; simp [St.frz, St.pur, h4_1, h4_5, h4_6, g4_0, g4_1, n4_0, n4_1]; first | omega | exact List.take_of_length_le (by simp; omega) | skip)) (by simp))
end Go.Dc
end
section
set_option linter.all false
namespace Go.Dc
open Go Go.Hw Go.Proofs
set_option maxRecDepth 100000

def await_spins_1 (a0 : Inst) (a1 : Inst) (a2 : Inst) (a3 : Int) : Option Bool :=
  some (andB (andB (andB (andB (eqI a0.Op 8) (eqI a1.Op 3)) (eqI a2.Op 5)) (eqI a2.B a1.A)) (eqI a2.N a3))

set_option maxHeartbeats 2000000 in
theorem at_await_spins_1 {a0 : Inst} {a1 : Inst} {a2 : Inst} {a3 : Int} {r : Bool} (hs : await_spins_1 a0 a1 a2 a3 = some r) : At Tryd.prog 87 [.cell (.ep [.c (.int .i64 a0.Op), .c (.int .i64 a0.A), .c (.int .i64 a0.B), .c (.int .i64 a0.C), .c (.int .i64 a0.Obj), .c (.int .i64 a0.N), .c (.int .i64 a0.Fn), .c (.int .i64 a0.Order)] 0), .cell (.ep [.c (.int .i64 a1.Op), .c (.int .i64 a1.A), .c (.int .i64 a1.B), .c (.int .i64 a1.C), .c (.int .i64 a1.Obj), .c (.int .i64 a1.N), .c (.int .i64 a1.Fn), .c (.int .i64 a1.Order)] 0), .cell (.ep [.c (.int .i64 a2.Op), .c (.int .i64 a2.A), .c (.int .i64 a2.B), .c (.int .i64 a2.C), .c (.int .i64 a2.Obj), .c (.int .i64 a2.N), .c (.int .i64 a2.Fn), .c (.int .i64 a2.Order)] 0), .cell (.ep [.c (.int .i64 a3)] 0)] (bV r) := by
  refine at_bound (by kernel_rfl) fun hb => ?_
  refine at_code mixed Tryd.func87 (by kernel_rfl) rfl (by kernel_rfl) rfl fun Q hQ => ?_
  rw [await_spins_1] at hs
  repeat (first | simp | with_reducible refine awp_reg ?_ | with_reducible refine gsel_pure (by with_unfolding_all rfl) _ (fun hg => by (try simp at hg); first | (simp [hg]; rfl) | (simp; simp only [if_pos hg]; simp; rfl)) ?_)
  obtain rfl := Option.some.inj hs
  refine hQ _ _ (ret2g _ (Gh.refl _) (by simp [St.frz, St.pur]; rfl) (by first | rfl | (simp [St.frz, St.pur]; done) | (rw [if_pos (by first | omega | (simp; omega))]; simp [St.frz, St.pur]; first | omega | exact List.take_of_length_le (by simp; omega) | skip)) (by simp))
end Go.Dc
end
section
set_option linter.all false
namespace Go.Dc
open Go Go.Hw Go.Proofs
set_option maxRecDepth 100000

def await_spins_2 (a0 : Inst) (a1 : Int) (a2 : Int) : Option Bool :=
  some (andB (andB (!(eqB (eqI a0.B a1) (eqI a0.C a1))) (!(eqI a2 a0.A))) (orB (orB (eqI a0.Fn 7) (eqI a0.Fn 8)) (andB (eqI a0.C a1) (orB (eqI a0.Fn 9) (eqI a0.Fn 10)))))

set_option maxHeartbeats 2000000 in
theorem at_await_spins_2 {a0 : Inst} {a1 : Int} {a2 : Int} {r : Bool} (hs : await_spins_2 a0 a1 a2 = some r) : At Tryd.prog 88 [.cell (.ep [.c (.int .i64 a0.Op), .c (.int .i64 a0.A), .c (.int .i64 a0.B), .c (.int .i64 a0.C), .c (.int .i64 a0.Obj), .c (.int .i64 a0.N), .c (.int .i64 a0.Fn), .c (.int .i64 a0.Order)] 0), .cell (.ep [.c (.int .i64 a1)] 0), .cell (.ep [.c (.int .i64 a2)] 0)] (bV r) := by
  refine at_bound (by kernel_rfl) fun hb => ?_
  refine at_code mixed Tryd.func88 (by kernel_rfl) rfl (by kernel_rfl) rfl fun Q hQ => ?_
  rw [await_spins_2] at hs
  repeat (first | simp | with_reducible refine awp_reg ?_ | with_reducible refine gsel_pure (by with_unfolding_all rfl) _ (fun hg => by (try simp at hg); first | (simp [hg]; rfl) | (simp; simp only [if_pos hg]; simp; rfl)) ?_)
  obtain rfl := Option.some.inj hs
  refine hQ _ _ (ret2g _ (Gh.refl _) (by simp [St.frz, St.pur]; rfl) (by first | rfl | (simp [St.frz, St.pur]; done) | (rw [if_pos (by first | omega | (simp; omega))]; simp [St.frz, St.pur]; first | omega | exact List.take_of_length_le (by simp; omega) | skip)) (by simp))
end Go.Dc
end
section
set_option linter.all false
namespace Go.Dc
open Go Go.Hw Go.Proofs
set_option maxRecDepth 100000
def await_targeted_L1 (a1 : Int) : List Inst → Nat → Option (Unit ⊕ Bool)
  | [], k38 => some (.inl ())
  | x54 :: q50, k38 => cond (andB (orB (eqI x54.Op 4) (eqI x54.Op 5)) (eqI x54.N a1)) (some (.inr true)) (await_targeted_L1 a1 q50 (k38 + 1))

def await_targeted (a0 : Func) (a1 : Int) : Option Bool :=
  Option.bind (α := Unit ⊕ Bool) (Option.bind (await_targeted_L1 a1 a0.Code 0) (fun o => match o with | .inl _ => some (.inl ()) | .inr r58 => some (.inr r58))) (fun o => match o with | .inl _ => some false | .inr r59 => some r59)

set_option maxHeartbeats 2000000 in
theorem at_await_targeted {a0 : Func} {a1 : Int} {r : Bool} (hs : await_targeted a0 a1 = some r) : At Tryd.prog 89 [.agg [.p (.c (.string a0.Name)), .p (.sl a0.Code.length (encL a0.Code))], iV .i64 a1] (bV r) := by
  refine at_bound (by kernel_rfl) fun hb => ?_
  have hb1 : LenOk (.sl a0.Code.length (encL a0.Code)) := hb (.agg [.p (.c (.string a0.Name)), .p (.sl a0.Code.length (encL a0.Code))]) (by simp) (.p (.sl a0.Code.length (encL a0.Code))) (by simp)
  refine at_code mixed Tryd.func89 (by kernel_rfl) rfl (by kernel_rfl) rfl fun Q hQ => ?_
  rw [await_targeted] at hs
  repeat (first | simp [-awp_cond_eq, -awp_block_eq] | with_reducible refine awp_reg ?_ | with_reducible refine And.intro (by omega) ?_ | with_reducible refine optF_if (by omega) ?_)
  obtain ⟨o29, e28, hs⟩ := bindO hs
  try dsimp only at hs
  refine awp_cutK (fun (v : Unit) (σ : St) => some (.inl v) = some o29 ∧ 2 ≤ σ.gen) (by rfl) (fun Q hK30 hX31 => ?_) (fun v σ3 hp => ?_)
  · repeat (first | simp | with_reducible refine awp_reg ?_ | with_reducible refine And.intro (by omega) ?_ | with_reducible refine optF_if (by omega) ?_)
    obtain ⟨o45, e44, e28⟩ := bindO e28
    try dsimp only at e28
    refine awp_loopW (fun (v : (List Inst) × Nat) (σ : St) => await_targeted_L1 a1 v.1 v.2 = some o45 ∧ v.1 = a0.Code.drop v.2 ∧ σ.env 1 = iV .i64 a1 ∧ σ.env 8 = .cell (.p (.sl a0.Code.length (encL a0.Code))) ∧ σ.env 9 = iV .i64 ((a0.Code.length : Nat) : Int) ∧ σ.env 10 = iV .i64 ((v.2 : Nat) : Int) ∧ 2 ≤ σ.gen) (fun v => v.1.length) _ (Gh.refl _) (a0.Code, 0) ⟨e44, by simp, by simp [St.frz, St.pur], by simp [St.frz, St.pur], by simp [St.frz, St.pur], by simp [St.frz, St.pur], by first | (simp; done) | (simp; omega) | omega⟩ fun v σ6 hp L46 hL47 => ?_
    obtain ⟨q49, k38⟩ := v
    dsimp only at hp hL47
    obtain ⟨e44, hd48, h5_1, h5_8, h5_9, h5_10, n5_g⟩ := hp
    rcases q49 with _ | ⟨x54, q50⟩
    · have hlt51 := drop_end hd48
      rw [await_targeted_L1] at e44; try dsimp only at e44
      repeat (first | simp [h5_1, h5_8, h5_9, h5_10] | with_reducible refine awp_reg ?_)
      refine condK_f (by simp [ltI]; omega) ?_
      obtain rfl := Option.some.inj e44
      try dsimp only at e28
      exact hK30 () _ _ (Gh.refl _) ⟨e28, by first | (simp; done) | (simp; omega) | omega⟩
    · obtain ⟨hx53, hlt51, hd55⟩ := drop_next hd48
      have ew52 := wrap_succ hlt51 (hb1).len
      rw [await_targeted_L1] at e44; try dsimp only at e44
      repeat (first | simp [h5_1, h5_8, h5_9, h5_10, hlt51, ew52] | with_reducible refine awp_reg ?_)
      refine condK_t (by simp [ltI]; omega) ?_
      have f56 : partCV Tryd.prog 71 (encL a0.Code) (k38 * 8) = some (.agg [.p (.c (.int .i64 x54.Op)), .p (.c (.int .i64 x54.A)), .p (.c (.int .i64 x54.B)), .p (.c (.int .i64 x54.C)), .p (.c (.int .i64 x54.Obj)), .p (.c (.int .i64 x54.N)), .p (.c (.int .i64 x54.Fn)), .p (.c (.int .i64 x54.Order))]) := partCV_enc hx53 (f := 0) (by simp)
      repeat (first | simp [h5_1, h5_8, h5_9, h5_10, hlt51, ew52, f56] | with_reducible refine awp_reg ?_ | with_reducible refine And.intro (by omega) ?_ | with_reducible refine optF_if (by omega) ?_ | with_reducible refine gsel_pure (by with_unfolding_all rfl) _ (fun hg => by (try simp at hg); first | (simp [hg, h5_1, h5_8, h5_9, h5_10, hlt51, ew52, f56]; rfl) | (simp [h5_1, h5_8, h5_9, h5_10, hlt51, ew52, f56]; simp only [if_pos hg]; simp [h5_1, h5_8, h5_9, h5_10, hlt51, ew52, f56]; rfl)) ?_)
      refine condK_spec (andB (orB (eqI x54.Op 4) (eqI x54.Op 5)) (eqI x54.N a1)) (by first | rfl | (simp [h5_1, h5_8, h5_9, h5_10, hlt51, ew52, f56]; done) | (simp [andB, orB, eqI, ltI, Int.natCast_inj, h5_1, h5_8, h5_9, h5_10, hlt51, ew52, f56]; done)) (fun h57 => ?_) (fun h57 => ?_)
      · replace e44 := condT h57 e44
        repeat (first | simp [h5_1, h5_8, h5_9, h5_10, hlt51, ew52, f56] | with_reducible refine awp_reg ?_ | with_reducible refine And.intro (by omega) ?_ | with_reducible refine optF_if (by omega) ?_ | with_reducible refine gsel_pure (by with_unfolding_all rfl) _ (fun hg => by (try simp at hg); first | (simp [hg, h5_1, h5_8, h5_9, h5_10, hlt51, ew52, f56]; rfl) | (simp [h5_1, h5_8, h5_9, h5_10, hlt51, ew52, f56]; simp only [if_pos hg]; simp [h5_1, h5_8, h5_9, h5_10, hlt51, ew52, f56]; rfl)) ?_)
        obtain rfl := Option.some.inj e44
        try dsimp only at e28
        obtain rfl := Option.some.inj e28
        try dsimp only at hs
        refine hX31 _ _ (by simp) ?_
        repeat (first | simp [h5_1, h5_8, h5_9, h5_10, hlt51, ew52, f56] | with_reducible refine awp_reg ?_ | with_reducible refine And.intro (by omega) ?_ | with_reducible refine optF_if (by omega) ?_ | with_reducible refine gsel_pure (by with_unfolding_all rfl) _ (fun hg => by (try simp at hg); first | (simp [hg, h5_1, h5_8, h5_9, h5_10, hlt51, ew52, f56]; rfl) | (simp [h5_1, h5_8, h5_9, h5_10, hlt51, ew52, f56]; simp only [if_pos hg]; simp [h5_1, h5_8, h5_9, h5_10, hlt51, ew52, f56]; rfl)) ?_)
        obtain rfl := Option.some.inj hs
        refine hQ _ _ (ret2g _ (Gh.refl _) (by simp [St.frz, St.pur, h5_1, h5_8, h5_9, h5_10, hlt51, ew52, f56]; rfl) (by first | rfl | (simp [St.frz, St.pur, h5_1, h5_8, h5_9, h5_10, hlt51, ew52, f56]; done) | (rw [if_pos (by first | omega | (simp; omega))]; simp [St.frz, St.pur, h5_1, h5_8, h5_9, h5_10, hlt51, ew52, f56]; first | omega | exact List.take_of_length_le (by simp; omega) | skip)) (by simp))
      · replace e44 := condF h57 e44
        repeat (first | simp [h5_1, h5_8, h5_9, h5_10, hlt51, ew52, f56] | with_reducible refine awp_reg ?_ | with_reducible refine And.intro (by omega) ?_ | with_reducible refine optF_if (by omega) ?_ | with_reducible refine gsel_pure (by with_unfolding_all rfl) _ (fun hg => by (try simp at hg); first | (simp [hg, h5_1, h5_8, h5_9, h5_10, hlt51, ew52, f56]; rfl) | (simp [h5_1, h5_8, h5_9, h5_10, hlt51, ew52, f56]; simp only [if_pos hg]; simp [h5_1, h5_8, h5_9, h5_10, hlt51, ew52, f56]; rfl)) ?_)
        exact hL47 (q50, (k38 + 1)) _ _ (Gh.refl _) ⟨e44, hd55, by simp [St.frz, St.pur, h5_1, h5_8, h5_9, h5_10, hlt51, ew52, f56], by simp [St.frz, St.pur, h5_1, h5_8, h5_9, h5_10, hlt51, ew52, f56], by simp [St.frz, St.pur, h5_1, h5_8, h5_9, h5_10, hlt51, ew52, f56], by simp [St.frz, St.pur, h5_1, h5_8, h5_9, h5_10, hlt51, ew52, f56], by first | (simp; done) | (simp; omega) | omega⟩ (by simp)
  · obtain ⟨e28, n4_g⟩ := hp
    obtain rfl := Option.some.inj e28
    try dsimp only at hs
    repeat (first | simp | with_reducible refine awp_reg ?_ | with_reducible refine And.intro (by omega) ?_ | with_reducible refine optF_if (by omega) ?_)
    obtain rfl := Option.some.inj hs
    refine hQ _ _ (ret2g _ (Gh.refl _) (by simp [St.frz, St.pur]; rfl) (by first | rfl | (simp [St.frz, St.pur]; done) | (rw [if_pos (by first | omega | (simp; omega))]; simp [St.frz, St.pur]; first | omega | exact List.take_of_length_le (by simp; omega) | skip)) (by simp))
end Go.Dc
end
section
set_option linter.all false
namespace Go.Dc
open Go Go.Hw Go.Proofs
set_option maxRecDepth 100000

def await_condition (a0 : Int) : Option Int :=
  cond (eqI a0 7) (some 8) (cond (eqI a0 8) (some 7) (cond (eqI a0 9) (some 10) (some 9)))

set_option maxHeartbeats 2000000 in
theorem at_await_condition {a0 : Int} {r : Int} (hs : await_condition a0 = some r) : At Tryd.prog 90 [iV .i64 a0] (iV .i64 r) := by
  refine at_bound (by kernel_rfl) fun hb => ?_
  refine at_code mixed Tryd.func90 (by kernel_rfl) rfl (by kernel_rfl) rfl fun Q hQ => ?_
  rw [await_condition] at hs
  repeat (first | simp | with_reducible refine awp_reg ?_)
  refine condK_spec (eqI a0 7) (by first | rfl | (simp; done) | (simp [andB, orB, eqI, ltI, Int.natCast_inj]; done)) (fun h1 => ?_) (fun h1 => ?_)
  · replace hs := condT h1 hs
    repeat (first | simp | with_reducible refine awp_reg ?_)
    obtain rfl := Option.some.inj hs
    refine hQ _ _ (ret2g _ (Gh.refl _) (by simp [St.frz, St.pur]; rfl) (by first | rfl | (simp [St.frz, St.pur]; done) | (rw [if_pos (by first | omega | (simp; omega))]; simp [St.frz, St.pur]; first | omega | exact List.take_of_length_le (by simp; omega) | skip)) (by simp))
  · replace hs := condF h1 hs
    repeat (first | simp | with_reducible refine awp_reg ?_)
    refine condK_spec (eqI a0 8) (by first | rfl | (simp; done) | (simp [andB, orB, eqI, ltI, Int.natCast_inj]; done)) (fun h2 => ?_) (fun h2 => ?_)
    · replace hs := condT h2 hs
      repeat (first | simp | with_reducible refine awp_reg ?_)
      obtain rfl := Option.some.inj hs
      refine hQ _ _ (ret2g _ (Gh.refl _) (by simp [St.frz, St.pur]; rfl) (by first | rfl | (simp [St.frz, St.pur]; done) | (rw [if_pos (by first | omega | (simp; omega))]; simp [St.frz, St.pur]; first | omega | exact List.take_of_length_le (by simp; omega) | skip)) (by simp))
    · replace hs := condF h2 hs
      repeat (first | simp | with_reducible refine awp_reg ?_)
      refine condK_spec (eqI a0 9) (by first | rfl | (simp; done) | (simp [andB, orB, eqI, ltI, Int.natCast_inj]; done)) (fun h3 => ?_) (fun h3 => ?_)
      · replace hs := condT h3 hs
        repeat (first | simp | with_reducible refine awp_reg ?_)
        obtain rfl := Option.some.inj hs
        refine hQ _ _ (ret2g _ (Gh.refl _) (by simp [St.frz, St.pur]; rfl) (by first | rfl | (simp [St.frz, St.pur]; done) | (rw [if_pos (by first | omega | (simp; omega))]; simp [St.frz, St.pur]; first | omega | exact List.take_of_length_le (by simp; omega) | skip)) (by simp))
      · replace hs := condF h3 hs
        repeat (first | simp | with_reducible refine awp_reg ?_)
        obtain rfl := Option.some.inj hs
        refine hQ _ _ (ret2g _ (Gh.refl _) (by simp [St.frz, St.pur]; rfl) (by first | rfl | (simp [St.frz, St.pur]; done) | (rw [if_pos (by first | omega | (simp; omega))]; simp [St.frz, St.pur]; first | omega | exact List.take_of_length_le (by simp; omega) | skip)) (by simp))
end Go.Dc
end
