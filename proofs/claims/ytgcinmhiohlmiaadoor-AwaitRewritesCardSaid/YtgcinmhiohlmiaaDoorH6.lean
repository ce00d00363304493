/- Contracts of functions, by their numbers, and the laws that walk them. Conditions: as each states. -/
import Derived.Test.YtgcinmhiohlmiaaDoorH3
import Derived.Test.YtgcinmhiohlmiaaDoorH5
import Derived.Test.YtgcinmhiohlmiaaDoorH4
import Derived.Test.YtgcinmhiohlmiaaDoorRows
import Derived.LaidMore
import Derived.MakeChecks
set_option linter.all false
section
set_option linter.all false
namespace Go.Dc
open Go Go.Hw Go.Proofs
set_option maxRecDepth 100000
def r14_Find_L2 (a0 : Program) (i750 : Int) : Nat → (List Spin) → Int → Option (List Spin)
  | 0, _, _ => none
  | q980 + 1, l958, i959 => Option.bind (getI a0.Funcs i750) (fun x984 => cond (ltI i959 ((x984.Code.length : Nat) : Int)) (Option.bind (r14_Condition x984 i959) (fun y989 => cond y989.2 (Option.bind (some ([({ Func := i750, First := i959, Last := IntKind.i64.wrap (i959 + 2) } : Spin)])) (fun l992 => guardO (limB 24 (l958.length + l992.length)) (Option.bind (some (l958 ++ l992)) (fun l995 => r14_Find_L2 a0 i750 q980 l995 (IntKind.i64.wrap (i959 + 1)))))) (r14_Find_L2 a0 i750 q980 l958 (IntKind.i64.wrap (i959 + 1))))) (some (l958)))

def r14_Find_L1 (fuelN : Nat) (a0 : Program) : Nat → (List Spin) → Int → Option (List Spin)
  | 0, _, _ => none
  | q879 + 1, l749, i750 => cond (ltI i750 ((a0.Funcs.length : Nat) : Int)) (Option.bind (α := (List Spin)) (Option.bind (r14_Find_L2 a0 i750 fuelN l749 0) (fun l973 => some (l973))) (fun l938 => r14_Find_L1 fuelN a0 q879 l938 (IntKind.i64.wrap (i750 + 1)))) (some (l749))

def r14_Find (fuelN : Nat) (a0 : Program) : Option ((List Spin) × Int) :=
  Option.bind (r08_Check fuelN a0) (fun y1 => cond (!(eqI y1.1 0)) (some ([], y1.1)) (Option.bind (α := (List Spin)) (Option.bind (r14_Find_L1 fuelN a0 fuelN [] 0) (fun l872 => some (l872))) (fun l498 => some (l498, 0))))

set_option maxHeartbeats 2000000 in
theorem at_r14_Find {fuelN : Nat} {a0 : Program} {r : (List Spin) × Int} (hs : r14_Find fuelN a0 = some r) : At Tryd.prog 37 [.agg [.p (.sl a0.Vars.length (encL a0.Vars)), .p (.sl a0.Mutexes.length (encL a0.Mutexes)), .p (.sl a0.Conds.length (encL a0.Conds)), .p (.sl a0.Funcs.length (encL a0.Funcs)), .p (.sl a0.Threads.length (encL a0.Threads))]] (.tup [.cell (.p (.sl r.1.length (encL r.1))), iV .i64 r.2]) := by
  refine at_bound (by kernel_rfl) fun hb => ?_
  have hb1 : LenOk (.sl a0.Vars.length (encL a0.Vars)) := hb (.agg [.p (.sl a0.Vars.length (encL a0.Vars)), .p (.sl a0.Mutexes.length (encL a0.Mutexes)), .p (.sl a0.Conds.length (encL a0.Conds)), .p (.sl a0.Funcs.length (encL a0.Funcs)), .p (.sl a0.Threads.length (encL a0.Threads))]) (by simp) (.p (.sl a0.Vars.length (encL a0.Vars))) (by simp)
  have hb2 : LenOk (.sl a0.Mutexes.length (encL a0.Mutexes)) := hb (.agg [.p (.sl a0.Vars.length (encL a0.Vars)), .p (.sl a0.Mutexes.length (encL a0.Mutexes)), .p (.sl a0.Conds.length (encL a0.Conds)), .p (.sl a0.Funcs.length (encL a0.Funcs)), .p (.sl a0.Threads.length (encL a0.Threads))]) (by simp) (.p (.sl a0.Mutexes.length (encL a0.Mutexes))) (by simp)
  have hb3 : LenOk (.sl a0.Conds.length (encL a0.Conds)) := hb (.agg [.p (.sl a0.Vars.length (encL a0.Vars)), .p (.sl a0.Mutexes.length (encL a0.Mutexes)), .p (.sl a0.Conds.length (encL a0.Conds)), .p (.sl a0.Funcs.length (encL a0.Funcs)), .p (.sl a0.Threads.length (encL a0.Threads))]) (by simp) (.p (.sl a0.Conds.length (encL a0.Conds))) (by simp)
  have hb4 : LenOk (.sl a0.Funcs.length (encL a0.Funcs)) := hb (.agg [.p (.sl a0.Vars.length (encL a0.Vars)), .p (.sl a0.Mutexes.length (encL a0.Mutexes)), .p (.sl a0.Conds.length (encL a0.Conds)), .p (.sl a0.Funcs.length (encL a0.Funcs)), .p (.sl a0.Threads.length (encL a0.Threads))]) (by simp) (.p (.sl a0.Funcs.length (encL a0.Funcs))) (by simp)
  have hb5 : LenOk (.sl a0.Threads.length (encL a0.Threads)) := hb (.agg [.p (.sl a0.Vars.length (encL a0.Vars)), .p (.sl a0.Mutexes.length (encL a0.Mutexes)), .p (.sl a0.Conds.length (encL a0.Conds)), .p (.sl a0.Funcs.length (encL a0.Funcs)), .p (.sl a0.Threads.length (encL a0.Threads))]) (by simp) (.p (.sl a0.Threads.length (encL a0.Threads))) (by simp)
  refine at_code mixed Tryd.func37 (by kernel_rfl) rfl (by kernel_rfl) rfl fun Q hQ => ?_
  rw [r14_Find] at hs
  repeat (first | simp | with_reducible first | refine awp_reg ?_ | refine And.intro (by omega) ?_ | refine optF_if (by omega) ?_)
  obtain ⟨y1, hx2, hs⟩ := bindO hs
  try dsimp only at hs
  refine callK_pure (at_r08_Check hx2) (by (first | simp | simp (disch := omega) []); try rfl) (by simp) (by simp) ?_
  repeat (first | simp | with_reducible first | refine awp_reg ?_ | refine And.intro (by omega) ?_ | refine optF_if (by omega) ?_)
  refine condK_spec (!(eqI y1.1 0)) (by first | rfl | (simp; done) | (simp [andB, orB, eqI, ltI, Int.natCast_inj]; done)) (fun h3 => ?_) (fun h3 => ?_)
  · replace hs := condT h3 hs
    repeat (first | simp | with_reducible first | refine awp_reg ?_ | refine And.intro (by omega) ?_ | refine optF_if (by omega) ?_)
    obtain rfl := Option.some.inj hs
    refine hQ _ _ (ret2g _ (Gh.unz _) (by simp [St.frz, St.pur]; rfl) (by first | rfl | (simp [St.frz, St.pur]; done) | (rw [if_pos (by first | omega | (simp; omega))]; simp [St.frz, St.pur]; first | omega | exact List.take_of_length_le (by simp; omega) | skip)) (by simp))
  · replace hs := condF h3 hs
    repeat (first | simp [-awp_cond_eq, -awp_block_eq] | with_reducible first | refine awp_reg ?_ | refine And.intro (by omega) ?_ | refine optF_if (by omega) ?_)
    obtain ⟨o500, e499, hs⟩ := bindO hs
    try dsimp only at hs
    refine awp_cutK (fun (v : (List Spin)) (σ : St) => some (v) = some o500 ∧ σ.env 7 = .cell (.sl (.l 17) 0 3 v.length) ∧ σ.hp (.l 17) = some (.pure (encL v)) ∧ 5 ≤ σ.gen) (by rfl) (fun Q hK501 hX502 => ?_) (fun l498 σ27 hp => ?_)
    · repeat (first | simp | with_reducible first | refine awp_reg ?_ | refine And.intro (by omega) ?_ | refine optF_if (by omega) ?_)
      obtain ⟨o874, e873, e499⟩ := bindO e499
      try dsimp only at e499
      refine awp_loopW (fun (v : Nat × (List Spin) × Int) (σ : St) => r14_Find_L1 fuelN a0 v.1 v.2.1 v.2.2 = some o874 ∧ σ.env 1 = .cell (.ref (.o 1 0 0) 0) ∧ σ.env 7 = .cell (.sl (.l 50) 0 3 v.2.1.length) ∧ σ.env 8 = iV .i64 v.2.2 ∧ σ.hp (.l 50) = some (.pure (encL v.2.1)) ∧ σ.hp (.o 1 0 0) = some (.cells [.p (.sl a0.Vars.length (encL a0.Vars)), .p (.sl a0.Mutexes.length (encL a0.Mutexes)), .p (.sl a0.Conds.length (encL a0.Conds)), .p (.sl a0.Funcs.length (encL a0.Funcs)), .p (.sl a0.Threads.length (encL a0.Threads))]) ∧ 5 ≤ σ.gen) (fun v => v.1) _ (Gh.void _ (.l 50) 7 3 rfl (by simp)) (fuelN, [], 0) ⟨e873, by simp [St.frz, St.pur], by simp [St.frz, St.pur], by simp [St.frz, St.pur], by simp [St.frz, St.pur], by simp [St.frz, St.pur], by first | (simp; done) | (simp; omega) | omega⟩ fun v σ48 hp L875 hL876 => ?_
      obtain ⟨q878, l749, i750⟩ := v
      dsimp only at hp hL876
      obtain ⟨e873, h47_1, h47_7, h47_8, g47_0, g47_1, n47_g⟩ := hp
      have n47_0 : ¬ (σ48.gen = 0) := by omega
      rcases q878 with _ | q879
      · rw [r14_Find_L1] at e873; cases e873
      · rw [r14_Find_L1] at e873; try dsimp only at e873
        repeat (first | simp [h47_1, h47_7, h47_8, g47_0, g47_1, n47_0] | with_reducible first | refine awp_reg ?_ | refine And.intro (by omega) ?_ | refine optF_if (by omega) ?_)
        refine condK_spec (ltI i750 ((a0.Funcs.length : Nat) : Int)) (by first | rfl | (simp [h47_1, h47_7, h47_8, g47_0, g47_1, n47_0]; done) | (simp [andB, orB, eqI, ltI, Int.natCast_inj, h47_1, h47_7, h47_8, g47_0, g47_1, n47_0]; done)) (fun h883 => ?_) (fun h883 => ?_)
        · replace e873 := condT h883 e873
          repeat (first | simp [-awp_cond_eq, -awp_block_eq, h47_1, h47_7, h47_8, g47_0, g47_1, n47_0] | with_reducible first | refine awp_reg ?_ | refine And.intro (by omega) ?_ | refine optF_if (by omega) ?_)
          obtain ⟨o940, e939, e873⟩ := bindO e873
          try dsimp only at e873
          refine awp_cutK (fun (v : (List Spin)) (σ : St) => some (v) = some o940 ∧ σ.env 1 = .cell (.ref (.o 1 0 0) 0) ∧ σ.env 7 = .cell (.sl (.l 60) 0 3 v.length) ∧ σ.env 8 = iV .i64 i750 ∧ σ.hp (.l 60) = some (.pure (encL v)) ∧ σ.hp (.o 1 0 0) = some (.cells [.p (.sl a0.Vars.length (encL a0.Vars)), .p (.sl a0.Mutexes.length (encL a0.Mutexes)), .p (.sl a0.Conds.length (encL a0.Conds)), .p (.sl a0.Funcs.length (encL a0.Funcs)), .p (.sl a0.Threads.length (encL a0.Threads))]) ∧ (σ48.gen + 1) ≤ σ.gen) (by rfl) (fun Q hK941 hX942 => ?_) (fun l938 σ51 hp => ?_)
          · repeat (first | simp [h47_1, h47_7, h47_8, g47_0, g47_1, n47_0] | with_reducible first | refine awp_reg ?_ | refine And.intro (by omega) ?_ | refine optF_if (by omega) ?_)
            obtain ⟨o975, e974, e939⟩ := bindO e939
            try dsimp only at e939
            refine awp_loopW (fun (v : Nat × (List Spin) × Int) (σ : St) => r14_Find_L2 a0 i750 v.1 v.2.1 v.2.2 = some o975 ∧ σ.env 1 = .cell (.ref (.o 1 0 0) 0) ∧ σ.env 7 = .cell (.sl (.l 64) 0 3 v.2.1.length) ∧ σ.env 8 = iV .i64 i750 ∧ σ.env 9 = iV .i64 v.2.2 ∧ σ.hp (.l 64) = some (.pure (encL v.2.1)) ∧ σ.hp (.o 1 0 0) = some (.cells [.p (.sl a0.Vars.length (encL a0.Vars)), .p (.sl a0.Mutexes.length (encL a0.Mutexes)), .p (.sl a0.Conds.length (encL a0.Conds)), .p (.sl a0.Funcs.length (encL a0.Funcs)), .p (.sl a0.Threads.length (encL a0.Threads))]) ∧ (σ48.gen + 2) ≤ σ.gen) (fun v => v.1) _ (Gh.ren _ (.l 50) (.l 64) (by simp) rfl rfl) (fuelN, l749, 0) ⟨e974, by simp [St.frz, St.pur, h47_1, h47_7, h47_8, g47_0, g47_1, n47_0], by simp [St.frz, St.pur, h47_1, h47_7, h47_8, g47_0, g47_1, n47_0], by simp [St.frz, St.pur, h47_1, h47_7, h47_8, g47_0, g47_1, n47_0], by simp [St.frz, St.pur, h47_1, h47_7, h47_8, g47_0, g47_1, n47_0], by simp [St.frz, St.pur, h47_1, h47_7, h47_8, g47_0, g47_1, n47_0], by simp [St.frz, St.pur, h47_1, h47_7, h47_8, g47_0, g47_1, n47_0], by first | (simp; done) | (simp; omega) | omega⟩ fun v σ54 hp L976 hL977 => ?_
            obtain ⟨q979, l958, i959⟩ := v
            dsimp only at hp hL977
            obtain ⟨e974, h53_1, h53_7, h53_8, h53_9, g53_0, g53_1, n53_g⟩ := hp
            have n53_0 : ¬ (σ54.gen = 0) := by omega
            rcases q979 with _ | q980
            · rw [r14_Find_L2] at e974; cases e974
            · rw [r14_Find_L2] at e974; try dsimp only at e974
              obtain ⟨x984, hx985, e974⟩ := bindO e974
              try dsimp only at e974
              obtain ⟨hx985a, hx985b, hx985c, hx985d⟩ := getI_some hx985
              have f986 : partCV Tryd.prog 22 (encL a0.Funcs) (((i750).toNat) * 2 + 1) = some (.cell (.p (.sl x984.Code.length (encL x984.Code)))) := partCV_enc hx985d (f := 1) (by simp)
              repeat (first | simp [h53_1, h53_7, h53_8, h53_9, g53_0, g53_1, n53_0, f986] | with_reducible first | refine awp_reg ?_ | refine And.intro (by omega) ?_ | refine optF_if (by omega) ?_)
              refine condK_spec (ltI i959 ((x984.Code.length : Nat) : Int)) (by first | rfl | (simp [h53_1, h53_7, h53_8, h53_9, g53_0, g53_1, n53_0, f986]; done) | (simp [andB, orB, eqI, ltI, Int.natCast_inj, h53_1, h53_7, h53_8, h53_9, g53_0, g53_1, n53_0, f986]; done)) (fun h987 => ?_) (fun h987 => ?_)
              · replace e974 := condT h987 e974
                have f988 : partCV Tryd.prog 24 (encL a0.Funcs) (((i750).toNat) * 2) = some (.agg [.p (.c (.string x984.Name)), .p (.sl x984.Code.length (encL x984.Code))]) := partCV_enc hx985d (f := 0) (by simp)
                repeat (first | simp [h53_1, h53_7, h53_8, h53_9, g53_0, g53_1, n53_0, f986, f988] | with_reducible first | refine awp_reg ?_ | refine And.intro (by omega) ?_ | refine optF_if (by omega) ?_)
                obtain ⟨y989, hx990, e974⟩ := bindO e974
                try dsimp only at e974
                refine callK_pure (at_r14_Condition hx990) (by (first | simp [h53_1, h53_7, h53_8, h53_9, g53_0, g53_1, n53_0, f986, f988] | simp (disch := omega) [h53_1, h53_7, h53_8, h53_9, g53_0, g53_1, n53_0, f986, f988]); try rfl) (by simp) (by simp) ?_
                repeat (first | simp [h53_1, h53_7, h53_8, h53_9, g53_0, g53_1, n53_0, f986, f988] | with_reducible first | refine awp_reg ?_ | refine And.intro (by omega) ?_ | refine optF_if (by omega) ?_)
                refine condK_spec y989.2 (by first | rfl | (simp [h53_1, h53_7, h53_8, h53_9, g53_0, g53_1, n53_0, f986, f988]; done) | (simp [andB, orB, eqI, ltI, Int.natCast_inj, h53_1, h53_7, h53_8, h53_9, g53_0, g53_1, n53_0, f986, f988]; done)) (fun h991 => ?_) (fun h991 => ?_)
                · replace e974 := condT h991 e974
                  obtain ⟨l992, hx993, e974⟩ := bindO e974
                  try dsimp only at e974
                  replace hx993 := (Option.some.inj hx993).symm
                  have hx993n : l992.length = 1 := by rw [hx993]; rfl
                  obtain ⟨g994, e974⟩ := guardO_some e974
                  have g994 := limB_t g994
                  obtain ⟨g994a, g994b⟩ := g994
                  obtain ⟨l995, hx996, e974⟩ := bindO e974
                  try dsimp only at e974
                  replace hx996 := (Option.some.inj hx996).symm
                  have hx996n : l995.length = (l958.length + l992.length) := by rw [hx996]; simp
                  have hx996e : encL l995 = encL l958 ++ encL l992 := by rw [hx996]; simp
                  repeat (first | simp [h53_1, h53_7, h53_8, h53_9, g53_0, g53_1, n53_0, f986, f988, hx993, hx996n, hx996e] | with_reducible first | refine awp_reg ?_ | refine And.intro (by omega) ?_ | refine optF_if (by omega) ?_)
                  refine hL977 (q980, l995, IntKind.i64.wrap (i959 + 1)) _ _ (Gh.ren _ (.o (σ54.gen + 4) 7 0) (.l 64) (by simp) rfl rfl) ⟨e974, ?_, ?_, ?_, ?_, ?_, ?_, by first | (simp; done) | (simp; omega) | omega⟩ (by omega) <;> simp [St.frz, St.pur, h53_1, h53_7, h53_8, h53_9, g53_0, g53_1, n53_0, f986, f988, hx993, hx996n, hx996e]
                · replace e974 := condF h991 e974
                  repeat (first | simp [h53_1, h53_7, h53_8, h53_9, g53_0, g53_1, n53_0, f986, f988] | with_reducible first | refine awp_reg ?_ | refine And.intro (by omega) ?_ | refine optF_if (by omega) ?_)
                  refine hL977 (q980, l958, IntKind.i64.wrap (i959 + 1)) _ _ (Gh.refl _) ⟨e974, ?_, ?_, ?_, ?_, ?_, ?_, by first | (simp; done) | (simp; omega) | omega⟩ (by omega) <;> simp [St.frz, St.pur, h53_1, h53_7, h53_8, h53_9, g53_0, g53_1, n53_0, f986, f988]
              · replace e974 := condF h987 e974
                repeat (first | simp [h53_1, h53_7, h53_8, h53_9, g53_0, g53_1, n53_0, f986] | with_reducible first | refine awp_reg ?_ | refine And.intro (by omega) ?_ | refine optF_if (by omega) ?_)
                obtain rfl := Option.some.inj e974
                try dsimp only at e939
                refine hK941 l958 _ _ (Gh.ren _ (.l 64) (.l 60) (by simp) rfl rfl) ⟨e939, ?_, ?_, ?_, ?_, ?_, by first | (simp; done) | (simp; omega) | omega⟩ <;> simp [St.frz, St.pur, h53_1, h53_7, h53_8, h53_9, g53_0, g53_1, n53_0, f986]
          · obtain ⟨e939, h52_1, h52_7, h52_8, g52_0, g52_1, n52_g⟩ := hp
            obtain rfl := Option.some.inj e939
            try dsimp only at e873
            have n52_0 : ¬ (σ51.gen = 0) := by omega
            repeat (first | simp [h52_1, h52_7, h52_8, g52_0, g52_1, n52_0] | with_reducible first | refine awp_reg ?_ | refine And.intro (by omega) ?_ | refine optF_if (by omega) ?_)
            refine hL876 (q879, l938, IntKind.i64.wrap (i750 + 1)) _ _ (Gh.ren _ (.l 60) (.l 50) (by simp) rfl rfl) ⟨e873, ?_, ?_, ?_, ?_, ?_, by first | (simp; done) | (simp; omega) | omega⟩ (by omega) <;> simp [St.frz, St.pur, h52_1, h52_7, h52_8, g52_0, g52_1, n52_0]
        · replace e873 := condF h883 e873
          repeat (first | simp [h47_1, h47_7, h47_8, g47_0, g47_1, n47_0] | with_reducible first | refine awp_reg ?_ | refine And.intro (by omega) ?_ | refine optF_if (by omega) ?_)
          obtain rfl := Option.some.inj e873
          try dsimp only at e499
          refine hK501 l749 _ _ (Gh.ren _ (.l 50) (.l 17) (by simp) rfl rfl) ⟨e499, ?_, ?_, by first | (simp; done) | (simp; omega) | omega⟩ <;> simp [St.frz, St.pur, h47_1, h47_7, h47_8, g47_0, g47_1, n47_0]
    · obtain ⟨e499, h28_7, g28_0, n28_g⟩ := hp
      obtain rfl := Option.some.inj e499
      try dsimp only at hs
      repeat (first | simp [h28_7, g28_0] | with_reducible first | refine awp_reg ?_ | refine And.intro (by omega) ?_ | refine optF_if (by omega) ?_)
      obtain rfl := Option.some.inj hs
      refine hQ _ _ (ret2g _ (Gh.frz _ (.l 17)) (by simp [St.frz, St.pur, h28_7, g28_0]; rfl) (by first | rfl | (simp [St.frz, St.pur, h28_7, g28_0]; done) | (rw [if_pos (by first | omega | (simp; omega))]; simp [St.frz, St.pur, h28_7, g28_0]; first | omega | exact List.take_of_length_le (by simp; omega) | skip)) (by simp))
end Go.Dc
end
section
set_option linter.all false
namespace Go.Dc
open Go Go.Hw Go.Proofs
set_option maxRecDepth 100000
def r14_Same_L1 (a1 : List Spin) : List Spin → Nat → Option (Unit ⊕ Bool)
  | [], k73 => some (.inl ())
  | x98 :: q94, k73 => Option.bind (a1[k73]?) (fun x105 => cond (!(x98.Func == x105.Func && (x98.First == x105.First && (x98.Last == x105.Last && true)))) (some (.inr false)) (r14_Same_L1 a1 q94 (k73 + 1)))

def r14_Same (a0 : List Spin) (a1 : List Spin) : Option Bool :=
  cond (!(eqI ((a0.length : Nat) : Int) ((a1.length : Nat) : Int))) (some false) (Option.bind (α := Unit ⊕ Bool) (Option.bind (r14_Same_L1 a1 a0 0) (fun o => match o with | .inl _ => some (.inl ()) | .inr r109 => some (.inr r109))) (fun o => match o with | .inl _ => some true | .inr r110 => some r110))

set_option maxHeartbeats 2000000 in
theorem at_r14_Same {a0 : List Spin} {a1 : List Spin} {r : Bool} (hs : r14_Same a0 a1 = some r) : At Tryd.prog 38 [.cell (.p (.sl a0.length (encL a0))), .cell (.p (.sl a1.length (encL a1)))] (bV r) := by
  refine at_bound (by kernel_rfl) fun hb => ?_
  have hb1 : LenOk (.sl a0.length (encL a0)) := hb (.cell (.p (.sl a0.length (encL a0)))) (by simp)
  have hb2 : LenOk (.sl a1.length (encL a1)) := hb (.cell (.p (.sl a1.length (encL a1)))) (by simp)
  refine at_code mixed Tryd.func38 (by kernel_rfl) rfl (by kernel_rfl) rfl fun Q hQ => ?_
  rw [r14_Same] at hs
  repeat (first | simp | with_reducible first | refine awp_reg ?_ | refine And.intro (by omega) ?_ | refine optF_if (by omega) ?_)
  refine condK_spec (!(eqI ((a0.length : Nat) : Int) ((a1.length : Nat) : Int))) (by first | rfl | (simp; done) | (simp [andB, orB, eqI, ltI, Int.natCast_inj]; done)) (fun h1 => ?_) (fun h1 => ?_)
  · replace hs := condT h1 hs
    repeat (first | simp | with_reducible first | refine awp_reg ?_ | refine And.intro (by omega) ?_ | refine optF_if (by omega) ?_)
    obtain rfl := Option.some.inj hs
    refine hQ _ _ (ret2g _ (Gh.refl _) (by simp [St.frz, St.pur]; rfl) (by first | rfl | (simp [St.frz, St.pur]; done) | (rw [if_pos (by first | omega | (simp; omega))]; simp [St.frz, St.pur]; first | omega | exact List.take_of_length_le (by simp; omega) | skip)) (by simp))
  · replace hs := condF h1 hs
    repeat (first | simp [-awp_cond_eq, -awp_block_eq] | with_reducible first | refine awp_reg ?_ | refine And.intro (by omega) ?_ | refine optF_if (by omega) ?_)
    obtain ⟨o55, e54, hs⟩ := bindO hs
    try dsimp only at hs
    refine awp_cutK (fun (v : Unit) (σ : St) => some (.inl v) = some o55 ∧ 3 ≤ σ.gen) (by rfl) (fun Q hK56 hX57 => ?_) (fun v σ3 hp => ?_)
    · repeat (first | simp | with_reducible first | refine awp_reg ?_ | refine And.intro (by omega) ?_ | refine optF_if (by omega) ?_)
      obtain ⟨o89, e88, e54⟩ := bindO e54
      try dsimp only at e54
      refine awp_loopW (fun (v : (List Spin) × Nat) (σ : St) => r14_Same_L1 a1 v.1 v.2 = some o89 ∧ v.1 = a0.drop v.2 ∧ σ.env 0 = .cell (.p (.sl a0.length (encL a0))) ∧ σ.env 1 = .cell (.p (.sl a1.length (encL a1))) ∧ σ.env 5 = iV .i64 ((v.2 : Nat) : Int) ∧ 3 ≤ σ.gen) (fun v => v.1.length) _ (Gh.refl _) (a0, 0) ⟨e88, by simp, by simp [St.frz, St.pur], by simp [St.frz, St.pur], by simp [St.frz, St.pur], by first | (simp; done) | (simp; omega) | omega⟩ fun v σ6 hp L90 hL91 => ?_
      obtain ⟨q93, k73⟩ := v
      dsimp only at hp hL91
      obtain ⟨e88, hd92, h5_0, h5_1, h5_5, n5_g⟩ := hp
      rcases q93 with _ | ⟨x98, q94⟩
      · have hlt95 := drop_end hd92
        rw [r14_Same_L1] at e88; try dsimp only at e88
        repeat (first | simp [h5_0, h5_1, h5_5] | with_reducible first | refine awp_reg ?_ | refine And.intro (by omega) ?_ | refine optF_if (by omega) ?_)
        refine condK_f (by simp [ltI]; omega) ?_
        obtain rfl := Option.some.inj e88
        try dsimp only at e54
        exact hK56 () _ _ (Gh.refl _) ⟨e54, by first | (simp; done) | (simp; omega) | omega⟩
      · obtain ⟨hx97, hlt95, hd99⟩ := drop_next hd92
        have ew96 := wrap_succ hlt95 (hb1).len
        rw [r14_Same_L1] at e88; try dsimp only at e88
        repeat (first | simp [h5_0, h5_1, h5_5, hlt95, ew96] | with_reducible first | refine awp_reg ?_ | refine And.intro (by omega) ?_ | refine optF_if (by omega) ?_)
        refine condK_t (by simp [ltI]; omega) ?_
        have f104 : partCV Tryd.prog 66 (encL a0) (k73 * 3) = some (.agg [.p (.c (.int .i64 x98.Func)), .p (.c (.int .i64 x98.First)), .p (.c (.int .i64 x98.Last))]) := partCV_enc hx97 (f := 0) (by simp)
        obtain ⟨x105, hx106, e88⟩ := bindO e88
        try dsimp only at e88
        have hx106b := getN_some hx106
        have f107 : partCV Tryd.prog 66 (encL a1) (k73 * 3) = some (.agg [.p (.c (.int .i64 x105.Func)), .p (.c (.int .i64 x105.First)), .p (.c (.int .i64 x105.Last))]) := partCV_enc hx106 (f := 0) (by simp)
        repeat (first | simp [h5_0, h5_1, h5_5, hlt95, ew96, f104, f107, eqCells] | with_reducible first | refine awp_reg ?_ | refine awp_draw ?_ | refine ord_l (by kernel_rfl) ?_ | refine ord_e (by kernel_rfl) ?_ | refine ord_c (by kernel_rfl) ?_ | refine ord_d (by kernel_rfl) ?_ | refine optF_if (by omega) ?_)
        refine condK_spec (!(x98.Func == x105.Func && (x98.First == x105.First && (x98.Last == x105.Last && true)))) (by first | rfl | (simp [h5_0, h5_1, h5_5, hlt95, ew96, f104, f107, eqCells]; done) | (simp [andB, orB, eqI, ltI, Int.natCast_inj, h5_0, h5_1, h5_5, hlt95, ew96, f104, f107, eqCells]; done)) (fun h108 => ?_) (fun h108 => ?_)
        · replace e88 := condT h108 e88
          repeat (first | simp [h5_0, h5_1, h5_5, hlt95, ew96, f104, f107, eqCells] | with_reducible first | refine awp_reg ?_ | refine awp_draw ?_ | refine ord_l (by kernel_rfl) ?_ | refine ord_e (by kernel_rfl) ?_ | refine ord_c (by kernel_rfl) ?_ | refine ord_d (by kernel_rfl) ?_ | refine optF_if (by omega) ?_)
          obtain rfl := Option.some.inj e88
          try dsimp only at e54
          obtain rfl := Option.some.inj e54
          try dsimp only at hs
          refine hX57 _ _ (by simp) ?_
          repeat (first | simp [h5_0, h5_1, h5_5, hlt95, ew96, f104, f107, eqCells] | with_reducible first | refine awp_reg ?_ | refine awp_draw ?_ | refine ord_l (by kernel_rfl) ?_ | refine ord_e (by kernel_rfl) ?_ | refine ord_c (by kernel_rfl) ?_ | refine ord_d (by kernel_rfl) ?_ | refine optF_if (by omega) ?_)
          obtain rfl := Option.some.inj hs
          refine hQ _ _ (ret2g _ (Gh.refl _) (by simp [St.frz, St.pur, h5_0, h5_1, h5_5, hlt95, ew96, f104, f107, eqCells]; rfl) (by first | rfl | (simp [St.frz, St.pur, h5_0, h5_1, h5_5, hlt95, ew96, f104, f107, eqCells]; done) | (rw [if_pos (by first | omega | (simp; omega))]; simp [St.frz, St.pur, h5_0, h5_1, h5_5, hlt95, ew96, f104, f107, eqCells]; first | omega | exact List.take_of_length_le (by simp; omega) | skip)) (by simp))
        · replace e88 := condF h108 e88
          repeat (first | simp [h5_0, h5_1, h5_5, hlt95, ew96, f104, f107, eqCells] | with_reducible first | refine awp_reg ?_ | refine awp_draw ?_ | refine ord_l (by kernel_rfl) ?_ | refine ord_e (by kernel_rfl) ?_ | refine ord_c (by kernel_rfl) ?_ | refine ord_d (by kernel_rfl) ?_ | refine optF_if (by omega) ?_)
          refine hL91 (q94, (k73 + 1)) _ _ (Gh.refl _) ⟨e88, hd99, ?_, ?_, ?_, by first | (simp; done) | (simp; omega) | omega⟩ (by simp) <;> simp [St.frz, St.pur, h5_0, h5_1, h5_5, hlt95, ew96, f104, f107, eqCells]
    · obtain ⟨e54, n4_g⟩ := hp
      obtain rfl := Option.some.inj e54
      try dsimp only at hs
      repeat (first | simp | with_reducible first | refine awp_reg ?_ | refine And.intro (by omega) ?_ | refine optF_if (by omega) ?_)
      obtain rfl := Option.some.inj hs
      refine hQ _ _ (ret2g _ (Gh.refl _) (by simp [St.frz, St.pur]; rfl) (by first | rfl | (simp [St.frz, St.pur]; done) | (rw [if_pos (by first | omega | (simp; omega))]; simp [St.frz, St.pur]; first | omega | exact List.take_of_length_le (by simp; omega) | skip)) (by simp))
end Go.Dc
end
section
set_option linter.all false
namespace Go.Dc.Pl
open Go Go.Hw Go.Dc
set_option maxRecDepth 100000
def brTo (n : Int) (x : Inst) : Bool := andB (orB (eqI x.Op 4) (eqI x.Op 5)) (eqI x.N n)
theorem targeted_eq (f : Func) (n : Int) : await_targeted f n = some (f.Code.any (brTo n)) := by
  have h := srch (L := await_targeted_L1 n) (fun _ x => onlyIf (brTo n x) true) (fun _ => rfl) f.Code 0 fun j x hx q => by rw [await_targeted_L1]; exact step_only _ _ _
  rw [first_onlyC] at h
  rw [await_targeted, h]
  cases f.Code.any (brTo n) <;> rfl
theorem entered_eq (f : Func) (n : Int) : r14_entered f n = some (f.Code.any (brTo n)) := by
  have h := srch (L := r14_entered_L1 n) (fun _ x => onlyIf (brTo n x) true) (fun _ => rfl) f.Code 0 fun j x hx q => by rw [r14_entered_L1]; exact step_only _ _ _
  rw [first_onlyC] at h
  rw [r14_entered, h]
  cases f.Code.any (brTo n) <;> rfl
def zeroI : Inst := { Op := 0, A := 0, B := 0, C := 0, Obj := 0, N := 0, Fn := 0, Order := 0 }
def conF (n : Int) : Int := cond (eqI n 7) 8 (cond (eqI n 8) 7 (cond (eqI n 9) 10 9))
/-- The await that stands for the pattern at i. -/
def pat (f : Func) (i : Nat) (a b c : Inst) : Bool :=
  andB (andB (andB (andB (andB (eqI a.Op 8) (eqI b.Op 3)) (eqI c.Op 5)) (eqI c.B b.A)) (eqI c.N (i : Int))) (andB (!(f.Code.any (brTo ((i + 1 : Nat) : Int)))) (andB (!(f.Code.any (brTo ((i + 2 : Nat) : Int))))
    (andB (!(eqB (eqI b.B a.A) (eqI b.C a.A))) (andB (!(eqI (cond (eqI b.C a.A) b.B b.C) b.A)) (orB (orB (eqI b.Fn 7) (eqI b.Fn 8)) (andB (eqI b.C a.A) (orB (eqI b.Fn 9) (eqI b.Fn 10))))))))
def awI (a b : Inst) : Inst := { Op := 14, A := a.A, B := cond (eqI b.C a.A) b.B b.C, C := 0, Obj := a.Obj, N := 0, Fn := conF b.Fn, Order := a.Order }
def awF (f : Func) (i : Nat) : Option Inst := match f.Code[i]?, f.Code[i + 1]?, f.Code[i + 2]? with
  | some a, some b, some c => onlyIf (pat f i a b c) (awI a b)
  | _, _, _ => none
theorem awF_hi {f : Func} {i : Nat} (h : f.Code.length ≤ i + 2) : awF f i = none := by
  rw [awF]; split
  · rename_i h3; have := getN_some h3; omega
  · rfl
theorem con_eq (n : Int) : await_condition n = some (conF n) := by
  rw [await_condition, conF]; cases eqI n 7 <;> cases eqI n 8 <;> cases eqI n 9 <;> rfl
theorem n5 : ∀ a b c d e : Bool, orB (orB (orB (orB (!a) (!b)) (!c)) (!d)) (!e) = !(andB (andB (andB (andB a b) c) d) e) := by decide
theorem cond_eq {f : Func} {i : Nat} (hl : f.Code.length ≤ 1000) (hi : i < f.Code.length) : r14_Condition f (i : Int) = some (match awF f i with | some x => (x, true) | none => (zeroI, false)) := by
  rw [r14_Condition]
  by_cases h : i + 2 < f.Code.length
  · rw [show orB (ltI (i : Int) 0) (ltI (IntKind.i64.wrap (((f.Code.length : Nat) : Int) - 3)) (i : Int)) = false by rw [wrap_i64 (by omega) (by omega)]; simp [orB_d, ltI_d]; omega, cond_false]
    rw [wrapS (by omega), wrap_i64 (n := (i : Int) + 2) (by omega) (by omega), show (i : Int) + 2 = ((i + 2 : Nat) : Int) by simp]
    rw [getI_nat, getI_nat, getI_nat, awF]
    obtain ⟨a, ha⟩ : ∃ a, f.Code[i]? = some a := ⟨_, List.getElem?_eq_getElem (by omega)⟩
    obtain ⟨b, hb⟩ : ∃ a, f.Code[i + 1]? = some a := ⟨_, List.getElem?_eq_getElem (by omega)⟩
    obtain ⟨c, hc⟩ : ∃ a, f.Code[i + 2]? = some a := ⟨_, List.getElem?_eq_getElem (by omega)⟩
    rw [ha, hb, hc]
    simp only [Option.bind_some, entered_eq, Option.isSome_some, Option.getD_some, orB_t, guardO_t, pat]
    cases h1 : andB (andB (andB (andB (eqI a.Op 8) (eqI b.Op 3)) (eqI c.Op 5)) (eqI c.B b.A)) (eqI c.N (i : Int))
    · rw [show orB (orB (orB (orB (!(eqI a.Op 8)) (!(eqI b.Op 3))) (!(eqI c.Op 5))) (!(eqI c.B b.A))) (!(eqI c.N (i : Int))) = true by rw [n5, h1]; rfl]
      rfl
    · rw [show orB (orB (orB (orB (!(eqI a.Op 8)) (!(eqI b.Op 3))) (!(eqI c.Op 5))) (!(eqI c.B b.A))) (!(eqI c.N (i : Int))) = false by rw [n5, h1]; rfl]
      cases f.Code.any (brTo ((i + 1 : Nat) : Int))
      · cases f.Code.any (brTo ((i + 2 : Nat) : Int))
        · rw [awI, conF]
          have h9 : eqI b.Fn 7 = true → eqI b.Fn 8 = false ∧ eqI b.Fn 9 = false ∧ eqI b.Fn 10 = false := by simp only [eqI_d, decide_eq_true_eq, decide_eq_false_iff_not]; omega
          have h8 : eqI b.Fn 8 = true → eqI b.Fn 9 = false ∧ eqI b.Fn 10 = false := by simp only [eqI_d, decide_eq_true_eq, decide_eq_false_iff_not]; omega
          have h10 : eqI b.Fn 9 = true → eqI b.Fn 10 = false := by simp only [eqI_d, decide_eq_true_eq, decide_eq_false_iff_not]; omega
          generalize eqI b.Fn 7 = e7 at *
          generalize eqI b.Fn 8 = e8 at *
          generalize eqI b.Fn 9 = e9 at *
          generalize eqI b.Fn 10 = e10 at *
          generalize eqI b.B a.A = eb
          generalize eqI b.C a.A = ec
          cases eb <;> cases ec
          · rfl
          · simp only [cond_true, cond_false, Option.bind_some]; cases eqI b.B b.A <;> cases e7 <;> cases e8 <;> cases e9 <;> cases e10 <;> simp at h9 h8 h10 <;> rfl
          · simp only [cond_true, cond_false, Option.bind_some]; cases eqI b.C b.A <;> cases e7 <;> cases e8 <;> cases e9 <;> cases e10 <;> simp at h9 h8 h10 <;> rfl
          · rfl
        · rfl
      · rfl
  · rw [show orB (ltI (i : Int) 0) (ltI (IntKind.i64.wrap (((f.Code.length : Nat) : Int) - 3)) (i : Int)) = true by rw [wrap_i64 (by omega) (by omega)]; simp [orB_d, ltI_d]; omega, awF_hi (by omega)]
    rfl
def spinO (k : Nat) (f : Func) (i : Nat) : List AwaitSpin := match awF f i with | some x => [{ fn := (k : Int), first := (i : Int), await := x }] | none => []
theorem spinO_le (k : Nat) (f : Func) (i : Nat) : (spinO k f i).length ≤ 1 := by rw [spinO]; split <;> simp
def spinsOf (k : Nat) (f : Func) : List AwaitSpin := (List.range f.Code.length).flatMap (spinO k f)
def spins (p : Program) : List AwaitSpin := (List.range p.Funcs.length).flatMap fun k => spinsOf k (gd p.Funcs k)
theorem limB80 {n : Nat} (h : n ≤ 100000) : limB 80 n = true := limB_of h (by decide)
theorem limB24 {n : Nat} (h : n ≤ 100000) : limB 24 n = true := limB_of h (by decide)
theorem spins_L2 {f : Func} {fuel k : Nat} {s : List AwaitSpin} (hl : f.Code.length ≤ 100) (hf : 200 ≤ fuel) (hs : s.length ≤ 10000) : await_spins_L2 (k : Int) f fuel s 0 = some (s ++ spinsOf k f) := by
  have hw : ∀ i : Nat, i < 1000 → IntKind.i64.wrap ((i : Int) + 2) = ((i + 2 : Nat) : Int) := fun i hi => by rw [wrap_i64 (by omega) (by omega)]; simp
  have h := gathN (L := await_spins_L2 (k : Int) f) (f.Code.length - 2) s.length 1 (spinO k f) (spinO_le k f) (fun q s' => by
      rw [await_spins_L2, hw _ (by omega), ltI_d, show decide (((f.Code.length - 2 + 2 : Nat) : Int) < ((f.Code.length : Nat) : Int)) = false by simp; omega]; rfl) (fun q i s' hi hs' => by
      rw [await_spins_L2, hw _ (by omega), ltI_d, show decide (((i + 2 : Nat) : Int) < ((f.Code.length : Nat) : Int)) = true by simp; omega, cond_true, wrapS (by omega), spinO, awF]
      rw [getI_nat, getI_nat, getI_nat]
      obtain ⟨a, ha⟩ : ∃ a, f.Code[i]? = some a := ⟨_, List.getElem?_eq_getElem (by omega)⟩
      obtain ⟨b, hb⟩ : ∃ a, f.Code[i + 1]? = some a := ⟨_, List.getElem?_eq_getElem (by omega)⟩
      obtain ⟨c, hc⟩ : ∃ a, f.Code[i + 2]? = some a := ⟨_, List.getElem?_eq_getElem (by omega)⟩
      rw [ha, hb, hc]
      simp only [Option.bind_some, targeted_eq, Option.isSome_some, Option.getD_some, orB_t, guardO_t, pat, await_spins_1, await_spins_2, con_eq]
      rw [show cond (eqI b.C a.A) (some b.B) (some b.C) = some (cond (eqI b.C a.A) b.B b.C) by cases eqI b.C a.A <;> rfl, Option.bind_some]
      cases andB (andB (andB (andB (eqI a.Op 8) (eqI b.Op 3)) (eqI c.Op 5)) (eqI c.B b.A)) (eqI c.N (i : Int))
      · simp [andB_d]
      · rw [cond_true, awI, andB_d (andB _ _)]
        generalize cond (eqI b.C a.A) b.B b.C = o
        cases f.Code.any (brTo ((i + 1 : Nat) : Int)) <;> cases f.Code.any (brTo ((i + 2 : Nat) : Int)) <;> cases eqB (eqI b.B a.A) (eqI b.C a.A) <;> cases eqI o b.A <;> cases (orB (orB (eqI b.Fn 7) (eqI b.Fn 8)) (andB (eqI b.C a.A) (orB (eqI b.Fn 9) (eqI b.Fn 10)))) <;> simp [andB_d, orB_d, limB80 (n := s'.length + 1) (by omega)]) fuel 0 s (by omega) (by omega) (by omega)
  rw [Int.natCast_zero] at h
  rw [h, spinsOf, Nat.sub_zero, ← List.range_eq_range']
  congr 2
  obtain ⟨d, hd, hd2⟩ : ∃ d, f.Code.length = (f.Code.length - 2) + d ∧ d ≤ 2 := by
    by_cases h2 : 2 ≤ f.Code.length
    · exact ⟨2, by omega, by omega⟩
    · exact ⟨f.Code.length, by omega, by omega⟩
  rw (occs := .pos [2]) [hd]
  rw [List.range_add, List.flatMap_append]
  rw [show (List.map (fun x => f.Code.length - 2 + x) (List.range d)).flatMap (spinO k f) = [] from ?_]
  · simp
  · rw [List.flatMap_eq_nil_iff]
    intro x hx
    obtain ⟨y, _, rfl⟩ := List.mem_map.1 hx
    rw [spinO, awF_hi (by omega)]
end Go.Dc.Pl
end
section
set_option linter.all false
namespace Go.Dc
open Go Go.Hw Go.Proofs
set_option maxRecDepth 100000
def slices_Clone_api_Start (a0 : List Start) : Option (List Start) := guardO (limB 16 a0.length) (some a0)

set_option maxHeartbeats 2000000 in
theorem at_slices_Clone_api_Start {a0 r : List Start} (hs : slices_Clone_api_Start a0 = some r) : CAt Tryd.prog 100 [.cell (.p (.sl a0.length (encL a0)))] [] (.ret (.cell (.sl (.r 0) 0 2 r.length))) [(.r 0, .pure (encL r))] := by
  rw [slices_Clone_api_Start] at hs
  obtain ⟨g1, hs⟩ := guardO_some hs
  obtain rfl := Option.some.inj hs
  obtain ⟨g1a, g1b⟩ := limB_t g1
  refine at_code mixed Tryd.func100 (by kernel_rfl) rfl (by kernel_rfl) rfl fun Q hQ => ?_
  repeat (first | simp | with_reducible first | refine awp_reg ?_ | refine And.intro (by omega) ?_ | refine optF_if (by omega) ?_)
  unfold nilK
  simp only [Tryd.underlying51]
  refine ⟨fun h => ?_, ?_⟩
  · have h0 := encL_nil_of (by simp) h
    subst h0
    repeat (first | simp | with_reducible first | refine awp_reg ?_ | refine And.intro (by omega) ?_ | refine optF_if (by omega) ?_)
    refine hQ _ _ (ret2g _ (Gh.void _ (.r 0) 2 2 rfl (by simp)) (by simp [St.void, St.kil]; rfl) (by first | rfl | simp) (by simp [St.void, St.kil]))
  · repeat (first | simp | with_reducible first | refine awp_reg ?_ | refine And.intro (by omega) ?_ | refine optF_if (by omega) ?_)
    refine hQ _ _ (ret2g _ (Gh.ren _ (.o 3 2 0) (.r 0) (by simp) rfl rfl) (by simp; rfl) (by first | rfl | simp) (by simp))
end Go.Dc
end
section
set_option linter.all false
namespace Go.Dc
open Go Go.Hw Go.Proofs
set_option maxRecDepth 100000
def slices_Clone_api_Inst (a0 : List Inst) : Option (List Inst) := guardO (limB 64 a0.length) (some a0)

set_option maxHeartbeats 2000000 in
theorem at_slices_Clone_api_Inst {a0 r : List Inst} (hs : slices_Clone_api_Inst a0 = some r) : CAt Tryd.prog 101 [.cell (.p (.sl a0.length (encL a0)))] [] (.ret (.cell (.sl (.r 0) 0 8 r.length))) [(.r 0, .pure (encL r))] := by
  rw [slices_Clone_api_Inst] at hs
  obtain ⟨g1, hs⟩ := guardO_some hs
  obtain rfl := Option.some.inj hs
  obtain ⟨g1a, g1b⟩ := limB_t g1
  refine at_code mixed Tryd.func101 (by kernel_rfl) rfl (by kernel_rfl) rfl fun Q hQ => ?_
  repeat (first | simp | with_reducible first | refine awp_reg ?_ | refine And.intro (by omega) ?_ | refine optF_if (by omega) ?_)
  unfold nilK
  simp only [Tryd.underlying22]
  refine ⟨fun h => ?_, ?_⟩
  · have h0 := encL_nil_of (by simp) h
    subst h0
    repeat (first | simp | with_reducible first | refine awp_reg ?_ | refine And.intro (by omega) ?_ | refine optF_if (by omega) ?_)
    refine hQ _ _ (ret2g _ (Gh.void _ (.r 0) 2 8 rfl (by simp)) (by simp [St.void, St.kil]; rfl) (by first | rfl | simp) (by simp [St.void, St.kil]))
  · repeat (first | simp | with_reducible first | refine awp_reg ?_ | refine And.intro (by omega) ?_ | refine optF_if (by omega) ?_)
    refine hQ _ _ (ret2g _ (Gh.ren _ (.o 3 2 0) (.r 0) (by simp) rfl rfl) (by simp; rfl) (by first | rfl | simp) (by simp))
end Go.Dc
end
section
set_option linter.all false
namespace Go.Dc
open Go Go.Hw Go.Proofs
set_option maxRecDepth 100000
def slices_Clone_api_Var (a0 : List Var) : Option (List Var) := guardO (limB 24 a0.length) (some a0)

set_option maxHeartbeats 2000000 in
theorem at_slices_Clone_api_Var {a0 r : List Var} (hs : slices_Clone_api_Var a0 = some r) : CAt Tryd.prog 97 [.cell (.p (.sl a0.length (encL a0)))] [] (.ret (.cell (.sl (.r 0) 0 2 r.length))) [(.r 0, .pure (encL r))] := by
  rw [slices_Clone_api_Var] at hs
  obtain ⟨g1, hs⟩ := guardO_some hs
  obtain rfl := Option.some.inj hs
  obtain ⟨g1a, g1b⟩ := limB_t g1
  refine at_code mixed Tryd.func97 (by kernel_rfl) rfl (by kernel_rfl) rfl fun Q hQ => ?_
  repeat (first | simp | with_reducible first | refine awp_reg ?_ | refine And.intro (by omega) ?_ | refine optF_if (by omega) ?_)
  unfold nilK
  simp only [Tryd.underlying48]
  refine ⟨fun h => ?_, ?_⟩
  · have h0 := encL_nil_of (by simp) h
    subst h0
    repeat (first | simp | with_reducible first | refine awp_reg ?_ | refine And.intro (by omega) ?_ | refine optF_if (by omega) ?_)
    refine hQ _ _ (ret2g _ (Gh.void _ (.r 0) 2 2 rfl (by simp)) (by simp [St.void, St.kil]; rfl) (by first | rfl | simp) (by simp [St.void, St.kil]))
  · repeat (first | simp | with_reducible first | refine awp_reg ?_ | refine And.intro (by omega) ?_ | refine optF_if (by omega) ?_)
    refine hQ _ _ (ret2g _ (Gh.ren _ (.o 3 2 0) (.r 0) (by simp) rfl rfl) (by simp; rfl) (by first | rfl | simp) (by simp))
end Go.Dc
end
section
set_option linter.all false
namespace Go.Dc
open Go Go.Hw Go.Proofs
set_option maxRecDepth 100000
def slices_Clone_string (a0 : List ByteArray) : Option (List ByteArray) := guardO (limB 16 a0.length) (some a0)

set_option maxHeartbeats 2000000 in
theorem at_slices_Clone_string {a0 r : List ByteArray} (hs : slices_Clone_string a0 = some r) : CAt Tryd.prog 98 [.cell (.p (.sl a0.length (encL a0)))] [] (.ret (.cell (.sl (.r 0) 0 1 r.length))) [(.r 0, .pure (encL r))] := by
  rw [slices_Clone_string] at hs
  obtain ⟨g1, hs⟩ := guardO_some hs
  obtain rfl := Option.some.inj hs
  obtain ⟨g1a, g1b⟩ := limB_t g1
  refine at_code mixed Tryd.func98 (by kernel_rfl) rfl (by kernel_rfl) rfl fun Q hQ => ?_
  repeat (first | simp | with_reducible first | refine awp_reg ?_ | refine And.intro (by omega) ?_ | refine optF_if (by omega) ?_)
  unfold nilK
  simp only [Tryd.underlying49]
  refine ⟨fun h => ?_, ?_⟩
  · have h0 := encL_nil_of (by simp) h
    subst h0
    repeat (first | simp | with_reducible first | refine awp_reg ?_ | refine And.intro (by omega) ?_ | refine optF_if (by omega) ?_)
    refine hQ _ _ (ret2g _ (Gh.void _ (.r 0) 2 1 rfl (by simp)) (by simp [St.void, St.kil]; rfl) (by first | rfl | simp) (by simp [St.void, St.kil]))
  · repeat (first | simp | with_reducible first | refine awp_reg ?_ | refine And.intro (by omega) ?_ | refine optF_if (by omega) ?_)
    refine hQ _ _ (ret2g _ (Gh.ren _ (.o 3 2 0) (.r 0) (by simp) rfl rfl) (by simp; rfl) (by first | rfl | simp) (by simp))
end Go.Dc
end
section
set_option linter.all false
namespace Go.Dc
open Go Go.Hw Go.Proofs
set_option maxRecDepth 100000
def slices_Clone_api_Func (a0 : List Func) : Option (List Func) := guardO (limB 40 a0.length) (some a0)

set_option maxHeartbeats 2000000 in
theorem at_slices_Clone_api_Func {a0 r : List Func} (hs : slices_Clone_api_Func a0 = some r) : CAt Tryd.prog 99 [.cell (.p (.sl a0.length (encL a0)))] [] (.ret (.cell (.sl (.r 0) 0 2 r.length))) [(.r 0, .pure (encL r))] := by
  rw [slices_Clone_api_Func] at hs
  obtain ⟨g1, hs⟩ := guardO_some hs
  obtain rfl := Option.some.inj hs
  obtain ⟨g1a, g1b⟩ := limB_t g1
  refine at_code mixed Tryd.func99 (by kernel_rfl) rfl (by kernel_rfl) rfl fun Q hQ => ?_
  repeat (first | simp | with_reducible first | refine awp_reg ?_ | refine And.intro (by omega) ?_ | refine optF_if (by omega) ?_)
  unfold nilK
  simp only [Tryd.underlying50]
  refine ⟨fun h => ?_, ?_⟩
  · have h0 := encL_nil_of (by simp) h
    subst h0
    repeat (first | simp | with_reducible first | refine awp_reg ?_ | refine And.intro (by omega) ?_ | refine optF_if (by omega) ?_)
    refine hQ _ _ (ret2g _ (Gh.void _ (.r 0) 2 2 rfl (by simp)) (by simp [St.void, St.kil]; rfl) (by first | rfl | simp) (by simp [St.void, St.kil]))
  · repeat (first | simp | with_reducible first | refine awp_reg ?_ | refine And.intro (by omega) ?_ | refine optF_if (by omega) ?_)
    refine hQ _ _ (ret2g _ (Gh.ren _ (.o 3 2 0) (.r 0) (by simp) rfl rfl) (by simp; rfl) (by first | rfl | simp) (by simp))
end Go.Dc
end
section
set_option linter.all false
namespace Go.Dc
open Go Go.Hw Go.Proofs
set_option maxRecDepth 100000
def program_Clone_L1 (a0 : Program) : Nat → Nat → (List Func) → Option (List Func)
  | 0, k142, l143 => guardO (decide (l143.length ≤ k142)) (some (l143))
  | q171 + 1, k142, l143 => Option.bind (a0.Funcs[k142]?) (fun x185 => Option.bind (slices_Clone_api_Inst x185.Code) (fun y188 => Option.bind (l143[k142]?) (fun x190 => Option.bind (some (l143.set k142 ({ x190 with Code := y188 }))) (fun l194 => program_Clone_L1 a0 q171 (k142 + 1) l194))))

def program_Clone (a0 : Program) : Option Program :=
  Option.bind (slices_Clone_api_Var a0.Vars) (fun y11 => Option.bind (slices_Clone_string a0.Mutexes) (fun y13 => Option.bind (slices_Clone_string a0.Conds) (fun y15 => Option.bind (slices_Clone_api_Func a0.Funcs) (fun y17 => Option.bind (slices_Clone_api_Start a0.Threads) (fun y19 => Option.bind (α := (List Func)) (guardO (lenB y17.length) (Option.bind (program_Clone_L1 a0 y17.length 0 y17) (fun l164 => some (l164)))) (fun l106 => some ({ Vars := y11, Mutexes := y13, Conds := y15, Funcs := l106, Threads := y19 } : Program)))))))

set_option maxHeartbeats 2000000 in
theorem at_program_Clone {a0 : Program} {r : Program} (hs : program_Clone a0 = some r) : CAt Tryd.prog 68 [.agg [.p (.sl a0.Vars.length (encL a0.Vars)), .p (.sl a0.Mutexes.length (encL a0.Mutexes)), .p (.sl a0.Conds.length (encL a0.Conds)), .p (.sl a0.Funcs.length (encL a0.Funcs)), .p (.sl a0.Threads.length (encL a0.Threads))]] [] (.ret (.agg [.sl (.r 0) 0 2 r.Vars.length, .sl (.r 1) 0 1 r.Mutexes.length, .sl (.r 2) 0 1 r.Conds.length, .sl (.r 3) 0 2 r.Funcs.length, .sl (.r 4) 0 2 r.Threads.length])) [(.r 0, .pure (encL r.Vars)), (.r 1, .pure (encL r.Mutexes)), (.r 2, .pure (encL r.Conds)), (.r 3, .cells (oencL r.Funcs)), (.r 4, .pure (encL r.Threads))] := by
  refine at_bound (by kernel_rfl) fun hb => ?_
  have hb1 : LenOk (.sl a0.Vars.length (encL a0.Vars)) := hb (.agg [.p (.sl a0.Vars.length (encL a0.Vars)), .p (.sl a0.Mutexes.length (encL a0.Mutexes)), .p (.sl a0.Conds.length (encL a0.Conds)), .p (.sl a0.Funcs.length (encL a0.Funcs)), .p (.sl a0.Threads.length (encL a0.Threads))]) (by simp) (.p (.sl a0.Vars.length (encL a0.Vars))) (by simp)
  have hb2 : LenOk (.sl a0.Mutexes.length (encL a0.Mutexes)) := hb (.agg [.p (.sl a0.Vars.length (encL a0.Vars)), .p (.sl a0.Mutexes.length (encL a0.Mutexes)), .p (.sl a0.Conds.length (encL a0.Conds)), .p (.sl a0.Funcs.length (encL a0.Funcs)), .p (.sl a0.Threads.length (encL a0.Threads))]) (by simp) (.p (.sl a0.Mutexes.length (encL a0.Mutexes))) (by simp)
  have hb3 : LenOk (.sl a0.Conds.length (encL a0.Conds)) := hb (.agg [.p (.sl a0.Vars.length (encL a0.Vars)), .p (.sl a0.Mutexes.length (encL a0.Mutexes)), .p (.sl a0.Conds.length (encL a0.Conds)), .p (.sl a0.Funcs.length (encL a0.Funcs)), .p (.sl a0.Threads.length (encL a0.Threads))]) (by simp) (.p (.sl a0.Conds.length (encL a0.Conds))) (by simp)
  have hb4 : LenOk (.sl a0.Funcs.length (encL a0.Funcs)) := hb (.agg [.p (.sl a0.Vars.length (encL a0.Vars)), .p (.sl a0.Mutexes.length (encL a0.Mutexes)), .p (.sl a0.Conds.length (encL a0.Conds)), .p (.sl a0.Funcs.length (encL a0.Funcs)), .p (.sl a0.Threads.length (encL a0.Threads))]) (by simp) (.p (.sl a0.Funcs.length (encL a0.Funcs))) (by simp)
  have hb5 : LenOk (.sl a0.Threads.length (encL a0.Threads)) := hb (.agg [.p (.sl a0.Vars.length (encL a0.Vars)), .p (.sl a0.Mutexes.length (encL a0.Mutexes)), .p (.sl a0.Conds.length (encL a0.Conds)), .p (.sl a0.Funcs.length (encL a0.Funcs)), .p (.sl a0.Threads.length (encL a0.Threads))]) (by simp) (.p (.sl a0.Threads.length (encL a0.Threads))) (by simp)
  refine at_code mixed Tryd.func68 (by kernel_rfl) rfl (by kernel_rfl) rfl fun Q hQ => ?_
  rw [program_Clone] at hs
  repeat (first | simp | with_reducible first | refine awp_reg ?_ | refine awp_draw ?_ | refine ord_l (by kernel_rfl) ?_ | refine ord_e (by kernel_rfl) ?_ | refine ord_c (by kernel_rfl) ?_ | refine ord_d (by kernel_rfl) ?_ | refine And.intro (by omega) ?_ | refine optF_if (by omega) ?_)
  obtain ⟨y11, hx12, hs⟩ := bindO hs
  try dsimp only at hs
  refine callK_at (at_slices_Clone_api_Var hx12) [] (by (first | simp | simp (disch := omega) []); try rfl) (by simp) (by simp) (by simp; rfl) (by simp; rfl) ?_
  repeat (first | simp | with_reducible first | refine awp_reg ?_ | refine awp_draw ?_ | refine ord_l (by kernel_rfl) ?_ | refine ord_e (by kernel_rfl) ?_ | refine ord_c (by kernel_rfl) ?_ | refine ord_d (by kernel_rfl) ?_ | refine And.intro (by omega) ?_ | refine optF_if (by omega) ?_)
  obtain ⟨y13, hx14, hs⟩ := bindO hs
  try dsimp only at hs
  refine callK_at (at_slices_Clone_string hx14) [] (by (first | simp | simp (disch := omega) []); try rfl) (by simp) (by simp) (by simp; rfl) (by simp; rfl) ?_
  repeat (first | simp | with_reducible first | refine awp_reg ?_ | refine awp_draw ?_ | refine ord_l (by kernel_rfl) ?_ | refine ord_e (by kernel_rfl) ?_ | refine ord_c (by kernel_rfl) ?_ | refine ord_d (by kernel_rfl) ?_ | refine And.intro (by omega) ?_ | refine optF_if (by omega) ?_)
  obtain ⟨y15, hx16, hs⟩ := bindO hs
  try dsimp only at hs
  refine callK_at (at_slices_Clone_string hx16) [] (by (first | simp | simp (disch := omega) []); try rfl) (by simp) (by simp) (by simp; rfl) (by simp; rfl) ?_
  repeat (first | simp | with_reducible first | refine awp_reg ?_ | refine awp_draw ?_ | refine ord_l (by kernel_rfl) ?_ | refine ord_e (by kernel_rfl) ?_ | refine ord_c (by kernel_rfl) ?_ | refine ord_d (by kernel_rfl) ?_ | refine And.intro (by omega) ?_ | refine optF_if (by omega) ?_)
  obtain ⟨y17, hx18, hs⟩ := bindO hs
  try dsimp only at hs
  refine callK_at (at_slices_Clone_api_Func hx18) [] (by (first | simp | simp (disch := omega) []); try rfl) (by simp) (by simp) (by simp; rfl) (by simp; rfl) ?_
  repeat (first | simp | with_reducible first | refine awp_reg ?_ | refine awp_draw ?_ | refine ord_l (by kernel_rfl) ?_ | refine ord_e (by kernel_rfl) ?_ | refine ord_c (by kernel_rfl) ?_ | refine ord_d (by kernel_rfl) ?_ | refine And.intro (by omega) ?_ | refine optF_if (by omega) ?_)
  obtain ⟨y19, hx20, hs⟩ := bindO hs
  try dsimp only at hs
  refine callK_at (at_slices_Clone_api_Start hx20) [] (by (first | simp | simp (disch := omega) []); try rfl) (by simp) (by simp) (by simp; rfl) (by simp; rfl) ?_
  repeat (first | simp [-awp_cond_eq, -awp_block_eq] | with_reducible first | refine awp_reg ?_ | refine awp_draw ?_ | refine ord_l (by kernel_rfl) ?_ | refine ord_e (by kernel_rfl) ?_ | refine ord_c (by kernel_rfl) ?_ | refine ord_d (by kernel_rfl) ?_ | refine And.intro (by omega) ?_ | refine optF_if (by omega) ?_)
  obtain ⟨o108, e107, hs⟩ := bindO hs
  try dsimp only at hs
  refine awp_cutK (fun (v : (List Func)) (σ : St) => some (v) = some o108 ∧ σ.env 2 = .cell (.ref (.o 1 1 0) 0) ∧ σ.env 3 = .cell (.ref (.o 2 16 0) 0) ∧ σ.hp (.o 1 1 0) = some (.cells [.z, .z, .z, .z, .z]) ∧ σ.hp (.l 14) = some (.cells (oencL v)) ∧ σ.hp (.o 2 16 0) = some (.cells [.sl (.o 2 2 0) 0 2 y11.length, .sl (.o 2 5 0) 0 1 y13.length, .sl (.o 2 8 0) 0 1 y15.length, .sl (.l 14) 0 2 v.length, .sl (.o 2 14 0) 0 2 y19.length]) ∧ σ.hp (.o 2 2 0) = some (.pure (encL y11)) ∧ σ.hp (.o 2 5 0) = some (.pure (encL y13)) ∧ σ.hp (.o 2 8 0) = some (.pure (encL y15)) ∧ σ.hp (.o 2 14 0) = some (.pure (encL y19)) ∧ 3 ≤ σ.gen) (by rfl) (fun Q hK109 hX110 => ?_) (fun l106 σ3 hp => ?_)
  · repeat (first | simp | with_reducible first | refine awp_reg ?_ | refine awp_draw ?_ | refine ord_l (by kernel_rfl) ?_ | refine ord_e (by kernel_rfl) ?_ | refine ord_c (by kernel_rfl) ?_ | refine ord_d (by kernel_rfl) ?_ | refine And.intro (by omega) ?_ | refine optF_if (by omega) ?_)
    obtain ⟨hb175, e107⟩ := guardO_some e107
    obtain ⟨o166, e165, e107⟩ := bindO e107
    try dsimp only at e107
    refine awp_loopW (fun (v : Nat × Nat × (List Func)) (σ : St) => program_Clone_L1 a0 v.1 v.2.1 v.2.2 = some o166 ∧ v.1 + v.2.1 = y17.length ∧ σ.env 1 = .cell (.ref (.o 1 0 0) 0) ∧ σ.env 2 = .cell (.ref (.o 1 1 0) 0) ∧ σ.env 3 = .cell (.ref (.o 2 16 0) 0) ∧ σ.env 23 = iV .i64 ((y17.length : Nat) : Int) ∧ σ.env 24 = iV .i64 ((v.2.1 : Nat) : Int) ∧ σ.hp (.o 1 0 0) = some (.cells [.p (.sl a0.Vars.length (encL a0.Vars)), .p (.sl a0.Mutexes.length (encL a0.Mutexes)), .p (.sl a0.Conds.length (encL a0.Conds)), .p (.sl a0.Funcs.length (encL a0.Funcs)), .p (.sl a0.Threads.length (encL a0.Threads))]) ∧ σ.hp (.o 1 1 0) = some (.cells [.z, .z, .z, .z, .z]) ∧ σ.hp (.l 39) = some (.cells (mixL v.2.1 v.2.2)) ∧ σ.hp (.o 2 16 0) = some (.cells [.sl (.o 2 2 0) 0 2 y11.length, .sl (.o 2 5 0) 0 1 y13.length, .sl (.o 2 8 0) 0 1 y15.length, .sl (.l 39) 0 2 v.2.2.length, .sl (.o 2 14 0) 0 2 y19.length]) ∧ σ.hp (.o 2 2 0) = some (.pure (encL y11)) ∧ σ.hp (.o 2 5 0) = some (.pure (encL y13)) ∧ σ.hp (.o 2 8 0) = some (.pure (encL y15)) ∧ σ.hp (.o 2 14 0) = some (.pure (encL y19)) ∧ 3 ≤ σ.gen) (fun v => v.1) _ ((Gh.cel _ (.o 2 11 0)).trans (Gh.ren _ (.o 2 11 0) (.l 39) (by simp) rfl rfl)) (y17.length, 0, y17) ⟨e165, by first | omega | simp | (simp; omega), by simp [St.frz, St.pur], by simp [St.frz, St.pur], by simp [St.frz, St.pur], by simp [St.frz, St.pur], by simp [St.frz, St.pur], by simp [St.frz, St.pur], by simp [St.frz, St.pur], by simp [St.frz, St.pur], by simp [St.frz, St.pur], by simp [St.frz, St.pur], by simp [St.frz, St.pur], by simp [St.frz, St.pur], by simp [St.frz, St.pur], by first | (simp; done) | (simp; omega) | omega⟩ fun v σ6 hp L167 hL168 => ?_
    obtain ⟨q170, k142, l143⟩ := v
    dsimp only at hp hL168
    obtain ⟨e165, hd169, h5_1, h5_2, h5_3, h5_23, h5_24, g5_0, g5_1, g5_2, g5_3, g5_4, g5_5, g5_6, g5_7, n5_g⟩ := hp
    have n5_0 : ¬ (σ6.gen = 0) := by omega
    have n5_1 : ¬ (σ6.gen = 1) := by omega
    rcases q170 with _ | q171
    · have hlt172 : ¬ k142 < y17.length := by omega
      rw [program_Clone_L1] at e165; try dsimp only at e165
      repeat (first | simp [h5_1, h5_2, h5_3, h5_23, h5_24, g5_0, g5_1, g5_2, g5_3, g5_4, g5_5, g5_6, g5_7, n5_0, n5_1] | with_reducible refine awp_reg ?_)
      refine condK_f (by simp [ltI]; omega) ?_
      obtain ⟨g176, e165⟩ := guardO_some e165
      have g176 := mixL_full (of_decide_eq_true g176)
      obtain rfl := Option.some.inj e165
      try dsimp only at e107
      refine hK109 l143 _ _ (Gh.ren _ (.l 39) (.l 14) (by simp) rfl rfl) ⟨e107, ?_, ?_, ?_, ?_, ?_, ?_, ?_, ?_, ?_, by first | (simp; done) | (simp; omega) | omega⟩ <;> simp [St.frz, St.pur, h5_1, h5_2, h5_3, h5_23, h5_24, g5_0, g5_1, g5_2, g5_3, g5_4, g5_5, g5_6, g5_7, n5_0, n5_1, g176]
    · have hlt172 : k142 < y17.length := by omega
      have ew173 := wrap_succG hlt172 hb175
      rw [program_Clone_L1] at e165; try dsimp only at e165
      repeat (first | simp [h5_1, h5_2, h5_3, h5_23, h5_24, g5_0, g5_1, g5_2, g5_3, g5_4, g5_5, g5_6, g5_7, n5_0, n5_1, hlt172, ew173] | with_reducible refine awp_reg ?_)
      refine condK_t (by simp [ltI]; omega) ?_
      obtain ⟨x185, hx186, e165⟩ := bindO e165
      try dsimp only at e165
      have hx186b := getN_some hx186
      have f187 : partCV Tryd.prog 22 (encL a0.Funcs) (k142 * 2 + 1) = some (.cell (.p (.sl x185.Code.length (encL x185.Code)))) := partCV_enc hx186 (f := 1) (by simp)
      repeat (first | simp [h5_1, h5_2, h5_3, h5_23, h5_24, g5_0, g5_1, g5_2, g5_3, g5_4, g5_5, g5_6, g5_7, n5_0, n5_1, hlt172, ew173, f187] | with_reducible first | refine awp_reg ?_ | refine awp_draw ?_ | refine ord_l (by kernel_rfl) ?_ | refine ord_e (by kernel_rfl) ?_ | refine ord_c (by kernel_rfl) ?_ | refine ord_d (by kernel_rfl) ?_ | refine And.intro (by omega) ?_ | refine optF_if (by omega) ?_)
      obtain ⟨y188, hx189, e165⟩ := bindO e165
      try dsimp only at e165
      refine callK_at (at_slices_Clone_api_Inst hx189) [] (by (first | simp [h5_1, h5_2, h5_3, h5_23, h5_24, g5_0, g5_1, g5_2, g5_3, g5_4, g5_5, g5_6, g5_7, n5_0, n5_1, hlt172, ew173, f187] | simp (disch := omega) [h5_1, h5_2, h5_3, h5_23, h5_24, g5_0, g5_1, g5_2, g5_3, g5_4, g5_5, g5_6, g5_7, n5_0, n5_1, hlt172, ew173, f187]); try rfl) (by simp) (by simp) (by simp; rfl) (by simp [h5_1, h5_2, h5_3, h5_23, h5_24, g5_0, g5_1, g5_2, g5_3, g5_4, g5_5, g5_6, g5_7, n5_0, n5_1, hlt172, ew173, f187]; rfl) ?_
      obtain ⟨x190, hx191, e165⟩ := bindO e165
      try dsimp only at e165
      have hx191b := getN_some hx191
      have f192l : k142 * 2 + 1 < (mixL k142 l143).length := by rw [mixL_length]; have := getN_some hx191; simp; omega
      have f192c := fun c => (set_seg f192l c).1
      have f192d := fun c => (set_seg f192l c).2
      obtain ⟨l194, hx195, e165⟩ := bindO e165
      try dsimp only at e165
      replace hx195 := (Option.some.inj hx195).symm
      have f193 : (mixL k142 l143).set (k142 * 2 + 1) (.own (.sp 8 y188.length (encL y188))) = mixL (k142 + 1) l194 := by rw [hx195]; exact mixL_set hx191 (f := 1) (by simp) rfl
      have f193n : l194.length = l143.length := by rw [hx195]; simp
      repeat (first | simp [h5_1, h5_2, h5_3, h5_23, h5_24, g5_0, g5_1, g5_2, g5_3, g5_4, g5_5, g5_6, g5_7, n5_0, n5_1, hlt172, ew173, f187, f192c, f192d, f193, f193n] | with_reducible first | refine ord_l (by kernel_rfl) ?_ | refine ord_e (by kernel_rfl) ?_ | refine ord_c (by kernel_rfl) ?_ | refine ord_d (by kernel_rfl) ?_ | refine And.intro (by omega) ?_ | refine optF_if (by omega) ?_)
      refine awp_gh (by rfl) (Gh.close _ (.l 39) (k142 * 2 + 1)) ?_
      try simp only [St.frz, St.pur]
      repeat (first | simp [h5_1, h5_2, h5_3, h5_23, h5_24, g5_0, g5_1, g5_2, g5_3, g5_4, g5_5, g5_6, g5_7, n5_0, n5_1, hlt172, ew173, f187, f192c, f192d, f193, f193n] | with_reducible refine awp_reg ?_)
      refine hL168 (q171, (k142 + 1), l194) _ _ (Gh.refl _) ⟨e165, (by first | omega | (simp; omega)), ?_, ?_, ?_, ?_, ?_, ?_, ?_, ?_, ?_, ?_, ?_, ?_, ?_, by first | (simp; done) | (simp; omega) | omega⟩ (by omega) <;> simp [St.frz, St.pur, h5_1, h5_2, h5_3, h5_23, h5_24, g5_0, g5_1, g5_2, g5_3, g5_4, g5_5, g5_6, g5_7, n5_0, n5_1, hlt172, ew173, f187, f192c, f192d, f193, f193n]
  · obtain ⟨e107, h4_2, h4_3, g4_0, g4_1, g4_2, g4_3, g4_4, g4_5, g4_6, n4_g⟩ := hp
    obtain rfl := Option.some.inj e107
    try dsimp only at hs
    have n4_0 : ¬ (σ3.gen = 0) := by omega
    have n4_1 : ¬ (σ3.gen = 1) := by omega
    repeat (first | simp [h4_2, h4_3, g4_0, g4_1, g4_2, g4_3, g4_4, g4_5, g4_6, n4_0, n4_1] | with_reducible first | refine awp_reg ?_ | refine awp_draw ?_ | refine ord_l (by kernel_rfl) ?_ | refine ord_e (by kernel_rfl) ?_ | refine ord_c (by kernel_rfl) ?_ | refine ord_d (by kernel_rfl) ?_ | refine And.intro (by omega) ?_ | refine optF_if (by omega) ?_)
    obtain rfl := Option.some.inj hs
    refine hQ _ _ (ret2g _ ((Gh.ren _ (.o 2 2 0) (.r 0) (by simp) rfl rfl).trans ((Gh.ren _ (.o 2 5 0) (.r 1) (by simp) rfl rfl).trans ((Gh.ren _ (.o 2 8 0) (.r 2) (by simp) rfl rfl).trans ((Gh.ren _ (.l 14) (.r 3) (by simp) rfl rfl).trans (Gh.ren _ (.o 2 14 0) (.r 4) (by simp) rfl rfl))))) (by simp [St.frz, St.pur, h4_2, h4_3, g4_0, g4_1, g4_2, g4_3, g4_4, g4_5, g4_6, n4_0, n4_1]; rfl) (by first | rfl | (simp [St.frz, St.pur, h4_2, h4_3, g4_0, g4_1, g4_2, g4_3, g4_4, g4_5, g4_6, n4_0, n4_1]; done) | (rw [if_pos (by first | omega | (simp; omega))]; simp [St.frz, St.pur, h4_2, h4_3, g4_0, g4_1, g4_2, g4_3, g4_4, g4_5, g4_6, n4_0, n4_1]; first | omega | exact List.take_of_length_le (by simp; omega) | skip)) (by simp [St.frz, St.pur, h4_2, h4_3, g4_0, g4_1, g4_2, g4_3, g4_4, g4_5, g4_6, n4_0, n4_1]))
end Go.Dc
end
section
set_option linter.all false
namespace Go.Dc
open Go Go.Hw Go.Proofs
set_option maxRecDepth 100000
def await_Rewrite_L1 : List AwaitSpin → Nat → (List Func) → Option (List Func)
  | [], k162, l163 => some (l163)
  | x197 :: q193, k162, l163 => Option.bind (getI l163 x197.fn) (fun x201 => Option.bind (getI x201.Code x197.first) (fun x211 => Option.bind (some (x201.Code.set ((x197.first).toNat) x197.await)) (fun l213 => Option.bind (some (l163.set ((x197.fn).toNat) ({ x201 with Code := l213 }))) (fun l217 => await_Rewrite_L1 q193 (k162 + 1) l217))))

def await_Rewrite (fuelN : Nat) (a0 : Program) : Option (Program × Int) :=
  Option.bind (program_Check fuelN a0) (fun y1 => cond (!(eqI y1.1 0)) (some (({ Vars := [], Mutexes := [], Conds := [], Funcs := [], Threads := [] } : Program), y1.1)) (Option.bind (program_Clone a0) (fun y4 => Option.bind (await_spins fuelN a0) (fun y6 => Option.bind (α := (List Func)) (guardO (lenB y6.length) (Option.bind (await_Rewrite_L1 y6 0 y4.Funcs) (fun l186 => some (l186)))) (fun l111 => some ({ y4 with Funcs := l111 }, 0))))))

set_option maxHeartbeats 2000000 in
theorem at_await_Rewrite {fuelN : Nat} {a0 : Program} {r : Program × Int} (hs : await_Rewrite fuelN a0 = some r) : At Tryd.prog 40 [.agg [.p (.sl a0.Vars.length (encL a0.Vars)), .p (.sl a0.Mutexes.length (encL a0.Mutexes)), .p (.sl a0.Conds.length (encL a0.Conds)), .p (.sl a0.Funcs.length (encL a0.Funcs)), .p (.sl a0.Threads.length (encL a0.Threads))]] (.tup [.agg [.p (.sl r.1.Vars.length (encL r.1.Vars)), .p (.sl r.1.Mutexes.length (encL r.1.Mutexes)), .p (.sl r.1.Conds.length (encL r.1.Conds)), .p (.sl r.1.Funcs.length (encL r.1.Funcs)), .p (.sl r.1.Threads.length (encL r.1.Threads))], iV .i64 r.2]) := by
  refine at_bound (by kernel_rfl) fun hb => ?_
  have hb1 : LenOk (.sl a0.Vars.length (encL a0.Vars)) := hb (.agg [.p (.sl a0.Vars.length (encL a0.Vars)), .p (.sl a0.Mutexes.length (encL a0.Mutexes)), .p (.sl a0.Conds.length (encL a0.Conds)), .p (.sl a0.Funcs.length (encL a0.Funcs)), .p (.sl a0.Threads.length (encL a0.Threads))]) (by simp) (.p (.sl a0.Vars.length (encL a0.Vars))) (by simp)
  have hb2 : LenOk (.sl a0.Mutexes.length (encL a0.Mutexes)) := hb (.agg [.p (.sl a0.Vars.length (encL a0.Vars)), .p (.sl a0.Mutexes.length (encL a0.Mutexes)), .p (.sl a0.Conds.length (encL a0.Conds)), .p (.sl a0.Funcs.length (encL a0.Funcs)), .p (.sl a0.Threads.length (encL a0.Threads))]) (by simp) (.p (.sl a0.Mutexes.length (encL a0.Mutexes))) (by simp)
  have hb3 : LenOk (.sl a0.Conds.length (encL a0.Conds)) := hb (.agg [.p (.sl a0.Vars.length (encL a0.Vars)), .p (.sl a0.Mutexes.length (encL a0.Mutexes)), .p (.sl a0.Conds.length (encL a0.Conds)), .p (.sl a0.Funcs.length (encL a0.Funcs)), .p (.sl a0.Threads.length (encL a0.Threads))]) (by simp) (.p (.sl a0.Conds.length (encL a0.Conds))) (by simp)
  have hb4 : LenOk (.sl a0.Funcs.length (encL a0.Funcs)) := hb (.agg [.p (.sl a0.Vars.length (encL a0.Vars)), .p (.sl a0.Mutexes.length (encL a0.Mutexes)), .p (.sl a0.Conds.length (encL a0.Conds)), .p (.sl a0.Funcs.length (encL a0.Funcs)), .p (.sl a0.Threads.length (encL a0.Threads))]) (by simp) (.p (.sl a0.Funcs.length (encL a0.Funcs))) (by simp)
  have hb5 : LenOk (.sl a0.Threads.length (encL a0.Threads)) := hb (.agg [.p (.sl a0.Vars.length (encL a0.Vars)), .p (.sl a0.Mutexes.length (encL a0.Mutexes)), .p (.sl a0.Conds.length (encL a0.Conds)), .p (.sl a0.Funcs.length (encL a0.Funcs)), .p (.sl a0.Threads.length (encL a0.Threads))]) (by simp) (.p (.sl a0.Threads.length (encL a0.Threads))) (by simp)
  refine at_code mixed Tryd.func40 (by kernel_rfl) rfl (by kernel_rfl) rfl fun Q hQ => ?_
  rw [await_Rewrite] at hs
  repeat (first | simp | with_reducible first | refine awp_reg ?_ | refine And.intro (by omega) ?_ | refine optF_if (by omega) ?_)
  obtain ⟨y1, hx2, hs⟩ := bindO hs
  try dsimp only at hs
  refine callK_pure (at_program_Check hx2) (by (first | simp | simp (disch := omega) []); try rfl) (by simp) (by simp) ?_
  repeat (first | simp | with_reducible first | refine awp_reg ?_ | refine And.intro (by omega) ?_ | refine optF_if (by omega) ?_)
  refine condK_spec (!(eqI y1.1 0)) (by first | rfl | (simp; done) | (simp [andB, orB, eqI, ltI, Int.natCast_inj]; done)) (fun h3 => ?_) (fun h3 => ?_)
  · replace hs := condT h3 hs
    repeat (first | simp | with_reducible first | refine awp_reg ?_ | refine And.intro (by omega) ?_ | refine optF_if (by omega) ?_)
    obtain rfl := Option.some.inj hs
    refine hQ _ _ (ret2g _ (Gh.unz _) (by simp [St.frz, St.pur]; rfl) (by first | rfl | (simp [St.frz, St.pur]; done) | (rw [if_pos (by first | omega | (simp; omega))]; simp [St.frz, St.pur]; first | omega | exact List.take_of_length_le (by simp; omega) | skip)) (by simp))
  · replace hs := condF h3 hs
    repeat (first | simp | with_reducible first | refine awp_reg ?_ | refine And.intro (by omega) ?_ | refine optF_if (by omega) ?_)
    obtain ⟨y4, hx5, hs⟩ := bindO hs
    try dsimp only at hs
    refine callK_at (at_program_Clone hx5) [] (by (first | simp | simp (disch := omega) []); try rfl) (by simp) (by simp) (by simp; rfl) (by simp; rfl) ?_
    repeat (first | simp | with_reducible first | refine awp_reg ?_ | refine And.intro (by omega) ?_ | refine optF_if (by omega) ?_)
    obtain ⟨y6, hx7, hs⟩ := bindO hs
    try dsimp only at hs
    refine callK_pure (at_await_spins hx7) (by (first | simp | simp (disch := omega) []); try rfl) (by simp) (by simp) ?_
    repeat (first | simp [-awp_cond_eq, -awp_block_eq] | with_reducible first | refine awp_reg ?_ | refine And.intro (by omega) ?_ | refine optF_if (by omega) ?_)
    obtain ⟨o113, e112, hs⟩ := bindO hs
    try dsimp only at hs
    refine awp_cutK (fun (v : (List Func)) (σ : St) => some (v) = some o113 ∧ σ.env 2 = .cell (.ref (.o 1 1 0) 0) ∧ σ.env 7 = .cell (.ref (.o 4 2 0) 0) ∧ σ.hp (.o 1 1 0) = some (.cells [.z, .z, .z, .z, .z]) ∧ σ.hp (.l 14) = some (.cells (oencL v)) ∧ σ.hp (.o 4 2 0) = some (.cells [.sl (.o 4 1 0) 0 2 y4.Vars.length, .sl (.o 4 1 1) 0 1 y4.Mutexes.length, .sl (.o 4 1 2) 0 1 y4.Conds.length, .sl (.l 14) 0 2 v.length, .sl (.o 4 1 4) 0 2 y4.Threads.length]) ∧ σ.hp (.o 4 1 0) = some (.pure (encL y4.Vars)) ∧ σ.hp (.o 4 1 1) = some (.pure (encL y4.Mutexes)) ∧ σ.hp (.o 4 1 2) = some (.pure (encL y4.Conds)) ∧ σ.hp (.o 4 1 4) = some (.pure (encL y4.Threads)) ∧ 5 ≤ σ.gen) (by rfl) (fun Q hK114 hX115 => ?_) (fun l111 σ3 hp => ?_)
    · repeat (first | simp | with_reducible first | refine awp_reg ?_ | refine And.intro (by omega) ?_ | refine optF_if (by omega) ?_)
      obtain ⟨hb198, e112⟩ := guardO_some e112
      obtain ⟨o188, e187, e112⟩ := bindO e112
      try dsimp only at e112
      refine awp_loopW (fun (v : (List AwaitSpin) × Nat × (List Func)) (σ : St) => await_Rewrite_L1 v.1 v.2.1 v.2.2 = some o188 ∧ v.1 = y6.drop v.2.1 ∧ σ.env 2 = .cell (.ref (.o 1 1 0) 0) ∧ σ.env 7 = .cell (.ref (.o 4 2 0) 0) ∧ σ.env 23 = .cell (.p (.sl y6.length (encL y6))) ∧ σ.env 24 = iV .i64 ((y6.length : Nat) : Int) ∧ σ.env 25 = iV .i64 ((v.2.1 : Nat) : Int) ∧ σ.hp (.o 1 1 0) = some (.cells [.z, .z, .z, .z, .z]) ∧ σ.hp (.l 39) = some (.cells (oencL v.2.2)) ∧ σ.hp (.o 4 2 0) = some (.cells [.sl (.o 4 1 0) 0 2 y4.Vars.length, .sl (.o 4 1 1) 0 1 y4.Mutexes.length, .sl (.o 4 1 2) 0 1 y4.Conds.length, .sl (.l 39) 0 2 v.2.2.length, .sl (.o 4 1 4) 0 2 y4.Threads.length]) ∧ σ.hp (.o 4 1 0) = some (.pure (encL y4.Vars)) ∧ σ.hp (.o 4 1 1) = some (.pure (encL y4.Mutexes)) ∧ σ.hp (.o 4 1 2) = some (.pure (encL y4.Conds)) ∧ σ.hp (.o 4 1 4) = some (.pure (encL y4.Threads)) ∧ 5 ≤ σ.gen) (fun v => v.1.length) _ (Gh.ren _ (.o 4 1 3) (.l 39) (by simp) rfl rfl) (y6, 0, y4.Funcs) ⟨e187, by simp, by simp [St.frz, St.pur], by simp [St.frz, St.pur], by simp [St.frz, St.pur], by simp [St.frz, St.pur], by simp [St.frz, St.pur], by simp [St.frz, St.pur], by simp [St.frz, St.pur], by simp [St.frz, St.pur], by simp [St.frz, St.pur], by simp [St.frz, St.pur], by simp [St.frz, St.pur], by simp [St.frz, St.pur], by first | (simp; done) | (simp; omega) | omega⟩ fun v σ6 hp L189 hL190 => ?_
      obtain ⟨q192, k162, l163⟩ := v
      dsimp only at hp hL190
      obtain ⟨e187, hd191, h5_2, h5_7, h5_23, h5_24, h5_25, g5_0, g5_1, g5_2, g5_3, g5_4, g5_5, g5_6, n5_g⟩ := hp
      have n5_0 : ¬ (σ6.gen = 0) := by omega
      have n5_1 : ¬ (σ6.gen = 1) := by omega
      have n5_2 : ¬ (σ6.gen = 2) := by omega
      have n5_3 : ¬ (σ6.gen = 3) := by omega
      rcases q192 with _ | ⟨x197, q193⟩
      · have hlt194 := drop_end hd191
        rw [await_Rewrite_L1] at e187; try dsimp only at e187
        repeat (first | simp [h5_2, h5_7, h5_23, h5_24, h5_25, g5_0, g5_1, g5_2, g5_3, g5_4, g5_5, g5_6, n5_0, n5_1, n5_2, n5_3] | with_reducible refine awp_reg ?_)
        refine condK_f (by simp [ltI]; omega) ?_
        obtain rfl := Option.some.inj e187
        try dsimp only at e112
        refine hK114 l163 _ _ (Gh.ren _ (.l 39) (.l 14) (by simp) rfl rfl) ⟨e112, ?_, ?_, ?_, ?_, ?_, ?_, ?_, ?_, ?_, by first | (simp; done) | (simp; omega) | omega⟩ <;> simp [St.frz, St.pur, h5_2, h5_7, h5_23, h5_24, h5_25, g5_0, g5_1, g5_2, g5_3, g5_4, g5_5, g5_6, n5_0, n5_1, n5_2, n5_3]
      · obtain ⟨hx196, hlt194, hd199⟩ := drop_next hd191
        have ew195 := wrap_succG hlt194 hb198
        rw [await_Rewrite_L1] at e187; try dsimp only at e187
        repeat (first | simp [h5_2, h5_7, h5_23, h5_24, h5_25, g5_0, g5_1, g5_2, g5_3, g5_4, g5_5, g5_6, n5_0, n5_1, n5_2, n5_3, hlt194, ew195] | with_reducible refine awp_reg ?_)
        refine condK_t (by simp [ltI]; omega) ?_
        have f200 : partCV Tryd.prog 100 (encL y6) (k162 * 10) = some (.agg [.p (.c (.int .i64 x197.fn)), .p (.c (.int .i64 x197.first)), .p (.c (.int .i64 x197.await.Op)), .p (.c (.int .i64 x197.await.A)), .p (.c (.int .i64 x197.await.B)), .p (.c (.int .i64 x197.await.C)), .p (.c (.int .i64 x197.await.Obj)), .p (.c (.int .i64 x197.await.N)), .p (.c (.int .i64 x197.await.Fn)), .p (.c (.int .i64 x197.await.Order))]) := partCV_enc hx196 (f := 0) (by simp)
        obtain ⟨x201, hx202, e187⟩ := bindO e187
        try dsimp only at e187
        obtain ⟨hx202a, hx202b, hx202c, hx202d⟩ := getI_some hx202
        repeat (first | simp [h5_2, h5_7, h5_23, h5_24, h5_25, g5_0, g5_1, g5_2, g5_3, g5_4, g5_5, g5_6, n5_0, n5_1, n5_2, n5_3, hlt194, ew195, f200] | with_reducible first | refine ord_l (by kernel_rfl) ?_ | refine ord_e (by kernel_rfl) ?_ | refine ord_c (by kernel_rfl) ?_ | refine ord_d (by kernel_rfl) ?_ | refine And.intro (by omega) ?_ | refine optF_if (by omega) ?_)
        refine awp_reg ?_
        repeat (first | simp [h5_2, h5_7, h5_23, h5_24, h5_25, g5_0, g5_1, g5_2, g5_3, g5_4, g5_5, g5_6, n5_0, n5_1, n5_2, n5_3, hlt194, ew195, f200] | with_reducible first | refine ord_l (by kernel_rfl) ?_ | refine ord_e (by kernel_rfl) ?_ | refine ord_c (by kernel_rfl) ?_ | refine ord_d (by kernel_rfl) ?_ | refine And.intro (by omega) ?_ | refine optF_if (by omega) ?_)
        have f203a : (oencL l163)[((x197.fn).toNat) * 2 + 1]? = some (.own (.sp 8 x201.Code.length (encL x201.Code))) := oencL_get hx202d (f := 1) rfl
        have f203l : ((x197.fn).toNat) * 2 + 1 < (oencL l163).length := (List.getElem?_eq_some_iff.1 f203a).1
        have f203c := fun c => (set_seg f203l c).1
        have f203d := fun c => (set_seg f203l c).2
        refine awp_gh (by rfl) (Gh.opn _ (.l 39) (((x197.fn).toNat) * 2 + 1)) ?_
        obtain ⟨x211, hx212, e187⟩ := bindO e187
        try dsimp only at e187
        obtain ⟨hx212a, hx212b, hx212c, hx212d⟩ := getI_some hx212
        obtain ⟨l213, hx214, e187⟩ := bindO e187
        try dsimp only at e187
        replace hx214 := (Option.some.inj hx214).symm
        have f215 : setRun (encL x201.Code) (((x197.first).toNat) * 8) [.c (.int .i64 x197.await.Op), .c (.int .i64 x197.await.A), .c (.int .i64 x197.await.B), .c (.int .i64 x197.await.C), .c (.int .i64 x197.await.Obj), .c (.int .i64 x197.await.N), .c (.int .i64 x197.await.Fn), .c (.int .i64 x197.await.Order)] = encL l213 := hx214 ▸ setRun_enc hx212d (f := 0) (by simp) (by simp [setRun])
        simp only [setRun] at f215
        have f215n : l213.length = x201.Code.length := by rw [hx214]; simp
        obtain ⟨l217, hx218, e187⟩ := bindO e187
        try dsimp only at e187
        replace hx218 := (Option.some.inj hx218).symm
        have f216 : (oencL l163).set (((x197.fn).toNat) * 2 + 1) (.own (.sp 8 l213.length (encL l213))) = oencL l217 := by rw [hx218]; exact oencL_set hx202d (f := 1) (by simp) rfl
        have f216n : l217.length = l163.length := by rw [hx218]; simp
        have f216t : (encL l213).take (l213.length * 8) = encL l213 := encL_takeN _ (by simp)
        have f216u : l213.length = x201.Code.length → (encL l213).take (x201.Code.length * 8) = encL l213 := fun h => by rw [← h]; exact encL_takeN _ (by simp)
        have f216v : l213.length = x201.Code.length → (oencL l163).set (((x197.fn).toNat) * 2 + 1) (.own (.sp 8 x201.Code.length (encL l213))) = oencL l217 := fun h => by rw [← h]; exact f216
        repeat (first | simp [h5_2, h5_7, h5_23, h5_24, h5_25, g5_0, g5_1, g5_2, g5_3, g5_4, g5_5, g5_6, n5_0, n5_1, n5_2, n5_3, hlt194, ew195, f200, f203a, f203c, f203d, f215, f215n, f216, f216n, f216t, f216u, f216v] | with_reducible first | refine ord_l (by kernel_rfl) ?_ | refine ord_e (by kernel_rfl) ?_ | refine ord_c (by kernel_rfl) ?_ | refine ord_d (by kernel_rfl) ?_ | refine And.intro (by omega) ?_ | refine optF_if (by omega) ?_)
        refine awp_draw ?_
        repeat (first | simp [h5_2, h5_7, h5_23, h5_24, h5_25, g5_0, g5_1, g5_2, g5_3, g5_4, g5_5, g5_6, n5_0, n5_1, n5_2, n5_3, hlt194, ew195, f200, f203a, f203c, f203d, f215, f215n, f216, f216n, f216t, f216u, f216v] | with_reducible first | refine ord_l (by kernel_rfl) ?_ | refine ord_e (by kernel_rfl) ?_ | refine ord_c (by kernel_rfl) ?_ | refine ord_d (by kernel_rfl) ?_ | refine And.intro (by omega) ?_ | refine optF_if (by omega) ?_)
        refine awp_gh (by rfl) (Gh.close _ (.l 39) (((x197.fn).toNat) * 2 + 1)) ?_
        try simp only [St.frz, St.pur]
        repeat (first | simp [h5_2, h5_7, h5_23, h5_24, h5_25, g5_0, g5_1, g5_2, g5_3, g5_4, g5_5, g5_6, n5_0, n5_1, n5_2, n5_3, hlt194, ew195, f200, f203a, f203c, f203d, f215, f215n, f216, f216n, f216t, f216u, f216v] | with_reducible refine awp_reg ?_)
        refine hL190 (q193, (k162 + 1), l217) _ _ (Gh.refl _) ⟨e187, hd199, ?_, ?_, ?_, ?_, ?_, ?_, ?_, ?_, ?_, ?_, ?_, ?_, by first | (simp; done) | (simp; omega) | omega⟩ (by simp) <;> simp [St.frz, St.pur, h5_2, h5_7, h5_23, h5_24, h5_25, g5_0, g5_1, g5_2, g5_3, g5_4, g5_5, g5_6, n5_0, n5_1, n5_2, n5_3, hlt194, ew195, f200, f203a, f203c, f203d, f215, f215n, f216, f216n, f216t, f216u, f216v]
    · obtain ⟨e112, h4_2, h4_7, g4_0, g4_1, g4_2, g4_3, g4_4, g4_5, g4_6, n4_g⟩ := hp
      obtain rfl := Option.some.inj e112
      try dsimp only at hs
      have n4_0 : ¬ (σ3.gen = 0) := by omega
      have n4_1 : ¬ (σ3.gen = 1) := by omega
      have n4_2 : ¬ (σ3.gen = 2) := by omega
      have n4_3 : ¬ (σ3.gen = 3) := by omega
      repeat (first | simp [h4_2, h4_7, g4_0, g4_1, g4_2, g4_3, g4_4, g4_5, g4_6, n4_0, n4_1, n4_2, n4_3] | with_reducible first | refine awp_reg ?_ | refine And.intro (by omega) ?_ | refine optF_if (by omega) ?_)
      obtain rfl := Option.some.inj hs
      refine hQ _ _ (ret2g _ ((Gh.frz _ (.o 4 1 0)).trans ((Gh.frz _ (.o 4 1 1)).trans ((Gh.frz _ (.o 4 1 2)).trans ((Gh.frz _ (.l 14)).trans (Gh.frz _ (.o 4 1 4)))))) (by simp [St.frz, St.pur, h4_2, h4_7, g4_0, g4_1, g4_2, g4_3, g4_4, g4_5, g4_6, n4_0, n4_1, n4_2, n4_3]; rfl) (by first | rfl | (simp [St.frz, St.pur, h4_2, h4_7, g4_0, g4_1, g4_2, g4_3, g4_4, g4_5, g4_6, n4_0, n4_1, n4_2, n4_3]; done) | (rw [if_pos (by first | omega | (simp; omega))]; simp [St.frz, St.pur, h4_2, h4_7, g4_0, g4_1, g4_2, g4_3, g4_4, g4_5, g4_6, n4_0, n4_1, n4_2, n4_3]; first | omega | exact List.take_of_length_le (by simp; omega) | skip)) (by simp))
end Go.Dc
end
section
set_option linter.all false
namespace Go.Dc
open Go Go.Hw Go.Proofs
set_option maxRecDepth 100000

def law14_example (a0 : Int) : Option Program :=
  Option.bind (some ([({ Op := 1, A := 1, B := 0, C := 0, Obj := 0, N := 1, Fn := 0, Order := 0 } : Inst), ({ Op := 8, A := 2, B := 0, C := 0, Obj := 0, N := 0, Fn := 0, Order := 2 } : Inst), ({ Op := 3, A := 3, B := 2, C := 1, Obj := 0, N := 0, Fn := a0, Order := 0 } : Inst), ({ Op := 5, A := 0, B := 3, C := 0, Obj := 0, N := 1, Fn := 0, Order := 0 } : Inst)])) (fun l1 => Option.bind (some ([({ Name := (⟨#[120]⟩ : ByteArray), Init := 0 } : Var)])) (fun l3 => Option.bind (some ([({ Name := (⟨#[102]⟩ : ByteArray), Code := l1 } : Func)])) (fun l5 => Option.bind (some ([({ Func := 0, Arg := 0 } : Start)])) (fun l7 => some ({ Vars := l3, Mutexes := [], Conds := [], Funcs := l5, Threads := l7 } : Program)))))

set_option maxHeartbeats 2000000 in
theorem at_law14_example {a0 : Int} {r : Program} (hs : law14_example a0 = some r) : At Tryd.prog 63 [iV .i64 a0] (.agg [.p (.sl r.Vars.length (encL r.Vars)), .p (.sl r.Mutexes.length (encL r.Mutexes)), .p (.sl r.Conds.length (encL r.Conds)), .p (.sl r.Funcs.length (encL r.Funcs)), .p (.sl r.Threads.length (encL r.Threads))]) := by
  refine at_bound (by kernel_rfl) fun hb => ?_
  refine at_code mixed Tryd.func63 (by kernel_rfl) rfl (by kernel_rfl) rfl fun Q hQ => ?_
  rw [law14_example] at hs
  obtain ⟨l1, hx2, hs⟩ := bindO hs
  try dsimp only at hs
  replace hx2 := (Option.some.inj hx2).symm
  have hx2n : l1.length = 4 := by rw [hx2]; rfl
  obtain ⟨l3, hx4, hs⟩ := bindO hs
  try dsimp only at hs
  replace hx4 := (Option.some.inj hx4).symm
  have hx4n : l3.length = 1 := by rw [hx4]; rfl
  obtain ⟨l5, hx6, hs⟩ := bindO hs
  try dsimp only at hs
  replace hx6 := (Option.some.inj hx6).symm
  have hx6n : l5.length = 1 := by rw [hx6]; rfl
  obtain ⟨l7, hx8, hs⟩ := bindO hs
  try dsimp only at hs
  replace hx8 := (Option.some.inj hx8).symm
  have hx8n : l7.length = 1 := by rw [hx8]; rfl
  repeat (first | simp [hx2, hx4, hx6, hx8] | with_reducible first | refine awp_reg ?_ | refine And.intro (by omega) ?_ | refine optF_if (by omega) ?_)
  obtain rfl := Option.some.inj hs
  refine hQ _ _ (ret2g _ ((Gh.frz _ (.o 2 5 0)).trans ((Gh.pur _ (.o 3 4 0)).trans ((Gh.frz _ (.o 3 1 0)).trans ((Gh.frz _ (.o 3 4 0)).trans ((Gh.frz _ (.o 3 6 0)).trans (Gh.unz _)))))) (by simp [St.frz, St.pur, hx2, hx4, hx6, hx8]; rfl) (by first | rfl | (simp [St.frz, St.pur, hx2, hx4, hx6, hx8]; done) | (rw [if_pos (by first | omega | (simp; omega))]; simp [St.frz, St.pur, hx2, hx4, hx6, hx8]; first | omega | exact List.take_of_length_le (by simp; omega) | skip)) (by simp))
end Go.Dc
end
section
set_option linter.all false
namespace Go.Dc
open Go Go.Hw Go.Proofs
set_option maxRecDepth 100000

def law14_lives (fuelN : Nat)  : Option Bool :=
  Option.bind (law14_example 8) (fun y1 => Option.bind (await_Find fuelN y1) (fun y3 => Option.bind (law14_example 9) (fun y5 => Option.bind (await_Find fuelN y5) (fun y7 => Option.bind (law14_example 8) (fun y9 => Option.bind (await_Rewrite fuelN y9) (fun y11 => guardO (orB (!(!(orB (orB (orB (orB (!(eqI y3.2 0)) (!(eqI y7.2 0))) (!(eqI y11.2 0))) (!(eqI ((y7.1.length : Nat) : Int) 0))) (!(eqI ((y11.1.Funcs.length : Nat) : Int) 1))))) (inB (0 : Int) y11.1.Funcs.length)) (cond (orB (orB (orB (orB (orB (!(eqI y3.2 0)) (!(eqI y7.2 0))) (!(eqI y11.2 0))) (!(eqI ((y7.1.length : Nat) : Int) 0))) (!(eqI ((y11.1.Funcs.length : Nat) : Int) 1))) (!(eqI ((((gd y11.1.Funcs 0).Code).length : Nat) : Int) 4))) (some false) (Option.bind (some ([({ Func := 0, First := 1, Last := 3 } : Spin)])) (fun l16 => Option.bind (r14_Same y3.1 l16) (fun y18 => guardO (orB (!y18) (inB (0 : Int) y11.1.Funcs.length)) (guardO (orB (!y18) (inB (1 : Int) ((gd y11.1.Funcs 0).Code).length)) (some (andB y18 ((gd ((gd y11.1.Funcs 0).Code) 1).Op == 14 && ((gd ((gd y11.1.Funcs 0).Code) 1).A == 2 && ((gd ((gd y11.1.Funcs 0).Code) 1).B == 1 && ((gd ((gd y11.1.Funcs 0).Code) 1).C == 0 && ((gd ((gd y11.1.Funcs 0).Code) 1).Obj == 0 && ((gd ((gd y11.1.Funcs 0).Code) 1).N == 0 && ((gd ((gd y11.1.Funcs 0).Code) 1).Fn == 7 && ((gd ((gd y11.1.Funcs 0).Code) 1).Order == 2 && true)))))))))))))))))))))

set_option maxHeartbeats 2000000 in
theorem at_law14_lives {fuelN : Nat}  {r : Bool} (hs : law14_lives fuelN = some r) : At Tryd.prog 35 [] (bV r) := by
  refine at_bound (by kernel_rfl) fun hb => ?_
  refine at_code mixed Tryd.func35 (by kernel_rfl) rfl (by kernel_rfl) rfl fun Q hQ => ?_
  rw [law14_lives] at hs
  repeat (first | simp | with_reducible first | refine awp_reg ?_ | refine And.intro (by omega) ?_ | refine optF_if (by omega) ?_)
  obtain ⟨y1, hx2, hs⟩ := bindO hs
  try dsimp only at hs
  refine callK_pure (at_law14_example hx2) (by (first | simp | simp (disch := omega) []); try rfl) (by simp) (by simp) ?_
  repeat (first | simp | with_reducible first | refine awp_reg ?_ | refine And.intro (by omega) ?_ | refine optF_if (by omega) ?_)
  obtain ⟨y3, hx4, hs⟩ := bindO hs
  try dsimp only at hs
  refine callK_pure (at_await_Find hx4) (by (first | simp | simp (disch := omega) []); try rfl) (by simp) (by simp) ?_
  repeat (first | simp | with_reducible first | refine awp_reg ?_ | refine And.intro (by omega) ?_ | refine optF_if (by omega) ?_)
  obtain ⟨y5, hx6, hs⟩ := bindO hs
  try dsimp only at hs
  refine callK_pure (at_law14_example hx6) (by (first | simp | simp (disch := omega) []); try rfl) (by simp) (by simp) ?_
  repeat (first | simp | with_reducible first | refine awp_reg ?_ | refine And.intro (by omega) ?_ | refine optF_if (by omega) ?_)
  obtain ⟨y7, hx8, hs⟩ := bindO hs
  try dsimp only at hs
  refine callK_pure (at_await_Find hx8) (by (first | simp | simp (disch := omega) []); try rfl) (by simp) (by simp) ?_
  repeat (first | simp | with_reducible first | refine awp_reg ?_ | refine And.intro (by omega) ?_ | refine optF_if (by omega) ?_)
  obtain ⟨y9, hx10, hs⟩ := bindO hs
  try dsimp only at hs
  refine callK_pure (at_law14_example hx10) (by (first | simp | simp (disch := omega) []); try rfl) (by simp) (by simp) ?_
  repeat (first | simp | with_reducible first | refine awp_reg ?_ | refine And.intro (by omega) ?_ | refine optF_if (by omega) ?_)
  obtain ⟨y11, hx12, hs⟩ := bindO hs
  try dsimp only at hs
  refine callK_pure (at_await_Rewrite hx12) (by (first | simp | simp (disch := omega) []); try rfl) (by simp) (by simp) ?_
  obtain ⟨g13, hs⟩ := guardO_some hs
  have g13a : (!(orB (orB (orB (orB (!(eqI y3.2 0)) (!(eqI y7.2 0))) (!(eqI y11.2 0))) (!(eqI ((y7.1.length : Nat) : Int) 0))) (!(eqI ((y11.1.Funcs.length : Nat) : Int) 1)))) = true → 0 ≤ (0 : Int) := fun hg => (under_elem g13 hg).1
  have g13b : (!(orB (orB (orB (orB (!(eqI y3.2 0)) (!(eqI y7.2 0))) (!(eqI y11.2 0))) (!(eqI ((y7.1.length : Nat) : Int) 0))) (!(eqI ((y11.1.Funcs.length : Nat) : Int) 1)))) = true → (0 : Int) < (y11.1.Funcs.length : Int) := fun hg => (under_elem g13 hg).2.1
  have g13n : (!(orB (orB (orB (orB (!(eqI y3.2 0)) (!(eqI y7.2 0))) (!(eqI y11.2 0))) (!(eqI ((y7.1.length : Nat) : Int) 0))) (!(eqI ((y11.1.Funcs.length : Nat) : Int) 1)))) = true → 0 < y11.1.Funcs.length := fun hg => by simpa using (under_elem g13 hg).2.2.1
  have g13c : (!(orB (orB (orB (orB (!(eqI y3.2 0)) (!(eqI y7.2 0))) (!(eqI y11.2 0))) (!(eqI ((y7.1.length : Nat) : Int) 0))) (!(eqI ((y11.1.Funcs.length : Nat) : Int) 1)))) = true → y11.1.Funcs[0]? = some (gd y11.1.Funcs 0) := fun hg => by simpa using (under_elem g13 hg).2.2.2
  have f14 : (!(orB (orB (orB (orB (!(eqI y3.2 0)) (!(eqI y7.2 0))) (!(eqI y11.2 0))) (!(eqI ((y7.1.length : Nat) : Int) 0))) (!(eqI ((y11.1.Funcs.length : Nat) : Int) 1)))) = true → partCV Tryd.prog 22 (encL y11.1.Funcs) (0 * 2 + 1) = some (.cell (.p (.sl ((gd y11.1.Funcs 0).Code).length (encL ((gd y11.1.Funcs 0).Code))))) := fun hg => partCV_enc (g13c hg) (f := 1) (by simp)
  repeat (first | simp [g13a, g13b, g13n, f14] | with_reducible first | refine awp_reg ?_ | refine And.intro (by omega) ?_ | refine optF_if (by omega) ?_ | refine gsel_pure (by with_unfolding_all rfl) _ (fun hg => by (try simp at hg); first | (simp [hg, g13a, g13b, g13n, f14]; rfl) | (simp [g13a, g13b, g13n, f14]; simp only [if_pos hg]; simp [g13a, g13b, g13n, f14]; rfl)) ?_)
  refine condK_spec (orB (orB (orB (orB (orB (!(eqI y3.2 0)) (!(eqI y7.2 0))) (!(eqI y11.2 0))) (!(eqI ((y7.1.length : Nat) : Int) 0))) (!(eqI ((y11.1.Funcs.length : Nat) : Int) 1))) (!(eqI ((((gd y11.1.Funcs 0).Code).length : Nat) : Int) 4))) (by first | rfl | (simp [g13a, g13b, g13n, f14]; done) | (simp [andB, orB, eqI, ltI, Int.natCast_inj, g13a, g13b, g13n, f14]; done)) (fun h15 => ?_) (fun h15 => ?_)
  · replace hs := condT h15 hs
    repeat (first | simp [g13a, g13b, g13n, f14] | with_reducible first | refine awp_reg ?_ | refine And.intro (by omega) ?_ | refine optF_if (by omega) ?_ | refine gsel_pure (by with_unfolding_all rfl) _ (fun hg => by (try simp at hg); first | (simp [hg, g13a, g13b, g13n, f14]; rfl) | (simp [g13a, g13b, g13n, f14]; simp only [if_pos hg]; simp [g13a, g13b, g13n, f14]; rfl)) ?_)
    obtain rfl := Option.some.inj hs
    refine hQ _ _ (ret2g _ (Gh.refl _) (by simp [St.frz, St.pur, g13a, g13b, g13n, f14]; rfl) (by first | rfl | (simp [St.frz, St.pur, g13a, g13b, g13n, f14]; done) | (rw [if_pos (by first | omega | (simp; omega))]; simp [St.frz, St.pur, g13a, g13b, g13n, f14]; first | omega | exact List.take_of_length_le (by simp; omega) | skip)) (by simp))
  · replace hs := condF h15 hs
    obtain ⟨l16, hx17, hs⟩ := bindO hs
    try dsimp only at hs
    replace hx17 := (Option.some.inj hx17).symm
    have hx17n : l16.length = 1 := by rw [hx17]; rfl
    repeat (first | simp [g13a, g13b, g13n, f14, hx17] | with_reducible first | refine awp_reg ?_ | refine And.intro (by omega) ?_ | refine optF_if (by omega) ?_ | refine gsel_pure (by with_unfolding_all rfl) _ (fun hg => by (try simp at hg); first | (simp [hg, g13a, g13b, g13n, f14, hx17]; rfl) | (simp [g13a, g13b, g13n, f14, hx17]; simp only [if_pos hg]; simp [g13a, g13b, g13n, f14, hx17]; rfl)) ?_)
    obtain ⟨y18, hx19, hs⟩ := bindO hs
    try dsimp only at hs
    refine callK_at (at_r14_Same hx19) [] (by (first | simp [g13a, g13b, g13n, f14, hx17] | simp (disch := omega) [g13a, g13b, g13n, f14, hx17]); try rfl) (by simp) (by simp) (by simp; rfl) (by simp [g13a, g13b, g13n, f14, hx17]; rfl) ?_
    obtain ⟨g20, hs⟩ := guardO_some hs
    have g20a : y18 = true → 0 ≤ (0 : Int) := fun hg => (under_elem g20 hg).1
    have g20b : y18 = true → (0 : Int) < (y11.1.Funcs.length : Int) := fun hg => (under_elem g20 hg).2.1
    have g20n : y18 = true → 0 < y11.1.Funcs.length := fun hg => by simpa using (under_elem g20 hg).2.2.1
    have g20c : y18 = true → y11.1.Funcs[0]? = some (gd y11.1.Funcs 0) := fun hg => by simpa using (under_elem g20 hg).2.2.2
    have f21 : y18 = true → partCV Tryd.prog 22 (encL y11.1.Funcs) (0 * 2 + 1) = some (.cell (.p (.sl ((gd y11.1.Funcs 0).Code).length (encL ((gd y11.1.Funcs 0).Code))))) := fun hg => partCV_enc (g20c hg) (f := 1) (by simp)
    obtain ⟨g22, hs⟩ := guardO_some hs
    have g22a : y18 = true → 0 ≤ (1 : Int) := fun hg => (under_elem g22 hg).1
    have g22b : y18 = true → (1 : Int) < (((gd y11.1.Funcs 0).Code).length : Int) := fun hg => (under_elem g22 hg).2.1
    have g22n : y18 = true → 1 < ((gd y11.1.Funcs 0).Code).length := fun hg => by simpa using (under_elem g22 hg).2.2.1
    have g22c : y18 = true → ((gd y11.1.Funcs 0).Code)[1]? = some (gd ((gd y11.1.Funcs 0).Code) 1) := fun hg => by simpa using (under_elem g22 hg).2.2.2
    have f23 : y18 = true → partCV Tryd.prog 71 (encL ((gd y11.1.Funcs 0).Code)) (1 * 8) = some (.agg [.p (.c (.int .i64 ((gd ((gd y11.1.Funcs 0).Code) 1).Op))), .p (.c (.int .i64 ((gd ((gd y11.1.Funcs 0).Code) 1).A))), .p (.c (.int .i64 ((gd ((gd y11.1.Funcs 0).Code) 1).B))), .p (.c (.int .i64 ((gd ((gd y11.1.Funcs 0).Code) 1).C))), .p (.c (.int .i64 ((gd ((gd y11.1.Funcs 0).Code) 1).Obj))), .p (.c (.int .i64 ((gd ((gd y11.1.Funcs 0).Code) 1).N))), .p (.c (.int .i64 ((gd ((gd y11.1.Funcs 0).Code) 1).Fn))), .p (.c (.int .i64 ((gd ((gd y11.1.Funcs 0).Code) 1).Order)))]) := fun hg => partCV_enc (g22c hg) (f := 0) (by simp)
    repeat (first | simp [g13a, g13b, g13n, f14, hx17, g20a, g20b, g20n, f21, g22a, g22b, g22n, f23, eqCells] | with_reducible first | refine awp_reg ?_ | refine And.intro (by omega) ?_ | refine optF_if (by omega) ?_ | refine gsel_pure (by with_unfolding_all rfl) _ (fun hg => by (try simp at hg); first | (simp [hg, g13a, g13b, g13n, f14, hx17, g20a, g20b, g20n, f21, g22a, g22b, g22n, f23, eqCells]; rfl) | (simp [g13a, g13b, g13n, f14, hx17, g20a, g20b, g20n, f21, g22a, g22b, g22n, f23, eqCells]; simp only [if_pos hg]; simp [g13a, g13b, g13n, f14, hx17, g20a, g20b, g20n, f21, g22a, g22b, g22n, f23, eqCells]; rfl)) ?_)
    obtain rfl := Option.some.inj hs
    refine hQ _ _ (ret2g _ (Gh.refl _) (by simp [St.frz, St.pur, g13a, g13b, g13n, f14, hx17, g20a, g20b, g20n, f21, g22a, g22b, g22n, f23, eqCells]; rfl) (by first | rfl | (simp [St.frz, St.pur, g13a, g13b, g13n, f14, hx17, g20a, g20b, g20n, f21, g22a, g22b, g22n, f23, eqCells]; done) | (rw [if_pos (by first | omega | (simp; omega))]; simp [St.frz, St.pur, g13a, g13b, g13n, f14, hx17, g20a, g20b, g20n, f21, g22a, g22b, g22n, f23, eqCells]; first | omega | exact List.take_of_length_le (by simp; omega) | skip)) (by simp))
end Go.Dc
end
section
set_option linter.all false
namespace Go.Dc
open Go Go.Hw Go.Proofs
set_option maxRecDepth 100000

def law14_AwaitFinds (fuelN : Nat) (a0 : Program) : Option Bool :=
  Option.bind (r08_Small a0) (fun y1 => cond (!y1) (Option.bind (law14_lives fuelN) (fun y4 => some y4)) (Option.bind (await_Find fuelN a0) (fun y6 => Option.bind (r14_Find fuelN a0) (fun y8 => guardO (orB (!(eqI y6.2 y8.2)) ((r14_Same y6.1 y8.1).isSome)) (guardO (orB (!(andB (eqI y6.2 y8.2) ((r14_Same y6.1 y8.1).getD default))) ((law14_lives fuelN).isSome)) (some (andB (andB (eqI y6.2 y8.2) ((r14_Same y6.1 y8.1).getD default)) ((law14_lives fuelN).getD default))))))))

end Go.Dc
end
section
set_option linter.all false
namespace Go.Dc.Pl
open Go Go.Hw Go.Dc
set_option maxRecDepth 100000
theorem flat1 {α β : Type} (h : α → List β) (hc : ∀ k, (h k).length ≤ 1) (l : List α) : (l.flatMap h).length ≤ l.length := by have := flat_le h 1 hc l; omega
theorem spinsOf_le {k : Nat} {f : Func} : (spinsOf k f).length ≤ f.Code.length := by
  have := flat1 (spinO k f) (spinO_le k f) (List.range f.Code.length); rwa [List.length_range] at this
def fOf (p : Program) (k : Nat) : Func := gd p.Funcs k
theorem fOf_eq {p : Program} {k : Nat} (h : k < p.Funcs.length) : p.Funcs[k]? = some (fOf p k) := by
  rw [fOf, gd, List.getD_eq_getElem?_getD, List.getElem?_eq_getElem h]; rfl
theorem fOf_le {p : Program} (hp : small p = true) (k : Nat) : (fOf p k).Code.length ≤ 100 := by
  obtain ⟨s1, s2, s3, s4, s5, s6⟩ := small_t hp
  by_cases h : k < p.Funcs.length
  · exact s6 _ (List.mem_of_getElem? (fOf_eq h))
  · rw [fOf, gd, List.getD_eq_getElem?_getD, List.getElem?_eq_none (by omega)]; show ([] : List Inst).length ≤ 100; simp
theorem spins_eq {p : Program} (hp : small p = true) {fuel : Nat} (hf : 200 ≤ fuel) : await_spins fuel p = some (spins p) ∧ (spins p).length ≤ 2000 := by
  obtain ⟨s1, s2, s3, s4, s5, s6⟩ := small_t hp
  have hle : ∀ k, (spinsOf k (fOf p k)).length ≤ 100 := fun k => Nat.le_trans spinsOf_le (fOf_le hp k)
  have h := gathN (L := await_spins_L1 fuel p) p.Funcs.length 0 100 (fun k => spinsOf k (fOf p k)) hle (fun q s => by rw [await_spins_L1]; simp [ltI_d]) (fun q k s hk hs => by
    rw [await_spins_L1, ltI_d, show decide ((k : Int) < ((p.Funcs.length : Nat) : Int)) = true by simp; omega, cond_true, getI_nat, fOf_eq hk, Option.bind_some, spins_L2 (fOf_le hp k) hf (by omega), wrapS (by omega)]; rfl) fuel 0 [] (by simp) (by omega) (by omega)
  rw [Int.natCast_zero] at h
  rw [await_spins, h, Nat.sub_zero, ← List.range_eq_range', List.nil_append]
  refine ⟨rfl, ?_⟩
  have := flat_le (fun k => spinsOf k (fOf p k)) 100 hle (List.range p.Funcs.length)
  rw [List.length_range] at this
  exact Nat.le_trans this (by omega)
def toSpin (x : AwaitSpin) : Spin := { Func := x.fn, First := x.first, Last := IntKind.i64.wrap (x.first + 2) }
def found (p : Program) : List Spin := (spins p).map toSpin
theorem find_L2 {p : Program} (hp : small p = true) {fuel k : Nat} {s : List Spin} (hk : k < p.Funcs.length) (hf : 200 ≤ fuel) (hs : s.length ≤ 10000) : r14_Find_L2 p (k : Int) fuel s 0 = some (s ++ (spinsOf k (fOf p k)).map toSpin) := by
  have hl := fOf_le hp k
  have h := gathN (L := r14_Find_L2 p (k : Int)) (fOf p k).Code.length s.length 1 (fun i => (spinO k (fOf p k) i).map toSpin) (fun i => by rw [List.length_map]; exact spinO_le _ _ _) (fun q s' => by
      rw [r14_Find_L2, getI_nat, fOf_eq hk, Option.bind_some]; simp [ltI_d]) (fun q i s' hi hs' => by
      rw [r14_Find_L2, getI_nat, fOf_eq hk, Option.bind_some, ltI_d, show decide ((i : Int) < (((fOf p k).Code.length : Nat) : Int)) = true by simp; omega, cond_true, cond_eq (by omega) hi, Option.bind_some, wrapS (by omega), spinO]
      cases awF (fOf p k) i with
      | none => simp
      | some x =>
        show guardO (limB 24 (s'.length + 1)) _ = _
        rw [limB24 (by omega)]; rfl) fuel 0 s (by omega) (by omega) (by omega)
  rw [Int.natCast_zero] at h
  rw [h, Nat.sub_zero, ← List.range_eq_range', spinsOf, List.map_flatMap]
theorem ref_find {p : Program} (hp : small p = true) {fuel : Nat} (hf : 200 ≤ fuel) : r14_Find fuel p = some (cond (!(eqI (chk p).1 0)) ([], (chk p).1) (found p, 0)) := by
  obtain ⟨s1, s2, s3, s4, s5, s6⟩ := small_t hp
  have hle : ∀ k, (spinsOf k (fOf p k)).length ≤ 100 := fun k => Nat.le_trans spinsOf_le (fOf_le hp k)
  have h := gathN (L := r14_Find_L1 fuel p) p.Funcs.length 0 100 (fun k => (spinsOf k (fOf p k)).map toSpin) (fun k => by rw [List.length_map]; exact hle k) (fun q s => by rw [r14_Find_L1]; simp [ltI_d]) (fun q k s hk hs => by
    rw [r14_Find_L1, ltI_d, show decide ((k : Int) < ((p.Funcs.length : Nat) : Int)) = true by simp; omega, cond_true, find_L2 hp hk hf (by omega), wrapS (by omega)]; rfl) fuel 0 [] (by simp) (by omega) (by omega)
  rw [Int.natCast_zero] at h
  rw [r14_Find, ref_check hp (by omega), Option.bind_some, h, Nat.sub_zero, ← List.range_eq_range', List.nil_append, found, spins, List.map_flatMap]
  cases !(eqI (chk p).1 0) <;> rfl
theorem lives : law14_lives 200 = some true := by kernel_rfl
end Go.Dc.Pl
end
section
set_option linter.all false
namespace Go.Dc
open Go Go.Hw Go.Proofs
set_option maxRecDepth 100000
def r08_Clone_L1 : List Func → Nat → (List Func) → Option (List Func)
  | [], k240, l241 => some (l241)
  | x283 :: q279, k240, l241 => Option.bind (some (([] : List Inst))) (fun l298 => guardO (limB 64 (l298.length + x283.Code.length)) (Option.bind (some (l298 ++ x283.Code)) (fun l302 => Option.bind (some ([{ x283 with Code := l302 }])) (fun l304 => guardO (limB 40 (l241.length + l304.length)) (Option.bind (some (l241 ++ l304)) (fun l307 => r08_Clone_L1 q279 (k240 + 1) l307))))))

def r08_Clone (a0 : Program) : Option Program :=
  Option.bind (some (([] : List Var))) (fun l21 => guardO (limB 24 (l21.length + a0.Vars.length)) (Option.bind (some (l21 ++ a0.Vars)) (fun l24 => Option.bind (some (([] : List ByteArray))) (fun l26 => guardO (limB 16 (l26.length + a0.Mutexes.length)) (Option.bind (some (l26 ++ a0.Mutexes)) (fun l29 => Option.bind (some (([] : List ByteArray))) (fun l31 => guardO (limB 16 (l31.length + a0.Conds.length)) (Option.bind (some (l31 ++ a0.Conds)) (fun l34 => Option.bind (some (([] : List Start))) (fun l36 => guardO (limB 16 (l36.length + a0.Threads.length)) (Option.bind (some (l36 ++ a0.Threads)) (fun l39 => Option.bind (α := (List Func)) (Option.bind (r08_Clone_L1 a0.Funcs 0 []) (fun l272 => some (l272))) (fun l173 => some ({ Vars := l24, Mutexes := l29, Conds := l34, Funcs := l173, Threads := l39 } : Program))))))))))))))

set_option maxHeartbeats 2000000 in
theorem at_r08_Clone {a0 : Program} {r : Program} (hs : r08_Clone a0 = some r) : CAt Tryd.prog 39 [.agg [.p (.sl a0.Vars.length (encL a0.Vars)), .p (.sl a0.Mutexes.length (encL a0.Mutexes)), .p (.sl a0.Conds.length (encL a0.Conds)), .p (.sl a0.Funcs.length (encL a0.Funcs)), .p (.sl a0.Threads.length (encL a0.Threads))]] [] (.ret (.agg [.sl (.r 0) 0 2 r.Vars.length, .sl (.r 1) 0 1 r.Mutexes.length, .sl (.r 2) 0 1 r.Conds.length, .sl (.r 3) 0 2 r.Funcs.length, .sl (.r 4) 0 2 r.Threads.length])) [(.r 0, .pure (encL r.Vars)), (.r 1, .pure (encL r.Mutexes)), (.r 2, .pure (encL r.Conds)), (.r 3, .cells (oencL r.Funcs)), (.r 4, .pure (encL r.Threads))] := by
  refine at_bound (by kernel_rfl) fun hb => ?_
  have hb1 : LenOk (.sl a0.Vars.length (encL a0.Vars)) := hb (.agg [.p (.sl a0.Vars.length (encL a0.Vars)), .p (.sl a0.Mutexes.length (encL a0.Mutexes)), .p (.sl a0.Conds.length (encL a0.Conds)), .p (.sl a0.Funcs.length (encL a0.Funcs)), .p (.sl a0.Threads.length (encL a0.Threads))]) (by simp) (.p (.sl a0.Vars.length (encL a0.Vars))) (by simp)
  have hb2 : LenOk (.sl a0.Mutexes.length (encL a0.Mutexes)) := hb (.agg [.p (.sl a0.Vars.length (encL a0.Vars)), .p (.sl a0.Mutexes.length (encL a0.Mutexes)), .p (.sl a0.Conds.length (encL a0.Conds)), .p (.sl a0.Funcs.length (encL a0.Funcs)), .p (.sl a0.Threads.length (encL a0.Threads))]) (by simp) (.p (.sl a0.Mutexes.length (encL a0.Mutexes))) (by simp)
  have hb3 : LenOk (.sl a0.Conds.length (encL a0.Conds)) := hb (.agg [.p (.sl a0.Vars.length (encL a0.Vars)), .p (.sl a0.Mutexes.length (encL a0.Mutexes)), .p (.sl a0.Conds.length (encL a0.Conds)), .p (.sl a0.Funcs.length (encL a0.Funcs)), .p (.sl a0.Threads.length (encL a0.Threads))]) (by simp) (.p (.sl a0.Conds.length (encL a0.Conds))) (by simp)
  have hb4 : LenOk (.sl a0.Funcs.length (encL a0.Funcs)) := hb (.agg [.p (.sl a0.Vars.length (encL a0.Vars)), .p (.sl a0.Mutexes.length (encL a0.Mutexes)), .p (.sl a0.Conds.length (encL a0.Conds)), .p (.sl a0.Funcs.length (encL a0.Funcs)), .p (.sl a0.Threads.length (encL a0.Threads))]) (by simp) (.p (.sl a0.Funcs.length (encL a0.Funcs))) (by simp)
  have hb5 : LenOk (.sl a0.Threads.length (encL a0.Threads)) := hb (.agg [.p (.sl a0.Vars.length (encL a0.Vars)), .p (.sl a0.Mutexes.length (encL a0.Mutexes)), .p (.sl a0.Conds.length (encL a0.Conds)), .p (.sl a0.Funcs.length (encL a0.Funcs)), .p (.sl a0.Threads.length (encL a0.Threads))]) (by simp) (.p (.sl a0.Threads.length (encL a0.Threads))) (by simp)
  refine at_code mixed Tryd.func39 (by kernel_rfl) rfl (by kernel_rfl) rfl fun Q hQ => ?_
  rw [r08_Clone] at hs
  obtain ⟨l21, hx22, hs⟩ := bindO hs
  try dsimp only at hs
  replace hx22 := (Option.some.inj hx22).symm
  have hx22n : l21.length = 0 := by rw [hx22]; rfl
  obtain ⟨g23, hs⟩ := guardO_some hs
  have g23 := limB_t g23
  obtain ⟨g23a, g23b⟩ := g23
  obtain ⟨l24, hx25, hs⟩ := bindO hs
  try dsimp only at hs
  replace hx25 := (Option.some.inj hx25).symm
  have hx25n : l24.length = (l21.length + a0.Vars.length) := by rw [hx25]; simp
  have hx25e : encL l24 = encL l21 ++ encL a0.Vars := by rw [hx25]; simp
  obtain ⟨l26, hx27, hs⟩ := bindO hs
  try dsimp only at hs
  replace hx27 := (Option.some.inj hx27).symm
  have hx27n : l26.length = 0 := by rw [hx27]; rfl
  obtain ⟨g28, hs⟩ := guardO_some hs
  have g28 := limB_t g28
  obtain ⟨g28a, g28b⟩ := g28
  obtain ⟨l29, hx30, hs⟩ := bindO hs
  try dsimp only at hs
  replace hx30 := (Option.some.inj hx30).symm
  have hx30n : l29.length = (l26.length + a0.Mutexes.length) := by rw [hx30]; simp
  have hx30e : encL l29 = encL l26 ++ encL a0.Mutexes := by rw [hx30]; simp
  obtain ⟨l31, hx32, hs⟩ := bindO hs
  try dsimp only at hs
  replace hx32 := (Option.some.inj hx32).symm
  have hx32n : l31.length = 0 := by rw [hx32]; rfl
  obtain ⟨g33, hs⟩ := guardO_some hs
  have g33 := limB_t g33
  obtain ⟨g33a, g33b⟩ := g33
  obtain ⟨l34, hx35, hs⟩ := bindO hs
  try dsimp only at hs
  replace hx35 := (Option.some.inj hx35).symm
  have hx35n : l34.length = (l31.length + a0.Conds.length) := by rw [hx35]; simp
  have hx35e : encL l34 = encL l31 ++ encL a0.Conds := by rw [hx35]; simp
  obtain ⟨l36, hx37, hs⟩ := bindO hs
  try dsimp only at hs
  replace hx37 := (Option.some.inj hx37).symm
  have hx37n : l36.length = 0 := by rw [hx37]; rfl
  obtain ⟨g38, hs⟩ := guardO_some hs
  have g38 := limB_t g38
  obtain ⟨g38a, g38b⟩ := g38
  obtain ⟨l39, hx40, hs⟩ := bindO hs
  try dsimp only at hs
  replace hx40 := (Option.some.inj hx40).symm
  have hx40n : l39.length = (l36.length + a0.Threads.length) := by rw [hx40]; simp
  have hx40e : encL l39 = encL l36 ++ encL a0.Threads := by rw [hx40]; simp
  repeat (first | simp [-awp_cond_eq, -awp_block_eq, hx22, hx25n, hx25e, hx27, hx30n, hx30e, hx32, hx35n, hx35e, hx37, hx40n, hx40e] | with_reducible first | refine awp_reg ?_ | refine awp_draw ?_ | refine ord_l (by kernel_rfl) ?_ | refine ord_e (by kernel_rfl) ?_ | refine ord_c (by kernel_rfl) ?_ | refine ord_d (by kernel_rfl) ?_ | refine And.intro (by omega) ?_ | refine optF_if (by omega) ?_)
  obtain ⟨o175, e174, hs⟩ := bindO hs
  try dsimp only at hs
  refine awp_cutK (fun (v : (List Func)) (σ : St) => some (v) = some o175 ∧ σ.env 2 = .cell (.ref (.o 1 1 0) 0) ∧ σ.env 3 = .cell (.ref (.o 2 17 0) 0) ∧ σ.hp (.o 1 1 0) = some (.cells [.z, .z, .z, .z, .z]) ∧ σ.hp (.l 12) = some (.cells (oencL v)) ∧ σ.hp (.o 2 17 0) = some (.cells [.sl (.o 2 3 0) 0 2 l24.length, .sl (.o 2 7 0) 0 1 l29.length, .sl (.o 2 11 0) 0 1 l34.length, .sl (.l 12) 0 2 v.length, .sl (.o 2 15 0) 0 2 l39.length]) ∧ σ.hp (.o 2 3 0) = some (.pure (encL l24)) ∧ σ.hp (.o 2 7 0) = some (.pure (encL l29)) ∧ σ.hp (.o 2 11 0) = some (.pure (encL l34)) ∧ σ.hp (.o 2 15 0) = some (.pure (encL l39)) ∧ 3 ≤ σ.gen) (by rfl) (fun Q hK176 hX177 => ?_) (fun l173 σ3 hp => ?_)
  · repeat (first | simp [hx22, hx25n, hx25e, hx27, hx30n, hx30e, hx32, hx35n, hx35e, hx37, hx40n, hx40e] | with_reducible first | refine awp_reg ?_ | refine awp_draw ?_ | refine ord_l (by kernel_rfl) ?_ | refine ord_e (by kernel_rfl) ?_ | refine ord_c (by kernel_rfl) ?_ | refine ord_d (by kernel_rfl) ?_ | refine And.intro (by omega) ?_ | refine optF_if (by omega) ?_)
    obtain ⟨o274, e273, e174⟩ := bindO e174
    try dsimp only at e174
    refine awp_loopW (fun (v : (List Func) × Nat × (List Func)) (σ : St) => r08_Clone_L1 v.1 v.2.1 v.2.2 = some o274 ∧ v.1 = a0.Funcs.drop v.2.1 ∧ σ.env 1 = .cell (.ref (.o 1 0 0) 0) ∧ σ.env 2 = .cell (.ref (.o 1 1 0) 0) ∧ σ.env 3 = .cell (.ref (.o 2 17 0) 0) ∧ σ.env 4 = iV .i64 ((v.2.1 : Nat) : Int) ∧ σ.hp (.o 1 0 0) = some (.cells [.p (.sl a0.Vars.length (encL a0.Vars)), .p (.sl a0.Mutexes.length (encL a0.Mutexes)), .p (.sl a0.Conds.length (encL a0.Conds)), .p (.sl a0.Funcs.length (encL a0.Funcs)), .p (.sl a0.Threads.length (encL a0.Threads))]) ∧ σ.hp (.o 1 1 0) = some (.cells [.z, .z, .z, .z, .z]) ∧ σ.hp (.l 35) = some (.cells (oencL v.2.2)) ∧ σ.hp (.o 2 17 0) = some (.cells [.sl (.o 2 3 0) 0 2 l24.length, .sl (.o 2 7 0) 0 1 l29.length, .sl (.o 2 11 0) 0 1 l34.length, .sl (.l 35) 0 2 v.2.2.length, .sl (.o 2 15 0) 0 2 l39.length]) ∧ σ.hp (.o 2 3 0) = some (.pure (encL l24)) ∧ σ.hp (.o 2 7 0) = some (.pure (encL l29)) ∧ σ.hp (.o 2 11 0) = some (.pure (encL l34)) ∧ σ.hp (.o 2 15 0) = some (.pure (encL l39)) ∧ 3 ≤ σ.gen) (fun v => v.1.length) _ ((Gh.voidB _ (.l 35) (.o 2 17 0) 3 2 rfl (by simp [hx22, hx25n, hx25e, hx27, hx30n, hx30e, hx32, hx35n, hx35e, hx37, hx40n, hx40e]; rfl) (by first | rfl | simp) (by simp)).trans (Gh.cel _ (.l 35))) (a0.Funcs, 0, []) ⟨e273, by simp, by simp [St.frz, St.pur, hx22, hx25n, hx25e, hx27, hx30n, hx30e, hx32, hx35n, hx35e, hx37, hx40n, hx40e], by simp [St.frz, St.pur, hx22, hx25n, hx25e, hx27, hx30n, hx30e, hx32, hx35n, hx35e, hx37, hx40n, hx40e], by simp [St.frz, St.pur, hx22, hx25n, hx25e, hx27, hx30n, hx30e, hx32, hx35n, hx35e, hx37, hx40n, hx40e], by simp [St.frz, St.pur, hx22, hx25n, hx25e, hx27, hx30n, hx30e, hx32, hx35n, hx35e, hx37, hx40n, hx40e], by simp [St.frz, St.pur, hx22, hx25n, hx25e, hx27, hx30n, hx30e, hx32, hx35n, hx35e, hx37, hx40n, hx40e], by simp [St.frz, St.pur, hx22, hx25n, hx25e, hx27, hx30n, hx30e, hx32, hx35n, hx35e, hx37, hx40n, hx40e], by simp [St.frz, St.pur, hx22, hx25n, hx25e, hx27, hx30n, hx30e, hx32, hx35n, hx35e, hx37, hx40n, hx40e], by simp [St.frz, St.pur, hx22, hx25n, hx25e, hx27, hx30n, hx30e, hx32, hx35n, hx35e, hx37, hx40n, hx40e], by simp [St.frz, St.pur, hx22, hx25n, hx25e, hx27, hx30n, hx30e, hx32, hx35n, hx35e, hx37, hx40n, hx40e], by simp [St.frz, St.pur, hx22, hx25n, hx25e, hx27, hx30n, hx30e, hx32, hx35n, hx35e, hx37, hx40n, hx40e], by simp [St.frz, St.pur, hx22, hx25n, hx25e, hx27, hx30n, hx30e, hx32, hx35n, hx35e, hx37, hx40n, hx40e], by simp [St.frz, St.pur, hx22, hx25n, hx25e, hx27, hx30n, hx30e, hx32, hx35n, hx35e, hx37, hx40n, hx40e], by first | (simp; done) | (simp; omega) | omega⟩ fun v σ6 hp L275 hL276 => ?_
    obtain ⟨q278, k240, l241⟩ := v
    dsimp only at hp hL276
    obtain ⟨e273, hd277, h5_1, h5_2, h5_3, h5_4, g5_0, g5_1, g5_2, g5_3, g5_4, g5_5, g5_6, g5_7, n5_g⟩ := hp
    have n5_0 : ¬ (σ6.gen = 0) := by omega
    have n5_1 : ¬ (σ6.gen = 1) := by omega
    rcases q278 with _ | ⟨x283, q279⟩
    · have hlt280 := drop_end hd277
      rw [r08_Clone_L1] at e273; try dsimp only at e273
      repeat (first | simp [h5_1, h5_2, h5_3, h5_4, g5_0, g5_1, g5_2, g5_3, g5_4, g5_5, g5_6, g5_7, n5_0, n5_1] | with_reducible first | refine awp_reg ?_ | refine And.intro (by omega) ?_ | refine optF_if (by omega) ?_)
      refine condK_f (by simp [ltI]; omega) ?_
      obtain rfl := Option.some.inj e273
      try dsimp only at e174
      refine hK176 l241 _ _ (Gh.ren _ (.l 35) (.l 12) (by simp) rfl rfl) ⟨e174, ?_, ?_, ?_, ?_, ?_, ?_, ?_, ?_, ?_, by first | (simp; done) | (simp; omega) | omega⟩ <;> simp [St.frz, St.pur, h5_1, h5_2, h5_3, h5_4, g5_0, g5_1, g5_2, g5_3, g5_4, g5_5, g5_6, g5_7, n5_0, n5_1]
    · obtain ⟨hx282, hlt280, hd284⟩ := drop_next hd277
      have ew281 := wrap_succ hlt280 (hb4).len
      rw [r08_Clone_L1] at e273; try dsimp only at e273
      repeat (first | simp [h5_1, h5_2, h5_3, h5_4, g5_0, g5_1, g5_2, g5_3, g5_4, g5_5, g5_6, g5_7, n5_0, n5_1, hlt280, ew281] | with_reducible first | refine awp_reg ?_ | refine And.intro (by omega) ?_ | refine optF_if (by omega) ?_)
      refine condK_t (by simp [ltI]; omega) ?_
      have f297 : partCV Tryd.prog 9 (encL a0.Funcs) (k240 * 2) = some (sV x283.Name) := partCV_enc hx282 (f := 0) (by simp)
      obtain ⟨l298, hx299, e273⟩ := bindO e273
      try dsimp only at e273
      replace hx299 := (Option.some.inj hx299).symm
      have hx299n : l298.length = 0 := by rw [hx299]; rfl
      have f300 : partCV Tryd.prog 22 (encL a0.Funcs) (k240 * 2 + 1) = some (.cell (.p (.sl x283.Code.length (encL x283.Code)))) := partCV_enc hx282 (f := 1) (by simp)
      obtain ⟨g301, e273⟩ := guardO_some e273
      have g301 := limB_t g301
      obtain ⟨g301a, g301b⟩ := g301
      obtain ⟨l302, hx303, e273⟩ := bindO e273
      try dsimp only at e273
      replace hx303 := (Option.some.inj hx303).symm
      have hx303n : l302.length = (l298.length + x283.Code.length) := by rw [hx303]; simp
      have hx303e : encL l302 = encL l298 ++ encL x283.Code := by rw [hx303]; simp
      obtain ⟨l304, hx305, e273⟩ := bindO e273
      try dsimp only at e273
      replace hx305 := (Option.some.inj hx305).symm
      have hx305n : l304.length = 1 := by rw [hx305]; rfl
      obtain ⟨g306, e273⟩ := guardO_some e273
      have g306 := limB_t g306
      obtain ⟨g306a, g306b⟩ := g306
      obtain ⟨l307, hx308, e273⟩ := bindO e273
      try dsimp only at e273
      replace hx308 := (Option.some.inj hx308).symm
      have hx308n : l307.length = (l241.length + l304.length) := by rw [hx308]; simp
      have hx308e : encL l307 = encL l241 ++ encL l304 := by rw [hx308]; simp
      have f309a : (oencL l241 ++ ([.p (.c (.string x283.Name)), .sl (.o (σ6.gen + 2) 15 0) 0 8 l302.length] : List AC))[l241.length * 2 + 1]? = some (.sl (.o (σ6.gen + 2) 15 0) 0 8 l302.length) := by first | rfl | (rw [List.getElem?_append_right (by simp)]; simp)
      have f309b : oencL l307 = oencL l241 ++ ([.p (.c (.string x283.Name)), .own (.sp 8 l302.length (encL l302))] : List AC) := by rw [hx308]; simp [hx305]
      repeat (first | simp [h5_1, h5_2, h5_3, h5_4, g5_0, g5_1, g5_2, g5_3, g5_4, g5_5, g5_6, g5_7, n5_0, n5_1, hlt280, ew281, f297, hx299, f300, hx303n, hx303e, hx305, hx308n, f309a, f309b] | with_reducible first | refine ord_l (by kernel_rfl) ?_ | refine ord_e (by kernel_rfl) ?_ | refine ord_c (by kernel_rfl) ?_ | refine ord_d (by kernel_rfl) ?_ | refine And.intro (by omega) ?_ | refine optF_if (by omega) ?_)
      refine awp_draw ?_
      repeat (first | simp [h5_1, h5_2, h5_3, h5_4, g5_0, g5_1, g5_2, g5_3, g5_4, g5_5, g5_6, g5_7, n5_0, n5_1, hlt280, ew281, f297, hx299, f300, hx303n, hx303e, hx305, hx308n, f309a, f309b] | with_reducible first | refine ord_l (by kernel_rfl) ?_ | refine ord_e (by kernel_rfl) ?_ | refine ord_c (by kernel_rfl) ?_ | refine ord_d (by kernel_rfl) ?_ | refine And.intro (by omega) ?_ | refine optF_if (by omega) ?_)
      refine awp_gh (by rfl) (Gh.close _ (.o (σ6.gen + 2) 18 0) (l241.length * 2 + 1)) ?_
      try simp only [St.frz, St.pur]
      repeat (first | simp [h5_1, h5_2, h5_3, h5_4, g5_0, g5_1, g5_2, g5_3, g5_4, g5_5, g5_6, g5_7, n5_0, n5_1, hlt280, ew281, f297, hx299, f300, hx303n, hx303e, hx305, hx308n, f309a, f309b] | with_reducible refine awp_reg ?_)
      refine hL276 (q279, (k240 + 1), l307) _ _ (Gh.ren _ (.o (σ6.gen + 2) 18 0) (.l 35) (by simp) rfl rfl) ⟨e273, hd284, ?_, ?_, ?_, ?_, ?_, ?_, ?_, ?_, ?_, ?_, ?_, ?_, by first | (simp; done) | (simp; omega) | omega⟩ (by simp) <;> simp [St.frz, St.pur, h5_1, h5_2, h5_3, h5_4, g5_0, g5_1, g5_2, g5_3, g5_4, g5_5, g5_6, g5_7, n5_0, n5_1, hlt280, ew281, f297, hx299, f300, hx303n, hx303e, hx305, hx308n, f309a, f309b]
  · obtain ⟨e174, h4_2, h4_3, g4_0, g4_1, g4_2, g4_3, g4_4, g4_5, g4_6, n4_g⟩ := hp
    obtain rfl := Option.some.inj e174
    try dsimp only at hs
    have n4_0 : ¬ (σ3.gen = 0) := by omega
    have n4_1 : ¬ (σ3.gen = 1) := by omega
    repeat (first | simp [h4_2, h4_3, g4_0, g4_1, g4_2, g4_3, g4_4, g4_5, g4_6, n4_0, n4_1] | with_reducible first | refine awp_reg ?_ | refine awp_draw ?_ | refine ord_l (by kernel_rfl) ?_ | refine ord_e (by kernel_rfl) ?_ | refine ord_c (by kernel_rfl) ?_ | refine ord_d (by kernel_rfl) ?_ | refine And.intro (by omega) ?_ | refine optF_if (by omega) ?_)
    obtain rfl := Option.some.inj hs
    refine hQ _ _ (ret2g _ ((Gh.ren _ (.o 2 3 0) (.r 0) (by simp) rfl rfl).trans ((Gh.ren _ (.o 2 7 0) (.r 1) (by simp) rfl rfl).trans ((Gh.ren _ (.o 2 11 0) (.r 2) (by simp) rfl rfl).trans ((Gh.ren _ (.l 12) (.r 3) (by simp) rfl rfl).trans (Gh.ren _ (.o 2 15 0) (.r 4) (by simp) rfl rfl))))) (by simp [St.frz, St.pur, h4_2, h4_3, g4_0, g4_1, g4_2, g4_3, g4_4, g4_5, g4_6, n4_0, n4_1]; rfl) (by first | rfl | (simp [St.frz, St.pur, h4_2, h4_3, g4_0, g4_1, g4_2, g4_3, g4_4, g4_5, g4_6, n4_0, n4_1]; done) | (rw [if_pos (by first | omega | (simp; omega))]; simp [St.frz, St.pur, h4_2, h4_3, g4_0, g4_1, g4_2, g4_3, g4_4, g4_5, g4_6, n4_0, n4_1]; first | omega | exact List.take_of_length_le (by simp; omega) | skip)) (by simp [St.frz, St.pur, h4_2, h4_3, g4_0, g4_1, g4_2, g4_3, g4_4, g4_5, g4_6, n4_0, n4_1]))
end Go.Dc
end
section
set_option linter.all false
namespace Go.Dc
open Go Go.Hw Go.Proofs
set_option maxRecDepth 100000
def r14_Rewrite_L1 (a0 : Program) : List Spin → Nat → (List Func) → Option (List Func)
  | [], k248, l249 => some (l249)
  | x298 :: q294, k248, l249 => Option.bind (getI a0.Funcs x298.Func) (fun x309 => Option.bind (r14_Condition x309 x298.First) (fun y313 => Option.bind (getI l249 x298.Func) (fun x315 => Option.bind (getI x315.Code x298.First) (fun x325 => Option.bind (some (x315.Code.set ((x298.First).toNat) y313.1)) (fun l327 => Option.bind (some (l249.set ((x298.Func).toNat) ({ x315 with Code := l327 }))) (fun l331 => r14_Rewrite_L1 a0 q294 (k248 + 1) l331))))))

def r14_Rewrite (fuelN : Nat) (a0 : Program) : Option (Program × Int) :=
  Option.bind (r14_Find fuelN a0) (fun y1 => cond (!(eqI y1.2 0)) (some (({ Vars := [], Mutexes := [], Conds := [], Funcs := [], Threads := [] } : Program), y1.2)) (Option.bind (r08_Clone a0) (fun y4 => Option.bind (α := (List Func)) (guardO (lenB y1.1.length) (Option.bind (r14_Rewrite_L1 a0 y1.1 0 y4.Funcs) (fun l287 => some (l287)))) (fun l167 => some ({ y4 with Funcs := l167 }, 0)))))

set_option maxHeartbeats 2000000 in
theorem at_r14_Rewrite {fuelN : Nat} {a0 : Program} {r : Program × Int} (hs : r14_Rewrite fuelN a0 = some r) : At Tryd.prog 41 [.agg [.p (.sl a0.Vars.length (encL a0.Vars)), .p (.sl a0.Mutexes.length (encL a0.Mutexes)), .p (.sl a0.Conds.length (encL a0.Conds)), .p (.sl a0.Funcs.length (encL a0.Funcs)), .p (.sl a0.Threads.length (encL a0.Threads))]] (.tup [.agg [.p (.sl r.1.Vars.length (encL r.1.Vars)), .p (.sl r.1.Mutexes.length (encL r.1.Mutexes)), .p (.sl r.1.Conds.length (encL r.1.Conds)), .p (.sl r.1.Funcs.length (encL r.1.Funcs)), .p (.sl r.1.Threads.length (encL r.1.Threads))], iV .i64 r.2]) := by
  refine at_bound (by kernel_rfl) fun hb => ?_
  have hb1 : LenOk (.sl a0.Vars.length (encL a0.Vars)) := hb (.agg [.p (.sl a0.Vars.length (encL a0.Vars)), .p (.sl a0.Mutexes.length (encL a0.Mutexes)), .p (.sl a0.Conds.length (encL a0.Conds)), .p (.sl a0.Funcs.length (encL a0.Funcs)), .p (.sl a0.Threads.length (encL a0.Threads))]) (by simp) (.p (.sl a0.Vars.length (encL a0.Vars))) (by simp)
  have hb2 : LenOk (.sl a0.Mutexes.length (encL a0.Mutexes)) := hb (.agg [.p (.sl a0.Vars.length (encL a0.Vars)), .p (.sl a0.Mutexes.length (encL a0.Mutexes)), .p (.sl a0.Conds.length (encL a0.Conds)), .p (.sl a0.Funcs.length (encL a0.Funcs)), .p (.sl a0.Threads.length (encL a0.Threads))]) (by simp) (.p (.sl a0.Mutexes.length (encL a0.Mutexes))) (by simp)
  have hb3 : LenOk (.sl a0.Conds.length (encL a0.Conds)) := hb (.agg [.p (.sl a0.Vars.length (encL a0.Vars)), .p (.sl a0.Mutexes.length (encL a0.Mutexes)), .p (.sl a0.Conds.length (encL a0.Conds)), .p (.sl a0.Funcs.length (encL a0.Funcs)), .p (.sl a0.Threads.length (encL a0.Threads))]) (by simp) (.p (.sl a0.Conds.length (encL a0.Conds))) (by simp)
  have hb4 : LenOk (.sl a0.Funcs.length (encL a0.Funcs)) := hb (.agg [.p (.sl a0.Vars.length (encL a0.Vars)), .p (.sl a0.Mutexes.length (encL a0.Mutexes)), .p (.sl a0.Conds.length (encL a0.Conds)), .p (.sl a0.Funcs.length (encL a0.Funcs)), .p (.sl a0.Threads.length (encL a0.Threads))]) (by simp) (.p (.sl a0.Funcs.length (encL a0.Funcs))) (by simp)
  have hb5 : LenOk (.sl a0.Threads.length (encL a0.Threads)) := hb (.agg [.p (.sl a0.Vars.length (encL a0.Vars)), .p (.sl a0.Mutexes.length (encL a0.Mutexes)), .p (.sl a0.Conds.length (encL a0.Conds)), .p (.sl a0.Funcs.length (encL a0.Funcs)), .p (.sl a0.Threads.length (encL a0.Threads))]) (by simp) (.p (.sl a0.Threads.length (encL a0.Threads))) (by simp)
  refine at_code mixed Tryd.func41 (by kernel_rfl) rfl (by kernel_rfl) rfl fun Q hQ => ?_
  rw [r14_Rewrite] at hs
  repeat (first | simp | with_reducible first | refine awp_reg ?_ | refine And.intro (by omega) ?_ | refine optF_if (by omega) ?_)
  obtain ⟨y1, hx2, hs⟩ := bindO hs
  try dsimp only at hs
  refine callK_pure (at_r14_Find hx2) (by (first | simp | simp (disch := omega) []); try rfl) (by simp) (by simp) ?_
  repeat (first | simp | with_reducible first | refine awp_reg ?_ | refine And.intro (by omega) ?_ | refine optF_if (by omega) ?_)
  refine condK_spec (!(eqI y1.2 0)) (by first | rfl | (simp; done) | (simp [andB, orB, eqI, ltI, Int.natCast_inj]; done)) (fun h3 => ?_) (fun h3 => ?_)
  · replace hs := condT h3 hs
    repeat (first | simp | with_reducible first | refine awp_reg ?_ | refine And.intro (by omega) ?_ | refine optF_if (by omega) ?_)
    obtain rfl := Option.some.inj hs
    refine hQ _ _ (ret2g _ (Gh.unz _) (by simp [St.frz, St.pur]; rfl) (by first | rfl | (simp [St.frz, St.pur]; done) | (rw [if_pos (by first | omega | (simp; omega))]; simp [St.frz, St.pur]; first | omega | exact List.take_of_length_le (by simp; omega) | skip)) (by simp))
  · replace hs := condF h3 hs
    repeat (first | simp | with_reducible first | refine awp_reg ?_ | refine And.intro (by omega) ?_ | refine optF_if (by omega) ?_)
    obtain ⟨y4, hx5, hs⟩ := bindO hs
    try dsimp only at hs
    refine callK_at (at_r08_Clone hx5) [] (by (first | simp | simp (disch := omega) []); try rfl) (by simp) (by simp) (by simp; rfl) (by simp; rfl) ?_
    repeat (first | simp [-awp_cond_eq, -awp_block_eq] | with_reducible first | refine awp_reg ?_ | refine And.intro (by omega) ?_ | refine optF_if (by omega) ?_)
    obtain ⟨o169, e168, hs⟩ := bindO hs
    try dsimp only at hs
    refine awp_cutK (fun (v : (List Func)) (σ : St) => some (v) = some o169 ∧ σ.env 2 = .cell (.ref (.o 1 1 0) 0) ∧ σ.env 6 = .cell (.ref (.o 4 2 0) 0) ∧ σ.hp (.o 1 1 0) = some (.cells [.z, .z, .z, .z, .z]) ∧ σ.hp (.l 14) = some (.cells (oencL v)) ∧ σ.hp (.o 4 2 0) = some (.cells [.sl (.o 4 1 0) 0 2 y4.Vars.length, .sl (.o 4 1 1) 0 1 y4.Mutexes.length, .sl (.o 4 1 2) 0 1 y4.Conds.length, .sl (.l 14) 0 2 v.length, .sl (.o 4 1 4) 0 2 y4.Threads.length]) ∧ σ.hp (.o 4 1 0) = some (.pure (encL y4.Vars)) ∧ σ.hp (.o 4 1 1) = some (.pure (encL y4.Mutexes)) ∧ σ.hp (.o 4 1 2) = some (.pure (encL y4.Conds)) ∧ σ.hp (.o 4 1 4) = some (.pure (encL y4.Threads)) ∧ 5 ≤ σ.gen) (by rfl) (fun Q hK170 hX171 => ?_) (fun l167 σ3 hp => ?_)
    · repeat (first | simp | with_reducible first | refine awp_reg ?_ | refine And.intro (by omega) ?_ | refine optF_if (by omega) ?_)
      obtain ⟨hb299, e168⟩ := guardO_some e168
      obtain ⟨o289, e288, e168⟩ := bindO e168
      try dsimp only at e168
      refine awp_loopW (fun (v : (List Spin) × Nat × (List Func)) (σ : St) => r14_Rewrite_L1 a0 v.1 v.2.1 v.2.2 = some o289 ∧ v.1 = y1.1.drop v.2.1 ∧ σ.env 1 = .cell (.ref (.o 1 0 0) 0) ∧ σ.env 2 = .cell (.ref (.o 1 1 0) 0) ∧ σ.env 4 = .cell (.p (.sl y1.1.length (encL y1.1))) ∧ σ.env 6 = .cell (.ref (.o 4 2 0) 0) ∧ σ.env 7 = iV .i64 ((v.2.1 : Nat) : Int) ∧ σ.hp (.o 1 0 0) = some (.cells [.p (.sl a0.Vars.length (encL a0.Vars)), .p (.sl a0.Mutexes.length (encL a0.Mutexes)), .p (.sl a0.Conds.length (encL a0.Conds)), .p (.sl a0.Funcs.length (encL a0.Funcs)), .p (.sl a0.Threads.length (encL a0.Threads))]) ∧ σ.hp (.o 1 1 0) = some (.cells [.z, .z, .z, .z, .z]) ∧ σ.hp (.l 39) = some (.cells (oencL v.2.2)) ∧ σ.hp (.o 4 2 0) = some (.cells [.sl (.o 4 1 0) 0 2 y4.Vars.length, .sl (.o 4 1 1) 0 1 y4.Mutexes.length, .sl (.o 4 1 2) 0 1 y4.Conds.length, .sl (.l 39) 0 2 v.2.2.length, .sl (.o 4 1 4) 0 2 y4.Threads.length]) ∧ σ.hp (.o 4 1 0) = some (.pure (encL y4.Vars)) ∧ σ.hp (.o 4 1 1) = some (.pure (encL y4.Mutexes)) ∧ σ.hp (.o 4 1 2) = some (.pure (encL y4.Conds)) ∧ σ.hp (.o 4 1 4) = some (.pure (encL y4.Threads)) ∧ 5 ≤ σ.gen) (fun v => v.1.length) _ (Gh.ren _ (.o 4 1 3) (.l 39) (by simp) rfl rfl) (y1.1, 0, y4.Funcs) ⟨e288, by simp, by simp [St.frz, St.pur], by simp [St.frz, St.pur], by simp [St.frz, St.pur], by simp [St.frz, St.pur], by simp [St.frz, St.pur], by simp [St.frz, St.pur], by simp [St.frz, St.pur], by simp [St.frz, St.pur], by simp [St.frz, St.pur], by simp [St.frz, St.pur], by simp [St.frz, St.pur], by simp [St.frz, St.pur], by simp [St.frz, St.pur], by first | (simp; done) | (simp; omega) | omega⟩ fun v σ6 hp L290 hL291 => ?_
      obtain ⟨q293, k248, l249⟩ := v
      dsimp only at hp hL291
      obtain ⟨e288, hd292, h5_1, h5_2, h5_4, h5_6, h5_7, g5_0, g5_1, g5_2, g5_3, g5_4, g5_5, g5_6, g5_7, n5_g⟩ := hp
      have n5_0 : ¬ (σ6.gen = 0) := by omega
      have n5_1 : ¬ (σ6.gen = 1) := by omega
      have n5_2 : ¬ (σ6.gen = 2) := by omega
      have n5_3 : ¬ (σ6.gen = 3) := by omega
      rcases q293 with _ | ⟨x298, q294⟩
      · have hlt295 := drop_end hd292
        rw [r14_Rewrite_L1] at e288; try dsimp only at e288
        repeat (first | simp [h5_1, h5_2, h5_4, h5_6, h5_7, g5_0, g5_1, g5_2, g5_3, g5_4, g5_5, g5_6, g5_7, n5_0, n5_1, n5_2, n5_3] | with_reducible first | refine awp_reg ?_ | refine And.intro (by omega) ?_ | refine optF_if (by omega) ?_)
        refine condK_f (by simp [ltI]; omega) ?_
        obtain rfl := Option.some.inj e288
        try dsimp only at e168
        refine hK170 l249 _ _ (Gh.ren _ (.l 39) (.l 14) (by simp) rfl rfl) ⟨e168, ?_, ?_, ?_, ?_, ?_, ?_, ?_, ?_, ?_, by first | (simp; done) | (simp; omega) | omega⟩ <;> simp [St.frz, St.pur, h5_1, h5_2, h5_4, h5_6, h5_7, g5_0, g5_1, g5_2, g5_3, g5_4, g5_5, g5_6, g5_7, n5_0, n5_1, n5_2, n5_3]
      · obtain ⟨hx297, hlt295, hd300⟩ := drop_next hd292
        have ew296 := wrap_succG hlt295 hb299
        rw [r14_Rewrite_L1] at e288; try dsimp only at e288
        repeat (first | simp [h5_1, h5_2, h5_4, h5_6, h5_7, g5_0, g5_1, g5_2, g5_3, g5_4, g5_5, g5_6, g5_7, n5_0, n5_1, n5_2, n5_3, hlt295, ew296] | with_reducible first | refine awp_reg ?_ | refine And.intro (by omega) ?_ | refine optF_if (by omega) ?_)
        refine condK_t (by simp [ltI]; omega) ?_
        have f308 : partCV Tryd.prog 3 (encL y1.1) (k248 * 3) = some (iV .i64 x298.Func) := partCV_enc hx297 (f := 0) (by simp)
        obtain ⟨x309, hx310, e288⟩ := bindO e288
        try dsimp only at e288
        obtain ⟨hx310a, hx310b, hx310c, hx310d⟩ := getI_some hx310
        have f311 : partCV Tryd.prog 24 (encL a0.Funcs) (((x298.Func).toNat) * 2) = some (.agg [.p (.c (.string x309.Name)), .p (.sl x309.Code.length (encL x309.Code))]) := partCV_enc hx310d (f := 0) (by simp)
        have f312 : partCV Tryd.prog 3 (encL y1.1) (k248 * 3 + 1) = some (iV .i64 x298.First) := partCV_enc hx297 (f := 1) (by simp)
        repeat (first | simp [h5_1, h5_2, h5_4, h5_6, h5_7, g5_0, g5_1, g5_2, g5_3, g5_4, g5_5, g5_6, g5_7, n5_0, n5_1, n5_2, n5_3, hlt295, ew296, f308, f311, f312] | with_reducible first | refine awp_reg ?_ | refine awp_draw ?_ | refine ord_l (by kernel_rfl) ?_ | refine ord_e (by kernel_rfl) ?_ | refine ord_c (by kernel_rfl) ?_ | refine ord_d (by kernel_rfl) ?_ | refine And.intro (by omega) ?_ | refine optF_if (by omega) ?_)
        obtain ⟨y313, hx314, e288⟩ := bindO e288
        try dsimp only at e288
        refine callK_pure (at_r14_Condition hx314) (by (first | simp [h5_1, h5_2, h5_4, h5_6, h5_7, g5_0, g5_1, g5_2, g5_3, g5_4, g5_5, g5_6, g5_7, n5_0, n5_1, n5_2, n5_3, hlt295, ew296, f308, f311, f312] | simp (disch := omega) [h5_1, h5_2, h5_4, h5_6, h5_7, g5_0, g5_1, g5_2, g5_3, g5_4, g5_5, g5_6, g5_7, n5_0, n5_1, n5_2, n5_3, hlt295, ew296, f308, f311, f312]); try rfl) (by simp) (by simp) ?_
        obtain ⟨x315, hx316, e288⟩ := bindO e288
        try dsimp only at e288
        obtain ⟨hx316a, hx316b, hx316c, hx316d⟩ := getI_some hx316
        repeat (first | simp [h5_1, h5_2, h5_4, h5_6, h5_7, g5_0, g5_1, g5_2, g5_3, g5_4, g5_5, g5_6, g5_7, n5_0, n5_1, n5_2, n5_3, hlt295, ew296, f308, f311, f312] | with_reducible first | refine ord_l (by kernel_rfl) ?_ | refine ord_e (by kernel_rfl) ?_ | refine ord_c (by kernel_rfl) ?_ | refine ord_d (by kernel_rfl) ?_ | refine And.intro (by omega) ?_ | refine optF_if (by omega) ?_)
        have f317a : (oencL l249)[((x298.Func).toNat) * 2 + 1]? = some (.own (.sp 8 x315.Code.length (encL x315.Code))) := oencL_get hx316d (f := 1) rfl
        have f317l : ((x298.Func).toNat) * 2 + 1 < (oencL l249).length := (List.getElem?_eq_some_iff.1 f317a).1
        have f317c := fun c => (set_seg f317l c).1
        have f317d := fun c => (set_seg f317l c).2
        refine awp_gh (by rfl) (Gh.opn _ (.l 39) (((x298.Func).toNat) * 2 + 1)) ?_
        obtain ⟨x325, hx326, e288⟩ := bindO e288
        try dsimp only at e288
        obtain ⟨hx326a, hx326b, hx326c, hx326d⟩ := getI_some hx326
        obtain ⟨l327, hx328, e288⟩ := bindO e288
        try dsimp only at e288
        replace hx328 := (Option.some.inj hx328).symm
        have f329 : setRun (encL x315.Code) (((x298.First).toNat) * 8) [.c (.int .i64 y313.1.Op), .c (.int .i64 y313.1.A), .c (.int .i64 y313.1.B), .c (.int .i64 y313.1.C), .c (.int .i64 y313.1.Obj), .c (.int .i64 y313.1.N), .c (.int .i64 y313.1.Fn), .c (.int .i64 y313.1.Order)] = encL l327 := hx328 ▸ setRun_enc hx326d (f := 0) (by simp) (by simp [setRun])
        simp only [setRun] at f329
        have f329n : l327.length = x315.Code.length := by rw [hx328]; simp
        obtain ⟨l331, hx332, e288⟩ := bindO e288
        try dsimp only at e288
        replace hx332 := (Option.some.inj hx332).symm
        have f330 : (oencL l249).set (((x298.Func).toNat) * 2 + 1) (.own (.sp 8 l327.length (encL l327))) = oencL l331 := by rw [hx332]; exact oencL_set hx316d (f := 1) (by simp) rfl
        have f330n : l331.length = l249.length := by rw [hx332]; simp
        have f330t : (encL l327).take (l327.length * 8) = encL l327 := encL_takeN _ (by simp)
        have f330u : l327.length = x315.Code.length → (encL l327).take (x315.Code.length * 8) = encL l327 := fun h => by rw [← h]; exact encL_takeN _ (by simp)
        have f330v : l327.length = x315.Code.length → (oencL l249).set (((x298.Func).toNat) * 2 + 1) (.own (.sp 8 x315.Code.length (encL l327))) = oencL l331 := fun h => by rw [← h]; exact f330
        repeat (first | simp [h5_1, h5_2, h5_4, h5_6, h5_7, g5_0, g5_1, g5_2, g5_3, g5_4, g5_5, g5_6, g5_7, n5_0, n5_1, n5_2, n5_3, hlt295, ew296, f308, f311, f312, f317a, f317c, f317d, f329, f329n, f330, f330n, f330t, f330u, f330v] | with_reducible first | refine ord_l (by kernel_rfl) ?_ | refine ord_e (by kernel_rfl) ?_ | refine ord_c (by kernel_rfl) ?_ | refine ord_d (by kernel_rfl) ?_ | refine And.intro (by omega) ?_ | refine optF_if (by omega) ?_)
        refine awp_draw ?_
        repeat (first | simp [h5_1, h5_2, h5_4, h5_6, h5_7, g5_0, g5_1, g5_2, g5_3, g5_4, g5_5, g5_6, g5_7, n5_0, n5_1, n5_2, n5_3, hlt295, ew296, f308, f311, f312, f317a, f317c, f317d, f329, f329n, f330, f330n, f330t, f330u, f330v] | with_reducible first | refine ord_l (by kernel_rfl) ?_ | refine ord_e (by kernel_rfl) ?_ | refine ord_c (by kernel_rfl) ?_ | refine ord_d (by kernel_rfl) ?_ | refine And.intro (by omega) ?_ | refine optF_if (by omega) ?_)
        refine awp_gh (by rfl) (Gh.close _ (.l 39) (((x298.Func).toNat) * 2 + 1)) ?_
        try simp only [St.frz, St.pur]
        repeat (first | simp [h5_1, h5_2, h5_4, h5_6, h5_7, g5_0, g5_1, g5_2, g5_3, g5_4, g5_5, g5_6, g5_7, n5_0, n5_1, n5_2, n5_3, hlt295, ew296, f308, f311, f312, f317a, f317c, f317d, f329, f329n, f330, f330n, f330t, f330u, f330v] | with_reducible refine awp_reg ?_)
        refine hL291 (q294, (k248 + 1), l331) _ _ (Gh.refl _) ⟨e288, hd300, ?_, ?_, ?_, ?_, ?_, ?_, ?_, ?_, ?_, ?_, ?_, ?_, ?_, by first | (simp; done) | (simp; omega) | omega⟩ (by simp) <;> simp [St.frz, St.pur, h5_1, h5_2, h5_4, h5_6, h5_7, g5_0, g5_1, g5_2, g5_3, g5_4, g5_5, g5_6, g5_7, n5_0, n5_1, n5_2, n5_3, hlt295, ew296, f308, f311, f312, f317a, f317c, f317d, f329, f329n, f330, f330n, f330t, f330u, f330v]
    · obtain ⟨e168, h4_2, h4_6, g4_0, g4_1, g4_2, g4_3, g4_4, g4_5, g4_6, n4_g⟩ := hp
      obtain rfl := Option.some.inj e168
      try dsimp only at hs
      have n4_0 : ¬ (σ3.gen = 0) := by omega
      have n4_1 : ¬ (σ3.gen = 1) := by omega
      have n4_2 : ¬ (σ3.gen = 2) := by omega
      have n4_3 : ¬ (σ3.gen = 3) := by omega
      repeat (first | simp [h4_2, h4_6, g4_0, g4_1, g4_2, g4_3, g4_4, g4_5, g4_6, n4_0, n4_1, n4_2, n4_3] | with_reducible first | refine awp_reg ?_ | refine And.intro (by omega) ?_ | refine optF_if (by omega) ?_)
      obtain rfl := Option.some.inj hs
      refine hQ _ _ (ret2g _ ((Gh.frz _ (.o 4 1 0)).trans ((Gh.frz _ (.o 4 1 1)).trans ((Gh.frz _ (.o 4 1 2)).trans ((Gh.frz _ (.l 14)).trans (Gh.frz _ (.o 4 1 4)))))) (by simp [St.frz, St.pur, h4_2, h4_6, g4_0, g4_1, g4_2, g4_3, g4_4, g4_5, g4_6, n4_0, n4_1, n4_2, n4_3]; rfl) (by first | rfl | (simp [St.frz, St.pur, h4_2, h4_6, g4_0, g4_1, g4_2, g4_3, g4_4, g4_5, g4_6, n4_0, n4_1, n4_2, n4_3]; done) | (rw [if_pos (by first | omega | (simp; omega))]; simp [St.frz, St.pur, h4_2, h4_6, g4_0, g4_1, g4_2, g4_3, g4_4, g4_5, g4_6, n4_0, n4_1, n4_2, n4_3]; first | omega | exact List.take_of_length_le (by simp; omega) | skip)) (by simp))
end Go.Dc
end
section
set_option linter.all false
namespace Go.Dc
open Go Go.Hw Go.Proofs
set_option maxRecDepth 100000
def r08_same_L1 (a1 : List ByteArray) : List ByteArray → Nat → Option (Unit ⊕ Bool)
  | [], k73 => some (.inl ())
  | x98 :: q94, k73 => Option.bind (a1[k73]?) (fun x105 => cond (!(eqS x98 x105)) (some (.inr false)) (r08_same_L1 a1 q94 (k73 + 1)))

def r08_same (a0 : List ByteArray) (a1 : List ByteArray) : Option Bool :=
  cond (!(eqI ((a0.length : Nat) : Int) ((a1.length : Nat) : Int))) (some false) (Option.bind (α := Unit ⊕ Bool) (Option.bind (r08_same_L1 a1 a0 0) (fun o => match o with | .inl _ => some (.inl ()) | .inr r109 => some (.inr r109))) (fun o => match o with | .inl _ => some true | .inr r110 => some r110))

set_option maxHeartbeats 2000000 in
theorem at_r08_same {a0 : List ByteArray} {a1 : List ByteArray} {r : Bool} (hs : r08_same a0 a1 = some r) : At Tryd.prog 69 [.cell (.p (.sl a0.length (encL a0))), .cell (.p (.sl a1.length (encL a1)))] (bV r) := by
  refine at_bound (by kernel_rfl) fun hb => ?_
  have hb1 : LenOk (.sl a0.length (encL a0)) := hb (.cell (.p (.sl a0.length (encL a0)))) (by simp)
  have hb2 : LenOk (.sl a1.length (encL a1)) := hb (.cell (.p (.sl a1.length (encL a1)))) (by simp)
  refine at_code mixed Tryd.func69 (by kernel_rfl) rfl (by kernel_rfl) rfl fun Q hQ => ?_
  rw [r08_same] at hs
  repeat (first | simp | with_reducible first | refine awp_reg ?_ | refine And.intro (by omega) ?_ | refine optF_if (by omega) ?_)
  refine condK_spec (!(eqI ((a0.length : Nat) : Int) ((a1.length : Nat) : Int))) (by first | rfl | (simp; done) | (simp [andB, orB, eqI, ltI, Int.natCast_inj]; done)) (fun h1 => ?_) (fun h1 => ?_)
  · replace hs := condT h1 hs
    repeat (first | simp | with_reducible first | refine awp_reg ?_ | refine And.intro (by omega) ?_ | refine optF_if (by omega) ?_)
    obtain rfl := Option.some.inj hs
    refine hQ _ _ (ret2g _ (Gh.refl _) (by simp [St.frz, St.pur]; rfl) (by first | rfl | (simp [St.frz, St.pur]; done) | (rw [if_pos (by first | omega | (simp; omega))]; simp [St.frz, St.pur]; first | omega | exact List.take_of_length_le (by simp; omega) | skip)) (by simp))
  · replace hs := condF h1 hs
    repeat (first | simp [-awp_cond_eq, -awp_block_eq] | with_reducible first | refine awp_reg ?_ | refine And.intro (by omega) ?_ | refine optF_if (by omega) ?_)
    obtain ⟨o55, e54, hs⟩ := bindO hs
    try dsimp only at hs
    refine awp_cutK (fun (v : Unit) (σ : St) => some (.inl v) = some o55 ∧ 3 ≤ σ.gen) (by rfl) (fun Q hK56 hX57 => ?_) (fun v σ3 hp => ?_)
    · repeat (first | simp | with_reducible first | refine awp_reg ?_ | refine And.intro (by omega) ?_ | refine optF_if (by omega) ?_)
      obtain ⟨o89, e88, e54⟩ := bindO e54
      try dsimp only at e54
      refine awp_loopW (fun (v : (List ByteArray) × Nat) (σ : St) => r08_same_L1 a1 v.1 v.2 = some o89 ∧ v.1 = a0.drop v.2 ∧ σ.env 0 = .cell (.p (.sl a0.length (encL a0))) ∧ σ.env 1 = .cell (.p (.sl a1.length (encL a1))) ∧ σ.env 5 = iV .i64 ((v.2 : Nat) : Int) ∧ 3 ≤ σ.gen) (fun v => v.1.length) _ (Gh.refl _) (a0, 0) ⟨e88, by simp, by simp [St.frz, St.pur], by simp [St.frz, St.pur], by simp [St.frz, St.pur], by first | (simp; done) | (simp; omega) | omega⟩ fun v σ6 hp L90 hL91 => ?_
      obtain ⟨q93, k73⟩ := v
      dsimp only at hp hL91
      obtain ⟨e88, hd92, h5_0, h5_1, h5_5, n5_g⟩ := hp
      rcases q93 with _ | ⟨x98, q94⟩
      · have hlt95 := drop_end hd92
        rw [r08_same_L1] at e88; try dsimp only at e88
        repeat (first | simp [h5_0, h5_1, h5_5] | with_reducible first | refine awp_reg ?_ | refine And.intro (by omega) ?_ | refine optF_if (by omega) ?_)
        refine condK_f (by simp [ltI]; omega) ?_
        obtain rfl := Option.some.inj e88
        try dsimp only at e54
        exact hK56 () _ _ (Gh.refl _) ⟨e54, by first | (simp; done) | (simp; omega) | omega⟩
      · obtain ⟨hx97, hlt95, hd99⟩ := drop_next hd92
        have ew96 := wrap_succ hlt95 (hb1).len
        rw [r08_same_L1] at e88; try dsimp only at e88
        repeat (first | simp [h5_0, h5_1, h5_5, hlt95, ew96] | with_reducible first | refine awp_reg ?_ | refine And.intro (by omega) ?_ | refine optF_if (by omega) ?_)
        refine condK_t (by simp [ltI]; omega) ?_
        have f104 : partCV Tryd.prog 9 (encL a0) (k73) = some (sV x98) := partCV_enc1 hx97 (by simp)
        obtain ⟨x105, hx106, e88⟩ := bindO e88
        try dsimp only at e88
        have hx106b := getN_some hx106
        have f107 : partCV Tryd.prog 9 (encL a1) (k73) = some (sV x105) := partCV_enc1 hx106 (by simp)
        repeat (first | simp [h5_0, h5_1, h5_5, hlt95, ew96, f104, f107] | with_reducible first | refine awp_reg ?_ | refine awp_draw ?_ | refine ord_l (by kernel_rfl) ?_ | refine ord_e (by kernel_rfl) ?_ | refine ord_c (by kernel_rfl) ?_ | refine ord_d (by kernel_rfl) ?_ | refine optF_if (by omega) ?_)
        refine condK_spec (!(eqS x98 x105)) (by first | rfl | (simp [h5_0, h5_1, h5_5, hlt95, ew96, f104, f107]; done) | (simp [andB, orB, eqI, ltI, Int.natCast_inj, h5_0, h5_1, h5_5, hlt95, ew96, f104, f107]; done)) (fun h108 => ?_) (fun h108 => ?_)
        · replace e88 := condT h108 e88
          repeat (first | simp [h5_0, h5_1, h5_5, hlt95, ew96, f104, f107] | with_reducible first | refine awp_reg ?_ | refine awp_draw ?_ | refine ord_l (by kernel_rfl) ?_ | refine ord_e (by kernel_rfl) ?_ | refine ord_c (by kernel_rfl) ?_ | refine ord_d (by kernel_rfl) ?_ | refine optF_if (by omega) ?_)
          obtain rfl := Option.some.inj e88
          try dsimp only at e54
          obtain rfl := Option.some.inj e54
          try dsimp only at hs
          refine hX57 _ _ (by simp) ?_
          repeat (first | simp [h5_0, h5_1, h5_5, hlt95, ew96, f104, f107] | with_reducible first | refine awp_reg ?_ | refine awp_draw ?_ | refine ord_l (by kernel_rfl) ?_ | refine ord_e (by kernel_rfl) ?_ | refine ord_c (by kernel_rfl) ?_ | refine ord_d (by kernel_rfl) ?_ | refine optF_if (by omega) ?_)
          obtain rfl := Option.some.inj hs
          refine hQ _ _ (ret2g _ (Gh.refl _) (by simp [St.frz, St.pur, h5_0, h5_1, h5_5, hlt95, ew96, f104, f107]; rfl) (by first | rfl | (simp [St.frz, St.pur, h5_0, h5_1, h5_5, hlt95, ew96, f104, f107]; done) | (rw [if_pos (by first | omega | (simp; omega))]; simp [St.frz, St.pur, h5_0, h5_1, h5_5, hlt95, ew96, f104, f107]; first | omega | exact List.take_of_length_le (by simp; omega) | skip)) (by simp))
        · replace e88 := condF h108 e88
          repeat (first | simp [h5_0, h5_1, h5_5, hlt95, ew96, f104, f107] | with_reducible first | refine awp_reg ?_ | refine awp_draw ?_ | refine ord_l (by kernel_rfl) ?_ | refine ord_e (by kernel_rfl) ?_ | refine ord_c (by kernel_rfl) ?_ | refine ord_d (by kernel_rfl) ?_ | refine optF_if (by omega) ?_)
          refine hL91 (q94, (k73 + 1)) _ _ (Gh.refl _) ⟨e88, hd99, ?_, ?_, ?_, by first | (simp; done) | (simp; omega) | omega⟩ (by simp) <;> simp [St.frz, St.pur, h5_0, h5_1, h5_5, hlt95, ew96, f104, f107]
    · obtain ⟨e54, n4_g⟩ := hp
      obtain rfl := Option.some.inj e54
      try dsimp only at hs
      repeat (first | simp | with_reducible first | refine awp_reg ?_ | refine And.intro (by omega) ?_ | refine optF_if (by omega) ?_)
      obtain rfl := Option.some.inj hs
      refine hQ _ _ (ret2g _ (Gh.refl _) (by simp [St.frz, St.pur]; rfl) (by first | rfl | (simp [St.frz, St.pur]; done) | (rw [if_pos (by first | omega | (simp; omega))]; simp [St.frz, St.pur]; first | omega | exact List.take_of_length_le (by simp; omega) | skip)) (by simp))
end Go.Dc
end
section
set_option linter.all false
namespace Go.Dc
open Go Go.Hw Go.Proofs
set_option maxRecDepth 100000
def r08_function_L1 (a1 : Func) : List Inst → Nat → Option (Unit ⊕ Bool)
  | [], k73 => some (.inl ())
  | x98 :: q94, k73 => Option.bind (a1.Code[k73]?) (fun x105 => cond (!(x98.Op == x105.Op && (x98.A == x105.A && (x98.B == x105.B && (x98.C == x105.C && (x98.Obj == x105.Obj && (x98.N == x105.N && (x98.Fn == x105.Fn && (x98.Order == x105.Order && true))))))))) (some (.inr false)) (r08_function_L1 a1 q94 (k73 + 1)))

def r08_function (a0 : Func) (a1 : Func) : Option Bool :=
  cond (orB (!(eqS a0.Name a1.Name)) (!(eqI ((a0.Code.length : Nat) : Int) ((a1.Code.length : Nat) : Int)))) (some false) (Option.bind (α := Unit ⊕ Bool) (Option.bind (r08_function_L1 a1 a0.Code 0) (fun o => match o with | .inl _ => some (.inl ()) | .inr r109 => some (.inr r109))) (fun o => match o with | .inl _ => some true | .inr r110 => some r110))

set_option maxHeartbeats 2000000 in
theorem at_r08_function {a0 : Func} {a1 : Func} {r : Bool} (hs : r08_function a0 a1 = some r) : At Tryd.prog 70 [.agg [.p (.c (.string a0.Name)), .p (.sl a0.Code.length (encL a0.Code))], .agg [.p (.c (.string a1.Name)), .p (.sl a1.Code.length (encL a1.Code))]] (bV r) := by
  refine at_bound (by kernel_rfl) fun hb => ?_
  have hb1 : LenOk (.sl a0.Code.length (encL a0.Code)) := hb (.agg [.p (.c (.string a0.Name)), .p (.sl a0.Code.length (encL a0.Code))]) (by simp) (.p (.sl a0.Code.length (encL a0.Code))) (by simp)
  have hb2 : LenOk (.sl a1.Code.length (encL a1.Code)) := hb (.agg [.p (.c (.string a1.Name)), .p (.sl a1.Code.length (encL a1.Code))]) (by simp) (.p (.sl a1.Code.length (encL a1.Code))) (by simp)
  refine at_code mixed Tryd.func70 (by kernel_rfl) rfl (by kernel_rfl) rfl fun Q hQ => ?_
  rw [r08_function] at hs
  repeat (first | simp | with_reducible first | refine awp_reg ?_ | refine And.intro (by omega) ?_ | refine optF_if (by omega) ?_ | refine gsel_pure (by with_unfolding_all rfl) _ (fun hg => by (try simp at hg); first | (simp [hg]; rfl) | (simp; simp only [if_pos hg]; simp; rfl)) ?_)
  refine condK_spec (orB (!(eqS a0.Name a1.Name)) (!(eqI ((a0.Code.length : Nat) : Int) ((a1.Code.length : Nat) : Int)))) (by first | rfl | (simp; done) | (simp [andB, orB, eqI, ltI, Int.natCast_inj]; done)) (fun h1 => ?_) (fun h1 => ?_)
  · replace hs := condT h1 hs
    repeat (first | simp | with_reducible first | refine awp_reg ?_ | refine And.intro (by omega) ?_ | refine optF_if (by omega) ?_ | refine gsel_pure (by with_unfolding_all rfl) _ (fun hg => by (try simp at hg); first | (simp [hg]; rfl) | (simp; simp only [if_pos hg]; simp; rfl)) ?_)
    obtain rfl := Option.some.inj hs
    refine hQ _ _ (ret2g _ (Gh.refl _) (by simp [St.frz, St.pur]; rfl) (by first | rfl | (simp [St.frz, St.pur]; done) | (rw [if_pos (by first | omega | (simp; omega))]; simp [St.frz, St.pur]; first | omega | exact List.take_of_length_le (by simp; omega) | skip)) (by simp))
  · replace hs := condF h1 hs
    repeat (first | simp [-awp_cond_eq, -awp_block_eq] | with_reducible first | refine awp_reg ?_ | refine And.intro (by omega) ?_ | refine optF_if (by omega) ?_ | refine gsel_pure (by with_unfolding_all rfl) _ (fun hg => by (try simp at hg); first | (simp [hg]; rfl) | (simp; simp only [if_pos hg]; simp; rfl)) ?_)
    obtain ⟨o55, e54, hs⟩ := bindO hs
    try dsimp only at hs
    refine awp_cutK (fun (v : Unit) (σ : St) => some (.inl v) = some o55 ∧ 3 ≤ σ.gen) (by rfl) (fun Q hK56 hX57 => ?_) (fun v σ3 hp => ?_)
    · repeat (first | simp | with_reducible first | refine awp_reg ?_ | refine And.intro (by omega) ?_ | refine optF_if (by omega) ?_ | refine gsel_pure (by with_unfolding_all rfl) _ (fun hg => by (try simp at hg); first | (simp [hg]; rfl) | (simp; simp only [if_pos hg]; simp; rfl)) ?_)
      obtain ⟨o89, e88, e54⟩ := bindO e54
      try dsimp only at e54
      refine awp_loopW (fun (v : (List Inst) × Nat) (σ : St) => r08_function_L1 a1 v.1 v.2 = some o89 ∧ v.1 = a0.Code.drop v.2 ∧ σ.env 2 = .cell (.ref (.o 1 0 0) 0) ∧ σ.env 3 = .cell (.ref (.o 1 1 0) 0) ∧ σ.env 5 = iV .i64 ((v.2 : Nat) : Int) ∧ σ.hp (.o 1 0 0) = some (.cells [.p (.c (.string a0.Name)), .p (.sl a0.Code.length (encL a0.Code))]) ∧ σ.hp (.o 1 1 0) = some (.cells [.p (.c (.string a1.Name)), .p (.sl a1.Code.length (encL a1.Code))]) ∧ 3 ≤ σ.gen) (fun v => v.1.length) _ (Gh.refl _) (a0.Code, 0) ⟨e88, by simp, by simp [St.frz, St.pur], by simp [St.frz, St.pur], by simp [St.frz, St.pur], by simp [St.frz, St.pur], by simp [St.frz, St.pur], by first | (simp; done) | (simp; omega) | omega⟩ fun v σ6 hp L90 hL91 => ?_
      obtain ⟨q93, k73⟩ := v
      dsimp only at hp hL91
      obtain ⟨e88, hd92, h5_2, h5_3, h5_5, g5_0, g5_1, n5_g⟩ := hp
      have n5_0 : ¬ (σ6.gen = 0) := by omega
      rcases q93 with _ | ⟨x98, q94⟩
      · have hlt95 := drop_end hd92
        rw [r08_function_L1] at e88; try dsimp only at e88
        repeat (first | simp [h5_2, h5_3, h5_5, g5_0, g5_1, n5_0] | with_reducible first | refine awp_reg ?_ | refine And.intro (by omega) ?_ | refine optF_if (by omega) ?_)
        refine condK_f (by simp [ltI]; omega) ?_
        obtain rfl := Option.some.inj e88
        try dsimp only at e54
        exact hK56 () _ _ (Gh.refl _) ⟨e54, by first | (simp; done) | (simp; omega) | omega⟩
      · obtain ⟨hx97, hlt95, hd99⟩ := drop_next hd92
        have ew96 := wrap_succ hlt95 (hb1).len
        rw [r08_function_L1] at e88; try dsimp only at e88
        repeat (first | simp [h5_2, h5_3, h5_5, g5_0, g5_1, n5_0, hlt95, ew96] | with_reducible first | refine awp_reg ?_ | refine And.intro (by omega) ?_ | refine optF_if (by omega) ?_)
        refine condK_t (by simp [ltI]; omega) ?_
        have f104 : partCV Tryd.prog 71 (encL a0.Code) (k73 * 8) = some (.agg [.p (.c (.int .i64 x98.Op)), .p (.c (.int .i64 x98.A)), .p (.c (.int .i64 x98.B)), .p (.c (.int .i64 x98.C)), .p (.c (.int .i64 x98.Obj)), .p (.c (.int .i64 x98.N)), .p (.c (.int .i64 x98.Fn)), .p (.c (.int .i64 x98.Order))]) := partCV_enc hx97 (f := 0) (by simp)
        obtain ⟨x105, hx106, e88⟩ := bindO e88
        try dsimp only at e88
        have hx106b := getN_some hx106
        have f107 : partCV Tryd.prog 71 (encL a1.Code) (k73 * 8) = some (.agg [.p (.c (.int .i64 x105.Op)), .p (.c (.int .i64 x105.A)), .p (.c (.int .i64 x105.B)), .p (.c (.int .i64 x105.C)), .p (.c (.int .i64 x105.Obj)), .p (.c (.int .i64 x105.N)), .p (.c (.int .i64 x105.Fn)), .p (.c (.int .i64 x105.Order))]) := partCV_enc hx106 (f := 0) (by simp)
        repeat (first | simp [h5_2, h5_3, h5_5, g5_0, g5_1, n5_0, hlt95, ew96, f104, f107, eqCells] | with_reducible first | refine awp_reg ?_ | refine awp_draw ?_ | refine ord_l (by kernel_rfl) ?_ | refine ord_e (by kernel_rfl) ?_ | refine ord_c (by kernel_rfl) ?_ | refine ord_d (by kernel_rfl) ?_ | refine optF_if (by omega) ?_)
        refine condK_spec (!(x98.Op == x105.Op && (x98.A == x105.A && (x98.B == x105.B && (x98.C == x105.C && (x98.Obj == x105.Obj && (x98.N == x105.N && (x98.Fn == x105.Fn && (x98.Order == x105.Order && true))))))))) (by first | rfl | (simp [h5_2, h5_3, h5_5, g5_0, g5_1, n5_0, hlt95, ew96, f104, f107, eqCells]; done) | (simp [andB, orB, eqI, ltI, Int.natCast_inj, h5_2, h5_3, h5_5, g5_0, g5_1, n5_0, hlt95, ew96, f104, f107, eqCells]; done)) (fun h108 => ?_) (fun h108 => ?_)
        · replace e88 := condT h108 e88
          repeat (first | simp [h5_2, h5_3, h5_5, g5_0, g5_1, n5_0, hlt95, ew96, f104, f107, eqCells] | with_reducible first | refine awp_reg ?_ | refine awp_draw ?_ | refine ord_l (by kernel_rfl) ?_ | refine ord_e (by kernel_rfl) ?_ | refine ord_c (by kernel_rfl) ?_ | refine ord_d (by kernel_rfl) ?_ | refine optF_if (by omega) ?_)
          obtain rfl := Option.some.inj e88
          try dsimp only at e54
          obtain rfl := Option.some.inj e54
          try dsimp only at hs
          refine hX57 _ _ (by simp) ?_
          repeat (first | simp [h5_2, h5_3, h5_5, g5_0, g5_1, n5_0, hlt95, ew96, f104, f107, eqCells] | with_reducible first | refine awp_reg ?_ | refine awp_draw ?_ | refine ord_l (by kernel_rfl) ?_ | refine ord_e (by kernel_rfl) ?_ | refine ord_c (by kernel_rfl) ?_ | refine ord_d (by kernel_rfl) ?_ | refine optF_if (by omega) ?_)
          obtain rfl := Option.some.inj hs
          refine hQ _ _ (ret2g _ (Gh.refl _) (by simp [St.frz, St.pur, h5_2, h5_3, h5_5, g5_0, g5_1, n5_0, hlt95, ew96, f104, f107, eqCells]; rfl) (by first | rfl | (simp [St.frz, St.pur, h5_2, h5_3, h5_5, g5_0, g5_1, n5_0, hlt95, ew96, f104, f107, eqCells]; done) | (rw [if_pos (by first | omega | (simp; omega))]; simp [St.frz, St.pur, h5_2, h5_3, h5_5, g5_0, g5_1, n5_0, hlt95, ew96, f104, f107, eqCells]; first | omega | exact List.take_of_length_le (by simp; omega) | skip)) (by simp))
        · replace e88 := condF h108 e88
          repeat (first | simp [h5_2, h5_3, h5_5, g5_0, g5_1, n5_0, hlt95, ew96, f104, f107, eqCells] | with_reducible first | refine awp_reg ?_ | refine awp_draw ?_ | refine ord_l (by kernel_rfl) ?_ | refine ord_e (by kernel_rfl) ?_ | refine ord_c (by kernel_rfl) ?_ | refine ord_d (by kernel_rfl) ?_ | refine optF_if (by omega) ?_)
          refine hL91 (q94, (k73 + 1)) _ _ (Gh.refl _) ⟨e88, hd99, ?_, ?_, ?_, ?_, ?_, by first | (simp; done) | (simp; omega) | omega⟩ (by simp) <;> simp [St.frz, St.pur, h5_2, h5_3, h5_5, g5_0, g5_1, n5_0, hlt95, ew96, f104, f107, eqCells]
    · obtain ⟨e54, n4_g⟩ := hp
      obtain rfl := Option.some.inj e54
      try dsimp only at hs
      repeat (first | simp | with_reducible first | refine awp_reg ?_ | refine And.intro (by omega) ?_ | refine optF_if (by omega) ?_ | refine gsel_pure (by with_unfolding_all rfl) _ (fun hg => by (try simp at hg); first | (simp [hg]; rfl) | (simp; simp only [if_pos hg]; simp; rfl)) ?_)
      obtain rfl := Option.some.inj hs
      refine hQ _ _ (ret2g _ (Gh.refl _) (by simp [St.frz, St.pur]; rfl) (by first | rfl | (simp [St.frz, St.pur]; done) | (rw [if_pos (by first | omega | (simp; omega))]; simp [St.frz, St.pur]; first | omega | exact List.take_of_length_le (by simp; omega) | skip)) (by simp))
end Go.Dc
end
section
set_option linter.all false
namespace Go.Dc
open Go Go.Hw Go.Proofs
set_option maxRecDepth 100000
def r08_Equal_L1 (a1 : Program) : List Var → Nat → Option (Unit ⊕ Bool)
  | [], k75 => some (.inl ())
  | x100 :: q96, k75 => Option.bind (a1.Vars[k75]?) (fun x107 => cond (!(x100.Name.toList == x107.Name.toList && (x100.Init == x107.Init && true))) (some (.inr false)) (r08_Equal_L1 a1 q96 (k75 + 1)))

def r08_Equal_L2 (a1 : Program) : List Func → Nat → Option (Unit ⊕ Bool)
  | [], k199 => some (.inl ())
  | x228 :: q224, k199 => Option.bind (a1.Funcs[k199]?) (fun x237 => Option.bind (r08_function x228 x237) (fun y240 => cond (!y240) (some (.inr false)) (r08_Equal_L2 a1 q224 (k199 + 1))))

def r08_Equal_L3 (a1 : Program) : List Start → Nat → Option (Unit ⊕ Bool)
  | [], k315 => some (.inl ())
  | x340 :: q336, k315 => Option.bind (a1.Threads[k315]?) (fun x347 => cond (!(x340.Func == x347.Func && (x340.Arg == x347.Arg && true))) (some (.inr false)) (r08_Equal_L3 a1 q336 (k315 + 1)))

def r08_Equal (a0 : Program) (a1 : Program) : Option Bool :=
  guardO (orB (!(eqI ((a0.Vars.length : Nat) : Int) ((a1.Vars.length : Nat) : Int))) ((r08_same a0.Mutexes a1.Mutexes).isSome)) (guardO (orB (!(!(orB (!(eqI ((a0.Vars.length : Nat) : Int) ((a1.Vars.length : Nat) : Int))) (!((r08_same a0.Mutexes a1.Mutexes).getD default))))) ((r08_same a0.Conds a1.Conds).isSome)) (cond (orB (orB (orB (orB (!(eqI ((a0.Vars.length : Nat) : Int) ((a1.Vars.length : Nat) : Int))) (!((r08_same a0.Mutexes a1.Mutexes).getD default))) (!((r08_same a0.Conds a1.Conds).getD default))) (!(eqI ((a0.Funcs.length : Nat) : Int) ((a1.Funcs.length : Nat) : Int)))) (!(eqI ((a0.Threads.length : Nat) : Int) ((a1.Threads.length : Nat) : Int)))) (some false) (Option.bind (α := Unit ⊕ Bool) (Option.bind (r08_Equal_L1 a1 a0.Vars 0) (fun o => match o with | .inl _ => some (.inl ()) | .inr r111 => some (.inr r111))) (fun o => match o with | .inl _ => Option.bind (α := Unit ⊕ Bool) (Option.bind (r08_Equal_L2 a1 a0.Funcs 0) (fun o => match o with | .inl _ => some (.inl ()) | .inr r243 => some (.inr r243))) (fun o => match o with | .inl _ => Option.bind (α := Unit ⊕ Bool) (Option.bind (r08_Equal_L3 a1 a0.Threads 0) (fun o => match o with | .inl _ => some (.inl ()) | .inr r351 => some (.inr r351))) (fun o => match o with | .inl _ => some true | .inr r352 => some r352) | .inr r353 => some r353) | .inr r354 => some r354))))

set_option maxHeartbeats 2000000 in
theorem at_r08_Equal {a0 : Program} {a1 : Program} {r : Bool} (hs : r08_Equal a0 a1 = some r) : At Tryd.prog 42 [.agg [.p (.sl a0.Vars.length (encL a0.Vars)), .p (.sl a0.Mutexes.length (encL a0.Mutexes)), .p (.sl a0.Conds.length (encL a0.Conds)), .p (.sl a0.Funcs.length (encL a0.Funcs)), .p (.sl a0.Threads.length (encL a0.Threads))], .agg [.p (.sl a1.Vars.length (encL a1.Vars)), .p (.sl a1.Mutexes.length (encL a1.Mutexes)), .p (.sl a1.Conds.length (encL a1.Conds)), .p (.sl a1.Funcs.length (encL a1.Funcs)), .p (.sl a1.Threads.length (encL a1.Threads))]] (bV r) := by
  refine at_bound (by kernel_rfl) fun hb => ?_
  have hb1 : LenOk (.sl a0.Vars.length (encL a0.Vars)) := hb (.agg [.p (.sl a0.Vars.length (encL a0.Vars)), .p (.sl a0.Mutexes.length (encL a0.Mutexes)), .p (.sl a0.Conds.length (encL a0.Conds)), .p (.sl a0.Funcs.length (encL a0.Funcs)), .p (.sl a0.Threads.length (encL a0.Threads))]) (by simp) (.p (.sl a0.Vars.length (encL a0.Vars))) (by simp)
  have hb2 : LenOk (.sl a0.Mutexes.length (encL a0.Mutexes)) := hb (.agg [.p (.sl a0.Vars.length (encL a0.Vars)), .p (.sl a0.Mutexes.length (encL a0.Mutexes)), .p (.sl a0.Conds.length (encL a0.Conds)), .p (.sl a0.Funcs.length (encL a0.Funcs)), .p (.sl a0.Threads.length (encL a0.Threads))]) (by simp) (.p (.sl a0.Mutexes.length (encL a0.Mutexes))) (by simp)
  have hb3 : LenOk (.sl a0.Conds.length (encL a0.Conds)) := hb (.agg [.p (.sl a0.Vars.length (encL a0.Vars)), .p (.sl a0.Mutexes.length (encL a0.Mutexes)), .p (.sl a0.Conds.length (encL a0.Conds)), .p (.sl a0.Funcs.length (encL a0.Funcs)), .p (.sl a0.Threads.length (encL a0.Threads))]) (by simp) (.p (.sl a0.Conds.length (encL a0.Conds))) (by simp)
  have hb4 : LenOk (.sl a0.Funcs.length (encL a0.Funcs)) := hb (.agg [.p (.sl a0.Vars.length (encL a0.Vars)), .p (.sl a0.Mutexes.length (encL a0.Mutexes)), .p (.sl a0.Conds.length (encL a0.Conds)), .p (.sl a0.Funcs.length (encL a0.Funcs)), .p (.sl a0.Threads.length (encL a0.Threads))]) (by simp) (.p (.sl a0.Funcs.length (encL a0.Funcs))) (by simp)
  have hb5 : LenOk (.sl a0.Threads.length (encL a0.Threads)) := hb (.agg [.p (.sl a0.Vars.length (encL a0.Vars)), .p (.sl a0.Mutexes.length (encL a0.Mutexes)), .p (.sl a0.Conds.length (encL a0.Conds)), .p (.sl a0.Funcs.length (encL a0.Funcs)), .p (.sl a0.Threads.length (encL a0.Threads))]) (by simp) (.p (.sl a0.Threads.length (encL a0.Threads))) (by simp)
  have hb6 : LenOk (.sl a1.Vars.length (encL a1.Vars)) := hb (.agg [.p (.sl a1.Vars.length (encL a1.Vars)), .p (.sl a1.Mutexes.length (encL a1.Mutexes)), .p (.sl a1.Conds.length (encL a1.Conds)), .p (.sl a1.Funcs.length (encL a1.Funcs)), .p (.sl a1.Threads.length (encL a1.Threads))]) (by simp) (.p (.sl a1.Vars.length (encL a1.Vars))) (by simp)
  have hb7 : LenOk (.sl a1.Mutexes.length (encL a1.Mutexes)) := hb (.agg [.p (.sl a1.Vars.length (encL a1.Vars)), .p (.sl a1.Mutexes.length (encL a1.Mutexes)), .p (.sl a1.Conds.length (encL a1.Conds)), .p (.sl a1.Funcs.length (encL a1.Funcs)), .p (.sl a1.Threads.length (encL a1.Threads))]) (by simp) (.p (.sl a1.Mutexes.length (encL a1.Mutexes))) (by simp)
  have hb8 : LenOk (.sl a1.Conds.length (encL a1.Conds)) := hb (.agg [.p (.sl a1.Vars.length (encL a1.Vars)), .p (.sl a1.Mutexes.length (encL a1.Mutexes)), .p (.sl a1.Conds.length (encL a1.Conds)), .p (.sl a1.Funcs.length (encL a1.Funcs)), .p (.sl a1.Threads.length (encL a1.Threads))]) (by simp) (.p (.sl a1.Conds.length (encL a1.Conds))) (by simp)
  have hb9 : LenOk (.sl a1.Funcs.length (encL a1.Funcs)) := hb (.agg [.p (.sl a1.Vars.length (encL a1.Vars)), .p (.sl a1.Mutexes.length (encL a1.Mutexes)), .p (.sl a1.Conds.length (encL a1.Conds)), .p (.sl a1.Funcs.length (encL a1.Funcs)), .p (.sl a1.Threads.length (encL a1.Threads))]) (by simp) (.p (.sl a1.Funcs.length (encL a1.Funcs))) (by simp)
  have hb10 : LenOk (.sl a1.Threads.length (encL a1.Threads)) := hb (.agg [.p (.sl a1.Vars.length (encL a1.Vars)), .p (.sl a1.Mutexes.length (encL a1.Mutexes)), .p (.sl a1.Conds.length (encL a1.Conds)), .p (.sl a1.Funcs.length (encL a1.Funcs)), .p (.sl a1.Threads.length (encL a1.Threads))]) (by simp) (.p (.sl a1.Threads.length (encL a1.Threads))) (by simp)
  refine at_code mixed Tryd.func42 (by kernel_rfl) rfl (by kernel_rfl) rfl fun Q hQ => ?_
  rw [r08_Equal] at hs
  repeat (first | simp | with_reducible first | refine awp_reg ?_ | refine And.intro (by omega) ?_ | refine optF_if (by omega) ?_ | refine gsel_pure (by with_unfolding_all rfl) _ (fun hg => by (try simp at hg); first | (simp [hg]; rfl) | (simp; simp only [if_pos hg]; simp; rfl)) ?_)
  obtain ⟨g1, hs⟩ := guardO_some hs
  refine gsel_call (fun hg => at_r08_same (under_call g1 hg)) (fun hg => by (try simp at hg); (first | simp [hg, id]); try rfl) (fun hg => by (try simp at hg); simp [hg, id]) (by simp) ?_
  repeat (first | simp | with_reducible first | refine awp_reg ?_ | refine And.intro (by omega) ?_ | refine optF_if (by omega) ?_ | refine gsel_pure (by with_unfolding_all rfl) _ (fun hg => by (try simp at hg); first | (simp [hg]; rfl) | (simp; simp only [if_pos hg]; simp; rfl)) ?_)
  obtain ⟨g2, hs⟩ := guardO_some hs
  refine gsel_call (fun hg => at_r08_same (under_call g2 hg)) (fun hg => by (try simp at hg); (first | simp [hg, id]); try rfl) (fun hg => by (try simp at hg); simp [hg, id]) (by simp) ?_
  repeat (first | simp | with_reducible first | refine awp_reg ?_ | refine And.intro (by omega) ?_ | refine optF_if (by omega) ?_ | refine gsel_pure (by with_unfolding_all rfl) _ (fun hg => by (try simp at hg); first | (simp [hg]; rfl) | (simp; simp only [if_pos hg]; simp; rfl)) ?_)
  refine condK_spec (orB (orB (orB (orB (!(eqI ((a0.Vars.length : Nat) : Int) ((a1.Vars.length : Nat) : Int))) (!((r08_same a0.Mutexes a1.Mutexes).getD default))) (!((r08_same a0.Conds a1.Conds).getD default))) (!(eqI ((a0.Funcs.length : Nat) : Int) ((a1.Funcs.length : Nat) : Int)))) (!(eqI ((a0.Threads.length : Nat) : Int) ((a1.Threads.length : Nat) : Int)))) (by first | rfl | (simp; done) | (simp [andB, orB, eqI, ltI, Int.natCast_inj]; done)) (fun h3 => ?_) (fun h3 => ?_)
  · replace hs := condT h3 hs
    repeat (first | simp | with_reducible first | refine awp_reg ?_ | refine And.intro (by omega) ?_ | refine optF_if (by omega) ?_ | refine gsel_pure (by with_unfolding_all rfl) _ (fun hg => by (try simp at hg); first | (simp [hg]; rfl) | (simp; simp only [if_pos hg]; simp; rfl)) ?_)
    obtain rfl := Option.some.inj hs
    refine hQ _ _ (ret2g _ (Gh.refl _) (by simp [St.frz, St.pur]; rfl) (by first | rfl | (simp [St.frz, St.pur]; done) | (rw [if_pos (by first | omega | (simp; omega))]; simp [St.frz, St.pur]; first | omega | exact List.take_of_length_le (by simp; omega) | skip)) (by simp))
  · replace hs := condF h3 hs
    repeat (first | simp [-awp_cond_eq, -awp_block_eq] | with_reducible first | refine awp_reg ?_ | refine And.intro (by omega) ?_ | refine optF_if (by omega) ?_ | refine gsel_pure (by with_unfolding_all rfl) _ (fun hg => by (try simp at hg); first | (simp [hg]; rfl) | (simp; simp only [if_pos hg]; simp; rfl)) ?_)
    obtain ⟨o57, e56, hs⟩ := bindO hs
    try dsimp only at hs
    refine awp_cutK (fun (v : Unit) (σ : St) => some (.inl v) = some o57 ∧ σ.env 2 = .cell (.ref (.o 1 0 0) 0) ∧ σ.env 3 = .cell (.ref (.o 1 1 0) 0) ∧ σ.hp (.o 1 0 0) = some (.cells [.p (.sl a0.Vars.length (encL a0.Vars)), .p (.sl a0.Mutexes.length (encL a0.Mutexes)), .p (.sl a0.Conds.length (encL a0.Conds)), .p (.sl a0.Funcs.length (encL a0.Funcs)), .p (.sl a0.Threads.length (encL a0.Threads))]) ∧ σ.hp (.o 1 1 0) = some (.cells [.p (.sl a1.Vars.length (encL a1.Vars)), .p (.sl a1.Mutexes.length (encL a1.Mutexes)), .p (.sl a1.Conds.length (encL a1.Conds)), .p (.sl a1.Funcs.length (encL a1.Funcs)), .p (.sl a1.Threads.length (encL a1.Threads))]) ∧ 3 ≤ σ.gen) (by rfl) (fun Q hK58 hX59 => ?_) (fun v σ3 hp => ?_)
    · repeat (first | simp | with_reducible first | refine awp_reg ?_ | refine And.intro (by omega) ?_ | refine optF_if (by omega) ?_ | refine gsel_pure (by with_unfolding_all rfl) _ (fun hg => by (try simp at hg); first | (simp [hg]; rfl) | (simp; simp only [if_pos hg]; simp; rfl)) ?_)
      obtain ⟨o91, e90, e56⟩ := bindO e56
      try dsimp only at e56
      refine awp_loopW (fun (v : (List Var) × Nat) (σ : St) => r08_Equal_L1 a1 v.1 v.2 = some o91 ∧ v.1 = a0.Vars.drop v.2 ∧ σ.env 2 = .cell (.ref (.o 1 0 0) 0) ∧ σ.env 3 = .cell (.ref (.o 1 1 0) 0) ∧ σ.env 5 = iV .i64 ((v.2 : Nat) : Int) ∧ σ.hp (.o 1 0 0) = some (.cells [.p (.sl a0.Vars.length (encL a0.Vars)), .p (.sl a0.Mutexes.length (encL a0.Mutexes)), .p (.sl a0.Conds.length (encL a0.Conds)), .p (.sl a0.Funcs.length (encL a0.Funcs)), .p (.sl a0.Threads.length (encL a0.Threads))]) ∧ σ.hp (.o 1 1 0) = some (.cells [.p (.sl a1.Vars.length (encL a1.Vars)), .p (.sl a1.Mutexes.length (encL a1.Mutexes)), .p (.sl a1.Conds.length (encL a1.Conds)), .p (.sl a1.Funcs.length (encL a1.Funcs)), .p (.sl a1.Threads.length (encL a1.Threads))]) ∧ 3 ≤ σ.gen) (fun v => v.1.length) _ (Gh.refl _) (a0.Vars, 0) ⟨e90, by simp, by simp [St.frz, St.pur], by simp [St.frz, St.pur], by simp [St.frz, St.pur], by simp [St.frz, St.pur], by simp [St.frz, St.pur], by first | (simp; done) | (simp; omega) | omega⟩ fun v σ6 hp L92 hL93 => ?_
      obtain ⟨q95, k75⟩ := v
      dsimp only at hp hL93
      obtain ⟨e90, hd94, h5_2, h5_3, h5_5, g5_0, g5_1, n5_g⟩ := hp
      have n5_0 : ¬ (σ6.gen = 0) := by omega
      rcases q95 with _ | ⟨x100, q96⟩
      · have hlt97 := drop_end hd94
        rw [r08_Equal_L1] at e90; try dsimp only at e90
        repeat (first | simp [h5_2, h5_3, h5_5, g5_0, g5_1, n5_0] | with_reducible first | refine awp_reg ?_ | refine And.intro (by omega) ?_ | refine optF_if (by omega) ?_)
        refine condK_f (by simp [ltI]; omega) ?_
        obtain rfl := Option.some.inj e90
        try dsimp only at e56
        refine hK58 () _ _ (Gh.refl _) ⟨e56, ?_, ?_, ?_, ?_, by first | (simp; done) | (simp; omega) | omega⟩ <;> simp [St.frz, St.pur, h5_2, h5_3, h5_5, g5_0, g5_1, n5_0]
      · obtain ⟨hx99, hlt97, hd101⟩ := drop_next hd94
        have ew98 := wrap_succ hlt97 (hb1).len
        rw [r08_Equal_L1] at e90; try dsimp only at e90
        repeat (first | simp [h5_2, h5_3, h5_5, g5_0, g5_1, n5_0, hlt97, ew98] | with_reducible first | refine awp_reg ?_ | refine And.intro (by omega) ?_ | refine optF_if (by omega) ?_)
        refine condK_t (by simp [ltI]; omega) ?_
        have f106 : partCV Tryd.prog 105 (encL a0.Vars) (k75 * 2) = some (.agg [.p (.c (.string x100.Name)), .p (.c (.int .i64 x100.Init))]) := partCV_enc hx99 (f := 0) (by simp)
        obtain ⟨x107, hx108, e90⟩ := bindO e90
        try dsimp only at e90
        have hx108b := getN_some hx108
        have f109 : partCV Tryd.prog 105 (encL a1.Vars) (k75 * 2) = some (.agg [.p (.c (.string x107.Name)), .p (.c (.int .i64 x107.Init))]) := partCV_enc hx108 (f := 0) (by simp)
        repeat (first | simp [h5_2, h5_3, h5_5, g5_0, g5_1, n5_0, hlt97, ew98, f106, f109, eqCells] | with_reducible first | refine awp_reg ?_ | refine awp_draw ?_ | refine ord_l (by kernel_rfl) ?_ | refine ord_e (by kernel_rfl) ?_ | refine ord_c (by kernel_rfl) ?_ | refine ord_d (by kernel_rfl) ?_ | refine optF_if (by omega) ?_)
        refine condK_spec (!(x100.Name.toList == x107.Name.toList && (x100.Init == x107.Init && true))) (by first | rfl | (simp [h5_2, h5_3, h5_5, g5_0, g5_1, n5_0, hlt97, ew98, f106, f109, eqCells]; done) | (simp [andB, orB, eqI, ltI, Int.natCast_inj, h5_2, h5_3, h5_5, g5_0, g5_1, n5_0, hlt97, ew98, f106, f109, eqCells]; done)) (fun h110 => ?_) (fun h110 => ?_)
        · replace e90 := condT h110 e90
          repeat (first | simp [h5_2, h5_3, h5_5, g5_0, g5_1, n5_0, hlt97, ew98, f106, f109, eqCells] | with_reducible first | refine awp_reg ?_ | refine awp_draw ?_ | refine ord_l (by kernel_rfl) ?_ | refine ord_e (by kernel_rfl) ?_ | refine ord_c (by kernel_rfl) ?_ | refine ord_d (by kernel_rfl) ?_ | refine optF_if (by omega) ?_)
          obtain rfl := Option.some.inj e90
          try dsimp only at e56
          obtain rfl := Option.some.inj e56
          try dsimp only at hs
          refine hX59 _ _ (by simp) ?_
          repeat (first | simp [h5_2, h5_3, h5_5, g5_0, g5_1, n5_0, hlt97, ew98, f106, f109, eqCells] | with_reducible first | refine awp_reg ?_ | refine awp_draw ?_ | refine ord_l (by kernel_rfl) ?_ | refine ord_e (by kernel_rfl) ?_ | refine ord_c (by kernel_rfl) ?_ | refine ord_d (by kernel_rfl) ?_ | refine optF_if (by omega) ?_)
          obtain rfl := Option.some.inj hs
          refine hQ _ _ (ret2g _ (Gh.refl _) (by simp [St.frz, St.pur, h5_2, h5_3, h5_5, g5_0, g5_1, n5_0, hlt97, ew98, f106, f109, eqCells]; rfl) (by first | rfl | (simp [St.frz, St.pur, h5_2, h5_3, h5_5, g5_0, g5_1, n5_0, hlt97, ew98, f106, f109, eqCells]; done) | (rw [if_pos (by first | omega | (simp; omega))]; simp [St.frz, St.pur, h5_2, h5_3, h5_5, g5_0, g5_1, n5_0, hlt97, ew98, f106, f109, eqCells]; first | omega | exact List.take_of_length_le (by simp; omega) | skip)) (by simp))
        · replace e90 := condF h110 e90
          repeat (first | simp [h5_2, h5_3, h5_5, g5_0, g5_1, n5_0, hlt97, ew98, f106, f109, eqCells] | with_reducible first | refine awp_reg ?_ | refine awp_draw ?_ | refine ord_l (by kernel_rfl) ?_ | refine ord_e (by kernel_rfl) ?_ | refine ord_c (by kernel_rfl) ?_ | refine ord_d (by kernel_rfl) ?_ | refine optF_if (by omega) ?_)
          refine hL93 (q96, (k75 + 1)) _ _ (Gh.refl _) ⟨e90, hd101, ?_, ?_, ?_, ?_, ?_, by first | (simp; done) | (simp; omega) | omega⟩ (by simp) <;> simp [St.frz, St.pur, h5_2, h5_3, h5_5, g5_0, g5_1, n5_0, hlt97, ew98, f106, f109, eqCells]
    · obtain ⟨e56, h4_2, h4_3, g4_0, g4_1, n4_g⟩ := hp
      obtain rfl := Option.some.inj e56
      try dsimp only at hs
      have n4_0 : ¬ (σ3.gen = 0) := by omega
      repeat (first | simp [-awp_cond_eq, -awp_block_eq, h4_2, h4_3, g4_0, g4_1, n4_0] | with_reducible first | refine awp_reg ?_ | refine And.intro (by omega) ?_ | refine optF_if (by omega) ?_ | refine gsel_pure (by with_unfolding_all rfl) _ (fun hg => by (try simp at hg); first | (simp [hg, h4_2, h4_3, g4_0, g4_1, n4_0]; rfl) | (simp [h4_2, h4_3, g4_0, g4_1, n4_0]; simp only [if_pos hg]; simp [h4_2, h4_3, g4_0, g4_1, n4_0]; rfl)) ?_)
      obtain ⟨o177, e176, hs⟩ := bindO hs
      try dsimp only at hs
      refine awp_cutK (fun (v : Unit) (σ : St) => some (.inl v) = some o177 ∧ σ.env 2 = .cell (.ref (.o 1 0 0) 0) ∧ σ.env 3 = .cell (.ref (.o 1 1 0) 0) ∧ σ.hp (.o 1 0 0) = some (.cells [.p (.sl a0.Vars.length (encL a0.Vars)), .p (.sl a0.Mutexes.length (encL a0.Mutexes)), .p (.sl a0.Conds.length (encL a0.Conds)), .p (.sl a0.Funcs.length (encL a0.Funcs)), .p (.sl a0.Threads.length (encL a0.Threads))]) ∧ σ.hp (.o 1 1 0) = some (.cells [.p (.sl a1.Vars.length (encL a1.Vars)), .p (.sl a1.Mutexes.length (encL a1.Mutexes)), .p (.sl a1.Conds.length (encL a1.Conds)), .p (.sl a1.Funcs.length (encL a1.Funcs)), .p (.sl a1.Threads.length (encL a1.Threads))]) ∧ (σ3.gen + 1) ≤ σ.gen) (by rfl) (fun Q hK178 hX179 => ?_) (fun v σ9 hp => ?_)
      · repeat (first | simp [h4_2, h4_3, g4_0, g4_1, n4_0] | with_reducible first | refine awp_reg ?_ | refine And.intro (by omega) ?_ | refine optF_if (by omega) ?_ | refine gsel_pure (by with_unfolding_all rfl) _ (fun hg => by (try simp at hg); first | (simp [hg, h4_2, h4_3, g4_0, g4_1, n4_0]; rfl) | (simp [h4_2, h4_3, g4_0, g4_1, n4_0]; simp only [if_pos hg]; simp [h4_2, h4_3, g4_0, g4_1, n4_0]; rfl)) ?_)
        obtain ⟨o219, e218, e176⟩ := bindO e176
        try dsimp only at e176
        refine awp_loopW (fun (v : (List Func) × Nat) (σ : St) => r08_Equal_L2 a1 v.1 v.2 = some o219 ∧ v.1 = a0.Funcs.drop v.2 ∧ σ.env 2 = .cell (.ref (.o 1 0 0) 0) ∧ σ.env 3 = .cell (.ref (.o 1 1 0) 0) ∧ σ.env 6 = iV .i64 ((v.2 : Nat) : Int) ∧ σ.hp (.o 1 0 0) = some (.cells [.p (.sl a0.Vars.length (encL a0.Vars)), .p (.sl a0.Mutexes.length (encL a0.Mutexes)), .p (.sl a0.Conds.length (encL a0.Conds)), .p (.sl a0.Funcs.length (encL a0.Funcs)), .p (.sl a0.Threads.length (encL a0.Threads))]) ∧ σ.hp (.o 1 1 0) = some (.cells [.p (.sl a1.Vars.length (encL a1.Vars)), .p (.sl a1.Mutexes.length (encL a1.Mutexes)), .p (.sl a1.Conds.length (encL a1.Conds)), .p (.sl a1.Funcs.length (encL a1.Funcs)), .p (.sl a1.Threads.length (encL a1.Threads))]) ∧ (σ3.gen + 1) ≤ σ.gen) (fun v => v.1.length) _ (Gh.refl _) (a0.Funcs, 0) ⟨e218, by simp, by simp [St.frz, St.pur, h4_2, h4_3, g4_0, g4_1, n4_0], by simp [St.frz, St.pur, h4_2, h4_3, g4_0, g4_1, n4_0], by simp [St.frz, St.pur, h4_2, h4_3, g4_0, g4_1, n4_0], by simp [St.frz, St.pur, h4_2, h4_3, g4_0, g4_1, n4_0], by simp [St.frz, St.pur, h4_2, h4_3, g4_0, g4_1, n4_0], by first | (simp; done) | (simp; omega) | omega⟩ fun v σ12 hp L220 hL221 => ?_
        obtain ⟨q223, k199⟩ := v
        dsimp only at hp hL221
        obtain ⟨e218, hd222, h11_2, h11_3, h11_6, g11_0, g11_1, n11_g⟩ := hp
        have n11_0 : ¬ (σ12.gen = 0) := by omega
        rcases q223 with _ | ⟨x228, q224⟩
        · have hlt225 := drop_end hd222
          rw [r08_Equal_L2] at e218; try dsimp only at e218
          repeat (first | simp [h11_2, h11_3, h11_6, g11_0, g11_1, n11_0] | with_reducible first | refine awp_reg ?_ | refine And.intro (by omega) ?_ | refine optF_if (by omega) ?_)
          refine condK_f (by simp [ltI]; omega) ?_
          obtain rfl := Option.some.inj e218
          try dsimp only at e176
          refine hK178 () _ _ (Gh.refl _) ⟨e176, ?_, ?_, ?_, ?_, by first | (simp; done) | (simp; omega) | omega⟩ <;> simp [St.frz, St.pur, h11_2, h11_3, h11_6, g11_0, g11_1, n11_0]
        · obtain ⟨hx227, hlt225, hd229⟩ := drop_next hd222
          have ew226 := wrap_succ hlt225 (hb4).len
          rw [r08_Equal_L2] at e218; try dsimp only at e218
          repeat (first | simp [h11_2, h11_3, h11_6, g11_0, g11_1, n11_0, hlt225, ew226] | with_reducible first | refine awp_reg ?_ | refine And.intro (by omega) ?_ | refine optF_if (by omega) ?_)
          refine condK_t (by simp [ltI]; omega) ?_
          have f236 : partCV Tryd.prog 24 (encL a0.Funcs) (k199 * 2) = some (.agg [.p (.c (.string x228.Name)), .p (.sl x228.Code.length (encL x228.Code))]) := partCV_enc hx227 (f := 0) (by simp)
          obtain ⟨x237, hx238, e218⟩ := bindO e218
          try dsimp only at e218
          have hx238b := getN_some hx238
          have f239 : partCV Tryd.prog 24 (encL a1.Funcs) (k199 * 2) = some (.agg [.p (.c (.string x237.Name)), .p (.sl x237.Code.length (encL x237.Code))]) := partCV_enc hx238 (f := 0) (by simp)
          repeat (first | simp [h11_2, h11_3, h11_6, g11_0, g11_1, n11_0, hlt225, ew226, f236, f239] | with_reducible first | refine awp_reg ?_ | refine awp_draw ?_ | refine ord_l (by kernel_rfl) ?_ | refine ord_e (by kernel_rfl) ?_ | refine ord_c (by kernel_rfl) ?_ | refine ord_d (by kernel_rfl) ?_ | refine And.intro (by omega) ?_ | refine optF_if (by omega) ?_)
          obtain ⟨y240, hx241, e218⟩ := bindO e218
          try dsimp only at e218
          refine callK_pure (at_r08_function hx241) (by (first | simp [h11_2, h11_3, h11_6, g11_0, g11_1, n11_0, hlt225, ew226, f236, f239] | simp (disch := omega) [h11_2, h11_3, h11_6, g11_0, g11_1, n11_0, hlt225, ew226, f236, f239]); try rfl) (by simp) (by simp) ?_
          repeat (first | simp [h11_2, h11_3, h11_6, g11_0, g11_1, n11_0, hlt225, ew226, f236, f239] | with_reducible first | refine awp_reg ?_ | refine awp_draw ?_ | refine ord_l (by kernel_rfl) ?_ | refine ord_e (by kernel_rfl) ?_ | refine ord_c (by kernel_rfl) ?_ | refine ord_d (by kernel_rfl) ?_ | refine And.intro (by omega) ?_ | refine optF_if (by omega) ?_)
          refine condK_spec (!y240) (by first | rfl | (simp [h11_2, h11_3, h11_6, g11_0, g11_1, n11_0, hlt225, ew226, f236, f239]; done) | (simp [andB, orB, eqI, ltI, Int.natCast_inj, h11_2, h11_3, h11_6, g11_0, g11_1, n11_0, hlt225, ew226, f236, f239]; done)) (fun h242 => ?_) (fun h242 => ?_)
          · replace e218 := condT h242 e218
            repeat (first | simp [h11_2, h11_3, h11_6, g11_0, g11_1, n11_0, hlt225, ew226, f236, f239] | with_reducible first | refine awp_reg ?_ | refine awp_draw ?_ | refine ord_l (by kernel_rfl) ?_ | refine ord_e (by kernel_rfl) ?_ | refine ord_c (by kernel_rfl) ?_ | refine ord_d (by kernel_rfl) ?_ | refine And.intro (by omega) ?_ | refine optF_if (by omega) ?_)
            obtain rfl := Option.some.inj e218
            try dsimp only at e176
            obtain rfl := Option.some.inj e176
            try dsimp only at hs
            refine hX179 _ _ (by simp) ?_
            repeat (first | simp [h11_2, h11_3, h11_6, g11_0, g11_1, n11_0, hlt225, ew226, f236, f239] | with_reducible first | refine awp_reg ?_ | refine awp_draw ?_ | refine ord_l (by kernel_rfl) ?_ | refine ord_e (by kernel_rfl) ?_ | refine ord_c (by kernel_rfl) ?_ | refine ord_d (by kernel_rfl) ?_ | refine And.intro (by omega) ?_ | refine optF_if (by omega) ?_)
            obtain rfl := Option.some.inj hs
            refine hQ _ _ (ret2g _ (Gh.refl _) (by simp [St.frz, St.pur, h11_2, h11_3, h11_6, g11_0, g11_1, n11_0, hlt225, ew226, f236, f239]; rfl) (by first | rfl | (simp [St.frz, St.pur, h11_2, h11_3, h11_6, g11_0, g11_1, n11_0, hlt225, ew226, f236, f239]; done) | (rw [if_pos (by first | omega | (simp; omega))]; simp [St.frz, St.pur, h11_2, h11_3, h11_6, g11_0, g11_1, n11_0, hlt225, ew226, f236, f239]; first | omega | exact List.take_of_length_le (by simp; omega) | skip)) (by simp))
          · replace e218 := condF h242 e218
            repeat (first | simp [h11_2, h11_3, h11_6, g11_0, g11_1, n11_0, hlt225, ew226, f236, f239] | with_reducible first | refine awp_reg ?_ | refine awp_draw ?_ | refine ord_l (by kernel_rfl) ?_ | refine ord_e (by kernel_rfl) ?_ | refine ord_c (by kernel_rfl) ?_ | refine ord_d (by kernel_rfl) ?_ | refine And.intro (by omega) ?_ | refine optF_if (by omega) ?_)
            refine hL221 (q224, (k199 + 1)) _ _ (Gh.refl _) ⟨e218, hd229, ?_, ?_, ?_, ?_, ?_, by first | (simp; done) | (simp; omega) | omega⟩ (by simp) <;> simp [St.frz, St.pur, h11_2, h11_3, h11_6, g11_0, g11_1, n11_0, hlt225, ew226, f236, f239]
      · obtain ⟨e176, h10_2, h10_3, g10_0, g10_1, n10_g⟩ := hp
        obtain rfl := Option.some.inj e176
        try dsimp only at hs
        have n10_0 : ¬ (σ9.gen = 0) := by omega
        repeat (first | simp [-awp_cond_eq, -awp_block_eq, h10_2, h10_3, g10_0, g10_1, n10_0] | with_reducible first | refine awp_reg ?_ | refine And.intro (by omega) ?_ | refine optF_if (by omega) ?_ | refine gsel_pure (by with_unfolding_all rfl) _ (fun hg => by (try simp at hg); first | (simp [hg, h10_2, h10_3, g10_0, g10_1, n10_0]; rfl) | (simp [h10_2, h10_3, g10_0, g10_1, n10_0]; simp only [if_pos hg]; simp [h10_2, h10_3, g10_0, g10_1, n10_0]; rfl)) ?_)
        obtain ⟨o297, e296, hs⟩ := bindO hs
        try dsimp only at hs
        refine awp_cutK (fun (v : Unit) (σ : St) => some (.inl v) = some o297 ∧ (σ9.gen + 1) ≤ σ.gen) (by rfl) (fun Q hK298 hX299 => ?_) (fun v σ15 hp => ?_)
        · repeat (first | simp [h10_2, h10_3, g10_0, g10_1, n10_0] | with_reducible first | refine awp_reg ?_ | refine And.intro (by omega) ?_ | refine optF_if (by omega) ?_ | refine gsel_pure (by with_unfolding_all rfl) _ (fun hg => by (try simp at hg); first | (simp [hg, h10_2, h10_3, g10_0, g10_1, n10_0]; rfl) | (simp [h10_2, h10_3, g10_0, g10_1, n10_0]; simp only [if_pos hg]; simp [h10_2, h10_3, g10_0, g10_1, n10_0]; rfl)) ?_)
          obtain ⟨o331, e330, e296⟩ := bindO e296
          try dsimp only at e296
          refine awp_loopW (fun (v : (List Start) × Nat) (σ : St) => r08_Equal_L3 a1 v.1 v.2 = some o331 ∧ v.1 = a0.Threads.drop v.2 ∧ σ.env 2 = .cell (.ref (.o 1 0 0) 0) ∧ σ.env 3 = .cell (.ref (.o 1 1 0) 0) ∧ σ.env 7 = iV .i64 ((v.2 : Nat) : Int) ∧ σ.hp (.o 1 0 0) = some (.cells [.p (.sl a0.Vars.length (encL a0.Vars)), .p (.sl a0.Mutexes.length (encL a0.Mutexes)), .p (.sl a0.Conds.length (encL a0.Conds)), .p (.sl a0.Funcs.length (encL a0.Funcs)), .p (.sl a0.Threads.length (encL a0.Threads))]) ∧ σ.hp (.o 1 1 0) = some (.cells [.p (.sl a1.Vars.length (encL a1.Vars)), .p (.sl a1.Mutexes.length (encL a1.Mutexes)), .p (.sl a1.Conds.length (encL a1.Conds)), .p (.sl a1.Funcs.length (encL a1.Funcs)), .p (.sl a1.Threads.length (encL a1.Threads))]) ∧ (σ9.gen + 1) ≤ σ.gen) (fun v => v.1.length) _ (Gh.refl _) (a0.Threads, 0) ⟨e330, by simp, by simp [St.frz, St.pur, h10_2, h10_3, g10_0, g10_1, n10_0], by simp [St.frz, St.pur, h10_2, h10_3, g10_0, g10_1, n10_0], by simp [St.frz, St.pur, h10_2, h10_3, g10_0, g10_1, n10_0], by simp [St.frz, St.pur, h10_2, h10_3, g10_0, g10_1, n10_0], by simp [St.frz, St.pur, h10_2, h10_3, g10_0, g10_1, n10_0], by first | (simp; done) | (simp; omega) | omega⟩ fun v σ18 hp L332 hL333 => ?_
          obtain ⟨q335, k315⟩ := v
          dsimp only at hp hL333
          obtain ⟨e330, hd334, h17_2, h17_3, h17_7, g17_0, g17_1, n17_g⟩ := hp
          have n17_0 : ¬ (σ18.gen = 0) := by omega
          rcases q335 with _ | ⟨x340, q336⟩
          · have hlt337 := drop_end hd334
            rw [r08_Equal_L3] at e330; try dsimp only at e330
            repeat (first | simp [h17_2, h17_3, h17_7, g17_0, g17_1, n17_0] | with_reducible first | refine awp_reg ?_ | refine And.intro (by omega) ?_ | refine optF_if (by omega) ?_)
            refine condK_f (by simp [ltI]; omega) ?_
            obtain rfl := Option.some.inj e330
            try dsimp only at e296
            exact hK298 () _ _ (Gh.refl _) ⟨e296, by first | (simp; done) | (simp; omega) | omega⟩
          · obtain ⟨hx339, hlt337, hd341⟩ := drop_next hd334
            have ew338 := wrap_succ hlt337 (hb5).len
            rw [r08_Equal_L3] at e330; try dsimp only at e330
            repeat (first | simp [h17_2, h17_3, h17_7, g17_0, g17_1, n17_0, hlt337, ew338] | with_reducible first | refine awp_reg ?_ | refine And.intro (by omega) ?_ | refine optF_if (by omega) ?_)
            refine condK_t (by simp [ltI]; omega) ?_
            have f346 : partCV Tryd.prog 108 (encL a0.Threads) (k315 * 2) = some (.agg [.p (.c (.int .i64 x340.Func)), .p (.c (.int .i64 x340.Arg))]) := partCV_enc hx339 (f := 0) (by simp)
            obtain ⟨x347, hx348, e330⟩ := bindO e330
            try dsimp only at e330
            have hx348b := getN_some hx348
            have f349 : partCV Tryd.prog 108 (encL a1.Threads) (k315 * 2) = some (.agg [.p (.c (.int .i64 x347.Func)), .p (.c (.int .i64 x347.Arg))]) := partCV_enc hx348 (f := 0) (by simp)
            repeat (first | simp [h17_2, h17_3, h17_7, g17_0, g17_1, n17_0, hlt337, ew338, f346, f349, eqCells] | with_reducible first | refine awp_reg ?_ | refine awp_draw ?_ | refine ord_l (by kernel_rfl) ?_ | refine ord_e (by kernel_rfl) ?_ | refine ord_c (by kernel_rfl) ?_ | refine ord_d (by kernel_rfl) ?_ | refine optF_if (by omega) ?_)
            refine condK_spec (!(x340.Func == x347.Func && (x340.Arg == x347.Arg && true))) (by first | rfl | (simp [h17_2, h17_3, h17_7, g17_0, g17_1, n17_0, hlt337, ew338, f346, f349, eqCells]; done) | (simp [andB, orB, eqI, ltI, Int.natCast_inj, h17_2, h17_3, h17_7, g17_0, g17_1, n17_0, hlt337, ew338, f346, f349, eqCells]; done)) (fun h350 => ?_) (fun h350 => ?_)
            · replace e330 := condT h350 e330
              repeat (first | simp [h17_2, h17_3, h17_7, g17_0, g17_1, n17_0, hlt337, ew338, f346, f349, eqCells] | with_reducible first | refine awp_reg ?_ | refine awp_draw ?_ | refine ord_l (by kernel_rfl) ?_ | refine ord_e (by kernel_rfl) ?_ | refine ord_c (by kernel_rfl) ?_ | refine ord_d (by kernel_rfl) ?_ | refine optF_if (by omega) ?_)
              obtain rfl := Option.some.inj e330
              try dsimp only at e296
              obtain rfl := Option.some.inj e296
              try dsimp only at hs
              refine hX299 _ _ (by simp) ?_
              repeat (first | simp [h17_2, h17_3, h17_7, g17_0, g17_1, n17_0, hlt337, ew338, f346, f349, eqCells] | with_reducible first | refine awp_reg ?_ | refine awp_draw ?_ | refine ord_l (by kernel_rfl) ?_ | refine ord_e (by kernel_rfl) ?_ | refine ord_c (by kernel_rfl) ?_ | refine ord_d (by kernel_rfl) ?_ | refine optF_if (by omega) ?_)
              obtain rfl := Option.some.inj hs
              refine hQ _ _ (ret2g _ (Gh.refl _) (by simp [St.frz, St.pur, h17_2, h17_3, h17_7, g17_0, g17_1, n17_0, hlt337, ew338, f346, f349, eqCells]; rfl) (by first | rfl | (simp [St.frz, St.pur, h17_2, h17_3, h17_7, g17_0, g17_1, n17_0, hlt337, ew338, f346, f349, eqCells]; done) | (rw [if_pos (by first | omega | (simp; omega))]; simp [St.frz, St.pur, h17_2, h17_3, h17_7, g17_0, g17_1, n17_0, hlt337, ew338, f346, f349, eqCells]; first | omega | exact List.take_of_length_le (by simp; omega) | skip)) (by simp))
            · replace e330 := condF h350 e330
              repeat (first | simp [h17_2, h17_3, h17_7, g17_0, g17_1, n17_0, hlt337, ew338, f346, f349, eqCells] | with_reducible first | refine awp_reg ?_ | refine awp_draw ?_ | refine ord_l (by kernel_rfl) ?_ | refine ord_e (by kernel_rfl) ?_ | refine ord_c (by kernel_rfl) ?_ | refine ord_d (by kernel_rfl) ?_ | refine optF_if (by omega) ?_)
              refine hL333 (q336, (k315 + 1)) _ _ (Gh.refl _) ⟨e330, hd341, ?_, ?_, ?_, ?_, ?_, by first | (simp; done) | (simp; omega) | omega⟩ (by simp) <;> simp [St.frz, St.pur, h17_2, h17_3, h17_7, g17_0, g17_1, n17_0, hlt337, ew338, f346, f349, eqCells]
        · obtain ⟨e296, n16_g⟩ := hp
          obtain rfl := Option.some.inj e296
          try dsimp only at hs
          repeat (first | simp | with_reducible first | refine awp_reg ?_ | refine And.intro (by omega) ?_ | refine optF_if (by omega) ?_ | refine gsel_pure (by with_unfolding_all rfl) _ (fun hg => by (try simp at hg); first | (simp [hg]; rfl) | (simp; simp only [if_pos hg]; simp; rfl)) ?_)
          obtain rfl := Option.some.inj hs
          refine hQ _ _ (ret2g _ (Gh.refl _) (by simp [St.frz, St.pur]; rfl) (by first | rfl | (simp [St.frz, St.pur]; done) | (rw [if_pos (by first | omega | (simp; omega))]; simp [St.frz, St.pur]; first | omega | exact List.take_of_length_le (by simp; omega) | skip)) (by simp))
end Go.Dc
end
section
set_option linter.all false
namespace Go.Dc
open Go Go.Hw Go.Proofs
set_option maxRecDepth 100000

def law14_AwaitRewrites (fuelN : Nat) (a0 : Program) : Option Bool :=
  Option.bind (r08_Small a0) (fun y1 => cond (!y1) (Option.bind (law14_lives fuelN) (fun y4 => some y4)) (Option.bind (r08_Clone a0) (fun y6 => Option.bind (await_Rewrite fuelN a0) (fun y8 => Option.bind (r14_Rewrite fuelN a0) (fun y10 => guardO (orB (!(eqI y8.2 y10.2)) ((r08_Equal y8.1 y10.1).isSome)) (cond (andB (eqI y8.2 y10.2) ((r08_Equal y8.1 y10.1).getD default)) (Option.bind (r08_Equal a0 y6) (fun y14 => guardO (orB (!y14) ((law14_lives fuelN).isSome)) (some (andB y14 ((law14_lives fuelN).getD default))))) (some false)))))))

set_option maxHeartbeats 2000000 in
theorem at_law14_AwaitRewrites {fuelN : Nat} {a0 : Program} {r : Bool} (hs : law14_AwaitRewrites fuelN a0 = some r) : At Tryd.prog 10 [.agg [.p (.sl a0.Vars.length (encL a0.Vars)), .p (.sl a0.Mutexes.length (encL a0.Mutexes)), .p (.sl a0.Conds.length (encL a0.Conds)), .p (.sl a0.Funcs.length (encL a0.Funcs)), .p (.sl a0.Threads.length (encL a0.Threads))]] (bV r) := by
  refine at_bound (by kernel_rfl) fun hb => ?_
  have hb1 : LenOk (.sl a0.Vars.length (encL a0.Vars)) := hb (.agg [.p (.sl a0.Vars.length (encL a0.Vars)), .p (.sl a0.Mutexes.length (encL a0.Mutexes)), .p (.sl a0.Conds.length (encL a0.Conds)), .p (.sl a0.Funcs.length (encL a0.Funcs)), .p (.sl a0.Threads.length (encL a0.Threads))]) (by simp) (.p (.sl a0.Vars.length (encL a0.Vars))) (by simp)
  have hb2 : LenOk (.sl a0.Mutexes.length (encL a0.Mutexes)) := hb (.agg [.p (.sl a0.Vars.length (encL a0.Vars)), .p (.sl a0.Mutexes.length (encL a0.Mutexes)), .p (.sl a0.Conds.length (encL a0.Conds)), .p (.sl a0.Funcs.length (encL a0.Funcs)), .p (.sl a0.Threads.length (encL a0.Threads))]) (by simp) (.p (.sl a0.Mutexes.length (encL a0.Mutexes))) (by simp)
  have hb3 : LenOk (.sl a0.Conds.length (encL a0.Conds)) := hb (.agg [.p (.sl a0.Vars.length (encL a0.Vars)), .p (.sl a0.Mutexes.length (encL a0.Mutexes)), .p (.sl a0.Conds.length (encL a0.Conds)), .p (.sl a0.Funcs.length (encL a0.Funcs)), .p (.sl a0.Threads.length (encL a0.Threads))]) (by simp) (.p (.sl a0.Conds.length (encL a0.Conds))) (by simp)
  have hb4 : LenOk (.sl a0.Funcs.length (encL a0.Funcs)) := hb (.agg [.p (.sl a0.Vars.length (encL a0.Vars)), .p (.sl a0.Mutexes.length (encL a0.Mutexes)), .p (.sl a0.Conds.length (encL a0.Conds)), .p (.sl a0.Funcs.length (encL a0.Funcs)), .p (.sl a0.Threads.length (encL a0.Threads))]) (by simp) (.p (.sl a0.Funcs.length (encL a0.Funcs))) (by simp)
  have hb5 : LenOk (.sl a0.Threads.length (encL a0.Threads)) := hb (.agg [.p (.sl a0.Vars.length (encL a0.Vars)), .p (.sl a0.Mutexes.length (encL a0.Mutexes)), .p (.sl a0.Conds.length (encL a0.Conds)), .p (.sl a0.Funcs.length (encL a0.Funcs)), .p (.sl a0.Threads.length (encL a0.Threads))]) (by simp) (.p (.sl a0.Threads.length (encL a0.Threads))) (by simp)
  refine at_code mixed Tryd.func10 (by kernel_rfl) rfl (by kernel_rfl) rfl fun Q hQ => ?_
  rw [law14_AwaitRewrites] at hs
  repeat (first | simp | with_reducible first | refine awp_reg ?_ | refine And.intro (by omega) ?_ | refine optF_if (by omega) ?_)
  obtain ⟨y1, hx2, hs⟩ := bindO hs
  try dsimp only at hs
  refine callK_pure (at_r08_Small hx2) (by (first | simp | simp (disch := omega) []); try rfl) (by simp) (by simp) ?_
  repeat (first | simp | with_reducible first | refine awp_reg ?_ | refine And.intro (by omega) ?_ | refine optF_if (by omega) ?_)
  refine condK_spec (!y1) (by first | rfl | (simp; done) | (simp [andB, orB, eqI, ltI, Int.natCast_inj]; done)) (fun h3 => ?_) (fun h3 => ?_)
  · replace hs := condT h3 hs
    repeat (first | simp | with_reducible first | refine awp_reg ?_ | refine And.intro (by omega) ?_ | refine optF_if (by omega) ?_)
    obtain ⟨y4, hx5, hs⟩ := bindO hs
    try dsimp only at hs
    refine callK_pure (at_law14_lives hx5) (by (first | simp | simp (disch := omega) []); try rfl) (by simp) (by simp) ?_
    repeat (first | simp | with_reducible first | refine awp_reg ?_ | refine And.intro (by omega) ?_ | refine optF_if (by omega) ?_)
    obtain rfl := Option.some.inj hs
    refine hQ _ _ (ret2g _ (Gh.refl _) (by simp [St.frz, St.pur]; rfl) (by first | rfl | (simp [St.frz, St.pur]; done) | (rw [if_pos (by first | omega | (simp; omega))]; simp [St.frz, St.pur]; first | omega | exact List.take_of_length_le (by simp; omega) | skip)) (by simp))
  · replace hs := condF h3 hs
    repeat (first | simp | with_reducible first | refine awp_reg ?_ | refine And.intro (by omega) ?_ | refine optF_if (by omega) ?_)
    obtain ⟨y6, hx7, hs⟩ := bindO hs
    try dsimp only at hs
    refine callK_at (at_r08_Clone hx7) [] (by (first | simp | simp (disch := omega) []); try rfl) (by simp) (by simp) (by simp; rfl) (by simp; rfl) ?_
    repeat (first | simp | with_reducible first | refine awp_reg ?_ | refine And.intro (by omega) ?_ | refine optF_if (by omega) ?_)
    obtain ⟨y8, hx9, hs⟩ := bindO hs
    try dsimp only at hs
    refine callK_pure (at_await_Rewrite hx9) (by (first | simp | simp (disch := omega) []); try rfl) (by simp) (by simp) ?_
    repeat (first | simp | with_reducible first | refine awp_reg ?_ | refine And.intro (by omega) ?_ | refine optF_if (by omega) ?_)
    obtain ⟨y10, hx11, hs⟩ := bindO hs
    try dsimp only at hs
    refine callK_pure (at_r14_Rewrite hx11) (by (first | simp | simp (disch := omega) []); try rfl) (by simp) (by simp) ?_
    repeat (first | simp | with_reducible first | refine awp_reg ?_ | refine And.intro (by omega) ?_ | refine optF_if (by omega) ?_ | refine gsel_pure (by with_unfolding_all rfl) _ (fun hg => by (try simp at hg); first | (simp [hg]; rfl) | (simp; simp only [if_pos hg]; simp; rfl)) ?_)
    obtain ⟨g12, hs⟩ := guardO_some hs
    refine gsel_call (fun hg => at_r08_Equal (under_call g12 hg)) (fun hg => by (try simp at hg); (first | simp [hg, id]); try rfl) (fun hg => by (try simp at hg); simp [hg, id]) (by simp) ?_
    repeat (first | simp | with_reducible first | refine awp_reg ?_ | refine And.intro (by omega) ?_ | refine optF_if (by omega) ?_ | refine gsel_pure (by with_unfolding_all rfl) _ (fun hg => by (try simp at hg); first | (simp [hg]; rfl) | (simp; simp only [if_pos hg]; simp; rfl)) ?_)
    refine gsel_split (fun h13 => ?_) (fun h13 => ?_)
    · replace hs := condT h13 hs
      repeat (first | simp [h13] | with_reducible first | refine awp_reg ?_ | refine And.intro (by omega) ?_ | refine optF_if (by omega) ?_ | refine gsel_pure (by with_unfolding_all rfl) _ (fun hg => by (try simp at hg); first | (simp [hg, h13]; rfl) | (simp [h13]; simp only [if_pos hg]; simp [h13]; rfl)) ?_)
      obtain ⟨y14, hx15, hs⟩ := bindO hs
      try dsimp only at hs
      refine callK_at (at_r08_Equal hx15) [] (by (first | simp [h13] | simp (disch := omega) [h13]); try rfl) (by simp) (by simp) (by simp; rfl) (by simp [h13]; rfl) ?_
      repeat (first | simp [h13] | with_reducible first | refine awp_reg ?_ | refine And.intro (by omega) ?_ | refine optF_if (by omega) ?_ | refine gsel_pure (by with_unfolding_all rfl) _ (fun hg => by (try simp at hg); first | (simp [hg, h13]; rfl) | (simp [h13]; simp only [if_pos hg]; simp [h13]; rfl)) ?_)
      obtain ⟨g16, hs⟩ := guardO_some hs
      refine gsel_call (fun hg => at_law14_lives (under_call g16 hg)) (fun hg => by (try simp at hg); (first | simp [hg, h13]); try rfl) (fun hg => by (try simp at hg); simp [hg, h13]) (by simp) ?_
      repeat (first | simp [h13] | with_reducible first | refine awp_reg ?_ | refine And.intro (by omega) ?_ | refine optF_if (by omega) ?_ | refine gsel_pure (by with_unfolding_all rfl) _ (fun hg => by (try simp at hg); first | (simp [hg, h13]; rfl) | (simp [h13]; simp only [if_pos hg]; simp [h13]; rfl)) ?_)
      obtain rfl := Option.some.inj hs
      refine hQ _ _ (ret2g _ (Gh.refl _) (by simp [St.frz, St.pur, h13]; rfl) (by first | rfl | (simp [St.frz, St.pur, h13]; done) | (rw [if_pos (by first | omega | (simp; omega))]; simp [St.frz, St.pur, h13]; first | omega | exact List.take_of_length_le (by simp; omega) | skip)) (by simp))
    · replace hs := condF h13 hs
      repeat (first | simp [h13] | with_reducible first | refine awp_reg ?_ | refine And.intro (by omega) ?_ | refine optF_if (by omega) ?_ | refine gsel_pure (by with_unfolding_all rfl) _ (fun hg => by (try simp at hg); first | (simp [hg, h13]; rfl) | (simp [h13]; simp only [if_pos hg]; simp [h13]; rfl)) ?_)
      obtain rfl := Option.some.inj hs
      refine hQ _ _ (ret2g _ (Gh.refl _) (by simp [St.frz, St.pur, h13]; rfl) (by first | rfl | (simp [St.frz, St.pur, h13]; done) | (rw [if_pos (by first | omega | (simp; omega))]; simp [St.frz, St.pur, h13]; first | omega | exact List.take_of_length_le (by simp; omega) | skip)) (by simp))
end Go.Dc
end
section
set_option linter.all false
namespace Go.Dc.Pl
open Go Go.Hw Go.Dc
set_option maxRecDepth 100000
theorem first_noneF {α β : Type} : ∀ (l : List α) (k : Nat), first (fun _ _ => (none : Option β)) l k = none
  | [], _ => rfl
  | x :: q, k => by rw [first_cons]; exact first_noneF q _
theorem same_str (l : List ByteArray) : r08_same l l = some true := by
  have h := srch (L := r08_same_L1 l) (fun _ _ => none) (fun _ => rfl) l 0 fun j x hx q => by
    rw [Nat.zero_add, r08_same_L1, hx, Option.bind_some, eqS_refl]; rfl
  rw [r08_same, h, show eqI ((l.length : Nat) : Int) ((l.length : Nat) : Int) = true by simp [eqI], first_noneF]; rfl
theorem same_fun (f : Func) : r08_function f f = some true := by
  have h := srch (L := r08_function_L1 f) (fun _ _ => none) (fun _ => rfl) f.Code 0 fun j x hx q => by
    rw [Nat.zero_add, r08_function_L1, hx, Option.bind_some]; simp
  rw [r08_function, h, show eqI ((f.Code.length : Nat) : Int) ((f.Code.length : Nat) : Int) = true by simp [eqI], eqS_refl, first_noneF]; rfl
theorem equal_refl (p : Program) : r08_Equal p p = some true := by
  have h1 := srch (L := r08_Equal_L1 p) (fun _ _ => none) (fun _ => rfl) p.Vars 0 fun j x hx q => by
    rw [Nat.zero_add, r08_Equal_L1, hx, Option.bind_some]; simp
  have h2 := srch (L := r08_Equal_L2 p) (fun _ _ => none) (fun _ => rfl) p.Funcs 0 fun j x hx q => by
    rw [Nat.zero_add, r08_Equal_L2, hx, Option.bind_some, same_fun]; rfl
  have h3 := srch (L := r08_Equal_L3 p) (fun _ _ => none) (fun _ => rfl) p.Threads 0 fun j x hx q => by
    rw [Nat.zero_add, r08_Equal_L3, hx, Option.bind_some]; simp
  have he : ∀ n : Nat, eqI (n : Int) (n : Int) = true := fun n => by simp [eqI]
  rw [r08_Equal, h1, h2, h3, same_str, same_str, he, he, he, first_noneF, first_noneF, first_noneF]; rfl
theorem refclone {p : Program} (hp : small p = true) : r08_Clone p = some p := by
  obtain ⟨s1, s2, s3, s4, s5, s6⟩ := small_t hp
  have hL : ∀ (l : List Func) (k : Nat) (a : List Func), (∀ f ∈ l, f.Code.length ≤ 100) → a.length + l.length ≤ 20 → r08_Clone_L1 l k a = some (a ++ l) := fun l => by
    induction l with
    | nil => intro k a _ _; rw [r08_Clone_L1]; simp
    | cons x q ih =>
      intro k a hc ha
      rw [r08_Clone_L1, Option.bind_some, show limB 64 ([].length + x.Code.length) = true from limB_of (m := 100) (by have := hc x (by simp); simpa using this) (by decide), guardO_t, Option.bind_some, Option.bind_some,
        show limB 40 (a.length + [({ x with Code := [] ++ x.Code } : Func)].length) = true from limB_of (m := 20) (by simp at ha ⊢; omega) (by decide), guardO_t, Option.bind_some, ih _ _ (fun f hf => hc f (by simp [hf])) (by simp at ha ⊢; omega)]
      simp
  simp only [r08_Clone, Option.bind_some, List.nil_append, List.length_nil, Nat.zero_add]
  rw [show limB 24 p.Vars.length = true from limB_of (m := 20) s1 (by decide), show limB 16 p.Mutexes.length = true from limB_of (m := 20) s2 (by decide), show limB 16 p.Conds.length = true from limB_of (m := 20) s3 (by decide), show limB 16 p.Threads.length = true from limB_of (m := 20) s5 (by decide), hL p.Funcs 0 [] s6 (by simpa using s4)]
  rfl
theorem ownclone {p : Program} (hp : small p = true) : program_Clone p = some p := by
  obtain ⟨s1, s2, s3, s4, s5, s6⟩ := small_t hp
  have hL : ∀ (q k : Nat), k + q = p.Funcs.length → program_Clone_L1 p q k p.Funcs = some p.Funcs := fun q => by
    induction q with
    | zero => intro k h; rw [program_Clone_L1, show decide (p.Funcs.length ≤ k) = true by simp; omega]; rfl
    | succ q ih =>
      intro k h
      have hf := fOf_eq (p := p) (k := k) (by omega)
      rw [program_Clone_L1, hf, Option.bind_some, slices_Clone_api_Inst, show limB 64 (fOf p k).Code.length = true from limB_of (m := 100) (fOf_le hp k) (by decide), guardO_t, Option.bind_some, Option.bind_some, Option.bind_some]
      rw [show p.Funcs.set k { fOf p k with Code := (fOf p k).Code } = p.Funcs from ?_, ih (k + 1) (by omega)]
      apply List.ext_getElem?
      intro j
      rw [List.getElem?_set]
      split
      · rename_i e; subst e; rw [if_pos (by omega), hf]
      · rfl
  rw [program_Clone, slices_Clone_api_Var, slices_Clone_string, slices_Clone_string, slices_Clone_api_Func, slices_Clone_api_Start,
    show limB 24 p.Vars.length = true from limB_of (m := 20) s1 (by decide), show limB 16 p.Mutexes.length = true from limB_of (m := 20) s2 (by decide), show limB 16 p.Conds.length = true from limB_of (m := 20) s3 (by decide), show limB 40 p.Funcs.length = true from limB_of (m := 20) s4 (by decide), show limB 16 p.Threads.length = true from limB_of (m := 20) s5 (by decide)]
  simp only [guardO_t, Option.bind_some]
  rw [show lenB p.Funcs.length = true by rw [lenB_d]; simp; omega, guardO_t, hL p.Funcs.length 0 (by omega)]
  rfl
/-- What a spin says of the program. -/
def Spun (p : Program) (x : AwaitSpin) : Prop := ∃ k i : Nat, x.fn = (k : Int) ∧ x.first = (i : Int) ∧ k < p.Funcs.length ∧ i < (fOf p k).Code.length ∧ awF (fOf p k) i = some x.await
theorem spun (p : Program) : ∀ x ∈ spins p, Spun p x := fun x hx => by
  simp only [spins, spinsOf, List.mem_flatMap, List.mem_range] at hx
  obtain ⟨k, hk, i, hi, hx⟩ := hx
  rw [spinO] at hx
  cases h : awF (gd p.Funcs k) i with
  | none => rw [h] at hx; cases hx
  | some y => rw [h] at hx; obtain rfl := List.mem_singleton.1 hx; exact ⟨k, i, rfl, rfl, hk, hi, h⟩
/-- The same lists of code, by their lengths. -/
def Like (p : Program) (l : List Func) : Prop := l.length = p.Funcs.length ∧ ∀ (k : Nat) (f : Func), l[k]? = some f → f.Code.length = (fOf p k).Code.length
theorem both_L1 {p : Program} (hp : small p = true) : ∀ (q : List AwaitSpin) (k1 k2 : Nat) (l : List Func), (∀ x ∈ q, Spun p x) → Like p l → ∃ r, await_Rewrite_L1 q k1 l = some r ∧ r14_Rewrite_L1 p (q.map toSpin) k2 l = some r
  | [], _, _, l, _, _ => ⟨l, rfl, rfl⟩
  | x :: q, k1, k2, l, hq, hl => by
    obtain ⟨k, i, h1, h2, h3, h4, h5⟩ := hq x (by simp)
    obtain ⟨f, hf⟩ : ∃ f, l[k]? = some f := ⟨_, List.getElem?_eq_getElem (by rw [hl.1]; exact h3)⟩
    have hlen := hl.2 k f hf
    obtain ⟨c, hc⟩ : ∃ c, f.Code[i]? = some c := ⟨_, List.getElem?_eq_getElem (by rw [hlen]; exact h4)⟩
    obtain ⟨r, e1, e2⟩ := both_L1 hp q (k1 + 1) (k2 + 1) (l.set k { f with Code := f.Code.set i x.await }) (fun y hy => hq y (by simp [hy])) ⟨by rw [List.length_set]; exact hl.1, fun j g hg => by
      rw [List.getElem?_set] at hg
      split at hg
      · rename_i e
        subst e
        split at hg
        · obtain rfl := Option.some.inj hg; simpa using hlen
        · cases hg
      · exact hl.2 j g hg⟩
    refine ⟨r, ?_, ?_⟩
    · rw [await_Rewrite_L1, h1, getI_nat, hf, Option.bind_some, h2, getI_nat, hc, Option.bind_some, Option.bind_some, Option.bind_some, Int.toNat_natCast, Int.toNat_natCast]
      exact e1
    · rw [List.map_cons, r14_Rewrite_L1]
      simp only [toSpin]
      rw [h1, h2, getI_nat, fOf_eq h3, Option.bind_some, cond_eq (by have := fOf_le hp k; omega) h4, h5, Option.bind_some, getI_nat, hf, Option.bind_some, getI_nat, hc, Option.bind_some, Option.bind_some, Option.bind_some, Int.toNat_natCast, Int.toNat_natCast]
      exact e2
theorem rewrites {p : Program} (hp : small p = true) {fuel : Nat} (hf : 200 ≤ fuel) : ∃ r, await_Rewrite fuel p = some r ∧ r14_Rewrite fuel p = some r := by
  obtain ⟨h1, h2⟩ := spins_eq hp hf
  obtain ⟨r, e1, e2⟩ := both_L1 hp (spins p) 0 0 p.Funcs (spun p) ⟨rfl, fun k f hf => by
    have hk := getN_some hf
    rw [fOf_eq hk] at hf; rw [Option.some.inj hf]⟩
  obtain ⟨n, rfl⟩ : ∃ n, fuel = n + 8 := ⟨fuel - 8, by omega⟩
  rw [await_Rewrite, own_check hp, Option.bind_some, ownclone hp, h1, r14_Rewrite, ref_find hp hf, refclone hp]
  cases hc : !(eqI (chk p).1 0)
  · simp only [cond_false, Option.bind_some]
    rw [show lenB (spins p).length = true by rw [lenB_d]; simp; omega, e1, found, show (!(eqI (0 : Int) 0)) = false from rfl, show lenB ((spins p).map toSpin).length = true by rw [lenB_d, List.length_map]; simp; omega, e2]
    exact ⟨_, rfl, rfl⟩
  · simp only [cond_true, Option.bind_some]
    rw [hc]
    exact ⟨_, rfl, rfl⟩
theorem law_rewrites (p : Program) : law14_AwaitRewrites 200 p = some true := by
  rw [law14_AwaitRewrites, small_eq, Option.bind_some]
  cases hp : small p
  · rw [lives]; rfl
  · obtain ⟨r, h1, h2⟩ := rewrites hp (fuel := 200) (by omega)
    rw [refclone hp, h1, h2, Option.bind_some, Option.bind_some, Option.bind_some, equal_refl, equal_refl, lives]
    simp [eqI, orB, andB]
end Go.Dc.Pl
end
section
set_option linter.all false
namespace Go.Dc
open Go Go.Hw Go.Proofs
set_option maxRecDepth 100000
theorem dec9 {H : Type} {n : Nat} {d : DataW H} {c : List CV} (h : cvD Tryd.prog n 9 d = some c) : ∃ x : ByteArray, True ∧ c = Enc.enc x := by
  obtain ⟨m, rfl⟩ := cvD_string Tryd.underlying9 h
  exact ⟨m, trivial, rfl⟩
theorem dec3 {H : Type} {n : Nat} {d : DataW H} {c : List CV} (h : cvD Tryd.prog n 3 d = some c) : ∃ x : Int, (-9223372036854775808 ≤ x ∧ x ≤ 9223372036854775807) ∧ c = Enc.enc x := by
  obtain ⟨m, hm, rfl⟩ := cvD_int Tryd.underlying3 h
  exact ⟨m, by simpa [IntKind.min, IntKind.max, IntKind.signed, IntKind.bits] using hm, rfl⟩
def OkVar (x : Var) : Prop := (fun _ : ByteArray => True) x.Name ∧ (fun x : Int => -9223372036854775808 ≤ x ∧ x ≤ 9223372036854775807) x.Init
theorem dec105 {H : Type} {n : Nat} {d : DataW H} {c : List CV} (h : cvD Tryd.prog n 105 d = some c) : ∃ x : Var, OkVar x ∧ c = Enc.enc x := by
  obtain ⟨m, l, rfl, rfl, hl, h⟩ := cvD_struct Tryd.underlying105 h
  have hl : l.length = 2 := hl
  match l, hl with
  | [d0, d1], _ =>
    simp only [List.zipWith] at h
    obtain ⟨a0, b0, h0, k1, rfl⟩ := concatM_cons h
    obtain ⟨a1, b1, h1, k2, rfl⟩ := concatM_cons k1
    obtain rfl := concatM_nil k2
    obtain ⟨x0, q0, rfl⟩ := dec9 h0
    obtain ⟨x1, q1, rfl⟩ := dec3 h1
    exact ⟨⟨x0, x1⟩, ⟨q0, q1⟩, rfl⟩
theorem dec48 {H : Type} {n : Nat} {d : DataW H} {c : List CV} (h : cvD Tryd.prog n 48 d = some c) : ∃ x : List Var, (∀ y ∈ x, (OkVar) y) ∧ c = Enc.enc x := by
  obtain ⟨L, hQ, rfl⟩ := cvD_sliceQ (g := Enc.enc) (Q := OkVar) Tryd.underlying48 (fun n d c h => dec105 h) h
  exact ⟨L, hQ, rfl⟩
theorem dec49 {H : Type} {n : Nat} {d : DataW H} {c : List CV} (h : cvD Tryd.prog n 49 d = some c) : ∃ x : List ByteArray, (∀ y ∈ x, (fun _ : ByteArray => True) y) ∧ c = Enc.enc x := by
  obtain ⟨L, hQ, rfl⟩ := cvD_sliceQ (g := Enc.enc) (Q := fun _ : ByteArray => True) Tryd.underlying49 (fun n d c h => dec9 h) h
  exact ⟨L, hQ, rfl⟩
theorem dec67 {H : Type} {n : Nat} {d : DataW H} {c : List CV} (h : cvD Tryd.prog n 67 d = some c) : ∃ x : Int, (-9223372036854775808 ≤ x ∧ x ≤ 9223372036854775807) ∧ c = Enc.enc x := by
  obtain ⟨m, hm, rfl⟩ := cvD_int Tryd.underlying67 h
  exact ⟨m, by simpa [IntKind.min, IntKind.max, IntKind.signed, IntKind.bits] using hm, rfl⟩
theorem dec68 {H : Type} {n : Nat} {d : DataW H} {c : List CV} (h : cvD Tryd.prog n 68 d = some c) : ∃ x : Int, (-9223372036854775808 ≤ x ∧ x ≤ 9223372036854775807) ∧ c = Enc.enc x := by
  obtain ⟨m, hm, rfl⟩ := cvD_int Tryd.underlying68 h
  exact ⟨m, by simpa [IntKind.min, IntKind.max, IntKind.signed, IntKind.bits] using hm, rfl⟩
theorem dec69 {H : Type} {n : Nat} {d : DataW H} {c : List CV} (h : cvD Tryd.prog n 69 d = some c) : ∃ x : Int, (-9223372036854775808 ≤ x ∧ x ≤ 9223372036854775807) ∧ c = Enc.enc x := by
  obtain ⟨m, hm, rfl⟩ := cvD_int Tryd.underlying69 h
  exact ⟨m, by simpa [IntKind.min, IntKind.max, IntKind.signed, IntKind.bits] using hm, rfl⟩
def OkInst (x : Inst) : Prop := (fun x : Int => -9223372036854775808 ≤ x ∧ x ≤ 9223372036854775807) x.Op ∧ (fun x : Int => -9223372036854775808 ≤ x ∧ x ≤ 9223372036854775807) x.A ∧ (fun x : Int => -9223372036854775808 ≤ x ∧ x ≤ 9223372036854775807) x.B ∧ (fun x : Int => -9223372036854775808 ≤ x ∧ x ≤ 9223372036854775807) x.C ∧ (fun x : Int => -9223372036854775808 ≤ x ∧ x ≤ 9223372036854775807) x.Obj ∧ (fun x : Int => -9223372036854775808 ≤ x ∧ x ≤ 9223372036854775807) x.N ∧ (fun x : Int => -9223372036854775808 ≤ x ∧ x ≤ 9223372036854775807) x.Fn ∧ (fun x : Int => -9223372036854775808 ≤ x ∧ x ≤ 9223372036854775807) x.Order
theorem dec71 {H : Type} {n : Nat} {d : DataW H} {c : List CV} (h : cvD Tryd.prog n 71 d = some c) : ∃ x : Inst, OkInst x ∧ c = Enc.enc x := by
  obtain ⟨m, l, rfl, rfl, hl, h⟩ := cvD_struct Tryd.underlying71 h
  have hl : l.length = 8 := hl
  match l, hl with
  | [d0, d1, d2, d3, d4, d5, d6, d7], _ =>
    simp only [List.zipWith] at h
    obtain ⟨a0, b0, h0, k1, rfl⟩ := concatM_cons h
    obtain ⟨a1, b1, h1, k2, rfl⟩ := concatM_cons k1
    obtain ⟨a2, b2, h2, k3, rfl⟩ := concatM_cons k2
    obtain ⟨a3, b3, h3, k4, rfl⟩ := concatM_cons k3
    obtain ⟨a4, b4, h4, k5, rfl⟩ := concatM_cons k4
    obtain ⟨a5, b5, h5, k6, rfl⟩ := concatM_cons k5
    obtain ⟨a6, b6, h6, k7, rfl⟩ := concatM_cons k6
    obtain ⟨a7, b7, h7, k8, rfl⟩ := concatM_cons k7
    obtain rfl := concatM_nil k8
    obtain ⟨x0, q0, rfl⟩ := dec67 h0
    obtain ⟨x1, q1, rfl⟩ := dec3 h1
    obtain ⟨x2, q2, rfl⟩ := dec3 h2
    obtain ⟨x3, q3, rfl⟩ := dec3 h3
    obtain ⟨x4, q4, rfl⟩ := dec3 h4
    obtain ⟨x5, q5, rfl⟩ := dec3 h5
    obtain ⟨x6, q6, rfl⟩ := dec68 h6
    obtain ⟨x7, q7, rfl⟩ := dec69 h7
    exact ⟨⟨x0, x1, x2, x3, x4, x5, x6, x7⟩, ⟨q0, q1, q2, q3, q4, q5, q6, q7⟩, rfl⟩
theorem dec22 {H : Type} {n : Nat} {d : DataW H} {c : List CV} (h : cvD Tryd.prog n 22 d = some c) : ∃ x : List Inst, (∀ y ∈ x, (OkInst) y) ∧ c = Enc.enc x := by
  obtain ⟨L, hQ, rfl⟩ := cvD_sliceQ (g := Enc.enc) (Q := OkInst) Tryd.underlying22 (fun n d c h => dec71 h) h
  exact ⟨L, hQ, rfl⟩
def OkFunc (x : Func) : Prop := (fun _ : ByteArray => True) x.Name ∧ (fun l : List Inst => ∀ x ∈ l, (OkInst) x) x.Code
theorem dec24 {H : Type} {n : Nat} {d : DataW H} {c : List CV} (h : cvD Tryd.prog n 24 d = some c) : ∃ x : Func, OkFunc x ∧ c = Enc.enc x := by
  obtain ⟨m, l, rfl, rfl, hl, h⟩ := cvD_struct Tryd.underlying24 h
  have hl : l.length = 2 := hl
  match l, hl with
  | [d0, d1], _ =>
    simp only [List.zipWith] at h
    obtain ⟨a0, b0, h0, k1, rfl⟩ := concatM_cons h
    obtain ⟨a1, b1, h1, k2, rfl⟩ := concatM_cons k1
    obtain rfl := concatM_nil k2
    obtain ⟨x0, q0, rfl⟩ := dec9 h0
    obtain ⟨x1, q1, rfl⟩ := dec22 h1
    exact ⟨⟨x0, x1⟩, ⟨q0, q1⟩, rfl⟩
theorem dec50 {H : Type} {n : Nat} {d : DataW H} {c : List CV} (h : cvD Tryd.prog n 50 d = some c) : ∃ x : List Func, (∀ y ∈ x, (OkFunc) y) ∧ c = Enc.enc x := by
  obtain ⟨L, hQ, rfl⟩ := cvD_sliceQ (g := Enc.enc) (Q := OkFunc) Tryd.underlying50 (fun n d c h => dec24 h) h
  exact ⟨L, hQ, rfl⟩
def OkStart (x : Start) : Prop := (fun x : Int => -9223372036854775808 ≤ x ∧ x ≤ 9223372036854775807) x.Func ∧ (fun x : Int => -9223372036854775808 ≤ x ∧ x ≤ 9223372036854775807) x.Arg
theorem dec108 {H : Type} {n : Nat} {d : DataW H} {c : List CV} (h : cvD Tryd.prog n 108 d = some c) : ∃ x : Start, OkStart x ∧ c = Enc.enc x := by
  obtain ⟨m, l, rfl, rfl, hl, h⟩ := cvD_struct Tryd.underlying108 h
  have hl : l.length = 2 := hl
  match l, hl with
  | [d0, d1], _ =>
    simp only [List.zipWith] at h
    obtain ⟨a0, b0, h0, k1, rfl⟩ := concatM_cons h
    obtain ⟨a1, b1, h1, k2, rfl⟩ := concatM_cons k1
    obtain rfl := concatM_nil k2
    obtain ⟨x0, q0, rfl⟩ := dec3 h0
    obtain ⟨x1, q1, rfl⟩ := dec3 h1
    exact ⟨⟨x0, x1⟩, ⟨q0, q1⟩, rfl⟩
theorem dec51 {H : Type} {n : Nat} {d : DataW H} {c : List CV} (h : cvD Tryd.prog n 51 d = some c) : ∃ x : List Start, (∀ y ∈ x, (OkStart) y) ∧ c = Enc.enc x := by
  obtain ⟨L, hQ, rfl⟩ := cvD_sliceQ (g := Enc.enc) (Q := OkStart) Tryd.underlying51 (fun n d c h => dec108 h) h
  exact ⟨L, hQ, rfl⟩
def OkProgram (x : Program) : Prop := (fun l : List Var => ∀ x ∈ l, (OkVar) x) x.Vars ∧ (fun l : List ByteArray => ∀ x ∈ l, (fun _ : ByteArray => True) x) x.Mutexes ∧ (fun l : List ByteArray => ∀ x ∈ l, (fun _ : ByteArray => True) x) x.Conds ∧ (fun l : List Func => ∀ x ∈ l, (OkFunc) x) x.Funcs ∧ (fun l : List Start => ∀ x ∈ l, (OkStart) x) x.Threads
theorem dec53 {H : Type} {n : Nat} {d : DataW H} {c : List CV} (h : cvD Tryd.prog n 53 d = some c) : ∃ x : Program, OkProgram x ∧ c = Enc.enc x := by
  obtain ⟨m, l, rfl, rfl, hl, h⟩ := cvD_struct Tryd.underlying53 h
  have hl : l.length = 5 := hl
  match l, hl with
  | [d0, d1, d2, d3, d4], _ =>
    simp only [List.zipWith] at h
    obtain ⟨a0, b0, h0, k1, rfl⟩ := concatM_cons h
    obtain ⟨a1, b1, h1, k2, rfl⟩ := concatM_cons k1
    obtain ⟨a2, b2, h2, k3, rfl⟩ := concatM_cons k2
    obtain ⟨a3, b3, h3, k4, rfl⟩ := concatM_cons k3
    obtain ⟨a4, b4, h4, k5, rfl⟩ := concatM_cons k4
    obtain rfl := concatM_nil k5
    obtain ⟨x0, q0, rfl⟩ := dec48 h0
    obtain ⟨x1, q1, rfl⟩ := dec49 h1
    obtain ⟨x2, q2, rfl⟩ := dec49 h2
    obtain ⟨x3, q3, rfl⟩ := dec50 h3
    obtain ⟨x4, q4, rfl⟩ := dec51 h4
    exact ⟨⟨x0, x1, x2, x3, x4⟩, ⟨q0, q1, q2, q3, q4⟩, rfl⟩
theorem open53 {H : Type} {enc : TypeId × Value → H} {W : World} {sp : Nat → Bool} {held : Bool} {v : Value} {d : DataW H} {p : List MemPlace} {r : Go.Reach} {b0 : Nat} (hv : Value.okWide Tryd.prog W r b0 53 v) (h : DataW.Trod enc Tryd.prog W 0 sp held 53 v d p) :
    ∃ x : Program, OkProgram x ∧ AVRep W m0 (fun _ => False) v (.agg ((Enc.enc x).map .p)) := by
  obtain ⟨cvs, e, hr⟩ := rep_struct (m := 8) Tryd.underlying53 (by kernel_rfl) hv h
  obtain ⟨x, hx, rfl⟩ := dec53 e
  exact ⟨x, hx, hr⟩
theorem gN1 : Tryd.prog.globalNamed "modelcheck/value.names" = some 1 := by kernel_rfl
theorem gN0 : Tryd.prog.globalNamed "modelcheck/inst.rows" = some 0 := by kernel_rfl
/-- The package variables as the rows lay them. -/
theorem gT1 : (Tryd.prog.globals[1]?).map (·.type) = some 161 := by kernel_rfl
set_option maxRecDepth 100000 in
theorem gC1 : cvD Tryd.prog 6 161 (Go.Proofs.YtgcinmhiohlmiaaDoor.Rows.laid_modelcheck_value_names (H := Unit)) = some (encL namesTab) := by kernel_rfl
theorem gT0 : (Tryd.prog.globals[0]?).map (·.type) = some 145 := by kernel_rfl
set_option maxRecDepth 100000 in
theorem gC0 : cvD Tryd.prog 6 145 (Go.Proofs.YtgcinmhiohlmiaaDoor.Rows.laid_modelcheck_inst_rows (H := Unit)) = some (encL rowsTab) := by kernel_rfl
set_option maxRecDepth 100000 in
theorem globs {W : World} (laid : List (String × DataW Unit)) (he : laid = [("modelcheck/value.names", Go.Proofs.YtgcinmhiohlmiaaDoor.Rows.laid_modelcheck_value_names), ("modelcheck/inst.rows", Go.Proofs.YtgcinmhiohlmiaaDoor.Rows.laid_modelcheck_inst_rows)])
    (h : laidMetH Tryd.prog laid W) : ∀ g cs, Globals.G g = some cs → AVRep W m0 (fun _ => False) (.pointer (some ⟨g, 0, none⟩)) (.cell (.ep cs 0)) := by
  subst he
  rw [MakeChecks.laidMetH_plain _ _ _ (by kernel_rfl)] at h
  obtain ⟨ps, ⟨g0, t0, cs0, f0, p0, q0, hg0, ht0, hv0, hd0, ⟨g1, t1, cs1, f1, p1, q1, hg1, ht1, hv1, hd1, _, _⟩, _⟩, _, _⟩ := h
  obtain rfl := Option.some.inj (gN1.symm.trans hg0)
  obtain rfl := Option.some.inj (gT1.symm.trans ht0)
  obtain rfl := Option.some.inj (gN0.symm.trans hg1)
  obtain rfl := Option.some.inj (gT0.symm.trans ht1)
  intro g cs hgc
  have hgc : (if g = 0 then some (encL rowsTab) else if g = 1 then some (encL namesTab) else none) = some cs := hgc
  split at hgc
  · rename_i e
    subst e
    cases hgc
    exact rep_global (m := 6) (t := 145) (by kernel_rfl) hd1 gC0 fun j => by simpa using World.var?_cell hg1 hv1 j
  · split at hgc
    · rename_i e
      subst e
      cases hgc
      exact rep_global (m := 6) (t := 161) (by kernel_rfl) hd0 gC1 fun j => by simpa using World.var?_cell hg0 hv0 j
    · cases hgc
end Go.Dc
end
