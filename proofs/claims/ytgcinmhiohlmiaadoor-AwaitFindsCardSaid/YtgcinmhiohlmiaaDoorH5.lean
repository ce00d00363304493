/- Contracts of functions, by their numbers, and the laws that walk them. Conditions: as each states. -/
import Derived.Test.YtgcinmhiohlmiaaDoorH3
import Derived.Test.YtgcinmhiohlmiaaDoorH4
set_option linter.all false
section
set_option linter.all false
namespace Go.Dc
open Go Go.Hw Go.Proofs
set_option maxRecDepth 100000
def await_spins_L2 (i2751 : Int) (x3442 : Func) : Nat → (List AwaitSpin) → Int → Option (List AwaitSpin)
  | 0, _, _ => none
  | q3606 + 1, l3547, i3548 => cond (ltI (IntKind.i64.wrap (i3548 + 2)) ((x3442.Code.length : Nat) : Int)) (Option.bind (getI x3442.Code i3548) (fun x3620 => Option.bind (getI x3442.Code (IntKind.i64.wrap (i3548 + 1))) (fun x3623 => Option.bind (getI x3442.Code (IntKind.i64.wrap (i3548 + 2))) (fun x3626 => Option.bind (α := Int) (cond (eqI x3623.C x3620.A) (some (x3623.B)) (some (x3623.C))) (fun i3630 => Option.bind (await_spins_1 x3620 x3623 x3626 i3548) (fun y3636 => cond y3636 (Option.bind (await_spins_2 x3623 x3620.A i3630) (fun y3639 => guardO (orB (!y3639) ((await_targeted x3442 (IntKind.i64.wrap (i3548 + 1))).isSome)) (guardO (orB (!(!(orB (!y3639) ((await_targeted x3442 (IntKind.i64.wrap (i3548 + 1))).getD default)))) ((await_targeted x3442 (IntKind.i64.wrap (i3548 + 2))).isSome)) (cond (orB (orB (!y3639) ((await_targeted x3442 (IntKind.i64.wrap (i3548 + 1))).getD default)) ((await_targeted x3442 (IntKind.i64.wrap (i3548 + 2))).getD default)) (await_spins_L2 i2751 x3442 q3606 l3547 (IntKind.i64.wrap (i3548 + 1))) (Option.bind (await_condition x3623.Fn) (fun y3651 => Option.bind (some ([({ fn := i2751, first := i3548, await := ({ Op := 14, A := x3620.A, B := i3630, C := 0, Obj := x3620.Obj, N := 0, Fn := y3651, Order := x3620.Order } : Inst) } : AwaitSpin)])) (fun l3653 => guardO (limB 80 (l3547.length + l3653.length)) (Option.bind (some (l3547 ++ l3653)) (fun l3656 => await_spins_L2 i2751 x3442 q3606 l3656 (IntKind.i64.wrap (i3548 + 1))))))))))) (await_spins_L2 i2751 x3442 q3606 l3547 (IntKind.i64.wrap (i3548 + 1))))))))) (some (l3547))

def await_spins_L1 (fuelN : Nat) (a0 : Program) : Nat → (List AwaitSpin) → Int → Option (List AwaitSpin)
  | 0, _, _ => none
  | q3216 + 1, l2750, i2751 => cond (ltI i2751 ((a0.Funcs.length : Nat) : Int)) (Option.bind (α := (List AwaitSpin)) (Option.bind (getI a0.Funcs i2751) (fun x3442 => Option.bind (await_spins_L2 i2751 x3442 fuelN l2750 0) (fun l3599 => some (l3599)))) (fun l3437 => await_spins_L1 fuelN a0 q3216 l3437 (IntKind.i64.wrap (i2751 + 1)))) (some (l2750))

def await_spins (fuelN : Nat) (a0 : Program) : Option (List AwaitSpin) :=
  Option.bind (α := (List AwaitSpin)) (Option.bind (await_spins_L1 fuelN a0 fuelN [] 0) (fun l3209 => some (l3209))) (fun l1827 => some l1827)

set_option maxHeartbeats 2000000 in
theorem at_await_spins {fuelN : Nat} {a0 : Program} {r : (List AwaitSpin)} (hs : await_spins fuelN a0 = some r) : At Tryd.prog 65 [.agg [.p (.sl a0.Vars.length (encL a0.Vars)), .p (.sl a0.Mutexes.length (encL a0.Mutexes)), .p (.sl a0.Conds.length (encL a0.Conds)), .p (.sl a0.Funcs.length (encL a0.Funcs)), .p (.sl a0.Threads.length (encL a0.Threads))]] (.cell (.p (.sl r.length (encL r)))) := by
  refine at_bound (by kernel_rfl) fun hb => ?_
  have hb1 : LenOk (.sl a0.Vars.length (encL a0.Vars)) := hb (.agg [.p (.sl a0.Vars.length (encL a0.Vars)), .p (.sl a0.Mutexes.length (encL a0.Mutexes)), .p (.sl a0.Conds.length (encL a0.Conds)), .p (.sl a0.Funcs.length (encL a0.Funcs)), .p (.sl a0.Threads.length (encL a0.Threads))]) (by simp) (.p (.sl a0.Vars.length (encL a0.Vars))) (by simp)
  have hb2 : LenOk (.sl a0.Mutexes.length (encL a0.Mutexes)) := hb (.agg [.p (.sl a0.Vars.length (encL a0.Vars)), .p (.sl a0.Mutexes.length (encL a0.Mutexes)), .p (.sl a0.Conds.length (encL a0.Conds)), .p (.sl a0.Funcs.length (encL a0.Funcs)), .p (.sl a0.Threads.length (encL a0.Threads))]) (by simp) (.p (.sl a0.Mutexes.length (encL a0.Mutexes))) (by simp)
  have hb3 : LenOk (.sl a0.Conds.length (encL a0.Conds)) := hb (.agg [.p (.sl a0.Vars.length (encL a0.Vars)), .p (.sl a0.Mutexes.length (encL a0.Mutexes)), .p (.sl a0.Conds.length (encL a0.Conds)), .p (.sl a0.Funcs.length (encL a0.Funcs)), .p (.sl a0.Threads.length (encL a0.Threads))]) (by simp) (.p (.sl a0.Conds.length (encL a0.Conds))) (by simp)
  have hb4 : LenOk (.sl a0.Funcs.length (encL a0.Funcs)) := hb (.agg [.p (.sl a0.Vars.length (encL a0.Vars)), .p (.sl a0.Mutexes.length (encL a0.Mutexes)), .p (.sl a0.Conds.length (encL a0.Conds)), .p (.sl a0.Funcs.length (encL a0.Funcs)), .p (.sl a0.Threads.length (encL a0.Threads))]) (by simp) (.p (.sl a0.Funcs.length (encL a0.Funcs))) (by simp)
  have hb5 : LenOk (.sl a0.Threads.length (encL a0.Threads)) := hb (.agg [.p (.sl a0.Vars.length (encL a0.Vars)), .p (.sl a0.Mutexes.length (encL a0.Mutexes)), .p (.sl a0.Conds.length (encL a0.Conds)), .p (.sl a0.Funcs.length (encL a0.Funcs)), .p (.sl a0.Threads.length (encL a0.Threads))]) (by simp) (.p (.sl a0.Threads.length (encL a0.Threads))) (by simp)
  refine at_code mixed Tryd.func65 (by kernel_rfl) rfl (by kernel_rfl) rfl fun Q hQ => ?_
  rw [await_spins] at hs
  repeat (first | simp [-awp_cond_eq, -awp_block_eq] | with_reducible refine awp_reg ?_ | with_reducible refine And.intro (by omega) ?_ | with_reducible refine optF_if (by omega) ?_)
  obtain ⟨o1829, e1828, hs⟩ := bindO hs
  try dsimp only at hs
  refine awp_cutK (fun (v : (List AwaitSpin)) (σ : St) => some (v) = some o1829 ∧ σ.env 3 = .cell (.sl (.l 61) 0 10 v.length) ∧ σ.hp (.l 61) = some (.pure (encL v)) ∧ 3 ≤ σ.gen) (by rfl) (fun Q hK1830 hX1831 => ?_) (fun l1827 σ91 hp => ?_)
  · repeat (first | simp | with_reducible refine awp_reg ?_ | with_reducible refine And.intro (by omega) ?_ | with_reducible refine optF_if (by omega) ?_)
    obtain ⟨o3211, e3210, e1828⟩ := bindO e1828
    try dsimp only at e1828
    refine awp_loopW (fun (v : Nat × (List AwaitSpin) × Int) (σ : St) => await_spins_L1 fuelN a0 v.1 v.2.1 v.2.2 = some o3211 ∧ σ.env 3 = .cell (.sl (.l 182) 0 10 v.2.1.length) ∧ σ.env 15 = .cell (.p (.sl a0.Funcs.length (encL a0.Funcs))) ∧ σ.env 16 = iV .i64 ((a0.Funcs.length : Nat) : Int) ∧ σ.env 17 = iV .i64 v.2.2 ∧ σ.hp (.l 182) = some (.pure (encL v.2.1)) ∧ 3 ≤ σ.gen) (fun v => v.1) _ (Gh.void _ (.l 182) 3 10 rfl (by simp)) (fuelN, [], 0) ⟨e3210, by simp [St.frz, St.pur], by simp [St.frz, St.pur], by simp [St.frz, St.pur], by simp [St.frz, St.pur], by simp [St.frz, St.pur], by first | (simp; done) | (simp; omega) | omega⟩ fun v σ160 hp L3212 hL3213 => ?_
    obtain ⟨q3215, l2750, i2751⟩ := v
    dsimp only at hp hL3213
    obtain ⟨e3210, h159_3, h159_15, h159_16, h159_17, g159_0, n159_g⟩ := hp
    rcases q3215 with _ | q3216
    · rw [await_spins_L1] at e3210; cases e3210
    · rw [await_spins_L1] at e3210; try dsimp only at e3210
      repeat (first | simp [h159_3, h159_15, h159_16, h159_17, g159_0] | with_reducible refine awp_reg ?_)
      refine condK_spec (ltI i2751 ((a0.Funcs.length : Nat) : Int)) (by first | rfl | (simp [h159_3, h159_15, h159_16, h159_17, g159_0]; done) | (simp [andB, orB, eqI, ltI, Int.natCast_inj, h159_3, h159_15, h159_16, h159_17, g159_0]; done)) (fun h3220 => ?_) (fun h3220 => ?_)
      · replace e3210 := condT h3220 e3210
        repeat (first | simp [-awp_cond_eq, -awp_block_eq, h159_3, h159_15, h159_16, h159_17, g159_0] | with_reducible refine awp_reg ?_)
        obtain ⟨o3439, e3438, e3210⟩ := bindO e3210
        try dsimp only at e3210
        refine awp_cutK (fun (v : (List AwaitSpin)) (σ : St) => some (v) = some o3439 ∧ σ.env 3 = .cell (.sl (.l 221) 0 10 v.length) ∧ σ.env 15 = .cell (.p (.sl a0.Funcs.length (encL a0.Funcs))) ∧ σ.env 16 = iV .i64 ((a0.Funcs.length : Nat) : Int) ∧ σ.env 17 = iV .i64 i2751 ∧ σ.hp (.l 221) = some (.pure (encL v)) ∧ (σ160.gen + 1) ≤ σ.gen) (by rfl) (fun Q hK3440 hX3441 => ?_) (fun l3437 σ171 hp => ?_)
        · obtain ⟨x3442, hx3443, e3438⟩ := bindO e3438
          try dsimp only at e3438
          obtain ⟨hx3443a, hx3443b, hx3443c, hx3443d⟩ := getI_some hx3443
          have f3444 : partCV Tryd.prog 24 (encL a0.Funcs) (((i2751).toNat) * 2) = some (.agg [.p (.c (.string x3442.Name)), .p (.sl x3442.Code.length (encL x3442.Code))]) := partCV_enc hx3443d (f := 0) (by simp)
          repeat (first | simp [h159_3, h159_15, h159_16, h159_17, g159_0, f3444] | with_reducible refine awp_reg ?_ | with_reducible refine And.intro (by omega) ?_ | with_reducible refine optF_if (by omega) ?_)
          obtain ⟨o3601, e3600, e3438⟩ := bindO e3438
          try dsimp only at e3438
          refine awp_loopW (fun (v : Nat × (List AwaitSpin) × Int) (σ : St) => await_spins_L2 i2751 x3442 v.1 v.2.1 v.2.2 = some o3601 ∧ σ.env 3 = .cell (.sl (.l 236) 0 10 v.2.1.length) ∧ σ.env 4 = iV .i64 i2751 ∧ σ.env 5 = .cell (.ref (.o (σ160.gen + 2) 3 0) 0) ∧ σ.env 6 = .cell (.ref (.l 237) 0) ∧ σ.env 15 = .cell (.p (.sl a0.Funcs.length (encL a0.Funcs))) ∧ σ.env 16 = iV .i64 ((a0.Funcs.length : Nat) : Int) ∧ σ.env 17 = iV .i64 i2751 ∧ σ.hp (.l 236) = some (.pure (encL v.2.1)) ∧ σ.hp (.o (σ160.gen + 2) 3 0) = some (.cells [.p (.c (.string x3442.Name)), .p (.sl x3442.Code.length (encL x3442.Code))]) ∧ σ.hp (.l 237) = some (.cells [.p (.c (.int .i64 v.2.2))]) ∧ (σ160.gen + 3) ≤ σ.gen) (fun v => v.1) _ ((Gh.ren _ (.l 182) (.l 236) (by simp) rfl rfl).trans (Gh.ren _ (.o (σ160.gen + 3) 0 0) (.l 237) (by simp) rfl rfl)) (fuelN, l2750, 0) ⟨e3600, by simp [St.frz, St.pur, h159_3, h159_15, h159_16, h159_17, g159_0, f3444], by simp [St.frz, St.pur, h159_3, h159_15, h159_16, h159_17, g159_0, f3444], by simp [St.frz, St.pur, h159_3, h159_15, h159_16, h159_17, g159_0, f3444], by simp [St.frz, St.pur, h159_3, h159_15, h159_16, h159_17, g159_0, f3444], by simp [St.frz, St.pur, h159_3, h159_15, h159_16, h159_17, g159_0, f3444], by simp [St.frz, St.pur, h159_3, h159_15, h159_16, h159_17, g159_0, f3444], by simp [St.frz, St.pur, h159_3, h159_15, h159_16, h159_17, g159_0, f3444], by simp [St.frz, St.pur, h159_3, h159_15, h159_16, h159_17, g159_0, f3444], by simp [St.frz, St.pur, h159_3, h159_15, h159_16, h159_17, g159_0, f3444], by simp [St.frz, St.pur, h159_3, h159_15, h159_16, h159_17, g159_0, f3444], by first | (simp; done) | (simp; omega) | omega⟩ fun v σ180 hp L3602 hL3603 => ?_
          obtain ⟨q3605, l3547, i3548⟩ := v
          dsimp only at hp hL3603
          obtain ⟨e3600, h179_3, h179_4, h179_5, h179_6, h179_15, h179_16, h179_17, g179_0, g179_1, g179_2, n179_g⟩ := hp
          have n179_σ160gen_0 : ¬ (σ180.gen = σ160.gen) := by omega
          have n179_σ160gen_0' : ¬ (σ160.gen = σ180.gen) := by omega
          have n179_σ160gen_1 : ¬ (σ180.gen = σ160.gen + 1) := by omega
          have n179_σ160gen_1' : ¬ (σ160.gen + 1 = σ180.gen) := by omega
          have n179_σ160gen_2 : ¬ (σ180.gen = σ160.gen + 2) := by omega
          have n179_σ160gen_2' : ¬ (σ160.gen + 2 = σ180.gen) := by omega
          have n179_σ160gen_a : ∀ j, ¬ (σ180.gen + j = σ160.gen) := fun j => by omega
          have n179_σ160gen_a' : ∀ j, ¬ (σ160.gen = σ180.gen + j) := fun j => by omega
          rcases q3605 with _ | q3606
          · rw [await_spins_L2] at e3600; cases e3600
          · rw [await_spins_L2] at e3600; try dsimp only at e3600
            repeat (first | simp [h179_3, h179_4, h179_5, h179_6, h179_15, h179_16, h179_17, g179_0, g179_1, g179_2, n179_σ160gen_0, n179_σ160gen_0', n179_σ160gen_1, n179_σ160gen_1', n179_σ160gen_2, n179_σ160gen_2', n179_σ160gen_a, n179_σ160gen_a', f3444] | with_reducible refine awp_reg ?_ | with_reducible refine And.intro (by omega) ?_ | with_reducible refine optF_if (by omega) ?_)
            refine condK_spec (ltI (IntKind.i64.wrap (i3548 + 2)) ((x3442.Code.length : Nat) : Int)) (by first | rfl | (simp [h179_3, h179_4, h179_5, h179_6, h179_15, h179_16, h179_17, g179_0, g179_1, g179_2, n179_σ160gen_0, n179_σ160gen_0', n179_σ160gen_1, n179_σ160gen_1', n179_σ160gen_2, n179_σ160gen_2', n179_σ160gen_a, n179_σ160gen_a', f3444]; done) | (simp [andB, orB, eqI, ltI, Int.natCast_inj, h179_3, h179_4, h179_5, h179_6, h179_15, h179_16, h179_17, g179_0, g179_1, g179_2, n179_σ160gen_0, n179_σ160gen_0', n179_σ160gen_1, n179_σ160gen_1', n179_σ160gen_2, n179_σ160gen_2', n179_σ160gen_a, n179_σ160gen_a', f3444]; done)) (fun h3610 => ?_) (fun h3610 => ?_)
            · replace e3600 := condT h3610 e3600
              repeat (first | simp [-awp_cond_eq, -awp_block_eq, h179_3, h179_4, h179_5, h179_6, h179_15, h179_16, h179_17, g179_0, g179_1, g179_2, n179_σ160gen_0, n179_σ160gen_0', n179_σ160gen_1, n179_σ160gen_1', n179_σ160gen_2, n179_σ160gen_2', n179_σ160gen_a, n179_σ160gen_a', f3444] | with_reducible refine awp_reg ?_ | with_reducible refine And.intro (by omega) ?_ | with_reducible refine optF_if (by omega) ?_)
              refine awp_block ?_
              obtain ⟨x3620, hx3621, e3600⟩ := bindO e3600
              try dsimp only at e3600
              obtain ⟨hx3621a, hx3621b, hx3621c, hx3621d⟩ := getI_some hx3621
              have f3622 : partCV Tryd.prog 71 (encL x3442.Code) (((i3548).toNat) * 8) = some (.agg [.p (.c (.int .i64 x3620.Op)), .p (.c (.int .i64 x3620.A)), .p (.c (.int .i64 x3620.B)), .p (.c (.int .i64 x3620.C)), .p (.c (.int .i64 x3620.Obj)), .p (.c (.int .i64 x3620.N)), .p (.c (.int .i64 x3620.Fn)), .p (.c (.int .i64 x3620.Order))]) := partCV_enc hx3621d (f := 0) (by simp)
              obtain ⟨x3623, hx3624, e3600⟩ := bindO e3600
              try dsimp only at e3600
              obtain ⟨hx3624a, hx3624b, hx3624c, hx3624d⟩ := getI_some hx3624
              have f3625 : partCV Tryd.prog 71 (encL x3442.Code) (((IntKind.i64.wrap (i3548 + 1)).toNat) * 8) = some (.agg [.p (.c (.int .i64 x3623.Op)), .p (.c (.int .i64 x3623.A)), .p (.c (.int .i64 x3623.B)), .p (.c (.int .i64 x3623.C)), .p (.c (.int .i64 x3623.Obj)), .p (.c (.int .i64 x3623.N)), .p (.c (.int .i64 x3623.Fn)), .p (.c (.int .i64 x3623.Order))]) := partCV_enc hx3624d (f := 0) (by simp)
              obtain ⟨x3626, hx3627, e3600⟩ := bindO e3600
              try dsimp only at e3600
              obtain ⟨hx3627a, hx3627b, hx3627c, hx3627d⟩ := getI_some hx3627
              have f3628 : partCV Tryd.prog 71 (encL x3442.Code) (((IntKind.i64.wrap (i3548 + 2)).toNat) * 8) = some (.agg [.p (.c (.int .i64 x3626.Op)), .p (.c (.int .i64 x3626.A)), .p (.c (.int .i64 x3626.B)), .p (.c (.int .i64 x3626.C)), .p (.c (.int .i64 x3626.Obj)), .p (.c (.int .i64 x3626.N)), .p (.c (.int .i64 x3626.Fn)), .p (.c (.int .i64 x3626.Order))]) := partCV_enc hx3627d (f := 0) (by simp)
              repeat (first | simp [-awp_cond_eq, -awp_block_eq, h179_3, h179_4, h179_5, h179_6, h179_15, h179_16, h179_17, g179_0, g179_1, g179_2, n179_σ160gen_0, n179_σ160gen_0', n179_σ160gen_1, n179_σ160gen_1', n179_σ160gen_2, n179_σ160gen_2', n179_σ160gen_a, n179_σ160gen_a', f3444, f3622, f3625, f3628] | with_reducible refine awp_reg ?_ | with_reducible refine awp_draw ?_ | with_reducible refine ord_l (by kernel_rfl) ?_ | with_reducible refine ord_e (by kernel_rfl) ?_ | with_reducible refine ord_c (by kernel_rfl) ?_ | with_reducible refine ord_d (by kernel_rfl) ?_ | with_reducible refine And.intro (by omega) ?_ | with_reducible refine optF_if (by omega) ?_)
              obtain ⟨o3632, e3631, e3600⟩ := bindO e3600
              try dsimp only at e3600
              refine awp_cutK (fun (v : Int) (σ : St) => some (v) = some o3632 ∧ σ.env 3 = .cell (.sl (.l 236) 0 10 l3547.length) ∧ σ.env 4 = iV .i64 i2751 ∧ σ.env 5 = .cell (.ref (.o (σ160.gen + 2) 3 0) 0) ∧ σ.env 6 = .cell (.ref (.l 237) 0) ∧ σ.env 7 = .cell (.ref (.o (σ180.gen + 2) 17 0) 0) ∧ σ.env 8 = .cell (.ref (.o (σ180.gen + 2) 18 0) 0) ∧ σ.env 9 = .cell (.ref (.o (σ180.gen + 2) 19 0) 0) ∧ σ.env 10 = .cell (.ref (.o (σ180.gen + 3) 4 0) 0) ∧ σ.env 11 = .cell (.ref (.o (σ180.gen + 3) 5 0) 0) ∧ σ.env 15 = .cell (.p (.sl a0.Funcs.length (encL a0.Funcs))) ∧ σ.env 16 = iV .i64 ((a0.Funcs.length : Nat) : Int) ∧ σ.env 17 = iV .i64 i2751 ∧ σ.hp (.l 236) = some (.pure (encL l3547)) ∧ σ.hp (.o (σ160.gen + 2) 3 0) = some (.cells [.p (.c (.string x3442.Name)), .p (.sl x3442.Code.length (encL x3442.Code))]) ∧ σ.hp (.l 237) = some (.cells [.p (.c (.int .i64 i3548))]) ∧ σ.hp (.o (σ180.gen + 2) 17 0) = some (.cells [.p (.c (.int .i64 x3620.Op)), .p (.c (.int .i64 x3620.A)), .p (.c (.int .i64 x3620.B)), .p (.c (.int .i64 x3620.C)), .p (.c (.int .i64 x3620.Obj)), .p (.c (.int .i64 x3620.N)), .p (.c (.int .i64 x3620.Fn)), .p (.c (.int .i64 x3620.Order))]) ∧ σ.hp (.o (σ180.gen + 2) 18 0) = some (.cells [.p (.c (.int .i64 x3623.Op)), .p (.c (.int .i64 x3623.A)), .p (.c (.int .i64 x3623.B)), .p (.c (.int .i64 x3623.C)), .p (.c (.int .i64 x3623.Obj)), .p (.c (.int .i64 x3623.N)), .p (.c (.int .i64 x3623.Fn)), .p (.c (.int .i64 x3623.Order))]) ∧ σ.hp (.o (σ180.gen + 2) 19 0) = some (.cells [.p (.c (.int .i64 x3626.Op)), .p (.c (.int .i64 x3626.A)), .p (.c (.int .i64 x3626.B)), .p (.c (.int .i64 x3626.C)), .p (.c (.int .i64 x3626.Obj)), .p (.c (.int .i64 x3626.N)), .p (.c (.int .i64 x3626.Fn)), .p (.c (.int .i64 x3626.Order))]) ∧ σ.hp (.o (σ180.gen + 3) 4 0) = some (.cells [.p (.c (.int .i64 x3620.A))]) ∧ σ.hp (.o (σ180.gen + 3) 5 0) = some (.cells [.p (.c (.int .i64 v))]) ∧ (σ180.gen + 4) ≤ σ.gen) (by rfl) (fun Q hK3633 hX3634 => ?_) (fun i3630 σ181 hp => ?_)
              · repeat (first | simp [h179_3, h179_4, h179_5, h179_6, h179_15, h179_16, h179_17, g179_0, g179_1, g179_2, n179_σ160gen_0, n179_σ160gen_0', n179_σ160gen_1, n179_σ160gen_1', n179_σ160gen_2, n179_σ160gen_2', n179_σ160gen_a, n179_σ160gen_a', f3444, f3622, f3625, f3628] | with_reducible refine awp_reg ?_ | with_reducible refine awp_draw ?_ | with_reducible refine ord_l (by kernel_rfl) ?_ | with_reducible refine ord_e (by kernel_rfl) ?_ | with_reducible refine ord_c (by kernel_rfl) ?_ | with_reducible refine ord_d (by kernel_rfl) ?_ | with_reducible refine And.intro (by omega) ?_ | with_reducible refine optF_if (by omega) ?_)
                refine condK_spec (eqI x3623.C x3620.A) (by first | rfl | (simp [h179_3, h179_4, h179_5, h179_6, h179_15, h179_16, h179_17, g179_0, g179_1, g179_2, n179_σ160gen_0, n179_σ160gen_0', n179_σ160gen_1, n179_σ160gen_1', n179_σ160gen_2, n179_σ160gen_2', n179_σ160gen_a, n179_σ160gen_a', f3444, f3622, f3625, f3628]; done) | (simp [andB, orB, eqI, ltI, Int.natCast_inj, h179_3, h179_4, h179_5, h179_6, h179_15, h179_16, h179_17, g179_0, g179_1, g179_2, n179_σ160gen_0, n179_σ160gen_0', n179_σ160gen_1, n179_σ160gen_1', n179_σ160gen_2, n179_σ160gen_2', n179_σ160gen_a, n179_σ160gen_a', f3444, f3622, f3625, f3628]; done)) (fun h3635 => ?_) (fun h3635 => ?_)
                · replace e3631 := condT h3635 e3631
                  repeat (first | simp [h179_3, h179_4, h179_5, h179_6, h179_15, h179_16, h179_17, g179_0, g179_1, g179_2, n179_σ160gen_0, n179_σ160gen_0', n179_σ160gen_1, n179_σ160gen_1', n179_σ160gen_2, n179_σ160gen_2', n179_σ160gen_a, n179_σ160gen_a', f3444, f3622, f3625, f3628] | with_reducible refine awp_reg ?_ | with_reducible refine awp_draw ?_ | with_reducible refine ord_l (by kernel_rfl) ?_ | with_reducible refine ord_e (by kernel_rfl) ?_ | with_reducible refine ord_c (by kernel_rfl) ?_ | with_reducible refine ord_d (by kernel_rfl) ?_ | with_reducible refine And.intro (by omega) ?_ | with_reducible refine optF_if (by omega) ?_)
                  exact hK3633 x3623.B _ _ (Gh.refl _) ⟨e3631, by simp [St.frz, St.pur, h179_3, h179_4, h179_5, h179_6, h179_15, h179_16, h179_17, g179_0, g179_1, g179_2, n179_σ160gen_0, n179_σ160gen_0', n179_σ160gen_1, n179_σ160gen_1', n179_σ160gen_2, n179_σ160gen_2', n179_σ160gen_a, n179_σ160gen_a', f3444, f3622, f3625, f3628], by simp [St.frz, St.pur, h179_3, h179_4, h179_5, h179_6, h179_15, h179_16, h179_17, g179_0, g179_1, g179_2, n179_σ160gen_0, n179_σ160gen_0', n179_σ160gen_1, n179_σ160gen_1', n179_σ160gen_2, n179_σ160gen_2', n179_σ160gen_a, n179_σ160gen_a', f3444, f3622, f3625, f3628], by simp [St.frz, St.pur, h179_3, h179_4, h179_5, h179_6, h179_15, h179_16, h179_17, g179_0, g179_1, g179_2, n179_σ160gen_0, n179_σ160gen_0', n179_σ160gen_1, n179_σ160gen_1', n179_σ160gen_2, n179_σ160gen_2', n179_σ160gen_a, n179_σ160gen_a', f3444, f3622, f3625, f3628], by simp [St.frz, St.pur, h179_3, h179_4, h179_5, h179_6, h179_15, h179_16, h179_17, g179_0, g179_1, g179_2, n179_σ160gen_0, n179_σ160gen_0', n179_σ160gen_1, n179_σ160gen_1', n179_σ160gen_2, n179_σ160gen_2', n179_σ160gen_a, n179_σ160gen_a', f3444, f3622, f3625, f3628], by simp [St.frz, St.pur, h179_3, h179_4, h179_5, h179_6, h179_15, h179_16, h179_17, g179_0, g179_1, g179_2, n179_σ160gen_0, n179_σ160gen_0', n179_σ160gen_1, n179_σ160gen_1', n179_σ160gen_2, n179_σ160gen_2', n179_σ160gen_a, n179_σ160gen_a', f3444, f3622, f3625, f3628], by simp [St.frz, St.pur, h179_3, h179_4, h179_5, h179_6, h179_15, h179_16, h179_17, g179_0, g179_1, g179_2, n179_σ160gen_0, n179_σ160gen_0', n179_σ160gen_1, n179_σ160gen_1', n179_σ160gen_2, n179_σ160gen_2', n179_σ160gen_a, n179_σ160gen_a', f3444, f3622, f3625, f3628], by simp [St.frz, St.pur, h179_3, h179_4, h179_5, h179_6, h179_15, h179_16, h179_17, g179_0, g179_1, g179_2, n179_σ160gen_0, n179_σ160gen_0', n179_σ160gen_1, n179_σ160gen_1', n179_σ160gen_2, n179_σ160gen_2', n179_σ160gen_a, n179_σ160gen_a', f3444, f3622, f3625, f3628], by simp [St.frz, St.pur, h179_3, h179_4, h179_5, h179_6, h179_15, h179_16, h179_17, g179_0, g179_1, g179_2, n179_σ160gen_0, n179_σ160gen_0', n179_σ160gen_1, n179_σ160gen_1', n179_σ160gen_2, n179_σ160gen_2', n179_σ160gen_a, n179_σ160gen_a', f3444, f3622, f3625, f3628], by simp [St.frz, St.pur, h179_3, h179_4, h179_5, h179_6, h179_15, h179_16, h179_17, g179_0, g179_1, g179_2, n179_σ160gen_0, n179_σ160gen_0', n179_σ160gen_1, n179_σ160gen_1', n179_σ160gen_2, n179_σ160gen_2', n179_σ160gen_a, n179_σ160gen_a', f3444, f3622, f3625, f3628], by simp [St.frz, St.pur, h179_3, h179_4, h179_5, h179_6, h179_15, h179_16, h179_17, g179_0, g179_1, g179_2, n179_σ160gen_0, n179_σ160gen_0', n179_σ160gen_1, n179_σ160gen_1', n179_σ160gen_2, n179_σ160gen_2', n179_σ160gen_a, n179_σ160gen_a', f3444, f3622, f3625, f3628], by simp [St.frz, St.pur, h179_3, h179_4, h179_5, h179_6, h179_15, h179_16, h179_17, g179_0, g179_1, g179_2, n179_σ160gen_0, n179_σ160gen_0', n179_σ160gen_1, n179_σ160gen_1', n179_σ160gen_2, n179_σ160gen_2', n179_σ160gen_a, n179_σ160gen_a', f3444, f3622, f3625, f3628], by simp [St.frz, St.pur, h179_3, h179_4, h179_5, h179_6, h179_15, h179_16, h179_17, g179_0, g179_1, g179_2, n179_σ160gen_0, n179_σ160gen_0', n179_σ160gen_1, n179_σ160gen_1', n179_σ160gen_2, n179_σ160gen_2', n179_σ160gen_a, n179_σ160gen_a', f3444, f3622, f3625, f3628], by simp [St.frz, St.pur, h179_3, h179_4, h179_5, h179_6, h179_15, h179_16, h179_17, g179_0, g179_1, g179_2, n179_σ160gen_0, n179_σ160gen_0', n179_σ160gen_1, n179_σ160gen_1', n179_σ160gen_2, n179_σ160gen_2', n179_σ160gen_a, n179_σ160gen_a', f3444, f3622, f3625, f3628], by simp [St.frz, St.pur, h179_3, h179_4, h179_5, h179_6, h179_15, h179_16, h179_17, g179_0, g179_1, g179_2, n179_σ160gen_0, n179_σ160gen_0', n179_σ160gen_1, n179_σ160gen_1', n179_σ160gen_2, n179_σ160gen_2', n179_σ160gen_a, n179_σ160gen_a', f3444, f3622, f3625, f3628], by simp [St.frz, St.pur, h179_3, h179_4, h179_5, h179_6, h179_15, h179_16, h179_17, g179_0, g179_1, g179_2, n179_σ160gen_0, n179_σ160gen_0', n179_σ160gen_1, n179_σ160gen_1', n179_σ160gen_2, n179_σ160gen_2', n179_σ160gen_a, n179_σ160gen_a', f3444, f3622, f3625, f3628], by simp [St.frz, St.pur, h179_3, h179_4, h179_5, h179_6, h179_15, h179_16, h179_17, g179_0, g179_1, g179_2, n179_σ160gen_0, n179_σ160gen_0', n179_σ160gen_1, n179_σ160gen_1', n179_σ160gen_2, n179_σ160gen_2', n179_σ160gen_a, n179_σ160gen_a', f3444, f3622, f3625, f3628], by simp [St.frz, St.pur, h179_3, h179_4, h179_5, h179_6, h179_15, h179_16, h179_17, g179_0, g179_1, g179_2, n179_σ160gen_0, n179_σ160gen_0', n179_σ160gen_1, n179_σ160gen_1', n179_σ160gen_2, n179_σ160gen_2', n179_σ160gen_a, n179_σ160gen_a', f3444, f3622, f3625, f3628], by simp [St.frz, St.pur, h179_3, h179_4, h179_5, h179_6, h179_15, h179_16, h179_17, g179_0, g179_1, g179_2, n179_σ160gen_0, n179_σ160gen_0', n179_σ160gen_1, n179_σ160gen_1', n179_σ160gen_2, n179_σ160gen_2', n179_σ160gen_a, n179_σ160gen_a', f3444, f3622, f3625, f3628], by simp [St.frz, St.pur, h179_3, h179_4, h179_5, h179_6, h179_15, h179_16, h179_17, g179_0, g179_1, g179_2, n179_σ160gen_0, n179_σ160gen_0', n179_σ160gen_1, n179_σ160gen_1', n179_σ160gen_2, n179_σ160gen_2', n179_σ160gen_a, n179_σ160gen_a', f3444, f3622, f3625, f3628], by simp [St.frz, St.pur, h179_3, h179_4, h179_5, h179_6, h179_15, h179_16, h179_17, g179_0, g179_1, g179_2, n179_σ160gen_0, n179_σ160gen_0', n179_σ160gen_1, n179_σ160gen_1', n179_σ160gen_2, n179_σ160gen_2', n179_σ160gen_a, n179_σ160gen_a', f3444, f3622, f3625, f3628], by first | (simp; done) | (simp; omega) | omega⟩
                · replace e3631 := condF h3635 e3631
                  repeat (first | simp [h179_3, h179_4, h179_5, h179_6, h179_15, h179_16, h179_17, g179_0, g179_1, g179_2, n179_σ160gen_0, n179_σ160gen_0', n179_σ160gen_1, n179_σ160gen_1', n179_σ160gen_2, n179_σ160gen_2', n179_σ160gen_a, n179_σ160gen_a', f3444, f3622, f3625, f3628] | with_reducible refine awp_reg ?_ | with_reducible refine awp_draw ?_ | with_reducible refine ord_l (by kernel_rfl) ?_ | with_reducible refine ord_e (by kernel_rfl) ?_ | with_reducible refine ord_c (by kernel_rfl) ?_ | with_reducible refine ord_d (by kernel_rfl) ?_ | with_reducible refine And.intro (by omega) ?_ | with_reducible refine optF_if (by omega) ?_)
                  exact hK3633 x3623.C _ _ (Gh.refl _) ⟨e3631, by simp [St.frz, St.pur, h179_3, h179_4, h179_5, h179_6, h179_15, h179_16, h179_17, g179_0, g179_1, g179_2, n179_σ160gen_0, n179_σ160gen_0', n179_σ160gen_1, n179_σ160gen_1', n179_σ160gen_2, n179_σ160gen_2', n179_σ160gen_a, n179_σ160gen_a', f3444, f3622, f3625, f3628], by simp [St.frz, St.pur, h179_3, h179_4, h179_5, h179_6, h179_15, h179_16, h179_17, g179_0, g179_1, g179_2, n179_σ160gen_0, n179_σ160gen_0', n179_σ160gen_1, n179_σ160gen_1', n179_σ160gen_2, n179_σ160gen_2', n179_σ160gen_a, n179_σ160gen_a', f3444, f3622, f3625, f3628], by simp [St.frz, St.pur, h179_3, h179_4, h179_5, h179_6, h179_15, h179_16, h179_17, g179_0, g179_1, g179_2, n179_σ160gen_0, n179_σ160gen_0', n179_σ160gen_1, n179_σ160gen_1', n179_σ160gen_2, n179_σ160gen_2', n179_σ160gen_a, n179_σ160gen_a', f3444, f3622, f3625, f3628], by simp [St.frz, St.pur, h179_3, h179_4, h179_5, h179_6, h179_15, h179_16, h179_17, g179_0, g179_1, g179_2, n179_σ160gen_0, n179_σ160gen_0', n179_σ160gen_1, n179_σ160gen_1', n179_σ160gen_2, n179_σ160gen_2', n179_σ160gen_a, n179_σ160gen_a', f3444, f3622, f3625, f3628], by simp [St.frz, St.pur, h179_3, h179_4, h179_5, h179_6, h179_15, h179_16, h179_17, g179_0, g179_1, g179_2, n179_σ160gen_0, n179_σ160gen_0', n179_σ160gen_1, n179_σ160gen_1', n179_σ160gen_2, n179_σ160gen_2', n179_σ160gen_a, n179_σ160gen_a', f3444, f3622, f3625, f3628], by simp [St.frz, St.pur, h179_3, h179_4, h179_5, h179_6, h179_15, h179_16, h179_17, g179_0, g179_1, g179_2, n179_σ160gen_0, n179_σ160gen_0', n179_σ160gen_1, n179_σ160gen_1', n179_σ160gen_2, n179_σ160gen_2', n179_σ160gen_a, n179_σ160gen_a', f3444, f3622, f3625, f3628], by simp [St.frz, St.pur, h179_3, h179_4, h179_5, h179_6, h179_15, h179_16, h179_17, g179_0, g179_1, g179_2, n179_σ160gen_0, n179_σ160gen_0', n179_σ160gen_1, n179_σ160gen_1', n179_σ160gen_2, n179_σ160gen_2', n179_σ160gen_a, n179_σ160gen_a', f3444, f3622, f3625, f3628], by simp [St.frz, St.pur, h179_3, h179_4, h179_5, h179_6, h179_15, h179_16, h179_17, g179_0, g179_1, g179_2, n179_σ160gen_0, n179_σ160gen_0', n179_σ160gen_1, n179_σ160gen_1', n179_σ160gen_2, n179_σ160gen_2', n179_σ160gen_a, n179_σ160gen_a', f3444, f3622, f3625, f3628], by simp [St.frz, St.pur, h179_3, h179_4, h179_5, h179_6, h179_15, h179_16, h179_17, g179_0, g179_1, g179_2, n179_σ160gen_0, n179_σ160gen_0', n179_σ160gen_1, n179_σ160gen_1', n179_σ160gen_2, n179_σ160gen_2', n179_σ160gen_a, n179_σ160gen_a', f3444, f3622, f3625, f3628], by simp [St.frz, St.pur, h179_3, h179_4, h179_5, h179_6, h179_15, h179_16, h179_17, g179_0, g179_1, g179_2, n179_σ160gen_0, n179_σ160gen_0', n179_σ160gen_1, n179_σ160gen_1', n179_σ160gen_2, n179_σ160gen_2', n179_σ160gen_a, n179_σ160gen_a', f3444, f3622, f3625, f3628], by simp [St.frz, St.pur, h179_3, h179_4, h179_5, h179_6, h179_15, h179_16, h179_17, g179_0, g179_1, g179_2, n179_σ160gen_0, n179_σ160gen_0', n179_σ160gen_1, n179_σ160gen_1', n179_σ160gen_2, n179_σ160gen_2', n179_σ160gen_a, n179_σ160gen_a', f3444, f3622, f3625, f3628], by simp [St.frz, St.pur, h179_3, h179_4, h179_5, h179_6, h179_15, h179_16, h179_17, g179_0, g179_1, g179_2, n179_σ160gen_0, n179_σ160gen_0', n179_σ160gen_1, n179_σ160gen_1', n179_σ160gen_2, n179_σ160gen_2', n179_σ160gen_a, n179_σ160gen_a', f3444, f3622, f3625, f3628], by simp [St.frz, St.pur, h179_3, h179_4, h179_5, h179_6, h179_15, h179_16, h179_17, g179_0, g179_1, g179_2, n179_σ160gen_0, n179_σ160gen_0', n179_σ160gen_1, n179_σ160gen_1', n179_σ160gen_2, n179_σ160gen_2', n179_σ160gen_a, n179_σ160gen_a', f3444, f3622, f3625, f3628], by simp [St.frz, St.pur, h179_3, h179_4, h179_5, h179_6, h179_15, h179_16, h179_17, g179_0, g179_1, g179_2, n179_σ160gen_0, n179_σ160gen_0', n179_σ160gen_1, n179_σ160gen_1', n179_σ160gen_2, n179_σ160gen_2', n179_σ160gen_a, n179_σ160gen_a', f3444, f3622, f3625, f3628], by simp [St.frz, St.pur, h179_3, h179_4, h179_5, h179_6, h179_15, h179_16, h179_17, g179_0, g179_1, g179_2, n179_σ160gen_0, n179_σ160gen_0', n179_σ160gen_1, n179_σ160gen_1', n179_σ160gen_2, n179_σ160gen_2', n179_σ160gen_a, n179_σ160gen_a', f3444, f3622, f3625, f3628], by simp [St.frz, St.pur, h179_3, h179_4, h179_5, h179_6, h179_15, h179_16, h179_17, g179_0, g179_1, g179_2, n179_σ160gen_0, n179_σ160gen_0', n179_σ160gen_1, n179_σ160gen_1', n179_σ160gen_2, n179_σ160gen_2', n179_σ160gen_a, n179_σ160gen_a', f3444, f3622, f3625, f3628], by simp [St.frz, St.pur, h179_3, h179_4, h179_5, h179_6, h179_15, h179_16, h179_17, g179_0, g179_1, g179_2, n179_σ160gen_0, n179_σ160gen_0', n179_σ160gen_1, n179_σ160gen_1', n179_σ160gen_2, n179_σ160gen_2', n179_σ160gen_a, n179_σ160gen_a', f3444, f3622, f3625, f3628], by simp [St.frz, St.pur, h179_3, h179_4, h179_5, h179_6, h179_15, h179_16, h179_17, g179_0, g179_1, g179_2, n179_σ160gen_0, n179_σ160gen_0', n179_σ160gen_1, n179_σ160gen_1', n179_σ160gen_2, n179_σ160gen_2', n179_σ160gen_a, n179_σ160gen_a', f3444, f3622, f3625, f3628], by simp [St.frz, St.pur, h179_3, h179_4, h179_5, h179_6, h179_15, h179_16, h179_17, g179_0, g179_1, g179_2, n179_σ160gen_0, n179_σ160gen_0', n179_σ160gen_1, n179_σ160gen_1', n179_σ160gen_2, n179_σ160gen_2', n179_σ160gen_a, n179_σ160gen_a', f3444, f3622, f3625, f3628], by simp [St.frz, St.pur, h179_3, h179_4, h179_5, h179_6, h179_15, h179_16, h179_17, g179_0, g179_1, g179_2, n179_σ160gen_0, n179_σ160gen_0', n179_σ160gen_1, n179_σ160gen_1', n179_σ160gen_2, n179_σ160gen_2', n179_σ160gen_a, n179_σ160gen_a', f3444, f3622, f3625, f3628], by first | (simp; done) | (simp; omega) | omega⟩
              · obtain ⟨e3631, h182_3, h182_4, h182_5, h182_6, h182_7, h182_8, h182_9, h182_10, h182_11, h182_15, h182_16, h182_17, g182_0, g182_1, g182_2, g182_3, g182_4, g182_5, g182_6, g182_7, n182_g⟩ := hp
                obtain rfl := Option.some.inj e3631
                try dsimp only at e3600
                have n182_σ160gen_0 : ¬ (σ181.gen = σ160.gen) := by omega
                have n182_σ160gen_0' : ¬ (σ160.gen = σ181.gen) := by omega
                have n182_σ160gen_1 : ¬ (σ181.gen = σ160.gen + 1) := by omega
                have n182_σ160gen_1' : ¬ (σ160.gen + 1 = σ181.gen) := by omega
                have n182_σ160gen_2 : ¬ (σ181.gen = σ160.gen + 2) := by omega
                have n182_σ160gen_2' : ¬ (σ160.gen + 2 = σ181.gen) := by omega
                have n182_σ160gen_a : ∀ j, ¬ (σ181.gen + j = σ160.gen) := fun j => by omega
                have n182_σ160gen_a' : ∀ j, ¬ (σ160.gen = σ181.gen + j) := fun j => by omega
                have n182_σ180gen_0 : ¬ (σ181.gen = σ180.gen) := by omega
                have n182_σ180gen_0' : ¬ (σ180.gen = σ181.gen) := by omega
                have n182_σ180gen_1 : ¬ (σ181.gen = σ180.gen + 1) := by omega
                have n182_σ180gen_1' : ¬ (σ180.gen + 1 = σ181.gen) := by omega
                have n182_σ180gen_2 : ¬ (σ181.gen = σ180.gen + 2) := by omega
                have n182_σ180gen_2' : ¬ (σ180.gen + 2 = σ181.gen) := by omega
                have n182_σ180gen_3 : ¬ (σ181.gen = σ180.gen + 3) := by omega
                have n182_σ180gen_3' : ¬ (σ180.gen + 3 = σ181.gen) := by omega
                have n182_σ180gen_a : ∀ j, ¬ (σ181.gen + j = σ180.gen) := fun j => by omega
                have n182_σ180gen_a' : ∀ j, ¬ (σ180.gen = σ181.gen + j) := fun j => by omega
                repeat (first | simp [h182_3, h182_4, h182_5, h182_6, h182_7, h182_8, h182_9, h182_10, h182_11, h182_15, h182_16, h182_17, g182_0, g182_1, g182_2, g182_3, g182_4, g182_5, g182_6, g182_7, n182_σ160gen_0, n182_σ160gen_0', n182_σ160gen_1, n182_σ160gen_1', n182_σ160gen_2, n182_σ160gen_2', n182_σ160gen_a, n182_σ160gen_a', n182_σ180gen_0, n182_σ180gen_0', n182_σ180gen_1, n182_σ180gen_1', n182_σ180gen_2, n182_σ180gen_2', n182_σ180gen_3, n182_σ180gen_3', n182_σ180gen_a, n182_σ180gen_a', f3444, f3622, f3625, f3628] | with_reducible refine awp_reg ?_ | with_reducible refine awp_draw ?_ | with_reducible refine ord_l (by kernel_rfl) ?_ | with_reducible refine ord_e (by kernel_rfl) ?_ | with_reducible refine ord_c (by kernel_rfl) ?_ | with_reducible refine ord_d (by kernel_rfl) ?_ | with_reducible refine And.intro (by omega) ?_ | with_reducible refine optF_if (by omega) ?_)
                obtain ⟨y3636, hx3637, e3600⟩ := bindO e3600
                try dsimp only at e3600
                refine callK_at (at_await_spins_1 hx3637) [] (by (first | simp [h182_3, h182_4, h182_5, h182_6, h182_7, h182_8, h182_9, h182_10, h182_11, h182_15, h182_16, h182_17, g182_0, g182_1, g182_2, g182_3, g182_4, g182_5, g182_6, g182_7, n182_σ160gen_0, n182_σ160gen_0', n182_σ160gen_1, n182_σ160gen_1', n182_σ160gen_2, n182_σ160gen_2', n182_σ160gen_a, n182_σ160gen_a', n182_σ180gen_0, n182_σ180gen_0', n182_σ180gen_1, n182_σ180gen_1', n182_σ180gen_2, n182_σ180gen_2', n182_σ180gen_3, n182_σ180gen_3', n182_σ180gen_a, n182_σ180gen_a', f3444, f3622, f3625, f3628] | simp (disch := omega) [h182_3, h182_4, h182_5, h182_6, h182_7, h182_8, h182_9, h182_10, h182_11, h182_15, h182_16, h182_17, g182_0, g182_1, g182_2, g182_3, g182_4, g182_5, g182_6, g182_7, n182_σ160gen_0, n182_σ160gen_0', n182_σ160gen_1, n182_σ160gen_1', n182_σ160gen_2, n182_σ160gen_2', n182_σ160gen_a, n182_σ160gen_a', n182_σ180gen_0, n182_σ180gen_0', n182_σ180gen_1, n182_σ180gen_1', n182_σ180gen_2, n182_σ180gen_2', n182_σ180gen_3, n182_σ180gen_3', n182_σ180gen_a, n182_σ180gen_a', f3444, f3622, f3625, f3628]); try rfl) (by simp) (by simp) (by simp; rfl) (by simp [h182_3, h182_4, h182_5, h182_6, h182_7, h182_8, h182_9, h182_10, h182_11, h182_15, h182_16, h182_17, g182_0, g182_1, g182_2, g182_3, g182_4, g182_5, g182_6, g182_7, n182_σ160gen_0, n182_σ160gen_0', n182_σ160gen_1, n182_σ160gen_1', n182_σ160gen_2, n182_σ160gen_2', n182_σ160gen_a, n182_σ160gen_a', n182_σ180gen_0, n182_σ180gen_0', n182_σ180gen_1, n182_σ180gen_1', n182_σ180gen_2, n182_σ180gen_2', n182_σ180gen_3, n182_σ180gen_3', n182_σ180gen_a, n182_σ180gen_a', f3444, f3622, f3625, f3628]; rfl) ?_
                repeat (first | simp [h182_3, h182_4, h182_5, h182_6, h182_7, h182_8, h182_9, h182_10, h182_11, h182_15, h182_16, h182_17, g182_0, g182_1, g182_2, g182_3, g182_4, g182_5, g182_6, g182_7, n182_σ160gen_0, n182_σ160gen_0', n182_σ160gen_1, n182_σ160gen_1', n182_σ160gen_2, n182_σ160gen_2', n182_σ160gen_a, n182_σ160gen_a', n182_σ180gen_0, n182_σ180gen_0', n182_σ180gen_1, n182_σ180gen_1', n182_σ180gen_2, n182_σ180gen_2', n182_σ180gen_3, n182_σ180gen_3', n182_σ180gen_a, n182_σ180gen_a', f3444, f3622, f3625, f3628] | with_reducible refine awp_reg ?_ | with_reducible refine awp_draw ?_ | with_reducible refine ord_l (by kernel_rfl) ?_ | with_reducible refine ord_e (by kernel_rfl) ?_ | with_reducible refine ord_c (by kernel_rfl) ?_ | with_reducible refine ord_d (by kernel_rfl) ?_ | with_reducible refine And.intro (by omega) ?_ | with_reducible refine optF_if (by omega) ?_ | with_reducible refine gsel_pure (by with_unfolding_all rfl) _ (fun hg => by (try simp at hg); first | (simp [hg, h182_3, h182_4, h182_5, h182_6, h182_7, h182_8, h182_9, h182_10, h182_11, h182_15, h182_16, h182_17, g182_0, g182_1, g182_2, g182_3, g182_4, g182_5, g182_6, g182_7, n182_σ160gen_0, n182_σ160gen_0', n182_σ160gen_1, n182_σ160gen_1', n182_σ160gen_2, n182_σ160gen_2', n182_σ160gen_a, n182_σ160gen_a', n182_σ180gen_0, n182_σ180gen_0', n182_σ180gen_1, n182_σ180gen_1', n182_σ180gen_2, n182_σ180gen_2', n182_σ180gen_3, n182_σ180gen_3', n182_σ180gen_a, n182_σ180gen_a', f3444, f3622, f3625, f3628]; rfl) | (simp [h182_3, h182_4, h182_5, h182_6, h182_7, h182_8, h182_9, h182_10, h182_11, h182_15, h182_16, h182_17, g182_0, g182_1, g182_2, g182_3, g182_4, g182_5, g182_6, g182_7, n182_σ160gen_0, n182_σ160gen_0', n182_σ160gen_1, n182_σ160gen_1', n182_σ160gen_2, n182_σ160gen_2', n182_σ160gen_a, n182_σ160gen_a', n182_σ180gen_0, n182_σ180gen_0', n182_σ180gen_1, n182_σ180gen_1', n182_σ180gen_2, n182_σ180gen_2', n182_σ180gen_3, n182_σ180gen_3', n182_σ180gen_a, n182_σ180gen_a', f3444, f3622, f3625, f3628]; simp only [if_pos hg]; simp [h182_3, h182_4, h182_5, h182_6, h182_7, h182_8, h182_9, h182_10, h182_11, h182_15, h182_16, h182_17, g182_0, g182_1, g182_2, g182_3, g182_4, g182_5, g182_6, g182_7, n182_σ160gen_0, n182_σ160gen_0', n182_σ160gen_1, n182_σ160gen_1', n182_σ160gen_2, n182_σ160gen_2', n182_σ160gen_a, n182_σ160gen_a', n182_σ180gen_0, n182_σ180gen_0', n182_σ180gen_1, n182_σ180gen_1', n182_σ180gen_2, n182_σ180gen_2', n182_σ180gen_3, n182_σ180gen_3', n182_σ180gen_a, n182_σ180gen_a', f3444, f3622, f3625, f3628]; rfl)) ?_ | with_reducible refine dskip_intro ?_ | with_reducible refine dsel_pure (by with_unfolding_all rfl) _ (fun hg => by (try simp at hg); simp [hg, h182_3, h182_4, h182_5, h182_6, h182_7, h182_8, h182_9, h182_10, h182_11, h182_15, h182_16, h182_17, g182_0, g182_1, g182_2, g182_3, g182_4, g182_5, g182_6, g182_7, n182_σ160gen_0, n182_σ160gen_0', n182_σ160gen_1, n182_σ160gen_1', n182_σ160gen_2, n182_σ160gen_2', n182_σ160gen_a, n182_σ160gen_a', n182_σ180gen_0, n182_σ180gen_0', n182_σ180gen_1, n182_σ180gen_1', n182_σ180gen_2, n182_σ180gen_2', n182_σ180gen_3, n182_σ180gen_3', n182_σ180gen_a, n182_σ180gen_a', f3444, f3622, f3625, f3628]; rfl) ?_)
                refine gsel_split (fun h3638 => ?_) (fun h3638 => ?_)
                · replace e3600 := condT h3638 e3600
                  repeat (first | simp [h182_3, h182_4, h182_5, h182_6, h182_7, h182_8, h182_9, h182_10, h182_11, h182_15, h182_16, h182_17, g182_0, g182_1, g182_2, g182_3, g182_4, g182_5, g182_6, g182_7, n182_σ160gen_0, n182_σ160gen_0', n182_σ160gen_1, n182_σ160gen_1', n182_σ160gen_2, n182_σ160gen_2', n182_σ160gen_a, n182_σ160gen_a', n182_σ180gen_0, n182_σ180gen_0', n182_σ180gen_1, n182_σ180gen_1', n182_σ180gen_2, n182_σ180gen_2', n182_σ180gen_3, n182_σ180gen_3', n182_σ180gen_a, n182_σ180gen_a', f3444, f3622, f3625, f3628, h3638] | with_reducible refine awp_reg ?_ | with_reducible refine awp_draw ?_ | with_reducible refine ord_l (by kernel_rfl) ?_ | with_reducible refine ord_e (by kernel_rfl) ?_ | with_reducible refine ord_c (by kernel_rfl) ?_ | with_reducible refine ord_d (by kernel_rfl) ?_ | with_reducible refine And.intro (by omega) ?_ | with_reducible refine optF_if (by omega) ?_ | with_reducible refine gsel_pure (by with_unfolding_all rfl) _ (fun hg => by (try simp at hg); first | (simp [hg, h182_3, h182_4, h182_5, h182_6, h182_7, h182_8, h182_9, h182_10, h182_11, h182_15, h182_16, h182_17, g182_0, g182_1, g182_2, g182_3, g182_4, g182_5, g182_6, g182_7, n182_σ160gen_0, n182_σ160gen_0', n182_σ160gen_1, n182_σ160gen_1', n182_σ160gen_2, n182_σ160gen_2', n182_σ160gen_a, n182_σ160gen_a', n182_σ180gen_0, n182_σ180gen_0', n182_σ180gen_1, n182_σ180gen_1', n182_σ180gen_2, n182_σ180gen_2', n182_σ180gen_3, n182_σ180gen_3', n182_σ180gen_a, n182_σ180gen_a', f3444, f3622, f3625, f3628, h3638]; rfl) | (simp [h182_3, h182_4, h182_5, h182_6, h182_7, h182_8, h182_9, h182_10, h182_11, h182_15, h182_16, h182_17, g182_0, g182_1, g182_2, g182_3, g182_4, g182_5, g182_6, g182_7, n182_σ160gen_0, n182_σ160gen_0', n182_σ160gen_1, n182_σ160gen_1', n182_σ160gen_2, n182_σ160gen_2', n182_σ160gen_a, n182_σ160gen_a', n182_σ180gen_0, n182_σ180gen_0', n182_σ180gen_1, n182_σ180gen_1', n182_σ180gen_2, n182_σ180gen_2', n182_σ180gen_3, n182_σ180gen_3', n182_σ180gen_a, n182_σ180gen_a', f3444, f3622, f3625, f3628, h3638]; simp only [if_pos hg]; simp [h182_3, h182_4, h182_5, h182_6, h182_7, h182_8, h182_9, h182_10, h182_11, h182_15, h182_16, h182_17, g182_0, g182_1, g182_2, g182_3, g182_4, g182_5, g182_6, g182_7, n182_σ160gen_0, n182_σ160gen_0', n182_σ160gen_1, n182_σ160gen_1', n182_σ160gen_2, n182_σ160gen_2', n182_σ160gen_a, n182_σ160gen_a', n182_σ180gen_0, n182_σ180gen_0', n182_σ180gen_1, n182_σ180gen_1', n182_σ180gen_2, n182_σ180gen_2', n182_σ180gen_3, n182_σ180gen_3', n182_σ180gen_a, n182_σ180gen_a', f3444, f3622, f3625, f3628, h3638]; rfl)) ?_ | with_reducible refine dskip_intro ?_ | with_reducible refine dsel_pure (by with_unfolding_all rfl) _ (fun hg => by (try simp at hg); simp [hg, h182_3, h182_4, h182_5, h182_6, h182_7, h182_8, h182_9, h182_10, h182_11, h182_15, h182_16, h182_17, g182_0, g182_1, g182_2, g182_3, g182_4, g182_5, g182_6, g182_7, n182_σ160gen_0, n182_σ160gen_0', n182_σ160gen_1, n182_σ160gen_1', n182_σ160gen_2, n182_σ160gen_2', n182_σ160gen_a, n182_σ160gen_a', n182_σ180gen_0, n182_σ180gen_0', n182_σ180gen_1, n182_σ180gen_1', n182_σ180gen_2, n182_σ180gen_2', n182_σ180gen_3, n182_σ180gen_3', n182_σ180gen_a, n182_σ180gen_a', f3444, f3622, f3625, f3628, h3638]; rfl) ?_)
                  obtain ⟨y3639, hx3640, e3600⟩ := bindO e3600
                  try dsimp only at e3600
                  refine callK_at (at_await_spins_2 hx3640) [] (by (first | simp [h182_3, h182_4, h182_5, h182_6, h182_7, h182_8, h182_9, h182_10, h182_11, h182_15, h182_16, h182_17, g182_0, g182_1, g182_2, g182_3, g182_4, g182_5, g182_6, g182_7, n182_σ160gen_0, n182_σ160gen_0', n182_σ160gen_1, n182_σ160gen_1', n182_σ160gen_2, n182_σ160gen_2', n182_σ160gen_a, n182_σ160gen_a', n182_σ180gen_0, n182_σ180gen_0', n182_σ180gen_1, n182_σ180gen_1', n182_σ180gen_2, n182_σ180gen_2', n182_σ180gen_3, n182_σ180gen_3', n182_σ180gen_a, n182_σ180gen_a', f3444, f3622, f3625, f3628, h3638] | simp (disch := omega) [h182_3, h182_4, h182_5, h182_6, h182_7, h182_8, h182_9, h182_10, h182_11, h182_15, h182_16, h182_17, g182_0, g182_1, g182_2, g182_3, g182_4, g182_5, g182_6, g182_7, n182_σ160gen_0, n182_σ160gen_0', n182_σ160gen_1, n182_σ160gen_1', n182_σ160gen_2, n182_σ160gen_2', n182_σ160gen_a, n182_σ160gen_a', n182_σ180gen_0, n182_σ180gen_0', n182_σ180gen_1, n182_σ180gen_1', n182_σ180gen_2, n182_σ180gen_2', n182_σ180gen_3, n182_σ180gen_3', n182_σ180gen_a, n182_σ180gen_a', f3444, f3622, f3625, f3628, h3638]); try rfl) (by simp) (by simp) (by simp; rfl) (by simp [h182_3, h182_4, h182_5, h182_6, h182_7, h182_8, h182_9, h182_10, h182_11, h182_15, h182_16, h182_17, g182_0, g182_1, g182_2, g182_3, g182_4, g182_5, g182_6, g182_7, n182_σ160gen_0, n182_σ160gen_0', n182_σ160gen_1, n182_σ160gen_1', n182_σ160gen_2, n182_σ160gen_2', n182_σ160gen_a, n182_σ160gen_a', n182_σ180gen_0, n182_σ180gen_0', n182_σ180gen_1, n182_σ180gen_1', n182_σ180gen_2, n182_σ180gen_2', n182_σ180gen_3, n182_σ180gen_3', n182_σ180gen_a, n182_σ180gen_a', f3444, f3622, f3625, f3628, h3638]; rfl) ?_
                  repeat (first | simp [h182_3, h182_4, h182_5, h182_6, h182_7, h182_8, h182_9, h182_10, h182_11, h182_15, h182_16, h182_17, g182_0, g182_1, g182_2, g182_3, g182_4, g182_5, g182_6, g182_7, n182_σ160gen_0, n182_σ160gen_0', n182_σ160gen_1, n182_σ160gen_1', n182_σ160gen_2, n182_σ160gen_2', n182_σ160gen_a, n182_σ160gen_a', n182_σ180gen_0, n182_σ180gen_0', n182_σ180gen_1, n182_σ180gen_1', n182_σ180gen_2, n182_σ180gen_2', n182_σ180gen_3, n182_σ180gen_3', n182_σ180gen_a, n182_σ180gen_a', f3444, f3622, f3625, f3628, h3638] | with_reducible refine awp_reg ?_ | with_reducible refine awp_draw ?_ | with_reducible refine ord_l (by kernel_rfl) ?_ | with_reducible refine ord_e (by kernel_rfl) ?_ | with_reducible refine ord_c (by kernel_rfl) ?_ | with_reducible refine ord_d (by kernel_rfl) ?_ | with_reducible refine And.intro (by omega) ?_ | with_reducible refine optF_if (by omega) ?_ | with_reducible refine gsel_pure (by with_unfolding_all rfl) _ (fun hg => by (try simp at hg); first | (simp [hg, h182_3, h182_4, h182_5, h182_6, h182_7, h182_8, h182_9, h182_10, h182_11, h182_15, h182_16, h182_17, g182_0, g182_1, g182_2, g182_3, g182_4, g182_5, g182_6, g182_7, n182_σ160gen_0, n182_σ160gen_0', n182_σ160gen_1, n182_σ160gen_1', n182_σ160gen_2, n182_σ160gen_2', n182_σ160gen_a, n182_σ160gen_a', n182_σ180gen_0, n182_σ180gen_0', n182_σ180gen_1, n182_σ180gen_1', n182_σ180gen_2, n182_σ180gen_2', n182_σ180gen_3, n182_σ180gen_3', n182_σ180gen_a, n182_σ180gen_a', f3444, f3622, f3625, f3628, h3638]; rfl) | (simp [h182_3, h182_4, h182_5, h182_6, h182_7, h182_8, h182_9, h182_10, h182_11, h182_15, h182_16, h182_17, g182_0, g182_1, g182_2, g182_3, g182_4, g182_5, g182_6, g182_7, n182_σ160gen_0, n182_σ160gen_0', n182_σ160gen_1, n182_σ160gen_1', n182_σ160gen_2, n182_σ160gen_2', n182_σ160gen_a, n182_σ160gen_a', n182_σ180gen_0, n182_σ180gen_0', n182_σ180gen_1, n182_σ180gen_1', n182_σ180gen_2, n182_σ180gen_2', n182_σ180gen_3, n182_σ180gen_3', n182_σ180gen_a, n182_σ180gen_a', f3444, f3622, f3625, f3628, h3638]; simp only [if_pos hg]; simp [h182_3, h182_4, h182_5, h182_6, h182_7, h182_8, h182_9, h182_10, h182_11, h182_15, h182_16, h182_17, g182_0, g182_1, g182_2, g182_3, g182_4, g182_5, g182_6, g182_7, n182_σ160gen_0, n182_σ160gen_0', n182_σ160gen_1, n182_σ160gen_1', n182_σ160gen_2, n182_σ160gen_2', n182_σ160gen_a, n182_σ160gen_a', n182_σ180gen_0, n182_σ180gen_0', n182_σ180gen_1, n182_σ180gen_1', n182_σ180gen_2, n182_σ180gen_2', n182_σ180gen_3, n182_σ180gen_3', n182_σ180gen_a, n182_σ180gen_a', f3444, f3622, f3625, f3628, h3638]; rfl)) ?_ | with_reducible refine dskip_intro ?_ | with_reducible refine dsel_pure (by with_unfolding_all rfl) _ (fun hg => by (try simp at hg); simp [hg, h182_3, h182_4, h182_5, h182_6, h182_7, h182_8, h182_9, h182_10, h182_11, h182_15, h182_16, h182_17, g182_0, g182_1, g182_2, g182_3, g182_4, g182_5, g182_6, g182_7, n182_σ160gen_0, n182_σ160gen_0', n182_σ160gen_1, n182_σ160gen_1', n182_σ160gen_2, n182_σ160gen_2', n182_σ160gen_a, n182_σ160gen_a', n182_σ180gen_0, n182_σ180gen_0', n182_σ180gen_1, n182_σ180gen_1', n182_σ180gen_2, n182_σ180gen_2', n182_σ180gen_3, n182_σ180gen_3', n182_σ180gen_a, n182_σ180gen_a', f3444, f3622, f3625, f3628, h3638]; rfl) ?_)
                  obtain ⟨g3641, e3600⟩ := guardO_some e3600
                  refine gsel_call (fun hg => at_await_targeted (under_call g3641 hg)) (fun hg => by (try simp at hg); (first | simp [hg, h182_3, h182_4, h182_5, h182_6, h182_7, h182_8, h182_9, h182_10, h182_11, h182_15, h182_16, h182_17, g182_0, g182_1, g182_2, g182_3, g182_4, g182_5, g182_6, g182_7, n182_σ160gen_0, n182_σ160gen_0', n182_σ160gen_1, n182_σ160gen_1', n182_σ160gen_2, n182_σ160gen_2', n182_σ160gen_a, n182_σ160gen_a', n182_σ180gen_0, n182_σ180gen_0', n182_σ180gen_1, n182_σ180gen_1', n182_σ180gen_2, n182_σ180gen_2', n182_σ180gen_3, n182_σ180gen_3', n182_σ180gen_a, n182_σ180gen_a', f3444, f3622, f3625, f3628, h3638]); try rfl) (fun hg => by (try simp at hg); simp [hg, h182_3, h182_4, h182_5, h182_6, h182_7, h182_8, h182_9, h182_10, h182_11, h182_15, h182_16, h182_17, g182_0, g182_1, g182_2, g182_3, g182_4, g182_5, g182_6, g182_7, n182_σ160gen_0, n182_σ160gen_0', n182_σ160gen_1, n182_σ160gen_1', n182_σ160gen_2, n182_σ160gen_2', n182_σ160gen_a, n182_σ160gen_a', n182_σ180gen_0, n182_σ180gen_0', n182_σ180gen_1, n182_σ180gen_1', n182_σ180gen_2, n182_σ180gen_2', n182_σ180gen_3, n182_σ180gen_3', n182_σ180gen_a, n182_σ180gen_a', f3444, f3622, f3625, f3628, h3638]) (by simp) ?_
                  repeat (first | simp [h182_3, h182_4, h182_5, h182_6, h182_7, h182_8, h182_9, h182_10, h182_11, h182_15, h182_16, h182_17, g182_0, g182_1, g182_2, g182_3, g182_4, g182_5, g182_6, g182_7, n182_σ160gen_0, n182_σ160gen_0', n182_σ160gen_1, n182_σ160gen_1', n182_σ160gen_2, n182_σ160gen_2', n182_σ160gen_a, n182_σ160gen_a', n182_σ180gen_0, n182_σ180gen_0', n182_σ180gen_1, n182_σ180gen_1', n182_σ180gen_2, n182_σ180gen_2', n182_σ180gen_3, n182_σ180gen_3', n182_σ180gen_a, n182_σ180gen_a', f3444, f3622, f3625, f3628, h3638] | with_reducible refine awp_reg ?_ | with_reducible refine awp_draw ?_ | with_reducible refine ord_l (by kernel_rfl) ?_ | with_reducible refine ord_e (by kernel_rfl) ?_ | with_reducible refine ord_c (by kernel_rfl) ?_ | with_reducible refine ord_d (by kernel_rfl) ?_ | with_reducible refine And.intro (by omega) ?_ | with_reducible refine optF_if (by omega) ?_ | with_reducible refine gsel_pure (by with_unfolding_all rfl) _ (fun hg => by (try simp at hg); first | (simp [hg, h182_3, h182_4, h182_5, h182_6, h182_7, h182_8, h182_9, h182_10, h182_11, h182_15, h182_16, h182_17, g182_0, g182_1, g182_2, g182_3, g182_4, g182_5, g182_6, g182_7, n182_σ160gen_0, n182_σ160gen_0', n182_σ160gen_1, n182_σ160gen_1', n182_σ160gen_2, n182_σ160gen_2', n182_σ160gen_a, n182_σ160gen_a', n182_σ180gen_0, n182_σ180gen_0', n182_σ180gen_1, n182_σ180gen_1', n182_σ180gen_2, n182_σ180gen_2', n182_σ180gen_3, n182_σ180gen_3', n182_σ180gen_a, n182_σ180gen_a', f3444, f3622, f3625, f3628, h3638]; rfl) | (simp [h182_3, h182_4, h182_5, h182_6, h182_7, h182_8, h182_9, h182_10, h182_11, h182_15, h182_16, h182_17, g182_0, g182_1, g182_2, g182_3, g182_4, g182_5, g182_6, g182_7, n182_σ160gen_0, n182_σ160gen_0', n182_σ160gen_1, n182_σ160gen_1', n182_σ160gen_2, n182_σ160gen_2', n182_σ160gen_a, n182_σ160gen_a', n182_σ180gen_0, n182_σ180gen_0', n182_σ180gen_1, n182_σ180gen_1', n182_σ180gen_2, n182_σ180gen_2', n182_σ180gen_3, n182_σ180gen_3', n182_σ180gen_a, n182_σ180gen_a', f3444, f3622, f3625, f3628, h3638]; simp only [if_pos hg]; simp [h182_3, h182_4, h182_5, h182_6, h182_7, h182_8, h182_9, h182_10, h182_11, h182_15, h182_16, h182_17, g182_0, g182_1, g182_2, g182_3, g182_4, g182_5, g182_6, g182_7, n182_σ160gen_0, n182_σ160gen_0', n182_σ160gen_1, n182_σ160gen_1', n182_σ160gen_2, n182_σ160gen_2', n182_σ160gen_a, n182_σ160gen_a', n182_σ180gen_0, n182_σ180gen_0', n182_σ180gen_1, n182_σ180gen_1', n182_σ180gen_2, n182_σ180gen_2', n182_σ180gen_3, n182_σ180gen_3', n182_σ180gen_a, n182_σ180gen_a', f3444, f3622, f3625, f3628, h3638]; rfl)) ?_ | with_reducible refine dskip_intro ?_ | with_reducible refine dsel_pure (by with_unfolding_all rfl) _ (fun hg => by (try simp at hg); simp [hg, h182_3, h182_4, h182_5, h182_6, h182_7, h182_8, h182_9, h182_10, h182_11, h182_15, h182_16, h182_17, g182_0, g182_1, g182_2, g182_3, g182_4, g182_5, g182_6, g182_7, n182_σ160gen_0, n182_σ160gen_0', n182_σ160gen_1, n182_σ160gen_1', n182_σ160gen_2, n182_σ160gen_2', n182_σ160gen_a, n182_σ160gen_a', n182_σ180gen_0, n182_σ180gen_0', n182_σ180gen_1, n182_σ180gen_1', n182_σ180gen_2, n182_σ180gen_2', n182_σ180gen_3, n182_σ180gen_3', n182_σ180gen_a, n182_σ180gen_a', f3444, f3622, f3625, f3628, h3638]; rfl) ?_)
                  obtain ⟨g3642, e3600⟩ := guardO_some e3600
                  refine gsel_call (fun hg => at_await_targeted (under_call g3642 hg)) (fun hg => by (try simp at hg); (first | simp [hg, h182_3, h182_4, h182_5, h182_6, h182_7, h182_8, h182_9, h182_10, h182_11, h182_15, h182_16, h182_17, g182_0, g182_1, g182_2, g182_3, g182_4, g182_5, g182_6, g182_7, n182_σ160gen_0, n182_σ160gen_0', n182_σ160gen_1, n182_σ160gen_1', n182_σ160gen_2, n182_σ160gen_2', n182_σ160gen_a, n182_σ160gen_a', n182_σ180gen_0, n182_σ180gen_0', n182_σ180gen_1, n182_σ180gen_1', n182_σ180gen_2, n182_σ180gen_2', n182_σ180gen_3, n182_σ180gen_3', n182_σ180gen_a, n182_σ180gen_a', f3444, f3622, f3625, f3628, h3638]); try rfl) (fun hg => by (try simp at hg); simp [hg, h182_3, h182_4, h182_5, h182_6, h182_7, h182_8, h182_9, h182_10, h182_11, h182_15, h182_16, h182_17, g182_0, g182_1, g182_2, g182_3, g182_4, g182_5, g182_6, g182_7, n182_σ160gen_0, n182_σ160gen_0', n182_σ160gen_1, n182_σ160gen_1', n182_σ160gen_2, n182_σ160gen_2', n182_σ160gen_a, n182_σ160gen_a', n182_σ180gen_0, n182_σ180gen_0', n182_σ180gen_1, n182_σ180gen_1', n182_σ180gen_2, n182_σ180gen_2', n182_σ180gen_3, n182_σ180gen_3', n182_σ180gen_a, n182_σ180gen_a', f3444, f3622, f3625, f3628, h3638]) (by simp) ?_
                  repeat (first | simp [h182_3, h182_4, h182_5, h182_6, h182_7, h182_8, h182_9, h182_10, h182_11, h182_15, h182_16, h182_17, g182_0, g182_1, g182_2, g182_3, g182_4, g182_5, g182_6, g182_7, n182_σ160gen_0, n182_σ160gen_0', n182_σ160gen_1, n182_σ160gen_1', n182_σ160gen_2, n182_σ160gen_2', n182_σ160gen_a, n182_σ160gen_a', n182_σ180gen_0, n182_σ180gen_0', n182_σ180gen_1, n182_σ180gen_1', n182_σ180gen_2, n182_σ180gen_2', n182_σ180gen_3, n182_σ180gen_3', n182_σ180gen_a, n182_σ180gen_a', f3444, f3622, f3625, f3628, h3638] | with_reducible refine awp_reg ?_ | with_reducible refine awp_draw ?_ | with_reducible refine ord_l (by kernel_rfl) ?_ | with_reducible refine ord_e (by kernel_rfl) ?_ | with_reducible refine ord_c (by kernel_rfl) ?_ | with_reducible refine ord_d (by kernel_rfl) ?_ | with_reducible refine And.intro (by omega) ?_ | with_reducible refine optF_if (by omega) ?_ | with_reducible refine gsel_pure (by with_unfolding_all rfl) _ (fun hg => by (try simp at hg); first | (simp [hg, h182_3, h182_4, h182_5, h182_6, h182_7, h182_8, h182_9, h182_10, h182_11, h182_15, h182_16, h182_17, g182_0, g182_1, g182_2, g182_3, g182_4, g182_5, g182_6, g182_7, n182_σ160gen_0, n182_σ160gen_0', n182_σ160gen_1, n182_σ160gen_1', n182_σ160gen_2, n182_σ160gen_2', n182_σ160gen_a, n182_σ160gen_a', n182_σ180gen_0, n182_σ180gen_0', n182_σ180gen_1, n182_σ180gen_1', n182_σ180gen_2, n182_σ180gen_2', n182_σ180gen_3, n182_σ180gen_3', n182_σ180gen_a, n182_σ180gen_a', f3444, f3622, f3625, f3628, h3638]; rfl) | (simp [h182_3, h182_4, h182_5, h182_6, h182_7, h182_8, h182_9, h182_10, h182_11, h182_15, h182_16, h182_17, g182_0, g182_1, g182_2, g182_3, g182_4, g182_5, g182_6, g182_7, n182_σ160gen_0, n182_σ160gen_0', n182_σ160gen_1, n182_σ160gen_1', n182_σ160gen_2, n182_σ160gen_2', n182_σ160gen_a, n182_σ160gen_a', n182_σ180gen_0, n182_σ180gen_0', n182_σ180gen_1, n182_σ180gen_1', n182_σ180gen_2, n182_σ180gen_2', n182_σ180gen_3, n182_σ180gen_3', n182_σ180gen_a, n182_σ180gen_a', f3444, f3622, f3625, f3628, h3638]; simp only [if_pos hg]; simp [h182_3, h182_4, h182_5, h182_6, h182_7, h182_8, h182_9, h182_10, h182_11, h182_15, h182_16, h182_17, g182_0, g182_1, g182_2, g182_3, g182_4, g182_5, g182_6, g182_7, n182_σ160gen_0, n182_σ160gen_0', n182_σ160gen_1, n182_σ160gen_1', n182_σ160gen_2, n182_σ160gen_2', n182_σ160gen_a, n182_σ160gen_a', n182_σ180gen_0, n182_σ180gen_0', n182_σ180gen_1, n182_σ180gen_1', n182_σ180gen_2, n182_σ180gen_2', n182_σ180gen_3, n182_σ180gen_3', n182_σ180gen_a, n182_σ180gen_a', f3444, f3622, f3625, f3628, h3638]; rfl)) ?_ | with_reducible refine dskip_intro ?_ | with_reducible refine dsel_pure (by with_unfolding_all rfl) _ (fun hg => by (try simp at hg); simp [hg, h182_3, h182_4, h182_5, h182_6, h182_7, h182_8, h182_9, h182_10, h182_11, h182_15, h182_16, h182_17, g182_0, g182_1, g182_2, g182_3, g182_4, g182_5, g182_6, g182_7, n182_σ160gen_0, n182_σ160gen_0', n182_σ160gen_1, n182_σ160gen_1', n182_σ160gen_2, n182_σ160gen_2', n182_σ160gen_a, n182_σ160gen_a', n182_σ180gen_0, n182_σ180gen_0', n182_σ180gen_1, n182_σ180gen_1', n182_σ180gen_2, n182_σ180gen_2', n182_σ180gen_3, n182_σ180gen_3', n182_σ180gen_a, n182_σ180gen_a', f3444, f3622, f3625, f3628, h3638]; rfl) ?_)
                  refine condK_spec (orB (orB (!y3639) ((await_targeted x3442 (IntKind.i64.wrap (i3548 + 1))).getD default)) ((await_targeted x3442 (IntKind.i64.wrap (i3548 + 2))).getD default)) (by first | rfl | (simp [h182_3, h182_4, h182_5, h182_6, h182_7, h182_8, h182_9, h182_10, h182_11, h182_15, h182_16, h182_17, g182_0, g182_1, g182_2, g182_3, g182_4, g182_5, g182_6, g182_7, n182_σ160gen_0, n182_σ160gen_0', n182_σ160gen_1, n182_σ160gen_1', n182_σ160gen_2, n182_σ160gen_2', n182_σ160gen_a, n182_σ160gen_a', n182_σ180gen_0, n182_σ180gen_0', n182_σ180gen_1, n182_σ180gen_1', n182_σ180gen_2, n182_σ180gen_2', n182_σ180gen_3, n182_σ180gen_3', n182_σ180gen_a, n182_σ180gen_a', f3444, f3622, f3625, f3628, h3638]; done) | (simp [andB, orB, eqI, ltI, Int.natCast_inj, h182_3, h182_4, h182_5, h182_6, h182_7, h182_8, h182_9, h182_10, h182_11, h182_15, h182_16, h182_17, g182_0, g182_1, g182_2, g182_3, g182_4, g182_5, g182_6, g182_7, n182_σ160gen_0, n182_σ160gen_0', n182_σ160gen_1, n182_σ160gen_1', n182_σ160gen_2, n182_σ160gen_2', n182_σ160gen_a, n182_σ160gen_a', n182_σ180gen_0, n182_σ180gen_0', n182_σ180gen_1, n182_σ180gen_1', n182_σ180gen_2, n182_σ180gen_2', n182_σ180gen_3, n182_σ180gen_3', n182_σ180gen_a, n182_σ180gen_a', f3444, f3622, f3625, f3628, h3638]; done)) (fun h3643 => ?_) (fun h3643 => ?_)
                  · replace e3600 := condT h3643 e3600
                    repeat (first | simp [h182_3, h182_4, h182_5, h182_6, h182_7, h182_8, h182_9, h182_10, h182_11, h182_15, h182_16, h182_17, g182_0, g182_1, g182_2, g182_3, g182_4, g182_5, g182_6, g182_7, n182_σ160gen_0, n182_σ160gen_0', n182_σ160gen_1, n182_σ160gen_1', n182_σ160gen_2, n182_σ160gen_2', n182_σ160gen_a, n182_σ160gen_a', n182_σ180gen_0, n182_σ180gen_0', n182_σ180gen_1, n182_σ180gen_1', n182_σ180gen_2, n182_σ180gen_2', n182_σ180gen_3, n182_σ180gen_3', n182_σ180gen_a, n182_σ180gen_a', f3444, f3622, f3625, f3628, h3638] | with_reducible refine awp_reg ?_ | with_reducible refine awp_draw ?_ | with_reducible refine ord_l (by kernel_rfl) ?_ | with_reducible refine ord_e (by kernel_rfl) ?_ | with_reducible refine ord_c (by kernel_rfl) ?_ | with_reducible refine ord_d (by kernel_rfl) ?_ | with_reducible refine And.intro (by omega) ?_ | with_reducible refine optF_if (by omega) ?_ | with_reducible refine gsel_pure (by with_unfolding_all rfl) _ (fun hg => by (try simp at hg); first | (simp [hg, h182_3, h182_4, h182_5, h182_6, h182_7, h182_8, h182_9, h182_10, h182_11, h182_15, h182_16, h182_17, g182_0, g182_1, g182_2, g182_3, g182_4, g182_5, g182_6, g182_7, n182_σ160gen_0, n182_σ160gen_0', n182_σ160gen_1, n182_σ160gen_1', n182_σ160gen_2, n182_σ160gen_2', n182_σ160gen_a, n182_σ160gen_a', n182_σ180gen_0, n182_σ180gen_0', n182_σ180gen_1, n182_σ180gen_1', n182_σ180gen_2, n182_σ180gen_2', n182_σ180gen_3, n182_σ180gen_3', n182_σ180gen_a, n182_σ180gen_a', f3444, f3622, f3625, f3628, h3638]; rfl) | (simp [h182_3, h182_4, h182_5, h182_6, h182_7, h182_8, h182_9, h182_10, h182_11, h182_15, h182_16, h182_17, g182_0, g182_1, g182_2, g182_3, g182_4, g182_5, g182_6, g182_7, n182_σ160gen_0, n182_σ160gen_0', n182_σ160gen_1, n182_σ160gen_1', n182_σ160gen_2, n182_σ160gen_2', n182_σ160gen_a, n182_σ160gen_a', n182_σ180gen_0, n182_σ180gen_0', n182_σ180gen_1, n182_σ180gen_1', n182_σ180gen_2, n182_σ180gen_2', n182_σ180gen_3, n182_σ180gen_3', n182_σ180gen_a, n182_σ180gen_a', f3444, f3622, f3625, f3628, h3638]; simp only [if_pos hg]; simp [h182_3, h182_4, h182_5, h182_6, h182_7, h182_8, h182_9, h182_10, h182_11, h182_15, h182_16, h182_17, g182_0, g182_1, g182_2, g182_3, g182_4, g182_5, g182_6, g182_7, n182_σ160gen_0, n182_σ160gen_0', n182_σ160gen_1, n182_σ160gen_1', n182_σ160gen_2, n182_σ160gen_2', n182_σ160gen_a, n182_σ160gen_a', n182_σ180gen_0, n182_σ180gen_0', n182_σ180gen_1, n182_σ180gen_1', n182_σ180gen_2, n182_σ180gen_2', n182_σ180gen_3, n182_σ180gen_3', n182_σ180gen_a, n182_σ180gen_a', f3444, f3622, f3625, f3628, h3638]; rfl)) ?_ | with_reducible refine dskip_intro ?_ | with_reducible refine dsel_pure (by with_unfolding_all rfl) _ (fun hg => by (try simp at hg); simp [hg, h182_3, h182_4, h182_5, h182_6, h182_7, h182_8, h182_9, h182_10, h182_11, h182_15, h182_16, h182_17, g182_0, g182_1, g182_2, g182_3, g182_4, g182_5, g182_6, g182_7, n182_σ160gen_0, n182_σ160gen_0', n182_σ160gen_1, n182_σ160gen_1', n182_σ160gen_2, n182_σ160gen_2', n182_σ160gen_a, n182_σ160gen_a', n182_σ180gen_0, n182_σ180gen_0', n182_σ180gen_1, n182_σ180gen_1', n182_σ180gen_2, n182_σ180gen_2', n182_σ180gen_3, n182_σ180gen_3', n182_σ180gen_a, n182_σ180gen_a', f3444, f3622, f3625, f3628, h3638]; rfl) ?_)
                    exact hL3603 (q3606, l3547, IntKind.i64.wrap (i3548 + 1)) _ _ (Gh.ren _ (.o (σ181.gen + 5) 0 0) (.l 237) (by simp) rfl rfl) ⟨e3600, by simp [St.frz, St.pur, h182_3, h182_4, h182_5, h182_6, h182_7, h182_8, h182_9, h182_10, h182_11, h182_15, h182_16, h182_17, g182_0, g182_1, g182_2, g182_3, g182_4, g182_5, g182_6, g182_7, n182_σ160gen_0, n182_σ160gen_0', n182_σ160gen_1, n182_σ160gen_1', n182_σ160gen_2, n182_σ160gen_2', n182_σ160gen_a, n182_σ160gen_a', n182_σ180gen_0, n182_σ180gen_0', n182_σ180gen_1, n182_σ180gen_1', n182_σ180gen_2, n182_σ180gen_2', n182_σ180gen_3, n182_σ180gen_3', n182_σ180gen_a, n182_σ180gen_a', f3444, f3622, f3625, f3628, h3638], by simp [St.frz, St.pur, h182_3, h182_4, h182_5, h182_6, h182_7, h182_8, h182_9, h182_10, h182_11, h182_15, h182_16, h182_17, g182_0, g182_1, g182_2, g182_3, g182_4, g182_5, g182_6, g182_7, n182_σ160gen_0, n182_σ160gen_0', n182_σ160gen_1, n182_σ160gen_1', n182_σ160gen_2, n182_σ160gen_2', n182_σ160gen_a, n182_σ160gen_a', n182_σ180gen_0, n182_σ180gen_0', n182_σ180gen_1, n182_σ180gen_1', n182_σ180gen_2, n182_σ180gen_2', n182_σ180gen_3, n182_σ180gen_3', n182_σ180gen_a, n182_σ180gen_a', f3444, f3622, f3625, f3628, h3638], by simp [St.frz, St.pur, h182_3, h182_4, h182_5, h182_6, h182_7, h182_8, h182_9, h182_10, h182_11, h182_15, h182_16, h182_17, g182_0, g182_1, g182_2, g182_3, g182_4, g182_5, g182_6, g182_7, n182_σ160gen_0, n182_σ160gen_0', n182_σ160gen_1, n182_σ160gen_1', n182_σ160gen_2, n182_σ160gen_2', n182_σ160gen_a, n182_σ160gen_a', n182_σ180gen_0, n182_σ180gen_0', n182_σ180gen_1, n182_σ180gen_1', n182_σ180gen_2, n182_σ180gen_2', n182_σ180gen_3, n182_σ180gen_3', n182_σ180gen_a, n182_σ180gen_a', f3444, f3622, f3625, f3628, h3638], by simp [St.frz, St.pur, h182_3, h182_4, h182_5, h182_6, h182_7, h182_8, h182_9, h182_10, h182_11, h182_15, h182_16, h182_17, g182_0, g182_1, g182_2, g182_3, g182_4, g182_5, g182_6, g182_7, n182_σ160gen_0, n182_σ160gen_0', n182_σ160gen_1, n182_σ160gen_1', n182_σ160gen_2, n182_σ160gen_2', n182_σ160gen_a, n182_σ160gen_a', n182_σ180gen_0, n182_σ180gen_0', n182_σ180gen_1, n182_σ180gen_1', n182_σ180gen_2, n182_σ180gen_2', n182_σ180gen_3, n182_σ180gen_3', n182_σ180gen_a, n182_σ180gen_a', f3444, f3622, f3625, f3628, h3638], by simp [St.frz, St.pur, h182_3, h182_4, h182_5, h182_6, h182_7, h182_8, h182_9, h182_10, h182_11, h182_15, h182_16, h182_17, g182_0, g182_1, g182_2, g182_3, g182_4, g182_5, g182_6, g182_7, n182_σ160gen_0, n182_σ160gen_0', n182_σ160gen_1, n182_σ160gen_1', n182_σ160gen_2, n182_σ160gen_2', n182_σ160gen_a, n182_σ160gen_a', n182_σ180gen_0, n182_σ180gen_0', n182_σ180gen_1, n182_σ180gen_1', n182_σ180gen_2, n182_σ180gen_2', n182_σ180gen_3, n182_σ180gen_3', n182_σ180gen_a, n182_σ180gen_a', f3444, f3622, f3625, f3628, h3638], by simp [St.frz, St.pur, h182_3, h182_4, h182_5, h182_6, h182_7, h182_8, h182_9, h182_10, h182_11, h182_15, h182_16, h182_17, g182_0, g182_1, g182_2, g182_3, g182_4, g182_5, g182_6, g182_7, n182_σ160gen_0, n182_σ160gen_0', n182_σ160gen_1, n182_σ160gen_1', n182_σ160gen_2, n182_σ160gen_2', n182_σ160gen_a, n182_σ160gen_a', n182_σ180gen_0, n182_σ180gen_0', n182_σ180gen_1, n182_σ180gen_1', n182_σ180gen_2, n182_σ180gen_2', n182_σ180gen_3, n182_σ180gen_3', n182_σ180gen_a, n182_σ180gen_a', f3444, f3622, f3625, f3628, h3638], by simp [St.frz, St.pur, h182_3, h182_4, h182_5, h182_6, h182_7, h182_8, h182_9, h182_10, h182_11, h182_15, h182_16, h182_17, g182_0, g182_1, g182_2, g182_3, g182_4, g182_5, g182_6, g182_7, n182_σ160gen_0, n182_σ160gen_0', n182_σ160gen_1, n182_σ160gen_1', n182_σ160gen_2, n182_σ160gen_2', n182_σ160gen_a, n182_σ160gen_a', n182_σ180gen_0, n182_σ180gen_0', n182_σ180gen_1, n182_σ180gen_1', n182_σ180gen_2, n182_σ180gen_2', n182_σ180gen_3, n182_σ180gen_3', n182_σ180gen_a, n182_σ180gen_a', f3444, f3622, f3625, f3628, h3638], by simp [St.frz, St.pur, h182_3, h182_4, h182_5, h182_6, h182_7, h182_8, h182_9, h182_10, h182_11, h182_15, h182_16, h182_17, g182_0, g182_1, g182_2, g182_3, g182_4, g182_5, g182_6, g182_7, n182_σ160gen_0, n182_σ160gen_0', n182_σ160gen_1, n182_σ160gen_1', n182_σ160gen_2, n182_σ160gen_2', n182_σ160gen_a, n182_σ160gen_a', n182_σ180gen_0, n182_σ180gen_0', n182_σ180gen_1, n182_σ180gen_1', n182_σ180gen_2, n182_σ180gen_2', n182_σ180gen_3, n182_σ180gen_3', n182_σ180gen_a, n182_σ180gen_a', f3444, f3622, f3625, f3628, h3638], by simp [St.frz, St.pur, h182_3, h182_4, h182_5, h182_6, h182_7, h182_8, h182_9, h182_10, h182_11, h182_15, h182_16, h182_17, g182_0, g182_1, g182_2, g182_3, g182_4, g182_5, g182_6, g182_7, n182_σ160gen_0, n182_σ160gen_0', n182_σ160gen_1, n182_σ160gen_1', n182_σ160gen_2, n182_σ160gen_2', n182_σ160gen_a, n182_σ160gen_a', n182_σ180gen_0, n182_σ180gen_0', n182_σ180gen_1, n182_σ180gen_1', n182_σ180gen_2, n182_σ180gen_2', n182_σ180gen_3, n182_σ180gen_3', n182_σ180gen_a, n182_σ180gen_a', f3444, f3622, f3625, f3628, h3638], by simp [St.frz, St.pur, h182_3, h182_4, h182_5, h182_6, h182_7, h182_8, h182_9, h182_10, h182_11, h182_15, h182_16, h182_17, g182_0, g182_1, g182_2, g182_3, g182_4, g182_5, g182_6, g182_7, n182_σ160gen_0, n182_σ160gen_0', n182_σ160gen_1, n182_σ160gen_1', n182_σ160gen_2, n182_σ160gen_2', n182_σ160gen_a, n182_σ160gen_a', n182_σ180gen_0, n182_σ180gen_0', n182_σ180gen_1, n182_σ180gen_1', n182_σ180gen_2, n182_σ180gen_2', n182_σ180gen_3, n182_σ180gen_3', n182_σ180gen_a, n182_σ180gen_a', f3444, f3622, f3625, f3628, h3638], by first | (simp; done) | (simp; omega) | omega⟩ (by omega)
                  · replace e3600 := condF h3643 e3600
                    repeat (first | simp [h182_3, h182_4, h182_5, h182_6, h182_7, h182_8, h182_9, h182_10, h182_11, h182_15, h182_16, h182_17, g182_0, g182_1, g182_2, g182_3, g182_4, g182_5, g182_6, g182_7, n182_σ160gen_0, n182_σ160gen_0', n182_σ160gen_1, n182_σ160gen_1', n182_σ160gen_2, n182_σ160gen_2', n182_σ160gen_a, n182_σ160gen_a', n182_σ180gen_0, n182_σ180gen_0', n182_σ180gen_1, n182_σ180gen_1', n182_σ180gen_2, n182_σ180gen_2', n182_σ180gen_3, n182_σ180gen_3', n182_σ180gen_a, n182_σ180gen_a', f3444, f3622, f3625, f3628, h3638] | with_reducible refine awp_reg ?_ | with_reducible refine awp_draw ?_ | with_reducible refine ord_l (by kernel_rfl) ?_ | with_reducible refine ord_e (by kernel_rfl) ?_ | with_reducible refine ord_c (by kernel_rfl) ?_ | with_reducible refine ord_d (by kernel_rfl) ?_ | with_reducible refine And.intro (by omega) ?_ | with_reducible refine optF_if (by omega) ?_ | with_reducible refine gsel_pure (by with_unfolding_all rfl) _ (fun hg => by (try simp at hg); first | (simp [hg, h182_3, h182_4, h182_5, h182_6, h182_7, h182_8, h182_9, h182_10, h182_11, h182_15, h182_16, h182_17, g182_0, g182_1, g182_2, g182_3, g182_4, g182_5, g182_6, g182_7, n182_σ160gen_0, n182_σ160gen_0', n182_σ160gen_1, n182_σ160gen_1', n182_σ160gen_2, n182_σ160gen_2', n182_σ160gen_a, n182_σ160gen_a', n182_σ180gen_0, n182_σ180gen_0', n182_σ180gen_1, n182_σ180gen_1', n182_σ180gen_2, n182_σ180gen_2', n182_σ180gen_3, n182_σ180gen_3', n182_σ180gen_a, n182_σ180gen_a', f3444, f3622, f3625, f3628, h3638]; rfl) | (simp [h182_3, h182_4, h182_5, h182_6, h182_7, h182_8, h182_9, h182_10, h182_11, h182_15, h182_16, h182_17, g182_0, g182_1, g182_2, g182_3, g182_4, g182_5, g182_6, g182_7, n182_σ160gen_0, n182_σ160gen_0', n182_σ160gen_1, n182_σ160gen_1', n182_σ160gen_2, n182_σ160gen_2', n182_σ160gen_a, n182_σ160gen_a', n182_σ180gen_0, n182_σ180gen_0', n182_σ180gen_1, n182_σ180gen_1', n182_σ180gen_2, n182_σ180gen_2', n182_σ180gen_3, n182_σ180gen_3', n182_σ180gen_a, n182_σ180gen_a', f3444, f3622, f3625, f3628, h3638]; simp only [if_pos hg]; simp [h182_3, h182_4, h182_5, h182_6, h182_7, h182_8, h182_9, h182_10, h182_11, h182_15, h182_16, h182_17, g182_0, g182_1, g182_2, g182_3, g182_4, g182_5, g182_6, g182_7, n182_σ160gen_0, n182_σ160gen_0', n182_σ160gen_1, n182_σ160gen_1', n182_σ160gen_2, n182_σ160gen_2', n182_σ160gen_a, n182_σ160gen_a', n182_σ180gen_0, n182_σ180gen_0', n182_σ180gen_1, n182_σ180gen_1', n182_σ180gen_2, n182_σ180gen_2', n182_σ180gen_3, n182_σ180gen_3', n182_σ180gen_a, n182_σ180gen_a', f3444, f3622, f3625, f3628, h3638]; rfl)) ?_ | with_reducible refine dskip_intro ?_ | with_reducible refine dsel_pure (by with_unfolding_all rfl) _ (fun hg => by (try simp at hg); simp [hg, h182_3, h182_4, h182_5, h182_6, h182_7, h182_8, h182_9, h182_10, h182_11, h182_15, h182_16, h182_17, g182_0, g182_1, g182_2, g182_3, g182_4, g182_5, g182_6, g182_7, n182_σ160gen_0, n182_σ160gen_0', n182_σ160gen_1, n182_σ160gen_1', n182_σ160gen_2, n182_σ160gen_2', n182_σ160gen_a, n182_σ160gen_a', n182_σ180gen_0, n182_σ180gen_0', n182_σ180gen_1, n182_σ180gen_1', n182_σ180gen_2, n182_σ180gen_2', n182_σ180gen_3, n182_σ180gen_3', n182_σ180gen_a, n182_σ180gen_a', f3444, f3622, f3625, f3628, h3638]; rfl) ?_)
                    obtain ⟨y3651, hx3652, e3600⟩ := bindO e3600
                    try dsimp only at e3600
                    refine callK_pure (at_await_condition hx3652) (by (first | simp [h182_3, h182_4, h182_5, h182_6, h182_7, h182_8, h182_9, h182_10, h182_11, h182_15, h182_16, h182_17, g182_0, g182_1, g182_2, g182_3, g182_4, g182_5, g182_6, g182_7, n182_σ160gen_0, n182_σ160gen_0', n182_σ160gen_1, n182_σ160gen_1', n182_σ160gen_2, n182_σ160gen_2', n182_σ160gen_a, n182_σ160gen_a', n182_σ180gen_0, n182_σ180gen_0', n182_σ180gen_1, n182_σ180gen_1', n182_σ180gen_2, n182_σ180gen_2', n182_σ180gen_3, n182_σ180gen_3', n182_σ180gen_a, n182_σ180gen_a', f3444, f3622, f3625, f3628, h3638] | simp (disch := omega) [h182_3, h182_4, h182_5, h182_6, h182_7, h182_8, h182_9, h182_10, h182_11, h182_15, h182_16, h182_17, g182_0, g182_1, g182_2, g182_3, g182_4, g182_5, g182_6, g182_7, n182_σ160gen_0, n182_σ160gen_0', n182_σ160gen_1, n182_σ160gen_1', n182_σ160gen_2, n182_σ160gen_2', n182_σ160gen_a, n182_σ160gen_a', n182_σ180gen_0, n182_σ180gen_0', n182_σ180gen_1, n182_σ180gen_1', n182_σ180gen_2, n182_σ180gen_2', n182_σ180gen_3, n182_σ180gen_3', n182_σ180gen_a, n182_σ180gen_a', f3444, f3622, f3625, f3628, h3638]); try rfl) (by simp) (by simp) ?_
                    obtain ⟨l3653, hx3654, e3600⟩ := bindO e3600
                    try dsimp only at e3600
                    replace hx3654 := (Option.some.inj hx3654).symm
                    have hx3654n : l3653.length = 1 := by rw [hx3654]; rfl
                    obtain ⟨g3655, e3600⟩ := guardO_some e3600
                    have g3655 := limB_t g3655
                    obtain ⟨g3655a, g3655b⟩ := g3655
                    obtain ⟨l3656, hx3657, e3600⟩ := bindO e3600
                    try dsimp only at e3600
                    replace hx3657 := (Option.some.inj hx3657).symm
                    have hx3657n : l3656.length = (l3547.length + l3653.length) := by rw [hx3657]; simp
                    have hx3657e : encL l3656 = encL l3547 ++ encL l3653 := by rw [hx3657]; simp
                    repeat (first | simp [h182_3, h182_4, h182_5, h182_6, h182_7, h182_8, h182_9, h182_10, h182_11, h182_15, h182_16, h182_17, g182_0, g182_1, g182_2, g182_3, g182_4, g182_5, g182_6, g182_7, n182_σ160gen_0, n182_σ160gen_0', n182_σ160gen_1, n182_σ160gen_1', n182_σ160gen_2, n182_σ160gen_2', n182_σ160gen_a, n182_σ160gen_a', n182_σ180gen_0, n182_σ180gen_0', n182_σ180gen_1, n182_σ180gen_1', n182_σ180gen_2, n182_σ180gen_2', n182_σ180gen_3, n182_σ180gen_3', n182_σ180gen_a, n182_σ180gen_a', f3444, f3622, f3625, f3628, h3638, hx3654, hx3657n, hx3657e] | with_reducible refine awp_reg ?_ | with_reducible refine awp_draw ?_ | with_reducible refine ord_l (by kernel_rfl) ?_ | with_reducible refine ord_e (by kernel_rfl) ?_ | with_reducible refine ord_c (by kernel_rfl) ?_ | with_reducible refine ord_d (by kernel_rfl) ?_ | with_reducible refine And.intro (by omega) ?_ | with_reducible refine optF_if (by omega) ?_ | with_reducible refine gsel_pure (by with_unfolding_all rfl) _ (fun hg => by (try simp at hg); first | (simp [hg, h182_3, h182_4, h182_5, h182_6, h182_7, h182_8, h182_9, h182_10, h182_11, h182_15, h182_16, h182_17, g182_0, g182_1, g182_2, g182_3, g182_4, g182_5, g182_6, g182_7, n182_σ160gen_0, n182_σ160gen_0', n182_σ160gen_1, n182_σ160gen_1', n182_σ160gen_2, n182_σ160gen_2', n182_σ160gen_a, n182_σ160gen_a', n182_σ180gen_0, n182_σ180gen_0', n182_σ180gen_1, n182_σ180gen_1', n182_σ180gen_2, n182_σ180gen_2', n182_σ180gen_3, n182_σ180gen_3', n182_σ180gen_a, n182_σ180gen_a', f3444, f3622, f3625, f3628, h3638, hx3654, hx3657n, hx3657e]; rfl) | (simp [h182_3, h182_4, h182_5, h182_6, h182_7, h182_8, h182_9, h182_10, h182_11, h182_15, h182_16, h182_17, g182_0, g182_1, g182_2, g182_3, g182_4, g182_5, g182_6, g182_7, n182_σ160gen_0, n182_σ160gen_0', n182_σ160gen_1, n182_σ160gen_1', n182_σ160gen_2, n182_σ160gen_2', n182_σ160gen_a, n182_σ160gen_a', n182_σ180gen_0, n182_σ180gen_0', n182_σ180gen_1, n182_σ180gen_1', n182_σ180gen_2, n182_σ180gen_2', n182_σ180gen_3, n182_σ180gen_3', n182_σ180gen_a, n182_σ180gen_a', f3444, f3622, f3625, f3628, h3638, hx3654, hx3657n, hx3657e]; simp only [if_pos hg]; simp [h182_3, h182_4, h182_5, h182_6, h182_7, h182_8, h182_9, h182_10, h182_11, h182_15, h182_16, h182_17, g182_0, g182_1, g182_2, g182_3, g182_4, g182_5, g182_6, g182_7, n182_σ160gen_0, n182_σ160gen_0', n182_σ160gen_1, n182_σ160gen_1', n182_σ160gen_2, n182_σ160gen_2', n182_σ160gen_a, n182_σ160gen_a', n182_σ180gen_0, n182_σ180gen_0', n182_σ180gen_1, n182_σ180gen_1', n182_σ180gen_2, n182_σ180gen_2', n182_σ180gen_3, n182_σ180gen_3', n182_σ180gen_a, n182_σ180gen_a', f3444, f3622, f3625, f3628, h3638, hx3654, hx3657n, hx3657e]; rfl)) ?_ | with_reducible refine dskip_intro ?_ | with_reducible refine dsel_pure (by with_unfolding_all rfl) _ (fun hg => by (try simp at hg); simp [hg, h182_3, h182_4, h182_5, h182_6, h182_7, h182_8, h182_9, h182_10, h182_11, h182_15, h182_16, h182_17, g182_0, g182_1, g182_2, g182_3, g182_4, g182_5, g182_6, g182_7, n182_σ160gen_0, n182_σ160gen_0', n182_σ160gen_1, n182_σ160gen_1', n182_σ160gen_2, n182_σ160gen_2', n182_σ160gen_a, n182_σ160gen_a', n182_σ180gen_0, n182_σ180gen_0', n182_σ180gen_1, n182_σ180gen_1', n182_σ180gen_2, n182_σ180gen_2', n182_σ180gen_3, n182_σ180gen_3', n182_σ180gen_a, n182_σ180gen_a', f3444, f3622, f3625, f3628, h3638, hx3654, hx3657n, hx3657e]; rfl) ?_)
                    exact hL3603 (q3606, l3656, IntKind.i64.wrap (i3548 + 1)) _ _ ((Gh.ren _ (.o (σ181.gen + 4) 16 0) (.l 236) (by simp) rfl rfl).trans (Gh.ren _ (.o (σ181.gen + 6) 0 0) (.l 237) (by simp) rfl rfl)) ⟨e3600, by simp [St.frz, St.pur, h182_3, h182_4, h182_5, h182_6, h182_7, h182_8, h182_9, h182_10, h182_11, h182_15, h182_16, h182_17, g182_0, g182_1, g182_2, g182_3, g182_4, g182_5, g182_6, g182_7, n182_σ160gen_0, n182_σ160gen_0', n182_σ160gen_1, n182_σ160gen_1', n182_σ160gen_2, n182_σ160gen_2', n182_σ160gen_a, n182_σ160gen_a', n182_σ180gen_0, n182_σ180gen_0', n182_σ180gen_1, n182_σ180gen_1', n182_σ180gen_2, n182_σ180gen_2', n182_σ180gen_3, n182_σ180gen_3', n182_σ180gen_a, n182_σ180gen_a', f3444, f3622, f3625, f3628, h3638, hx3654, hx3657n, hx3657e], by simp [St.frz, St.pur, h182_3, h182_4, h182_5, h182_6, h182_7, h182_8, h182_9, h182_10, h182_11, h182_15, h182_16, h182_17, g182_0, g182_1, g182_2, g182_3, g182_4, g182_5, g182_6, g182_7, n182_σ160gen_0, n182_σ160gen_0', n182_σ160gen_1, n182_σ160gen_1', n182_σ160gen_2, n182_σ160gen_2', n182_σ160gen_a, n182_σ160gen_a', n182_σ180gen_0, n182_σ180gen_0', n182_σ180gen_1, n182_σ180gen_1', n182_σ180gen_2, n182_σ180gen_2', n182_σ180gen_3, n182_σ180gen_3', n182_σ180gen_a, n182_σ180gen_a', f3444, f3622, f3625, f3628, h3638, hx3654, hx3657n, hx3657e], by simp [St.frz, St.pur, h182_3, h182_4, h182_5, h182_6, h182_7, h182_8, h182_9, h182_10, h182_11, h182_15, h182_16, h182_17, g182_0, g182_1, g182_2, g182_3, g182_4, g182_5, g182_6, g182_7, n182_σ160gen_0, n182_σ160gen_0', n182_σ160gen_1, n182_σ160gen_1', n182_σ160gen_2, n182_σ160gen_2', n182_σ160gen_a, n182_σ160gen_a', n182_σ180gen_0, n182_σ180gen_0', n182_σ180gen_1, n182_σ180gen_1', n182_σ180gen_2, n182_σ180gen_2', n182_σ180gen_3, n182_σ180gen_3', n182_σ180gen_a, n182_σ180gen_a', f3444, f3622, f3625, f3628, h3638, hx3654, hx3657n, hx3657e], by simp [St.frz, St.pur, h182_3, h182_4, h182_5, h182_6, h182_7, h182_8, h182_9, h182_10, h182_11, h182_15, h182_16, h182_17, g182_0, g182_1, g182_2, g182_3, g182_4, g182_5, g182_6, g182_7, n182_σ160gen_0, n182_σ160gen_0', n182_σ160gen_1, n182_σ160gen_1', n182_σ160gen_2, n182_σ160gen_2', n182_σ160gen_a, n182_σ160gen_a', n182_σ180gen_0, n182_σ180gen_0', n182_σ180gen_1, n182_σ180gen_1', n182_σ180gen_2, n182_σ180gen_2', n182_σ180gen_3, n182_σ180gen_3', n182_σ180gen_a, n182_σ180gen_a', f3444, f3622, f3625, f3628, h3638, hx3654, hx3657n, hx3657e], by simp [St.frz, St.pur, h182_3, h182_4, h182_5, h182_6, h182_7, h182_8, h182_9, h182_10, h182_11, h182_15, h182_16, h182_17, g182_0, g182_1, g182_2, g182_3, g182_4, g182_5, g182_6, g182_7, n182_σ160gen_0, n182_σ160gen_0', n182_σ160gen_1, n182_σ160gen_1', n182_σ160gen_2, n182_σ160gen_2', n182_σ160gen_a, n182_σ160gen_a', n182_σ180gen_0, n182_σ180gen_0', n182_σ180gen_1, n182_σ180gen_1', n182_σ180gen_2, n182_σ180gen_2', n182_σ180gen_3, n182_σ180gen_3', n182_σ180gen_a, n182_σ180gen_a', f3444, f3622, f3625, f3628, h3638, hx3654, hx3657n, hx3657e], by simp [St.frz, St.pur, h182_3, h182_4, h182_5, h182_6, h182_7, h182_8, h182_9, h182_10, h182_11, h182_15, h182_16, h182_17, g182_0, g182_1, g182_2, g182_3, g182_4, g182_5, g182_6, g182_7, n182_σ160gen_0, n182_σ160gen_0', n182_σ160gen_1, n182_σ160gen_1', n182_σ160gen_2, n182_σ160gen_2', n182_σ160gen_a, n182_σ160gen_a', n182_σ180gen_0, n182_σ180gen_0', n182_σ180gen_1, n182_σ180gen_1', n182_σ180gen_2, n182_σ180gen_2', n182_σ180gen_3, n182_σ180gen_3', n182_σ180gen_a, n182_σ180gen_a', f3444, f3622, f3625, f3628, h3638, hx3654, hx3657n, hx3657e], by simp [St.frz, St.pur, h182_3, h182_4, h182_5, h182_6, h182_7, h182_8, h182_9, h182_10, h182_11, h182_15, h182_16, h182_17, g182_0, g182_1, g182_2, g182_3, g182_4, g182_5, g182_6, g182_7, n182_σ160gen_0, n182_σ160gen_0', n182_σ160gen_1, n182_σ160gen_1', n182_σ160gen_2, n182_σ160gen_2', n182_σ160gen_a, n182_σ160gen_a', n182_σ180gen_0, n182_σ180gen_0', n182_σ180gen_1, n182_σ180gen_1', n182_σ180gen_2, n182_σ180gen_2', n182_σ180gen_3, n182_σ180gen_3', n182_σ180gen_a, n182_σ180gen_a', f3444, f3622, f3625, f3628, h3638, hx3654, hx3657n, hx3657e], by simp [St.frz, St.pur, h182_3, h182_4, h182_5, h182_6, h182_7, h182_8, h182_9, h182_10, h182_11, h182_15, h182_16, h182_17, g182_0, g182_1, g182_2, g182_3, g182_4, g182_5, g182_6, g182_7, n182_σ160gen_0, n182_σ160gen_0', n182_σ160gen_1, n182_σ160gen_1', n182_σ160gen_2, n182_σ160gen_2', n182_σ160gen_a, n182_σ160gen_a', n182_σ180gen_0, n182_σ180gen_0', n182_σ180gen_1, n182_σ180gen_1', n182_σ180gen_2, n182_σ180gen_2', n182_σ180gen_3, n182_σ180gen_3', n182_σ180gen_a, n182_σ180gen_a', f3444, f3622, f3625, f3628, h3638, hx3654, hx3657n, hx3657e], by simp [St.frz, St.pur, h182_3, h182_4, h182_5, h182_6, h182_7, h182_8, h182_9, h182_10, h182_11, h182_15, h182_16, h182_17, g182_0, g182_1, g182_2, g182_3, g182_4, g182_5, g182_6, g182_7, n182_σ160gen_0, n182_σ160gen_0', n182_σ160gen_1, n182_σ160gen_1', n182_σ160gen_2, n182_σ160gen_2', n182_σ160gen_a, n182_σ160gen_a', n182_σ180gen_0, n182_σ180gen_0', n182_σ180gen_1, n182_σ180gen_1', n182_σ180gen_2, n182_σ180gen_2', n182_σ180gen_3, n182_σ180gen_3', n182_σ180gen_a, n182_σ180gen_a', f3444, f3622, f3625, f3628, h3638, hx3654, hx3657n, hx3657e], by simp [St.frz, St.pur, h182_3, h182_4, h182_5, h182_6, h182_7, h182_8, h182_9, h182_10, h182_11, h182_15, h182_16, h182_17, g182_0, g182_1, g182_2, g182_3, g182_4, g182_5, g182_6, g182_7, n182_σ160gen_0, n182_σ160gen_0', n182_σ160gen_1, n182_σ160gen_1', n182_σ160gen_2, n182_σ160gen_2', n182_σ160gen_a, n182_σ160gen_a', n182_σ180gen_0, n182_σ180gen_0', n182_σ180gen_1, n182_σ180gen_1', n182_σ180gen_2, n182_σ180gen_2', n182_σ180gen_3, n182_σ180gen_3', n182_σ180gen_a, n182_σ180gen_a', f3444, f3622, f3625, f3628, h3638, hx3654, hx3657n, hx3657e], by first | (simp; done) | (simp; omega) | omega⟩ (by omega)
                · replace e3600 := condF h3638 e3600
                  repeat (first | simp [h182_3, h182_4, h182_5, h182_6, h182_7, h182_8, h182_9, h182_10, h182_11, h182_15, h182_16, h182_17, g182_0, g182_1, g182_2, g182_3, g182_4, g182_5, g182_6, g182_7, n182_σ160gen_0, n182_σ160gen_0', n182_σ160gen_1, n182_σ160gen_1', n182_σ160gen_2, n182_σ160gen_2', n182_σ160gen_a, n182_σ160gen_a', n182_σ180gen_0, n182_σ180gen_0', n182_σ180gen_1, n182_σ180gen_1', n182_σ180gen_2, n182_σ180gen_2', n182_σ180gen_3, n182_σ180gen_3', n182_σ180gen_a, n182_σ180gen_a', f3444, f3622, f3625, f3628, h3638] | with_reducible refine awp_reg ?_ | with_reducible refine awp_draw ?_ | with_reducible refine ord_l (by kernel_rfl) ?_ | with_reducible refine ord_e (by kernel_rfl) ?_ | with_reducible refine ord_c (by kernel_rfl) ?_ | with_reducible refine ord_d (by kernel_rfl) ?_ | with_reducible refine And.intro (by omega) ?_ | with_reducible refine optF_if (by omega) ?_ | with_reducible refine gsel_pure (by with_unfolding_all rfl) _ (fun hg => by (try simp at hg); first | (simp [hg, h182_3, h182_4, h182_5, h182_6, h182_7, h182_8, h182_9, h182_10, h182_11, h182_15, h182_16, h182_17, g182_0, g182_1, g182_2, g182_3, g182_4, g182_5, g182_6, g182_7, n182_σ160gen_0, n182_σ160gen_0', n182_σ160gen_1, n182_σ160gen_1', n182_σ160gen_2, n182_σ160gen_2', n182_σ160gen_a, n182_σ160gen_a', n182_σ180gen_0, n182_σ180gen_0', n182_σ180gen_1, n182_σ180gen_1', n182_σ180gen_2, n182_σ180gen_2', n182_σ180gen_3, n182_σ180gen_3', n182_σ180gen_a, n182_σ180gen_a', f3444, f3622, f3625, f3628, h3638]; rfl) | (simp [h182_3, h182_4, h182_5, h182_6, h182_7, h182_8, h182_9, h182_10, h182_11, h182_15, h182_16, h182_17, g182_0, g182_1, g182_2, g182_3, g182_4, g182_5, g182_6, g182_7, n182_σ160gen_0, n182_σ160gen_0', n182_σ160gen_1, n182_σ160gen_1', n182_σ160gen_2, n182_σ160gen_2', n182_σ160gen_a, n182_σ160gen_a', n182_σ180gen_0, n182_σ180gen_0', n182_σ180gen_1, n182_σ180gen_1', n182_σ180gen_2, n182_σ180gen_2', n182_σ180gen_3, n182_σ180gen_3', n182_σ180gen_a, n182_σ180gen_a', f3444, f3622, f3625, f3628, h3638]; simp only [if_pos hg]; simp [h182_3, h182_4, h182_5, h182_6, h182_7, h182_8, h182_9, h182_10, h182_11, h182_15, h182_16, h182_17, g182_0, g182_1, g182_2, g182_3, g182_4, g182_5, g182_6, g182_7, n182_σ160gen_0, n182_σ160gen_0', n182_σ160gen_1, n182_σ160gen_1', n182_σ160gen_2, n182_σ160gen_2', n182_σ160gen_a, n182_σ160gen_a', n182_σ180gen_0, n182_σ180gen_0', n182_σ180gen_1, n182_σ180gen_1', n182_σ180gen_2, n182_σ180gen_2', n182_σ180gen_3, n182_σ180gen_3', n182_σ180gen_a, n182_σ180gen_a', f3444, f3622, f3625, f3628, h3638]; rfl)) ?_ | with_reducible refine dskip_intro ?_ | with_reducible refine dsel_pure (by with_unfolding_all rfl) _ (fun hg => by (try simp at hg); simp [hg, h182_3, h182_4, h182_5, h182_6, h182_7, h182_8, h182_9, h182_10, h182_11, h182_15, h182_16, h182_17, g182_0, g182_1, g182_2, g182_3, g182_4, g182_5, g182_6, g182_7, n182_σ160gen_0, n182_σ160gen_0', n182_σ160gen_1, n182_σ160gen_1', n182_σ160gen_2, n182_σ160gen_2', n182_σ160gen_a, n182_σ160gen_a', n182_σ180gen_0, n182_σ180gen_0', n182_σ180gen_1, n182_σ180gen_1', n182_σ180gen_2, n182_σ180gen_2', n182_σ180gen_3, n182_σ180gen_3', n182_σ180gen_a, n182_σ180gen_a', f3444, f3622, f3625, f3628, h3638]; rfl) ?_)
                  repeat (first | simp [h182_3, h182_4, h182_5, h182_6, h182_7, h182_8, h182_9, h182_10, h182_11, h182_15, h182_16, h182_17, g182_0, g182_1, g182_2, g182_3, g182_4, g182_5, g182_6, g182_7, n182_σ160gen_0, n182_σ160gen_0', n182_σ160gen_1, n182_σ160gen_1', n182_σ160gen_2, n182_σ160gen_2', n182_σ160gen_a, n182_σ160gen_a', n182_σ180gen_0, n182_σ180gen_0', n182_σ180gen_1, n182_σ180gen_1', n182_σ180gen_2, n182_σ180gen_2', n182_σ180gen_3, n182_σ180gen_3', n182_σ180gen_a, n182_σ180gen_a', f3444, f3622, f3625, f3628, h3638] | with_reducible refine awp_reg ?_ | with_reducible refine And.intro (by omega) ?_ | with_reducible refine optF_if (by omega) ?_)
                  exact hL3603 (q3606, l3547, IntKind.i64.wrap (i3548 + 1)) _ _ (Gh.ren _ (.o (σ181.gen + 5) 0 0) (.l 237) (by simp) rfl rfl) ⟨e3600, by simp [St.frz, St.pur, h182_3, h182_4, h182_5, h182_6, h182_7, h182_8, h182_9, h182_10, h182_11, h182_15, h182_16, h182_17, g182_0, g182_1, g182_2, g182_3, g182_4, g182_5, g182_6, g182_7, n182_σ160gen_0, n182_σ160gen_0', n182_σ160gen_1, n182_σ160gen_1', n182_σ160gen_2, n182_σ160gen_2', n182_σ160gen_a, n182_σ160gen_a', n182_σ180gen_0, n182_σ180gen_0', n182_σ180gen_1, n182_σ180gen_1', n182_σ180gen_2, n182_σ180gen_2', n182_σ180gen_3, n182_σ180gen_3', n182_σ180gen_a, n182_σ180gen_a', f3444, f3622, f3625, f3628, h3638], by simp [St.frz, St.pur, h182_3, h182_4, h182_5, h182_6, h182_7, h182_8, h182_9, h182_10, h182_11, h182_15, h182_16, h182_17, g182_0, g182_1, g182_2, g182_3, g182_4, g182_5, g182_6, g182_7, n182_σ160gen_0, n182_σ160gen_0', n182_σ160gen_1, n182_σ160gen_1', n182_σ160gen_2, n182_σ160gen_2', n182_σ160gen_a, n182_σ160gen_a', n182_σ180gen_0, n182_σ180gen_0', n182_σ180gen_1, n182_σ180gen_1', n182_σ180gen_2, n182_σ180gen_2', n182_σ180gen_3, n182_σ180gen_3', n182_σ180gen_a, n182_σ180gen_a', f3444, f3622, f3625, f3628, h3638], by simp [St.frz, St.pur, h182_3, h182_4, h182_5, h182_6, h182_7, h182_8, h182_9, h182_10, h182_11, h182_15, h182_16, h182_17, g182_0, g182_1, g182_2, g182_3, g182_4, g182_5, g182_6, g182_7, n182_σ160gen_0, n182_σ160gen_0', n182_σ160gen_1, n182_σ160gen_1', n182_σ160gen_2, n182_σ160gen_2', n182_σ160gen_a, n182_σ160gen_a', n182_σ180gen_0, n182_σ180gen_0', n182_σ180gen_1, n182_σ180gen_1', n182_σ180gen_2, n182_σ180gen_2', n182_σ180gen_3, n182_σ180gen_3', n182_σ180gen_a, n182_σ180gen_a', f3444, f3622, f3625, f3628, h3638], by simp [St.frz, St.pur, h182_3, h182_4, h182_5, h182_6, h182_7, h182_8, h182_9, h182_10, h182_11, h182_15, h182_16, h182_17, g182_0, g182_1, g182_2, g182_3, g182_4, g182_5, g182_6, g182_7, n182_σ160gen_0, n182_σ160gen_0', n182_σ160gen_1, n182_σ160gen_1', n182_σ160gen_2, n182_σ160gen_2', n182_σ160gen_a, n182_σ160gen_a', n182_σ180gen_0, n182_σ180gen_0', n182_σ180gen_1, n182_σ180gen_1', n182_σ180gen_2, n182_σ180gen_2', n182_σ180gen_3, n182_σ180gen_3', n182_σ180gen_a, n182_σ180gen_a', f3444, f3622, f3625, f3628, h3638], by simp [St.frz, St.pur, h182_3, h182_4, h182_5, h182_6, h182_7, h182_8, h182_9, h182_10, h182_11, h182_15, h182_16, h182_17, g182_0, g182_1, g182_2, g182_3, g182_4, g182_5, g182_6, g182_7, n182_σ160gen_0, n182_σ160gen_0', n182_σ160gen_1, n182_σ160gen_1', n182_σ160gen_2, n182_σ160gen_2', n182_σ160gen_a, n182_σ160gen_a', n182_σ180gen_0, n182_σ180gen_0', n182_σ180gen_1, n182_σ180gen_1', n182_σ180gen_2, n182_σ180gen_2', n182_σ180gen_3, n182_σ180gen_3', n182_σ180gen_a, n182_σ180gen_a', f3444, f3622, f3625, f3628, h3638], by simp [St.frz, St.pur, h182_3, h182_4, h182_5, h182_6, h182_7, h182_8, h182_9, h182_10, h182_11, h182_15, h182_16, h182_17, g182_0, g182_1, g182_2, g182_3, g182_4, g182_5, g182_6, g182_7, n182_σ160gen_0, n182_σ160gen_0', n182_σ160gen_1, n182_σ160gen_1', n182_σ160gen_2, n182_σ160gen_2', n182_σ160gen_a, n182_σ160gen_a', n182_σ180gen_0, n182_σ180gen_0', n182_σ180gen_1, n182_σ180gen_1', n182_σ180gen_2, n182_σ180gen_2', n182_σ180gen_3, n182_σ180gen_3', n182_σ180gen_a, n182_σ180gen_a', f3444, f3622, f3625, f3628, h3638], by simp [St.frz, St.pur, h182_3, h182_4, h182_5, h182_6, h182_7, h182_8, h182_9, h182_10, h182_11, h182_15, h182_16, h182_17, g182_0, g182_1, g182_2, g182_3, g182_4, g182_5, g182_6, g182_7, n182_σ160gen_0, n182_σ160gen_0', n182_σ160gen_1, n182_σ160gen_1', n182_σ160gen_2, n182_σ160gen_2', n182_σ160gen_a, n182_σ160gen_a', n182_σ180gen_0, n182_σ180gen_0', n182_σ180gen_1, n182_σ180gen_1', n182_σ180gen_2, n182_σ180gen_2', n182_σ180gen_3, n182_σ180gen_3', n182_σ180gen_a, n182_σ180gen_a', f3444, f3622, f3625, f3628, h3638], by simp [St.frz, St.pur, h182_3, h182_4, h182_5, h182_6, h182_7, h182_8, h182_9, h182_10, h182_11, h182_15, h182_16, h182_17, g182_0, g182_1, g182_2, g182_3, g182_4, g182_5, g182_6, g182_7, n182_σ160gen_0, n182_σ160gen_0', n182_σ160gen_1, n182_σ160gen_1', n182_σ160gen_2, n182_σ160gen_2', n182_σ160gen_a, n182_σ160gen_a', n182_σ180gen_0, n182_σ180gen_0', n182_σ180gen_1, n182_σ180gen_1', n182_σ180gen_2, n182_σ180gen_2', n182_σ180gen_3, n182_σ180gen_3', n182_σ180gen_a, n182_σ180gen_a', f3444, f3622, f3625, f3628, h3638], by simp [St.frz, St.pur, h182_3, h182_4, h182_5, h182_6, h182_7, h182_8, h182_9, h182_10, h182_11, h182_15, h182_16, h182_17, g182_0, g182_1, g182_2, g182_3, g182_4, g182_5, g182_6, g182_7, n182_σ160gen_0, n182_σ160gen_0', n182_σ160gen_1, n182_σ160gen_1', n182_σ160gen_2, n182_σ160gen_2', n182_σ160gen_a, n182_σ160gen_a', n182_σ180gen_0, n182_σ180gen_0', n182_σ180gen_1, n182_σ180gen_1', n182_σ180gen_2, n182_σ180gen_2', n182_σ180gen_3, n182_σ180gen_3', n182_σ180gen_a, n182_σ180gen_a', f3444, f3622, f3625, f3628, h3638], by simp [St.frz, St.pur, h182_3, h182_4, h182_5, h182_6, h182_7, h182_8, h182_9, h182_10, h182_11, h182_15, h182_16, h182_17, g182_0, g182_1, g182_2, g182_3, g182_4, g182_5, g182_6, g182_7, n182_σ160gen_0, n182_σ160gen_0', n182_σ160gen_1, n182_σ160gen_1', n182_σ160gen_2, n182_σ160gen_2', n182_σ160gen_a, n182_σ160gen_a', n182_σ180gen_0, n182_σ180gen_0', n182_σ180gen_1, n182_σ180gen_1', n182_σ180gen_2, n182_σ180gen_2', n182_σ180gen_3, n182_σ180gen_3', n182_σ180gen_a, n182_σ180gen_a', f3444, f3622, f3625, f3628, h3638], by first | (simp; done) | (simp; omega) | omega⟩ (by omega)
            · replace e3600 := condF h3610 e3600
              repeat (first | simp [h179_3, h179_4, h179_5, h179_6, h179_15, h179_16, h179_17, g179_0, g179_1, g179_2, n179_σ160gen_0, n179_σ160gen_0', n179_σ160gen_1, n179_σ160gen_1', n179_σ160gen_2, n179_σ160gen_2', n179_σ160gen_a, n179_σ160gen_a', f3444] | with_reducible refine awp_reg ?_ | with_reducible refine And.intro (by omega) ?_ | with_reducible refine optF_if (by omega) ?_)
              obtain rfl := Option.some.inj e3600
              try dsimp only at e3438
              exact hK3440 l3547 _ _ (Gh.ren _ (.l 236) (.l 221) (by simp) rfl rfl) ⟨e3438, by simp [St.frz, St.pur, h179_3, h179_4, h179_5, h179_6, h179_15, h179_16, h179_17, g179_0, g179_1, g179_2, n179_σ160gen_0, n179_σ160gen_0', n179_σ160gen_1, n179_σ160gen_1', n179_σ160gen_2, n179_σ160gen_2', n179_σ160gen_a, n179_σ160gen_a', f3444], by simp [St.frz, St.pur, h179_3, h179_4, h179_5, h179_6, h179_15, h179_16, h179_17, g179_0, g179_1, g179_2, n179_σ160gen_0, n179_σ160gen_0', n179_σ160gen_1, n179_σ160gen_1', n179_σ160gen_2, n179_σ160gen_2', n179_σ160gen_a, n179_σ160gen_a', f3444], by simp [St.frz, St.pur, h179_3, h179_4, h179_5, h179_6, h179_15, h179_16, h179_17, g179_0, g179_1, g179_2, n179_σ160gen_0, n179_σ160gen_0', n179_σ160gen_1, n179_σ160gen_1', n179_σ160gen_2, n179_σ160gen_2', n179_σ160gen_a, n179_σ160gen_a', f3444], by simp [St.frz, St.pur, h179_3, h179_4, h179_5, h179_6, h179_15, h179_16, h179_17, g179_0, g179_1, g179_2, n179_σ160gen_0, n179_σ160gen_0', n179_σ160gen_1, n179_σ160gen_1', n179_σ160gen_2, n179_σ160gen_2', n179_σ160gen_a, n179_σ160gen_a', f3444], by simp [St.frz, St.pur, h179_3, h179_4, h179_5, h179_6, h179_15, h179_16, h179_17, g179_0, g179_1, g179_2, n179_σ160gen_0, n179_σ160gen_0', n179_σ160gen_1, n179_σ160gen_1', n179_σ160gen_2, n179_σ160gen_2', n179_σ160gen_a, n179_σ160gen_a', f3444], by first | (simp; done) | (simp; omega) | omega⟩
        · obtain ⟨e3438, h172_3, h172_15, h172_16, h172_17, g172_0, n172_g⟩ := hp
          obtain rfl := Option.some.inj e3438
          try dsimp only at e3210
          repeat (first | simp [h172_3, h172_15, h172_16, h172_17, g172_0] | with_reducible refine awp_reg ?_)
          exact hL3213 (q3216, l3437, IntKind.i64.wrap (i2751 + 1)) _ _ (Gh.ren _ (.l 221) (.l 182) (by simp) rfl rfl) ⟨e3210, by simp [St.frz, St.pur, h172_3, h172_15, h172_16, h172_17, g172_0], by simp [St.frz, St.pur, h172_3, h172_15, h172_16, h172_17, g172_0], by simp [St.frz, St.pur, h172_3, h172_15, h172_16, h172_17, g172_0], by simp [St.frz, St.pur, h172_3, h172_15, h172_16, h172_17, g172_0], by simp [St.frz, St.pur, h172_3, h172_15, h172_16, h172_17, g172_0], by first | (simp; done) | (simp; omega) | omega⟩ (by omega)
      · replace e3210 := condF h3220 e3210
        repeat (first | simp [h159_3, h159_15, h159_16, h159_17, g159_0] | with_reducible refine awp_reg ?_)
        obtain rfl := Option.some.inj e3210
        try dsimp only at e1828
        exact hK1830 l2750 _ _ (Gh.ren _ (.l 182) (.l 61) (by simp) rfl rfl) ⟨e1828, by simp [St.frz, St.pur, h159_3, h159_15, h159_16, h159_17, g159_0], by simp [St.frz, St.pur, h159_3, h159_15, h159_16, h159_17, g159_0], by first | (simp; done) | (simp; omega) | omega⟩
  · obtain ⟨e1828, h92_3, g92_0, n92_g⟩ := hp
    obtain rfl := Option.some.inj e1828
    try dsimp only at hs
    repeat (first | simp [h92_3, g92_0] | with_reducible refine awp_reg ?_ | with_reducible refine And.intro (by omega) ?_ | with_reducible refine optF_if (by omega) ?_)
    obtain rfl := Option.some.inj hs
    refine hQ _ _ (ret2g _ (Gh.frz _ (.l 61)) (by simp [St.frz, St.pur, h92_3, g92_0]; rfl) (by first | rfl | (simp [St.frz, St.pur, h92_3, g92_0]; done) | (rw [if_pos (by first | omega | (simp; omega))]; simp [St.frz, St.pur, h92_3, g92_0]; first | omega | exact List.take_of_length_le (by simp; omega) | skip)) (by simp))
end Go.Dc
end
section
set_option linter.all false
namespace Go.Dc
open Go Go.Hw Go.Proofs
set_option maxRecDepth 100000
def await_Find_L1 : List AwaitSpin → (List Spin) → Nat → Option (List Spin)
  | [], l64, k65 => some (l64)
  | x86 :: q82, l64, k65 => Option.bind (some ([({ Func := x86.fn, First := x86.first, Last := IntKind.i64.wrap (x86.first + 2) } : Spin)])) (fun l90 => guardO (limB 24 (l64.length + l90.length)) (Option.bind (some (l64 ++ l90)) (fun l93 => await_Find_L1 q82 l93 (k65 + 1))))

def await_Find (fuelN : Nat) (a0 : Program) : Option ((List Spin) × Int) :=
  Option.bind (program_Check fuelN a0) (fun y1 => cond (!(eqI y1.1 0)) (some ([], y1.1)) (Option.bind (await_spins fuelN a0) (fun y4 => Option.bind (α := (List Spin)) (guardO (lenB y4.length) (Option.bind (await_Find_L1 y4 [] 0) (fun l75 => some (l75)))) (fun l48 => some (l48, 0)))))

set_option maxHeartbeats 2000000 in
theorem at_await_Find {fuelN : Nat} {a0 : Program} {r : (List Spin) × Int} (hs : await_Find fuelN a0 = some r) : At Tryd.prog 36 [.agg [.p (.sl a0.Vars.length (encL a0.Vars)), .p (.sl a0.Mutexes.length (encL a0.Mutexes)), .p (.sl a0.Conds.length (encL a0.Conds)), .p (.sl a0.Funcs.length (encL a0.Funcs)), .p (.sl a0.Threads.length (encL a0.Threads))]] (.tup [.cell (.p (.sl r.1.length (encL r.1))), iV .i64 r.2]) := by
  refine at_bound (by kernel_rfl) fun hb => ?_
  have hb1 : LenOk (.sl a0.Vars.length (encL a0.Vars)) := hb (.agg [.p (.sl a0.Vars.length (encL a0.Vars)), .p (.sl a0.Mutexes.length (encL a0.Mutexes)), .p (.sl a0.Conds.length (encL a0.Conds)), .p (.sl a0.Funcs.length (encL a0.Funcs)), .p (.sl a0.Threads.length (encL a0.Threads))]) (by simp) (.p (.sl a0.Vars.length (encL a0.Vars))) (by simp)
  have hb2 : LenOk (.sl a0.Mutexes.length (encL a0.Mutexes)) := hb (.agg [.p (.sl a0.Vars.length (encL a0.Vars)), .p (.sl a0.Mutexes.length (encL a0.Mutexes)), .p (.sl a0.Conds.length (encL a0.Conds)), .p (.sl a0.Funcs.length (encL a0.Funcs)), .p (.sl a0.Threads.length (encL a0.Threads))]) (by simp) (.p (.sl a0.Mutexes.length (encL a0.Mutexes))) (by simp)
  have hb3 : LenOk (.sl a0.Conds.length (encL a0.Conds)) := hb (.agg [.p (.sl a0.Vars.length (encL a0.Vars)), .p (.sl a0.Mutexes.length (encL a0.Mutexes)), .p (.sl a0.Conds.length (encL a0.Conds)), .p (.sl a0.Funcs.length (encL a0.Funcs)), .p (.sl a0.Threads.length (encL a0.Threads))]) (by simp) (.p (.sl a0.Conds.length (encL a0.Conds))) (by simp)
  have hb4 : LenOk (.sl a0.Funcs.length (encL a0.Funcs)) := hb (.agg [.p (.sl a0.Vars.length (encL a0.Vars)), .p (.sl a0.Mutexes.length (encL a0.Mutexes)), .p (.sl a0.Conds.length (encL a0.Conds)), .p (.sl a0.Funcs.length (encL a0.Funcs)), .p (.sl a0.Threads.length (encL a0.Threads))]) (by simp) (.p (.sl a0.Funcs.length (encL a0.Funcs))) (by simp)
  have hb5 : LenOk (.sl a0.Threads.length (encL a0.Threads)) := hb (.agg [.p (.sl a0.Vars.length (encL a0.Vars)), .p (.sl a0.Mutexes.length (encL a0.Mutexes)), .p (.sl a0.Conds.length (encL a0.Conds)), .p (.sl a0.Funcs.length (encL a0.Funcs)), .p (.sl a0.Threads.length (encL a0.Threads))]) (by simp) (.p (.sl a0.Threads.length (encL a0.Threads))) (by simp)
  refine at_code mixed Tryd.func36 (by kernel_rfl) rfl (by kernel_rfl) rfl fun Q hQ => ?_
  rw [await_Find] at hs
  repeat (first | simp | with_reducible refine awp_reg ?_ | with_reducible refine And.intro (by omega) ?_ | with_reducible refine optF_if (by omega) ?_)
  obtain ⟨y1, hx2, hs⟩ := bindO hs
  try dsimp only at hs
  refine callK_pure (at_program_Check hx2) (by (first | simp | simp (disch := omega) []); try rfl) (by simp) (by simp) ?_
  repeat (first | simp | with_reducible refine awp_reg ?_ | with_reducible refine And.intro (by omega) ?_ | with_reducible refine optF_if (by omega) ?_)
  refine condK_spec (!(eqI y1.1 0)) (by first | rfl | (simp; done) | (simp [andB, orB, eqI, ltI, Int.natCast_inj]; done)) (fun h3 => ?_) (fun h3 => ?_)
  · replace hs := condT h3 hs
    repeat (first | simp | with_reducible refine awp_reg ?_ | with_reducible refine And.intro (by omega) ?_ | with_reducible refine optF_if (by omega) ?_)
    obtain rfl := Option.some.inj hs
    refine hQ _ _ (ret2g _ (Gh.unz _) (by simp [St.frz, St.pur]; rfl) (by first | rfl | (simp [St.frz, St.pur]; done) | (rw [if_pos (by first | omega | (simp; omega))]; simp [St.frz, St.pur]; first | omega | exact List.take_of_length_le (by simp; omega) | skip)) (by simp))
  · replace hs := condF h3 hs
    repeat (first | simp | with_reducible refine awp_reg ?_ | with_reducible refine And.intro (by omega) ?_ | with_reducible refine optF_if (by omega) ?_)
    obtain ⟨y4, hx5, hs⟩ := bindO hs
    try dsimp only at hs
    refine callK_pure (at_await_spins hx5) (by (first | simp | simp (disch := omega) []); try rfl) (by simp) (by simp) ?_
    repeat (first | simp [-awp_cond_eq, -awp_block_eq] | with_reducible refine awp_reg ?_ | with_reducible refine And.intro (by omega) ?_ | with_reducible refine optF_if (by omega) ?_)
    obtain ⟨o50, e49, hs⟩ := bindO hs
    try dsimp only at hs
    refine awp_cutK (fun (v : (List Spin)) (σ : St) => some (v) = some o50 ∧ σ.env 7 = .cell (.sl (.l 2) 0 3 v.length) ∧ σ.hp (.l 2) = some (.pure (encL v)) ∧ 5 ≤ σ.gen) (by rfl) (fun Q hK51 hX52 => ?_) (fun l48 σ3 hp => ?_)
    · repeat (first | simp | with_reducible refine awp_reg ?_ | with_reducible refine And.intro (by omega) ?_ | with_reducible refine optF_if (by omega) ?_)
      obtain ⟨hb87, e49⟩ := guardO_some e49
      obtain ⟨o77, e76, e49⟩ := bindO e49
      try dsimp only at e49
      refine awp_loopW (fun (v : (List AwaitSpin) × (List Spin) × Nat) (σ : St) => await_Find_L1 v.1 v.2.1 v.2.2 = some o77 ∧ v.1 = y4.drop v.2.2 ∧ σ.env 7 = .cell (.sl (.l 6) 0 3 v.2.1.length) ∧ σ.env 20 = .cell (.p (.sl y4.length (encL y4))) ∧ σ.env 21 = iV .i64 ((y4.length : Nat) : Int) ∧ σ.env 22 = iV .i64 ((v.2.2 : Nat) : Int) ∧ σ.hp (.l 6) = some (.pure (encL v.2.1)) ∧ 5 ≤ σ.gen) (fun v => v.1.length) _ (Gh.void _ (.l 6) 7 3 rfl (by simp)) (y4, [], 0) ⟨e76, by simp, by simp [St.frz, St.pur], by simp [St.frz, St.pur], by simp [St.frz, St.pur], by simp [St.frz, St.pur], by simp [St.frz, St.pur], by first | (simp; done) | (simp; omega) | omega⟩ fun v σ6 hp L78 hL79 => ?_
      obtain ⟨q81, l64, k65⟩ := v
      dsimp only at hp hL79
      obtain ⟨e76, hd80, h5_7, h5_20, h5_21, h5_22, g5_0, n5_g⟩ := hp
      rcases q81 with _ | ⟨x86, q82⟩
      · have hlt83 := drop_end hd80
        rw [await_Find_L1] at e76; try dsimp only at e76
        repeat (first | simp [h5_7, h5_20, h5_21, h5_22, g5_0] | with_reducible refine awp_reg ?_)
        refine condK_f (by simp [ltI]; omega) ?_
        obtain rfl := Option.some.inj e76
        try dsimp only at e49
        exact hK51 l64 _ _ (Gh.ren _ (.l 6) (.l 2) (by simp) rfl rfl) ⟨e49, by simp [St.frz, St.pur, h5_7, h5_20, h5_21, h5_22, g5_0], by simp [St.frz, St.pur, h5_7, h5_20, h5_21, h5_22, g5_0], by first | (simp; done) | (simp; omega) | omega⟩
      · obtain ⟨hx85, hlt83, hd88⟩ := drop_next hd80
        have ew84 := wrap_succG hlt83 hb87
        rw [await_Find_L1] at e76; try dsimp only at e76
        repeat (first | simp [h5_7, h5_20, h5_21, h5_22, g5_0, hlt83, ew84] | with_reducible refine awp_reg ?_)
        refine condK_t (by simp [ltI]; omega) ?_
        have f89 : partCV Tryd.prog 100 (encL y4) (k65 * 10) = some (.agg [.p (.c (.int .i64 x86.fn)), .p (.c (.int .i64 x86.first)), .p (.c (.int .i64 x86.await.Op)), .p (.c (.int .i64 x86.await.A)), .p (.c (.int .i64 x86.await.B)), .p (.c (.int .i64 x86.await.C)), .p (.c (.int .i64 x86.await.Obj)), .p (.c (.int .i64 x86.await.N)), .p (.c (.int .i64 x86.await.Fn)), .p (.c (.int .i64 x86.await.Order))]) := partCV_enc hx85 (f := 0) (by simp)
        obtain ⟨l90, hx91, e76⟩ := bindO e76
        try dsimp only at e76
        replace hx91 := (Option.some.inj hx91).symm
        have hx91n : l90.length = 1 := by rw [hx91]; rfl
        obtain ⟨g92, e76⟩ := guardO_some e76
        have g92 := limB_t g92
        obtain ⟨g92a, g92b⟩ := g92
        obtain ⟨l93, hx94, e76⟩ := bindO e76
        try dsimp only at e76
        replace hx94 := (Option.some.inj hx94).symm
        have hx94n : l93.length = (l64.length + l90.length) := by rw [hx94]; simp
        have hx94e : encL l93 = encL l64 ++ encL l90 := by rw [hx94]; simp
        repeat (first | simp [h5_7, h5_20, h5_21, h5_22, g5_0, hlt83, ew84, f89, hx91, hx94n, hx94e] | with_reducible refine awp_reg ?_ | with_reducible refine And.intro (by omega) ?_ | with_reducible refine optF_if (by omega) ?_)
        exact hL79 (q82, l93, (k65 + 1)) _ _ (Gh.ren _ (.o (σ6.gen + 3) 10 0) (.l 6) (by simp) rfl rfl) ⟨e76, hd88, by simp [St.frz, St.pur, h5_7, h5_20, h5_21, h5_22, g5_0, hlt83, ew84, f89, hx91, hx94n, hx94e], by simp [St.frz, St.pur, h5_7, h5_20, h5_21, h5_22, g5_0, hlt83, ew84, f89, hx91, hx94n, hx94e], by simp [St.frz, St.pur, h5_7, h5_20, h5_21, h5_22, g5_0, hlt83, ew84, f89, hx91, hx94n, hx94e], by simp [St.frz, St.pur, h5_7, h5_20, h5_21, h5_22, g5_0, hlt83, ew84, f89, hx91, hx94n, hx94e], by simp [St.frz, St.pur, h5_7, h5_20, h5_21, h5_22, g5_0, hlt83, ew84, f89, hx91, hx94n, hx94e], by first | (simp; done) | (simp; omega) | omega⟩ (by simp)
    · obtain ⟨e49, h4_7, g4_0, n4_g⟩ := hp
      obtain rfl := Option.some.inj e49
      try dsimp only at hs
      repeat (first | simp [h4_7, g4_0] | with_reducible refine awp_reg ?_ | with_reducible refine And.intro (by omega) ?_ | with_reducible refine optF_if (by omega) ?_)
      obtain rfl := Option.some.inj hs
      refine hQ _ _ (ret2g _ (Gh.frz _ (.l 2)) (by simp [St.frz, St.pur, h4_7, g4_0]; rfl) (by first | rfl | (simp [St.frz, St.pur, h4_7, g4_0]; done) | (rw [if_pos (by first | omega | (simp; omega))]; simp [St.frz, St.pur, h4_7, g4_0]; first | omega | exact List.take_of_length_le (by simp; omega) | skip)) (by simp))
end Go.Dc
end
section
set_option linter.all false
namespace Go.Dc
open Go Go.Hw Go.Proofs
set_option maxRecDepth 100000
def r14_Same_L1 (a1 : List Spin) : List Spin → Nat → Option (Unit ⊕ Bool)
  | [], k73 => some (.inl ())
  | x98 :: q94, k73 => Option.bind (a1[k73]?) (fun x105 => cond (!(x98.Func == x105.Func && (x98.First == x105.First && (x98.Last == x105.Last && true)))) (some (.inr false)) (r14_Same_L1 a1 q94 (k73 + 1)))

def r14_Same (a0 : List Spin) (a1 : List Spin) : Option Bool :=
  cond (!(eqI ((a0.length : Nat) : Int) ((a1.length : Nat) : Int))) (some false) (Option.bind (α := Unit ⊕ Bool) (Option.bind (r14_Same_L1 a1 a0 0) (fun o => match o with | .inl _ => some (.inl ()) | .inr r109 => some (.inr r109))) (fun o => match o with | .inl _ => some true | .inr r110 => some r110))

set_option maxHeartbeats 2000000 in
theorem at_r14_Same {a0 : List Spin} {a1 : List Spin} {r : Bool} (hs : r14_Same a0 a1 = some r) : At Tryd.prog 38 [.cell (.p (.sl a0.length (encL a0))), .cell (.p (.sl a1.length (encL a1)))] (bV r) := by
  refine at_bound (by kernel_rfl) fun hb => ?_
  have hb1 : LenOk (.sl a0.length (encL a0)) := hb (.cell (.p (.sl a0.length (encL a0)))) (by simp)
  have hb2 : LenOk (.sl a1.length (encL a1)) := hb (.cell (.p (.sl a1.length (encL a1)))) (by simp)
  refine at_code mixed Tryd.func38 (by kernel_rfl) rfl (by kernel_rfl) rfl fun Q hQ => ?_
  rw [r14_Same] at hs
  repeat (first | simp | with_reducible refine awp_reg ?_ | with_reducible refine And.intro (by omega) ?_ | with_reducible refine optF_if (by omega) ?_)
  refine condK_spec (!(eqI ((a0.length : Nat) : Int) ((a1.length : Nat) : Int))) (by first | rfl | (simp; done) | (simp [andB, orB, eqI, ltI, Int.natCast_inj]; done)) (fun h1 => ?_) (fun h1 => ?_)
  · replace hs := condT h1 hs
    repeat (first | simp | with_reducible refine awp_reg ?_ | with_reducible refine And.intro (by omega) ?_ | with_reducible refine optF_if (by omega) ?_)
    obtain rfl := Option.some.inj hs
    refine hQ _ _ (ret2g _ (Gh.refl _) (by simp [St.frz, St.pur]; rfl) (by first | rfl | (simp [St.frz, St.pur]; done) | (rw [if_pos (by first | omega | (simp; omega))]; simp [St.frz, St.pur]; first | omega | exact List.take_of_length_le (by simp; omega) | skip)) (by simp))
  · replace hs := condF h1 hs
    repeat (first | simp [-awp_cond_eq, -awp_block_eq] | with_reducible refine awp_reg ?_ | with_reducible refine And.intro (by omega) ?_ | with_reducible refine optF_if (by omega) ?_)
    obtain ⟨o55, e54, hs⟩ := bindO hs
    try dsimp only at hs
    refine awp_cutK (fun (v : Unit) (σ : St) => some (.inl v) = some o55 ∧ 3 ≤ σ.gen) (by rfl) (fun Q hK56 hX57 => ?_) (fun v σ3 hp => ?_)
    · repeat (first | simp | with_reducible refine awp_reg ?_ | with_reducible refine And.intro (by omega) ?_ | with_reducible refine optF_if (by omega) ?_)
      obtain ⟨o89, e88, e54⟩ := bindO e54
      try dsimp only at e54
      refine awp_loopW (fun (v : (List Spin) × Nat) (σ : St) => r14_Same_L1 a1 v.1 v.2 = some o89 ∧ v.1 = a0.drop v.2 ∧ σ.env 0 = .cell (.p (.sl a0.length (encL a0))) ∧ σ.env 1 = .cell (.p (.sl a1.length (encL a1))) ∧ σ.env 5 = iV .i64 ((v.2 : Nat) : Int) ∧ 3 ≤ σ.gen) (fun v => v.1.length) _ (Gh.refl _) (a0, 0) ⟨e88, by simp, by simp [St.frz, St.pur], by simp [St.frz, St.pur], by simp [St.frz, St.pur], by first | (simp; done) | (simp; omega) | omega⟩ fun v σ6 hp L90 hL91 => ?_
      obtain ⟨q93, k73⟩ := v
      dsimp only at hp hL91
      obtain ⟨e88, hd92, h5_0, h5_1, h5_5, n5_g⟩ := hp
      rcases q93 with _ | ⟨x98, q94⟩
      · have hlt95 := drop_end hd92
        rw [r14_Same_L1] at e88; try dsimp only at e88
        repeat (first | simp [h5_0, h5_1, h5_5] | with_reducible refine awp_reg ?_ | with_reducible refine And.intro (by omega) ?_ | with_reducible refine optF_if (by omega) ?_)
        refine condK_f (by simp [ltI]; omega) ?_
        obtain rfl := Option.some.inj e88
        try dsimp only at e54
        exact hK56 () _ _ (Gh.refl _) ⟨e54, by first | (simp; done) | (simp; omega) | omega⟩
      · obtain ⟨hx97, hlt95, hd99⟩ := drop_next hd92
        have ew96 := wrap_succ hlt95 (hb1).len
        rw [r14_Same_L1] at e88; try dsimp only at e88
        repeat (first | simp [h5_0, h5_1, h5_5, hlt95, ew96] | with_reducible refine awp_reg ?_ | with_reducible refine And.intro (by omega) ?_ | with_reducible refine optF_if (by omega) ?_)
        refine condK_t (by simp [ltI]; omega) ?_
        have f104 : partCV Tryd.prog 66 (encL a0) (k73 * 3) = some (.agg [.p (.c (.int .i64 x98.Func)), .p (.c (.int .i64 x98.First)), .p (.c (.int .i64 x98.Last))]) := partCV_enc hx97 (f := 0) (by simp)
        obtain ⟨x105, hx106, e88⟩ := bindO e88
        try dsimp only at e88
        have hx106b := getN_some hx106
        have f107 : partCV Tryd.prog 66 (encL a1) (k73 * 3) = some (.agg [.p (.c (.int .i64 x105.Func)), .p (.c (.int .i64 x105.First)), .p (.c (.int .i64 x105.Last))]) := partCV_enc hx106 (f := 0) (by simp)
        repeat (first | simp [h5_0, h5_1, h5_5, hlt95, ew96, f104, f107, eqCells] | with_reducible refine awp_reg ?_ | with_reducible refine awp_draw ?_ | with_reducible refine ord_l (by kernel_rfl) ?_ | with_reducible refine ord_e (by kernel_rfl) ?_ | with_reducible refine ord_c (by kernel_rfl) ?_ | with_reducible refine ord_d (by kernel_rfl) ?_ | with_reducible refine optF_if (by omega) ?_)
        refine condK_spec (!(x98.Func == x105.Func && (x98.First == x105.First && (x98.Last == x105.Last && true)))) (by first | rfl | (simp [h5_0, h5_1, h5_5, hlt95, ew96, f104, f107, eqCells]; done) | (simp [andB, orB, eqI, ltI, Int.natCast_inj, h5_0, h5_1, h5_5, hlt95, ew96, f104, f107, eqCells]; done)) (fun h108 => ?_) (fun h108 => ?_)
        · replace e88 := condT h108 e88
          repeat (first | simp [h5_0, h5_1, h5_5, hlt95, ew96, f104, f107, eqCells] | with_reducible refine awp_reg ?_ | with_reducible refine awp_draw ?_ | with_reducible refine ord_l (by kernel_rfl) ?_ | with_reducible refine ord_e (by kernel_rfl) ?_ | with_reducible refine ord_c (by kernel_rfl) ?_ | with_reducible refine ord_d (by kernel_rfl) ?_ | with_reducible refine optF_if (by omega) ?_)
          obtain rfl := Option.some.inj e88
          try dsimp only at e54
          obtain rfl := Option.some.inj e54
          try dsimp only at hs
          refine hX57 _ _ (by simp) ?_
          repeat (first | simp [h5_0, h5_1, h5_5, hlt95, ew96, f104, f107, eqCells] | with_reducible refine awp_reg ?_ | with_reducible refine awp_draw ?_ | with_reducible refine ord_l (by kernel_rfl) ?_ | with_reducible refine ord_e (by kernel_rfl) ?_ | with_reducible refine ord_c (by kernel_rfl) ?_ | with_reducible refine ord_d (by kernel_rfl) ?_ | with_reducible refine optF_if (by omega) ?_)
          obtain rfl := Option.some.inj hs
          refine hQ _ _ (ret2g _ (Gh.refl _) (by simp [St.frz, St.pur, h5_0, h5_1, h5_5, hlt95, ew96, f104, f107, eqCells]; rfl) (by first | rfl | (simp [St.frz, St.pur, h5_0, h5_1, h5_5, hlt95, ew96, f104, f107, eqCells]; done) | (rw [if_pos (by first | omega | (simp; omega))]; simp [St.frz, St.pur, h5_0, h5_1, h5_5, hlt95, ew96, f104, f107, eqCells]; first | omega | exact List.take_of_length_le (by simp; omega) | skip)) (by simp))
        · replace e88 := condF h108 e88
          repeat (first | simp [h5_0, h5_1, h5_5, hlt95, ew96, f104, f107, eqCells] | with_reducible refine awp_reg ?_ | with_reducible refine awp_draw ?_ | with_reducible refine ord_l (by kernel_rfl) ?_ | with_reducible refine ord_e (by kernel_rfl) ?_ | with_reducible refine ord_c (by kernel_rfl) ?_ | with_reducible refine ord_d (by kernel_rfl) ?_ | with_reducible refine optF_if (by omega) ?_)
          exact hL91 (q94, (k73 + 1)) _ _ (Gh.refl _) ⟨e88, hd99, by simp [St.frz, St.pur, h5_0, h5_1, h5_5, hlt95, ew96, f104, f107, eqCells], by simp [St.frz, St.pur, h5_0, h5_1, h5_5, hlt95, ew96, f104, f107, eqCells], by simp [St.frz, St.pur, h5_0, h5_1, h5_5, hlt95, ew96, f104, f107, eqCells], by first | (simp; done) | (simp; omega) | omega⟩ (by simp)
    · obtain ⟨e54, n4_g⟩ := hp
      obtain rfl := Option.some.inj e54
      try dsimp only at hs
      repeat (first | simp | with_reducible refine awp_reg ?_ | with_reducible refine And.intro (by omega) ?_ | with_reducible refine optF_if (by omega) ?_)
      obtain rfl := Option.some.inj hs
      refine hQ _ _ (ret2g _ (Gh.refl _) (by simp [St.frz, St.pur]; rfl) (by first | rfl | (simp [St.frz, St.pur]; done) | (rw [if_pos (by first | omega | (simp; omega))]; simp [St.frz, St.pur]; first | omega | exact List.take_of_length_le (by simp; omega) | skip)) (by simp))
end Go.Dc
end
section
set_option linter.all false
namespace Go.Dc
open Go Go.Hw Go.Proofs
set_option maxRecDepth 100000
def slices_Clone_api_Start (a0 : List Start) : Option (List Start) := guardO (limB 16 a0.length) (some a0)

set_option maxHeartbeats 2000000 in
theorem at_slices_Clone_api_Start {a0 r : List Start} (hs : slices_Clone_api_Start a0 = some r) : CAt Tryd.prog 100 [.cell (.p (.sl a0.length (encL a0)))] [] (.ret (.cell (.sl (.r 0) 0 2 r.length))) [(.r 0, .pure (encL r))] := by
  rw [slices_Clone_api_Start] at hs
  obtain ⟨g1, hs⟩ := guardO_some hs
  obtain rfl := Option.some.inj hs
  obtain ⟨g1a, g1b⟩ := limB_t g1
  refine at_code mixed Tryd.func100 (by kernel_rfl) rfl (by kernel_rfl) rfl fun Q hQ => ?_
  repeat (first | simp | with_reducible refine awp_reg ?_ | with_reducible refine And.intro (by omega) ?_ | with_reducible refine optF_if (by omega) ?_)
  unfold nilK
  simp only [Tryd.underlying51]
  refine ⟨fun h => ?_, ?_⟩
  · have h0 := encL_nil_of (by simp) h
    subst h0
    repeat (first | simp | with_reducible refine awp_reg ?_ | with_reducible refine And.intro (by omega) ?_ | with_reducible refine optF_if (by omega) ?_)
    refine hQ _ _ (ret2g _ (Gh.void _ (.r 0) 2 2 rfl (by simp)) (by simp [St.void, St.kil]; rfl) (by first | rfl | simp) (by simp [St.void, St.kil]))
  · repeat (first | simp | with_reducible refine awp_reg ?_ | with_reducible refine And.intro (by omega) ?_ | with_reducible refine optF_if (by omega) ?_)
    refine hQ _ _ (ret2g _ (Gh.ren _ (.o 3 2 0) (.r 0) (by simp) rfl rfl) (by simp; rfl) (by first | rfl | simp) (by simp))
end Go.Dc
end
section
set_option linter.all false
namespace Go.Dc
open Go Go.Hw Go.Proofs
set_option maxRecDepth 100000
def slices_Clone_api_Inst (a0 : List Inst) : Option (List Inst) := guardO (limB 64 a0.length) (some a0)

set_option maxHeartbeats 2000000 in
theorem at_slices_Clone_api_Inst {a0 r : List Inst} (hs : slices_Clone_api_Inst a0 = some r) : CAt Tryd.prog 101 [.cell (.p (.sl a0.length (encL a0)))] [] (.ret (.cell (.sl (.r 0) 0 8 r.length))) [(.r 0, .pure (encL r))] := by
  rw [slices_Clone_api_Inst] at hs
  obtain ⟨g1, hs⟩ := guardO_some hs
  obtain rfl := Option.some.inj hs
  obtain ⟨g1a, g1b⟩ := limB_t g1
  refine at_code mixed Tryd.func101 (by kernel_rfl) rfl (by kernel_rfl) rfl fun Q hQ => ?_
  repeat (first | simp | with_reducible refine awp_reg ?_ | with_reducible refine And.intro (by omega) ?_ | with_reducible refine optF_if (by omega) ?_)
  unfold nilK
  simp only [Tryd.underlying22]
  refine ⟨fun h => ?_, ?_⟩
  · have h0 := encL_nil_of (by simp) h
    subst h0
    repeat (first | simp | with_reducible refine awp_reg ?_ | with_reducible refine And.intro (by omega) ?_ | with_reducible refine optF_if (by omega) ?_)
    refine hQ _ _ (ret2g _ (Gh.void _ (.r 0) 2 8 rfl (by simp)) (by simp [St.void, St.kil]; rfl) (by first | rfl | simp) (by simp [St.void, St.kil]))
  · repeat (first | simp | with_reducible refine awp_reg ?_ | with_reducible refine And.intro (by omega) ?_ | with_reducible refine optF_if (by omega) ?_)
    refine hQ _ _ (ret2g _ (Gh.ren _ (.o 3 2 0) (.r 0) (by simp) rfl rfl) (by simp; rfl) (by first | rfl | simp) (by simp))
end Go.Dc
end
section
set_option linter.all false
namespace Go.Dc
open Go Go.Hw Go.Proofs
set_option maxRecDepth 100000
def slices_Clone_api_Var (a0 : List Var) : Option (List Var) := guardO (limB 24 a0.length) (some a0)

set_option maxHeartbeats 2000000 in
theorem at_slices_Clone_api_Var {a0 r : List Var} (hs : slices_Clone_api_Var a0 = some r) : CAt Tryd.prog 97 [.cell (.p (.sl a0.length (encL a0)))] [] (.ret (.cell (.sl (.r 0) 0 2 r.length))) [(.r 0, .pure (encL r))] := by
  rw [slices_Clone_api_Var] at hs
  obtain ⟨g1, hs⟩ := guardO_some hs
  obtain rfl := Option.some.inj hs
  obtain ⟨g1a, g1b⟩ := limB_t g1
  refine at_code mixed Tryd.func97 (by kernel_rfl) rfl (by kernel_rfl) rfl fun Q hQ => ?_
  repeat (first | simp | with_reducible refine awp_reg ?_ | with_reducible refine And.intro (by omega) ?_ | with_reducible refine optF_if (by omega) ?_)
  unfold nilK
  simp only [Tryd.underlying48]
  refine ⟨fun h => ?_, ?_⟩
  · have h0 := encL_nil_of (by simp) h
    subst h0
    repeat (first | simp | with_reducible refine awp_reg ?_ | with_reducible refine And.intro (by omega) ?_ | with_reducible refine optF_if (by omega) ?_)
    refine hQ _ _ (ret2g _ (Gh.void _ (.r 0) 2 2 rfl (by simp)) (by simp [St.void, St.kil]; rfl) (by first | rfl | simp) (by simp [St.void, St.kil]))
  · repeat (first | simp | with_reducible refine awp_reg ?_ | with_reducible refine And.intro (by omega) ?_ | with_reducible refine optF_if (by omega) ?_)
    refine hQ _ _ (ret2g _ (Gh.ren _ (.o 3 2 0) (.r 0) (by simp) rfl rfl) (by simp; rfl) (by first | rfl | simp) (by simp))
end Go.Dc
end
section
set_option linter.all false
namespace Go.Dc
open Go Go.Hw Go.Proofs
set_option maxRecDepth 100000
def slices_Clone_string (a0 : List ByteArray) : Option (List ByteArray) := guardO (limB 16 a0.length) (some a0)

set_option maxHeartbeats 2000000 in
theorem at_slices_Clone_string {a0 r : List ByteArray} (hs : slices_Clone_string a0 = some r) : CAt Tryd.prog 98 [.cell (.p (.sl a0.length (encL a0)))] [] (.ret (.cell (.sl (.r 0) 0 1 r.length))) [(.r 0, .pure (encL r))] := by
  rw [slices_Clone_string] at hs
  obtain ⟨g1, hs⟩ := guardO_some hs
  obtain rfl := Option.some.inj hs
  obtain ⟨g1a, g1b⟩ := limB_t g1
  refine at_code mixed Tryd.func98 (by kernel_rfl) rfl (by kernel_rfl) rfl fun Q hQ => ?_
  repeat (first | simp | with_reducible refine awp_reg ?_ | with_reducible refine And.intro (by omega) ?_ | with_reducible refine optF_if (by omega) ?_)
  unfold nilK
  simp only [Tryd.underlying49]
  refine ⟨fun h => ?_, ?_⟩
  · have h0 := encL_nil_of (by simp) h
    subst h0
    repeat (first | simp | with_reducible refine awp_reg ?_ | with_reducible refine And.intro (by omega) ?_ | with_reducible refine optF_if (by omega) ?_)
    refine hQ _ _ (ret2g _ (Gh.void _ (.r 0) 2 1 rfl (by simp)) (by simp [St.void, St.kil]; rfl) (by first | rfl | simp) (by simp [St.void, St.kil]))
  · repeat (first | simp | with_reducible refine awp_reg ?_ | with_reducible refine And.intro (by omega) ?_ | with_reducible refine optF_if (by omega) ?_)
    refine hQ _ _ (ret2g _ (Gh.ren _ (.o 3 2 0) (.r 0) (by simp) rfl rfl) (by simp; rfl) (by first | rfl | simp) (by simp))
end Go.Dc
end
section
set_option linter.all false
namespace Go.Dc
open Go Go.Hw Go.Proofs
set_option maxRecDepth 100000
def slices_Clone_api_Func (a0 : List Func) : Option (List Func) := guardO (limB 40 a0.length) (some a0)

set_option maxHeartbeats 2000000 in
theorem at_slices_Clone_api_Func {a0 r : List Func} (hs : slices_Clone_api_Func a0 = some r) : CAt Tryd.prog 99 [.cell (.p (.sl a0.length (encL a0)))] [] (.ret (.cell (.sl (.r 0) 0 2 r.length))) [(.r 0, .pure (encL r))] := by
  rw [slices_Clone_api_Func] at hs
  obtain ⟨g1, hs⟩ := guardO_some hs
  obtain rfl := Option.some.inj hs
  obtain ⟨g1a, g1b⟩ := limB_t g1
  refine at_code mixed Tryd.func99 (by kernel_rfl) rfl (by kernel_rfl) rfl fun Q hQ => ?_
  repeat (first | simp | with_reducible refine awp_reg ?_ | with_reducible refine And.intro (by omega) ?_ | with_reducible refine optF_if (by omega) ?_)
  unfold nilK
  simp only [Tryd.underlying50]
  refine ⟨fun h => ?_, ?_⟩
  · have h0 := encL_nil_of (by simp) h
    subst h0
    repeat (first | simp | with_reducible refine awp_reg ?_ | with_reducible refine And.intro (by omega) ?_ | with_reducible refine optF_if (by omega) ?_)
    refine hQ _ _ (ret2g _ (Gh.void _ (.r 0) 2 2 rfl (by simp)) (by simp [St.void, St.kil]; rfl) (by first | rfl | simp) (by simp [St.void, St.kil]))
  · repeat (first | simp | with_reducible refine awp_reg ?_ | with_reducible refine And.intro (by omega) ?_ | with_reducible refine optF_if (by omega) ?_)
    refine hQ _ _ (ret2g _ (Gh.ren _ (.o 3 2 0) (.r 0) (by simp) rfl rfl) (by simp; rfl) (by first | rfl | simp) (by simp))
end Go.Dc
end
section
set_option linter.all false
namespace Go.Dc
open Go Go.Hw Go.Proofs
set_option maxRecDepth 100000
def program_Clone_L1 (a0 : Program) : Nat → Nat → (List Func) → Option (List Func)
  | 0, k142, l143 => guardO (decide (l143.length ≤ k142)) (some (l143))
  | q171 + 1, k142, l143 => Option.bind (a0.Funcs[k142]?) (fun x185 => Option.bind (slices_Clone_api_Inst x185.Code) (fun y188 => Option.bind (l143[k142]?) (fun x190 => Option.bind (some (l143.set k142 ({ x190 with Code := y188 }))) (fun l194 => program_Clone_L1 a0 q171 (k142 + 1) l194))))

def program_Clone (a0 : Program) : Option Program :=
  Option.bind (slices_Clone_api_Var a0.Vars) (fun y11 => Option.bind (slices_Clone_string a0.Mutexes) (fun y13 => Option.bind (slices_Clone_string a0.Conds) (fun y15 => Option.bind (slices_Clone_api_Func a0.Funcs) (fun y17 => Option.bind (slices_Clone_api_Start a0.Threads) (fun y19 => Option.bind (α := (List Func)) (guardO (lenB y17.length) (Option.bind (program_Clone_L1 a0 y17.length 0 y17) (fun l164 => some (l164)))) (fun l106 => some ({ Vars := y11, Mutexes := y13, Conds := y15, Funcs := l106, Threads := y19 } : Program)))))))

set_option maxHeartbeats 2000000 in
theorem at_program_Clone {a0 : Program} {r : Program} (hs : program_Clone a0 = some r) : CAt Tryd.prog 68 [.agg [.p (.sl a0.Vars.length (encL a0.Vars)), .p (.sl a0.Mutexes.length (encL a0.Mutexes)), .p (.sl a0.Conds.length (encL a0.Conds)), .p (.sl a0.Funcs.length (encL a0.Funcs)), .p (.sl a0.Threads.length (encL a0.Threads))]] [] (.ret (.agg [.sl (.r 0) 0 2 r.Vars.length, .sl (.r 1) 0 1 r.Mutexes.length, .sl (.r 2) 0 1 r.Conds.length, .sl (.r 3) 0 2 r.Funcs.length, .sl (.r 4) 0 2 r.Threads.length])) [(.r 0, .pure (encL r.Vars)), (.r 1, .pure (encL r.Mutexes)), (.r 2, .pure (encL r.Conds)), (.r 3, .cells (oencL r.Funcs)), (.r 4, .pure (encL r.Threads))] := by
  refine at_bound (by kernel_rfl) fun hb => ?_
  have hb1 : LenOk (.sl a0.Vars.length (encL a0.Vars)) := hb (.agg [.p (.sl a0.Vars.length (encL a0.Vars)), .p (.sl a0.Mutexes.length (encL a0.Mutexes)), .p (.sl a0.Conds.length (encL a0.Conds)), .p (.sl a0.Funcs.length (encL a0.Funcs)), .p (.sl a0.Threads.length (encL a0.Threads))]) (by simp) (.p (.sl a0.Vars.length (encL a0.Vars))) (by simp)
  have hb2 : LenOk (.sl a0.Mutexes.length (encL a0.Mutexes)) := hb (.agg [.p (.sl a0.Vars.length (encL a0.Vars)), .p (.sl a0.Mutexes.length (encL a0.Mutexes)), .p (.sl a0.Conds.length (encL a0.Conds)), .p (.sl a0.Funcs.length (encL a0.Funcs)), .p (.sl a0.Threads.length (encL a0.Threads))]) (by simp) (.p (.sl a0.Mutexes.length (encL a0.Mutexes))) (by simp)
  have hb3 : LenOk (.sl a0.Conds.length (encL a0.Conds)) := hb (.agg [.p (.sl a0.Vars.length (encL a0.Vars)), .p (.sl a0.Mutexes.length (encL a0.Mutexes)), .p (.sl a0.Conds.length (encL a0.Conds)), .p (.sl a0.Funcs.length (encL a0.Funcs)), .p (.sl a0.Threads.length (encL a0.Threads))]) (by simp) (.p (.sl a0.Conds.length (encL a0.Conds))) (by simp)
  have hb4 : LenOk (.sl a0.Funcs.length (encL a0.Funcs)) := hb (.agg [.p (.sl a0.Vars.length (encL a0.Vars)), .p (.sl a0.Mutexes.length (encL a0.Mutexes)), .p (.sl a0.Conds.length (encL a0.Conds)), .p (.sl a0.Funcs.length (encL a0.Funcs)), .p (.sl a0.Threads.length (encL a0.Threads))]) (by simp) (.p (.sl a0.Funcs.length (encL a0.Funcs))) (by simp)
  have hb5 : LenOk (.sl a0.Threads.length (encL a0.Threads)) := hb (.agg [.p (.sl a0.Vars.length (encL a0.Vars)), .p (.sl a0.Mutexes.length (encL a0.Mutexes)), .p (.sl a0.Conds.length (encL a0.Conds)), .p (.sl a0.Funcs.length (encL a0.Funcs)), .p (.sl a0.Threads.length (encL a0.Threads))]) (by simp) (.p (.sl a0.Threads.length (encL a0.Threads))) (by simp)
  refine at_code mixed Tryd.func68 (by kernel_rfl) rfl (by kernel_rfl) rfl fun Q hQ => ?_
  rw [program_Clone] at hs
  repeat (first | simp | with_reducible refine awp_reg ?_ | with_reducible refine awp_draw ?_ | with_reducible refine ord_l (by kernel_rfl) ?_ | with_reducible refine ord_e (by kernel_rfl) ?_ | with_reducible refine ord_c (by kernel_rfl) ?_ | with_reducible refine ord_d (by kernel_rfl) ?_ | with_reducible refine And.intro (by omega) ?_ | with_reducible refine optF_if (by omega) ?_)
  obtain ⟨y11, hx12, hs⟩ := bindO hs
  try dsimp only at hs
  refine callK_at (at_slices_Clone_api_Var hx12) [] (by (first | simp | simp (disch := omega) []); try rfl) (by simp) (by simp) (by simp; rfl) (by simp; rfl) ?_
  repeat (first | simp | with_reducible refine awp_reg ?_ | with_reducible refine awp_draw ?_ | with_reducible refine ord_l (by kernel_rfl) ?_ | with_reducible refine ord_e (by kernel_rfl) ?_ | with_reducible refine ord_c (by kernel_rfl) ?_ | with_reducible refine ord_d (by kernel_rfl) ?_ | with_reducible refine And.intro (by omega) ?_ | with_reducible refine optF_if (by omega) ?_)
  obtain ⟨y13, hx14, hs⟩ := bindO hs
  try dsimp only at hs
  refine callK_at (at_slices_Clone_string hx14) [] (by (first | simp | simp (disch := omega) []); try rfl) (by simp) (by simp) (by simp; rfl) (by simp; rfl) ?_
  repeat (first | simp | with_reducible refine awp_reg ?_ | with_reducible refine awp_draw ?_ | with_reducible refine ord_l (by kernel_rfl) ?_ | with_reducible refine ord_e (by kernel_rfl) ?_ | with_reducible refine ord_c (by kernel_rfl) ?_ | with_reducible refine ord_d (by kernel_rfl) ?_ | with_reducible refine And.intro (by omega) ?_ | with_reducible refine optF_if (by omega) ?_)
  obtain ⟨y15, hx16, hs⟩ := bindO hs
  try dsimp only at hs
  refine callK_at (at_slices_Clone_string hx16) [] (by (first | simp | simp (disch := omega) []); try rfl) (by simp) (by simp) (by simp; rfl) (by simp; rfl) ?_
  repeat (first | simp | with_reducible refine awp_reg ?_ | with_reducible refine awp_draw ?_ | with_reducible refine ord_l (by kernel_rfl) ?_ | with_reducible refine ord_e (by kernel_rfl) ?_ | with_reducible refine ord_c (by kernel_rfl) ?_ | with_reducible refine ord_d (by kernel_rfl) ?_ | with_reducible refine And.intro (by omega) ?_ | with_reducible refine optF_if (by omega) ?_)
  obtain ⟨y17, hx18, hs⟩ := bindO hs
  try dsimp only at hs
  refine callK_at (at_slices_Clone_api_Func hx18) [] (by (first | simp | simp (disch := omega) []); try rfl) (by simp) (by simp) (by simp; rfl) (by simp; rfl) ?_
  repeat (first | simp | with_reducible refine awp_reg ?_ | with_reducible refine awp_draw ?_ | with_reducible refine ord_l (by kernel_rfl) ?_ | with_reducible refine ord_e (by kernel_rfl) ?_ | with_reducible refine ord_c (by kernel_rfl) ?_ | with_reducible refine ord_d (by kernel_rfl) ?_ | with_reducible refine And.intro (by omega) ?_ | with_reducible refine optF_if (by omega) ?_)
  obtain ⟨y19, hx20, hs⟩ := bindO hs
  try dsimp only at hs
  refine callK_at (at_slices_Clone_api_Start hx20) [] (by (first | simp | simp (disch := omega) []); try rfl) (by simp) (by simp) (by simp; rfl) (by simp; rfl) ?_
  repeat (first | simp [-awp_cond_eq, -awp_block_eq] | with_reducible refine awp_reg ?_ | with_reducible refine awp_draw ?_ | with_reducible refine ord_l (by kernel_rfl) ?_ | with_reducible refine ord_e (by kernel_rfl) ?_ | with_reducible refine ord_c (by kernel_rfl) ?_ | with_reducible refine ord_d (by kernel_rfl) ?_ | with_reducible refine And.intro (by omega) ?_ | with_reducible refine optF_if (by omega) ?_)
  obtain ⟨o108, e107, hs⟩ := bindO hs
  try dsimp only at hs
  refine awp_cutK (fun (v : (List Func)) (σ : St) => some (v) = some o108 ∧ σ.env 2 = .cell (.ref (.o 1 1 0) 0) ∧ σ.env 3 = .cell (.ref (.o 2 16 0) 0) ∧ σ.hp (.o 1 1 0) = some (.cells [.z, .z, .z, .z, .z]) ∧ σ.hp (.l 14) = some (.cells (oencL v)) ∧ σ.hp (.o 2 16 0) = some (.cells [.sl (.o 2 2 0) 0 2 y11.length, .sl (.o 2 5 0) 0 1 y13.length, .sl (.o 2 8 0) 0 1 y15.length, .sl (.l 14) 0 2 v.length, .sl (.o 2 14 0) 0 2 y19.length]) ∧ σ.hp (.o 2 2 0) = some (.pure (encL y11)) ∧ σ.hp (.o 2 5 0) = some (.pure (encL y13)) ∧ σ.hp (.o 2 8 0) = some (.pure (encL y15)) ∧ σ.hp (.o 2 14 0) = some (.pure (encL y19)) ∧ 3 ≤ σ.gen) (by rfl) (fun Q hK109 hX110 => ?_) (fun l106 σ3 hp => ?_)
  · repeat (first | simp | with_reducible refine awp_reg ?_ | with_reducible refine awp_draw ?_ | with_reducible refine ord_l (by kernel_rfl) ?_ | with_reducible refine ord_e (by kernel_rfl) ?_ | with_reducible refine ord_c (by kernel_rfl) ?_ | with_reducible refine ord_d (by kernel_rfl) ?_ | with_reducible refine And.intro (by omega) ?_ | with_reducible refine optF_if (by omega) ?_)
    obtain ⟨hb175, e107⟩ := guardO_some e107
    obtain ⟨o166, e165, e107⟩ := bindO e107
    try dsimp only at e107
    refine awp_loopW (fun (v : Nat × Nat × (List Func)) (σ : St) => program_Clone_L1 a0 v.1 v.2.1 v.2.2 = some o166 ∧ v.1 + v.2.1 = y17.length ∧ σ.env 1 = .cell (.ref (.o 1 0 0) 0) ∧ σ.env 2 = .cell (.ref (.o 1 1 0) 0) ∧ σ.env 3 = .cell (.ref (.o 2 16 0) 0) ∧ σ.env 23 = iV .i64 ((y17.length : Nat) : Int) ∧ σ.env 24 = iV .i64 ((v.2.1 : Nat) : Int) ∧ σ.hp (.o 1 0 0) = some (.cells [.p (.sl a0.Vars.length (encL a0.Vars)), .p (.sl a0.Mutexes.length (encL a0.Mutexes)), .p (.sl a0.Conds.length (encL a0.Conds)), .p (.sl a0.Funcs.length (encL a0.Funcs)), .p (.sl a0.Threads.length (encL a0.Threads))]) ∧ σ.hp (.o 1 1 0) = some (.cells [.z, .z, .z, .z, .z]) ∧ σ.hp (.l 39) = some (.cells (mixL v.2.1 v.2.2)) ∧ σ.hp (.o 2 16 0) = some (.cells [.sl (.o 2 2 0) 0 2 y11.length, .sl (.o 2 5 0) 0 1 y13.length, .sl (.o 2 8 0) 0 1 y15.length, .sl (.l 39) 0 2 v.2.2.length, .sl (.o 2 14 0) 0 2 y19.length]) ∧ σ.hp (.o 2 2 0) = some (.pure (encL y11)) ∧ σ.hp (.o 2 5 0) = some (.pure (encL y13)) ∧ σ.hp (.o 2 8 0) = some (.pure (encL y15)) ∧ σ.hp (.o 2 14 0) = some (.pure (encL y19)) ∧ 3 ≤ σ.gen) (fun v => v.1) _ ((Gh.cel _ (.o 2 11 0)).trans (Gh.ren _ (.o 2 11 0) (.l 39) (by simp) rfl rfl)) (y17.length, 0, y17) ⟨e165, by first | omega | simp | (simp; omega), by simp [St.frz, St.pur], by simp [St.frz, St.pur], by simp [St.frz, St.pur], by simp [St.frz, St.pur], by simp [St.frz, St.pur], by simp [St.frz, St.pur], by simp [St.frz, St.pur], by simp [St.frz, St.pur], by simp [St.frz, St.pur], by simp [St.frz, St.pur], by simp [St.frz, St.pur], by simp [St.frz, St.pur], by simp [St.frz, St.pur], by first | (simp; done) | (simp; omega) | omega⟩ fun v σ6 hp L167 hL168 => ?_
    obtain ⟨q170, k142, l143⟩ := v
    dsimp only at hp hL168
    obtain ⟨e165, hd169, h5_1, h5_2, h5_3, h5_23, h5_24, g5_0, g5_1, g5_2, g5_3, g5_4, g5_5, g5_6, g5_7, n5_g⟩ := hp
    have n5_0 : ¬ (σ6.gen = 0) := by omega
    have n5_1 : ¬ (σ6.gen = 1) := by omega
    rcases q170 with _ | q171
    · have hlt172 : ¬ k142 < y17.length := by omega
      rw [program_Clone_L1] at e165; try dsimp only at e165
      repeat (first | simp [h5_1, h5_2, h5_3, h5_23, h5_24, g5_0, g5_1, g5_2, g5_3, g5_4, g5_5, g5_6, g5_7, n5_0, n5_1] | with_reducible refine awp_reg ?_)
      refine condK_f (by simp [ltI]; omega) ?_
      obtain ⟨g176, e165⟩ := guardO_some e165
      have g176 := mixL_full (of_decide_eq_true g176)
      obtain rfl := Option.some.inj e165
      try dsimp only at e107
      exact hK109 l143 _ _ (Gh.ren _ (.l 39) (.l 14) (by simp) rfl rfl) ⟨e107, by simp [St.frz, St.pur, h5_1, h5_2, h5_3, h5_23, h5_24, g5_0, g5_1, g5_2, g5_3, g5_4, g5_5, g5_6, g5_7, n5_0, n5_1, g176], by simp [St.frz, St.pur, h5_1, h5_2, h5_3, h5_23, h5_24, g5_0, g5_1, g5_2, g5_3, g5_4, g5_5, g5_6, g5_7, n5_0, n5_1, g176], by simp [St.frz, St.pur, h5_1, h5_2, h5_3, h5_23, h5_24, g5_0, g5_1, g5_2, g5_3, g5_4, g5_5, g5_6, g5_7, n5_0, n5_1, g176], by simp [St.frz, St.pur, h5_1, h5_2, h5_3, h5_23, h5_24, g5_0, g5_1, g5_2, g5_3, g5_4, g5_5, g5_6, g5_7, n5_0, n5_1, g176], by simp [St.frz, St.pur, h5_1, h5_2, h5_3, h5_23, h5_24, g5_0, g5_1, g5_2, g5_3, g5_4, g5_5, g5_6, g5_7, n5_0, n5_1, g176], by simp [St.frz, St.pur, h5_1, h5_2, h5_3, h5_23, h5_24, g5_0, g5_1, g5_2, g5_3, g5_4, g5_5, g5_6, g5_7, n5_0, n5_1, g176], by simp [St.frz, St.pur, h5_1, h5_2, h5_3, h5_23, h5_24, g5_0, g5_1, g5_2, g5_3, g5_4, g5_5, g5_6, g5_7, n5_0, n5_1, g176], by simp [St.frz, St.pur, h5_1, h5_2, h5_3, h5_23, h5_24, g5_0, g5_1, g5_2, g5_3, g5_4, g5_5, g5_6, g5_7, n5_0, n5_1, g176], by simp [St.frz, St.pur, h5_1, h5_2, h5_3, h5_23, h5_24, g5_0, g5_1, g5_2, g5_3, g5_4, g5_5, g5_6, g5_7, n5_0, n5_1, g176], by first | (simp; done) | (simp; omega) | omega⟩
    · have hlt172 : k142 < y17.length := by omega
      have ew173 := wrap_succG hlt172 hb175
      rw [program_Clone_L1] at e165; try dsimp only at e165
      repeat (first | simp [h5_1, h5_2, h5_3, h5_23, h5_24, g5_0, g5_1, g5_2, g5_3, g5_4, g5_5, g5_6, g5_7, n5_0, n5_1, hlt172, ew173] | with_reducible refine awp_reg ?_)
      refine condK_t (by simp [ltI]; omega) ?_
      obtain ⟨x185, hx186, e165⟩ := bindO e165
      try dsimp only at e165
      have hx186b := getN_some hx186
      have f187 : partCV Tryd.prog 22 (encL a0.Funcs) (k142 * 2 + 1) = some (.cell (.p (.sl x185.Code.length (encL x185.Code)))) := partCV_enc hx186 (f := 1) (by simp)
      repeat (first | simp [h5_1, h5_2, h5_3, h5_23, h5_24, g5_0, g5_1, g5_2, g5_3, g5_4, g5_5, g5_6, g5_7, n5_0, n5_1, hlt172, ew173, f187] | with_reducible refine awp_reg ?_ | with_reducible refine awp_draw ?_ | with_reducible refine ord_l (by kernel_rfl) ?_ | with_reducible refine ord_e (by kernel_rfl) ?_ | with_reducible refine ord_c (by kernel_rfl) ?_ | with_reducible refine ord_d (by kernel_rfl) ?_ | with_reducible refine And.intro (by omega) ?_ | with_reducible refine optF_if (by omega) ?_)
      obtain ⟨y188, hx189, e165⟩ := bindO e165
      try dsimp only at e165
      refine callK_at (at_slices_Clone_api_Inst hx189) [] (by (first | simp [h5_1, h5_2, h5_3, h5_23, h5_24, g5_0, g5_1, g5_2, g5_3, g5_4, g5_5, g5_6, g5_7, n5_0, n5_1, hlt172, ew173, f187] | simp (disch := omega) [h5_1, h5_2, h5_3, h5_23, h5_24, g5_0, g5_1, g5_2, g5_3, g5_4, g5_5, g5_6, g5_7, n5_0, n5_1, hlt172, ew173, f187]); try rfl) (by simp) (by simp) (by simp; rfl) (by simp [h5_1, h5_2, h5_3, h5_23, h5_24, g5_0, g5_1, g5_2, g5_3, g5_4, g5_5, g5_6, g5_7, n5_0, n5_1, hlt172, ew173, f187]; rfl) ?_
      obtain ⟨x190, hx191, e165⟩ := bindO e165
      try dsimp only at e165
      have hx191b := getN_some hx191
      have f192l : k142 * 2 + 1 < (mixL k142 l143).length := by rw [mixL_length]; have := getN_some hx191; simp; omega
      have f192c := fun c => (set_seg f192l c).1
      have f192d := fun c => (set_seg f192l c).2
      obtain ⟨l194, hx195, e165⟩ := bindO e165
      try dsimp only at e165
      replace hx195 := (Option.some.inj hx195).symm
      have f193 : (mixL k142 l143).set (k142 * 2 + 1) (.own (.sp 8 y188.length (encL y188))) = mixL (k142 + 1) l194 := by rw [hx195]; exact mixL_set hx191 (f := 1) (by simp) rfl
      have f193n : l194.length = l143.length := by rw [hx195]; simp
      repeat (first | simp [h5_1, h5_2, h5_3, h5_23, h5_24, g5_0, g5_1, g5_2, g5_3, g5_4, g5_5, g5_6, g5_7, n5_0, n5_1, hlt172, ew173, f187, f192c, f192d, f193, f193n] | with_reducible refine ord_l (by kernel_rfl) ?_ | with_reducible refine ord_e (by kernel_rfl) ?_ | with_reducible refine ord_c (by kernel_rfl) ?_ | with_reducible refine ord_d (by kernel_rfl) ?_ | with_reducible refine And.intro (by omega) ?_ | with_reducible refine optF_if (by omega) ?_)
      refine awp_gh (by rfl) (Gh.close _ (.l 39) (k142 * 2 + 1)) ?_
      try simp only [St.frz, St.pur]
      repeat (first | simp [h5_1, h5_2, h5_3, h5_23, h5_24, g5_0, g5_1, g5_2, g5_3, g5_4, g5_5, g5_6, g5_7, n5_0, n5_1, hlt172, ew173, f187, f192c, f192d, f193, f193n] | with_reducible refine awp_reg ?_)
      exact hL168 (q171, (k142 + 1), l194) _ _ (Gh.refl _) ⟨e165, (by first | omega | (simp; omega)), by simp [St.frz, St.pur, h5_1, h5_2, h5_3, h5_23, h5_24, g5_0, g5_1, g5_2, g5_3, g5_4, g5_5, g5_6, g5_7, n5_0, n5_1, hlt172, ew173, f187, f192c, f192d, f193, f193n], by simp [St.frz, St.pur, h5_1, h5_2, h5_3, h5_23, h5_24, g5_0, g5_1, g5_2, g5_3, g5_4, g5_5, g5_6, g5_7, n5_0, n5_1, hlt172, ew173, f187, f192c, f192d, f193, f193n], by simp [St.frz, St.pur, h5_1, h5_2, h5_3, h5_23, h5_24, g5_0, g5_1, g5_2, g5_3, g5_4, g5_5, g5_6, g5_7, n5_0, n5_1, hlt172, ew173, f187, f192c, f192d, f193, f193n], by simp [St.frz, St.pur, h5_1, h5_2, h5_3, h5_23, h5_24, g5_0, g5_1, g5_2, g5_3, g5_4, g5_5, g5_6, g5_7, n5_0, n5_1, hlt172, ew173, f187, f192c, f192d, f193, f193n], by simp [St.frz, St.pur, h5_1, h5_2, h5_3, h5_23, h5_24, g5_0, g5_1, g5_2, g5_3, g5_4, g5_5, g5_6, g5_7, n5_0, n5_1, hlt172, ew173, f187, f192c, f192d, f193, f193n], by simp [St.frz, St.pur, h5_1, h5_2, h5_3, h5_23, h5_24, g5_0, g5_1, g5_2, g5_3, g5_4, g5_5, g5_6, g5_7, n5_0, n5_1, hlt172, ew173, f187, f192c, f192d, f193, f193n], by simp [St.frz, St.pur, h5_1, h5_2, h5_3, h5_23, h5_24, g5_0, g5_1, g5_2, g5_3, g5_4, g5_5, g5_6, g5_7, n5_0, n5_1, hlt172, ew173, f187, f192c, f192d, f193, f193n], by simp [St.frz, St.pur, h5_1, h5_2, h5_3, h5_23, h5_24, g5_0, g5_1, g5_2, g5_3, g5_4, g5_5, g5_6, g5_7, n5_0, n5_1, hlt172, ew173, f187, f192c, f192d, f193, f193n], by simp [St.frz, St.pur, h5_1, h5_2, h5_3, h5_23, h5_24, g5_0, g5_1, g5_2, g5_3, g5_4, g5_5, g5_6, g5_7, n5_0, n5_1, hlt172, ew173, f187, f192c, f192d, f193, f193n], by simp [St.frz, St.pur, h5_1, h5_2, h5_3, h5_23, h5_24, g5_0, g5_1, g5_2, g5_3, g5_4, g5_5, g5_6, g5_7, n5_0, n5_1, hlt172, ew173, f187, f192c, f192d, f193, f193n], by simp [St.frz, St.pur, h5_1, h5_2, h5_3, h5_23, h5_24, g5_0, g5_1, g5_2, g5_3, g5_4, g5_5, g5_6, g5_7, n5_0, n5_1, hlt172, ew173, f187, f192c, f192d, f193, f193n], by simp [St.frz, St.pur, h5_1, h5_2, h5_3, h5_23, h5_24, g5_0, g5_1, g5_2, g5_3, g5_4, g5_5, g5_6, g5_7, n5_0, n5_1, hlt172, ew173, f187, f192c, f192d, f193, f193n], by simp [St.frz, St.pur, h5_1, h5_2, h5_3, h5_23, h5_24, g5_0, g5_1, g5_2, g5_3, g5_4, g5_5, g5_6, g5_7, n5_0, n5_1, hlt172, ew173, f187, f192c, f192d, f193, f193n], by first | (simp; done) | (simp; omega) | omega⟩ (by omega)
  · obtain ⟨e107, h4_2, h4_3, g4_0, g4_1, g4_2, g4_3, g4_4, g4_5, g4_6, n4_g⟩ := hp
    obtain rfl := Option.some.inj e107
    try dsimp only at hs
    have n4_0 : ¬ (σ3.gen = 0) := by omega
    have n4_1 : ¬ (σ3.gen = 1) := by omega
    repeat (first | simp [h4_2, h4_3, g4_0, g4_1, g4_2, g4_3, g4_4, g4_5, g4_6, n4_0, n4_1] | with_reducible refine awp_reg ?_ | with_reducible refine awp_draw ?_ | with_reducible refine ord_l (by kernel_rfl) ?_ | with_reducible refine ord_e (by kernel_rfl) ?_ | with_reducible refine ord_c (by kernel_rfl) ?_ | with_reducible refine ord_d (by kernel_rfl) ?_ | with_reducible refine And.intro (by omega) ?_ | with_reducible refine optF_if (by omega) ?_)
    obtain rfl := Option.some.inj hs
    refine hQ _ _ (ret2g _ ((Gh.ren _ (.o 2 2 0) (.r 0) (by simp) rfl rfl).trans ((Gh.ren _ (.o 2 5 0) (.r 1) (by simp) rfl rfl).trans ((Gh.ren _ (.o 2 8 0) (.r 2) (by simp) rfl rfl).trans ((Gh.ren _ (.l 14) (.r 3) (by simp) rfl rfl).trans (Gh.ren _ (.o 2 14 0) (.r 4) (by simp) rfl rfl))))) (by simp [St.frz, St.pur, h4_2, h4_3, g4_0, g4_1, g4_2, g4_3, g4_4, g4_5, g4_6, n4_0, n4_1]; rfl) (by first | rfl | (simp [St.frz, St.pur, h4_2, h4_3, g4_0, g4_1, g4_2, g4_3, g4_4, g4_5, g4_6, n4_0, n4_1]; done) | (rw [if_pos (by first | omega | (simp; omega))]; simp [St.frz, St.pur, h4_2, h4_3, g4_0, g4_1, g4_2, g4_3, g4_4, g4_5, g4_6, n4_0, n4_1]; first | omega | exact List.take_of_length_le (by simp; omega) | skip)) (by simp [St.frz, St.pur, h4_2, h4_3, g4_0, g4_1, g4_2, g4_3, g4_4, g4_5, g4_6, n4_0, n4_1]))
end Go.Dc
end
section
set_option linter.all false
namespace Go.Dc
open Go Go.Hw Go.Proofs
set_option maxRecDepth 100000
def await_Rewrite_L1 : List AwaitSpin → Nat → (List Func) → Option (List Func)
  | [], k162, l163 => some (l163)
  | x197 :: q193, k162, l163 => Option.bind (getI l163 x197.fn) (fun x201 => Option.bind (getI x201.Code x197.first) (fun x211 => Option.bind (some (x201.Code.set ((x197.first).toNat) x197.await)) (fun l213 => Option.bind (some (l163.set ((x197.fn).toNat) ({ x201 with Code := l213 }))) (fun l217 => await_Rewrite_L1 q193 (k162 + 1) l217))))

def await_Rewrite (fuelN : Nat) (a0 : Program) : Option (Program × Int) :=
  Option.bind (program_Check fuelN a0) (fun y1 => cond (!(eqI y1.1 0)) (some (({ Vars := [], Mutexes := [], Conds := [], Funcs := [], Threads := [] } : Program), y1.1)) (Option.bind (program_Clone a0) (fun y4 => Option.bind (await_spins fuelN a0) (fun y6 => Option.bind (α := (List Func)) (guardO (lenB y6.length) (Option.bind (await_Rewrite_L1 y6 0 y4.Funcs) (fun l186 => some (l186)))) (fun l111 => some ({ y4 with Funcs := l111 }, 0))))))

set_option maxHeartbeats 2000000 in
theorem at_await_Rewrite {fuelN : Nat} {a0 : Program} {r : Program × Int} (hs : await_Rewrite fuelN a0 = some r) : At Tryd.prog 40 [.agg [.p (.sl a0.Vars.length (encL a0.Vars)), .p (.sl a0.Mutexes.length (encL a0.Mutexes)), .p (.sl a0.Conds.length (encL a0.Conds)), .p (.sl a0.Funcs.length (encL a0.Funcs)), .p (.sl a0.Threads.length (encL a0.Threads))]] (.tup [.agg [.p (.sl r.1.Vars.length (encL r.1.Vars)), .p (.sl r.1.Mutexes.length (encL r.1.Mutexes)), .p (.sl r.1.Conds.length (encL r.1.Conds)), .p (.sl r.1.Funcs.length (encL r.1.Funcs)), .p (.sl r.1.Threads.length (encL r.1.Threads))], iV .i64 r.2]) := by
  refine at_bound (by kernel_rfl) fun hb => ?_
  have hb1 : LenOk (.sl a0.Vars.length (encL a0.Vars)) := hb (.agg [.p (.sl a0.Vars.length (encL a0.Vars)), .p (.sl a0.Mutexes.length (encL a0.Mutexes)), .p (.sl a0.Conds.length (encL a0.Conds)), .p (.sl a0.Funcs.length (encL a0.Funcs)), .p (.sl a0.Threads.length (encL a0.Threads))]) (by simp) (.p (.sl a0.Vars.length (encL a0.Vars))) (by simp)
  have hb2 : LenOk (.sl a0.Mutexes.length (encL a0.Mutexes)) := hb (.agg [.p (.sl a0.Vars.length (encL a0.Vars)), .p (.sl a0.Mutexes.length (encL a0.Mutexes)), .p (.sl a0.Conds.length (encL a0.Conds)), .p (.sl a0.Funcs.length (encL a0.Funcs)), .p (.sl a0.Threads.length (encL a0.Threads))]) (by simp) (.p (.sl a0.Mutexes.length (encL a0.Mutexes))) (by simp)
  have hb3 : LenOk (.sl a0.Conds.length (encL a0.Conds)) := hb (.agg [.p (.sl a0.Vars.length (encL a0.Vars)), .p (.sl a0.Mutexes.length (encL a0.Mutexes)), .p (.sl a0.Conds.length (encL a0.Conds)), .p (.sl a0.Funcs.length (encL a0.Funcs)), .p (.sl a0.Threads.length (encL a0.Threads))]) (by simp) (.p (.sl a0.Conds.length (encL a0.Conds))) (by simp)
  have hb4 : LenOk (.sl a0.Funcs.length (encL a0.Funcs)) := hb (.agg [.p (.sl a0.Vars.length (encL a0.Vars)), .p (.sl a0.Mutexes.length (encL a0.Mutexes)), .p (.sl a0.Conds.length (encL a0.Conds)), .p (.sl a0.Funcs.length (encL a0.Funcs)), .p (.sl a0.Threads.length (encL a0.Threads))]) (by simp) (.p (.sl a0.Funcs.length (encL a0.Funcs))) (by simp)
  have hb5 : LenOk (.sl a0.Threads.length (encL a0.Threads)) := hb (.agg [.p (.sl a0.Vars.length (encL a0.Vars)), .p (.sl a0.Mutexes.length (encL a0.Mutexes)), .p (.sl a0.Conds.length (encL a0.Conds)), .p (.sl a0.Funcs.length (encL a0.Funcs)), .p (.sl a0.Threads.length (encL a0.Threads))]) (by simp) (.p (.sl a0.Threads.length (encL a0.Threads))) (by simp)
  refine at_code mixed Tryd.func40 (by kernel_rfl) rfl (by kernel_rfl) rfl fun Q hQ => ?_
  rw [await_Rewrite] at hs
  repeat (first | simp | with_reducible refine awp_reg ?_ | with_reducible refine And.intro (by omega) ?_ | with_reducible refine optF_if (by omega) ?_)
  obtain ⟨y1, hx2, hs⟩ := bindO hs
  try dsimp only at hs
  refine callK_pure (at_program_Check hx2) (by (first | simp | simp (disch := omega) []); try rfl) (by simp) (by simp) ?_
  repeat (first | simp | with_reducible refine awp_reg ?_ | with_reducible refine And.intro (by omega) ?_ | with_reducible refine optF_if (by omega) ?_)
  refine condK_spec (!(eqI y1.1 0)) (by first | rfl | (simp; done) | (simp [andB, orB, eqI, ltI, Int.natCast_inj]; done)) (fun h3 => ?_) (fun h3 => ?_)
  · replace hs := condT h3 hs
    repeat (first | simp | with_reducible refine awp_reg ?_ | with_reducible refine And.intro (by omega) ?_ | with_reducible refine optF_if (by omega) ?_)
    obtain rfl := Option.some.inj hs
    refine hQ _ _ (ret2g _ (Gh.unz _) (by simp [St.frz, St.pur]; rfl) (by first | rfl | (simp [St.frz, St.pur]; done) | (rw [if_pos (by first | omega | (simp; omega))]; simp [St.frz, St.pur]; first | omega | exact List.take_of_length_le (by simp; omega) | skip)) (by simp))
  · replace hs := condF h3 hs
    repeat (first | simp | with_reducible refine awp_reg ?_ | with_reducible refine And.intro (by omega) ?_ | with_reducible refine optF_if (by omega) ?_)
    obtain ⟨y4, hx5, hs⟩ := bindO hs
    try dsimp only at hs
    refine callK_at (at_program_Clone hx5) [] (by (first | simp | simp (disch := omega) []); try rfl) (by simp) (by simp) (by simp; rfl) (by simp; rfl) ?_
    repeat (first | simp | with_reducible refine awp_reg ?_ | with_reducible refine And.intro (by omega) ?_ | with_reducible refine optF_if (by omega) ?_)
    obtain ⟨y6, hx7, hs⟩ := bindO hs
    try dsimp only at hs
    refine callK_pure (at_await_spins hx7) (by (first | simp | simp (disch := omega) []); try rfl) (by simp) (by simp) ?_
    repeat (first | simp [-awp_cond_eq, -awp_block_eq] | with_reducible refine awp_reg ?_ | with_reducible refine And.intro (by omega) ?_ | with_reducible refine optF_if (by omega) ?_)
    obtain ⟨o113, e112, hs⟩ := bindO hs
    try dsimp only at hs
    refine awp_cutK (fun (v : (List Func)) (σ : St) => some (v) = some o113 ∧ σ.env 2 = .cell (.ref (.o 1 1 0) 0) ∧ σ.env 7 = .cell (.ref (.o 4 2 0) 0) ∧ σ.hp (.o 1 1 0) = some (.cells [.z, .z, .z, .z, .z]) ∧ σ.hp (.l 14) = some (.cells (oencL v)) ∧ σ.hp (.o 4 2 0) = some (.cells [.sl (.o 4 1 0) 0 2 y4.Vars.length, .sl (.o 4 1 1) 0 1 y4.Mutexes.length, .sl (.o 4 1 2) 0 1 y4.Conds.length, .sl (.l 14) 0 2 v.length, .sl (.o 4 1 4) 0 2 y4.Threads.length]) ∧ σ.hp (.o 4 1 0) = some (.pure (encL y4.Vars)) ∧ σ.hp (.o 4 1 1) = some (.pure (encL y4.Mutexes)) ∧ σ.hp (.o 4 1 2) = some (.pure (encL y4.Conds)) ∧ σ.hp (.o 4 1 4) = some (.pure (encL y4.Threads)) ∧ 5 ≤ σ.gen) (by rfl) (fun Q hK114 hX115 => ?_) (fun l111 σ3 hp => ?_)
    · repeat (first | simp | with_reducible refine awp_reg ?_ | with_reducible refine And.intro (by omega) ?_ | with_reducible refine optF_if (by omega) ?_)
      obtain ⟨hb198, e112⟩ := guardO_some e112
      obtain ⟨o188, e187, e112⟩ := bindO e112
      try dsimp only at e112
      refine awp_loopW (fun (v : (List AwaitSpin) × Nat × (List Func)) (σ : St) => await_Rewrite_L1 v.1 v.2.1 v.2.2 = some o188 ∧ v.1 = y6.drop v.2.1 ∧ σ.env 2 = .cell (.ref (.o 1 1 0) 0) ∧ σ.env 7 = .cell (.ref (.o 4 2 0) 0) ∧ σ.env 23 = .cell (.p (.sl y6.length (encL y6))) ∧ σ.env 24 = iV .i64 ((y6.length : Nat) : Int) ∧ σ.env 25 = iV .i64 ((v.2.1 : Nat) : Int) ∧ σ.hp (.o 1 1 0) = some (.cells [.z, .z, .z, .z, .z]) ∧ σ.hp (.l 39) = some (.cells (oencL v.2.2)) ∧ σ.hp (.o 4 2 0) = some (.cells [.sl (.o 4 1 0) 0 2 y4.Vars.length, .sl (.o 4 1 1) 0 1 y4.Mutexes.length, .sl (.o 4 1 2) 0 1 y4.Conds.length, .sl (.l 39) 0 2 v.2.2.length, .sl (.o 4 1 4) 0 2 y4.Threads.length]) ∧ σ.hp (.o 4 1 0) = some (.pure (encL y4.Vars)) ∧ σ.hp (.o 4 1 1) = some (.pure (encL y4.Mutexes)) ∧ σ.hp (.o 4 1 2) = some (.pure (encL y4.Conds)) ∧ σ.hp (.o 4 1 4) = some (.pure (encL y4.Threads)) ∧ 5 ≤ σ.gen) (fun v => v.1.length) _ (Gh.ren _ (.o 4 1 3) (.l 39) (by simp) rfl rfl) (y6, 0, y4.Funcs) ⟨e187, by simp, by simp [St.frz, St.pur], by simp [St.frz, St.pur], by simp [St.frz, St.pur], by simp [St.frz, St.pur], by simp [St.frz, St.pur], by simp [St.frz, St.pur], by simp [St.frz, St.pur], by simp [St.frz, St.pur], by simp [St.frz, St.pur], by simp [St.frz, St.pur], by simp [St.frz, St.pur], by simp [St.frz, St.pur], by first | (simp; done) | (simp; omega) | omega⟩ fun v σ6 hp L189 hL190 => ?_
      obtain ⟨q192, k162, l163⟩ := v
      dsimp only at hp hL190
      obtain ⟨e187, hd191, h5_2, h5_7, h5_23, h5_24, h5_25, g5_0, g5_1, g5_2, g5_3, g5_4, g5_5, g5_6, n5_g⟩ := hp
      have n5_0 : ¬ (σ6.gen = 0) := by omega
      have n5_1 : ¬ (σ6.gen = 1) := by omega
      have n5_2 : ¬ (σ6.gen = 2) := by omega
      have n5_3 : ¬ (σ6.gen = 3) := by omega
      rcases q192 with _ | ⟨x197, q193⟩
      · have hlt194 := drop_end hd191
        rw [await_Rewrite_L1] at e187; try dsimp only at e187
        repeat (first | simp [h5_2, h5_7, h5_23, h5_24, h5_25, g5_0, g5_1, g5_2, g5_3, g5_4, g5_5, g5_6, n5_0, n5_1, n5_2, n5_3] | with_reducible refine awp_reg ?_)
        refine condK_f (by simp [ltI]; omega) ?_
        obtain rfl := Option.some.inj e187
        try dsimp only at e112
        exact hK114 l163 _ _ (Gh.ren _ (.l 39) (.l 14) (by simp) rfl rfl) ⟨e112, by simp [St.frz, St.pur, h5_2, h5_7, h5_23, h5_24, h5_25, g5_0, g5_1, g5_2, g5_3, g5_4, g5_5, g5_6, n5_0, n5_1, n5_2, n5_3], by simp [St.frz, St.pur, h5_2, h5_7, h5_23, h5_24, h5_25, g5_0, g5_1, g5_2, g5_3, g5_4, g5_5, g5_6, n5_0, n5_1, n5_2, n5_3], by simp [St.frz, St.pur, h5_2, h5_7, h5_23, h5_24, h5_25, g5_0, g5_1, g5_2, g5_3, g5_4, g5_5, g5_6, n5_0, n5_1, n5_2, n5_3], by simp [St.frz, St.pur, h5_2, h5_7, h5_23, h5_24, h5_25, g5_0, g5_1, g5_2, g5_3, g5_4, g5_5, g5_6, n5_0, n5_1, n5_2, n5_3], by simp [St.frz, St.pur, h5_2, h5_7, h5_23, h5_24, h5_25, g5_0, g5_1, g5_2, g5_3, g5_4, g5_5, g5_6, n5_0, n5_1, n5_2, n5_3], by simp [St.frz, St.pur, h5_2, h5_7, h5_23, h5_24, h5_25, g5_0, g5_1, g5_2, g5_3, g5_4, g5_5, g5_6, n5_0, n5_1, n5_2, n5_3], by simp [St.frz, St.pur, h5_2, h5_7, h5_23, h5_24, h5_25, g5_0, g5_1, g5_2, g5_3, g5_4, g5_5, g5_6, n5_0, n5_1, n5_2, n5_3], by simp [St.frz, St.pur, h5_2, h5_7, h5_23, h5_24, h5_25, g5_0, g5_1, g5_2, g5_3, g5_4, g5_5, g5_6, n5_0, n5_1, n5_2, n5_3], by simp [St.frz, St.pur, h5_2, h5_7, h5_23, h5_24, h5_25, g5_0, g5_1, g5_2, g5_3, g5_4, g5_5, g5_6, n5_0, n5_1, n5_2, n5_3], by first | (simp; done) | (simp; omega) | omega⟩
      · obtain ⟨hx196, hlt194, hd199⟩ := drop_next hd191
        have ew195 := wrap_succG hlt194 hb198
        rw [await_Rewrite_L1] at e187; try dsimp only at e187
        repeat (first | simp [h5_2, h5_7, h5_23, h5_24, h5_25, g5_0, g5_1, g5_2, g5_3, g5_4, g5_5, g5_6, n5_0, n5_1, n5_2, n5_3, hlt194, ew195] | with_reducible refine awp_reg ?_)
        refine condK_t (by simp [ltI]; omega) ?_
        have f200 : partCV Tryd.prog 100 (encL y6) (k162 * 10) = some (.agg [.p (.c (.int .i64 x197.fn)), .p (.c (.int .i64 x197.first)), .p (.c (.int .i64 x197.await.Op)), .p (.c (.int .i64 x197.await.A)), .p (.c (.int .i64 x197.await.B)), .p (.c (.int .i64 x197.await.C)), .p (.c (.int .i64 x197.await.Obj)), .p (.c (.int .i64 x197.await.N)), .p (.c (.int .i64 x197.await.Fn)), .p (.c (.int .i64 x197.await.Order))]) := partCV_enc hx196 (f := 0) (by simp)
        obtain ⟨x201, hx202, e187⟩ := bindO e187
        try dsimp only at e187
        obtain ⟨hx202a, hx202b, hx202c, hx202d⟩ := getI_some hx202
        repeat (first | simp [h5_2, h5_7, h5_23, h5_24, h5_25, g5_0, g5_1, g5_2, g5_3, g5_4, g5_5, g5_6, n5_0, n5_1, n5_2, n5_3, hlt194, ew195, f200] | with_reducible refine ord_l (by kernel_rfl) ?_ | with_reducible refine ord_e (by kernel_rfl) ?_ | with_reducible refine ord_c (by kernel_rfl) ?_ | with_reducible refine ord_d (by kernel_rfl) ?_ | with_reducible refine And.intro (by omega) ?_ | with_reducible refine optF_if (by omega) ?_)
        refine awp_reg ?_
        repeat (first | simp [h5_2, h5_7, h5_23, h5_24, h5_25, g5_0, g5_1, g5_2, g5_3, g5_4, g5_5, g5_6, n5_0, n5_1, n5_2, n5_3, hlt194, ew195, f200] | with_reducible refine ord_l (by kernel_rfl) ?_ | with_reducible refine ord_e (by kernel_rfl) ?_ | with_reducible refine ord_c (by kernel_rfl) ?_ | with_reducible refine ord_d (by kernel_rfl) ?_ | with_reducible refine And.intro (by omega) ?_ | with_reducible refine optF_if (by omega) ?_)
        have f203a : (oencL l163)[((x197.fn).toNat) * 2 + 1]? = some (.own (.sp 8 x201.Code.length (encL x201.Code))) := oencL_get hx202d (f := 1) rfl
        have f203l : ((x197.fn).toNat) * 2 + 1 < (oencL l163).length := (List.getElem?_eq_some_iff.1 f203a).1
        have f203c := fun c => (set_seg f203l c).1
        have f203d := fun c => (set_seg f203l c).2
        refine awp_gh (by rfl) (Gh.opn _ (.l 39) (((x197.fn).toNat) * 2 + 1)) ?_
        obtain ⟨x211, hx212, e187⟩ := bindO e187
        try dsimp only at e187
        obtain ⟨hx212a, hx212b, hx212c, hx212d⟩ := getI_some hx212
        obtain ⟨l213, hx214, e187⟩ := bindO e187
        try dsimp only at e187
        replace hx214 := (Option.some.inj hx214).symm
        have f215 : setRun (encL x201.Code) (((x197.first).toNat) * 8) [.c (.int .i64 x197.await.Op), .c (.int .i64 x197.await.A), .c (.int .i64 x197.await.B), .c (.int .i64 x197.await.C), .c (.int .i64 x197.await.Obj), .c (.int .i64 x197.await.N), .c (.int .i64 x197.await.Fn), .c (.int .i64 x197.await.Order)] = encL l213 := hx214 ▸ setRun_enc hx212d (f := 0) (by simp) (by simp [setRun])
        simp only [setRun] at f215
        have f215n : l213.length = x201.Code.length := by rw [hx214]; simp
        obtain ⟨l217, hx218, e187⟩ := bindO e187
        try dsimp only at e187
        replace hx218 := (Option.some.inj hx218).symm
        have f216 : (oencL l163).set (((x197.fn).toNat) * 2 + 1) (.own (.sp 8 l213.length (encL l213))) = oencL l217 := by rw [hx218]; exact oencL_set hx202d (f := 1) (by simp) rfl
        have f216n : l217.length = l163.length := by rw [hx218]; simp
        have f216t : (encL l213).take (l213.length * 8) = encL l213 := encL_takeN _ (by simp)
        have f216u : l213.length = x201.Code.length → (encL l213).take (x201.Code.length * 8) = encL l213 := fun h => by rw [← h]; exact encL_takeN _ (by simp)
        have f216v : l213.length = x201.Code.length → (oencL l163).set (((x197.fn).toNat) * 2 + 1) (.own (.sp 8 x201.Code.length (encL l213))) = oencL l217 := fun h => by rw [← h]; exact f216
        repeat (first | simp [h5_2, h5_7, h5_23, h5_24, h5_25, g5_0, g5_1, g5_2, g5_3, g5_4, g5_5, g5_6, n5_0, n5_1, n5_2, n5_3, hlt194, ew195, f200, f203a, f203c, f203d, f215, f215n, f216, f216n, f216t, f216u, f216v] | with_reducible refine ord_l (by kernel_rfl) ?_ | with_reducible refine ord_e (by kernel_rfl) ?_ | with_reducible refine ord_c (by kernel_rfl) ?_ | with_reducible refine ord_d (by kernel_rfl) ?_ | with_reducible refine And.intro (by omega) ?_ | with_reducible refine optF_if (by omega) ?_)
        refine awp_draw ?_
        repeat (first | simp [h5_2, h5_7, h5_23, h5_24, h5_25, g5_0, g5_1, g5_2, g5_3, g5_4, g5_5, g5_6, n5_0, n5_1, n5_2, n5_3, hlt194, ew195, f200, f203a, f203c, f203d, f215, f215n, f216, f216n, f216t, f216u, f216v] | with_reducible refine ord_l (by kernel_rfl) ?_ | with_reducible refine ord_e (by kernel_rfl) ?_ | with_reducible refine ord_c (by kernel_rfl) ?_ | with_reducible refine ord_d (by kernel_rfl) ?_ | with_reducible refine And.intro (by omega) ?_ | with_reducible refine optF_if (by omega) ?_)
        refine awp_gh (by rfl) (Gh.close _ (.l 39) (((x197.fn).toNat) * 2 + 1)) ?_
        try simp only [St.frz, St.pur]
        repeat (first | simp [h5_2, h5_7, h5_23, h5_24, h5_25, g5_0, g5_1, g5_2, g5_3, g5_4, g5_5, g5_6, n5_0, n5_1, n5_2, n5_3, hlt194, ew195, f200, f203a, f203c, f203d, f215, f215n, f216, f216n, f216t, f216u, f216v] | with_reducible refine awp_reg ?_)
        exact hL190 (q193, (k162 + 1), l217) _ _ (Gh.refl _) ⟨e187, hd199, by simp [St.frz, St.pur, h5_2, h5_7, h5_23, h5_24, h5_25, g5_0, g5_1, g5_2, g5_3, g5_4, g5_5, g5_6, n5_0, n5_1, n5_2, n5_3, hlt194, ew195, f200, f203a, f203c, f203d, f215, f215n, f216, f216n, f216t, f216u, f216v], by simp [St.frz, St.pur, h5_2, h5_7, h5_23, h5_24, h5_25, g5_0, g5_1, g5_2, g5_3, g5_4, g5_5, g5_6, n5_0, n5_1, n5_2, n5_3, hlt194, ew195, f200, f203a, f203c, f203d, f215, f215n, f216, f216n, f216t, f216u, f216v], by simp [St.frz, St.pur, h5_2, h5_7, h5_23, h5_24, h5_25, g5_0, g5_1, g5_2, g5_3, g5_4, g5_5, g5_6, n5_0, n5_1, n5_2, n5_3, hlt194, ew195, f200, f203a, f203c, f203d, f215, f215n, f216, f216n, f216t, f216u, f216v], by simp [St.frz, St.pur, h5_2, h5_7, h5_23, h5_24, h5_25, g5_0, g5_1, g5_2, g5_3, g5_4, g5_5, g5_6, n5_0, n5_1, n5_2, n5_3, hlt194, ew195, f200, f203a, f203c, f203d, f215, f215n, f216, f216n, f216t, f216u, f216v], by simp [St.frz, St.pur, h5_2, h5_7, h5_23, h5_24, h5_25, g5_0, g5_1, g5_2, g5_3, g5_4, g5_5, g5_6, n5_0, n5_1, n5_2, n5_3, hlt194, ew195, f200, f203a, f203c, f203d, f215, f215n, f216, f216n, f216t, f216u, f216v], by simp [St.frz, St.pur, h5_2, h5_7, h5_23, h5_24, h5_25, g5_0, g5_1, g5_2, g5_3, g5_4, g5_5, g5_6, n5_0, n5_1, n5_2, n5_3, hlt194, ew195, f200, f203a, f203c, f203d, f215, f215n, f216, f216n, f216t, f216u, f216v], by simp [St.frz, St.pur, h5_2, h5_7, h5_23, h5_24, h5_25, g5_0, g5_1, g5_2, g5_3, g5_4, g5_5, g5_6, n5_0, n5_1, n5_2, n5_3, hlt194, ew195, f200, f203a, f203c, f203d, f215, f215n, f216, f216n, f216t, f216u, f216v], by simp [St.frz, St.pur, h5_2, h5_7, h5_23, h5_24, h5_25, g5_0, g5_1, g5_2, g5_3, g5_4, g5_5, g5_6, n5_0, n5_1, n5_2, n5_3, hlt194, ew195, f200, f203a, f203c, f203d, f215, f215n, f216, f216n, f216t, f216u, f216v], by simp [St.frz, St.pur, h5_2, h5_7, h5_23, h5_24, h5_25, g5_0, g5_1, g5_2, g5_3, g5_4, g5_5, g5_6, n5_0, n5_1, n5_2, n5_3, hlt194, ew195, f200, f203a, f203c, f203d, f215, f215n, f216, f216n, f216t, f216u, f216v], by simp [St.frz, St.pur, h5_2, h5_7, h5_23, h5_24, h5_25, g5_0, g5_1, g5_2, g5_3, g5_4, g5_5, g5_6, n5_0, n5_1, n5_2, n5_3, hlt194, ew195, f200, f203a, f203c, f203d, f215, f215n, f216, f216n, f216t, f216u, f216v], by simp [St.frz, St.pur, h5_2, h5_7, h5_23, h5_24, h5_25, g5_0, g5_1, g5_2, g5_3, g5_4, g5_5, g5_6, n5_0, n5_1, n5_2, n5_3, hlt194, ew195, f200, f203a, f203c, f203d, f215, f215n, f216, f216n, f216t, f216u, f216v], by simp [St.frz, St.pur, h5_2, h5_7, h5_23, h5_24, h5_25, g5_0, g5_1, g5_2, g5_3, g5_4, g5_5, g5_6, n5_0, n5_1, n5_2, n5_3, hlt194, ew195, f200, f203a, f203c, f203d, f215, f215n, f216, f216n, f216t, f216u, f216v], by first | (simp; done) | (simp; omega) | omega⟩ (by simp)
    · obtain ⟨e112, h4_2, h4_7, g4_0, g4_1, g4_2, g4_3, g4_4, g4_5, g4_6, n4_g⟩ := hp
      obtain rfl := Option.some.inj e112
      try dsimp only at hs
      have n4_0 : ¬ (σ3.gen = 0) := by omega
      have n4_1 : ¬ (σ3.gen = 1) := by omega
      have n4_2 : ¬ (σ3.gen = 2) := by omega
      have n4_3 : ¬ (σ3.gen = 3) := by omega
      repeat (first | simp [h4_2, h4_7, g4_0, g4_1, g4_2, g4_3, g4_4, g4_5, g4_6, n4_0, n4_1, n4_2, n4_3] | with_reducible refine awp_reg ?_ | with_reducible refine And.intro (by omega) ?_ | with_reducible refine optF_if (by omega) ?_)
      obtain rfl := Option.some.inj hs
      refine hQ _ _ (ret2g _ ((Gh.frz _ (.o 4 1 0)).trans ((Gh.frz _ (.o 4 1 1)).trans ((Gh.frz _ (.o 4 1 2)).trans ((Gh.frz _ (.l 14)).trans (Gh.frz _ (.o 4 1 4)))))) (by simp [St.frz, St.pur, h4_2, h4_7, g4_0, g4_1, g4_2, g4_3, g4_4, g4_5, g4_6, n4_0, n4_1, n4_2, n4_3]; rfl) (by first | rfl | (simp [St.frz, St.pur, h4_2, h4_7, g4_0, g4_1, g4_2, g4_3, g4_4, g4_5, g4_6, n4_0, n4_1, n4_2, n4_3]; done) | (rw [if_pos (by first | omega | (simp; omega))]; simp [St.frz, St.pur, h4_2, h4_7, g4_0, g4_1, g4_2, g4_3, g4_4, g4_5, g4_6, n4_0, n4_1, n4_2, n4_3]; first | omega | exact List.take_of_length_le (by simp; omega) | skip)) (by simp))
end Go.Dc
end
section
set_option linter.all false
namespace Go.Dc
open Go Go.Hw Go.Proofs
set_option maxRecDepth 100000

def law14_example (a0 : Int) : Option Program :=
  Option.bind (some ([({ Op := 1, A := 1, B := 0, C := 0, Obj := 0, N := 1, Fn := 0, Order := 0 } : Inst), ({ Op := 8, A := 2, B := 0, C := 0, Obj := 0, N := 0, Fn := 0, Order := 2 } : Inst), ({ Op := 3, A := 3, B := 2, C := 1, Obj := 0, N := 0, Fn := a0, Order := 0 } : Inst), ({ Op := 5, A := 0, B := 3, C := 0, Obj := 0, N := 1, Fn := 0, Order := 0 } : Inst)])) (fun l1 => Option.bind (some ([({ Name := (⟨#[120]⟩ : ByteArray), Init := 0 } : Var)])) (fun l3 => Option.bind (some ([({ Name := (⟨#[102]⟩ : ByteArray), Code := l1 } : Func)])) (fun l5 => Option.bind (some ([({ Func := 0, Arg := 0 } : Start)])) (fun l7 => some ({ Vars := l3, Mutexes := [], Conds := [], Funcs := l5, Threads := l7 } : Program)))))

set_option maxHeartbeats 2000000 in
theorem at_law14_example {a0 : Int} {r : Program} (hs : law14_example a0 = some r) : At Tryd.prog 63 [iV .i64 a0] (.agg [.p (.sl r.Vars.length (encL r.Vars)), .p (.sl r.Mutexes.length (encL r.Mutexes)), .p (.sl r.Conds.length (encL r.Conds)), .p (.sl r.Funcs.length (encL r.Funcs)), .p (.sl r.Threads.length (encL r.Threads))]) := by
  refine at_bound (by kernel_rfl) fun hb => ?_
  refine at_code mixed Tryd.func63 (by kernel_rfl) rfl (by kernel_rfl) rfl fun Q hQ => ?_
  rw [law14_example] at hs
  obtain ⟨l1, hx2, hs⟩ := bindO hs
  try dsimp only at hs
  replace hx2 := (Option.some.inj hx2).symm
  have hx2n : l1.length = 4 := by rw [hx2]; rfl
  obtain ⟨l3, hx4, hs⟩ := bindO hs
  try dsimp only at hs
  replace hx4 := (Option.some.inj hx4).symm
  have hx4n : l3.length = 1 := by rw [hx4]; rfl
  obtain ⟨l5, hx6, hs⟩ := bindO hs
  try dsimp only at hs
  replace hx6 := (Option.some.inj hx6).symm
  have hx6n : l5.length = 1 := by rw [hx6]; rfl
  obtain ⟨l7, hx8, hs⟩ := bindO hs
  try dsimp only at hs
  replace hx8 := (Option.some.inj hx8).symm
  have hx8n : l7.length = 1 := by rw [hx8]; rfl
  repeat (first | simp [hx2, hx4, hx6, hx8] | with_reducible refine awp_reg ?_ | with_reducible refine And.intro (by omega) ?_ | with_reducible refine optF_if (by omega) ?_)
  obtain rfl := Option.some.inj hs
  refine hQ _ _ (ret2g _ ((Gh.frz _ (.o 2 5 0)).trans ((Gh.pur _ (.o 3 4 0)).trans ((Gh.frz _ (.o 3 1 0)).trans ((Gh.frz _ (.o 3 4 0)).trans ((Gh.frz _ (.o 3 6 0)).trans (Gh.unz _)))))) (by simp [St.frz, St.pur, hx2, hx4, hx6, hx8]; rfl) (by first | rfl | (simp [St.frz, St.pur, hx2, hx4, hx6, hx8]; done) | (rw [if_pos (by first | omega | (simp; omega))]; simp [St.frz, St.pur, hx2, hx4, hx6, hx8]; first | omega | exact List.take_of_length_le (by simp; omega) | skip)) (by simp))
end Go.Dc
end
section
set_option linter.all false
namespace Go.Dc
open Go Go.Hw Go.Proofs
set_option maxRecDepth 100000

def law14_lives (fuelN : Nat)  : Option Bool :=
  Option.bind (law14_example 8) (fun y1 => Option.bind (await_Find fuelN y1) (fun y3 => Option.bind (law14_example 9) (fun y5 => Option.bind (await_Find fuelN y5) (fun y7 => Option.bind (law14_example 8) (fun y9 => Option.bind (await_Rewrite fuelN y9) (fun y11 => guardO (orB (!(!(orB (orB (orB (orB (!(eqI y3.2 0)) (!(eqI y7.2 0))) (!(eqI y11.2 0))) (!(eqI ((y7.1.length : Nat) : Int) 0))) (!(eqI ((y11.1.Funcs.length : Nat) : Int) 1))))) (inB (0 : Int) y11.1.Funcs.length)) (cond (orB (orB (orB (orB (orB (!(eqI y3.2 0)) (!(eqI y7.2 0))) (!(eqI y11.2 0))) (!(eqI ((y7.1.length : Nat) : Int) 0))) (!(eqI ((y11.1.Funcs.length : Nat) : Int) 1))) (!(eqI ((((gd y11.1.Funcs 0).Code).length : Nat) : Int) 4))) (some false) (Option.bind (some ([({ Func := 0, First := 1, Last := 3 } : Spin)])) (fun l16 => Option.bind (r14_Same y3.1 l16) (fun y18 => guardO (orB (!y18) (inB (0 : Int) y11.1.Funcs.length)) (guardO (orB (!y18) (inB (1 : Int) ((gd y11.1.Funcs 0).Code).length)) (some (andB y18 ((gd ((gd y11.1.Funcs 0).Code) 1).Op == 14 && ((gd ((gd y11.1.Funcs 0).Code) 1).A == 2 && ((gd ((gd y11.1.Funcs 0).Code) 1).B == 1 && ((gd ((gd y11.1.Funcs 0).Code) 1).C == 0 && ((gd ((gd y11.1.Funcs 0).Code) 1).Obj == 0 && ((gd ((gd y11.1.Funcs 0).Code) 1).N == 0 && ((gd ((gd y11.1.Funcs 0).Code) 1).Fn == 7 && ((gd ((gd y11.1.Funcs 0).Code) 1).Order == 2 && true)))))))))))))))))))))

set_option maxHeartbeats 2000000 in
theorem at_law14_lives {fuelN : Nat}  {r : Bool} (hs : law14_lives fuelN = some r) : At Tryd.prog 35 [] (bV r) := by
  refine at_bound (by kernel_rfl) fun hb => ?_
  refine at_code mixed Tryd.func35 (by kernel_rfl) rfl (by kernel_rfl) rfl fun Q hQ => ?_
  rw [law14_lives] at hs
  repeat (first | simp | with_reducible refine awp_reg ?_ | with_reducible refine And.intro (by omega) ?_ | with_reducible refine optF_if (by omega) ?_)
  obtain ⟨y1, hx2, hs⟩ := bindO hs
  try dsimp only at hs
  refine callK_pure (at_law14_example hx2) (by (first | simp | simp (disch := omega) []); try rfl) (by simp) (by simp) ?_
  repeat (first | simp | with_reducible refine awp_reg ?_ | with_reducible refine And.intro (by omega) ?_ | with_reducible refine optF_if (by omega) ?_)
  obtain ⟨y3, hx4, hs⟩ := bindO hs
  try dsimp only at hs
  refine callK_pure (at_await_Find hx4) (by (first | simp | simp (disch := omega) []); try rfl) (by simp) (by simp) ?_
  repeat (first | simp | with_reducible refine awp_reg ?_ | with_reducible refine And.intro (by omega) ?_ | with_reducible refine optF_if (by omega) ?_)
  obtain ⟨y5, hx6, hs⟩ := bindO hs
  try dsimp only at hs
  refine callK_pure (at_law14_example hx6) (by (first | simp | simp (disch := omega) []); try rfl) (by simp) (by simp) ?_
  repeat (first | simp | with_reducible refine awp_reg ?_ | with_reducible refine And.intro (by omega) ?_ | with_reducible refine optF_if (by omega) ?_)
  obtain ⟨y7, hx8, hs⟩ := bindO hs
  try dsimp only at hs
  refine callK_pure (at_await_Find hx8) (by (first | simp | simp (disch := omega) []); try rfl) (by simp) (by simp) ?_
  repeat (first | simp | with_reducible refine awp_reg ?_ | with_reducible refine And.intro (by omega) ?_ | with_reducible refine optF_if (by omega) ?_)
  obtain ⟨y9, hx10, hs⟩ := bindO hs
  try dsimp only at hs
  refine callK_pure (at_law14_example hx10) (by (first | simp | simp (disch := omega) []); try rfl) (by simp) (by simp) ?_
  repeat (first | simp | with_reducible refine awp_reg ?_ | with_reducible refine And.intro (by omega) ?_ | with_reducible refine optF_if (by omega) ?_)
  obtain ⟨y11, hx12, hs⟩ := bindO hs
  try dsimp only at hs
  refine callK_pure (at_await_Rewrite hx12) (by (first | simp | simp (disch := omega) []); try rfl) (by simp) (by simp) ?_
  obtain ⟨g13, hs⟩ := guardO_some hs
  have g13a : (!(orB (orB (orB (orB (!(eqI y3.2 0)) (!(eqI y7.2 0))) (!(eqI y11.2 0))) (!(eqI ((y7.1.length : Nat) : Int) 0))) (!(eqI ((y11.1.Funcs.length : Nat) : Int) 1)))) = true → 0 ≤ (0 : Int) := fun hg => (under_elem g13 hg).1
  have g13b : (!(orB (orB (orB (orB (!(eqI y3.2 0)) (!(eqI y7.2 0))) (!(eqI y11.2 0))) (!(eqI ((y7.1.length : Nat) : Int) 0))) (!(eqI ((y11.1.Funcs.length : Nat) : Int) 1)))) = true → (0 : Int) < (y11.1.Funcs.length : Int) := fun hg => (under_elem g13 hg).2.1
  have g13n : (!(orB (orB (orB (orB (!(eqI y3.2 0)) (!(eqI y7.2 0))) (!(eqI y11.2 0))) (!(eqI ((y7.1.length : Nat) : Int) 0))) (!(eqI ((y11.1.Funcs.length : Nat) : Int) 1)))) = true → 0 < y11.1.Funcs.length := fun hg => by simpa using (under_elem g13 hg).2.2.1
  have g13c : (!(orB (orB (orB (orB (!(eqI y3.2 0)) (!(eqI y7.2 0))) (!(eqI y11.2 0))) (!(eqI ((y7.1.length : Nat) : Int) 0))) (!(eqI ((y11.1.Funcs.length : Nat) : Int) 1)))) = true → y11.1.Funcs[0]? = some (gd y11.1.Funcs 0) := fun hg => by simpa using (under_elem g13 hg).2.2.2
  have f14 : (!(orB (orB (orB (orB (!(eqI y3.2 0)) (!(eqI y7.2 0))) (!(eqI y11.2 0))) (!(eqI ((y7.1.length : Nat) : Int) 0))) (!(eqI ((y11.1.Funcs.length : Nat) : Int) 1)))) = true → partCV Tryd.prog 22 (encL y11.1.Funcs) (0 * 2 + 1) = some (.cell (.p (.sl ((gd y11.1.Funcs 0).Code).length (encL ((gd y11.1.Funcs 0).Code))))) := fun hg => partCV_enc (g13c hg) (f := 1) (by simp)
  repeat (first | simp [g13a, g13b, g13n, f14] | with_reducible refine awp_reg ?_ | with_reducible refine And.intro (by omega) ?_ | with_reducible refine optF_if (by omega) ?_ | with_reducible refine gsel_pure (by with_unfolding_all rfl) _ (fun hg => by (try simp at hg); first | (simp [hg, g13a, g13b, g13n, f14]; rfl) | (simp [g13a, g13b, g13n, f14]; simp only [if_pos hg]; simp [g13a, g13b, g13n, f14]; rfl)) ?_)
  refine condK_spec (orB (orB (orB (orB (orB (!(eqI y3.2 0)) (!(eqI y7.2 0))) (!(eqI y11.2 0))) (!(eqI ((y7.1.length : Nat) : Int) 0))) (!(eqI ((y11.1.Funcs.length : Nat) : Int) 1))) (!(eqI ((((gd y11.1.Funcs 0).Code).length : Nat) : Int) 4))) (by first | rfl | (simp [g13a, g13b, g13n, f14]; done) | (simp [andB, orB, eqI, ltI, Int.natCast_inj, g13a, g13b, g13n, f14]; done)) (fun h15 => ?_) (fun h15 => ?_)
  · replace hs := condT h15 hs
    repeat (first | simp [g13a, g13b, g13n, f14] | with_reducible refine awp_reg ?_ | with_reducible refine And.intro (by omega) ?_ | with_reducible refine optF_if (by omega) ?_ | with_reducible refine gsel_pure (by with_unfolding_all rfl) _ (fun hg => by (try simp at hg); first | (simp [hg, g13a, g13b, g13n, f14]; rfl) | (simp [g13a, g13b, g13n, f14]; simp only [if_pos hg]; simp [g13a, g13b, g13n, f14]; rfl)) ?_)
    obtain rfl := Option.some.inj hs
    refine hQ _ _ (ret2g _ (Gh.refl _) (by simp [St.frz, St.pur, g13a, g13b, g13n, f14]; rfl) (by first | rfl | (simp [St.frz, St.pur, g13a, g13b, g13n, f14]; done) | (rw [if_pos (by first | omega | (simp; omega))]; simp [St.frz, St.pur, g13a, g13b, g13n, f14]; first | omega | exact List.take_of_length_le (by simp; omega) | skip)) (by simp))
  · replace hs := condF h15 hs
    obtain ⟨l16, hx17, hs⟩ := bindO hs
    try dsimp only at hs
    replace hx17 := (Option.some.inj hx17).symm
    have hx17n : l16.length = 1 := by rw [hx17]; rfl
    repeat (first | simp [g13a, g13b, g13n, f14, hx17] | with_reducible refine awp_reg ?_ | with_reducible refine And.intro (by omega) ?_ | with_reducible refine optF_if (by omega) ?_ | with_reducible refine gsel_pure (by with_unfolding_all rfl) _ (fun hg => by (try simp at hg); first | (simp [hg, g13a, g13b, g13n, f14, hx17]; rfl) | (simp [g13a, g13b, g13n, f14, hx17]; simp only [if_pos hg]; simp [g13a, g13b, g13n, f14, hx17]; rfl)) ?_)
    obtain ⟨y18, hx19, hs⟩ := bindO hs
    try dsimp only at hs
    refine callK_at (at_r14_Same hx19) [] (by (first | simp [g13a, g13b, g13n, f14, hx17] | simp (disch := omega) [g13a, g13b, g13n, f14, hx17]); try rfl) (by simp) (by simp) (by simp; rfl) (by simp [g13a, g13b, g13n, f14, hx17]; rfl) ?_
    obtain ⟨g20, hs⟩ := guardO_some hs
    have g20a : y18 = true → 0 ≤ (0 : Int) := fun hg => (under_elem g20 hg).1
    have g20b : y18 = true → (0 : Int) < (y11.1.Funcs.length : Int) := fun hg => (under_elem g20 hg).2.1
    have g20n : y18 = true → 0 < y11.1.Funcs.length := fun hg => by simpa using (under_elem g20 hg).2.2.1
    have g20c : y18 = true → y11.1.Funcs[0]? = some (gd y11.1.Funcs 0) := fun hg => by simpa using (under_elem g20 hg).2.2.2
    have f21 : y18 = true → partCV Tryd.prog 22 (encL y11.1.Funcs) (0 * 2 + 1) = some (.cell (.p (.sl ((gd y11.1.Funcs 0).Code).length (encL ((gd y11.1.Funcs 0).Code))))) := fun hg => partCV_enc (g20c hg) (f := 1) (by simp)
    obtain ⟨g22, hs⟩ := guardO_some hs
    have g22a : y18 = true → 0 ≤ (1 : Int) := fun hg => (under_elem g22 hg).1
    have g22b : y18 = true → (1 : Int) < (((gd y11.1.Funcs 0).Code).length : Int) := fun hg => (under_elem g22 hg).2.1
    have g22n : y18 = true → 1 < ((gd y11.1.Funcs 0).Code).length := fun hg => by simpa using (under_elem g22 hg).2.2.1
    have g22c : y18 = true → ((gd y11.1.Funcs 0).Code)[1]? = some (gd ((gd y11.1.Funcs 0).Code) 1) := fun hg => by simpa using (under_elem g22 hg).2.2.2
    have f23 : y18 = true → partCV Tryd.prog 71 (encL ((gd y11.1.Funcs 0).Code)) (1 * 8) = some (.agg [.p (.c (.int .i64 ((gd ((gd y11.1.Funcs 0).Code) 1).Op))), .p (.c (.int .i64 ((gd ((gd y11.1.Funcs 0).Code) 1).A))), .p (.c (.int .i64 ((gd ((gd y11.1.Funcs 0).Code) 1).B))), .p (.c (.int .i64 ((gd ((gd y11.1.Funcs 0).Code) 1).C))), .p (.c (.int .i64 ((gd ((gd y11.1.Funcs 0).Code) 1).Obj))), .p (.c (.int .i64 ((gd ((gd y11.1.Funcs 0).Code) 1).N))), .p (.c (.int .i64 ((gd ((gd y11.1.Funcs 0).Code) 1).Fn))), .p (.c (.int .i64 ((gd ((gd y11.1.Funcs 0).Code) 1).Order)))]) := fun hg => partCV_enc (g22c hg) (f := 0) (by simp)
    repeat (first | simp [g13a, g13b, g13n, f14, hx17, g20a, g20b, g20n, f21, g22a, g22b, g22n, f23, eqCells] | with_reducible refine awp_reg ?_ | with_reducible refine And.intro (by omega) ?_ | with_reducible refine optF_if (by omega) ?_ | with_reducible refine gsel_pure (by with_unfolding_all rfl) _ (fun hg => by (try simp at hg); first | (simp [hg, g13a, g13b, g13n, f14, hx17, g20a, g20b, g20n, f21, g22a, g22b, g22n, f23, eqCells]; rfl) | (simp [g13a, g13b, g13n, f14, hx17, g20a, g20b, g20n, f21, g22a, g22b, g22n, f23, eqCells]; simp only [if_pos hg]; simp [g13a, g13b, g13n, f14, hx17, g20a, g20b, g20n, f21, g22a, g22b, g22n, f23, eqCells]; rfl)) ?_)
    obtain rfl := Option.some.inj hs
    refine hQ _ _ (ret2g _ (Gh.refl _) (by simp [St.frz, St.pur, g13a, g13b, g13n, f14, hx17, g20a, g20b, g20n, f21, g22a, g22b, g22n, f23, eqCells]; rfl) (by first | rfl | (simp [St.frz, St.pur, g13a, g13b, g13n, f14, hx17, g20a, g20b, g20n, f21, g22a, g22b, g22n, f23, eqCells]; done) | (rw [if_pos (by first | omega | (simp; omega))]; simp [St.frz, St.pur, g13a, g13b, g13n, f14, hx17, g20a, g20b, g20n, f21, g22a, g22b, g22n, f23, eqCells]; first | omega | exact List.take_of_length_le (by simp; omega) | skip)) (by simp))
end Go.Dc
end
section
set_option linter.all false
namespace Go.Dc
open Go Go.Hw Go.Proofs
set_option maxRecDepth 100000
def r08_lists_L1 : List Var → (List ByteArray) → Nat → Option (List ByteArray)
  | [], l58, k59 => some (l58)
  | x80 :: q76, l58, k59 => Option.bind (some ([x80.Name])) (fun l83 => guardO (limB 16 (l58.length + l83.length)) (Option.bind (some (l58 ++ l83)) (fun l86 => r08_lists_L1 q76 l86 (k59 + 1))))

def r08_lists_L2 : List Func → (List ByteArray) → Nat → Option (List ByteArray)
  | [], l145, k146 => some (l145)
  | x167 :: q163, l145, k146 => Option.bind (some ([x167.Name])) (fun l170 => guardO (limB 16 (l145.length + l170.length)) (Option.bind (some (l145 ++ l170)) (fun l173 => r08_lists_L2 q163 l173 (k146 + 1))))

def r08_lists (a0 : Program) : Option ((List ByteArray) × (List ByteArray)) :=
  Option.bind (α := (List ByteArray)) (Option.bind (r08_lists_L1 a0.Vars [] 0) (fun l69 => some (l69))) (fun l42 => Option.bind (α := (List ByteArray)) (Option.bind (r08_lists_L2 a0.Funcs [] 0) (fun l156 => some (l156))) (fun l129 => some (l42, l129)))

set_option maxHeartbeats 2000000 in
theorem at_r08_lists {a0 : Program} {r : (List ByteArray) × (List ByteArray)} (hs : r08_lists a0 = some r) : At Tryd.prog 91 [.agg [.p (.sl a0.Vars.length (encL a0.Vars)), .p (.sl a0.Mutexes.length (encL a0.Mutexes)), .p (.sl a0.Conds.length (encL a0.Conds)), .p (.sl a0.Funcs.length (encL a0.Funcs)), .p (.sl a0.Threads.length (encL a0.Threads))]] (.tup [.cell (.p (.sl r.1.length (encL r.1))), .cell (.p (.sl r.2.length (encL r.2)))]) := by
  refine at_bound (by kernel_rfl) fun hb => ?_
  have hb1 : LenOk (.sl a0.Vars.length (encL a0.Vars)) := hb (.agg [.p (.sl a0.Vars.length (encL a0.Vars)), .p (.sl a0.Mutexes.length (encL a0.Mutexes)), .p (.sl a0.Conds.length (encL a0.Conds)), .p (.sl a0.Funcs.length (encL a0.Funcs)), .p (.sl a0.Threads.length (encL a0.Threads))]) (by simp) (.p (.sl a0.Vars.length (encL a0.Vars))) (by simp)
  have hb2 : LenOk (.sl a0.Mutexes.length (encL a0.Mutexes)) := hb (.agg [.p (.sl a0.Vars.length (encL a0.Vars)), .p (.sl a0.Mutexes.length (encL a0.Mutexes)), .p (.sl a0.Conds.length (encL a0.Conds)), .p (.sl a0.Funcs.length (encL a0.Funcs)), .p (.sl a0.Threads.length (encL a0.Threads))]) (by simp) (.p (.sl a0.Mutexes.length (encL a0.Mutexes))) (by simp)
  have hb3 : LenOk (.sl a0.Conds.length (encL a0.Conds)) := hb (.agg [.p (.sl a0.Vars.length (encL a0.Vars)), .p (.sl a0.Mutexes.length (encL a0.Mutexes)), .p (.sl a0.Conds.length (encL a0.Conds)), .p (.sl a0.Funcs.length (encL a0.Funcs)), .p (.sl a0.Threads.length (encL a0.Threads))]) (by simp) (.p (.sl a0.Conds.length (encL a0.Conds))) (by simp)
  have hb4 : LenOk (.sl a0.Funcs.length (encL a0.Funcs)) := hb (.agg [.p (.sl a0.Vars.length (encL a0.Vars)), .p (.sl a0.Mutexes.length (encL a0.Mutexes)), .p (.sl a0.Conds.length (encL a0.Conds)), .p (.sl a0.Funcs.length (encL a0.Funcs)), .p (.sl a0.Threads.length (encL a0.Threads))]) (by simp) (.p (.sl a0.Funcs.length (encL a0.Funcs))) (by simp)
  have hb5 : LenOk (.sl a0.Threads.length (encL a0.Threads)) := hb (.agg [.p (.sl a0.Vars.length (encL a0.Vars)), .p (.sl a0.Mutexes.length (encL a0.Mutexes)), .p (.sl a0.Conds.length (encL a0.Conds)), .p (.sl a0.Funcs.length (encL a0.Funcs)), .p (.sl a0.Threads.length (encL a0.Threads))]) (by simp) (.p (.sl a0.Threads.length (encL a0.Threads))) (by simp)
  refine at_code mixed Tryd.func91 (by kernel_rfl) rfl (by kernel_rfl) rfl fun Q hQ => ?_
  rw [r08_lists] at hs
  repeat (first | simp [-awp_cond_eq, -awp_block_eq] | with_reducible refine awp_reg ?_)
  obtain ⟨o44, e43, hs⟩ := bindO hs
  try dsimp only at hs
  refine awp_cutK (fun (v : (List ByteArray)) (σ : St) => some (v) = some o44 ∧ σ.env 1 = .cell (.ref (.o 1 0 0) 0) ∧ σ.env 4 = .cell (.sl (.l 2) 0 1 v.length) ∧ σ.env 5 = .cell (.z) ∧ σ.hp (.l 2) = some (.pure (encL v)) ∧ σ.hp (.o 1 0 0) = some (.cells [.p (.sl a0.Vars.length (encL a0.Vars)), .p (.sl a0.Mutexes.length (encL a0.Mutexes)), .p (.sl a0.Conds.length (encL a0.Conds)), .p (.sl a0.Funcs.length (encL a0.Funcs)), .p (.sl a0.Threads.length (encL a0.Threads))]) ∧ 3 ≤ σ.gen) (by rfl) (fun Q hK45 hX46 => ?_) (fun l42 σ3 hp => ?_)
  · repeat (first | simp | with_reducible refine awp_reg ?_)
    obtain ⟨o71, e70, e43⟩ := bindO e43
    try dsimp only at e43
    refine awp_loopW (fun (v : (List Var) × (List ByteArray) × Nat) (σ : St) => r08_lists_L1 v.1 v.2.1 v.2.2 = some o71 ∧ v.1 = a0.Vars.drop v.2.2 ∧ σ.env 1 = .cell (.ref (.o 1 0 0) 0) ∧ σ.env 4 = .cell (.sl (.l 6) 0 1 v.2.1.length) ∧ σ.env 5 = .cell (.z) ∧ σ.env 6 = iV .i64 ((v.2.2 : Nat) : Int) ∧ σ.hp (.l 6) = some (.pure (encL v.2.1)) ∧ σ.hp (.o 1 0 0) = some (.cells [.p (.sl a0.Vars.length (encL a0.Vars)), .p (.sl a0.Mutexes.length (encL a0.Mutexes)), .p (.sl a0.Conds.length (encL a0.Conds)), .p (.sl a0.Funcs.length (encL a0.Funcs)), .p (.sl a0.Threads.length (encL a0.Threads))]) ∧ 3 ≤ σ.gen) (fun v => v.1.length) _ (Gh.void _ (.l 6) 4 1 rfl (by simp)) (a0.Vars, [], 0) ⟨e70, by simp, by simp [St.frz, St.pur], by simp [St.frz, St.pur], by simp [St.frz, St.pur], by simp [St.frz, St.pur], by simp [St.frz, St.pur], by simp [St.frz, St.pur], by first | (simp; done) | (simp; omega) | omega⟩ fun v σ6 hp L72 hL73 => ?_
    obtain ⟨q75, l58, k59⟩ := v
    dsimp only at hp hL73
    obtain ⟨e70, hd74, h5_1, h5_4, h5_5, h5_6, g5_0, g5_1, n5_g⟩ := hp
    have n5_0 : ¬ (σ6.gen = 0) := by omega
    rcases q75 with _ | ⟨x80, q76⟩
    · have hlt77 := drop_end hd74
      rw [r08_lists_L1] at e70; try dsimp only at e70
      repeat (first | simp [h5_1, h5_4, h5_5, h5_6, g5_0, g5_1, n5_0] | with_reducible refine awp_reg ?_ | with_reducible refine And.intro (by omega) ?_ | with_reducible refine optF_if (by omega) ?_)
      refine condK_f (by simp [ltI]; omega) ?_
      obtain rfl := Option.some.inj e70
      try dsimp only at e43
      exact hK45 l58 _ _ (Gh.ren _ (.l 6) (.l 2) (by simp) rfl rfl) ⟨e43, by simp [St.frz, St.pur, h5_1, h5_4, h5_5, h5_6, g5_0, g5_1, n5_0], by simp [St.frz, St.pur, h5_1, h5_4, h5_5, h5_6, g5_0, g5_1, n5_0], by simp [St.frz, St.pur, h5_1, h5_4, h5_5, h5_6, g5_0, g5_1, n5_0], by simp [St.frz, St.pur, h5_1, h5_4, h5_5, h5_6, g5_0, g5_1, n5_0], by simp [St.frz, St.pur, h5_1, h5_4, h5_5, h5_6, g5_0, g5_1, n5_0], by first | (simp; done) | (simp; omega) | omega⟩
    · obtain ⟨hx79, hlt77, hd81⟩ := drop_next hd74
      have ew78 := wrap_succ hlt77 (hb1).len
      rw [r08_lists_L1] at e70; try dsimp only at e70
      repeat (first | simp [h5_1, h5_4, h5_5, h5_6, g5_0, g5_1, n5_0, hlt77, ew78] | with_reducible refine awp_reg ?_ | with_reducible refine And.intro (by omega) ?_ | with_reducible refine optF_if (by omega) ?_)
      refine condK_t (by simp [ltI]; omega) ?_
      have f82 : partCV Tryd.prog 9 (encL a0.Vars) (k59 * 2) = some (sV x80.Name) := partCV_enc hx79 (f := 0) (by simp)
      obtain ⟨l83, hx84, e70⟩ := bindO e70
      try dsimp only at e70
      replace hx84 := (Option.some.inj hx84).symm
      have hx84n : l83.length = 1 := by rw [hx84]; rfl
      obtain ⟨g85, e70⟩ := guardO_some e70
      have g85 := limB_t g85
      obtain ⟨g85a, g85b⟩ := g85
      obtain ⟨l86, hx87, e70⟩ := bindO e70
      try dsimp only at e70
      replace hx87 := (Option.some.inj hx87).symm
      have hx87n : l86.length = (l58.length + l83.length) := by rw [hx87]; simp
      have hx87e : encL l86 = encL l58 ++ encL l83 := by rw [hx87]; simp
      repeat (first | simp [h5_1, h5_4, h5_5, h5_6, g5_0, g5_1, n5_0, hlt77, ew78, f82, hx84, hx87n, hx87e] | with_reducible refine awp_reg ?_ | with_reducible refine And.intro (by omega) ?_ | with_reducible refine optF_if (by omega) ?_)
      exact hL73 (q76, l86, (k59 + 1)) _ _ (Gh.ren _ (.o (σ6.gen + 2) 8 0) (.l 6) (by simp) rfl rfl) ⟨e70, hd81, by simp [St.frz, St.pur, h5_1, h5_4, h5_5, h5_6, g5_0, g5_1, n5_0, hlt77, ew78, f82, hx84, hx87n, hx87e], by simp [St.frz, St.pur, h5_1, h5_4, h5_5, h5_6, g5_0, g5_1, n5_0, hlt77, ew78, f82, hx84, hx87n, hx87e], by simp [St.frz, St.pur, h5_1, h5_4, h5_5, h5_6, g5_0, g5_1, n5_0, hlt77, ew78, f82, hx84, hx87n, hx87e], by simp [St.frz, St.pur, h5_1, h5_4, h5_5, h5_6, g5_0, g5_1, n5_0, hlt77, ew78, f82, hx84, hx87n, hx87e], by simp [St.frz, St.pur, h5_1, h5_4, h5_5, h5_6, g5_0, g5_1, n5_0, hlt77, ew78, f82, hx84, hx87n, hx87e], by simp [St.frz, St.pur, h5_1, h5_4, h5_5, h5_6, g5_0, g5_1, n5_0, hlt77, ew78, f82, hx84, hx87n, hx87e], by first | (simp; done) | (simp; omega) | omega⟩ (by simp)
  · obtain ⟨e43, h4_1, h4_4, h4_5, g4_0, g4_1, n4_g⟩ := hp
    obtain rfl := Option.some.inj e43
    try dsimp only at hs
    have n4_0 : ¬ (σ3.gen = 0) := by omega
    repeat (first | simp [-awp_cond_eq, -awp_block_eq, h4_1, h4_4, h4_5, g4_0, g4_1, n4_0] | with_reducible refine awp_reg ?_)
    obtain ⟨o131, e130, hs⟩ := bindO hs
    try dsimp only at hs
    refine awp_cutK (fun (v : (List ByteArray)) (σ : St) => some (v) = some o131 ∧ σ.env 4 = .cell (.sl (.l 2) 0 1 l42.length) ∧ σ.env 5 = .cell (.sl (.l 11) 0 1 v.length) ∧ σ.hp (.l 11) = some (.pure (encL v)) ∧ σ.hp (.l 2) = some (.pure (encL l42)) ∧ (σ3.gen + 1) ≤ σ.gen) (by rfl) (fun Q hK132 hX133 => ?_) (fun l129 σ9 hp => ?_)
    · repeat (first | simp [h4_1, h4_4, h4_5, g4_0, g4_1, n4_0] | with_reducible refine awp_reg ?_)
      obtain ⟨o158, e157, e130⟩ := bindO e130
      try dsimp only at e130
      refine awp_loopW (fun (v : (List Func) × (List ByteArray) × Nat) (σ : St) => r08_lists_L2 v.1 v.2.1 v.2.2 = some o158 ∧ v.1 = a0.Funcs.drop v.2.2 ∧ σ.env 1 = .cell (.ref (.o 1 0 0) 0) ∧ σ.env 4 = .cell (.sl (.l 2) 0 1 l42.length) ∧ σ.env 5 = .cell (.sl (.l 19) 0 1 v.2.1.length) ∧ σ.env 7 = iV .i64 ((v.2.2 : Nat) : Int) ∧ σ.hp (.l 19) = some (.pure (encL v.2.1)) ∧ σ.hp (.l 2) = some (.pure (encL l42)) ∧ σ.hp (.o 1 0 0) = some (.cells [.p (.sl a0.Vars.length (encL a0.Vars)), .p (.sl a0.Mutexes.length (encL a0.Mutexes)), .p (.sl a0.Conds.length (encL a0.Conds)), .p (.sl a0.Funcs.length (encL a0.Funcs)), .p (.sl a0.Threads.length (encL a0.Threads))]) ∧ (σ3.gen + 1) ≤ σ.gen) (fun v => v.1.length) _ (Gh.void _ (.l 19) 5 1 rfl (by simp [h4_1, h4_4, h4_5, g4_0, g4_1, n4_0])) (a0.Funcs, [], 0) ⟨e157, by simp, by simp [St.frz, St.pur, h4_1, h4_4, h4_5, g4_0, g4_1, n4_0], by simp [St.frz, St.pur, h4_1, h4_4, h4_5, g4_0, g4_1, n4_0], by simp [St.frz, St.pur, h4_1, h4_4, h4_5, g4_0, g4_1, n4_0], by simp [St.frz, St.pur, h4_1, h4_4, h4_5, g4_0, g4_1, n4_0], by simp [St.frz, St.pur, h4_1, h4_4, h4_5, g4_0, g4_1, n4_0], by simp [St.frz, St.pur, h4_1, h4_4, h4_5, g4_0, g4_1, n4_0], by simp [St.frz, St.pur, h4_1, h4_4, h4_5, g4_0, g4_1, n4_0], by first | (simp; done) | (simp; omega) | omega⟩ fun v σ12 hp L159 hL160 => ?_
      obtain ⟨q162, l145, k146⟩ := v
      dsimp only at hp hL160
      obtain ⟨e157, hd161, h11_1, h11_4, h11_5, h11_7, g11_0, g11_1, g11_2, n11_g⟩ := hp
      have n11_0 : ¬ (σ12.gen = 0) := by omega
      rcases q162 with _ | ⟨x167, q163⟩
      · have hlt164 := drop_end hd161
        rw [r08_lists_L2] at e157; try dsimp only at e157
        repeat (first | simp [h11_1, h11_4, h11_5, h11_7, g11_0, g11_1, g11_2, n11_0] | with_reducible refine awp_reg ?_ | with_reducible refine And.intro (by omega) ?_ | with_reducible refine optF_if (by omega) ?_)
        refine condK_f (by simp [ltI]; omega) ?_
        obtain rfl := Option.some.inj e157
        try dsimp only at e130
        exact hK132 l145 _ _ (Gh.ren _ (.l 19) (.l 11) (by simp) rfl rfl) ⟨e130, by simp [St.frz, St.pur, h11_1, h11_4, h11_5, h11_7, g11_0, g11_1, g11_2, n11_0], by simp [St.frz, St.pur, h11_1, h11_4, h11_5, h11_7, g11_0, g11_1, g11_2, n11_0], by simp [St.frz, St.pur, h11_1, h11_4, h11_5, h11_7, g11_0, g11_1, g11_2, n11_0], by simp [St.frz, St.pur, h11_1, h11_4, h11_5, h11_7, g11_0, g11_1, g11_2, n11_0], by first | (simp; done) | (simp; omega) | omega⟩
      · obtain ⟨hx166, hlt164, hd168⟩ := drop_next hd161
        have ew165 := wrap_succ hlt164 (hb4).len
        rw [r08_lists_L2] at e157; try dsimp only at e157
        repeat (first | simp [h11_1, h11_4, h11_5, h11_7, g11_0, g11_1, g11_2, n11_0, hlt164, ew165] | with_reducible refine awp_reg ?_ | with_reducible refine And.intro (by omega) ?_ | with_reducible refine optF_if (by omega) ?_)
        refine condK_t (by simp [ltI]; omega) ?_
        have f169 : partCV Tryd.prog 9 (encL a0.Funcs) (k146 * 2) = some (sV x167.Name) := partCV_enc hx166 (f := 0) (by simp)
        obtain ⟨l170, hx171, e157⟩ := bindO e157
        try dsimp only at e157
        replace hx171 := (Option.some.inj hx171).symm
        have hx171n : l170.length = 1 := by rw [hx171]; rfl
        obtain ⟨g172, e157⟩ := guardO_some e157
        have g172 := limB_t g172
        obtain ⟨g172a, g172b⟩ := g172
        obtain ⟨l173, hx174, e157⟩ := bindO e157
        try dsimp only at e157
        replace hx174 := (Option.some.inj hx174).symm
        have hx174n : l173.length = (l145.length + l170.length) := by rw [hx174]; simp
        have hx174e : encL l173 = encL l145 ++ encL l170 := by rw [hx174]; simp
        repeat (first | simp [h11_1, h11_4, h11_5, h11_7, g11_0, g11_1, g11_2, n11_0, hlt164, ew165, f169, hx171, hx174n, hx174e] | with_reducible refine awp_reg ?_ | with_reducible refine And.intro (by omega) ?_ | with_reducible refine optF_if (by omega) ?_)
        exact hL160 (q163, l173, (k146 + 1)) _ _ (Gh.ren _ (.o (σ12.gen + 2) 8 0) (.l 19) (by simp) rfl rfl) ⟨e157, hd168, by simp [St.frz, St.pur, h11_1, h11_4, h11_5, h11_7, g11_0, g11_1, g11_2, n11_0, hlt164, ew165, f169, hx171, hx174n, hx174e], by simp [St.frz, St.pur, h11_1, h11_4, h11_5, h11_7, g11_0, g11_1, g11_2, n11_0, hlt164, ew165, f169, hx171, hx174n, hx174e], by simp [St.frz, St.pur, h11_1, h11_4, h11_5, h11_7, g11_0, g11_1, g11_2, n11_0, hlt164, ew165, f169, hx171, hx174n, hx174e], by simp [St.frz, St.pur, h11_1, h11_4, h11_5, h11_7, g11_0, g11_1, g11_2, n11_0, hlt164, ew165, f169, hx171, hx174n, hx174e], by simp [St.frz, St.pur, h11_1, h11_4, h11_5, h11_7, g11_0, g11_1, g11_2, n11_0, hlt164, ew165, f169, hx171, hx174n, hx174e], by simp [St.frz, St.pur, h11_1, h11_4, h11_5, h11_7, g11_0, g11_1, g11_2, n11_0, hlt164, ew165, f169, hx171, hx174n, hx174e], by simp [St.frz, St.pur, h11_1, h11_4, h11_5, h11_7, g11_0, g11_1, g11_2, n11_0, hlt164, ew165, f169, hx171, hx174n, hx174e], by first | (simp; done) | (simp; omega) | omega⟩ (by simp)
    · obtain ⟨e130, h10_4, h10_5, g10_0, g10_1, n10_g⟩ := hp
      obtain rfl := Option.some.inj e130
      try dsimp only at hs
      repeat (first | simp [h10_4, h10_5, g10_0, g10_1] | with_reducible refine awp_reg ?_)
      obtain rfl := Option.some.inj hs
      refine hQ _ _ (ret2g _ ((Gh.frz _ (.l 2)).trans (Gh.frz _ (.l 11))) (by simp [St.frz, St.pur, h10_4, h10_5, g10_0, g10_1]; rfl) (by first | rfl | (simp [St.frz, St.pur, h10_4, h10_5, g10_0, g10_1]; done) | (rw [if_pos (by first | omega | (simp; omega))]; simp [St.frz, St.pur, h10_4, h10_5, g10_0, g10_1]; first | omega | exact List.take_of_length_le (by simp; omega) | skip)) (by simp))
end Go.Dc
end
section
set_option linter.all false
namespace Go.Dc
open Go Go.Hw Go.Proofs
set_option maxRecDepth 100000
def r08_ValidName_L1 (a0 : ByteArray) : Nat → Nat → Option (Unit ⊕ Bool)
  | 0, k36 => some (.inl ())
  | q47 + 1, k36 => Option.bind (a0[k36]?) (fun c52 => cond (andB (!(orB (andB (!(ltI (c52.toNat : Int) 97)) (!(ltI 122 (c52.toNat : Int)))) (andB (!(ltI (c52.toNat : Int) 65)) (!(ltI 90 (c52.toNat : Int)))))) (orB (eqI ((k36 : Nat) : Int) 0) (andB (!(eqI (c52.toNat : Int) 95)) (orB (ltI (c52.toNat : Int) 48) (ltI 57 (c52.toNat : Int)))))) (some (.inr false)) (r08_ValidName_L1 a0 q47 (k36 + 1)))

def r08_ValidName (a0 : ByteArray) : Option Bool :=
  cond (orB (ltI ((a0.size : Nat) : Int) 1) (ltI 16 ((a0.size : Nat) : Int))) (some false) (Option.bind (α := Unit ⊕ Bool) (guardO (lenB a0.size) (Option.bind (r08_ValidName_L1 a0 a0.size 0) (fun o => match o with | .inl _ => some (.inl ()) | .inr r55 => some (.inr r55)))) (fun o => match o with | .inl _ => some true | .inr r56 => some r56))

set_option maxHeartbeats 2000000 in
theorem at_r08_ValidName {a0 : ByteArray} {r : Bool} (hs : r08_ValidName a0 = some r) : At Tryd.prog 118 [sV a0] (bV r) := by
  refine at_bound (by kernel_rfl) fun hb => ?_
  refine at_code mixed Tryd.func118 (by kernel_rfl) rfl (by kernel_rfl) rfl fun Q hQ => ?_
  rw [r08_ValidName] at hs
  repeat (first | simp | with_reducible refine awp_reg ?_ | with_reducible refine And.intro (by omega) ?_ | with_reducible refine optF_if (by omega) ?_ | with_reducible refine gsel_pure (by with_unfolding_all rfl) _ (fun hg => by (try simp at hg); first | (simp [hg]; rfl) | (simp; simp only [if_pos hg]; simp; rfl)) ?_)
  refine condK_spec (orB (ltI ((a0.size : Nat) : Int) 1) (ltI 16 ((a0.size : Nat) : Int))) (by first | rfl | (simp; done) | (simp [andB, orB, eqI, ltI, Int.natCast_inj]; done)) (fun h1 => ?_) (fun h1 => ?_)
  · replace hs := condT h1 hs
    repeat (first | simp | with_reducible refine awp_reg ?_ | with_reducible refine And.intro (by omega) ?_ | with_reducible refine optF_if (by omega) ?_ | with_reducible refine gsel_pure (by with_unfolding_all rfl) _ (fun hg => by (try simp at hg); first | (simp [hg]; rfl) | (simp; simp only [if_pos hg]; simp; rfl)) ?_)
    obtain rfl := Option.some.inj hs
    refine hQ _ _ (ret2g _ (Gh.refl _) (by simp [St.frz, St.pur]; rfl) (by first | rfl | (simp [St.frz, St.pur]; done) | (rw [if_pos (by first | omega | (simp; omega))]; simp [St.frz, St.pur]; first | omega | exact List.take_of_length_le (by simp; omega) | skip)) (by simp))
  · replace hs := condF h1 hs
    repeat (first | simp [-awp_cond_eq, -awp_block_eq] | with_reducible refine awp_reg ?_ | with_reducible refine And.intro (by omega) ?_ | with_reducible refine optF_if (by omega) ?_ | with_reducible refine gsel_pure (by with_unfolding_all rfl) _ (fun hg => by (try simp at hg); first | (simp [hg]; rfl) | (simp; simp only [if_pos hg]; simp; rfl)) ?_)
    obtain ⟨o28, e27, hs⟩ := bindO hs
    try dsimp only at hs
    refine awp_cutK (fun (v : Unit) (σ : St) => some (.inl v) = some o28 ∧ 3 ≤ σ.gen) (by rfl) (fun Q hK29 hX30 => ?_) (fun v σ3 hp => ?_)
    · repeat (first | simp | with_reducible refine awp_reg ?_ | with_reducible refine And.intro (by omega) ?_ | with_reducible refine optF_if (by omega) ?_ | with_reducible refine gsel_pure (by with_unfolding_all rfl) _ (fun hg => by (try simp at hg); first | (simp [hg]; rfl) | (simp; simp only [if_pos hg]; simp; rfl)) ?_)
      obtain ⟨hb51, e27⟩ := guardO_some e27
      obtain ⟨o42, e41, e27⟩ := bindO e27
      try dsimp only at e27
      refine awp_loopW (fun (v : Nat × Nat) (σ : St) => r08_ValidName_L1 a0 v.1 v.2 = some o42 ∧ v.1 + v.2 = a0.size ∧ σ.env 0 = sV a0 ∧ σ.env 3 = iV .i64 ((v.2 : Nat) : Int) ∧ 3 ≤ σ.gen) (fun v => v.1) _ (Gh.refl _) (a0.size, 0) ⟨e41, by first | omega | simp | (simp; omega), by simp [St.frz, St.pur], by simp [St.frz, St.pur], by first | (simp; done) | (simp; omega) | omega⟩ fun v σ6 hp L43 hL44 => ?_
      obtain ⟨q46, k36⟩ := v
      dsimp only at hp hL44
      obtain ⟨e41, hd45, h5_0, h5_3, n5_g⟩ := hp
      rcases q46 with _ | q47
      · have hlt48 : ¬ k36 < a0.size := by omega
        rw [r08_ValidName_L1] at e41; try dsimp only at e41
        repeat (first | simp [h5_0, h5_3] | with_reducible refine awp_reg ?_ | with_reducible refine And.intro (by omega) ?_ | with_reducible refine optF_if (by omega) ?_)
        refine condK_f (by simp [ltI]; omega) ?_
        obtain rfl := Option.some.inj e41
        try dsimp only at e27
        exact hK29 () _ _ (Gh.refl _) ⟨e27, by first | (simp; done) | (simp; omega) | omega⟩
      · have hlt48 : k36 < a0.size := by omega
        have ew49 := wrap_succG hlt48 hb51
        rw [r08_ValidName_L1] at e41; try dsimp only at e41
        repeat (first | simp [h5_0, h5_3, hlt48, ew49] | with_reducible refine awp_reg ?_ | with_reducible refine And.intro (by omega) ?_ | with_reducible refine optF_if (by omega) ?_)
        refine condK_t (by simp [ltI]; omega) ?_
        obtain ⟨c52, hx53, e41⟩ := bindO e41
        try dsimp only at e41
        have hx53b := getB_some hx53
        have hx53g := getB_eq hx53
        repeat (first | simp [h5_0, h5_3, hlt48, ew49, hx53, hx53g] | with_reducible refine awp_reg ?_ | with_reducible refine optF_if (by omega) ?_ | with_reducible refine gsel_pure (by with_unfolding_all rfl) _ (fun hg => by (try simp at hg); first | (simp [hg, h5_0, h5_3, hlt48, ew49, hx53, hx53g]; rfl) | (simp [h5_0, h5_3, hlt48, ew49, hx53, hx53g]; simp only [if_pos hg]; simp [h5_0, h5_3, hlt48, ew49, hx53, hx53g]; rfl)) ?_)
        refine condK_spec (andB (!(orB (andB (!(ltI (c52.toNat : Int) 97)) (!(ltI 122 (c52.toNat : Int)))) (andB (!(ltI (c52.toNat : Int) 65)) (!(ltI 90 (c52.toNat : Int)))))) (orB (eqI ((k36 : Nat) : Int) 0) (andB (!(eqI (c52.toNat : Int) 95)) (orB (ltI (c52.toNat : Int) 48) (ltI 57 (c52.toNat : Int)))))) (by first | rfl | (simp [h5_0, h5_3, hlt48, ew49, hx53, hx53g]; done) | (simp [andB, orB, eqI, ltI, Int.natCast_inj, h5_0, h5_3, hlt48, ew49, hx53, hx53g]; done)) (fun h54 => ?_) (fun h54 => ?_)
        · replace e41 := condT h54 e41
          repeat (first | simp [h5_0, h5_3, hlt48, ew49, hx53, hx53g] | with_reducible refine awp_reg ?_ | with_reducible refine optF_if (by omega) ?_ | with_reducible refine gsel_pure (by with_unfolding_all rfl) _ (fun hg => by (try simp at hg); first | (simp [hg, h5_0, h5_3, hlt48, ew49, hx53, hx53g]; rfl) | (simp [h5_0, h5_3, hlt48, ew49, hx53, hx53g]; simp only [if_pos hg]; simp [h5_0, h5_3, hlt48, ew49, hx53, hx53g]; rfl)) ?_)
          obtain rfl := Option.some.inj e41
          try dsimp only at e27
          obtain rfl := Option.some.inj e27
          try dsimp only at hs
          refine hX30 _ _ (by simp) ?_
          repeat (first | simp [h5_0, h5_3, hlt48, ew49, hx53, hx53g] | with_reducible refine awp_reg ?_ | with_reducible refine optF_if (by omega) ?_ | with_reducible refine gsel_pure (by with_unfolding_all rfl) _ (fun hg => by (try simp at hg); first | (simp [hg, h5_0, h5_3, hlt48, ew49, hx53, hx53g]; rfl) | (simp [h5_0, h5_3, hlt48, ew49, hx53, hx53g]; simp only [if_pos hg]; simp [h5_0, h5_3, hlt48, ew49, hx53, hx53g]; rfl)) ?_)
          obtain rfl := Option.some.inj hs
          refine hQ _ _ (ret2g _ (Gh.refl _) (by simp [St.frz, St.pur, h5_0, h5_3, hlt48, ew49, hx53, hx53g]; rfl) (by first | rfl | (simp [St.frz, St.pur, h5_0, h5_3, hlt48, ew49, hx53, hx53g]; done) | (rw [if_pos (by first | omega | (simp; omega))]; simp [St.frz, St.pur, h5_0, h5_3, hlt48, ew49, hx53, hx53g]; first | omega | exact List.take_of_length_le (by simp; omega) | skip)) (by simp))
        · replace e41 := condF h54 e41
          repeat (first | simp [h5_0, h5_3, hlt48, ew49, hx53, hx53g] | with_reducible refine awp_reg ?_ | with_reducible refine optF_if (by omega) ?_ | with_reducible refine gsel_pure (by with_unfolding_all rfl) _ (fun hg => by (try simp at hg); first | (simp [hg, h5_0, h5_3, hlt48, ew49, hx53, hx53g]; rfl) | (simp [h5_0, h5_3, hlt48, ew49, hx53, hx53g]; simp only [if_pos hg]; simp [h5_0, h5_3, hlt48, ew49, hx53, hx53g]; rfl)) ?_)
          exact hL44 (q47, (k36 + 1)) _ _ (Gh.refl _) ⟨e41, (by first | omega | (simp; omega)), by simp [St.frz, St.pur, h5_0, h5_3, hlt48, ew49, hx53, hx53g], by simp [St.frz, St.pur, h5_0, h5_3, hlt48, ew49, hx53, hx53g], by first | (simp; done) | (simp; omega) | omega⟩ (by omega)
    · obtain ⟨e27, n4_g⟩ := hp
      obtain rfl := Option.some.inj e27
      try dsimp only at hs
      repeat (first | simp | with_reducible refine awp_reg ?_ | with_reducible refine And.intro (by omega) ?_ | with_reducible refine optF_if (by omega) ?_ | with_reducible refine gsel_pure (by with_unfolding_all rfl) _ (fun hg => by (try simp at hg); first | (simp [hg]; rfl) | (simp; simp only [if_pos hg]; simp; rfl)) ?_)
      obtain rfl := Option.some.inj hs
      refine hQ _ _ (ret2g _ (Gh.refl _) (by simp [St.frz, St.pur]; rfl) (by first | rfl | (simp [St.frz, St.pur]; done) | (rw [if_pos (by first | omega | (simp; omega))]; simp [St.frz, St.pur]; first | omega | exact List.take_of_length_le (by simp; omega) | skip)) (by simp))
end Go.Dc
end
section
set_option linter.all false
namespace Go.Dc
open Go Go.Hw Go.Proofs
set_option maxRecDepth 100000
def r08_names_L2 (a0 : List ByteArray) (i788 : Int) (x982 : ByteArray) : Nat → Int → Option (Unit ⊕ (Int × Int))
  | 0, _ => none
  | q1012 + 1, i997 => cond (ltI i997 i788) (Option.bind (getI a0 i997) (fun x1020 => cond (eqS x1020 x982) (some (.inr (i788, 7))) (r08_names_L2 a0 i788 x982 q1012 (IntKind.i64.wrap (i997 + 1))))) (some (.inl ()))

def r08_names_L1 (fuelN : Nat) (a0 : List ByteArray) : Nat → Int → Option (Unit ⊕ (Int × Int))
  | 0, _ => none
  | q930 + 1, i788 => cond (ltI i788 ((a0.length : Nat) : Int)) (Option.bind (α := Unit ⊕ (Int × Int)) (Option.bind (getI a0 i788) (fun x982 => Option.bind (r08_ValidName x982) (fun y985 => cond (!y985) (some (.inr (i788, 6))) (Option.bind (r08_names_L2 a0 i788 x982 fuelN 0) (fun o => match o with | .inl _ => some (.inl ()) | .inr r1024 => some (.inr r1024)))))) (fun o => match o with | .inl _ => r08_names_L1 fuelN a0 q930 (IntKind.i64.wrap (i788 + 1)) | .inr r1025 => some (.inr r1025))) (some (.inl ()))

def r08_names (fuelN : Nat) (a0 : List ByteArray) : Option (Int × Int) :=
  Option.bind (α := Unit ⊕ (Int × Int)) (Option.bind (r08_names_L1 fuelN a0 fuelN 0) (fun o => match o with | .inl _ => some (.inl ()) | .inr r1026 => some (.inr r1026))) (fun o => match o with | .inl _ => some (0, 0) | .inr r1027 => some r1027)

set_option maxHeartbeats 2000000 in
theorem at_r08_names {fuelN : Nat} {a0 : List ByteArray} {r : Int × Int} (hs : r08_names fuelN a0 = some r) : At Tryd.prog 92 [.cell (.p (.sl a0.length (encL a0)))] (.tup [iV .i64 r.1, iV .i64 r.2]) := by
  refine at_bound (by kernel_rfl) fun hb => ?_
  have hb1 : LenOk (.sl a0.length (encL a0)) := hb (.cell (.p (.sl a0.length (encL a0)))) (by simp)
  refine at_code mixed Tryd.func92 (by kernel_rfl) rfl (by kernel_rfl) rfl fun Q hQ => ?_
  rw [r08_names] at hs
  repeat (first | simp [-awp_cond_eq, -awp_block_eq] | with_reducible refine awp_reg ?_)
  obtain ⟨o513, e512, hs⟩ := bindO hs
  try dsimp only at hs
  refine awp_cutK (fun (v : Unit) (σ : St) => some (.inl v) = some o513 ∧ 2 ≤ σ.gen) (by rfl) (fun Q hK514 hX515 => ?_) (fun v σ27 hp => ?_)
  · repeat (first | simp | with_reducible refine awp_reg ?_)
    obtain ⟨o925, e924, e512⟩ := bindO e512
    try dsimp only at e512
    refine awp_loopW (fun (v : Nat × Int) (σ : St) => r08_names_L1 fuelN a0 v.1 v.2 = some o925 ∧ σ.env 0 = .cell (.p (.sl a0.length (encL a0))) ∧ σ.env 4 = iV .i64 v.2 ∧ 2 ≤ σ.gen) (fun v => v.1) _ (Gh.refl _) (fuelN, 0) ⟨e924, by simp [St.frz, St.pur], by simp [St.frz, St.pur], by first | (simp; done) | (simp; omega) | omega⟩ fun v σ48 hp L926 hL927 => ?_
    obtain ⟨q929, i788⟩ := v
    dsimp only at hp hL927
    obtain ⟨e924, h47_0, h47_4, n47_g⟩ := hp
    rcases q929 with _ | q930
    · rw [r08_names_L1] at e924; cases e924
    · rw [r08_names_L1] at e924; try dsimp only at e924
      repeat (first | simp [h47_0, h47_4] | with_reducible refine awp_reg ?_ | with_reducible refine And.intro (by omega) ?_ | with_reducible refine optF_if (by omega) ?_)
      refine condK_spec (ltI i788 ((a0.length : Nat) : Int)) (by first | rfl | (simp [h47_0, h47_4]; done) | (simp [andB, orB, eqI, ltI, Int.natCast_inj, h47_0, h47_4]; done)) (fun h934 => ?_) (fun h934 => ?_)
      · replace e924 := condT h934 e924
        repeat (first | simp [-awp_cond_eq, -awp_block_eq, h47_0, h47_4] | with_reducible refine awp_reg ?_ | with_reducible refine And.intro (by omega) ?_ | with_reducible refine optF_if (by omega) ?_)
        obtain ⟨o979, e978, e924⟩ := bindO e924
        try dsimp only at e924
        refine awp_cutK (fun (v : Unit) (σ : St) => some (.inl v) = some o979 ∧ σ.env 0 = .cell (.p (.sl a0.length (encL a0))) ∧ σ.env 4 = iV .i64 i788 ∧ (σ48.gen + 1) ≤ σ.gen) (by rfl) (fun Q hK980 hX981 => ?_) (fun v σ51 hp => ?_)
        · obtain ⟨x982, hx983, e978⟩ := bindO e978
          try dsimp only at e978
          obtain ⟨hx983a, hx983b, hx983c, hx983d⟩ := getI_some hx983
          have f984 : partCV Tryd.prog 9 (encL a0) ((i788).toNat) = some (sV x982) := partCV_enc1 hx983d (by simp)
          repeat (first | simp [h47_0, h47_4, f984] | with_reducible refine awp_reg ?_ | with_reducible refine And.intro (by omega) ?_ | with_reducible refine optF_if (by omega) ?_)
          obtain ⟨y985, hx986, e978⟩ := bindO e978
          try dsimp only at e978
          refine callK_pure (at_r08_ValidName hx986) (by (first | simp [h47_0, h47_4, f984] | simp (disch := omega) [h47_0, h47_4, f984]); try rfl) (by simp) (by simp) ?_
          repeat (first | simp [h47_0, h47_4, f984] | with_reducible refine awp_reg ?_ | with_reducible refine And.intro (by omega) ?_ | with_reducible refine optF_if (by omega) ?_)
          refine condK_spec (!y985) (by first | rfl | (simp [h47_0, h47_4, f984]; done) | (simp [andB, orB, eqI, ltI, Int.natCast_inj, h47_0, h47_4, f984]; done)) (fun h987 => ?_) (fun h987 => ?_)
          · replace e978 := condT h987 e978
            repeat (first | simp [h47_0, h47_4, f984] | with_reducible refine awp_reg ?_ | with_reducible refine And.intro (by omega) ?_ | with_reducible refine optF_if (by omega) ?_)
            obtain rfl := Option.some.inj e978
            try dsimp only at e924
            refine hX981 _ _ (by simp) ?_
            repeat (first | simp [h47_0, h47_4, f984] | with_reducible refine awp_reg ?_ | with_reducible refine And.intro (by omega) ?_ | with_reducible refine optF_if (by omega) ?_)
            obtain rfl := Option.some.inj e924
            try dsimp only at e512
            obtain rfl := Option.some.inj e512
            try dsimp only at hs
            refine hX515 _ _ (by simp) ?_
            repeat (first | simp [h47_0, h47_4, f984] | with_reducible refine awp_reg ?_ | with_reducible refine And.intro (by omega) ?_ | with_reducible refine optF_if (by omega) ?_)
            obtain rfl := Option.some.inj hs
            refine hQ _ _ (ret2g _ (Gh.refl _) (by simp [St.frz, St.pur, h47_0, h47_4, f984]; rfl) (by first | rfl | (simp [St.frz, St.pur, h47_0, h47_4, f984]; done) | (rw [if_pos (by first | omega | (simp; omega))]; simp [St.frz, St.pur, h47_0, h47_4, f984]; first | omega | exact List.take_of_length_le (by simp; omega) | skip)) (by simp))
          · replace e978 := condF h987 e978
            repeat (first | simp [h47_0, h47_4, f984] | with_reducible refine awp_reg ?_ | with_reducible refine And.intro (by omega) ?_ | with_reducible refine optF_if (by omega) ?_)
            obtain ⟨o1007, e1006, e978⟩ := bindO e978
            try dsimp only at e978
            refine awp_loopW (fun (v : Nat × Int) (σ : St) => r08_names_L2 a0 i788 x982 v.1 v.2 = some o1007 ∧ σ.env 0 = .cell (.p (.sl a0.length (encL a0))) ∧ σ.env 4 = iV .i64 i788 ∧ σ.env 5 = iV .i64 v.2 ∧ (σ48.gen + 3) ≤ σ.gen) (fun v => v.1) _ (Gh.refl _) (fuelN, 0) ⟨e1006, by simp [St.frz, St.pur, h47_0, h47_4, f984], by simp [St.frz, St.pur, h47_0, h47_4, f984], by simp [St.frz, St.pur, h47_0, h47_4, f984], by first | (simp; done) | (simp; omega) | omega⟩ fun v σ54 hp L1008 hL1009 => ?_
            obtain ⟨q1011, i997⟩ := v
            dsimp only at hp hL1009
            obtain ⟨e1006, h53_0, h53_4, h53_5, n53_g⟩ := hp
            rcases q1011 with _ | q1012
            · rw [r08_names_L2] at e1006; cases e1006
            · rw [r08_names_L2] at e1006; try dsimp only at e1006
              repeat (first | simp [h53_0, h53_4, h53_5, f984] | with_reducible refine awp_reg ?_)
              refine condK_spec (ltI i997 i788) (by first | rfl | (simp [h53_0, h53_4, h53_5, f984]; done) | (simp [andB, orB, eqI, ltI, Int.natCast_inj, h53_0, h53_4, h53_5, f984]; done)) (fun h1016 => ?_) (fun h1016 => ?_)
              · replace e1006 := condT h1016 e1006
                obtain ⟨x1020, hx1021, e1006⟩ := bindO e1006
                try dsimp only at e1006
                obtain ⟨hx1021a, hx1021b, hx1021c, hx1021d⟩ := getI_some hx1021
                have f1022 : partCV Tryd.prog 9 (encL a0) ((i997).toNat) = some (sV x1020) := partCV_enc1 hx1021d (by simp)
                repeat (first | simp [h53_0, h53_4, h53_5, f984, f1022] | with_reducible refine awp_reg ?_ | with_reducible refine awp_draw ?_ | with_reducible refine ord_l (by kernel_rfl) ?_ | with_reducible refine ord_e (by kernel_rfl) ?_ | with_reducible refine ord_c (by kernel_rfl) ?_ | with_reducible refine ord_d (by kernel_rfl) ?_ | with_reducible refine optF_if (by omega) ?_)
                refine condK_spec (eqS x1020 x982) (by first | rfl | (simp [h53_0, h53_4, h53_5, f984, f1022]; done) | (simp [andB, orB, eqI, ltI, Int.natCast_inj, h53_0, h53_4, h53_5, f984, f1022]; done)) (fun h1023 => ?_) (fun h1023 => ?_)
                · replace e1006 := condT h1023 e1006
                  repeat (first | simp [h53_0, h53_4, h53_5, f984, f1022] | with_reducible refine awp_reg ?_ | with_reducible refine awp_draw ?_ | with_reducible refine ord_l (by kernel_rfl) ?_ | with_reducible refine ord_e (by kernel_rfl) ?_ | with_reducible refine ord_c (by kernel_rfl) ?_ | with_reducible refine ord_d (by kernel_rfl) ?_ | with_reducible refine optF_if (by omega) ?_)
                  obtain rfl := Option.some.inj e1006
                  try dsimp only at e978
                  obtain rfl := Option.some.inj e978
                  try dsimp only at e924
                  refine hX981 _ _ (by simp) ?_
                  repeat (first | simp [h53_0, h53_4, h53_5, f984, f1022] | with_reducible refine awp_reg ?_ | with_reducible refine awp_draw ?_ | with_reducible refine ord_l (by kernel_rfl) ?_ | with_reducible refine ord_e (by kernel_rfl) ?_ | with_reducible refine ord_c (by kernel_rfl) ?_ | with_reducible refine ord_d (by kernel_rfl) ?_ | with_reducible refine optF_if (by omega) ?_)
                  obtain rfl := Option.some.inj e924
                  try dsimp only at e512
                  obtain rfl := Option.some.inj e512
                  try dsimp only at hs
                  refine hX515 _ _ (by simp) ?_
                  repeat (first | simp [h53_0, h53_4, h53_5, f984, f1022] | with_reducible refine awp_reg ?_ | with_reducible refine awp_draw ?_ | with_reducible refine ord_l (by kernel_rfl) ?_ | with_reducible refine ord_e (by kernel_rfl) ?_ | with_reducible refine ord_c (by kernel_rfl) ?_ | with_reducible refine ord_d (by kernel_rfl) ?_ | with_reducible refine optF_if (by omega) ?_)
                  obtain rfl := Option.some.inj hs
                  refine hQ _ _ (ret2g _ (Gh.refl _) (by simp [St.frz, St.pur, h53_0, h53_4, h53_5, f984, f1022]; rfl) (by first | rfl | (simp [St.frz, St.pur, h53_0, h53_4, h53_5, f984, f1022]; done) | (rw [if_pos (by first | omega | (simp; omega))]; simp [St.frz, St.pur, h53_0, h53_4, h53_5, f984, f1022]; first | omega | exact List.take_of_length_le (by simp; omega) | skip)) (by simp))
                · replace e1006 := condF h1023 e1006
                  repeat (first | simp [h53_0, h53_4, h53_5, f984, f1022] | with_reducible refine awp_reg ?_ | with_reducible refine awp_draw ?_ | with_reducible refine ord_l (by kernel_rfl) ?_ | with_reducible refine ord_e (by kernel_rfl) ?_ | with_reducible refine ord_c (by kernel_rfl) ?_ | with_reducible refine ord_d (by kernel_rfl) ?_ | with_reducible refine optF_if (by omega) ?_)
                  exact hL1009 (q1012, IntKind.i64.wrap (i997 + 1)) _ _ (Gh.refl _) ⟨e1006, by simp [St.frz, St.pur, h53_0, h53_4, h53_5, f984, f1022], by simp [St.frz, St.pur, h53_0, h53_4, h53_5, f984, f1022], by simp [St.frz, St.pur, h53_0, h53_4, h53_5, f984, f1022], by first | (simp; done) | (simp; omega) | omega⟩ (by omega)
              · replace e1006 := condF h1016 e1006
                repeat (first | simp [h53_0, h53_4, h53_5, f984] | with_reducible refine awp_reg ?_)
                obtain rfl := Option.some.inj e1006
                try dsimp only at e978
                exact hK980 () _ _ (Gh.refl _) ⟨e978, by simp [St.frz, St.pur, h53_0, h53_4, h53_5, f984], by simp [St.frz, St.pur, h53_0, h53_4, h53_5, f984], by first | (simp; done) | (simp; omega) | omega⟩
        · obtain ⟨e978, h52_0, h52_4, n52_g⟩ := hp
          obtain rfl := Option.some.inj e978
          try dsimp only at e924
          repeat (first | simp [h52_0, h52_4] | with_reducible refine awp_reg ?_ | with_reducible refine And.intro (by omega) ?_ | with_reducible refine optF_if (by omega) ?_)
          exact hL927 (q930, IntKind.i64.wrap (i788 + 1)) _ _ (Gh.refl _) ⟨e924, by simp [St.frz, St.pur, h52_0, h52_4], by simp [St.frz, St.pur, h52_0, h52_4], by first | (simp; done) | (simp; omega) | omega⟩ (by omega)
      · replace e924 := condF h934 e924
        repeat (first | simp [h47_0, h47_4] | with_reducible refine awp_reg ?_ | with_reducible refine And.intro (by omega) ?_ | with_reducible refine optF_if (by omega) ?_)
        obtain rfl := Option.some.inj e924
        try dsimp only at e512
        exact hK514 () _ _ (Gh.refl _) ⟨e512, by first | (simp; done) | (simp; omega) | omega⟩
  · obtain ⟨e512, n28_g⟩ := hp
    obtain rfl := Option.some.inj e512
    try dsimp only at hs
    repeat (first | simp | with_reducible refine awp_reg ?_)
    obtain rfl := Option.some.inj hs
    refine hQ _ _ (ret2g _ (Gh.refl _) (by simp [St.frz, St.pur]; rfl) (by first | rfl | (simp [St.frz, St.pur]; done) | (rw [if_pos (by first | omega | (simp; omega))]; simp [St.frz, St.pur]; first | omega | exact List.take_of_length_le (by simp; omega) | skip)) (by simp))
end Go.Dc
end
section
set_option linter.all false
namespace Go.Dc
open Go Go.Hw Go.Proofs
set_option maxRecDepth 100000

def r08_value (a0 : Int) : Option Bool :=
  some (andB (!(ltI a0 (-2147483648))) (!(ltI 2147483647 a0)))

set_option maxHeartbeats 2000000 in
theorem at_r08_value {a0 : Int} {r : Bool} (hs : r08_value a0 = some r) : At Tryd.prog 93 [iV .i64 a0] (bV r) := by
  refine at_bound (by kernel_rfl) fun hb => ?_
  refine at_code mixed Tryd.func93 (by kernel_rfl) rfl (by kernel_rfl) rfl fun Q hQ => ?_
  rw [r08_value] at hs
  repeat (first | simp | with_reducible refine awp_reg ?_ | with_reducible refine gsel_pure (by with_unfolding_all rfl) _ (fun hg => by (try simp at hg); first | (simp [hg]; rfl) | (simp; simp only [if_pos hg]; simp; rfl)) ?_)
  obtain rfl := Option.some.inj hs
  refine hQ _ _ (ret2g _ (Gh.refl _) (by simp [St.frz, St.pur]; rfl) (by first | rfl | (simp [St.frz, St.pur]; done) | (rw [if_pos (by first | omega | (simp; omega))]; simp [St.frz, St.pur]; first | omega | exact List.take_of_length_le (by simp; omega) | skip)) (by simp))
end Go.Dc
end
section
set_option linter.all false
namespace Go.Dc
open Go Go.Hw Go.Proofs
set_option maxRecDepth 100000

def r08_exists (a0 : Program) (a1 : Inst) : Option Bool :=
  Option.bind (α := Nat ⊕ Bool) (Option.bind (α := Bool) (cond (eqI a1.Op 8) (some (eqI a1.Op 8)) (cond (eqI a1.Op 9) (some (eqI a1.Op 9)) (cond (eqI a1.Op 10) (some (eqI a1.Op 10)) (cond (eqI a1.Op 11) (some (eqI a1.Op 11)) (cond (eqI a1.Op 12) (some (eqI a1.Op 12)) (some (eqI a1.Op 14))))))) (fun b42 => cond b42 (some (.inl a0.Vars.length)) (Option.bind (α := Bool) (cond (eqI a1.Op 15) (some (eqI a1.Op 15)) (cond (eqI a1.Op 16) (some (eqI a1.Op 16)) (some (eqI a1.Op 17)))) (fun b55 => cond b55 (some (.inl a0.Mutexes.length)) (cond (eqI a1.Op 18) (cond (orB (ltI a1.N 0) (!(ltI a1.N ((a0.Mutexes.length : Nat) : Int)))) (some (.inr false)) (some (.inl a0.Conds.length))) (cond (eqI a1.Op 19) (some (.inl a0.Conds.length)) (cond (eqI a1.Op 20) (some (.inl a0.Conds.length)) (cond (eqI a1.Op 21) (some (.inl a0.Funcs.length)) (some (.inr true)))))))))) (fun o => match o with | .inl k32 => some (andB (!(ltI a1.Obj 0)) (ltI a1.Obj ((k32 : Nat) : Int))) | .inr r68 => some r68)

set_option maxHeartbeats 2000000 in
theorem at_r08_exists {a0 : Program} {a1 : Inst} {r : Bool} (hs : r08_exists a0 a1 = some r) : At Tryd.prog 119 [.agg [.p (.sl a0.Vars.length (encL a0.Vars)), .p (.sl a0.Mutexes.length (encL a0.Mutexes)), .p (.sl a0.Conds.length (encL a0.Conds)), .p (.sl a0.Funcs.length (encL a0.Funcs)), .p (.sl a0.Threads.length (encL a0.Threads))], .agg [.p (.c (.int .i64 a1.Op)), .p (.c (.int .i64 a1.A)), .p (.c (.int .i64 a1.B)), .p (.c (.int .i64 a1.C)), .p (.c (.int .i64 a1.Obj)), .p (.c (.int .i64 a1.N)), .p (.c (.int .i64 a1.Fn)), .p (.c (.int .i64 a1.Order))]] (bV r) := by
  refine at_bound (by kernel_rfl) fun hb => ?_
  have hb1 : LenOk (.sl a0.Vars.length (encL a0.Vars)) := hb (.agg [.p (.sl a0.Vars.length (encL a0.Vars)), .p (.sl a0.Mutexes.length (encL a0.Mutexes)), .p (.sl a0.Conds.length (encL a0.Conds)), .p (.sl a0.Funcs.length (encL a0.Funcs)), .p (.sl a0.Threads.length (encL a0.Threads))]) (by simp) (.p (.sl a0.Vars.length (encL a0.Vars))) (by simp)
  have hb2 : LenOk (.sl a0.Mutexes.length (encL a0.Mutexes)) := hb (.agg [.p (.sl a0.Vars.length (encL a0.Vars)), .p (.sl a0.Mutexes.length (encL a0.Mutexes)), .p (.sl a0.Conds.length (encL a0.Conds)), .p (.sl a0.Funcs.length (encL a0.Funcs)), .p (.sl a0.Threads.length (encL a0.Threads))]) (by simp) (.p (.sl a0.Mutexes.length (encL a0.Mutexes))) (by simp)
  have hb3 : LenOk (.sl a0.Conds.length (encL a0.Conds)) := hb (.agg [.p (.sl a0.Vars.length (encL a0.Vars)), .p (.sl a0.Mutexes.length (encL a0.Mutexes)), .p (.sl a0.Conds.length (encL a0.Conds)), .p (.sl a0.Funcs.length (encL a0.Funcs)), .p (.sl a0.Threads.length (encL a0.Threads))]) (by simp) (.p (.sl a0.Conds.length (encL a0.Conds))) (by simp)
  have hb4 : LenOk (.sl a0.Funcs.length (encL a0.Funcs)) := hb (.agg [.p (.sl a0.Vars.length (encL a0.Vars)), .p (.sl a0.Mutexes.length (encL a0.Mutexes)), .p (.sl a0.Conds.length (encL a0.Conds)), .p (.sl a0.Funcs.length (encL a0.Funcs)), .p (.sl a0.Threads.length (encL a0.Threads))]) (by simp) (.p (.sl a0.Funcs.length (encL a0.Funcs))) (by simp)
  have hb5 : LenOk (.sl a0.Threads.length (encL a0.Threads)) := hb (.agg [.p (.sl a0.Vars.length (encL a0.Vars)), .p (.sl a0.Mutexes.length (encL a0.Mutexes)), .p (.sl a0.Conds.length (encL a0.Conds)), .p (.sl a0.Funcs.length (encL a0.Funcs)), .p (.sl a0.Threads.length (encL a0.Threads))]) (by simp) (.p (.sl a0.Threads.length (encL a0.Threads))) (by simp)
  refine at_code mixed Tryd.func119 (by kernel_rfl) rfl (by kernel_rfl) rfl fun Q hQ => ?_
  rw [r08_exists] at hs
  repeat (first | simp [-awp_cond_eq, -awp_block_eq] | with_reducible refine awp_reg ?_)
  obtain ⟨o34, e33, hs⟩ := bindO hs
  try dsimp only at hs
  refine awp_cutK (fun (v : Nat) (σ : St) => some (.inl v) = some o34 ∧ σ.env 3 = .cell (.ref (.o 1 1 0) 0) ∧ σ.env 5 = iV .i64 ((v : Nat) : Int) ∧ σ.hp (.o 1 1 0) = some (.cells [.p (.c (.int .i64 a1.Op)), .p (.c (.int .i64 a1.A)), .p (.c (.int .i64 a1.B)), .p (.c (.int .i64 a1.C)), .p (.c (.int .i64 a1.Obj)), .p (.c (.int .i64 a1.N)), .p (.c (.int .i64 a1.Fn)), .p (.c (.int .i64 a1.Order))]) ∧ 3 ≤ σ.gen) (by rfl) (fun Q hK35 hX36 => ?_) (fun k32 σ5 hp => ?_)
  · repeat (first | simp [-awp_cond_eq, -awp_block_eq] | with_reducible refine awp_reg ?_)
    refine awp_block ?_
    repeat (first | simp [-awp_cond_eq, -awp_block_eq] | with_reducible refine awp_reg ?_)
    obtain ⟨o44, e43, e33⟩ := bindO e33
    try dsimp only at e33
    refine awp_cut0 (fun (v : Bool) (σ : St) => some (v) = some o44 ∧ σ.env 2 = .cell (.ref (.o 1 0 0) 0) ∧ σ.env 3 = .cell (.ref (.o 1 1 0) 0) ∧ σ.env 7 = iV .i64 a1.Op ∧ σ.env 8 = bV v ∧ σ.hp (.o 1 0 0) = some (.cells [.p (.sl a0.Vars.length (encL a0.Vars)), .p (.sl a0.Mutexes.length (encL a0.Mutexes)), .p (.sl a0.Conds.length (encL a0.Conds)), .p (.sl a0.Funcs.length (encL a0.Funcs)), .p (.sl a0.Threads.length (encL a0.Threads))]) ∧ σ.hp (.o 1 1 0) = some (.cells [.p (.c (.int .i64 a1.Op)), .p (.c (.int .i64 a1.A)), .p (.c (.int .i64 a1.B)), .p (.c (.int .i64 a1.C)), .p (.c (.int .i64 a1.Obj)), .p (.c (.int .i64 a1.N)), .p (.c (.int .i64 a1.Fn)), .p (.c (.int .i64 a1.Order))]) ∧ 4 ≤ σ.gen) (fun Q hK45 hX46 => ?_) (fun b42 σ7 hp => ?_)
    · repeat (first | simp | with_reducible refine awp_reg ?_)
      refine condK_spec (eqI a1.Op 8) (by first | rfl | (simp; done) | (simp [andB, orB, eqI, ltI, Int.natCast_inj]; done)) (fun h47 => ?_) (fun h47 => ?_)
      · replace e43 := condT h47 e43
        repeat (first | simp | with_reducible refine awp_reg ?_)
        exact hK45 (eqI a1.Op 8) _ ⟨e43, by simp [St.frz, St.pur], by simp [St.frz, St.pur], by simp [St.frz, St.pur], by simp [St.frz, St.pur], by simp [St.frz, St.pur], by simp [St.frz, St.pur], by first | (simp; done) | (simp; omega) | omega⟩
      · replace e43 := condF h47 e43
        repeat (first | simp | with_reducible refine awp_reg ?_)
        refine condK_spec (eqI a1.Op 9) (by first | rfl | (simp; done) | (simp [andB, orB, eqI, ltI, Int.natCast_inj]; done)) (fun h48 => ?_) (fun h48 => ?_)
        · replace e43 := condT h48 e43
          repeat (first | simp | with_reducible refine awp_reg ?_)
          exact hK45 (eqI a1.Op 9) _ ⟨e43, by simp [St.frz, St.pur], by simp [St.frz, St.pur], by simp [St.frz, St.pur], by simp [St.frz, St.pur], by simp [St.frz, St.pur], by simp [St.frz, St.pur], by first | (simp; done) | (simp; omega) | omega⟩
        · replace e43 := condF h48 e43
          repeat (first | simp | with_reducible refine awp_reg ?_)
          refine condK_spec (eqI a1.Op 10) (by first | rfl | (simp; done) | (simp [andB, orB, eqI, ltI, Int.natCast_inj]; done)) (fun h49 => ?_) (fun h49 => ?_)
          · replace e43 := condT h49 e43
            repeat (first | simp | with_reducible refine awp_reg ?_)
            exact hK45 (eqI a1.Op 10) _ ⟨e43, by simp [St.frz, St.pur], by simp [St.frz, St.pur], by simp [St.frz, St.pur], by simp [St.frz, St.pur], by simp [St.frz, St.pur], by simp [St.frz, St.pur], by first | (simp; done) | (simp; omega) | omega⟩
          · replace e43 := condF h49 e43
            repeat (first | simp | with_reducible refine awp_reg ?_)
            refine condK_spec (eqI a1.Op 11) (by first | rfl | (simp; done) | (simp [andB, orB, eqI, ltI, Int.natCast_inj]; done)) (fun h50 => ?_) (fun h50 => ?_)
            · replace e43 := condT h50 e43
              repeat (first | simp | with_reducible refine awp_reg ?_)
              exact hK45 (eqI a1.Op 11) _ ⟨e43, by simp [St.frz, St.pur], by simp [St.frz, St.pur], by simp [St.frz, St.pur], by simp [St.frz, St.pur], by simp [St.frz, St.pur], by simp [St.frz, St.pur], by first | (simp; done) | (simp; omega) | omega⟩
            · replace e43 := condF h50 e43
              repeat (first | simp | with_reducible refine awp_reg ?_)
              refine condK_spec (eqI a1.Op 12) (by first | rfl | (simp; done) | (simp [andB, orB, eqI, ltI, Int.natCast_inj]; done)) (fun h51 => ?_) (fun h51 => ?_)
              · replace e43 := condT h51 e43
                repeat (first | simp | with_reducible refine awp_reg ?_)
                exact hK45 (eqI a1.Op 12) _ ⟨e43, by simp [St.frz, St.pur], by simp [St.frz, St.pur], by simp [St.frz, St.pur], by simp [St.frz, St.pur], by simp [St.frz, St.pur], by simp [St.frz, St.pur], by first | (simp; done) | (simp; omega) | omega⟩
              · replace e43 := condF h51 e43
                repeat (first | simp | with_reducible refine awp_reg ?_)
                exact hK45 (eqI a1.Op 14) _ ⟨e43, by simp [St.frz, St.pur], by simp [St.frz, St.pur], by simp [St.frz, St.pur], by simp [St.frz, St.pur], by simp [St.frz, St.pur], by simp [St.frz, St.pur], by first | (simp; done) | (simp; omega) | omega⟩
    · obtain ⟨e43, h8_2, h8_3, h8_7, h8_8, g8_0, g8_1, n8_g⟩ := hp
      obtain rfl := Option.some.inj e43
      try dsimp only at e33
      have n8_0 : ¬ (σ7.gen = 0) := by omega
      repeat (first | simp [h8_2, h8_3, h8_7, h8_8, g8_0, g8_1, n8_0] | with_reducible refine awp_reg ?_)
      refine condK_spec b42 (by first | rfl | (simp [h8_2, h8_3, h8_7, h8_8, g8_0, g8_1, n8_0]; done) | (simp [andB, orB, eqI, ltI, Int.natCast_inj, h8_2, h8_3, h8_7, h8_8, g8_0, g8_1, n8_0]; done)) (fun h52 => ?_) (fun h52 => ?_)
      · replace e33 := condT h52 e33
        repeat (first | simp [h8_2, h8_3, h8_7, h8_8, g8_0, g8_1, n8_0] | with_reducible refine awp_reg ?_ | with_reducible refine And.intro (by omega) ?_ | with_reducible refine optF_if (by omega) ?_)
        exact hK35 a0.Vars.length _ _ (Gh.refl _) ⟨e33, by simp [St.frz, St.pur, h8_2, h8_3, h8_7, h8_8, g8_0, g8_1, n8_0], by simp [St.frz, St.pur, h8_2, h8_3, h8_7, h8_8, g8_0, g8_1, n8_0], by simp [St.frz, St.pur, h8_2, h8_3, h8_7, h8_8, g8_0, g8_1, n8_0], by first | (simp; done) | (simp; omega) | omega⟩
      · replace e33 := condF h52 e33
        repeat (first | simp [-awp_cond_eq, -awp_block_eq, h8_2, h8_3, h8_7, h8_8, g8_0, g8_1, n8_0] | with_reducible refine awp_reg ?_)
        obtain ⟨o57, e56, e33⟩ := bindO e33
        try dsimp only at e33
        refine awp_cut0 (fun (v : Bool) (σ : St) => some (v) = some o57 ∧ σ.env 2 = .cell (.ref (.o 1 0 0) 0) ∧ σ.env 3 = .cell (.ref (.o 1 1 0) 0) ∧ σ.env 7 = iV .i64 a1.Op ∧ σ.env 18 = bV v ∧ σ.hp (.o 1 0 0) = some (.cells [.p (.sl a0.Vars.length (encL a0.Vars)), .p (.sl a0.Mutexes.length (encL a0.Mutexes)), .p (.sl a0.Conds.length (encL a0.Conds)), .p (.sl a0.Funcs.length (encL a0.Funcs)), .p (.sl a0.Threads.length (encL a0.Threads))]) ∧ σ.hp (.o 1 1 0) = some (.cells [.p (.c (.int .i64 a1.Op)), .p (.c (.int .i64 a1.A)), .p (.c (.int .i64 a1.B)), .p (.c (.int .i64 a1.C)), .p (.c (.int .i64 a1.Obj)), .p (.c (.int .i64 a1.N)), .p (.c (.int .i64 a1.Fn)), .p (.c (.int .i64 a1.Order))]) ∧ (σ7.gen + 1) ≤ σ.gen) (fun Q hK58 hX59 => ?_) (fun b55 σ9 hp => ?_)
        · repeat (first | simp [h8_2, h8_3, h8_7, h8_8, g8_0, g8_1, n8_0] | with_reducible refine awp_reg ?_)
          refine condK_spec (eqI a1.Op 15) (by first | rfl | (simp [h8_2, h8_3, h8_7, h8_8, g8_0, g8_1, n8_0]; done) | (simp [andB, orB, eqI, ltI, Int.natCast_inj, h8_2, h8_3, h8_7, h8_8, g8_0, g8_1, n8_0]; done)) (fun h60 => ?_) (fun h60 => ?_)
          · replace e56 := condT h60 e56
            repeat (first | simp [h8_2, h8_3, h8_7, h8_8, g8_0, g8_1, n8_0] | with_reducible refine awp_reg ?_)
            exact hK58 (eqI a1.Op 15) _ ⟨e56, by simp [St.frz, St.pur, h8_2, h8_3, h8_7, h8_8, g8_0, g8_1, n8_0], by simp [St.frz, St.pur, h8_2, h8_3, h8_7, h8_8, g8_0, g8_1, n8_0], by simp [St.frz, St.pur, h8_2, h8_3, h8_7, h8_8, g8_0, g8_1, n8_0], by simp [St.frz, St.pur, h8_2, h8_3, h8_7, h8_8, g8_0, g8_1, n8_0], by simp [St.frz, St.pur, h8_2, h8_3, h8_7, h8_8, g8_0, g8_1, n8_0], by simp [St.frz, St.pur, h8_2, h8_3, h8_7, h8_8, g8_0, g8_1, n8_0], by first | (simp; done) | (simp; omega) | omega⟩
          · replace e56 := condF h60 e56
            repeat (first | simp [h8_2, h8_3, h8_7, h8_8, g8_0, g8_1, n8_0] | with_reducible refine awp_reg ?_)
            refine condK_spec (eqI a1.Op 16) (by first | rfl | (simp [h8_2, h8_3, h8_7, h8_8, g8_0, g8_1, n8_0]; done) | (simp [andB, orB, eqI, ltI, Int.natCast_inj, h8_2, h8_3, h8_7, h8_8, g8_0, g8_1, n8_0]; done)) (fun h61 => ?_) (fun h61 => ?_)
            · replace e56 := condT h61 e56
              repeat (first | simp [h8_2, h8_3, h8_7, h8_8, g8_0, g8_1, n8_0] | with_reducible refine awp_reg ?_)
              exact hK58 (eqI a1.Op 16) _ ⟨e56, by simp [St.frz, St.pur, h8_2, h8_3, h8_7, h8_8, g8_0, g8_1, n8_0], by simp [St.frz, St.pur, h8_2, h8_3, h8_7, h8_8, g8_0, g8_1, n8_0], by simp [St.frz, St.pur, h8_2, h8_3, h8_7, h8_8, g8_0, g8_1, n8_0], by simp [St.frz, St.pur, h8_2, h8_3, h8_7, h8_8, g8_0, g8_1, n8_0], by simp [St.frz, St.pur, h8_2, h8_3, h8_7, h8_8, g8_0, g8_1, n8_0], by simp [St.frz, St.pur, h8_2, h8_3, h8_7, h8_8, g8_0, g8_1, n8_0], by first | (simp; done) | (simp; omega) | omega⟩
            · replace e56 := condF h61 e56
              repeat (first | simp [h8_2, h8_3, h8_7, h8_8, g8_0, g8_1, n8_0] | with_reducible refine awp_reg ?_)
              exact hK58 (eqI a1.Op 17) _ ⟨e56, by simp [St.frz, St.pur, h8_2, h8_3, h8_7, h8_8, g8_0, g8_1, n8_0], by simp [St.frz, St.pur, h8_2, h8_3, h8_7, h8_8, g8_0, g8_1, n8_0], by simp [St.frz, St.pur, h8_2, h8_3, h8_7, h8_8, g8_0, g8_1, n8_0], by simp [St.frz, St.pur, h8_2, h8_3, h8_7, h8_8, g8_0, g8_1, n8_0], by simp [St.frz, St.pur, h8_2, h8_3, h8_7, h8_8, g8_0, g8_1, n8_0], by simp [St.frz, St.pur, h8_2, h8_3, h8_7, h8_8, g8_0, g8_1, n8_0], by first | (simp; done) | (simp; omega) | omega⟩
        · obtain ⟨e56, h10_2, h10_3, h10_7, h10_18, g10_0, g10_1, n10_g⟩ := hp
          obtain rfl := Option.some.inj e56
          try dsimp only at e33
          have n10_0 : ¬ (σ9.gen = 0) := by omega
          repeat (first | simp [h10_2, h10_3, h10_7, h10_18, g10_0, g10_1, n10_0] | with_reducible refine awp_reg ?_)
          refine condK_spec b55 (by first | rfl | (simp [h10_2, h10_3, h10_7, h10_18, g10_0, g10_1, n10_0]; done) | (simp [andB, orB, eqI, ltI, Int.natCast_inj, h10_2, h10_3, h10_7, h10_18, g10_0, g10_1, n10_0]; done)) (fun h62 => ?_) (fun h62 => ?_)
          · replace e33 := condT h62 e33
            repeat (first | simp [h10_2, h10_3, h10_7, h10_18, g10_0, g10_1, n10_0] | with_reducible refine awp_reg ?_ | with_reducible refine And.intro (by omega) ?_ | with_reducible refine optF_if (by omega) ?_)
            exact hK35 a0.Mutexes.length _ _ (Gh.refl _) ⟨e33, by simp [St.frz, St.pur, h10_2, h10_3, h10_7, h10_18, g10_0, g10_1, n10_0], by simp [St.frz, St.pur, h10_2, h10_3, h10_7, h10_18, g10_0, g10_1, n10_0], by simp [St.frz, St.pur, h10_2, h10_3, h10_7, h10_18, g10_0, g10_1, n10_0], by first | (simp; done) | (simp; omega) | omega⟩
          · replace e33 := condF h62 e33
            repeat (first | simp [h10_2, h10_3, h10_7, h10_18, g10_0, g10_1, n10_0] | with_reducible refine awp_reg ?_)
            refine condK_spec (eqI a1.Op 18) (by first | rfl | (simp [h10_2, h10_3, h10_7, h10_18, g10_0, g10_1, n10_0]; done) | (simp [andB, orB, eqI, ltI, Int.natCast_inj, h10_2, h10_3, h10_7, h10_18, g10_0, g10_1, n10_0]; done)) (fun h63 => ?_) (fun h63 => ?_)
            · replace e33 := condT h63 e33
              repeat (first | simp [h10_2, h10_3, h10_7, h10_18, g10_0, g10_1, n10_0] | with_reducible refine awp_reg ?_ | with_reducible refine And.intro (by omega) ?_ | with_reducible refine optF_if (by omega) ?_ | with_reducible refine gsel_pure (by with_unfolding_all rfl) _ (fun hg => by (try simp at hg); first | (simp [hg, h10_2, h10_3, h10_7, h10_18, g10_0, g10_1, n10_0]; rfl) | (simp [h10_2, h10_3, h10_7, h10_18, g10_0, g10_1, n10_0]; simp only [if_pos hg]; simp [h10_2, h10_3, h10_7, h10_18, g10_0, g10_1, n10_0]; rfl)) ?_)
              refine condK_spec (orB (ltI a1.N 0) (!(ltI a1.N ((a0.Mutexes.length : Nat) : Int)))) (by first | rfl | (simp [h10_2, h10_3, h10_7, h10_18, g10_0, g10_1, n10_0]; done) | (simp [andB, orB, eqI, ltI, Int.natCast_inj, h10_2, h10_3, h10_7, h10_18, g10_0, g10_1, n10_0]; done)) (fun h64 => ?_) (fun h64 => ?_)
              · replace e33 := condT h64 e33
                repeat (first | simp [h10_2, h10_3, h10_7, h10_18, g10_0, g10_1, n10_0] | with_reducible refine awp_reg ?_ | with_reducible refine And.intro (by omega) ?_ | with_reducible refine optF_if (by omega) ?_ | with_reducible refine gsel_pure (by with_unfolding_all rfl) _ (fun hg => by (try simp at hg); first | (simp [hg, h10_2, h10_3, h10_7, h10_18, g10_0, g10_1, n10_0]; rfl) | (simp [h10_2, h10_3, h10_7, h10_18, g10_0, g10_1, n10_0]; simp only [if_pos hg]; simp [h10_2, h10_3, h10_7, h10_18, g10_0, g10_1, n10_0]; rfl)) ?_)
                obtain rfl := Option.some.inj e33
                try dsimp only at hs
                refine hX36 _ _ (by simp) ?_
                repeat (first | simp [h10_2, h10_3, h10_7, h10_18, g10_0, g10_1, n10_0] | with_reducible refine awp_reg ?_ | with_reducible refine And.intro (by omega) ?_ | with_reducible refine optF_if (by omega) ?_ | with_reducible refine gsel_pure (by with_unfolding_all rfl) _ (fun hg => by (try simp at hg); first | (simp [hg, h10_2, h10_3, h10_7, h10_18, g10_0, g10_1, n10_0]; rfl) | (simp [h10_2, h10_3, h10_7, h10_18, g10_0, g10_1, n10_0]; simp only [if_pos hg]; simp [h10_2, h10_3, h10_7, h10_18, g10_0, g10_1, n10_0]; rfl)) ?_)
                obtain rfl := Option.some.inj hs
                refine hQ _ _ (ret2g _ (Gh.refl _) (by simp [St.frz, St.pur, h10_2, h10_3, h10_7, h10_18, g10_0, g10_1, n10_0]; rfl) (by first | rfl | (simp [St.frz, St.pur, h10_2, h10_3, h10_7, h10_18, g10_0, g10_1, n10_0]; done) | (rw [if_pos (by first | omega | (simp; omega))]; simp [St.frz, St.pur, h10_2, h10_3, h10_7, h10_18, g10_0, g10_1, n10_0]; first | omega | exact List.take_of_length_le (by simp; omega) | skip)) (by simp))
              · replace e33 := condF h64 e33
                repeat (first | simp [h10_2, h10_3, h10_7, h10_18, g10_0, g10_1, n10_0] | with_reducible refine awp_reg ?_ | with_reducible refine And.intro (by omega) ?_ | with_reducible refine optF_if (by omega) ?_ | with_reducible refine gsel_pure (by with_unfolding_all rfl) _ (fun hg => by (try simp at hg); first | (simp [hg, h10_2, h10_3, h10_7, h10_18, g10_0, g10_1, n10_0]; rfl) | (simp [h10_2, h10_3, h10_7, h10_18, g10_0, g10_1, n10_0]; simp only [if_pos hg]; simp [h10_2, h10_3, h10_7, h10_18, g10_0, g10_1, n10_0]; rfl)) ?_)
                exact hK35 a0.Conds.length _ _ (Gh.refl _) ⟨e33, by simp [St.frz, St.pur, h10_2, h10_3, h10_7, h10_18, g10_0, g10_1, n10_0], by simp [St.frz, St.pur, h10_2, h10_3, h10_7, h10_18, g10_0, g10_1, n10_0], by simp [St.frz, St.pur, h10_2, h10_3, h10_7, h10_18, g10_0, g10_1, n10_0], by first | (simp; done) | (simp; omega) | omega⟩
            · replace e33 := condF h63 e33
              repeat (first | simp [h10_2, h10_3, h10_7, h10_18, g10_0, g10_1, n10_0] | with_reducible refine awp_reg ?_)
              refine condK_spec (eqI a1.Op 19) (by first | rfl | (simp [h10_2, h10_3, h10_7, h10_18, g10_0, g10_1, n10_0]; done) | (simp [andB, orB, eqI, ltI, Int.natCast_inj, h10_2, h10_3, h10_7, h10_18, g10_0, g10_1, n10_0]; done)) (fun h65 => ?_) (fun h65 => ?_)
              · replace e33 := condT h65 e33
                repeat (first | simp [h10_2, h10_3, h10_7, h10_18, g10_0, g10_1, n10_0] | with_reducible refine awp_reg ?_)
                refine condK_t (by first | exact h65 | simpa using h65) ?_
                repeat (first | simp [h10_2, h10_3, h10_7, h10_18, g10_0, g10_1, n10_0] | with_reducible refine awp_reg ?_ | with_reducible refine And.intro (by omega) ?_ | with_reducible refine optF_if (by omega) ?_)
                exact hK35 a0.Conds.length _ _ (Gh.refl _) ⟨e33, by simp [St.frz, St.pur, h10_2, h10_3, h10_7, h10_18, g10_0, g10_1, n10_0], by simp [St.frz, St.pur, h10_2, h10_3, h10_7, h10_18, g10_0, g10_1, n10_0], by simp [St.frz, St.pur, h10_2, h10_3, h10_7, h10_18, g10_0, g10_1, n10_0], by first | (simp; done) | (simp; omega) | omega⟩
              · replace e33 := condF h65 e33
                repeat (first | simp [h10_2, h10_3, h10_7, h10_18, g10_0, g10_1, n10_0] | with_reducible refine awp_reg ?_)
                refine condK_spec (eqI a1.Op 20) (by first | rfl | (simp [h10_2, h10_3, h10_7, h10_18, g10_0, g10_1, n10_0]; done) | (simp [andB, orB, eqI, ltI, Int.natCast_inj, h10_2, h10_3, h10_7, h10_18, g10_0, g10_1, n10_0]; done)) (fun h66 => ?_) (fun h66 => ?_)
                · replace e33 := condT h66 e33
                  repeat (first | simp [h10_2, h10_3, h10_7, h10_18, g10_0, g10_1, n10_0] | with_reducible refine awp_reg ?_ | with_reducible refine And.intro (by omega) ?_ | with_reducible refine optF_if (by omega) ?_)
                  exact hK35 a0.Conds.length _ _ (Gh.refl _) ⟨e33, by simp [St.frz, St.pur, h10_2, h10_3, h10_7, h10_18, g10_0, g10_1, n10_0], by simp [St.frz, St.pur, h10_2, h10_3, h10_7, h10_18, g10_0, g10_1, n10_0], by simp [St.frz, St.pur, h10_2, h10_3, h10_7, h10_18, g10_0, g10_1, n10_0], by first | (simp; done) | (simp; omega) | omega⟩
                · replace e33 := condF h66 e33
                  repeat (first | simp [h10_2, h10_3, h10_7, h10_18, g10_0, g10_1, n10_0] | with_reducible refine awp_reg ?_)
                  refine condK_spec (eqI a1.Op 21) (by first | rfl | (simp [h10_2, h10_3, h10_7, h10_18, g10_0, g10_1, n10_0]; done) | (simp [andB, orB, eqI, ltI, Int.natCast_inj, h10_2, h10_3, h10_7, h10_18, g10_0, g10_1, n10_0]; done)) (fun h67 => ?_) (fun h67 => ?_)
                  · replace e33 := condT h67 e33
                    repeat (first | simp [h10_2, h10_3, h10_7, h10_18, g10_0, g10_1, n10_0] | with_reducible refine awp_reg ?_ | with_reducible refine And.intro (by omega) ?_ | with_reducible refine optF_if (by omega) ?_)
                    exact hK35 a0.Funcs.length _ _ (Gh.refl _) ⟨e33, by simp [St.frz, St.pur, h10_2, h10_3, h10_7, h10_18, g10_0, g10_1, n10_0], by simp [St.frz, St.pur, h10_2, h10_3, h10_7, h10_18, g10_0, g10_1, n10_0], by simp [St.frz, St.pur, h10_2, h10_3, h10_7, h10_18, g10_0, g10_1, n10_0], by first | (simp; done) | (simp; omega) | omega⟩
                  · replace e33 := condF h67 e33
                    repeat (first | simp [h10_2, h10_3, h10_7, h10_18, g10_0, g10_1, n10_0] | with_reducible refine awp_reg ?_)
                    obtain rfl := Option.some.inj e33
                    try dsimp only at hs
                    refine hX36 _ _ (by simp) ?_
                    repeat (first | simp [h10_2, h10_3, h10_7, h10_18, g10_0, g10_1, n10_0] | with_reducible refine awp_reg ?_)
                    obtain rfl := Option.some.inj hs
                    refine hQ _ _ (ret2g _ (Gh.refl _) (by simp [St.frz, St.pur, h10_2, h10_3, h10_7, h10_18, g10_0, g10_1, n10_0]; rfl) (by first | rfl | (simp [St.frz, St.pur, h10_2, h10_3, h10_7, h10_18, g10_0, g10_1, n10_0]; done) | (rw [if_pos (by first | omega | (simp; omega))]; simp [St.frz, St.pur, h10_2, h10_3, h10_7, h10_18, g10_0, g10_1, n10_0]; first | omega | exact List.take_of_length_le (by simp; omega) | skip)) (by simp))
  · obtain ⟨e33, h6_3, h6_5, g6_0, n6_g⟩ := hp
    obtain rfl := Option.some.inj e33
    try dsimp only at hs
    have n6_0 : ¬ (σ5.gen = 0) := by omega
    repeat (first | simp [h6_3, h6_5, g6_0, n6_0] | with_reducible refine awp_reg ?_ | with_reducible refine gsel_pure (by with_unfolding_all rfl) _ (fun hg => by (try simp at hg); first | (simp [hg, h6_3, h6_5, g6_0, n6_0]; rfl) | (simp [h6_3, h6_5, g6_0, n6_0]; simp only [if_pos hg]; simp [h6_3, h6_5, g6_0, n6_0]; rfl)) ?_)
    obtain rfl := Option.some.inj hs
    refine hQ _ _ (ret2g _ (Gh.refl _) (by simp [St.frz, St.pur, h6_3, h6_5, g6_0, n6_0]; rfl) (by first | rfl | (simp [St.frz, St.pur, h6_3, h6_5, g6_0, n6_0]; done) | (rw [if_pos (by first | omega | (simp; omega))]; simp [St.frz, St.pur, h6_3, h6_5, g6_0, n6_0]; first | omega | exact List.take_of_length_le (by simp; omega) | skip)) (by simp))
end Go.Dc
end
section
set_option linter.all false
namespace Go.Dc
open Go Go.Hw Go.Proofs
set_option maxRecDepth 100000

def r07_fields  : Option (List ByteArray) :=
  Option.bind (some ([(⟨#[65, 78]⟩ : ByteArray), (⟨#[65, 66]⟩ : ByteArray), (⟨#[70, 65, 66, 67]⟩ : ByteArray), (⟨#[78]⟩ : ByteArray), (⟨#[66, 78]⟩ : ByteArray), (⟨#[66]⟩ : ByteArray), (⟨#[]⟩ : ByteArray), (⟨#[65, 79, 82]⟩ : ByteArray), (⟨#[79, 66, 82]⟩ : ByteArray), (⟨#[65, 79, 66, 82]⟩ : ByteArray), (⟨#[65, 79, 66, 82]⟩ : ByteArray), (⟨#[65, 79, 66, 67, 82]⟩ : ByteArray), (⟨#[]⟩ : ByteArray), (⟨#[65, 79, 70, 66, 82]⟩ : ByteArray), (⟨#[79]⟩ : ByteArray), (⟨#[79]⟩ : ByteArray), (⟨#[65, 79]⟩ : ByteArray), (⟨#[79, 78]⟩ : ByteArray), (⟨#[79]⟩ : ByteArray), (⟨#[79]⟩ : ByteArray), (⟨#[65, 79, 66]⟩ : ByteArray), (⟨#[66]⟩ : ByteArray)])) (fun l1 => some l1)

set_option maxHeartbeats 2000000 in
theorem at_r07_fields  {r : (List ByteArray)} (hs : r07_fields = some r) : At Tryd.prog 120 [] (.cell (.p (.sl r.length (encL r)))) := by
  refine at_bound (by kernel_rfl) fun hb => ?_
  refine at_code mixed Tryd.func120 (by kernel_rfl) rfl (by kernel_rfl) rfl fun Q hQ => ?_
  rw [r07_fields] at hs
  obtain ⟨l1, hx2, hs⟩ := bindO hs
  try dsimp only at hs
  replace hx2 := (Option.some.inj hx2).symm
  have hx2n : l1.length = 22 := by rw [hx2]; rfl
  repeat (first | simp [hx2] | with_reducible refine awp_reg ?_ | with_reducible refine And.intro (by omega) ?_ | with_reducible refine optF_if (by omega) ?_)
  obtain rfl := Option.some.inj hs
  refine hQ _ _ (ret2g _ (Gh.frz _ (.o 2 0 0)) (by simp [St.frz, St.pur, hx2]; rfl) (by first | rfl | (simp [St.frz, St.pur, hx2]; done) | (rw [if_pos (by first | omega | (simp; omega))]; simp [St.frz, St.pur, hx2]; first | omega | exact List.take_of_length_le (by simp; omega) | skip)) (by simp))
end Go.Dc
end
section
set_option linter.all false
namespace Go.Dc
open Go Go.Hw Go.Proofs
set_option maxRecDepth 100000
def r07_has_L1 (a1 : UInt8) (x4 : ByteArray) : Nat → Nat → Option (Unit ⊕ Bool)
  | 0, k41 => some (.inl ())
  | q52 + 1, k41 => Option.bind (x4[k41]?) (fun c57 => cond (eqI (c57.toNat : Int) (a1.toNat : Int)) (some (.inr true)) (r07_has_L1 a1 x4 q52 (k41 + 1)))

def r07_has (a0 : Int) (a1 : UInt8) : Option Bool :=
  cond (orB (ltI a0 1) (ltI 22 a0)) (some false) (Option.bind (r07_fields) (fun y2 => Option.bind (getI y2 (IntKind.i64.wrap (a0 - 1))) (fun x4 => Option.bind (α := Unit ⊕ Bool) (guardO (lenB x4.size) (Option.bind (r07_has_L1 a1 x4 x4.size 0) (fun o => match o with | .inl _ => some (.inl ()) | .inr r60 => some (.inr r60)))) (fun o => match o with | .inl _ => some false | .inr r61 => some r61))))

set_option maxHeartbeats 2000000 in
theorem at_r07_has {a0 : Int} {a1 : UInt8} {r : Bool} (hs : r07_has a0 a1 = some r) : At Tryd.prog 107 [iV .i64 a0, iV .u8 (a1.toNat : Int)] (bV r) := by
  refine at_bound (by kernel_rfl) fun hb => ?_
  refine at_code mixed Tryd.func107 (by kernel_rfl) rfl (by kernel_rfl) rfl fun Q hQ => ?_
  rw [r07_has] at hs
  repeat (first | simp | with_reducible refine awp_reg ?_ | with_reducible refine gsel_pure (by with_unfolding_all rfl) _ (fun hg => by (try simp at hg); first | (simp [hg]; rfl) | (simp; simp only [if_pos hg]; simp; rfl)) ?_)
  refine condK_spec (orB (ltI a0 1) (ltI 22 a0)) (by first | rfl | (simp; done) | (simp [andB, orB, eqI, ltI, Int.natCast_inj]; done)) (fun h1 => ?_) (fun h1 => ?_)
  · replace hs := condT h1 hs
    repeat (first | simp | with_reducible refine awp_reg ?_ | with_reducible refine gsel_pure (by with_unfolding_all rfl) _ (fun hg => by (try simp at hg); first | (simp [hg]; rfl) | (simp; simp only [if_pos hg]; simp; rfl)) ?_)
    obtain rfl := Option.some.inj hs
    refine hQ _ _ (ret2g _ (Gh.refl _) (by simp [St.frz, St.pur]; rfl) (by first | rfl | (simp [St.frz, St.pur]; done) | (rw [if_pos (by first | omega | (simp; omega))]; simp [St.frz, St.pur]; first | omega | exact List.take_of_length_le (by simp; omega) | skip)) (by simp))
  · replace hs := condF h1 hs
    repeat (first | simp | with_reducible refine awp_reg ?_ | with_reducible refine And.intro (by omega) ?_ | with_reducible refine optF_if (by omega) ?_ | with_reducible refine gsel_pure (by with_unfolding_all rfl) _ (fun hg => by (try simp at hg); first | (simp [hg]; rfl) | (simp; simp only [if_pos hg]; simp; rfl)) ?_)
    obtain ⟨y2, hx3, hs⟩ := bindO hs
    try dsimp only at hs
    refine callK_pure (at_r07_fields hx3) (by (first | simp | simp (disch := omega) []); try rfl) (by simp) (by simp) ?_
    obtain ⟨x4, hx5, hs⟩ := bindO hs
    try dsimp only at hs
    obtain ⟨hx5a, hx5b, hx5c, hx5d⟩ := getI_some hx5
    have f6 : partCV Tryd.prog 9 (encL y2) ((IntKind.i64.wrap (a0 - 1)).toNat) = some (sV x4) := partCV_enc1 hx5d (by simp)
    repeat (first | simp [-awp_cond_eq, -awp_block_eq, f6] | with_reducible refine awp_reg ?_ | with_reducible refine And.intro (by omega) ?_ | with_reducible refine optF_if (by omega) ?_ | with_reducible refine gsel_pure (by with_unfolding_all rfl) _ (fun hg => by (try simp at hg); first | (simp [hg, f6]; rfl) | (simp [f6]; simp only [if_pos hg]; simp [f6]; rfl)) ?_)
    obtain ⟨o33, e32, hs⟩ := bindO hs
    try dsimp only at hs
    refine awp_cutK (fun (v : Unit) (σ : St) => some (.inl v) = some o33 ∧ 4 ≤ σ.gen) (by rfl) (fun Q hK34 hX35 => ?_) (fun v σ3 hp => ?_)
    · repeat (first | simp [f6] | with_reducible refine awp_reg ?_ | with_reducible refine And.intro (by omega) ?_ | with_reducible refine optF_if (by omega) ?_ | with_reducible refine gsel_pure (by with_unfolding_all rfl) _ (fun hg => by (try simp at hg); first | (simp [hg, f6]; rfl) | (simp [f6]; simp only [if_pos hg]; simp [f6]; rfl)) ?_)
      obtain ⟨hb56, e32⟩ := guardO_some e32
      obtain ⟨o47, e46, e32⟩ := bindO e32
      try dsimp only at e32
      refine awp_loopW (fun (v : Nat × Nat) (σ : St) => r07_has_L1 a1 x4 v.1 v.2 = some o47 ∧ v.1 + v.2 = x4.size ∧ σ.env 1 = iV .u8 (a1.toNat : Int) ∧ σ.env 5 = sV x4 ∧ σ.env 6 = iV .i64 ((v.2 : Nat) : Int) ∧ 4 ≤ σ.gen) (fun v => v.1) _ (Gh.refl _) (x4.size, 0) ⟨e46, by first | omega | simp | (simp; omega), by simp [St.frz, St.pur, f6], by simp [St.frz, St.pur, f6], by simp [St.frz, St.pur, f6], by first | (simp; done) | (simp; omega) | omega⟩ fun v σ6 hp L48 hL49 => ?_
      obtain ⟨q51, k41⟩ := v
      dsimp only at hp hL49
      obtain ⟨e46, hd50, h5_1, h5_5, h5_6, n5_g⟩ := hp
      rcases q51 with _ | q52
      · have hlt53 : ¬ k41 < x4.size := by omega
        rw [r07_has_L1] at e46; try dsimp only at e46
        repeat (first | simp [h5_1, h5_5, h5_6, f6] | with_reducible refine awp_reg ?_ | with_reducible refine And.intro (by omega) ?_ | with_reducible refine optF_if (by omega) ?_)
        refine condK_f (by simp [ltI]; omega) ?_
        obtain rfl := Option.some.inj e46
        try dsimp only at e32
        exact hK34 () _ _ (Gh.refl _) ⟨e32, by first | (simp; done) | (simp; omega) | omega⟩
      · have hlt53 : k41 < x4.size := by omega
        have ew54 := wrap_succG hlt53 hb56
        rw [r07_has_L1] at e46; try dsimp only at e46
        repeat (first | simp [h5_1, h5_5, h5_6, f6, hlt53, ew54] | with_reducible refine awp_reg ?_ | with_reducible refine And.intro (by omega) ?_ | with_reducible refine optF_if (by omega) ?_)
        refine condK_t (by simp [ltI]; omega) ?_
        obtain ⟨c57, hx58, e46⟩ := bindO e46
        try dsimp only at e46
        have hx58b := getB_some hx58
        have hx58g := getB_eq hx58
        repeat (first | simp [h5_1, h5_5, h5_6, f6, hlt53, ew54, hx58, hx58g] | with_reducible refine awp_reg ?_ | with_reducible refine optF_if (by omega) ?_)
        refine condK_spec (eqI (c57.toNat : Int) (a1.toNat : Int)) (by first | rfl | (simp [h5_1, h5_5, h5_6, f6, hlt53, ew54, hx58, hx58g]; done) | (simp [andB, orB, eqI, ltI, Int.natCast_inj, h5_1, h5_5, h5_6, f6, hlt53, ew54, hx58, hx58g]; done)) (fun h59 => ?_) (fun h59 => ?_)
        · replace e46 := condT h59 e46
          repeat (first | simp [h5_1, h5_5, h5_6, f6, hlt53, ew54, hx58, hx58g] | with_reducible refine awp_reg ?_ | with_reducible refine optF_if (by omega) ?_)
          obtain rfl := Option.some.inj e46
          try dsimp only at e32
          obtain rfl := Option.some.inj e32
          try dsimp only at hs
          refine hX35 _ _ (by simp) ?_
          repeat (first | simp [h5_1, h5_5, h5_6, f6, hlt53, ew54, hx58, hx58g] | with_reducible refine awp_reg ?_ | with_reducible refine optF_if (by omega) ?_)
          obtain rfl := Option.some.inj hs
          refine hQ _ _ (ret2g _ (Gh.refl _) (by simp [St.frz, St.pur, h5_1, h5_5, h5_6, f6, hlt53, ew54, hx58, hx58g]; rfl) (by first | rfl | (simp [St.frz, St.pur, h5_1, h5_5, h5_6, f6, hlt53, ew54, hx58, hx58g]; done) | (rw [if_pos (by first | omega | (simp; omega))]; simp [St.frz, St.pur, h5_1, h5_5, h5_6, f6, hlt53, ew54, hx58, hx58g]; first | omega | exact List.take_of_length_le (by simp; omega) | skip)) (by simp))
        · replace e46 := condF h59 e46
          repeat (first | simp [h5_1, h5_5, h5_6, f6, hlt53, ew54, hx58, hx58g] | with_reducible refine awp_reg ?_ | with_reducible refine optF_if (by omega) ?_)
          exact hL49 (q52, (k41 + 1)) _ _ (Gh.refl _) ⟨e46, (by first | omega | (simp; omega)), by simp [St.frz, St.pur, h5_1, h5_5, h5_6, f6, hlt53, ew54, hx58, hx58g], by simp [St.frz, St.pur, h5_1, h5_5, h5_6, f6, hlt53, ew54, hx58, hx58g], by simp [St.frz, St.pur, h5_1, h5_5, h5_6, f6, hlt53, ew54, hx58, hx58g], by first | (simp; done) | (simp; omega) | omega⟩ (by omega)
    · obtain ⟨e32, n4_g⟩ := hp
      obtain rfl := Option.some.inj e32
      try dsimp only at hs
      repeat (first | simp [f6] | with_reducible refine awp_reg ?_ | with_reducible refine And.intro (by omega) ?_ | with_reducible refine optF_if (by omega) ?_ | with_reducible refine gsel_pure (by with_unfolding_all rfl) _ (fun hg => by (try simp at hg); first | (simp [hg, f6]; rfl) | (simp [f6]; simp only [if_pos hg]; simp [f6]; rfl)) ?_)
      obtain rfl := Option.some.inj hs
      refine hQ _ _ (ret2g _ (Gh.refl _) (by simp [St.frz, St.pur, f6]; rfl) (by first | rfl | (simp [St.frz, St.pur, f6]; done) | (rw [if_pos (by first | omega | (simp; omega))]; simp [St.frz, St.pur, f6]; first | omega | exact List.take_of_length_le (by simp; omega) | skip)) (by simp))
end Go.Dc
end
section
set_option linter.all false
namespace Go.Dc
open Go Go.Hw Go.Proofs
set_option maxRecDepth 100000

def r07_register (a0 : Int) : Option Bool :=
  some (andB (!(ltI a0 0)) (ltI a0 8))

set_option maxHeartbeats 2000000 in
theorem at_r07_register {a0 : Int} {r : Bool} (hs : r07_register a0 = some r) : At Tryd.prog 108 [iV .i64 a0] (bV r) := by
  refine at_bound (by kernel_rfl) fun hb => ?_
  refine at_code mixed Tryd.func108 (by kernel_rfl) rfl (by kernel_rfl) rfl fun Q hQ => ?_
  rw [r07_register] at hs
  repeat (first | simp | with_reducible refine awp_reg ?_ | with_reducible refine gsel_pure (by with_unfolding_all rfl) _ (fun hg => by (try simp at hg); first | (simp [hg]; rfl) | (simp; simp only [if_pos hg]; simp; rfl)) ?_)
  obtain rfl := Option.some.inj hs
  refine hQ _ _ (ret2g _ (Gh.refl _) (by simp [St.frz, St.pur]; rfl) (by first | rfl | (simp [St.frz, St.pur]; done) | (rw [if_pos (by first | omega | (simp; omega))]; simp [St.frz, St.pur]; first | omega | exact List.take_of_length_le (by simp; omega) | skip)) (by simp))
end Go.Dc
end
