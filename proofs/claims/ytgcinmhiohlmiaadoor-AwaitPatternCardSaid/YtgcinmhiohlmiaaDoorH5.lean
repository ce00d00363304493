/- Contracts of functions, by their numbers, and the laws that walk them. Conditions: as each states. -/
import Derived.Test.YtgcinmhiohlmiaaDoorH3
import Derived.Test.YtgcinmhiohlmiaaDoorH4
import Derived.Test.YtgcinmhiohlmiaaDoorRows
import Derived.LaidMore
import Derived.MakeChecks
set_option linter.all false
section
set_option linter.all false
namespace Go.Dc
open Go Go.Hw Go.Proofs
set_option maxRecDepth 100000
def await_Rewrite_L1 : List AwaitSpin → Nat → (List Func) → Option (List Func)
  | [], k167, l168 => some (l168)
  | x203 :: q199, k167, l168 => Option.bind (getI l168 x203.fn) (fun x207 => Option.bind (getI x207.Code x203.first) (fun x217 => Option.bind (some (x207.Code.set ((x203.first).toNat) x203.await)) (fun l219 => Option.bind (some (l168.set ((x203.fn).toNat) ({ x207 with Code := l219 }))) (fun l223 => await_Rewrite_L1 q199 (k167 + 1) l223))))

def await_Rewrite (fuelN : Nat) (a0 : Program) : Option (Program × Int) :=
  Option.bind (program_Check fuelN a0) (fun y1 => cond (!(eqI y1.1 0)) (some (({ Vars := [], Mutexes := [], Conds := [], Funcs := [], Threads := [] } : Program), y1.1)) (Option.bind (program_Clone a0) (fun y4 => Option.bind (await_spins fuelN a0) (fun y6 => Option.bind (α := (List Func)) (guardO (lenB y6.length) (Option.bind (await_Rewrite_L1 y6 0 y4.Funcs) (fun l192 => some (l192)))) (fun l114 => some ({ y4 with Funcs := l114 }, 0))))))

set_option maxHeartbeats 2000000 in
theorem at_await_Rewrite {fuelN : Nat} {a0 : Program} {r : Program × Int} (hs : await_Rewrite fuelN a0 = some r) : At Tryd.prog 40 [.agg (eA a0)] (.tup [.agg (eA r.1), iV .i64 r.2]) := by
  refine at_bound (by kernel_rfl) fun hb => ?_
  have hb1 : LenOk (.sl a0.Vars.length (encL a0.Vars)) := lkc hb
  have hb2 : LenOk (.sl a0.Mutexes.length (encL a0.Mutexes)) := lkc hb
  have hb3 : LenOk (.sl a0.Conds.length (encL a0.Conds)) := lkc hb
  have hb4 : LenOk (.sl a0.Funcs.length (encL a0.Funcs)) := lkc hb
  have hb5 : LenOk (.sl a0.Threads.length (encL a0.Threads)) := lkc hb
  refine at_code mixed Tryd.func40 (by kernel_rfl) rfl (by kernel_rfl) rfl fun Q hQ => ?_
  rw [await_Rewrite] at hs
  refine goR f0 ?_
  revert hs; refine bK fun y1 hx2 hs => ?_
  refine cP f0 (at_program_Check hx2) ?_
  refine goR f0 ?_
  revert hs; refine cS f0 ?_ ?_ <;> intro h3 hs
  · refine goR f0 ?_
    obtain rfl := sj hs
    exact hQ _ _ (rg f0 (Gh.unz _))
  · refine goR f0 ?_
    revert hs; refine bK fun y4 hx5 hs => ?_
    refine cA f0 (at_program_Clone hx5) ?_
    refine goR f0 ?_
    revert hs; refine bK fun y6 hx7 hs => ?_
    refine cP f0 (at_await_spins hx7) ?_
    refine goR2 f0 ?_
    revert hs; refine bK fun o116 e115 hs => ?_
    refine awp_cutK (fun (v : (List Func)) (σ : St) => some (v) = some o116 ∧ σ.env 2 = .cell (.ref (.o 1 1 0) 0) ∧ σ.env 7 = .cell (.ref (.o 4 2 0) 0) ∧ σ.hp (.o 1 1 0) = some (.cells [.z, .z, .z, .z, .z]) ∧ σ.hp (.l 14) = some (.cells (oencL v)) ∧ σ.hp (.o 4 2 0) = some (.cells [.sl (.o 4 1 0) 0 2 y4.Vars.length, .sl (.o 4 1 1) 0 1 y4.Mutexes.length, .sl (.o 4 1 2) 0 1 y4.Conds.length, .sl (.l 14) 0 2 v.length, .sl (.o 4 1 4) 0 2 y4.Threads.length]) ∧ σ.hp (.o 4 1 0) = some (.pure (encL y4.Vars)) ∧ σ.hp (.o 4 1 1) = some (.pure (encL y4.Mutexes)) ∧ σ.hp (.o 4 1 2) = some (.pure (encL y4.Conds)) ∧ σ.hp (.o 4 1 4) = some (.pure (encL y4.Threads)) ∧ 5 ≤ σ.gen) (by rfl) (fun Q hK117 hX118 => ?_) (fun l114 σ3 hp => ?_)
    · refine goR f0 ?_
      obtain ⟨hb204, e115⟩ := guardO_some e115
      revert e115; refine bK fun o194 e193 e115 => ?_
      refine awp_loopW (fun (v : (List AwaitSpin) × Nat × (List Func)) (σ : St) => await_Rewrite_L1 v.1 v.2.1 v.2.2 = some o194 ∧ v.1 = y6.drop v.2.1 ∧ σ.env 2 = .cell (.ref (.o 1 1 0) 0) ∧ σ.env 7 = .cell (.ref (.o 4 2 0) 0) ∧ σ.env 23 = .cell (sC y6) ∧ σ.env 24 = iV .i64 ((y6.length : Nat) : Int) ∧ σ.env 25 = iV .i64 ((v.2.1 : Nat) : Int) ∧ σ.hp (.o 1 1 0) = some (.cells [.z, .z, .z, .z, .z]) ∧ σ.hp (.l 39) = some (.cells (oencL v.2.2)) ∧ σ.hp (.o 4 2 0) = some (.cells [.sl (.o 4 1 0) 0 2 y4.Vars.length, .sl (.o 4 1 1) 0 1 y4.Mutexes.length, .sl (.o 4 1 2) 0 1 y4.Conds.length, .sl (.l 39) 0 2 v.2.2.length, .sl (.o 4 1 4) 0 2 y4.Threads.length]) ∧ σ.hp (.o 4 1 0) = some (.pure (encL y4.Vars)) ∧ σ.hp (.o 4 1 1) = some (.pure (encL y4.Mutexes)) ∧ σ.hp (.o 4 1 2) = some (.pure (encL y4.Conds)) ∧ σ.hp (.o 4 1 4) = some (.pure (encL y4.Threads)) ∧ 5 ≤ σ.gen) (fun v => v.1.length) _ (Gh.ren _ (.o 4 1 3) (.l 39) (by simp) rfl rfl) (y6, 0, y4.Funcs) ⟨e193, by simp, pv f0, pv f0, pv f0, pv f0, pv f0, pv f0, pv f0, pv f0, pv f0, pv f0, pv f0, pv f0, pg⟩ fun v σ6 hp L195 hL196 => ?_
      obtain ⟨q198, k167, l168⟩ := v
      dsimp only at hp hL196
      obtain ⟨e193, hd197, h5_2, h5_7, h5_23, h5_24, h5_25, g5_0, g5_1, g5_2, g5_3, g5_4, g5_5, g5_6, n5_g⟩ := hp
      have n5_0 : ¬ (σ6.gen = 0) := by omega
      have n5_1 : ¬ (σ6.gen = 1) := by omega
      have n5_2 : ¬ (σ6.gen = 2) := by omega
      have n5_3 : ¬ (σ6.gen = 3) := by omega
      rcases q198 with _ | ⟨x203, q199⟩
      · have hlt200 := drop_end hd197
        rw [await_Rewrite_L1] at e193; try dsimp only at e193
        have F1 := an h5_2 (an h5_7 (an h5_23 (an h5_24 (an h5_25 (an g5_0 (an g5_1 (an g5_2 (an g5_3 (an g5_4 (an g5_5 (an g5_6 (an n5_0 (an n5_1 (an n5_2 n5_3))))))))))))))
        refine goR F1 ?_
        refine condK_f (by simp [ltI]; omega) ?_
        obtain rfl := sj e193
        try dsimp only at e115
        exact hK117 l168 _ _ (Gh.ren _ (.l 39) (.l 14) (by simp) rfl rfl) ⟨e115, pv F1, pv F1, pv F1, pv F1, pv F1, pv F1, pv F1, pv F1, pv F1, pg⟩
      · obtain ⟨hx202, hlt200, hd205⟩ := drop_next hd197
        have ew201 := wrap_succG hlt200 hb204
        rw [await_Rewrite_L1] at e193; try dsimp only at e193
        have F2 := an h5_2 (an h5_7 (an h5_23 (an h5_24 (an h5_25 (an g5_0 (an g5_1 (an g5_2 (an g5_3 (an g5_4 (an g5_5 (an g5_6 (an n5_0 (an n5_1 (an n5_2 (an n5_3 (an hlt200 ew201))))))))))))))))
        refine goR F2 ?_
        refine condK_t (by simp [ltI]; omega) ?_
        have f206 : partCV Tryd.prog 100 (encL y6) (k167 * 10) = some (.agg (eA x203)) := partCV_enc hx202 (f := 0) (by simp)
        revert e193; refine bK fun x207 hx208 e193 => ?_
        obtain ⟨hx208a, hx208b, hx208c, hx208d⟩ := getI_some hx208
        have F3 := an F2 f206
        refine goN F3 ?_
        refine awp_reg ?_
        refine goN F3 ?_
        have f209a : (oencL l168)[((x203.fn).toNat) * 2 + 1]? = some (.own (.sp 8 x207.Code.length (encL x207.Code))) := oencL_get hx208d (f := 1) rfl
        have f209l : ((x203.fn).toNat) * 2 + 1 < (oencL l168).length := (List.getElem?_eq_some_iff.1 f209a).1
        have f209c := fun c => (set_seg f209l c).1
        have f209d := fun c => (set_seg f209l c).2
        refine awp_gh (by rfl) (Gh.opn _ (.l 39) (((x203.fn).toNat) * 2 + 1)) ?_
        revert e193; refine bK fun x217 hx218 e193 => ?_
        obtain ⟨hx218a, hx218b, hx218c, hx218d⟩ := getI_some hx218
        revert e193; refine lK fun l219 hx220 e193 => ?_
        have f221 : setRun (encL x207.Code) (((x203.first).toNat) * 8) [.c (.int .i64 x203.await.Op), .c (.int .i64 x203.await.A), .c (.int .i64 x203.await.B), .c (.int .i64 x203.await.C), .c (.int .i64 x203.await.Obj), .c (.int .i64 x203.await.N), .c (.int .i64 x203.await.Fn), .c (.int .i64 x203.await.Order)] = encL l219 := hx220 ▸ setRun_enc hx218d (f := 0) (by simp) (by simp [setRun])
        simp only [setRun] at f221
        have f221n : l219.length = x207.Code.length := by rw [hx220]; simp
        revert e193; refine lK fun l223 hx224 e193 => ?_
        have f222 : (oencL l168).set (((x203.fn).toNat) * 2 + 1) (.own (.sp 8 l219.length (encL l219))) = oencL l223 := by rw [hx224]; exact oencL_set hx208d (f := 1) (by simp) rfl
        have f222n : l223.length = l168.length := by rw [hx224]; simp
        have f222t : (encL l219).take (l219.length * 8) = encL l219 := encL_takeN _ (by simp)
        have f222u : l219.length = x207.Code.length → (encL l219).take (x207.Code.length * 8) = encL l219 := fun h => by rw [← h]; exact encL_takeN _ (by simp)
        have f222v : l219.length = x207.Code.length → (oencL l168).set (((x203.fn).toNat) * 2 + 1) (.own (.sp 8 x207.Code.length (encL l219))) = oencL l223 := fun h => by rw [← h]; exact f222
        have F4 := an F3 (an f209a (an f209c (an f209d (an f221 (an f221n (an f222 (an f222n (an f222t (an f222u f222v)))))))))
        refine goN F4 ?_
        refine awp_draw ?_
        refine goN F4 ?_
        refine awp_gh (by rfl) (Gh.close _ (.l 39) (((x203.fn).toNat) * 2 + 1)) ?_
        try simp only [St.frz, St.pur]
        refine goR F4 ?_
        exact hL196 (q199, (k167 + 1), l223) _ _ (Gh.refl _) ⟨e193, hd205, pv F4, pv F4, pv F4, pv F4, pv F4, pv F4, pv F4, pv F4, pv F4, pv F4, pv F4, pv F4, pg⟩ (by simp)
    · obtain ⟨e115, h4_2, h4_7, g4_0, g4_1, g4_2, g4_3, g4_4, g4_5, g4_6, n4_g⟩ := hp
      obtain rfl := sj e115
      try dsimp only at hs
      have n4_0 : ¬ (σ3.gen = 0) := by omega
      have n4_1 : ¬ (σ3.gen = 1) := by omega
      have n4_2 : ¬ (σ3.gen = 2) := by omega
      have n4_3 : ¬ (σ3.gen = 3) := by omega
      have F5 := an h4_2 (an h4_7 (an g4_0 (an g4_1 (an g4_2 (an g4_3 (an g4_4 (an g4_5 (an g4_6 (an n4_0 (an n4_1 (an n4_2 n4_3)))))))))))
      refine goR F5 ?_
      obtain rfl := sj hs
      exact hQ _ _ (rg F5 ((Gh.frz _ (.o 4 1 0)).trans ((Gh.frz _ (.o 4 1 1)).trans ((Gh.frz _ (.o 4 1 2)).trans ((Gh.frz _ (.l 14)).trans (Gh.frz _ (.o 4 1 4)))))))
end Go.Dc
end
section
set_option linter.all false
namespace Go.Dc
open Go Go.Hw Go.Proofs
set_option maxRecDepth 100000

def law14_example (a0 : Int) : Option Program :=
  Option.bind (some ([({ Op := 1, A := 1, B := 0, C := 0, Obj := 0, N := 1, Fn := 0, Order := 0 } : Inst), ({ Op := 8, A := 2, B := 0, C := 0, Obj := 0, N := 0, Fn := 0, Order := 2 } : Inst), ({ Op := 3, A := 3, B := 2, C := 1, Obj := 0, N := 0, Fn := a0, Order := 0 } : Inst), ({ Op := 5, A := 0, B := 3, C := 0, Obj := 0, N := 1, Fn := 0, Order := 0 } : Inst)])) (fun l1 => Option.bind (some ([({ Name := (⟨#[120]⟩ : ByteArray), Init := 0 } : Var)])) (fun l3 => Option.bind (some ([({ Name := (⟨#[102]⟩ : ByteArray), Code := l1 } : Func)])) (fun l5 => Option.bind (some ([({ Func := 0, Arg := 0 } : Start)])) (fun l7 => some ({ Vars := l3, Mutexes := [], Conds := [], Funcs := l5, Threads := l7 } : Program)))))

set_option maxHeartbeats 2000000 in
theorem at_law14_example {a0 : Int} {r : Program} (hs : law14_example a0 = some r) : At Tryd.prog 63 [iV .i64 a0] (.agg (eA r)) := by
  refine at_bound (by kernel_rfl) fun hb => ?_
  refine at_code mixed Tryd.func63 (by kernel_rfl) rfl (by kernel_rfl) rfl fun Q hQ => ?_
  rw [law14_example] at hs
  revert hs; refine lK fun l1 hx2 hs => ?_
  have hx2n : l1.length = 4 := by rw [hx2]; rfl
  revert hs; refine lK fun l3 hx4 hs => ?_
  have hx4n : l3.length = 1 := by rw [hx4]; rfl
  revert hs; refine lK fun l5 hx6 hs => ?_
  have hx6n : l5.length = 1 := by rw [hx6]; rfl
  revert hs; refine lK fun l7 hx8 hs => ?_
  have hx8n : l7.length = 1 := by rw [hx8]; rfl
  have F1 := an hx2 (an hx4 (an hx6 hx8))
  refine goR F1 ?_
  obtain rfl := sj hs
  exact hQ _ _ (rg F1 ((Gh.frz _ (.o 2 5 0)).trans ((Gh.pur _ (.o 3 4 0)).trans ((Gh.frz _ (.o 3 1 0)).trans ((Gh.frz _ (.o 3 4 0)).trans ((Gh.frz _ (.o 3 6 0)).trans (Gh.unz _)))))))
end Go.Dc
end
section
set_option linter.all false
namespace Go.Dc
open Go Go.Hw Go.Proofs
set_option maxRecDepth 100000

def law14_lives (fuelN : Nat)  : Option Bool :=
  Option.bind (law14_example 8) (fun y1 => Option.bind (await_Find fuelN y1) (fun y3 => Option.bind (law14_example 9) (fun y5 => Option.bind (await_Find fuelN y5) (fun y7 => Option.bind (law14_example 8) (fun y9 => Option.bind (await_Rewrite fuelN y9) (fun y11 => guardO (orB (!(!(orB (orB (orB (orB (!(eqI y3.2 0)) (!(eqI y7.2 0))) (!(eqI y11.2 0))) (!(eqI ((y7.1.length : Nat) : Int) 0))) (!(eqI ((y11.1.Funcs.length : Nat) : Int) 1))))) (inB (0 : Int) y11.1.Funcs.length)) (cond (orB (orB (orB (orB (orB (!(eqI y3.2 0)) (!(eqI y7.2 0))) (!(eqI y11.2 0))) (!(eqI ((y7.1.length : Nat) : Int) 0))) (!(eqI ((y11.1.Funcs.length : Nat) : Int) 1))) (!(eqI ((((gd y11.1.Funcs 0).Code).length : Nat) : Int) 4))) (some false) (Option.bind (some ([({ Func := 0, First := 1, Last := 3 } : Spin)])) (fun l16 => Option.bind (r14_Same y3.1 l16) (fun y18 => guardO (orB (!y18) (inB (0 : Int) y11.1.Funcs.length)) (guardO (orB (!y18) (inB (1 : Int) ((gd y11.1.Funcs 0).Code).length)) (some (andB y18 (andB (eqI ((gd ((gd y11.1.Funcs 0).Code) 1).Op) 14) (andB (eqI ((gd ((gd y11.1.Funcs 0).Code) 1).A) 2) (andB (eqI ((gd ((gd y11.1.Funcs 0).Code) 1).B) 1) (andB (eqI ((gd ((gd y11.1.Funcs 0).Code) 1).C) 0) (andB (eqI ((gd ((gd y11.1.Funcs 0).Code) 1).Obj) 0) (andB (eqI ((gd ((gd y11.1.Funcs 0).Code) 1).N) 0) (andB (eqI ((gd ((gd y11.1.Funcs 0).Code) 1).Fn) 7) (andB (eqI ((gd ((gd y11.1.Funcs 0).Code) 1).Order) 2) true)))))))))))))))))))))

set_option maxHeartbeats 2000000 in
theorem at_law14_lives {fuelN : Nat}  {r : Bool} (hs : law14_lives fuelN = some r) : At Tryd.prog 35 [] (bV r) := by
  refine at_bound (by kernel_rfl) fun hb => ?_
  refine at_code mixed Tryd.func35 (by kernel_rfl) rfl (by kernel_rfl) rfl fun Q hQ => ?_
  rw [law14_lives] at hs
  refine goR f0 ?_
  revert hs; refine bK fun y1 hx2 hs => ?_
  refine cP f0 (at_law14_example hx2) ?_
  refine goR f0 ?_
  revert hs; refine bK fun y3 hx4 hs => ?_
  refine cP f0 (at_await_Find hx4) ?_
  refine goR f0 ?_
  revert hs; refine bK fun y5 hx6 hs => ?_
  refine cP f0 (at_law14_example hx6) ?_
  refine goR f0 ?_
  revert hs; refine bK fun y7 hx8 hs => ?_
  refine cP f0 (at_await_Find hx8) ?_
  refine goR f0 ?_
  revert hs; refine bK fun y9 hx10 hs => ?_
  refine cP f0 (at_law14_example hx10) ?_
  refine goR f0 ?_
  revert hs; refine bK fun y11 hx12 hs => ?_
  refine cP f0 (at_await_Rewrite hx12) ?_
  obtain ⟨g13, hs⟩ := guardO_some hs
  have g13a : (!(orB (orB (orB (orB (!(eqI y3.2 0)) (!(eqI y7.2 0))) (!(eqI y11.2 0))) (!(eqI ((y7.1.length : Nat) : Int) 0))) (!(eqI ((y11.1.Funcs.length : Nat) : Int) 1)))) = true → 0 ≤ (0 : Int) := fun hg => (under_elem g13 hg).1
  have g13b : (!(orB (orB (orB (orB (!(eqI y3.2 0)) (!(eqI y7.2 0))) (!(eqI y11.2 0))) (!(eqI ((y7.1.length : Nat) : Int) 0))) (!(eqI ((y11.1.Funcs.length : Nat) : Int) 1)))) = true → (0 : Int) < (y11.1.Funcs.length : Int) := fun hg => (under_elem g13 hg).2.1
  have g13n : (!(orB (orB (orB (orB (!(eqI y3.2 0)) (!(eqI y7.2 0))) (!(eqI y11.2 0))) (!(eqI ((y7.1.length : Nat) : Int) 0))) (!(eqI ((y11.1.Funcs.length : Nat) : Int) 1)))) = true → 0 < y11.1.Funcs.length := fun hg => by simpa using (under_elem g13 hg).2.2.1
  have g13c : (!(orB (orB (orB (orB (!(eqI y3.2 0)) (!(eqI y7.2 0))) (!(eqI y11.2 0))) (!(eqI ((y7.1.length : Nat) : Int) 0))) (!(eqI ((y11.1.Funcs.length : Nat) : Int) 1)))) = true → y11.1.Funcs[0]? = some (gd y11.1.Funcs 0) := fun hg => by simpa using (under_elem g13 hg).2.2.2
  have f14 : (!(orB (orB (orB (orB (!(eqI y3.2 0)) (!(eqI y7.2 0))) (!(eqI y11.2 0))) (!(eqI ((y7.1.length : Nat) : Int) 0))) (!(eqI ((y11.1.Funcs.length : Nat) : Int) 1)))) = true → partCV Tryd.prog 22 (encL y11.1.Funcs) (0 * 2 + 1) = some (.cell (sC ((gd y11.1.Funcs 0).Code))) := fun hg => partCV_enc (g13c hg) (f := 1) (by simp)
  have F1 := an g13a (an g13b (an g13n f14))
  refine goG F1 F1 ?_
  revert hs; refine cS F1 ?_ ?_ <;> intro h15 hs
  · refine goG F1 F1 ?_
    obtain rfl := sj hs
    exact hQ _ _ (rg F1 (Gh.refl _))
  · revert hs; refine lK fun l16 hx17 hs => ?_
    have hx17n : l16.length = 1 := by rw [hx17]; rfl
    have F2 := an F1 hx17
    refine goG F2 F2 ?_
    revert hs; refine bK fun y18 hx19 hs => ?_
    refine cA F2 (at_r14_Same hx19) ?_
    obtain ⟨g20, hs⟩ := guardO_some hs
    have g20a : y18 = true → 0 ≤ (0 : Int) := fun hg => (under_elem g20 hg).1
    have g20b : y18 = true → (0 : Int) < (y11.1.Funcs.length : Int) := fun hg => (under_elem g20 hg).2.1
    have g20n : y18 = true → 0 < y11.1.Funcs.length := fun hg => by simpa using (under_elem g20 hg).2.2.1
    have g20c : y18 = true → y11.1.Funcs[0]? = some (gd y11.1.Funcs 0) := fun hg => by simpa using (under_elem g20 hg).2.2.2
    have f21 : y18 = true → partCV Tryd.prog 22 (encL y11.1.Funcs) (0 * 2 + 1) = some (.cell (sC ((gd y11.1.Funcs 0).Code))) := fun hg => partCV_enc (g20c hg) (f := 1) (by simp)
    obtain ⟨g22, hs⟩ := guardO_some hs
    have g22a : y18 = true → 0 ≤ (1 : Int) := fun hg => (under_elem g22 hg).1
    have g22b : y18 = true → (1 : Int) < (((gd y11.1.Funcs 0).Code).length : Int) := fun hg => (under_elem g22 hg).2.1
    have g22n : y18 = true → 1 < ((gd y11.1.Funcs 0).Code).length := fun hg => by simpa using (under_elem g22 hg).2.2.1
    have g22c : y18 = true → ((gd y11.1.Funcs 0).Code)[1]? = some (gd ((gd y11.1.Funcs 0).Code) 1) := fun hg => by simpa using (under_elem g22 hg).2.2.2
    have f23 : y18 = true → partCV Tryd.prog 71 (encL ((gd y11.1.Funcs 0).Code)) (1 * 8) = some (.agg [nC ((gd ((gd y11.1.Funcs 0).Code) 1).Op), nC ((gd ((gd y11.1.Funcs 0).Code) 1).A), nC ((gd ((gd y11.1.Funcs 0).Code) 1).B), nC ((gd ((gd y11.1.Funcs 0).Code) 1).C), nC ((gd ((gd y11.1.Funcs 0).Code) 1).Obj), nC ((gd ((gd y11.1.Funcs 0).Code) 1).N), nC ((gd ((gd y11.1.Funcs 0).Code) 1).Fn), nC ((gd ((gd y11.1.Funcs 0).Code) 1).Order)]) := fun hg => partCV_enc (g22c hg) (f := 0) (by simp)
    have F3 := an F2 (an g20a (an g20b (an g20n (an f21 (an g22a (an g22b (an g22n f23)))))))
    refine goG F3 F3 ?_
    obtain rfl := sj hs
    exact hQ _ _ (rg F3 (Gh.refl _))
end Go.Dc
end
section
set_option linter.all false
namespace Go.Dc
open Go Go.Hw Go.Proofs
set_option maxRecDepth 100000

def law14_AwaitFinds (fuelN : Nat) (a0 : Program) : Option Bool :=
  Option.bind (r08_Small a0) (fun y1 => cond (!y1) (Option.bind (law14_lives fuelN) (fun y4 => some y4)) (Option.bind (await_Find fuelN a0) (fun y6 => Option.bind (r14_Find fuelN a0) (fun y8 => guardO (orB (!(eqI y6.2 y8.2)) ((r14_Same y6.1 y8.1).isSome)) (guardO (orB (!(andB (eqI y6.2 y8.2) ((r14_Same y6.1 y8.1).getD default))) ((law14_lives fuelN).isSome)) (some (andB (andB (eqI y6.2 y8.2) ((r14_Same y6.1 y8.1).getD default)) ((law14_lives fuelN).getD default))))))))

end Go.Dc
end
section
set_option linter.all false
namespace Go.Dc.Pl
open Go Go.Hw Go.Dc
set_option maxRecDepth 100000
theorem flat1 {α β : Type} (h : α → List β) (hc : ∀ k, (h k).length ≤ 1) (l : List α) : (l.flatMap h).length ≤ l.length := by have := flat_le h 1 hc l; omega
theorem spinsOf_le {k : Nat} {f : Func} : (spinsOf k f).length ≤ f.Code.length := by
  have := flat1 (spinO k f) (spinO_le k f) (List.range f.Code.length); rwa [List.length_range] at this
def fOf (p : Program) (k : Nat) : Func := gd p.Funcs k
theorem fOf_eq {p : Program} {k : Nat} (h : k < p.Funcs.length) : p.Funcs[k]? = some (fOf p k) := by
  rw [fOf, gd, List.getD_eq_getElem?_getD, List.getElem?_eq_getElem h]; rfl
theorem fOf_le {p : Program} (hp : small p = true) (k : Nat) : (fOf p k).Code.length ≤ 100 := by
  obtain ⟨s1, s2, s3, s4, s5, s6⟩ := small_t hp
  by_cases h : k < p.Funcs.length
  · exact s6 _ (List.mem_of_getElem? (fOf_eq h))
  · rw [fOf, gd, List.getD_eq_getElem?_getD, List.getElem?_eq_none (by omega)]; show ([] : List Inst).length ≤ 100; simp
theorem spins_eq {p : Program} (hp : small p = true) {fuel : Nat} (hf : 200 ≤ fuel) : await_spins fuel p = some (spins p) ∧ (spins p).length ≤ 2000 := by
  obtain ⟨s1, s2, s3, s4, s5, s6⟩ := small_t hp
  have hle : ∀ k, (spinsOf k (fOf p k)).length ≤ 100 := fun k => Nat.le_trans spinsOf_le (fOf_le hp k)
  have h := gathN (L := await_spins_L1 fuel p) p.Funcs.length 0 100 (fun k => spinsOf k (fOf p k)) hle (fun q s => by rw [await_spins_L1]; simp [ltI_d]) (fun q k s hk hs => by
    rw [await_spins_L1, ltI_d, show decide ((k : Int) < ((p.Funcs.length : Nat) : Int)) = true by simp; omega, cond_true, getI_nat, fOf_eq hk, Option.bind_some, spins_L2 (fOf_le hp k) hf (by omega), wrapS (by omega)]; rfl) fuel 0 [] (by simp) (by omega) (by omega)
  rw [Int.natCast_zero] at h
  rw [await_spins, h, Nat.sub_zero, ← List.range_eq_range', List.nil_append]
  refine ⟨rfl, ?_⟩
  have := flat_le (fun k => spinsOf k (fOf p k)) 100 hle (List.range p.Funcs.length)
  rw [List.length_range] at this
  exact Nat.le_trans this (by omega)
def toSpin (x : AwaitSpin) : Spin := { Func := x.fn, First := x.first, Last := IntKind.i64.wrap (x.first + 2) }
def found (p : Program) : List Spin := (spins p).map toSpin
theorem own_find {p : Program} (hp : small p = true) {fuel : Nat} (hf : 200 ≤ fuel) : await_Find fuel p = some (cond (!(eqI (chk p).1 0)) ([], (chk p).1) (found p, 0)) := by
  obtain ⟨h1, h2⟩ := spins_eq hp hf
  obtain ⟨n, rfl⟩ : ∃ n, fuel = n + 8 := ⟨fuel - 8, by omega⟩
  rw [await_Find, own_check hp, Option.bind_some, h1, Option.bind_some, show lenB (spins p).length = true by rw [lenB_d]; simp; omega, guardO_t,
    appM (L := await_Find_L1) (b := 24) (m := 2000) toSpin (by decide) (fun _ _ => rfl) (fun x q a k => by rw [await_Find_L1]; rfl) (spins p) [] 0 (by simpa using h2)]
  cases !(eqI (chk p).1 0) <;> rfl
theorem lives : law14_lives 200 = some true := by kernel_rfl
end Go.Dc.Pl
end
section
set_option linter.all false
namespace Go.Dc
open Go Go.Hw Go.Proofs
set_option maxRecDepth 100000
def r08_Clone_L1 : List Func → Nat → (List Func) → Option (List Func)
  | [], k240, l241 => some (l241)
  | x283 :: q279, k240, l241 => Option.bind (some (([] : List Inst))) (fun l298 => guardO (limB 64 (l298.length + x283.Code.length)) (Option.bind (some (l298 ++ x283.Code)) (fun l302 => Option.bind (some ([{ x283 with Code := l302 }])) (fun l304 => guardO (limB 40 (l241.length + l304.length)) (Option.bind (some (l241 ++ l304)) (fun l307 => r08_Clone_L1 q279 (k240 + 1) l307))))))

def r08_Clone (a0 : Program) : Option Program :=
  Option.bind (some (([] : List Var))) (fun l21 => guardO (limB 24 (l21.length + a0.Vars.length)) (Option.bind (some (l21 ++ a0.Vars)) (fun l24 => Option.bind (some (([] : List ByteArray))) (fun l26 => guardO (limB 16 (l26.length + a0.Mutexes.length)) (Option.bind (some (l26 ++ a0.Mutexes)) (fun l29 => Option.bind (some (([] : List ByteArray))) (fun l31 => guardO (limB 16 (l31.length + a0.Conds.length)) (Option.bind (some (l31 ++ a0.Conds)) (fun l34 => Option.bind (some (([] : List Start))) (fun l36 => guardO (limB 16 (l36.length + a0.Threads.length)) (Option.bind (some (l36 ++ a0.Threads)) (fun l39 => Option.bind (α := (List Func)) (Option.bind (r08_Clone_L1 a0.Funcs 0 []) (fun l272 => some (l272))) (fun l173 => some ({ Vars := l24, Mutexes := l29, Conds := l34, Funcs := l173, Threads := l39 } : Program))))))))))))))

end Go.Dc
end
section
set_option linter.all false
namespace Go.Dc
open Go Go.Hw Go.Proofs
set_option maxRecDepth 100000
def r14_Rewrite_L1 (a0 : Program) : List Spin → Nat → (List Func) → Option (List Func)
  | [], k248, l249 => some (l249)
  | x298 :: q294, k248, l249 => Option.bind (getI a0.Funcs x298.Func) (fun x309 => Option.bind (r14_Condition x309 x298.First) (fun y313 => Option.bind (getI l249 x298.Func) (fun x315 => Option.bind (getI x315.Code x298.First) (fun x325 => Option.bind (some (x315.Code.set ((x298.First).toNat) y313.1)) (fun l327 => Option.bind (some (l249.set ((x298.Func).toNat) ({ x315 with Code := l327 }))) (fun l331 => r14_Rewrite_L1 a0 q294 (k248 + 1) l331))))))

def r14_Rewrite (fuelN : Nat) (a0 : Program) : Option (Program × Int) :=
  Option.bind (r14_Find fuelN a0) (fun y1 => cond (!(eqI y1.2 0)) (some (({ Vars := [], Mutexes := [], Conds := [], Funcs := [], Threads := [] } : Program), y1.2)) (Option.bind (r08_Clone a0) (fun y4 => Option.bind (α := (List Func)) (guardO (lenB y1.1.length) (Option.bind (r14_Rewrite_L1 a0 y1.1 0 y4.Funcs) (fun l287 => some (l287)))) (fun l167 => some ({ y4 with Funcs := l167 }, 0)))))

end Go.Dc
end
section
set_option linter.all false
namespace Go.Dc
open Go Go.Hw Go.Proofs
set_option maxRecDepth 100000
def r08_same_L1 (a1 : List ByteArray) : List ByteArray → Nat → Option (Unit ⊕ Bool)
  | [], k73 => some (.inl ())
  | x98 :: q94, k73 => Option.bind (a1[k73]?) (fun x105 => cond (!(eqS x98 x105)) (some (.inr false)) (r08_same_L1 a1 q94 (k73 + 1)))

def r08_same (a0 : List ByteArray) (a1 : List ByteArray) : Option Bool :=
  cond (!(eqI ((a0.length : Nat) : Int) ((a1.length : Nat) : Int))) (some false) (Option.bind (α := Unit ⊕ Bool) (Option.bind (r08_same_L1 a1 a0 0) (fun o => match o with | .inl _ => some (.inl ()) | .inr r109 => some (.inr r109))) (fun o => match o with | .inl _ => some true | .inr r110 => some r110))

end Go.Dc
end
section
set_option linter.all false
namespace Go.Dc
open Go Go.Hw Go.Proofs
set_option maxRecDepth 100000
def r08_function_L1 (a1 : Func) : List Inst → Nat → Option (Unit ⊕ Bool)
  | [], k73 => some (.inl ())
  | x98 :: q94, k73 => Option.bind (a1.Code[k73]?) (fun x105 => cond (!(andB (eqI x98.Op x105.Op) (andB (eqI x98.A x105.A) (andB (eqI x98.B x105.B) (andB (eqI x98.C x105.C) (andB (eqI x98.Obj x105.Obj) (andB (eqI x98.N x105.N) (andB (eqI x98.Fn x105.Fn) (andB (eqI x98.Order x105.Order) true))))))))) (some (.inr false)) (r08_function_L1 a1 q94 (k73 + 1)))

def r08_function (a0 : Func) (a1 : Func) : Option Bool :=
  cond (orB (!(eqS a0.Name a1.Name)) (!(eqI ((a0.Code.length : Nat) : Int) ((a1.Code.length : Nat) : Int)))) (some false) (Option.bind (α := Unit ⊕ Bool) (Option.bind (r08_function_L1 a1 a0.Code 0) (fun o => match o with | .inl _ => some (.inl ()) | .inr r109 => some (.inr r109))) (fun o => match o with | .inl _ => some true | .inr r110 => some r110))

end Go.Dc
end
section
set_option linter.all false
namespace Go.Dc
open Go Go.Hw Go.Proofs
set_option maxRecDepth 100000
def r08_Equal_L1 (a1 : Program) : List Var → Nat → Option (Unit ⊕ Bool)
  | [], k75 => some (.inl ())
  | x100 :: q96, k75 => Option.bind (a1.Vars[k75]?) (fun x107 => cond (!(andB (eqS x100.Name x107.Name) (andB (eqI x100.Init x107.Init) true))) (some (.inr false)) (r08_Equal_L1 a1 q96 (k75 + 1)))

def r08_Equal_L2 (a1 : Program) : List Func → Nat → Option (Unit ⊕ Bool)
  | [], k199 => some (.inl ())
  | x228 :: q224, k199 => Option.bind (a1.Funcs[k199]?) (fun x237 => Option.bind (r08_function x228 x237) (fun y240 => cond (!y240) (some (.inr false)) (r08_Equal_L2 a1 q224 (k199 + 1))))

def r08_Equal_L3 (a1 : Program) : List Start → Nat → Option (Unit ⊕ Bool)
  | [], k315 => some (.inl ())
  | x340 :: q336, k315 => Option.bind (a1.Threads[k315]?) (fun x347 => cond (!(andB (eqI x340.Func x347.Func) (andB (eqI x340.Arg x347.Arg) true))) (some (.inr false)) (r08_Equal_L3 a1 q336 (k315 + 1)))

def r08_Equal (a0 : Program) (a1 : Program) : Option Bool :=
  guardO (orB (!(eqI ((a0.Vars.length : Nat) : Int) ((a1.Vars.length : Nat) : Int))) ((r08_same a0.Mutexes a1.Mutexes).isSome)) (guardO (orB (!(!(orB (!(eqI ((a0.Vars.length : Nat) : Int) ((a1.Vars.length : Nat) : Int))) (!((r08_same a0.Mutexes a1.Mutexes).getD default))))) ((r08_same a0.Conds a1.Conds).isSome)) (cond (orB (orB (orB (orB (!(eqI ((a0.Vars.length : Nat) : Int) ((a1.Vars.length : Nat) : Int))) (!((r08_same a0.Mutexes a1.Mutexes).getD default))) (!((r08_same a0.Conds a1.Conds).getD default))) (!(eqI ((a0.Funcs.length : Nat) : Int) ((a1.Funcs.length : Nat) : Int)))) (!(eqI ((a0.Threads.length : Nat) : Int) ((a1.Threads.length : Nat) : Int)))) (some false) (Option.bind (α := Unit ⊕ Bool) (Option.bind (r08_Equal_L1 a1 a0.Vars 0) (fun o => match o with | .inl _ => some (.inl ()) | .inr r111 => some (.inr r111))) (fun o => match o with | .inl _ => Option.bind (α := Unit ⊕ Bool) (Option.bind (r08_Equal_L2 a1 a0.Funcs 0) (fun o => match o with | .inl _ => some (.inl ()) | .inr r243 => some (.inr r243))) (fun o => match o with | .inl _ => Option.bind (α := Unit ⊕ Bool) (Option.bind (r08_Equal_L3 a1 a0.Threads 0) (fun o => match o with | .inl _ => some (.inl ()) | .inr r351 => some (.inr r351))) (fun o => match o with | .inl _ => some true | .inr r352 => some r352) | .inr r353 => some r353) | .inr r354 => some r354))))

end Go.Dc
end
section
set_option linter.all false
namespace Go.Dc
open Go Go.Hw Go.Proofs
set_option maxRecDepth 100000

def law14_AwaitRewrites (fuelN : Nat) (a0 : Program) : Option Bool :=
  Option.bind (r08_Small a0) (fun y1 => cond (!y1) (Option.bind (law14_lives fuelN) (fun y4 => some y4)) (Option.bind (r08_Clone a0) (fun y6 => Option.bind (await_Rewrite fuelN a0) (fun y8 => Option.bind (r14_Rewrite fuelN a0) (fun y10 => guardO (orB (!(eqI y8.2 y10.2)) ((r08_Equal y8.1 y10.1).isSome)) (cond (andB (eqI y8.2 y10.2) ((r08_Equal y8.1 y10.1).getD default)) (Option.bind (r08_Equal a0 y6) (fun y14 => guardO (orB (!y14) ((law14_lives fuelN).isSome)) (some (andB y14 ((law14_lives fuelN).getD default))))) (some false)))))))

end Go.Dc
end
section
set_option linter.all false
namespace Go.Dc.Pl
open Go Go.Hw Go.Dc
set_option maxRecDepth 100000
theorem first_noneF {α β : Type} : ∀ (l : List α) (k : Nat), first (fun _ _ => (none : Option β)) l k = none
  | [], _ => rfl
  | x :: q, k => by rw [first_cons]; exact first_noneF q _
theorem ownclone {p : Program} (hp : small p = true) : program_Clone p = some p := by
  obtain ⟨s1, s2, s3, s4, s5, s6⟩ := small_t hp
  have hL : ∀ (q k : Nat), k + q = p.Funcs.length → program_Clone_L1 p q k p.Funcs = some p.Funcs := fun q => by
    induction q with
    | zero => intro k h; rw [program_Clone_L1, show decide (p.Funcs.length ≤ k) = true by simp; omega]; rfl
    | succ q ih =>
      intro k h
      have hf := fOf_eq (p := p) (k := k) (by omega)
      rw [program_Clone_L1, hf, Option.bind_some, slices_Clone_api_Inst, show limB 64 (fOf p k).Code.length = true from limB_of (m := 100) (fOf_le hp k) (by decide), guardO_t, Option.bind_some, Option.bind_some, Option.bind_some]
      rw [show p.Funcs.set k { fOf p k with Code := (fOf p k).Code } = p.Funcs from ?_, ih (k + 1) (by omega)]
      apply List.ext_getElem?
      intro j
      rw [List.getElem?_set]
      split
      · rename_i e; subst e; rw [if_pos (by omega), hf]
      · rfl
  rw [program_Clone, slices_Clone_api_Var, slices_Clone_string, slices_Clone_string, slices_Clone_api_Func, slices_Clone_api_Start,
    show limB 24 p.Vars.length = true from limB_of (m := 20) s1 (by decide), show limB 16 p.Mutexes.length = true from limB_of (m := 20) s2 (by decide), show limB 16 p.Conds.length = true from limB_of (m := 20) s3 (by decide), show limB 40 p.Funcs.length = true from limB_of (m := 20) s4 (by decide), show limB 16 p.Threads.length = true from limB_of (m := 20) s5 (by decide)]
  simp only [guardO_t, Option.bind_some]
  rw [show lenB p.Funcs.length = true by rw [lenB_d]; simp; omega, guardO_t, hL p.Funcs.length 0 (by omega)]
  rfl
/-- What a spin says of the program. -/
def Spun (p : Program) (x : AwaitSpin) : Prop := ∃ k i : Nat, x.fn = (k : Int) ∧ x.first = (i : Int) ∧ k < p.Funcs.length ∧ i < (fOf p k).Code.length ∧ awF (fOf p k) i = some x.await
theorem spun (p : Program) : ∀ x ∈ spins p, Spun p x := fun x hx => by
  simp only [spins, spinsOf, List.mem_flatMap, List.mem_range] at hx
  obtain ⟨k, hk, i, hi, hx⟩ := hx
  rw [spinO] at hx
  cases h : awF (gd p.Funcs k) i with
  | none => rw [h] at hx; cases hx
  | some y => rw [h] at hx; obtain rfl := List.mem_singleton.1 hx; exact ⟨k, i, rfl, rfl, hk, hi, h⟩
/-- The same lists of code, by their lengths. -/
def Like (p : Program) (l : List Func) : Prop := l.length = p.Funcs.length ∧ ∀ (k : Nat) (f : Func), l[k]? = some f → f.Code.length = (fOf p k).Code.length
end Go.Dc.Pl
end
section
set_option linter.all false
namespace Go.Dc.Pl
open Go Go.Hw Go.Dc
set_option maxRecDepth 100000
/-- The code in which the loads of spins have become awaits. -/
def rwL (f : Func) : List Inst := f.Code.zipIdx.map fun x => (awF f x.2).getD x.1
def rwF (f : Func) : Func := { f with Code := rwL f }
def rwP (p : Program) : Program := { p with Funcs := p.Funcs.map rwF }
theorem rwL_len (f : Func) : (rwL f).length = f.Code.length := by simp [rwL]
theorem rwL_get (f : Func) (i : Nat) : (rwL f)[i]? = (f.Code[i]?).map fun c => (awF f i).getD c := by
  rw [rwL, List.getElem?_map, List.getElem?_zipIdx]
  cases f.Code[i]? <;> simp
theorem upd_ext {l l' : List Func} (h : l.length = l'.length) (hk : ∀ (k : Nat) (f f' : Func), l[k]? = some f → l'[k]? = some f' → f = f') : l = l' := by
  apply List.ext_getElem?
  intro k
  rcases Nat.lt_or_ge k l.length with h1 | h1
  · have a := List.getElem?_eq_getElem h1
    have b := List.getElem?_eq_getElem (show k < l'.length by omega)
    rw [a, b, hk k _ _ a b]
  · rw [List.getElem?_eq_none h1, List.getElem?_eq_none (by omega)]
theorem code_ext {l l' : List Inst} (h : l.length = l'.length) (hk : ∀ (k : Nat) (f f' : Inst), l[k]? = some f → l'[k]? = some f' → f = f') : l = l' := by
  apply List.ext_getElem?
  intro k
  rcases Nat.lt_or_ge k l.length with h1 | h1
  · have a := List.getElem?_eq_getElem h1
    have b := List.getElem?_eq_getElem (show k < l'.length by omega)
    rw [a, b, hk k _ _ a b]
  · rw [List.getElem?_eq_none h1, List.getElem?_eq_none (by omega)]
/-- What has been done when the spins of a set have been written. -/
structure Done (p : Program) (S : Nat → Nat → Prop) (l : List Func) : Prop where
  len : l.length = p.Funcs.length
  name : ∀ (k : Nat) (f : Func), l[k]? = some f → f.Name = (fOf p k).Name
  size : ∀ (k : Nat) (f : Func), l[k]? = some f → f.Code.length = (fOf p k).Code.length
  yes : ∀ (k : Nat) (f : Func), l[k]? = some f → ∀ i c, f.Code[i]? = some c → S k i → awF (fOf p k) i = some c
  no : ∀ (k : Nat) (f : Func), l[k]? = some f → ∀ i c, f.Code[i]? = some c → ¬ S k i → (fOf p k).Code[i]? = some c
def inS (q : List AwaitSpin) (k i : Nat) : Prop := ∃ x ∈ q, x.fn = (k : Int) ∧ x.first = (i : Int)
theorem Done.step {p : Program} {S S' : Nat → Nat → Prop} {l : List Func} (h : Done p S l) {k i : Nat} {y : Inst} (hy : awF (fOf p k) i = some y) {f : Func} (hf : l[k]? = some f)
    (hS : ∀ a b, S' a b ↔ S a b ∨ (a = k ∧ b = i)) : Done p S' (l.set k { f with Code := f.Code.set i y }) := by
  have key : ∀ (a : Nat) (g : Func), (l.set k { f with Code := f.Code.set i y })[a]? = some g → (a = k ∧ g = { f with Code := f.Code.set i y }) ∨ (a ≠ k ∧ l[a]? = some g) := by
    intro a g hg
    rw [List.getElem?_set] at hg
    split at hg
    · rename_i e
      split at hg
      · left; exact ⟨e.symm, (Option.some.inj hg).symm⟩
      · cases hg
    · rename_i e; right; exact ⟨fun h => e h.symm, hg⟩
  refine ⟨by rw [List.length_set]; exact h.len, fun a g hg => ?_, fun a g hg => ?_, fun a g hg b c hc hs => ?_, fun a g hg b c hc hs => ?_⟩
  · rcases key a g hg with ⟨rfl, rfl⟩ | ⟨_, h2⟩
    · exact h.name a f hf
    · exact h.name a g h2
  · rcases key a g hg with ⟨rfl, rfl⟩ | ⟨_, h2⟩
    · simpa using h.size a f hf
    · exact h.size a g h2
  · rcases key a g hg with ⟨rfl, rfl⟩ | ⟨hne, h2⟩
    · simp only [List.getElem?_set] at hc
      split at hc
      · rename_i e; subst e
        split at hc
        · rw [← Option.some.inj hc]; exact hy
        · cases hc
      · rename_i e
        rcases (hS _ _).1 hs with h3 | ⟨_, h3⟩
        · exact h.yes a f hf b c hc h3
        · exact absurd h3.symm e
    · rcases (hS _ _).1 hs with h3 | ⟨h3, _⟩
      · exact h.yes a g h2 b c hc h3
      · exact absurd h3 hne
  · rcases key a g hg with ⟨rfl, rfl⟩ | ⟨hne, h2⟩
    · simp only [List.getElem?_set] at hc
      split at hc
      · rename_i e; subst e; exact absurd ((hS _ _).2 (.inr ⟨rfl, rfl⟩)) hs
      · exact h.no a f hf b c hc fun h3 => hs ((hS _ _).2 (.inl h3))
    · exact h.no a g h2 b c hc fun h3 => hs ((hS _ _).2 (.inl h3))
theorem own_L1 {p : Program} : ∀ (q : List AwaitSpin) (k1 : Nat) (l : List Func) (S : Nat → Nat → Prop), (∀ x ∈ q, Spun p x) → Done p S l → ∃ r, await_Rewrite_L1 q k1 l = some r ∧ Done p (fun a b => S a b ∨ inS q a b) r
  | [], _, l, S, _, hl => ⟨l, rfl, by
      have e : (fun a b => S a b ∨ inS [] a b) = S := by funext a b; simp [inS]
      rw [e]; exact hl⟩
  | x :: q, k1, l, S, hq, hl => by
    obtain ⟨k, i, h1, h2, h3, h4, h5⟩ := hq x (by simp)
    obtain ⟨f, hf⟩ : ∃ f, l[k]? = some f := ⟨_, List.getElem?_eq_getElem (by rw [hl.len]; exact h3)⟩
    have hlen := hl.size k f hf
    obtain ⟨c, hc⟩ : ∃ c, f.Code[i]? = some c := ⟨_, List.getElem?_eq_getElem (by rw [hlen]; exact h4)⟩
    obtain ⟨r, e1, e2⟩ := own_L1 q (k1 + 1) (l.set k { f with Code := f.Code.set i x.await }) (fun a b => S a b ∨ (a = k ∧ b = i)) (fun y hy => hq y (by simp [hy])) (hl.step h5 hf fun a b => Iff.rfl)
    refine ⟨r, ?_, ?_⟩
    · rw [await_Rewrite_L1, h1, getI_nat, hf, Option.bind_some, h2, getI_nat, hc, Option.bind_some, Option.bind_some, Option.bind_some, Int.toNat_natCast, Int.toNat_natCast]
      exact e1
    · have e : (fun a b => S a b ∨ inS (x :: q) a b) = fun a b => (S a b ∨ (a = k ∧ b = i)) ∨ inS q a b := by
        funext a b
        simp only [inS, List.mem_cons, exists_eq_or_imp, h1, h2, or_assoc, eq_iff_iff]
        have : (((k : Int) = (a : Int)) ∧ ((i : Int) = (b : Int))) ↔ (a = k ∧ b = i) := by omega
        rw [this]
      rw [e]; exact e2
theorem mem_spins {p : Program} {k i : Nat} (hk : k < p.Funcs.length) : inS (spins p) k i ↔ (awF (fOf p k) i).isSome = true := by
  constructor
  · rintro ⟨x, hx, h1, h2⟩
    obtain ⟨a, b, e1, e2, e3, e4, e5⟩ := spun p x hx
    obtain rfl : a = k := by omega
    obtain rfl : b = i := by omega
    rw [e5]; rfl
  · intro h
    obtain ⟨y, hy⟩ := Option.isSome_iff_exists.1 h
    have hi : i < (fOf p k).Code.length := by
      rcases Nat.lt_or_ge i (fOf p k).Code.length with h1 | h1
      · exact h1
      · rw [awF_hi (by omega)] at hy; cases hy
    refine ⟨{ fn := (k : Int), first := (i : Int), await := y }, ?_, rfl, rfl⟩
    simp only [spins, spinsOf, List.mem_flatMap, List.mem_range]
    refine ⟨k, hk, i, hi, ?_⟩
    rw [spinO, show gd p.Funcs k = fOf p k from rfl, hy]; simp
theorem own_rewrite {p : Program} (hp : small p = true) {fuel : Nat} (hf : 200 ≤ fuel) (hc : eqI (chk p).1 0 = true) : await_Rewrite fuel p = some (rwP p, 0) := by
  obtain ⟨h1, h2⟩ := spins_eq hp hf
  obtain ⟨r, e1, e2⟩ := own_L1 (spins p) 0 p.Funcs (fun _ _ => False) (spun p) ⟨rfl, fun k f h => by rw [fOf_eq (getN_some h)] at h; rw [Option.some.inj h], fun k f h => by rw [fOf_eq (getN_some h)] at h; rw [Option.some.inj h], fun _ _ _ _ _ _ h => h.elim, fun k f h i c hc _ => by rw [fOf_eq (getN_some h)] at h; rw [Option.some.inj h]; exact hc⟩
  have hr : r = p.Funcs.map rwF := by
    refine upd_ext (by rw [e2.len, List.length_map]) fun k f f' ha hb => ?_
    rw [List.getElem?_map] at hb
    have hk : k < p.Funcs.length := by rw [← e2.len]; exact getN_some ha
    rw [fOf_eq hk, Option.map_some] at hb
    obtain rfl := Option.some.inj hb
    have hn := e2.name k f ha
    have hco : f.Code = rwL (fOf p k) := by
      refine code_ext (by rw [e2.size k f ha, rwL_len]) fun i c c' h3 h4 => ?_
      rw [rwL_get] at h4
      by_cases hs : inS (spins p) k i
      · have := e2.yes k f ha i c h3 (.inr hs)
        rw [this] at h4
        cases hx : (fOf p k).Code[i]? <;> rw [hx] at h4 <;> simp at h4
        exact h4
      · have h5 := e2.no k f ha i c h3 (by simpa using hs)
        have h6 : awF (fOf p k) i = none := by
          rw [mem_spins hk] at hs; simpa using hs
        rw [h5, h6] at h4; simpa using h4
    cases f; simp only [rwF] at hn hco ⊢; subst hn; subst hco; rfl
  obtain ⟨n, rfl⟩ : ∃ n, fuel = n + 8 := ⟨fuel - 8, by omega⟩
  rw [await_Rewrite, own_check hp, Option.bind_some, ownclone hp, h1, hc]
  simp only [Bool.not_true, cond_false, Option.bind_some]
  rw [show lenB (spins p).length = true by rw [lenB_d]; simp; omega, e1, hr]
  rfl
end Go.Dc.Pl
end
section
set_option linter.all false
namespace Go.Dc.Pl
open Go Go.Hw Go.Dc
set_option maxRecDepth 100000
/-- What an instruction with these operands must satisfy. -/
structure InstOk (x : Inst) (uA uB uC uO uN uF uR : Bool) : Prop where
  zA : uA = false → x.A = 0
  zB : uB = false → x.B = 0
  zC : uC = false → x.C = 0
  zO : uO = false → x.Obj = 0
  zN : uN = false → x.N = 0
  zF : uF = false → x.Fn = 0
  zR : uR = false → x.Order = 0
  A : 0 ≤ x.A ∧ x.A < 8
  B : 0 ≤ x.B ∧ x.B < 8
  C : 0 ≤ x.C ∧ x.C < 8
  R : 0 ≤ x.Order ∧ x.Order ≤ 2
  F : uF = true → 1 ≤ x.Fn ∧ x.Fn ≤ 10
  N : x.Op = 1 → -2147483648 ≤ x.N ∧ x.N ≤ 2147483647
theorem ic_aux {c : Bool} {k : Int} {a : Option Int} (hk : k ≠ 0) : (eqI ((cond c (some k) a).getD 0) 0 = true) ↔ (c = false ∧ eqI (a.getD 0) 0 = true) := by
  cases c <;> simp [eqI, hk]
theorem icode_iff {x : Inst} (h1 : 1 ≤ x.Op) (h2 : x.Op ≤ 22) {uA uB uC uO uN uF uR : Bool} (hA : r07_has x.Op 65 = some uA) (hB : r07_has x.Op 66 = some uB) (hC : r07_has x.Op 67 = some uC)
    (hO : r07_has x.Op 79 = some uO) (hN : r07_has x.Op 78 = some uN) (hF : r07_has x.Op 70 = some uF) (hR : r07_has x.Op 82 = some uR) : eqI (icode x) 0 = true ↔ InstOk x uA uB uC uO uN uF uR := by
  obtain ⟨na, nb, hna, hnb, hea, heb⟩ := names_eq x.Fn
  have e : icode x = (cond (orB (orB (orB (orB (orB (orB (andB (!uA) (!(eqI x.A 0))) (andB (!uB) (!(eqI x.B 0)))) (andB (!uC) (!(eqI x.C 0)))) (andB (!uO) (!(eqI x.Obj 0)))) (andB (!uN) (!(eqI x.N 0)))) (andB (!uF) (!(eqI x.Fn 0)))) (andB (!uR) (!(eqI x.Order 0)))) (some 9)
      (cond (orB (orB (!(andB (!ltI x.A 0) (ltI x.A 8))) (!(andB (!ltI x.B 0) (ltI x.B 8)))) (!(andB (!ltI x.C 0) (ltI x.C 8)))) (some 10) (cond (orB (ltI x.Order 0) (ltI 2 x.Order)) (some 13) (cond (andB uF (noName x.Fn)) (some 8) (cond (andB (eqI x.Op 1) (orB (ltI x.N (-2147483648)) (ltI 2147483647 x.N))) (some 2) (some 0)))))).getD 0 := by
    rw [icode, r07_Check, show orB (ltI x.Op 1) (ltI 22 x.Op) = false by simp [orB_d, ltI_d]; omega]
    simp only [hA, hB, hC, hO, hN, hF, hR, hnb, heb, Option.bind_some, Option.isSome_some, Option.getD_some, orB_t, guardO_t, cond_false, r07_register]
  rw [e, ic_aux (by decide), ic_aux (by decide), ic_aux (by decide), ic_aux (by decide), ic_aux (by decide)]
  simp only [orB_d, andB_d, eqI_d, ltI_d, noName, Bool.or_eq_false_iff, Bool.and_eq_false_imp, Bool.not_eq_true', Bool.not_eq_false', decide_eq_true_eq, decide_eq_false_iff_not, Bool.not_eq_eq_eq_not, Bool.not_true, Bool.not_false, Bool.and_eq_true, Option.getD_some, decide_true, and_true]
  constructor
  · rintro ⟨⟨⟨⟨⟨⟨⟨a, b⟩, c⟩, o⟩, n⟩, f⟩, r⟩, ⟨⟨ra, rb⟩, rc⟩, ro, rf, rn⟩
    refine ⟨a, b, c, o, n, f, r, by omega, by omega, by omega, by omega, fun h => ?_, fun h => ?_⟩
    · have := rf h; omega
    · have := rn h; omega
  · intro h
    obtain ⟨a, b, c, o, n, f, r, ra, rb, rc, ro, rf, rn⟩ := h
    refine ⟨⟨⟨⟨⟨⟨⟨a, b⟩, c⟩, o⟩, n⟩, f⟩, r⟩, ⟨⟨by omega, by omega⟩, by omega⟩, by omega, fun h => ?_, fun h => ?_⟩
    · have := rf h; omega
    · have := rn h; omega
/-- An instruction of a program that is well formed. -/
theorem ci_iff {p : Program} {x : Inst} {n : Nat} : eqI (ci p x n) 0 = true ↔ eqI (icode x) 0 = true ∧ exs p x = true ∧ (x.Op = 4 ∨ x.Op = 5 → 0 ≤ x.N ∧ x.N ≤ n) := by
  rw [ci]
  cases h : eqI (icode x) 0
  · simp [h]
  · cases exs p x
    · simp [eqI]
    · simp only [Bool.not_true, cond_false, true_and]
      cases h2 : andB (orB (eqI x.Op 4) (eqI x.Op 5)) (orB (ltI x.N 0) (ltI (n : Int) x.N))
      · simp only [cond_false, show eqI 0 0 = true from rfl, true_iff]
        simp only [andB_d, orB_d, eqI_d, ltI_d, Bool.and_eq_false_imp, Bool.or_eq_true, decide_eq_true_eq, Bool.or_eq_false_iff, decide_eq_false_iff_not] at h2
        intro h3; have := h2 h3; omega
      · simp only [cond_true, show eqI 12 0 = false from rfl, Bool.false_eq_true, false_iff]
        simp only [andB_d, orB_d, eqI_d, ltI_d, Bool.and_eq_true, Bool.or_eq_true, decide_eq_true_eq] at h2
        intro h3; have := h3 h2.1; omega
theorem first_none_iff {α β : Type} {f : Nat → α → Option β} : ∀ {l : List α} {k : Nat}, first f l k = none ↔ ∀ j x, l[j]? = some x → f (k + j) x = none
  | [], k => by simp
  | x :: q, k => by
    rw [first_cons]
    constructor
    · intro h j y hy
      cases hc : f k x with
      | some r => rw [hc] at h; cases h
      | none =>
        rw [hc] at h
        cases j with
        | zero => obtain rfl := Option.some.inj hy; exact hc
        | succ j => have := first_none_iff.1 h j y (by simpa using hy); rwa [show k + (j + 1) = k + 1 + j by omega]
    · intro h
      rw [show f k x = none from h 0 x rfl]
      exact first_none_iff.2 fun j y hy => by have := h (j + 1) y (by simpa using hy); rwa [show k + 1 + j = k + (j + 1) by omega]
/-- A function's code is well formed. -/
theorem cF_iff {p : Program} {k : Nat} {f : Func} : cF p k f = none ↔ f.Code.length ≤ 64 ∧ ∀ (j : Nat) (x : Inst), f.Code[j]? = some x → eqI (ci p x f.Code.length) 0 = true := by
  rw [cF]
  cases h : ltI 64 ((f.Code.length : Nat) : Int)
  · rw [cond_false, Option.map_eq_none_iff, first_none_iff]
    have h1 : f.Code.length ≤ 64 := by simp [ltI_d] at h; omega
    simp only [cI, h1, true_and]
    refine forall_congr' fun j => forall_congr' fun x => imp_congr_right fun _ => ?_
    cases eqI (ci p x f.Code.length) 0 <;> simp
  · simp only [cond_true, reduceCtorEq, false_iff]
    have h1 : 64 < f.Code.length := by simp [ltI_d] at h; omega
    rintro ⟨h2, _⟩; omega
theorem ckN_ne {p : Program} {r : Int × Int} (hn : ckN p = some r) : eqI r.1 0 = false := by
  rw [ckN] at hn
  split at hn
  · rename_i hb; obtain rfl := Option.some.inj hn; have := badName_ne hb; exact this
  · split at hn
    · rename_i hb; obtain rfl := Option.some.inj hn; have := badName_ne hb; exact this
    · split at hn
      · rename_i hb; obtain rfl := Option.some.inj hn; have := badName_ne hb; exact this
      · exact badName_ne hn
/-- A program is well formed. -/
theorem chk_iff {p : Program} : eqI (chk p).1 0 = true ↔ ckN p = none ∧ eqI (ckO p) 0 = true ∧ (∀ (k : Nat) (f : Func), p.Funcs[k]? = some f → cF p k f = none) ∧ eqI (ckT p) 0 = true := by
  rw [chk]
  cases hn : ckN p with
  | some r => have := ckN_ne hn; simp [this]
  | none =>
    cases ho : eqI (ckO p) 0
    · simp [ho]
    · simp only [Bool.not_true, cond_false, true_and]
      cases hf : first (cF p) p.Funcs 0 with
      | some r =>
        have := first_ne (fun k x r h => cF_ne h) _ _ hf
        simp only [this, Bool.false_eq_true, false_iff]
        rintro ⟨h, _⟩
        obtain ⟨j, x, hx, e⟩ := first_some hf
        rw [Nat.zero_add, h j x hx] at e; cases e
      | none =>
        simp only [iff_and_self]
        intro _ k f hk
        have := first_none_iff.1 hf k f hk
        rwa [Nat.zero_add] at this
end Go.Dc.Pl
end
section
set_option linter.all false
namespace Go.Dc.Pl
open Go Go.Hw Go.Dc
set_option maxRecDepth 100000
theorem load_ok {x : Inst} (h : x.Op = 8) : eqI (icode x) 0 = true ↔ InstOk x true false false true false false true :=
  icode_iff (by omega) (by omega) (by rw [h]; kernel_rfl) (by rw [h]; kernel_rfl) (by rw [h]; kernel_rfl) (by rw [h]; kernel_rfl) (by rw [h]; kernel_rfl) (by rw [h]; kernel_rfl) (by rw [h]; kernel_rfl)
theorem calc_ok {x : Inst} (h : x.Op = 3) : eqI (icode x) 0 = true ↔ InstOk x true true true false false true false :=
  icode_iff (by omega) (by omega) (by rw [h]; kernel_rfl) (by rw [h]; kernel_rfl) (by rw [h]; kernel_rfl) (by rw [h]; kernel_rfl) (by rw [h]; kernel_rfl) (by rw [h]; kernel_rfl) (by rw [h]; kernel_rfl)
/-- A spin at i. -/
structure Pat (f : Func) (i : Nat) (a b c : Inst) : Prop where
  ha : f.Code[i]? = some a
  hb : f.Code[i + 1]? = some b
  hc : f.Code[i + 2]? = some c
  op1 : a.Op = 8
  op2 : b.Op = 3
  op3 : c.Op = 5
  cB : c.B = b.A
  cN : c.N = (i : Int)
  t1 : f.Code.any (brTo ((i + 1 : Nat) : Int)) = false
  t2 : f.Code.any (brTo ((i + 2 : Nat) : Int)) = false
  one : ¬ (b.B = a.A ↔ b.C = a.A)
  oth : (if b.C = a.A then b.B else b.C) ≠ b.A
  fn : b.Fn = 7 ∨ b.Fn = 8 ∨ (b.C = a.A ∧ (b.Fn = 9 ∨ b.Fn = 10))
theorem cond_dec {α : Type} (p : Prop) [Decidable p] (a b : α) : cond (decide p) a b = if p then a else b := by by_cases h : p <;> simp [h]
theorem awF_some {f : Func} {i : Nat} {y : Inst} (h : awF f i = some y) : ∃ a b c, Pat f i a b c ∧ y = awI a b := by
  rw [awF] at h
  split at h
  · rename_i a b c ha hb hc
    cases hp : pat f i a b c
    · rw [hp] at h; cases h
    · rw [hp] at h
      obtain rfl := Option.some.inj h
      refine ⟨a, b, c, ?_, rfl⟩
      simp only [pat, andB_d, orB_d, eqI_d, eqB, Bool.and_eq_true, Bool.or_eq_true, Bool.not_eq_true', decide_eq_true_eq, cond_dec, decide_eq_false_iff_not, beq_eq_false_iff_ne, ne_eq, decide_eq_decide] at hp
      obtain ⟨⟨⟨⟨⟨o1, o2⟩, o3⟩, cb⟩, cn⟩, t1, t2, one, oth, fn⟩ := hp
      exact ⟨ha, hb, hc, o1, o2, o3, cb, cn, t1, t2, one, oth, by rcases fn with (h | h) | h <;> simp [h]⟩
  · cases h
theorem Pat.awF {f : Func} {i : Nat} {a b c : Inst} (h : Pat f i a b c) : awF f i = some (awI a b) := by
  rw [Pl.awF, h.ha, h.hb, h.hc]
  have : pat f i a b c = true := by
    simp only [pat, andB_d, orB_d, eqI_d, eqB, Bool.and_eq_true, Bool.or_eq_true, Bool.not_eq_true', decide_eq_true_eq, cond_dec, decide_eq_false_iff_not, beq_eq_false_iff_ne, ne_eq, decide_eq_decide]
    refine ⟨⟨⟨⟨⟨h.op1, h.op2⟩, h.op3⟩, h.cB⟩, h.cN⟩, h.t1, h.t2, h.one, h.oth, ?_⟩
    rcases h.fn with h | h | h <;> simp [h]
  simp only [this, onlyIf_t]
theorem awI_B (a b : Inst) : (awI a b).B = if b.C = a.A then b.B else b.C := by
  simp only [awI, eqI_d, cond_dec]
/-- Spins lie apart. -/
def apart (y x : AwaitSpin) : Prop := y.fn < x.fn ∨ (y.fn = x.fn ∧ y.first + 2 < x.first)
end Go.Dc.Pl
end
section
set_option linter.all false
namespace Go.Dc
open Go Go.Hw Go.Proofs
set_option maxRecDepth 100000

def r08_Valid (fuelN : Nat) (a0 : Program) : Option Bool :=
  Option.bind (r08_Check fuelN a0) (fun y1 => some (eqI y1.1 0))

set_option maxHeartbeats 2000000 in
theorem at_r08_Valid {fuelN : Nat} {a0 : Program} {r : Bool} (hs : r08_Valid fuelN a0 = some r) : At Tryd.prog 43 [.agg (eA a0)] (bV r) := by
  refine at_bound (by kernel_rfl) fun hb => ?_
  have hb1 : LenOk (.sl a0.Vars.length (encL a0.Vars)) := lkc hb
  have hb2 : LenOk (.sl a0.Mutexes.length (encL a0.Mutexes)) := lkc hb
  have hb3 : LenOk (.sl a0.Conds.length (encL a0.Conds)) := lkc hb
  have hb4 : LenOk (.sl a0.Funcs.length (encL a0.Funcs)) := lkc hb
  have hb5 : LenOk (.sl a0.Threads.length (encL a0.Threads)) := lkc hb
  refine at_code mixed Tryd.func43 (by kernel_rfl) rfl (by kernel_rfl) rfl fun Q hQ => ?_
  rw [r08_Valid] at hs
  refine goR f0 ?_
  revert hs; refine bK fun y1 hx2 hs => ?_
  refine cP f0 (at_r08_Check hx2) ?_
  refine goR f0 ?_
  obtain rfl := sj hs
  exact hQ _ _ (rg f0 (Gh.refl _))
end Go.Dc
end
section
set_option linter.all false
namespace Go.Dc
open Go Go.Hw Go.Proofs
set_option maxRecDepth 100000
def r08_Size_L1 : List Func → Int → Nat → Option Int
  | [], i50, k51 => some (i50)
  | x67 :: q63, i50, k51 => r08_Size_L1 q63 (IntKind.i64.wrap (i50 + ((x67.Code.length : Nat) : Int))) (k51 + 1)

def r08_Size (a0 : Program) : Option Int :=
  Option.bind (α := Int) (Option.bind (r08_Size_L1 a0.Funcs 0 0) (fun i56 => some (i56))) (fun i33 => some i33)

end Go.Dc
end
section
set_option linter.all false
namespace Go.Dc
open Go Go.Hw Go.Proofs
set_option maxRecDepth 100000
def law14_AwaitOnce_L1 (y7 : (List Spin) × Int) : List Spin → Nat → Option (Unit ⊕ Bool)
  | [], k108 => some (.inl ())
  | x137 :: q133, k108 => Option.bind (getI y7.1 (IntKind.i64.wrap (((k108 : Nat) : Int) - 1))) (fun x147 => cond (orB (ltI x137.Func x147.Func) (andB (eqI x137.Func x147.Func) (!(ltI x147.Last x137.First)))) (some (.inr false)) (law14_AwaitOnce_L1 y7 q133 (k108 + 1)))

def law14_AwaitOnce_L3 (x1615 : Func) : List Inst → Int → Nat → Option (Int ⊕ Bool)
  | [], i1638, k1639 => some (.inl i1638)
  | x1668 :: q1664, i1638, k1639 => Option.bind (x1615.Code[k1639]?) (fun x1675 => cond (!(andB (eqI x1668.Op x1675.Op) (andB (eqI x1668.A x1675.A) (andB (eqI x1668.B x1675.B) (andB (eqI x1668.C x1675.C) (andB (eqI x1668.Obj x1675.Obj) (andB (eqI x1668.N x1675.N) (andB (eqI x1668.Fn x1675.Fn) (andB (eqI x1668.Order x1675.Order) true))))))))) (cond (orB (!(eqI x1668.Op 8)) (!(eqI x1675.Op 14))) (some (.inr false)) (law14_AwaitOnce_L3 x1615 q1664 (IntKind.i64.wrap (i1638 + 1)) (k1639 + 1))) (law14_AwaitOnce_L3 x1615 q1664 i1638 (k1639 + 1)))

def law14_AwaitOnce_L2 (a0 : Program) (y9 : Program × Int) : Nat → Int → Int → Option (Int ⊕ Bool)
  | 0, _, _ => none
  | q1519 + 1, i1342, i1343 => cond (ltI i1343 ((a0.Funcs.length : Nat) : Int)) (Option.bind (α := Int ⊕ Bool) (Option.bind (getI a0.Funcs i1343) (fun x1612 => Option.bind (getI y9.1.Funcs i1343) (fun x1615 => cond (!(eqI ((x1612.Code.length : Nat) : Int) ((x1615.Code.length : Nat) : Int))) (some (.inr false)) (Option.bind (law14_AwaitOnce_L3 x1615 x1612.Code i1342 0) (fun o => match o with | .inl i1657 => some (.inl i1657) | .inr r1682 => some (.inr r1682)))))) (fun o => match o with | .inl i1601 => law14_AwaitOnce_L2 a0 y9 q1519 i1601 (IntKind.i64.wrap (i1343 + 1)) | .inr r1683 => some (.inr r1683))) (some (.inl i1342))

def law14_AwaitOnce (fuelN : Nat) (a0 : Program) : Option Bool :=
  Option.bind (r08_Small a0) (fun y1 => guardO (orB (!y1) ((r08_Valid fuelN a0).isSome)) (cond (orB (!y1) (!((r08_Valid fuelN a0).getD default))) (Option.bind (law14_lives fuelN) (fun y5 => some y5)) (Option.bind (await_Find fuelN a0) (fun y7 => Option.bind (await_Rewrite fuelN a0) (fun y9 => Option.bind (await_Find fuelN y9.1) (fun y11 => guardO (orB (!(!(orB (orB (orB (!(eqI y7.2 0)) (!(eqI y9.2 0))) (!(eqI y11.2 0))) (!(eqI ((y11.1.length : Nat) : Int) 0))))) ((r08_Valid fuelN y9.1).isSome)) (guardO (orB (!(!(orB (orB (orB (orB (!(eqI y7.2 0)) (!(eqI y9.2 0))) (!(eqI y11.2 0))) (!(eqI ((y11.1.length : Nat) : Int) 0))) (!((r08_Valid fuelN y9.1).getD default))))) ((r08_Size y9.1).isSome)) (guardO (orB (!(!(orB (orB (orB (orB (!(eqI y7.2 0)) (!(eqI y9.2 0))) (!(eqI y11.2 0))) (!(eqI ((y11.1.length : Nat) : Int) 0))) (!((r08_Valid fuelN y9.1).getD default))))) ((r08_Size a0).isSome)) (cond (orB (orB (orB (orB (orB (orB (!(eqI y7.2 0)) (!(eqI y9.2 0))) (!(eqI y11.2 0))) (!(eqI ((y11.1.length : Nat) : Int) 0))) (!((r08_Valid fuelN y9.1).getD default))) (!(eqI ((r08_Size y9.1).getD default) ((r08_Size a0).getD default)))) (!(eqI ((y9.1.Funcs.length : Nat) : Int) ((a0.Funcs.length : Nat) : Int)))) (some false) (Option.bind (α := Unit ⊕ Bool) (guardO (lenB y7.1.length) (Option.bind (law14_AwaitOnce_L1 y7 (y7.1.drop 1) 1) (fun o => match o with | .inl _ => some (.inl ()) | .inr r153 => some (.inr r153)))) (fun o => match o with | .inl _ => Option.bind (α := Int ⊕ Bool) (Option.bind (law14_AwaitOnce_L2 a0 y9 fuelN 0 0) (fun o => match o with | .inl i1512 => some (.inl i1512) | .inr r1684 => some (.inr r1684))) (fun o => match o with | .inl i917 => guardO (orB (!(eqI i917 ((y7.1.length : Nat) : Int))) ((law14_lives fuelN).isSome)) (some (andB (eqI i917 ((y7.1.length : Nat) : Int)) ((law14_lives fuelN).getD default))) | .inr r1686 => some r1686) | .inr r1687 => some r1687)))))))))))

end Go.Dc
end
section
set_option linter.all false
namespace Go.Dc.Pl
open Go Go.Hw Go.Dc
set_option maxRecDepth 100000
theorem ref_valid {p : Program} (hp : small p = true) : r08_Valid 200 p = some (eqI (chk p).1 0) := by
  rw [r08_Valid, ref_check hp (by omega)]; rfl
/-- How many spins a function has from a place on. -/
def cntL (f : Func) (l : List Inst) (k : Nat) : Nat := (l.zipIdx k).countP fun x => (awF f x.2).isSome
end Go.Dc.Pl
end
section
set_option linter.all false
namespace Go.Dc
open Go Go.Hw Go.Proofs
set_option maxRecDepth 100000

def r01_Wrap (a0 : Int) : Option Int :=
  cond (ltI (Int.tmod a0 4294967296) 0) (cond (ltI 2147483647 (IntKind.i64.wrap (Int.tmod a0 4294967296 + 4294967296))) (some (IntKind.i64.wrap (IntKind.i64.wrap (Int.tmod a0 4294967296 + 4294967296) - 4294967296))) (some (IntKind.i64.wrap (Int.tmod a0 4294967296 + 4294967296)))) (cond (ltI 2147483647 (Int.tmod a0 4294967296)) (some (IntKind.i64.wrap (Int.tmod a0 4294967296 - 4294967296))) (some (Int.tmod a0 4294967296)))

set_option maxHeartbeats 2000000 in
theorem at_r01_Wrap {a0 : Int} {r : Int} (hs : r01_Wrap a0 = some r) : At Tryd.prog 44 [iV .i64 a0] (iV .i64 r) := by
  refine at_bound (by kernel_rfl) fun hb => ?_
  refine at_code mixed Tryd.func44 (by kernel_rfl) rfl (by kernel_rfl) rfl fun Q hQ => ?_
  rw [r01_Wrap] at hs
  refine goR f0 ?_
  revert hs; refine cS f0 ?_ ?_ <;> intro h1 hs
  · refine goR f0 ?_
    revert hs; refine cS f0 ?_ ?_ <;> intro h2 hs
    · refine goR f0 ?_
      obtain rfl := sj hs
      exact hQ _ _ (rg f0 (Gh.refl _))
    · refine goR f0 ?_
      obtain rfl := sj hs
      exact hQ _ _ (rg f0 (Gh.refl _))
  · refine goR f0 ?_
    revert hs; refine cS f0 ?_ ?_ <;> intro h3 hs
    · refine goR f0 ?_
      obtain rfl := sj hs
      exact hQ _ _ (rg f0 (Gh.refl _))
    · refine goR f0 ?_
      obtain rfl := sj hs
      exact hQ _ _ (rg f0 (Gh.refl _))
end Go.Dc
end
section
set_option linter.all false
namespace Go.Dc
open Go Go.Hw Go.Proofs
set_option maxRecDepth 100000
def r01_bits_L1 (a2 : Arr 4 Int) : Nat → Int → Int → Int → Int → Int → Option Int
  | 0, _, _, _, _, _ => none
  | q79 + 1, i62, i63, i65, i66, i67 => cond (ltI i67 32) (guardO (inB (IntKind.i64.wrap (IntKind.i64.wrap (2 * Int.tmod i62 2) + Int.tmod i63 2)) 4) (r01_bits_L1 a2 q79 (IntKind.i64.wrap (Int.tdiv i62 2)) (IntKind.i64.wrap (Int.tdiv i63 2)) (IntKind.i64.wrap (i65 + IntKind.i64.wrap (i66 * (a2.f ((IntKind.i64.wrap (IntKind.i64.wrap (2 * Int.tmod i62 2) + Int.tmod i63 2)).toNat))))) (IntKind.i64.wrap (2 * i66)) (IntKind.i64.wrap (i67 + 1)))) (some (i65))

def r01_bits (fuelN : Nat) (a0 : Int) (a1 : Int) (a2 : Arr 4 Int) : Option Int :=
  Option.bind (α := Int) (cond (ltI a0 0) (some (IntKind.i64.wrap (a0 + 4294967296))) (some (a0))) (fun i2 => Option.bind (α := Int) (cond (ltI a1 0) (some (IntKind.i64.wrap (a1 + 4294967296))) (some (a1))) (fun i9 => Option.bind (α := Int) (Option.bind (r01_bits_L1 a2 fuelN i2 i9 0 1 0) (fun i72 => some (i72))) (fun i48 => Option.bind (r01_Wrap i48) (fun y86 => some y86))))

set_option maxHeartbeats 2000000 in
theorem at_r01_bits {fuelN : Nat} {a0 : Int} {a1 : Int} {a2 : Arr 4 Int} {r : Int} (hs : r01_bits fuelN a0 a1 a2 = some r) : At Tryd.prog 102 [iV .i64 a0, iV .i64 a1, .agg [nC (a2.f 0), nC (a2.f 1), nC (a2.f 2), nC (a2.f 3)]] (iV .i64 r) := by
  refine at_bound (by kernel_rfl) fun hb => ?_
  refine at_code mixed Tryd.func102 (by kernel_rfl) rfl (by kernel_rfl) rfl fun Q hQ => ?_
  rw [r01_bits] at hs
  refine goR2 f0 ?_
  revert hs; refine bK fun o4 e3 hs => ?_
  refine awp_cutK (fun (v : Int) (σ : St) => some (v) = some o4 ∧ σ.env 0 = iV .i64 v ∧ σ.env 1 = iV .i64 a1 ∧ σ.env 5 = .cell (.ref (.o 1 0 0) 0) ∧ σ.hp (.o 1 0 0) = some (.cells [nC (a2.f 0), nC (a2.f 1), nC (a2.f 2), nC (a2.f 3)]) ∧ 2 ≤ σ.gen) (by rfl) (fun Q hK5 hX6 => ?_) (fun i2 σ1 hp => ?_)
  · refine goR f0 ?_
    revert e3; refine cS f0 ?_ ?_ <;> intro h7 e3
    · refine goR f0 ?_
      exact hK5 (IntKind.i64.wrap (a0 + 4294967296)) _ _ (Gh.refl _) ⟨e3, pv f0, pv f0, pv f0, pv f0, pg⟩
    · refine goR f0 ?_
      exact hK5 a0 _ _ (Gh.refl _) ⟨e3, pv f0, pv f0, pv f0, pv f0, pg⟩
  · obtain ⟨e3, h2_0, h2_1, h2_5, g2_0, n2_g⟩ := hp
    obtain rfl := sj e3
    try dsimp only at hs
    have n2_0 : ¬ (σ1.gen = 0) := by omega
    have F1 := an h2_0 (an h2_1 (an h2_5 (an g2_0 n2_0)))
    refine goR2 F1 ?_
    revert hs; refine bK fun o11 e10 hs => ?_
    refine awp_cutK (fun (v : Int) (σ : St) => some (v) = some o11 ∧ σ.env 0 = iV .i64 i2 ∧ σ.env 1 = iV .i64 v ∧ σ.env 5 = .cell (.ref (.o 1 0 0) 0) ∧ σ.hp (.o 1 0 0) = some (.cells [nC (a2.f 0), nC (a2.f 1), nC (a2.f 2), nC (a2.f 3)]) ∧ (σ1.gen + 1) ≤ σ.gen) (by rfl) (fun Q hK12 hX13 => ?_) (fun i9 σ3 hp => ?_)
    · refine goR F1 ?_
      revert e10; refine cS F1 ?_ ?_ <;> intro h14 e10
      · refine goR F1 ?_
        exact hK12 (IntKind.i64.wrap (a1 + 4294967296)) _ _ (Gh.refl _) ⟨e10, pv F1, pv F1, pv F1, pv F1, pg⟩
      · refine goR F1 ?_
        exact hK12 a1 _ _ (Gh.refl _) ⟨e10, pv F1, pv F1, pv F1, pv F1, pg⟩
    · obtain ⟨e10, h4_0, h4_1, h4_5, g4_0, n4_g⟩ := hp
      obtain rfl := sj e10
      try dsimp only at hs
      have n4_0 : ¬ (σ3.gen = 0) := by omega
      have F2 := an h4_0 (an h4_1 (an h4_5 (an g4_0 n4_0)))
      refine goR2 F2 ?_
      revert hs; refine bK fun o50 e49 hs => ?_
      refine awp_cutK (fun (v : Int) (σ : St) => some (v) = some o50 ∧ σ.env 7 = iV .i64 v ∧ (σ3.gen + 3) ≤ σ.gen) (by rfl) (fun Q hK51 hX52 => ?_) (fun i48 σ7 hp => ?_)
      · refine goR F2 ?_
        revert e49; refine bK fun o74 e73 e49 => ?_
        refine awp_loopW (fun (v : Nat × Int × Int × Int × Int × Int) (σ : St) => r01_bits_L1 a2 v.1 v.2.1 v.2.2.1 v.2.2.2.1 v.2.2.2.2.1 v.2.2.2.2.2 = some o74 ∧ σ.env 0 = iV .i64 v.2.1 ∧ σ.env 1 = iV .i64 v.2.2.1 ∧ σ.env 5 = .cell (.ref (.o 1 0 0) 0) ∧ σ.env 7 = iV .i64 v.2.2.2.1 ∧ σ.env 8 = iV .i64 v.2.2.2.2.1 ∧ σ.env 9 = iV .i64 v.2.2.2.2.2 ∧ σ.hp (.o 1 0 0) = some (.cells [nC (a2.f 0), nC (a2.f 1), nC (a2.f 2), nC (a2.f 3)]) ∧ (σ3.gen + 3) ≤ σ.gen) (fun v => v.1) _ (Gh.refl _) (fuelN, i2, i9, 0, 1, 0) ⟨e73, pv F2, pv F2, pv F2, pv F2, pv F2, pv F2, pv F2, pg⟩ fun v σ10 hp L75 hL76 => ?_
        obtain ⟨q78, i62, i63, i65, i66, i67⟩ := v
        dsimp only at hp hL76
        obtain ⟨e73, h9_0, h9_1, h9_5, h9_7, h9_8, h9_9, g9_0, n9_g⟩ := hp
        have n9_0 : ¬ (σ10.gen = 0) := by omega
        rcases q78 with _ | q79
        · rw [r01_bits_L1] at e73; cases e73
        · rw [r01_bits_L1] at e73; try dsimp only at e73
          have F3 := an h9_0 (an h9_1 (an h9_5 (an h9_7 (an h9_8 (an h9_9 (an g9_0 n9_0))))))
          refine goR F3 ?_
          revert e73; refine cS F3 ?_ ?_ <;> intro h83 e73
          · obtain ⟨g84, e73⟩ := guardO_some e73
            have g84a : 0 ≤ IntKind.i64.wrap (IntKind.i64.wrap (2 * Int.tmod i62 2) + Int.tmod i63 2) := (inB_t g84).1
            have g84b : IntKind.i64.wrap (IntKind.i64.wrap (2 * Int.tmod i62 2) + Int.tmod i63 2) < 4 := (inB_t g84).2.1
            have g84n : (IntKind.i64.wrap (IntKind.i64.wrap (2 * Int.tmod i62 2) + Int.tmod i63 2)).toNat < 4 :=  by simpa using (inB_t g84).2.2
            have f85 : ([nC (a2.f 0), nC (a2.f 1), nC (a2.f 2), nC (a2.f 3)] : List AC)[(IntKind.i64.wrap (IntKind.i64.wrap (2 * Int.tmod i62 2) + Int.tmod i63 2)).toNat]? = some (nC (a2.f ((IntKind.i64.wrap (IntKind.i64.wrap (2 * Int.tmod i62 2) + Int.tmod i63 2)).toNat))) := arr_read (n := 4) (fun j => (nC (a2.f j) : AC)) g84n
            have f85t := take_one f85
            have f85g := get_of f85
            have F4 := an F3 (an g84a (an g84b (an g84n (an f85 (an f85t f85g)))))
            refine goR F4 ?_
            exact hL76 (q79, IntKind.i64.wrap (Int.tdiv i62 2), IntKind.i64.wrap (Int.tdiv i63 2), IntKind.i64.wrap (i65 + IntKind.i64.wrap (i66 * (a2.f ((IntKind.i64.wrap (IntKind.i64.wrap (2 * Int.tmod i62 2) + Int.tmod i63 2)).toNat)))), IntKind.i64.wrap (2 * i66), IntKind.i64.wrap (i67 + 1)) _ _ (Gh.refl _) ⟨e73, pv F4, pv F4, pv F4, pv F4, pv F4, pv F4, pv F4, pg⟩ (by omega)
          · refine goR F3 ?_
            obtain rfl := sj e73
            try dsimp only at e49
            exact hK51 i65 _ _ (Gh.refl _) ⟨e49, pv F3, pg⟩
      · obtain ⟨e49, h8_7, n8_g⟩ := hp
        obtain rfl := sj e49
        try dsimp only at hs
        refine goR h8_7 ?_
        revert hs; refine bK fun y86 hx87 hs => ?_
        refine cP h8_7 (at_r01_Wrap hx87) ?_
        refine goR h8_7 ?_
        obtain rfl := sj hs
        exact hQ _ _ (rg h8_7 (Gh.refl _))
end Go.Dc
end
section
set_option linter.all false
namespace Go.Dc
open Go Go.Hw Go.Proofs
set_option maxRecDepth 100000

def r01_truth (a0 : Bool) : Option Int :=
  cond a0 (some 1) (some 0)

set_option maxHeartbeats 2000000 in
theorem at_r01_truth {a0 : Bool} {r : Int} (hs : r01_truth a0 = some r) : At Tryd.prog 103 [bV a0] (iV .i64 r) := by
  refine at_bound (by kernel_rfl) fun hb => ?_
  refine at_code mixed Tryd.func103 (by kernel_rfl) rfl (by kernel_rfl) rfl fun Q hQ => ?_
  rw [r01_truth] at hs
  refine goR f0 ?_
  revert hs; refine cS f0 ?_ ?_ <;> intro h1 hs
  · refine goR f0 ?_
    obtain rfl := sj hs
    exact hQ _ _ (rg f0 (Gh.refl _))
  · refine goR f0 ?_
    obtain rfl := sj hs
    exact hQ _ _ (rg f0 (Gh.refl _))
end Go.Dc
end
section
set_option linter.all false
namespace Go.Dc
open Go Go.Hw Go.Proofs
set_option maxRecDepth 100000

def r01_Apply (fuelN : Nat) (a0 : Int) (a1 : Int) (a2 : Int) : Option (Int × Int) :=
  Option.bind (r01_Wrap a1) (fun y1 => Option.bind (r01_Wrap a2) (fun y3 => cond (eqI a0 1) (Option.bind (r01_Wrap (IntKind.i64.wrap (y1 + y3))) (fun y6 => some (y6, 0))) (cond (eqI a0 2) (Option.bind (r01_Wrap (IntKind.i64.wrap (y1 - y3))) (fun y9 => some (y9, 0))) (cond (eqI a0 3) (Option.bind (r01_Wrap (IntKind.i64.wrap (y1 * y3))) (fun y12 => some (y12, 0))) (cond (eqI a0 4) (Option.bind (r01_bits fuelN y1 y3 (Arr.of 4 [0, 0, 0, 1])) (fun y15 => some (y15, 0))) (cond (eqI a0 5) (Option.bind (r01_bits fuelN y1 y3 (Arr.of 4 [0, 1, 1, 1])) (fun y18 => some (y18, 0))) (cond (eqI a0 6) (Option.bind (r01_bits fuelN y1 y3 (Arr.of 4 [0, 1, 1, 0])) (fun y21 => some (y21, 0))) (cond (eqI a0 7) (Option.bind (r01_truth (eqI y1 y3)) (fun y24 => some (y24, 0))) (cond (eqI a0 8) (Option.bind (r01_truth (!(eqI y1 y3))) (fun y27 => some (y27, 0))) (cond (eqI a0 9) (Option.bind (r01_truth (ltI y1 y3)) (fun y30 => some (y30, 0))) (cond (eqI a0 10) (Option.bind (r01_truth (!(ltI y3 y1))) (fun y33 => some (y33, 0))) (some (0, 8)))))))))))))

set_option maxHeartbeats 2000000 in
theorem at_r01_Apply {fuelN : Nat} {a0 : Int} {a1 : Int} {a2 : Int} {r : Int × Int} (hs : r01_Apply fuelN a0 a1 a2 = some r) : At Tryd.prog 71 [iV .i64 a0, iV .i64 a1, iV .i64 a2] (.tup [iV .i64 r.1, iV .i64 r.2]) := by
  refine at_bound (by kernel_rfl) fun hb => ?_
  refine at_code mixed Tryd.func71 (by kernel_rfl) rfl (by kernel_rfl) rfl fun Q hQ => ?_
  rw [r01_Apply] at hs
  refine goR f0 ?_
  revert hs; refine bK fun y1 hx2 hs => ?_
  refine cP f0 (at_r01_Wrap hx2) ?_
  refine goR f0 ?_
  revert hs; refine bK fun y3 hx4 hs => ?_
  refine cP f0 (at_r01_Wrap hx4) ?_
  refine goR f0 ?_
  revert hs; refine cS f0 ?_ ?_ <;> intro h5 hs
  · refine goR f0 ?_
    revert hs; refine bK fun y6 hx7 hs => ?_
    refine cP f0 (at_r01_Wrap hx7) ?_
    refine goR f0 ?_
    obtain rfl := sj hs
    exact hQ _ _ (rg f0 (Gh.refl _))
  · refine goR f0 ?_
    revert hs; refine cS f0 ?_ ?_ <;> intro h8 hs
    · refine goR f0 ?_
      revert hs; refine bK fun y9 hx10 hs => ?_
      refine cP f0 (at_r01_Wrap hx10) ?_
      refine goR f0 ?_
      obtain rfl := sj hs
      exact hQ _ _ (rg f0 (Gh.refl _))
    · refine goR f0 ?_
      revert hs; refine cS f0 ?_ ?_ <;> intro h11 hs
      · refine goR f0 ?_
        revert hs; refine bK fun y12 hx13 hs => ?_
        refine cP f0 (at_r01_Wrap hx13) ?_
        refine goR f0 ?_
        obtain rfl := sj hs
        exact hQ _ _ (rg f0 (Gh.refl _))
      · refine goR f0 ?_
        revert hs; refine cS f0 ?_ ?_ <;> intro h14 hs
        · refine goR f0 ?_
          revert hs; refine bK fun y15 hx16 hs => ?_
          refine cP f0 (at_r01_bits hx16) ?_
          refine goR f0 ?_
          obtain rfl := sj hs
          exact hQ _ _ (rg f0 (Gh.refl _))
        · refine goR f0 ?_
          revert hs; refine cS f0 ?_ ?_ <;> intro h17 hs
          · refine goR f0 ?_
            revert hs; refine bK fun y18 hx19 hs => ?_
            refine cP f0 (at_r01_bits hx19) ?_
            refine goR f0 ?_
            obtain rfl := sj hs
            exact hQ _ _ (rg f0 (Gh.refl _))
          · refine goR f0 ?_
            revert hs; refine cS f0 ?_ ?_ <;> intro h20 hs
            · refine goR f0 ?_
              revert hs; refine bK fun y21 hx22 hs => ?_
              refine cP f0 (at_r01_bits hx22) ?_
              refine goR f0 ?_
              obtain rfl := sj hs
              exact hQ _ _ (rg f0 (Gh.refl _))
            · refine goR f0 ?_
              revert hs; refine cS f0 ?_ ?_ <;> intro h23 hs
              · refine goR f0 ?_
                revert hs; refine bK fun y24 hx25 hs => ?_
                refine cP f0 (at_r01_truth hx25) ?_
                refine goR f0 ?_
                obtain rfl := sj hs
                exact hQ _ _ (rg f0 (Gh.refl _))
              · refine goR f0 ?_
                revert hs; refine cS f0 ?_ ?_ <;> intro h26 hs
                · refine goR f0 ?_
                  revert hs; refine bK fun y27 hx28 hs => ?_
                  refine cP f0 (at_r01_truth hx28) ?_
                  refine goR f0 ?_
                  obtain rfl := sj hs
                  exact hQ _ _ (rg f0 (Gh.refl _))
                · refine goR f0 ?_
                  revert hs; refine cS f0 ?_ ?_ <;> intro h29 hs
                  · refine goR f0 ?_
                    revert hs; refine bK fun y30 hx31 hs => ?_
                    refine cP f0 (at_r01_truth hx31) ?_
                    refine goR f0 ?_
                    obtain rfl := sj hs
                    exact hQ _ _ (rg f0 (Gh.refl _))
                  · refine goR f0 ?_
                    revert hs; refine cS f0 ?_ ?_ <;> intro h32 hs
                    · refine goR f0 ?_
                      revert hs; refine bK fun y33 hx34 hs => ?_
                      refine cP f0 (at_r01_truth hx34) ?_
                      refine goR f0 ?_
                      obtain rfl := sj hs
                      exact hQ _ _ (rg f0 (Gh.refl _))
                    · refine goR f0 ?_
                      obtain rfl := sj hs
                      exact hQ _ _ (rg f0 (Gh.refl _))
end Go.Dc
end
section
set_option linter.all false
namespace Go.Dc
open Go Go.Hw Go.Proofs
set_option maxRecDepth 100000

def law14_apply (fuelN : Nat) (a0 : Int) (a1 : Int) (a2 : Int) : Option Int :=
  Option.bind (r01_Apply fuelN a0 a1 a2) (fun y1 => some y1.1)

set_option maxHeartbeats 2000000 in
theorem at_law14_apply {fuelN : Nat} {a0 : Int} {a1 : Int} {a2 : Int} {r : Int} (hs : law14_apply fuelN a0 a1 a2 = some r) : At Tryd.prog 45 [iV .i64 a0, iV .i64 a1, iV .i64 a2] (iV .i64 r) := by
  refine at_bound (by kernel_rfl) fun hb => ?_
  refine at_code mixed Tryd.func45 (by kernel_rfl) rfl (by kernel_rfl) rfl fun Q hQ => ?_
  rw [law14_apply] at hs
  refine goR f0 ?_
  revert hs; refine bK fun y1 hx2 hs => ?_
  refine cP f0 (at_r01_Apply hx2) ?_
  refine goR f0 ?_
  obtain rfl := sj hs
  exact hQ _ _ (rg f0 (Gh.refl _))
end Go.Dc
end
section
set_option linter.all false
namespace Go.Dc
open Go Go.Hw Go.Proofs
set_option maxRecDepth 100000
def law14_AwaitPattern_L1 : Nat → Int → Int → Int → Int → Int → Int → Int → Int → Int → Option (Int × Int × Int × Int × Int × Int × Int × Int)
  | 0, _, _, _, _, _, _, _, _, _ => none
  | q145 + 1, i112, i113, i114, i115, i116, i117, i118, i119, i120 => cond (ltI i112 8) (guardO (inB i112 8) (Option.bind (r01_Wrap ((Arr.of 8 [i113, i114, i115, i116, i117, i118, i119, i120] : Arr 8 Int).f ((i112).toNat))) (fun y152 => guardO (inB i112 8) (Option.bind (some ((Arr.of 8 [i113, i114, i115, i116, i117, i118, i119, i120]).set ((i112).toNat) y152)) (fun r155 => law14_AwaitPattern_L1 q145 (IntKind.i64.wrap (i112 + 1)) (r155.f 0) (r155.f 1) (r155.f 2) (r155.f 3) (r155.f 4) (r155.f 5) (r155.f 6) (r155.f 7)))))) (some ((i113, i114, i115, i116, i117, i118, i119, i120)))

def law14_AwaitPattern_L2 (fuelN : Nat) (a0 : Program) (y7 : Int) (i78 : Int) (i79 : Int) (i80 : Int) (i81 : Int) (i82 : Int) (i83 : Int) (i84 : Int) (i85 : Int) (y160 : Program × Int) : List Spin → Nat → Option (Unit ⊕ Bool)
  | [], k644 => some (.inl ())
  | x771 :: q767, k644 => guardO (orB (!(!(orB (orB (orB (ltI x771.Func 0) (!(ltI x771.Func ((a0.Funcs.length : Nat) : Int)))) (ltI x771.First 0)) (!(eqI x771.Last (IntKind.i64.wrap (x771.First + 2))))))) (inB x771.Func a0.Funcs.length)) (guardO (orB (!(!(orB (orB (orB (orB (ltI x771.Func 0) (!(ltI x771.Func ((a0.Funcs.length : Nat) : Int)))) (ltI x771.First 0)) (!(eqI x771.Last (IntKind.i64.wrap (x771.First + 2))))) (!(ltI x771.Last ((((gd a0.Funcs ((x771.Func).toNat)).Code).length : Nat) : Int)))))) (inB x771.Func y160.1.Funcs.length)) (guardO (orB (!(!(orB (orB (orB (orB (ltI x771.Func 0) (!(ltI x771.Func ((a0.Funcs.length : Nat) : Int)))) (ltI x771.First 0)) (!(eqI x771.Last (IntKind.i64.wrap (x771.First + 2))))) (!(ltI x771.Last ((((gd a0.Funcs ((x771.Func).toNat)).Code).length : Nat) : Int)))))) (inB x771.Func a0.Funcs.length)) (cond (orB (orB (orB (orB (orB (ltI x771.Func 0) (!(ltI x771.Func ((a0.Funcs.length : Nat) : Int)))) (ltI x771.First 0)) (!(eqI x771.Last (IntKind.i64.wrap (x771.First + 2))))) (!(ltI x771.Last ((((gd a0.Funcs ((x771.Func).toNat)).Code).length : Nat) : Int)))) (!(eqI ((((gd y160.1.Funcs ((x771.Func).toNat)).Code).length : Nat) : Int) ((((gd a0.Funcs ((x771.Func).toNat)).Code).length : Nat) : Int)))) (some (.inr false)) (Option.bind (getI a0.Funcs x771.Func) (fun x800 => Option.bind (getI x800.Code x771.First) (fun x803 => Option.bind (getI x800.Code (IntKind.i64.wrap (x771.First + 1))) (fun x806 => Option.bind (getI x800.Code x771.Last) (fun x809 => Option.bind (getI y160.1.Funcs x771.Func) (fun x818 => Option.bind (getI x818.Code x771.First) (fun x821 => cond (orB (orB (orB (orB (orB (orB (orB (!(eqI x803.Op 8)) (!(eqI x806.Op 3))) (!(eqI x809.Op 5))) (!(eqI x809.N x771.First))) (!(eqI x821.Op 14))) (!(eqI x821.A x803.A))) (!(eqI x821.Obj x803.Obj))) (!(eqI x821.Order x803.Order))) (some (.inr false)) (guardO (inB x803.A 8) (Option.bind (some ((Arr.of 8 [i78, i79, i80, i81, i82, i83, i84, i85]).set ((x803.A).toNat) y7)) (fun r826 => guardO (inB x806.B 8) (guardO (inB x806.C 8) (Option.bind (law14_apply fuelN x806.Fn (r826.f ((x806.B).toNat)) (r826.f ((x806.C).toNat))) (fun y843 => guardO (inB x806.A 8) (Option.bind (some (r826.set ((x806.A).toNat) y843)) (fun r846 => guardO (inB x809.B 8) (guardO (inB x821.B 8) (Option.bind (law14_apply fuelN x821.Fn y7 ((Arr.of 8 [i78, i79, i80, i81, i82, i83, i84, i85] : Arr 8 Int).f ((x821.B).toNat))) (fun y857 => guardO (inB x821.A 8) (Option.bind (some ((Arr.of 8 [i78, i79, i80, i81, i82, i83, i84, i85]).set ((x821.A).toNat) y7)) (fun r860 => guardO (inB x806.B 8) (guardO (inB x806.C 8) (Option.bind (law14_apply fuelN x806.Fn (r860.f ((x806.B).toNat)) (r860.f ((x806.C).toNat))) (fun y877 => guardO (inB x806.A 8) (Option.bind (some (r860.set ((x806.A).toNat) y877)) (fun r880 => guardO (orB (!(andB (andB (!(eqB (!(eqI (r846.f ((x809.B).toNat)) 0)) (!(eqI y857 0)))) (eqI (r846.f ((x809.B).toNat)) 0)) (andB (eqI (r846.f 0) (r880.f 0)) (andB (eqI (r846.f 1) (r880.f 1)) (andB (eqI (r846.f 2) (r880.f 2)) (andB (eqI (r846.f 3) (r880.f 3)) (andB (eqI (r846.f 4) (r880.f 4)) (andB (eqI (r846.f 5) (r880.f 5)) (andB (eqI (r846.f 6) (r880.f 6)) (andB (eqI (r846.f 7) (r880.f 7)) true)))))))))) (inB x809.B 8)) (cond (orB (eqB (!(eqI (r846.f ((x809.B).toNat)) 0)) (!(eqI y857 0))) (andB (eqI (r846.f ((x809.B).toNat)) 0) (orB (!(andB (eqI (r846.f 0) (r880.f 0)) (andB (eqI (r846.f 1) (r880.f 1)) (andB (eqI (r846.f 2) (r880.f 2)) (andB (eqI (r846.f 3) (r880.f 3)) (andB (eqI (r846.f 4) (r880.f 4)) (andB (eqI (r846.f 5) (r880.f 5)) (andB (eqI (r846.f 6) (r880.f 6)) (andB (eqI (r846.f 7) (r880.f 7)) true))))))))) (!(eqI (r880.f ((x809.B).toNat)) 0))))) (some (.inr false)) (law14_AwaitPattern_L2 fuelN a0 y7 i78 i79 i80 i81 i82 i83 i84 i85 y160 q767 (k644 + 1)))))))))))))))))))))))))))))))

def law14_AwaitPattern (fuelN : Nat) (a0 : Program) (a1 : Arr 8 Int) (a2 : Int) : Option Bool :=
  Option.bind (r08_Small a0) (fun y1 => guardO (orB (!y1) ((r08_Valid fuelN a0).isSome)) (cond (orB (!y1) (!((r08_Valid fuelN a0).getD default))) (Option.bind (law14_lives fuelN) (fun y5 => some y5)) (Option.bind (r01_Wrap a2) (fun y7 => Option.bind (α := Int × Int × Int × Int × Int × Int × Int × Int) (Option.bind (law14_AwaitPattern_L1 fuelN 0 (a1.f 0) (a1.f 1) (a1.f 2) (a1.f 3) (a1.f 4) (a1.f 5) (a1.f 6) (a1.f 7)) (fun o => match o with | (i131, i132, i133, i134, i135, i136, i137, i138) => some ((i131, i132, i133, i134, i135, i136, i137, i138)))) (fun o => match o with | (i78, i79, i80, i81, i82, i83, i84, i85) => Option.bind (await_Find fuelN a0) (fun y158 => Option.bind (await_Rewrite fuelN a0) (fun y160 => cond (orB (orB (!(eqI y158.2 0)) (!(eqI y160.2 0))) (!(eqI ((y160.1.Funcs.length : Nat) : Int) ((a0.Funcs.length : Nat) : Int)))) (some false) (Option.bind (α := Unit ⊕ Bool) (guardO (lenB y158.1.length) (Option.bind (law14_AwaitPattern_L2 fuelN a0 y7 i78 i79 i80 i81 i82 i83 i84 i85 y160 y158.1 0) (fun o => match o with | .inl _ => some (.inl ()) | .inr r886 => some (.inr r886)))) (fun o => match o with | .inl _ => Option.bind (law14_lives fuelN) (fun y887 => some y887) | .inr r889 => some r889)))))))))

set_option maxHeartbeats 2000000 in
theorem at_law14_AwaitPattern {fuelN : Nat} {a0 : Program} {a1 : Arr 8 Int} {a2 : Int} {r : Bool} (hs : law14_AwaitPattern fuelN a0 a1 a2 = some r) : At Tryd.prog 11 [.agg (eA a0), .agg [nC (a1.f 0), nC (a1.f 1), nC (a1.f 2), nC (a1.f 3), nC (a1.f 4), nC (a1.f 5), nC (a1.f 6), nC (a1.f 7)], iV .i64 a2] (bV r) := by
  refine at_bound (by kernel_rfl) fun hb => ?_
  have hb1 : LenOk (.sl a0.Vars.length (encL a0.Vars)) := lkc hb
  have hb2 : LenOk (.sl a0.Mutexes.length (encL a0.Mutexes)) := lkc hb
  have hb3 : LenOk (.sl a0.Conds.length (encL a0.Conds)) := lkc hb
  have hb4 : LenOk (.sl a0.Funcs.length (encL a0.Funcs)) := lkc hb
  have hb5 : LenOk (.sl a0.Threads.length (encL a0.Threads)) := lkc hb
  refine at_code mixed Tryd.func11 (by kernel_rfl) rfl (by kernel_rfl) rfl fun Q hQ => ?_
  rw [law14_AwaitPattern] at hs
  refine goR f0 ?_
  revert hs; refine bK fun y1 hx2 hs => ?_
  refine cP f0 (at_r08_Small hx2) ?_
  refine goG f0 f0 ?_
  obtain ⟨g3, hs⟩ := guardO_some hs
  refine gsel_call (fun hg => at_r08_Valid (under_call g3 hg)) (fun hg => by (try simp at hg); (first | simp [hg, id]); try rfl) (fun hg => by (try simp at hg); simp [hg, id]) (by simp) ?_
  refine goG f0 f0 ?_
  revert hs; refine cS f0 ?_ ?_ <;> intro h4 hs
  · refine goG f0 f0 ?_
    revert hs; refine bK fun y5 hx6 hs => ?_
    refine cP f0 (at_law14_lives hx6) ?_
    refine goG f0 f0 ?_
    obtain rfl := sj hs
    exact hQ _ _ (rg f0 (Gh.refl _))
  · refine goG f0 f0 ?_
    revert hs; refine bK fun y7 hx8 hs => ?_
    refine cP f0 (at_r01_Wrap hx8) ?_
    refine goG2 f0 f0 ?_
    revert hs; refine bK fun o87 e86 hs => ?_
    refine awp_cutK (fun (v : Int × Int × Int × Int × Int × Int × Int × Int) (σ : St) => some (v) = some o87 ∧ σ.env 2 = iV .i64 y7 ∧ σ.env 3 = .cell (.ref (.o 1 0 0) 0) ∧ σ.env 4 = .cell (.ref (.o 1 1 0) 0) ∧ σ.hp (.o 1 0 0) = some (.cells (eA a0)) ∧ σ.hp (.o 1 1 0) = some (.cells [nC v.1, nC v.2.1, nC v.2.2.1, nC v.2.2.2.1, nC v.2.2.2.2.1, nC v.2.2.2.2.2.1, nC v.2.2.2.2.2.2.1, nC v.2.2.2.2.2.2.2]) ∧ 4 ≤ σ.gen) (by rfl) (fun Q hK88 hX89 => ?_) (fun v σ3 hp => ?_)
    · refine goG f0 f0 ?_
      revert e86; refine bK fun o140 e139 e86 => ?_
      refine awp_loopW (fun (v : Nat × Int × Int × Int × Int × Int × Int × Int × Int × Int) (σ : St) => law14_AwaitPattern_L1 v.1 v.2.1 v.2.2.1 v.2.2.2.1 v.2.2.2.2.1 v.2.2.2.2.2.1 v.2.2.2.2.2.2.1 v.2.2.2.2.2.2.2.1 v.2.2.2.2.2.2.2.2.1 v.2.2.2.2.2.2.2.2.2 = some o140 ∧ σ.env 2 = iV .i64 y7 ∧ σ.env 3 = .cell (.ref (.o 1 0 0) 0) ∧ σ.env 4 = .cell (.ref (.o 1 1 0) 0) ∧ σ.env 7 = iV .i64 v.2.1 ∧ σ.hp (.o 1 0 0) = some (.cells (eA a0)) ∧ σ.hp (.o 1 1 0) = some (.cells [nC v.2.2.1, nC v.2.2.2.1, nC v.2.2.2.2.1, nC v.2.2.2.2.2.1, nC v.2.2.2.2.2.2.1, nC v.2.2.2.2.2.2.2.1, nC v.2.2.2.2.2.2.2.2.1, nC v.2.2.2.2.2.2.2.2.2]) ∧ 4 ≤ σ.gen) (fun v => v.1) _ (Gh.refl _) (fuelN, 0, (a1.f 0), (a1.f 1), (a1.f 2), (a1.f 3), (a1.f 4), (a1.f 5), (a1.f 6), (a1.f 7)) ⟨e139, pv f0, pv f0, pv f0, pv f0, pv f0, pv f0, pg⟩ fun v σ6 hp L141 hL142 => ?_
      obtain ⟨q144, i112, i113, i114, i115, i116, i117, i118, i119, i120⟩ := v
      dsimp only at hp hL142
      obtain ⟨e139, h5_2, h5_3, h5_4, h5_7, g5_0, g5_1, n5_g⟩ := hp
      have n5_0 : ¬ (σ6.gen = 0) := by omega
      rcases q144 with _ | q145
      · rw [law14_AwaitPattern_L1] at e139; cases e139
      · rw [law14_AwaitPattern_L1] at e139; try dsimp only at e139
        have F1 := an h5_2 (an h5_3 (an h5_4 (an h5_7 (an g5_0 (an g5_1 n5_0)))))
        refine goR F1 ?_
        revert e139; refine cS F1 ?_ ?_ <;> intro h149 e139
        · obtain ⟨g150, e139⟩ := guardO_some e139
          have g150a : 0 ≤ i112 := (inB_t g150).1
          have g150b : i112 < 8 := (inB_t g150).2.1
          have g150n : (i112).toNat < 8 :=  by simpa using (inB_t g150).2.2
          have f151 : ([nC i113, nC i114, nC i115, nC i116, nC i117, nC i118, nC i119, nC i120] : List AC)[(i112).toNat]? = some (nC ((Arr.of 8 [i113, i114, i115, i116, i117, i118, i119, i120] : Arr 8 Int).f ((i112).toNat))) := arr_readL (n := 8) ([i113, i114, i115, i116, i117, i118, i119, i120] : List Int) (fun y => (nC y : AC)) g150n
          have f151t := take_one f151
          have f151g := get_of f151
          have F2 := an F1 (an g150a (an g150b (an g150n (an f151 (an f151t f151g)))))
          refine goR F2 ?_
          revert e139; refine bK fun y152 hx153 e139 => ?_
          refine cP F2 (at_r01_Wrap hx153) ?_
          obtain ⟨g154, e139⟩ := guardO_some e139
          have g154a : 0 ≤ i112 := (inB_t g154).1
          have g154b : i112 < 8 := (inB_t g154).2.1
          have g154n : (i112).toNat < 8 :=  by simpa using (inB_t g154).2.2
          revert e139; refine lK fun r155 hx156 e139 => ?_
          have f157 : ([nC i113, nC i114, nC i115, nC i116, nC i117, nC i118, nC i119, nC i120] : List AC).set ((i112).toNat) (nC y152) = [nC (r155.f 0), nC (r155.f 1), nC (r155.f 2), nC (r155.f 3), nC (r155.f 4), nC (r155.f 5), nC (r155.f 6), nC (r155.f 7)] := by rw [hx156]; exact arr_setL (n := 8) (fun y => (nC y : AC)) (Arr.of 8 [i113, i114, i115, i116, i117, i118, i119, i120]) ((i112).toNat) y152
          have F3 := an F2 (an g154a (an g154b (an g154n f157)))
          refine goR F3 ?_
          exact hL142 (q145, IntKind.i64.wrap (i112 + 1), (r155.f 0), (r155.f 1), (r155.f 2), (r155.f 3), (r155.f 4), (r155.f 5), (r155.f 6), (r155.f 7)) _ _ (Gh.refl _) ⟨e139, pv F3, pv F3, pv F3, pv F3, pv F3, pv F3, pg⟩ (by omega)
        · refine goR F1 ?_
          obtain rfl := sj e139
          try dsimp only at e86
          exact hK88 (i113, i114, i115, i116, i117, i118, i119, i120) _ _ (Gh.refl _) ⟨e86, pv F1, pv F1, pv F1, pv F1, pv F1, pg⟩
    · obtain ⟨i78, i79, i80, i81, i82, i83, i84, i85⟩ := v
      dsimp only at hp
      obtain ⟨e86, h4_2, h4_3, h4_4, g4_0, g4_1, n4_g⟩ := hp
      obtain rfl := sj e86
      try dsimp only at hs
      have n4_0 : ¬ (σ3.gen = 0) := by omega
      have F4 := an h4_2 (an h4_3 (an h4_4 (an g4_0 (an g4_1 n4_0))))
      refine goG F4 F4 ?_
      revert hs; refine bK fun y158 hx159 hs => ?_
      refine cP F4 (at_await_Find hx159) ?_
      refine goG F4 F4 ?_
      revert hs; refine bK fun y160 hx161 hs => ?_
      refine cP F4 (at_await_Rewrite hx161) ?_
      refine goG F4 F4 ?_
      revert hs; refine cS F4 ?_ ?_ <;> intro h162 hs
      · refine goG F4 F4 ?_
        obtain rfl := sj hs
        exact hQ _ _ (rg F4 (Gh.refl _))
      · refine goG2 F4 F4 ?_
        revert hs; refine bK fun o524 e523 hs => ?_
        refine awp_cutK (fun (v : Unit) (σ : St) => some (.inl v) = some o524 ∧ (σ3.gen + 4) ≤ σ.gen) (by rfl) (fun Q hK525 hX526 => ?_) (fun v σ9 hp => ?_)
        · refine goG F4 F4 ?_
          obtain ⟨hb772, e523⟩ := guardO_some e523
          revert e523; refine bK fun o762 e761 e523 => ?_
          refine awp_loopW (fun (v : (List Spin) × Nat) (σ : St) => law14_AwaitPattern_L2 fuelN a0 y7 i78 i79 i80 i81 i82 i83 i84 i85 y160 v.1 v.2 = some o762 ∧ v.1 = y158.1.drop v.2 ∧ σ.env 2 = iV .i64 y7 ∧ σ.env 3 = .cell (.ref (.o 1 0 0) 0) ∧ σ.env 4 = .cell (.ref (.o 1 1 0) 0) ∧ σ.env 8 = .cell (sC y158.1) ∧ σ.env 10 = .cell (.ref (.o (σ3.gen + 2) 5 0) 0) ∧ σ.env 12 = iV .i64 ((v.2 : Nat) : Int) ∧ σ.hp (.o 1 0 0) = some (.cells (eA a0)) ∧ σ.hp (.o 1 1 0) = some (.cells [nC i78, nC i79, nC i80, nC i81, nC i82, nC i83, nC i84, nC i85]) ∧ σ.hp (.o (σ3.gen + 2) 5 0) = some (.cells (eA y160.1)) ∧ (σ3.gen + 4) ≤ σ.gen) (fun v => v.1.length) _ (Gh.refl _) (y158.1, 0) ⟨e761, by simp, pv F4, pv F4, pv F4, pv F4, pv F4, pv F4, pv F4, pv F4, pv F4, pg⟩ fun v σ12 hp L763 hL764 => ?_
          obtain ⟨q766, k644⟩ := v
          dsimp only at hp hL764
          obtain ⟨e761, hd765, h11_2, h11_3, h11_4, h11_8, h11_10, h11_12, g11_0, g11_1, g11_2, n11_g⟩ := hp
          have n11_0 : ¬ (σ12.gen = 0) := by omega
          have n11_σ3gen_0 : ¬ (σ12.gen = σ3.gen) := by omega
          have n11_σ3gen_0' : ¬ (σ3.gen = σ12.gen) := by omega
          have n11_σ3gen_1 : ¬ (σ12.gen = σ3.gen + 1) := by omega
          have n11_σ3gen_1' : ¬ (σ3.gen + 1 = σ12.gen) := by omega
          have n11_σ3gen_2 : ¬ (σ12.gen = σ3.gen + 2) := by omega
          have n11_σ3gen_2' : ¬ (σ3.gen + 2 = σ12.gen) := by omega
          have n11_σ3gen_a : ∀ j, ¬ (σ12.gen + j = σ3.gen) := fun j => by omega
          have n11_σ3gen_a' : ∀ j, ¬ (σ3.gen = σ12.gen + j) := fun j => by omega
          rcases q766 with _ | ⟨x771, q767⟩
          · have hlt768 := drop_end hd765
            rw [law14_AwaitPattern_L2] at e761; try dsimp only at e761
            have F5 := an h11_2 (an h11_3 (an h11_4 (an h11_8 (an h11_10 (an h11_12 (an g11_0 (an g11_1 (an g11_2 (an n11_0 (an n11_σ3gen_0 (an n11_σ3gen_0' (an n11_σ3gen_1 (an n11_σ3gen_1' (an n11_σ3gen_2 (an n11_σ3gen_2' (an n11_σ3gen_a n11_σ3gen_a'))))))))))))))))
            refine goR F5 ?_
            refine condK_f (by simp [ltI]; omega) ?_
            obtain rfl := sj e761
            try dsimp only at e523
            exact hK525 () _ _ (Gh.refl _) ⟨e523, pg⟩
          · obtain ⟨hx770, hlt768, hd773⟩ := drop_next hd765
            have ew769 := wrap_succG hlt768 hb772
            rw [law14_AwaitPattern_L2] at e761; try dsimp only at e761
            have F6 := an h11_2 (an h11_3 (an h11_4 (an h11_8 (an h11_10 (an h11_12 (an g11_0 (an g11_1 (an g11_2 (an n11_0 (an n11_σ3gen_0 (an n11_σ3gen_0' (an n11_σ3gen_1 (an n11_σ3gen_1' (an n11_σ3gen_2 (an n11_σ3gen_2' (an n11_σ3gen_a (an n11_σ3gen_a' (an hlt768 ew769))))))))))))))))))
            refine goR F6 ?_
            refine condK_t (by simp [ltI]; omega) ?_
            have f774 : partCV Tryd.prog 66 (encL y158.1) (k644 * 3) = some (.agg (eA x771)) := partCV_enc hx770 (f := 0) (by simp)
            obtain ⟨g781, e761⟩ := guardO_some e761
            have g781a : (!(orB (orB (orB (ltI x771.Func 0) (!(ltI x771.Func ((a0.Funcs.length : Nat) : Int)))) (ltI x771.First 0)) (!(eqI x771.Last (IntKind.i64.wrap (x771.First + 2)))))) = true → 0 ≤ x771.Func := fun hg => (under_elem g781 hg).1
            have g781b : (!(orB (orB (orB (ltI x771.Func 0) (!(ltI x771.Func ((a0.Funcs.length : Nat) : Int)))) (ltI x771.First 0)) (!(eqI x771.Last (IntKind.i64.wrap (x771.First + 2)))))) = true → x771.Func < (a0.Funcs.length : Int) := fun hg => (under_elem g781 hg).2.1
            have g781n : (!(orB (orB (orB (ltI x771.Func 0) (!(ltI x771.Func ((a0.Funcs.length : Nat) : Int)))) (ltI x771.First 0)) (!(eqI x771.Last (IntKind.i64.wrap (x771.First + 2)))))) = true → (x771.Func).toNat < a0.Funcs.length := fun hg => by simpa using (under_elem g781 hg).2.2.1
            have g781c : (!(orB (orB (orB (ltI x771.Func 0) (!(ltI x771.Func ((a0.Funcs.length : Nat) : Int)))) (ltI x771.First 0)) (!(eqI x771.Last (IntKind.i64.wrap (x771.First + 2)))))) = true → a0.Funcs[(x771.Func).toNat]? = some (gd a0.Funcs ((x771.Func).toNat)) := fun hg => by simpa using (under_elem g781 hg).2.2.2
            have f782 : (!(orB (orB (orB (ltI x771.Func 0) (!(ltI x771.Func ((a0.Funcs.length : Nat) : Int)))) (ltI x771.First 0)) (!(eqI x771.Last (IntKind.i64.wrap (x771.First + 2)))))) = true → partCV Tryd.prog 22 (encL a0.Funcs) (((x771.Func).toNat) * 2 + 1) = some (.cell (sC ((gd a0.Funcs ((x771.Func).toNat)).Code))) := fun hg => partCV_enc (g781c hg) (f := 1) (by simp)
            obtain ⟨g783, e761⟩ := guardO_some e761
            have g783a : (!(orB (orB (orB (orB (ltI x771.Func 0) (!(ltI x771.Func ((a0.Funcs.length : Nat) : Int)))) (ltI x771.First 0)) (!(eqI x771.Last (IntKind.i64.wrap (x771.First + 2))))) (!(ltI x771.Last ((((gd a0.Funcs ((x771.Func).toNat)).Code).length : Nat) : Int))))) = true → 0 ≤ x771.Func := fun hg => (under_elem g783 hg).1
            have g783b : (!(orB (orB (orB (orB (ltI x771.Func 0) (!(ltI x771.Func ((a0.Funcs.length : Nat) : Int)))) (ltI x771.First 0)) (!(eqI x771.Last (IntKind.i64.wrap (x771.First + 2))))) (!(ltI x771.Last ((((gd a0.Funcs ((x771.Func).toNat)).Code).length : Nat) : Int))))) = true → x771.Func < (y160.1.Funcs.length : Int) := fun hg => (under_elem g783 hg).2.1
            have g783n : (!(orB (orB (orB (orB (ltI x771.Func 0) (!(ltI x771.Func ((a0.Funcs.length : Nat) : Int)))) (ltI x771.First 0)) (!(eqI x771.Last (IntKind.i64.wrap (x771.First + 2))))) (!(ltI x771.Last ((((gd a0.Funcs ((x771.Func).toNat)).Code).length : Nat) : Int))))) = true → (x771.Func).toNat < y160.1.Funcs.length := fun hg => by simpa using (under_elem g783 hg).2.2.1
            have g783c : (!(orB (orB (orB (orB (ltI x771.Func 0) (!(ltI x771.Func ((a0.Funcs.length : Nat) : Int)))) (ltI x771.First 0)) (!(eqI x771.Last (IntKind.i64.wrap (x771.First + 2))))) (!(ltI x771.Last ((((gd a0.Funcs ((x771.Func).toNat)).Code).length : Nat) : Int))))) = true → y160.1.Funcs[(x771.Func).toNat]? = some (gd y160.1.Funcs ((x771.Func).toNat)) := fun hg => by simpa using (under_elem g783 hg).2.2.2
            have f784 : (!(orB (orB (orB (orB (ltI x771.Func 0) (!(ltI x771.Func ((a0.Funcs.length : Nat) : Int)))) (ltI x771.First 0)) (!(eqI x771.Last (IntKind.i64.wrap (x771.First + 2))))) (!(ltI x771.Last ((((gd a0.Funcs ((x771.Func).toNat)).Code).length : Nat) : Int))))) = true → partCV Tryd.prog 22 (encL y160.1.Funcs) (((x771.Func).toNat) * 2 + 1) = some (.cell (sC ((gd y160.1.Funcs ((x771.Func).toNat)).Code))) := fun hg => partCV_enc (g783c hg) (f := 1) (by simp)
            obtain ⟨g785, e761⟩ := guardO_some e761
            have g785a : (!(orB (orB (orB (orB (ltI x771.Func 0) (!(ltI x771.Func ((a0.Funcs.length : Nat) : Int)))) (ltI x771.First 0)) (!(eqI x771.Last (IntKind.i64.wrap (x771.First + 2))))) (!(ltI x771.Last ((((gd a0.Funcs ((x771.Func).toNat)).Code).length : Nat) : Int))))) = true → 0 ≤ x771.Func := fun hg => (under_elem g785 hg).1
            have g785b : (!(orB (orB (orB (orB (ltI x771.Func 0) (!(ltI x771.Func ((a0.Funcs.length : Nat) : Int)))) (ltI x771.First 0)) (!(eqI x771.Last (IntKind.i64.wrap (x771.First + 2))))) (!(ltI x771.Last ((((gd a0.Funcs ((x771.Func).toNat)).Code).length : Nat) : Int))))) = true → x771.Func < (a0.Funcs.length : Int) := fun hg => (under_elem g785 hg).2.1
            have g785n : (!(orB (orB (orB (orB (ltI x771.Func 0) (!(ltI x771.Func ((a0.Funcs.length : Nat) : Int)))) (ltI x771.First 0)) (!(eqI x771.Last (IntKind.i64.wrap (x771.First + 2))))) (!(ltI x771.Last ((((gd a0.Funcs ((x771.Func).toNat)).Code).length : Nat) : Int))))) = true → (x771.Func).toNat < a0.Funcs.length := fun hg => by simpa using (under_elem g785 hg).2.2.1
            have g785c : (!(orB (orB (orB (orB (ltI x771.Func 0) (!(ltI x771.Func ((a0.Funcs.length : Nat) : Int)))) (ltI x771.First 0)) (!(eqI x771.Last (IntKind.i64.wrap (x771.First + 2))))) (!(ltI x771.Last ((((gd a0.Funcs ((x771.Func).toNat)).Code).length : Nat) : Int))))) = true → a0.Funcs[(x771.Func).toNat]? = some (gd a0.Funcs ((x771.Func).toNat)) := fun hg => by simpa using (under_elem g785 hg).2.2.2
            have f786 : (!(orB (orB (orB (orB (ltI x771.Func 0) (!(ltI x771.Func ((a0.Funcs.length : Nat) : Int)))) (ltI x771.First 0)) (!(eqI x771.Last (IntKind.i64.wrap (x771.First + 2))))) (!(ltI x771.Last ((((gd a0.Funcs ((x771.Func).toNat)).Code).length : Nat) : Int))))) = true → partCV Tryd.prog 22 (encL a0.Funcs) (((x771.Func).toNat) * 2 + 1) = some (.cell (sC ((gd a0.Funcs ((x771.Func).toNat)).Code))) := fun hg => partCV_enc (g785c hg) (f := 1) (by simp)
            have F7 := an F6 (an f774 (an g781a (an g781b (an g781n (an f782 (an g783a (an g783b (an g783n (an f784 (an g785a (an g785b (an g785n f786))))))))))))
            refine goE F7 F7 ?_
            revert e761; refine cS F7 ?_ ?_ <;> intro h787 e761
            · refine goE F7 F7 ?_
              obtain rfl := sj e761
              try dsimp only at e523
              obtain rfl := sj e523
              try dsimp only at hs
              refine hX526 _ _ (by simp) ?_
              refine goE F7 F7 ?_
              obtain rfl := sj hs
              exact hQ _ _ (rg F7 (Gh.refl _))
            · revert e761; refine bK fun x800 hx801 e761 => ?_
              obtain ⟨hx801a, hx801b, hx801c, hx801d⟩ := getI_some hx801
              have f802 : partCV Tryd.prog 22 (encL a0.Funcs) (((x771.Func).toNat) * 2 + 1) = some (.cell (sC x800.Code)) := partCV_enc hx801d (f := 1) (by simp)
              revert e761; refine bK fun x803 hx804 e761 => ?_
              obtain ⟨hx804a, hx804b, hx804c, hx804d⟩ := getI_some hx804
              have f805 : partCV Tryd.prog 71 (encL x800.Code) (((x771.First).toNat) * 8) = some (.agg (eA x803)) := partCV_enc hx804d (f := 0) (by simp)
              revert e761; refine bK fun x806 hx807 e761 => ?_
              obtain ⟨hx807a, hx807b, hx807c, hx807d⟩ := getI_some hx807
              have f808 : partCV Tryd.prog 71 (encL x800.Code) (((IntKind.i64.wrap (x771.First + 1)).toNat) * 8) = some (.agg (eA x806)) := partCV_enc hx807d (f := 0) (by simp)
              revert e761; refine bK fun x809 hx810 e761 => ?_
              obtain ⟨hx810a, hx810b, hx810c, hx810d⟩ := getI_some hx810
              have f811 : partCV Tryd.prog 71 (encL x800.Code) (((x771.Last).toNat) * 8) = some (.agg (eA x809)) := partCV_enc hx810d (f := 0) (by simp)
              revert e761; refine bK fun x818 hx819 e761 => ?_
              obtain ⟨hx819a, hx819b, hx819c, hx819d⟩ := getI_some hx819
              have f820 : partCV Tryd.prog 22 (encL y160.1.Funcs) (((x771.Func).toNat) * 2 + 1) = some (.cell (sC x818.Code)) := partCV_enc hx819d (f := 1) (by simp)
              revert e761; refine bK fun x821 hx822 e761 => ?_
              obtain ⟨hx822a, hx822b, hx822c, hx822d⟩ := getI_some hx822
              have f823 : partCV Tryd.prog 71 (encL x818.Code) (((x771.First).toNat) * 8) = some (.agg (eA x821)) := partCV_enc hx822d (f := 0) (by simp)
              have F8 := an F7 (an f802 (an f805 (an f808 (an f811 (an f820 f823)))))
              have F9 := an F8 (an hx801a (an hx801b (an hx804a (an hx804b (an hx807a (an hx807b (an hx810a (an hx810b (an hx819a (an hx819b (an hx822a hx822b)))))))))))
              refine goE F8 F9 ?_
              revert e761; refine cS F8 ?_ ?_ <;> intro h824 e761
              · refine goE F8 F9 ?_
                obtain rfl := sj e761
                try dsimp only at e523
                obtain rfl := sj e523
                try dsimp only at hs
                refine hX526 _ _ (by simp) ?_
                refine goE F8 F9 ?_
                obtain rfl := sj hs
                exact hQ _ _ (rg F8 (Gh.refl _))
              · obtain ⟨g825, e761⟩ := guardO_some e761
                have g825a : 0 ≤ x803.A := (inB_t g825).1
                have g825b : x803.A < 8 := (inB_t g825).2.1
                have g825n : (x803.A).toNat < 8 :=  by simpa using (inB_t g825).2.2
                revert e761; refine lK fun r826 hx827 e761 => ?_
                have f828 : ([nC i78, nC i79, nC i80, nC i81, nC i82, nC i83, nC i84, nC i85] : List AC).set ((x803.A).toNat) (nC y7) = [nC (r826.f 0), nC (r826.f 1), nC (r826.f 2), nC (r826.f 3), nC (r826.f 4), nC (r826.f 5), nC (r826.f 6), nC (r826.f 7)] := by rw [hx827]; exact arr_setL (n := 8) (fun y => (nC y : AC)) (Arr.of 8 [i78, i79, i80, i81, i82, i83, i84, i85]) ((x803.A).toNat) y7
                obtain ⟨g839, e761⟩ := guardO_some e761
                have g839a : 0 ≤ x806.B := (inB_t g839).1
                have g839b : x806.B < 8 := (inB_t g839).2.1
                have g839n : (x806.B).toNat < 8 :=  by simpa using (inB_t g839).2.2
                have f840 : ([nC (r826.f 0), nC (r826.f 1), nC (r826.f 2), nC (r826.f 3), nC (r826.f 4), nC (r826.f 5), nC (r826.f 6), nC (r826.f 7)] : List AC)[(x806.B).toNat]? = some (nC (r826.f ((x806.B).toNat))) := arr_read (n := 8) (fun j => (nC (r826.f j) : AC)) g839n
                have f840t := take_one f840
                have f840g := get_of f840
                obtain ⟨g841, e761⟩ := guardO_some e761
                have g841a : 0 ≤ x806.C := (inB_t g841).1
                have g841b : x806.C < 8 := (inB_t g841).2.1
                have g841n : (x806.C).toNat < 8 :=  by simpa using (inB_t g841).2.2
                have f842 : ([nC (r826.f 0), nC (r826.f 1), nC (r826.f 2), nC (r826.f 3), nC (r826.f 4), nC (r826.f 5), nC (r826.f 6), nC (r826.f 7)] : List AC)[(x806.C).toNat]? = some (nC (r826.f ((x806.C).toNat))) := arr_read (n := 8) (fun j => (nC (r826.f j) : AC)) g841n
                have f842t := take_one f842
                have f842g := get_of f842
                have F10 := an F8 (an g825a (an g825b (an g825n (an f828 (an g839a (an g839b (an g839n (an f840 (an f840t (an f840g (an g841a (an g841b (an g841n (an f842 (an f842t f842g)))))))))))))))
                have F11 := an F10 (an hx801a (an hx801b (an hx804a (an hx804b (an hx807a (an hx807b (an hx810a (an hx810b (an hx819a (an hx819b (an hx822a hx822b)))))))))))
                refine goE F10 F11 ?_
                revert e761; refine bK fun y843 hx844 e761 => ?_
                refine cP F10 (at_law14_apply hx844) ?_
                obtain ⟨g845, e761⟩ := guardO_some e761
                have g845a : 0 ≤ x806.A := (inB_t g845).1
                have g845b : x806.A < 8 := (inB_t g845).2.1
                have g845n : (x806.A).toNat < 8 :=  by simpa using (inB_t g845).2.2
                revert e761; refine lK fun r846 hx847 e761 => ?_
                have f848 : ([nC (r826.f 0), nC (r826.f 1), nC (r826.f 2), nC (r826.f 3), nC (r826.f 4), nC (r826.f 5), nC (r826.f 6), nC (r826.f 7)] : List AC).set ((x806.A).toNat) (nC y843) = [nC (r846.f 0), nC (r846.f 1), nC (r846.f 2), nC (r846.f 3), nC (r846.f 4), nC (r846.f 5), nC (r846.f 6), nC (r846.f 7)] := by rw [hx847]; exact arr_setL (n := 8) (fun y => (nC y : AC)) r826 ((x806.A).toNat) y843
                obtain ⟨g849, e761⟩ := guardO_some e761
                have g849a : 0 ≤ x809.B := (inB_t g849).1
                have g849b : x809.B < 8 := (inB_t g849).2.1
                have g849n : (x809.B).toNat < 8 :=  by simpa using (inB_t g849).2.2
                have f850 : ([nC (r846.f 0), nC (r846.f 1), nC (r846.f 2), nC (r846.f 3), nC (r846.f 4), nC (r846.f 5), nC (r846.f 6), nC (r846.f 7)] : List AC)[(x809.B).toNat]? = some (nC (r846.f ((x809.B).toNat))) := arr_read (n := 8) (fun j => (nC (r846.f j) : AC)) g849n
                have f850t := take_one f850
                have f850g := get_of f850
                obtain ⟨g855, e761⟩ := guardO_some e761
                have g855a : 0 ≤ x821.B := (inB_t g855).1
                have g855b : x821.B < 8 := (inB_t g855).2.1
                have g855n : (x821.B).toNat < 8 :=  by simpa using (inB_t g855).2.2
                have f856 : ([nC i78, nC i79, nC i80, nC i81, nC i82, nC i83, nC i84, nC i85] : List AC)[(x821.B).toNat]? = some (nC ((Arr.of 8 [i78, i79, i80, i81, i82, i83, i84, i85] : Arr 8 Int).f ((x821.B).toNat))) := arr_readL (n := 8) ([i78, i79, i80, i81, i82, i83, i84, i85] : List Int) (fun y => (nC y : AC)) g855n
                have f856t := take_one f856
                have f856g := get_of f856
                have F12 := an F10 (an g845a (an g845b (an g845n (an f848 (an g849a (an g849b (an g849n (an f850 (an f850t (an f850g (an g855a (an g855b (an g855n (an f856 (an f856t f856g)))))))))))))))
                have F13 := an F12 (an hx801a (an hx801b (an hx804a (an hx804b (an hx807a (an hx807b (an hx810a (an hx810b (an hx819a (an hx819b (an hx822a hx822b)))))))))))
                refine goE F12 F13 ?_
                revert e761; refine bK fun y857 hx858 e761 => ?_
                refine cP F12 (at_law14_apply hx858) ?_
                obtain ⟨g859, e761⟩ := guardO_some e761
                have g859a : 0 ≤ x821.A := (inB_t g859).1
                have g859b : x821.A < 8 := (inB_t g859).2.1
                have g859n : (x821.A).toNat < 8 :=  by simpa using (inB_t g859).2.2
                revert e761; refine lK fun r860 hx861 e761 => ?_
                have f862 : ([nC i78, nC i79, nC i80, nC i81, nC i82, nC i83, nC i84, nC i85] : List AC).set ((x821.A).toNat) (nC y7) = [nC (r860.f 0), nC (r860.f 1), nC (r860.f 2), nC (r860.f 3), nC (r860.f 4), nC (r860.f 5), nC (r860.f 6), nC (r860.f 7)] := by rw [hx861]; exact arr_setL (n := 8) (fun y => (nC y : AC)) (Arr.of 8 [i78, i79, i80, i81, i82, i83, i84, i85]) ((x821.A).toNat) y7
                obtain ⟨g873, e761⟩ := guardO_some e761
                have g873a : 0 ≤ x806.B := (inB_t g873).1
                have g873b : x806.B < 8 := (inB_t g873).2.1
                have g873n : (x806.B).toNat < 8 :=  by simpa using (inB_t g873).2.2
                have f874 : ([nC (r860.f 0), nC (r860.f 1), nC (r860.f 2), nC (r860.f 3), nC (r860.f 4), nC (r860.f 5), nC (r860.f 6), nC (r860.f 7)] : List AC)[(x806.B).toNat]? = some (nC (r860.f ((x806.B).toNat))) := arr_read (n := 8) (fun j => (nC (r860.f j) : AC)) g873n
                have f874t := take_one f874
                have f874g := get_of f874
                obtain ⟨g875, e761⟩ := guardO_some e761
                have g875a : 0 ≤ x806.C := (inB_t g875).1
                have g875b : x806.C < 8 := (inB_t g875).2.1
                have g875n : (x806.C).toNat < 8 :=  by simpa using (inB_t g875).2.2
                have f876 : ([nC (r860.f 0), nC (r860.f 1), nC (r860.f 2), nC (r860.f 3), nC (r860.f 4), nC (r860.f 5), nC (r860.f 6), nC (r860.f 7)] : List AC)[(x806.C).toNat]? = some (nC (r860.f ((x806.C).toNat))) := arr_read (n := 8) (fun j => (nC (r860.f j) : AC)) g875n
                have f876t := take_one f876
                have f876g := get_of f876
                have F14 := an F12 (an g859a (an g859b (an g859n (an f862 (an g873a (an g873b (an g873n (an f874 (an f874t (an f874g (an g875a (an g875b (an g875n (an f876 (an f876t f876g)))))))))))))))
                have F15 := an F14 (an hx801a (an hx801b (an hx804a (an hx804b (an hx807a (an hx807b (an hx810a (an hx810b (an hx819a (an hx819b (an hx822a hx822b)))))))))))
                refine goE F14 F15 ?_
                revert e761; refine bK fun y877 hx878 e761 => ?_
                refine cP F14 (at_law14_apply hx878) ?_
                obtain ⟨g879, e761⟩ := guardO_some e761
                have g879a : 0 ≤ x806.A := (inB_t g879).1
                have g879b : x806.A < 8 := (inB_t g879).2.1
                have g879n : (x806.A).toNat < 8 :=  by simpa using (inB_t g879).2.2
                revert e761; refine lK fun r880 hx881 e761 => ?_
                have f882 : ([nC (r860.f 0), nC (r860.f 1), nC (r860.f 2), nC (r860.f 3), nC (r860.f 4), nC (r860.f 5), nC (r860.f 6), nC (r860.f 7)] : List AC).set ((x806.A).toNat) (nC y877) = [nC (r880.f 0), nC (r880.f 1), nC (r880.f 2), nC (r880.f 3), nC (r880.f 4), nC (r880.f 5), nC (r880.f 6), nC (r880.f 7)] := by rw [hx881]; exact arr_setL (n := 8) (fun y => (nC y : AC)) r860 ((x806.A).toNat) y877
                obtain ⟨g883, e761⟩ := guardO_some e761
                have g883a : (andB (andB (!(eqB (!(eqI (r846.f ((x809.B).toNat)) 0)) (!(eqI y857 0)))) (eqI (r846.f ((x809.B).toNat)) 0)) (andB (eqI (r846.f 0) (r880.f 0)) (andB (eqI (r846.f 1) (r880.f 1)) (andB (eqI (r846.f 2) (r880.f 2)) (andB (eqI (r846.f 3) (r880.f 3)) (andB (eqI (r846.f 4) (r880.f 4)) (andB (eqI (r846.f 5) (r880.f 5)) (andB (eqI (r846.f 6) (r880.f 6)) (andB (eqI (r846.f 7) (r880.f 7)) true))))))))) = true → 0 ≤ x809.B := fun hg => (inB_u g883 hg).1
                have g883b : (andB (andB (!(eqB (!(eqI (r846.f ((x809.B).toNat)) 0)) (!(eqI y857 0)))) (eqI (r846.f ((x809.B).toNat)) 0)) (andB (eqI (r846.f 0) (r880.f 0)) (andB (eqI (r846.f 1) (r880.f 1)) (andB (eqI (r846.f 2) (r880.f 2)) (andB (eqI (r846.f 3) (r880.f 3)) (andB (eqI (r846.f 4) (r880.f 4)) (andB (eqI (r846.f 5) (r880.f 5)) (andB (eqI (r846.f 6) (r880.f 6)) (andB (eqI (r846.f 7) (r880.f 7)) true))))))))) = true → x809.B < 8 := fun hg => (inB_u g883 hg).2.1
                have g883n : (andB (andB (!(eqB (!(eqI (r846.f ((x809.B).toNat)) 0)) (!(eqI y857 0)))) (eqI (r846.f ((x809.B).toNat)) 0)) (andB (eqI (r846.f 0) (r880.f 0)) (andB (eqI (r846.f 1) (r880.f 1)) (andB (eqI (r846.f 2) (r880.f 2)) (andB (eqI (r846.f 3) (r880.f 3)) (andB (eqI (r846.f 4) (r880.f 4)) (andB (eqI (r846.f 5) (r880.f 5)) (andB (eqI (r846.f 6) (r880.f 6)) (andB (eqI (r846.f 7) (r880.f 7)) true))))))))) = true → (x809.B).toNat < 8 := fun hg =>  by simpa using (inB_u g883 hg).2.2
                have f884 : (andB (andB (!(eqB (!(eqI (r846.f ((x809.B).toNat)) 0)) (!(eqI y857 0)))) (eqI (r846.f ((x809.B).toNat)) 0)) (andB (eqI (r846.f 0) (r880.f 0)) (andB (eqI (r846.f 1) (r880.f 1)) (andB (eqI (r846.f 2) (r880.f 2)) (andB (eqI (r846.f 3) (r880.f 3)) (andB (eqI (r846.f 4) (r880.f 4)) (andB (eqI (r846.f 5) (r880.f 5)) (andB (eqI (r846.f 6) (r880.f 6)) (andB (eqI (r846.f 7) (r880.f 7)) true))))))))) = true → ([nC (r880.f 0), nC (r880.f 1), nC (r880.f 2), nC (r880.f 3), nC (r880.f 4), nC (r880.f 5), nC (r880.f 6), nC (r880.f 7)] : List AC)[(x809.B).toNat]? = some (nC (r880.f ((x809.B).toNat))) := fun hg => arr_read (n := 8) (fun j => (nC (r880.f j) : AC)) (g883n hg)
                have f884t := fun hg => take_one (f884 hg)
                have f884g := fun hg => get_of (f884 hg)
                have F16 := an F14 (an g879a (an g879b (an g879n (an f882 (an g883a (an g883b (an g883n (an f884 (an f884t f884g)))))))))
                have F17 := an F16 (an hx801a (an hx801b (an hx804a (an hx804b (an hx807a (an hx807b (an hx810a (an hx810b (an hx819a (an hx819b (an hx822a hx822b)))))))))))
                refine goE F16 F17 ?_
                revert e761; refine cS F16 ?_ ?_ <;> intro h885 e761
                · refine goE F16 F17 ?_
                  obtain rfl := sj e761
                  try dsimp only at e523
                  obtain rfl := sj e523
                  try dsimp only at hs
                  refine hX526 _ _ (by simp) ?_
                  refine goE F16 F17 ?_
                  obtain rfl := sj hs
                  exact hQ _ _ (rg F16 (Gh.refl _))
                · refine goE F16 F17 ?_
                  exact hL764 (q767, (k644 + 1)) _ _ (Gh.refl _) ⟨e761, hd773, pv F16, pv F16, pv F16, pv F16, pv F16, pv F16, pv F16, pv F16, pv F16, pg⟩ (by simp)
        · obtain ⟨e523, n10_g⟩ := hp
          obtain rfl := sj e523
          try dsimp only at hs
          refine goG f0 f0 ?_
          revert hs; refine bK fun y887 hx888 hs => ?_
          refine cP f0 (at_law14_lives hx888) ?_
          refine goG f0 f0 ?_
          obtain rfl := sj hs
          exact hQ _ _ (rg f0 (Gh.refl _))
end Go.Dc
end
section
set_option linter.all false
namespace Go.Dc.Pl
open Go Go.Hw Go.Dc
set_option maxRecDepth 100000
def wr (a : Int) : Int := (r01_Wrap a).getD 0
theorem wrap_eq (a : Int) : r01_Wrap a = some (wr a) := by
  suffices h : ∃ n, r01_Wrap a = some n by obtain ⟨n, h⟩ := h; rw [wr, h]; rfl
  rw [r01_Wrap]
  cases ltI (Int.tmod a 4294967296) 0
  · cases ltI 2147483647 (Int.tmod a 4294967296) <;> exact ⟨_, rfl⟩
  · cases ltI 2147483647 (IntKind.i64.wrap (Int.tmod a 4294967296 + 4294967296)) <;> exact ⟨_, rfl⟩
def tru (b : Bool) : Int := cond b 1 0
theorem tru_eq (b : Bool) : r01_truth b = some (tru b) := by cases b <;> rfl
/-- The functions that compare. -/
def cmpV (n : Int) (x y : Int) : Int := cond (eqI n 7) (tru (eqI x y)) (cond (eqI n 8) (tru (!(eqI x y))) (cond (eqI n 9) (tru (ltI x y)) (tru (!(ltI y x)))))
theorem apply_eq {fuel : Nat} {n x y : Int} (h : n = 7 ∨ n = 8 ∨ n = 9 ∨ n = 10) : law14_apply fuel n x y = some (cmpV n (wr x) (wr y)) := by
  rw [law14_apply, r01_Apply, wrap_eq, Option.bind_some, wrap_eq, Option.bind_some]
  rcases h with rfl | rfl | rfl | rfl <;> simp [eqI, tru_eq, cmpV]
theorem pat_L1 (q : Nat) (a b c d e f g h : Int) : law14_AwaitPattern_L1 (q + 9) 0 a b c d e f g h = some (wr a, wr b, wr c, wr d, wr e, wr f, wr g, wr h) := by
  simp [law14_AwaitPattern_L1, ltI, inB, wrap_eq, Arr.set, Arr.of, wrap_i64]
theorem R_f {n : Nat} (R : Arr n Int) (k j : Nat) (v : Int) : (R.set k v).f j = if j = k then v else R.f j := rfl
theorem tru0 (x : Bool) : eqI (tru x) 0 = !x := by cases x <;> rfl
theorem eqI_comm (a b : Int) : eqI a b = eqI b a := by simp [eqI, Bool.beq_comm]
theorem cmp_con {n : Int} (h : n = 7 ∨ n = 8 ∨ n = 9 ∨ n = 10) (o w : Int) : eqI (cmpV n o w) 0 = !(eqI (cmpV (conF n) w o) 0) := by
  rcases h with rfl | rfl | rfl | rfl
  · show eqI (tru (eqI o w)) 0 = !(eqI (tru (!(eqI w o))) 0)
    rw [tru0, tru0, eqI_comm]; cases eqI w o <;> rfl
  · show eqI (tru (!(eqI o w))) 0 = !(eqI (tru (eqI w o)) 0)
    rw [tru0, tru0, eqI_comm]
  · show eqI (tru (ltI o w)) 0 = !(eqI (tru (!(ltI o w))) 0)
    rw [tru0, tru0]; cases ltI o w <;> rfl
  · show eqI (tru (!(ltI w o))) 0 = !(eqI (tru (ltI w o)) 0)
    rw [tru0, tru0]
theorem cmp_con' {n : Int} (h : n = 7 ∨ n = 8) (o w : Int) : eqI (cmpV n w o) 0 = !(eqI (cmpV (conF n) w o) 0) := by
  rw [← cmp_con (by omega) o w]
  rcases h with rfl | rfl
  · show eqI (tru (eqI w o)) 0 = eqI (tru (eqI o w)) 0
    rw [eqI_comm w o]
  · show eqI (tru (!(eqI w o))) 0 = eqI (tru (!(eqI o w))) 0
    rw [eqI_comm w o]
theorem taken_free {a b : Inst} {f : Func} {i : Nat} {c : Inst} (h : Pat f i a b c) (R : Nat → Int) (v : Int) (hb : 0 ≤ b.B ∧ 0 ≤ b.C ∧ 0 ≤ a.A) :
    eqI (cmpV b.Fn (wr (if b.B.toNat = a.A.toNat then v else R b.B.toNat)) (wr (if b.C.toNat = a.A.toNat then v else R b.C.toNat))) 0 = !(eqI (cmpV (conF b.Fn) (wr v) (wr (R ((awI a b).B).toNat))) 0) := by
  have e1 : (b.B.toNat = a.A.toNat) ↔ b.B = a.A := by omega
  have e2 : (b.C.toNat = a.A.toNat) ↔ b.C = a.A := by omega
  have one := h.one
  have fn := h.fn
  rw [awI_B]
  simp only [e1, e2]
  by_cases hc : b.C = a.A
  · have hb' : ¬ b.B = a.A := fun hx => one ⟨fun _ => hc, fun _ => hx⟩
    simp only [hc, hb', if_true, if_false]
    exact cmp_con (by rcases fn with h | h | ⟨_, h | h⟩ <;> simp [h]) _ _
  · have hb' : b.B = a.A := by
      by_cases hx : b.B = a.A
      · exact hx
      · exact absurd ⟨fun h => absurd h hx, fun h => absurd h hc⟩ one
    simp only [hc, hb', if_true, if_false]
    exact cmp_con' (by rcases fn with h | h | ⟨h, _⟩; exact .inl h; exact .inr h; exact absurd h hc) _ _
theorem pat_L2 {p : Program} (hp : small p = true) (hc : eqI (chk p).1 0 = true) {s : AwaitSpin} (hs : s ∈ spins p) (v i1 i2 i3 i4 i5 i6 i7 i8 : Int) (q : List Spin) (k : Nat) :
    law14_AwaitPattern_L2 200 p v i1 i2 i3 i4 i5 i6 i7 i8 (rwP p, 0) (toSpin s :: q) k = law14_AwaitPattern_L2 200 p v i1 i2 i3 i4 i5 i6 i7 i8 (rwP p, 0) q (k + 1) := by
  obtain ⟨j, i, h1, h2, h3, h4, h5⟩ := spun p s hs
  obtain ⟨a, b, c, pt, hy⟩ := awF_some h5
  have hl := fOf_le hp j
  obtain ⟨c1, c2⟩ := cF_iff.1 ((chk_iff.1 hc).2.2.1 j _ (fOf_eq h3))
  have la := (load_ok pt.op1).1 (ci_iff.1 (c2 _ _ pt.ha)).1
  have lb := (calc_ok pt.op2).1 (ci_iff.1 (c2 _ _ pt.hb)).1
  have h6 := getN_some pt.hc
  have e1 : ltI (j : Int) 0 = false := by simp [ltI_d]
  have e2 : ltI (j : Int) ((p.Funcs.length : Nat) : Int) = true := by simp [ltI_d]; omega
  have e3 : ltI (i : Int) 0 = false := by simp [ltI_d]
  have e4 : IntKind.i64.wrap ((i : Int) + 2) = ((i + 2 : Nat) : Int) := by rw [wrap_i64 (by omega) (by omega)]; simp
  have e5 : IntKind.i64.wrap ((i : Int) + 1) = ((i + 1 : Nat) : Int) := wrapS (by omega)
  have e6 : inB (j : Int) p.Funcs.length = true := by simp [inB_d]; omega
  have e7 : inB (j : Int) (rwP p).Funcs.length = true := by simp [inB_d, rwP]; omega
  have e8 : gd p.Funcs j = fOf p j := rfl
  have e9 : (rwP p).Funcs[j]? = some (rwF (fOf p j)) := by rw [show (rwP p).Funcs = p.Funcs.map rwF from rfl, List.getElem?_map, fOf_eq h3]; rfl
  have e10 : gd (rwP p).Funcs j = rwF (fOf p j) := by
    have : gd (rwP p).Funcs j = fOf (rwP p) j := rfl
    rw [fOf_eq (getN_some e9)] at e9
    rw [this, Option.some.inj e9]
  have e11 : (rwF (fOf p j)).Code.length = (fOf p j).Code.length := rwL_len _
  have e12 : ltI ((i + 2 : Nat) : Int) (((fOf p j).Code.length : Nat) : Int) = true := by simp [ltI_d]; omega
  have e13 : (rwF (fOf p j)).Code[i]? = some (awI a b) := by rw [show (rwF (fOf p j)).Code = rwL (fOf p j) from rfl, rwL_get, pt.ha, pt.awF]; rfl
  have hd : ∀ m : Int, eqI m m = true := fun m => by simp [eqI]
  have b1 : inB a.A 8 = true := by have := la.A; simp [inB_d]; omega
  have b2 : inB b.A 8 = true := by have := lb.A; simp [inB_d]; omega
  have b3 : inB b.B 8 = true := by have := lb.B; simp [inB_d]; omega
  have b4 : inB b.C 8 = true := by have := lb.C; simp [inB_d]; omega
  have b5 : inB (awI a b).B 8 = true := by rw [awI_B]; split; exact b3; exact b4
  have fn' : b.Fn = 7 ∨ b.Fn = 8 ∨ b.Fn = 9 ∨ b.Fn = 10 := by rcases pt.fn with h | h | ⟨_, h | h⟩ <;> simp [h]
  have fc : conF b.Fn = 7 ∨ conF b.Fn = 8 ∨ conF b.Fn = 9 ∨ conF b.Fn = 10 := by rcases fn' with e | e | e | e <;> rw [e] <;> simp [conF, eqI]
  have tf := taken_free pt (fun n => (Arr.of 8 [i1, i2, i3, i4, i5, i6, i7, i8] : Arr 8 Int).f n) v ⟨lb.B.1, lb.C.1, la.A.1⟩
  rw [law14_AwaitPattern_L2]
  simp only [toSpin, h1, h2, e1, e2, e3, e4, Int.toNat_natCast, e5, e6, e7, e8, e10, e11, e12, hd, getI_nat, fOf_eq h3, Option.bind_some, pt.ha, pt.hb, pt.hc, e9, e13, pt.op1, pt.op2, pt.op3, pt.cN, pt.cB, show (awI a b).Op = 14 from rfl, show (awI a b).A = a.A from rfl, show (awI a b).Obj = a.Obj from rfl, show (awI a b).Order = a.Order from rfl,
    show (awI a b).Fn = conF b.Fn from rfl, Bool.not_true, Bool.not_false, show orB false false = false from rfl, show orB false true = true from rfl, guardO_t, cond_false, b1, b2, b3, b4, b5, apply_eq fn', apply_eq fc]
  rw [orB_t, guardO_t]
  simp only [R_f, if_true]
  generalize cmpV (conF b.Fn) _ _ = y at tf ⊢
  rw [tf]
  have r : ∀ x y : Bool, orB (eqB (!!x) (!x)) (andB (!x) (orB (!y) (!!x))) = andB (!x) (!y) := by decide
  rw [r]
  simp only [hd, andB_d, Bool.and_true, Bool.and_self, Bool.not_true, Bool.and_false, cond_false]
theorem law_pattern (p : Program) (r : Arr 8 Int) (v : Int) : law14_AwaitPattern 200 p r v = some true := by
  rw [law14_AwaitPattern, small_eq, Option.bind_some]
  cases hp : small p
  · rw [lives]; rfl
  · rw [ref_valid hp]
    cases hc : eqI (chk p).1 0
    · rw [lives]; rfl
    · obtain ⟨h1, h2⟩ := spins_eq hp (fuel := 200) (by omega)
      have hd : ∀ m : Int, eqI m m = true := fun m => by simp [eqI]
      rw [own_find hp (by omega), hc, own_rewrite hp (by omega) hc]
      simp only [Bool.not_true, cond_false, Option.bind_some, wrap_eq, Option.isSome_some, orB_t, guardO_t, Option.getD_some, show orB false false = false from rfl]
      rw [show (200 : Nat) = 191 + 9 from rfl, pat_L1, show (191 + 9 : Nat) = 200 from rfl]
      simp only [Option.bind_some, show (rwP p).Funcs.length = p.Funcs.length by simp [rwP], hd, Bool.not_true, show orB false false = false from rfl, cond_false]
      have hL := srch (L := law14_AwaitPattern_L2 200 p (wr v) (wr (r.f 0)) (wr (r.f 1)) (wr (r.f 2)) (wr (r.f 3)) (wr (r.f 4)) (wr (r.f 5)) (wr (r.f 6)) (wr (r.f 7)) (rwP p, 0)) (fun _ _ => none) (fun _ => rfl) (found p) 0 fun j x hx q => by
        rw [found, List.getElem?_map] at hx
        cases hs : (spins p)[j]? with
        | none => rw [hs] at hx; cases hx
        | some y =>
          rw [hs] at hx
          obtain rfl := Option.some.inj hx
          rw [pat_L2 hp hc (List.mem_of_getElem? hs)]; rfl
      rw [first_noneF] at hL
      rw [show lenB (found p).length = true by rw [lenB_d, found, List.length_map]; simp; omega, hL, lives]
      rfl
end Go.Dc.Pl
end
section
set_option linter.all false
namespace Go.Hw
variable [Globals]
section
variable {H : Type} {enc : TypeId × Value → H} {P : Program} {w : World} {sp : Nat → Bool} {held : Bool}
theorem okWide_array {t e : TypeId} {k : Nat} {v : Value} {r : Go.Reach} {base : Nat} (ht : P.underlying t = some (.array k e)) (h : Value.okWide P w r base t v) : ∃ cs, v = .agg cs ∧ cs.size = P.cellsOf t := by
  simp only [Value.okWide, ht] at h
  obtain ⟨cs, h1, h2, _⟩ := h
  exact ⟨cs, h1, h2⟩
theorem rep_array {m : Nat} {t e : TypeId} {k : Nat} {v : Value} {d : DataW H} {p : List MemPlace} {r : Go.Reach} {b0 : Nat} (hu : P.underlying t = some (.array k e)) (hp : plainT P m t = true) (hv : Value.okWide P w r b0 t v)
    (h : DataW.Trod enc P w 0 sp held t v d p) : ∃ cvs, cvD P m t d = some cvs ∧ AVRep w m0 (fun _ => False) v (.agg (cvs.map .p)) := by
  obtain ⟨cs, rfl, hsz⟩ := okWide_array hu hv
  obtain ⟨fuel, hf⟩ := h
  obtain ⟨cvs, e, hr⟩ := trod_cvs (bad := Bad m0 (fun _ => False)) (fun b hb => (bad_m0).1 hb) m t _ _ _ hp hf
  have hr : CReps w (Bad m0 (fun _ => False)) cs.toList cvs := hr
  refine ⟨cvs, e, .agg cs _ (by have := hr.len; simpa using this) hr.one fun j u x hj hx => ?_⟩
  rw [List.getElem?_map, Option.map_eq_some_iff] at hx
  obtain ⟨c, hc, rfl⟩ := hx
  exact hr.rep j u c (by simpa using hj) hc
theorem cvD_arrayQ {n : Nat} {t e : TypeId} {k : Nat} {d : DataW H} {c : List CV} {α : Type} [Inhabited α] [Enc α] {Q : α → Prop} (hu : P.underlying t = some (.array k e)) (hg : ∀ n (d : DataW H) c, cvD P n e d = some c → ∃ x : α, Q x ∧ c = Enc.enc x) (h : cvD P n t d = some c) :
    ∃ x : Arr k α, (∀ j, j < k → Q (x.f j)) ∧ c = Enc.enc x := by
  cases n with
  | zero => simp [cvD] at h
  | succ n =>
    simp only [cvD, hu] at h
    split at h
    · rename_i l
      split at h
      · rename_i hl
        obtain ⟨L, hL, hQ, rfl⟩ := concatM_mapQ (fun d _ c hc => hg n d c hc) h
        have hLk : L.length = k := hL.trans hl
        refine ⟨Arr.of k L, fun j hj => ?_, ?_⟩
        · rw [arr_of_f, List.getD_eq_getElem?_getD, List.getElem?_eq_getElem (by omega)]
          exact hQ _ (List.getElem_mem _)
        · show L.flatMap Enc.enc = (List.range k).flatMap fun j => Enc.enc ((Arr.of k L).f j)
          have : L = (List.range k).map fun j => (Arr.of k L).f j := by
            apply List.ext_getElem?
            intro j
            rcases Nat.lt_or_ge j k with hj | hj
            · rw [List.getElem?_map, List.getElem?_range hj, Option.map_some, arr_of_f, List.getD_eq_getElem?_getD, List.getElem?_eq_getElem (by omega)]; rfl
            · rw [List.getElem?_eq_none (by omega), List.getElem?_eq_none (by simp; omega)]
          rw (occs := .pos [1]) [this]
          rw [List.flatMap_map]
      · cases h
    · cases h
end
end Go.Hw
end
section
set_option linter.all false
namespace Go.Dc
open Go Go.Hw Go.Proofs
set_option maxRecDepth 100000
theorem dec9 {H : Type} {n : Nat} {d : DataW H} {c : List CV} (h : cvD Tryd.prog n 9 d = some c) : ∃ x : ByteArray, True ∧ c = Enc.enc x := by
  obtain ⟨m, rfl⟩ := cvD_string Tryd.underlying9 h
  exact ⟨m, trivial, rfl⟩
theorem dec3 {H : Type} {n : Nat} {d : DataW H} {c : List CV} (h : cvD Tryd.prog n 3 d = some c) : ∃ x : Int, (-9223372036854775808 ≤ x ∧ x ≤ 9223372036854775807) ∧ c = Enc.enc x := by
  obtain ⟨m, hm, rfl⟩ := cvD_int Tryd.underlying3 h
  exact ⟨m, by simpa [IntKind.min, IntKind.max, IntKind.signed, IntKind.bits] using hm, rfl⟩
def OkVar (x : Var) : Prop := (fun _ : ByteArray => True) x.Name ∧ (fun x : Int => -9223372036854775808 ≤ x ∧ x ≤ 9223372036854775807) x.Init
theorem dec105 {H : Type} {n : Nat} {d : DataW H} {c : List CV} (h : cvD Tryd.prog n 105 d = some c) : ∃ x : Var, OkVar x ∧ c = Enc.enc x := by
  obtain ⟨m, l, rfl, rfl, hl, h⟩ := cvD_struct Tryd.underlying105 h
  have hl : l.length = 2 := hl
  match l, hl with
  | [d0, d1], _ =>
    simp only [List.zipWith] at h
    obtain ⟨a0, b0, h0, k1, rfl⟩ := concatM_cons h
    obtain ⟨a1, b1, h1, k2, rfl⟩ := concatM_cons k1
    obtain rfl := concatM_nil k2
    obtain ⟨x0, q0, rfl⟩ := dec9 h0
    obtain ⟨x1, q1, rfl⟩ := dec3 h1
    exact ⟨⟨x0, x1⟩, ⟨q0, q1⟩, rfl⟩
theorem dec48 {H : Type} {n : Nat} {d : DataW H} {c : List CV} (h : cvD Tryd.prog n 48 d = some c) : ∃ x : List Var, (∀ y ∈ x, (OkVar) y) ∧ c = Enc.enc x := by
  obtain ⟨L, hQ, rfl⟩ := cvD_sliceQ (g := Enc.enc) (Q := OkVar) Tryd.underlying48 (fun n d c h => dec105 h) h
  exact ⟨L, hQ, rfl⟩
theorem dec49 {H : Type} {n : Nat} {d : DataW H} {c : List CV} (h : cvD Tryd.prog n 49 d = some c) : ∃ x : List ByteArray, (∀ y ∈ x, (fun _ : ByteArray => True) y) ∧ c = Enc.enc x := by
  obtain ⟨L, hQ, rfl⟩ := cvD_sliceQ (g := Enc.enc) (Q := fun _ : ByteArray => True) Tryd.underlying49 (fun n d c h => dec9 h) h
  exact ⟨L, hQ, rfl⟩
theorem dec67 {H : Type} {n : Nat} {d : DataW H} {c : List CV} (h : cvD Tryd.prog n 67 d = some c) : ∃ x : Int, (-9223372036854775808 ≤ x ∧ x ≤ 9223372036854775807) ∧ c = Enc.enc x := by
  obtain ⟨m, hm, rfl⟩ := cvD_int Tryd.underlying67 h
  exact ⟨m, by simpa [IntKind.min, IntKind.max, IntKind.signed, IntKind.bits] using hm, rfl⟩
theorem dec68 {H : Type} {n : Nat} {d : DataW H} {c : List CV} (h : cvD Tryd.prog n 68 d = some c) : ∃ x : Int, (-9223372036854775808 ≤ x ∧ x ≤ 9223372036854775807) ∧ c = Enc.enc x := by
  obtain ⟨m, hm, rfl⟩ := cvD_int Tryd.underlying68 h
  exact ⟨m, by simpa [IntKind.min, IntKind.max, IntKind.signed, IntKind.bits] using hm, rfl⟩
theorem dec69 {H : Type} {n : Nat} {d : DataW H} {c : List CV} (h : cvD Tryd.prog n 69 d = some c) : ∃ x : Int, (-9223372036854775808 ≤ x ∧ x ≤ 9223372036854775807) ∧ c = Enc.enc x := by
  obtain ⟨m, hm, rfl⟩ := cvD_int Tryd.underlying69 h
  exact ⟨m, by simpa [IntKind.min, IntKind.max, IntKind.signed, IntKind.bits] using hm, rfl⟩
def OkInst (x : Inst) : Prop := (fun x : Int => -9223372036854775808 ≤ x ∧ x ≤ 9223372036854775807) x.Op ∧ (fun x : Int => -9223372036854775808 ≤ x ∧ x ≤ 9223372036854775807) x.A ∧ (fun x : Int => -9223372036854775808 ≤ x ∧ x ≤ 9223372036854775807) x.B ∧ (fun x : Int => -9223372036854775808 ≤ x ∧ x ≤ 9223372036854775807) x.C ∧ (fun x : Int => -9223372036854775808 ≤ x ∧ x ≤ 9223372036854775807) x.Obj ∧ (fun x : Int => -9223372036854775808 ≤ x ∧ x ≤ 9223372036854775807) x.N ∧ (fun x : Int => -9223372036854775808 ≤ x ∧ x ≤ 9223372036854775807) x.Fn ∧ (fun x : Int => -9223372036854775808 ≤ x ∧ x ≤ 9223372036854775807) x.Order
theorem dec71 {H : Type} {n : Nat} {d : DataW H} {c : List CV} (h : cvD Tryd.prog n 71 d = some c) : ∃ x : Inst, OkInst x ∧ c = Enc.enc x := by
  obtain ⟨m, l, rfl, rfl, hl, h⟩ := cvD_struct Tryd.underlying71 h
  have hl : l.length = 8 := hl
  match l, hl with
  | [d0, d1, d2, d3, d4, d5, d6, d7], _ =>
    simp only [List.zipWith] at h
    obtain ⟨a0, b0, h0, k1, rfl⟩ := concatM_cons h
    obtain ⟨a1, b1, h1, k2, rfl⟩ := concatM_cons k1
    obtain ⟨a2, b2, h2, k3, rfl⟩ := concatM_cons k2
    obtain ⟨a3, b3, h3, k4, rfl⟩ := concatM_cons k3
    obtain ⟨a4, b4, h4, k5, rfl⟩ := concatM_cons k4
    obtain ⟨a5, b5, h5, k6, rfl⟩ := concatM_cons k5
    obtain ⟨a6, b6, h6, k7, rfl⟩ := concatM_cons k6
    obtain ⟨a7, b7, h7, k8, rfl⟩ := concatM_cons k7
    obtain rfl := concatM_nil k8
    obtain ⟨x0, q0, rfl⟩ := dec67 h0
    obtain ⟨x1, q1, rfl⟩ := dec3 h1
    obtain ⟨x2, q2, rfl⟩ := dec3 h2
    obtain ⟨x3, q3, rfl⟩ := dec3 h3
    obtain ⟨x4, q4, rfl⟩ := dec3 h4
    obtain ⟨x5, q5, rfl⟩ := dec3 h5
    obtain ⟨x6, q6, rfl⟩ := dec68 h6
    obtain ⟨x7, q7, rfl⟩ := dec69 h7
    exact ⟨⟨x0, x1, x2, x3, x4, x5, x6, x7⟩, ⟨q0, q1, q2, q3, q4, q5, q6, q7⟩, rfl⟩
theorem dec22 {H : Type} {n : Nat} {d : DataW H} {c : List CV} (h : cvD Tryd.prog n 22 d = some c) : ∃ x : List Inst, (∀ y ∈ x, (OkInst) y) ∧ c = Enc.enc x := by
  obtain ⟨L, hQ, rfl⟩ := cvD_sliceQ (g := Enc.enc) (Q := OkInst) Tryd.underlying22 (fun n d c h => dec71 h) h
  exact ⟨L, hQ, rfl⟩
def OkFunc (x : Func) : Prop := (fun _ : ByteArray => True) x.Name ∧ (fun l : List Inst => ∀ x ∈ l, (OkInst) x) x.Code
theorem dec24 {H : Type} {n : Nat} {d : DataW H} {c : List CV} (h : cvD Tryd.prog n 24 d = some c) : ∃ x : Func, OkFunc x ∧ c = Enc.enc x := by
  obtain ⟨m, l, rfl, rfl, hl, h⟩ := cvD_struct Tryd.underlying24 h
  have hl : l.length = 2 := hl
  match l, hl with
  | [d0, d1], _ =>
    simp only [List.zipWith] at h
    obtain ⟨a0, b0, h0, k1, rfl⟩ := concatM_cons h
    obtain ⟨a1, b1, h1, k2, rfl⟩ := concatM_cons k1
    obtain rfl := concatM_nil k2
    obtain ⟨x0, q0, rfl⟩ := dec9 h0
    obtain ⟨x1, q1, rfl⟩ := dec22 h1
    exact ⟨⟨x0, x1⟩, ⟨q0, q1⟩, rfl⟩
theorem dec50 {H : Type} {n : Nat} {d : DataW H} {c : List CV} (h : cvD Tryd.prog n 50 d = some c) : ∃ x : List Func, (∀ y ∈ x, (OkFunc) y) ∧ c = Enc.enc x := by
  obtain ⟨L, hQ, rfl⟩ := cvD_sliceQ (g := Enc.enc) (Q := OkFunc) Tryd.underlying50 (fun n d c h => dec24 h) h
  exact ⟨L, hQ, rfl⟩
def OkStart (x : Start) : Prop := (fun x : Int => -9223372036854775808 ≤ x ∧ x ≤ 9223372036854775807) x.Func ∧ (fun x : Int => -9223372036854775808 ≤ x ∧ x ≤ 9223372036854775807) x.Arg
theorem dec108 {H : Type} {n : Nat} {d : DataW H} {c : List CV} (h : cvD Tryd.prog n 108 d = some c) : ∃ x : Start, OkStart x ∧ c = Enc.enc x := by
  obtain ⟨m, l, rfl, rfl, hl, h⟩ := cvD_struct Tryd.underlying108 h
  have hl : l.length = 2 := hl
  match l, hl with
  | [d0, d1], _ =>
    simp only [List.zipWith] at h
    obtain ⟨a0, b0, h0, k1, rfl⟩ := concatM_cons h
    obtain ⟨a1, b1, h1, k2, rfl⟩ := concatM_cons k1
    obtain rfl := concatM_nil k2
    obtain ⟨x0, q0, rfl⟩ := dec3 h0
    obtain ⟨x1, q1, rfl⟩ := dec3 h1
    exact ⟨⟨x0, x1⟩, ⟨q0, q1⟩, rfl⟩
theorem dec51 {H : Type} {n : Nat} {d : DataW H} {c : List CV} (h : cvD Tryd.prog n 51 d = some c) : ∃ x : List Start, (∀ y ∈ x, (OkStart) y) ∧ c = Enc.enc x := by
  obtain ⟨L, hQ, rfl⟩ := cvD_sliceQ (g := Enc.enc) (Q := OkStart) Tryd.underlying51 (fun n d c h => dec108 h) h
  exact ⟨L, hQ, rfl⟩
def OkProgram (x : Program) : Prop := (fun l : List Var => ∀ x ∈ l, (OkVar) x) x.Vars ∧ (fun l : List ByteArray => ∀ x ∈ l, (fun _ : ByteArray => True) x) x.Mutexes ∧ (fun l : List ByteArray => ∀ x ∈ l, (fun _ : ByteArray => True) x) x.Conds ∧ (fun l : List Func => ∀ x ∈ l, (OkFunc) x) x.Funcs ∧ (fun l : List Start => ∀ x ∈ l, (OkStart) x) x.Threads
theorem dec53 {H : Type} {n : Nat} {d : DataW H} {c : List CV} (h : cvD Tryd.prog n 53 d = some c) : ∃ x : Program, OkProgram x ∧ c = Enc.enc x := by
  obtain ⟨m, l, rfl, rfl, hl, h⟩ := cvD_struct Tryd.underlying53 h
  have hl : l.length = 5 := hl
  match l, hl with
  | [d0, d1, d2, d3, d4], _ =>
    simp only [List.zipWith] at h
    obtain ⟨a0, b0, h0, k1, rfl⟩ := concatM_cons h
    obtain ⟨a1, b1, h1, k2, rfl⟩ := concatM_cons k1
    obtain ⟨a2, b2, h2, k3, rfl⟩ := concatM_cons k2
    obtain ⟨a3, b3, h3, k4, rfl⟩ := concatM_cons k3
    obtain ⟨a4, b4, h4, k5, rfl⟩ := concatM_cons k4
    obtain rfl := concatM_nil k5
    obtain ⟨x0, q0, rfl⟩ := dec48 h0
    obtain ⟨x1, q1, rfl⟩ := dec49 h1
    obtain ⟨x2, q2, rfl⟩ := dec49 h2
    obtain ⟨x3, q3, rfl⟩ := dec50 h3
    obtain ⟨x4, q4, rfl⟩ := dec51 h4
    exact ⟨⟨x0, x1, x2, x3, x4⟩, ⟨q0, q1, q2, q3, q4⟩, rfl⟩
theorem open53 {H : Type} {enc : TypeId × Value → H} {W : World} {sp : Nat → Bool} {held : Bool} {v : Value} {d : DataW H} {p : List MemPlace} {r : Go.Reach} {b0 : Nat} (hv : Value.okWide Tryd.prog W r b0 53 v) (h : DataW.Trod enc Tryd.prog W 0 sp held 53 v d p) :
    ∃ x : Program, OkProgram x ∧ AVRep W m0 (fun _ => False) v (.agg ((Enc.enc x).map .p)) := by
  obtain ⟨cvs, e, hr⟩ := rep_struct (m := 8) Tryd.underlying53 (by kernel_rfl) hv h
  obtain ⟨x, hx, rfl⟩ := dec53 e
  exact ⟨x, hx, hr⟩
theorem dec63 {H : Type} {n : Nat} {d : DataW H} {c : List CV} (h : cvD Tryd.prog n 63 d = some c) : ∃ x : Arr 8 Int, (∀ j, j < 8 → (fun x : Int => -9223372036854775808 ≤ x ∧ x ≤ 9223372036854775807) (x.f j)) ∧ c = Enc.enc x := cvD_arrayQ Tryd.underlying63 (fun n d c h => dec3 h) h
theorem open63 {H : Type} {enc : TypeId × Value → H} {W : World} {sp : Nat → Bool} {held : Bool} {v : Value} {d : DataW H} {p : List MemPlace} {r : Go.Reach} {b0 : Nat} (hv : Value.okWide Tryd.prog W r b0 63 v) (h : DataW.Trod enc Tryd.prog W 0 sp held 63 v d p) :
    ∃ x : Arr 8 Int, (fun a : Arr 8 Int => ∀ j, j < 8 → (fun x : Int => -9223372036854775808 ≤ x ∧ x ≤ 9223372036854775807) (a.f j)) x ∧ AVRep W m0 (fun _ => False) v (.agg ((Enc.enc x).map .p)) := by
  obtain ⟨cvs, e, hr⟩ := rep_array (m := 8) Tryd.underlying63 (by kernel_rfl) hv h
  obtain ⟨x, hx, rfl⟩ := dec63 e
  exact ⟨x, hx, hr⟩
theorem gN1 : Tryd.prog.globalNamed "modelcheck/value.names" = some 1 := by kernel_rfl
theorem gN0 : Tryd.prog.globalNamed "modelcheck/inst.rows" = some 0 := by kernel_rfl
/-- The package variables as the rows lay them. -/
theorem gT1 : (Tryd.prog.globals[1]?).map (·.type) = some 161 := by kernel_rfl
set_option maxRecDepth 100000 in
theorem gC1 : cvD Tryd.prog 6 161 (Go.Proofs.YtgcinmhiohlmiaaDoor.Rows.laid_modelcheck_value_names (H := Unit)) = some (encL namesTab) := by kernel_rfl
theorem gT0 : (Tryd.prog.globals[0]?).map (·.type) = some 145 := by kernel_rfl
set_option maxRecDepth 100000 in
theorem gC0 : cvD Tryd.prog 6 145 (Go.Proofs.YtgcinmhiohlmiaaDoor.Rows.laid_modelcheck_inst_rows (H := Unit)) = some (encL rowsTab) := by kernel_rfl
set_option maxRecDepth 100000 in
theorem globs {W : World} (laid : List (String × DataW Unit)) (he : laid = [("modelcheck/value.names", Go.Proofs.YtgcinmhiohlmiaaDoor.Rows.laid_modelcheck_value_names), ("modelcheck/inst.rows", Go.Proofs.YtgcinmhiohlmiaaDoor.Rows.laid_modelcheck_inst_rows)])
    (h : laidMetH Tryd.prog laid W) : ∀ g cs, Globals.G g = some cs → AVRep W m0 (fun _ => False) (.pointer (some ⟨g, 0, none⟩)) (.cell (.ep cs 0)) := by
  subst he
  rw [MakeChecks.laidMetH_plain _ _ _ (by kernel_rfl)] at h
  obtain ⟨ps, ⟨g0, t0, cs0, f0, p0, q0, hg0, ht0, hv0, hd0, ⟨g1, t1, cs1, f1, p1, q1, hg1, ht1, hv1, hd1, _, _⟩, _⟩, _, _⟩ := h
  obtain rfl := Option.some.inj (gN1.symm.trans hg0)
  obtain rfl := Option.some.inj (gT1.symm.trans ht0)
  obtain rfl := Option.some.inj (gN0.symm.trans hg1)
  obtain rfl := Option.some.inj (gT0.symm.trans ht1)
  intro g cs hgc
  have hgc : (if g = 0 then some (encL rowsTab) else if g = 1 then some (encL namesTab) else none) = some cs := hgc
  split at hgc
  · rename_i e
    subst e
    cases hgc
    exact rep_global (m := 6) (t := 145) (by kernel_rfl) hd1 gC0 fun j => by simpa using World.var?_cell hg1 hv1 j
  · split at hgc
    · rename_i e
      subst e
      cases hgc
      exact rep_global (m := 6) (t := 161) (by kernel_rfl) hd0 gC1 fun j => by simpa using World.var?_cell hg0 hv0 j
    · cases hgc
end Go.Dc
end
