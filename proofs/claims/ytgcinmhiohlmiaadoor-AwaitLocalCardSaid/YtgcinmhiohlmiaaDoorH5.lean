/- Contracts of functions, by their numbers, and the laws that walk them. Conditions: as each states. -/
import Derived.Test.YtgcinmhiohlmiaaDoorH3
import Derived.Test.YtgcinmhiohlmiaaDoorH4
import Derived.Test.YtgcinmhiohlmiaaDoorRows
import Derived.LaidMore
import Derived.MakeChecks
set_option linter.all false
section
set_option linter.all false
namespace Go.Dc
open Go Go.Hw Go.Proofs
set_option maxRecDepth 100000

def law14_lives (fuelN : Nat)  : Option Bool :=
  Option.bind (law14_example 8) (fun y1 => Option.bind (await_Find fuelN y1) (fun y3 => Option.bind (law14_example 9) (fun y5 => Option.bind (await_Find fuelN y5) (fun y7 => Option.bind (law14_example 8) (fun y9 => Option.bind (await_Rewrite fuelN y9) (fun y11 => guardO (orB (!(!(orB (orB (orB (orB (!(eqI y3.2 0)) (!(eqI y7.2 0))) (!(eqI y11.2 0))) (!(eqI ((y7.1.length : Nat) : Int) 0))) (!(eqI ((y11.1.Funcs.length : Nat) : Int) 1))))) (inB (0 : Int) y11.1.Funcs.length)) (cond (orB (orB (orB (orB (orB (!(eqI y3.2 0)) (!(eqI y7.2 0))) (!(eqI y11.2 0))) (!(eqI ((y7.1.length : Nat) : Int) 0))) (!(eqI ((y11.1.Funcs.length : Nat) : Int) 1))) (!(eqI ((((gd y11.1.Funcs 0).Code).length : Nat) : Int) 4))) (some false) (Option.bind (some ([({ Func := 0, First := 1, Last := 3 } : Spin)])) (fun l16 => Option.bind (r14_Same y3.1 l16) (fun y18 => guardO (orB (!y18) (inB (0 : Int) y11.1.Funcs.length)) (guardO (orB (!y18) (inB (1 : Int) ((gd y11.1.Funcs 0).Code).length)) (some (andB y18 (andB (eqI ((gd ((gd y11.1.Funcs 0).Code) 1).Op) 14) (andB (eqI ((gd ((gd y11.1.Funcs 0).Code) 1).A) 2) (andB (eqI ((gd ((gd y11.1.Funcs 0).Code) 1).B) 1) (andB (eqI ((gd ((gd y11.1.Funcs 0).Code) 1).C) 0) (andB (eqI ((gd ((gd y11.1.Funcs 0).Code) 1).Obj) 0) (andB (eqI ((gd ((gd y11.1.Funcs 0).Code) 1).N) 0) (andB (eqI ((gd ((gd y11.1.Funcs 0).Code) 1).Fn) 7) (andB (eqI ((gd ((gd y11.1.Funcs 0).Code) 1).Order) 2) true)))))))))))))))))))))

set_option maxHeartbeats 2000000 in
theorem at_law14_lives {fuelN : Nat}  {r : Bool} (hs : law14_lives fuelN = some r) : At Tryd.prog 35 [] (bV r) := by
  refine at_bound (by kernel_rfl) fun hb => ?_
  refine at_code mixed Tryd.func35 (by kernel_rfl) rfl (by kernel_rfl) rfl fun Q hQ => ?_
  rw [law14_lives] at hs
  refine goR f0 ?_
  revert hs; refine bK fun y1 hx2 hs => ?_
  refine cP f0 (at_law14_example hx2) ?_
  refine goR f0 ?_
  revert hs; refine bK fun y3 hx4 hs => ?_
  refine cP f0 (at_await_Find hx4) ?_
  refine goR f0 ?_
  revert hs; refine bK fun y5 hx6 hs => ?_
  refine cP f0 (at_law14_example hx6) ?_
  refine goR f0 ?_
  revert hs; refine bK fun y7 hx8 hs => ?_
  refine cP f0 (at_await_Find hx8) ?_
  refine goR f0 ?_
  revert hs; refine bK fun y9 hx10 hs => ?_
  refine cP f0 (at_law14_example hx10) ?_
  refine goR f0 ?_
  revert hs; refine bK fun y11 hx12 hs => ?_
  refine cP f0 (at_await_Rewrite hx12) ?_
  obtain ⟨g13, hs⟩ := guardO_some hs
  have g13a : (!(orB (orB (orB (orB (!(eqI y3.2 0)) (!(eqI y7.2 0))) (!(eqI y11.2 0))) (!(eqI ((y7.1.length : Nat) : Int) 0))) (!(eqI ((y11.1.Funcs.length : Nat) : Int) 1)))) = true → 0 ≤ (0 : Int) := fun hg => (under_elem g13 hg).1
  have g13b : (!(orB (orB (orB (orB (!(eqI y3.2 0)) (!(eqI y7.2 0))) (!(eqI y11.2 0))) (!(eqI ((y7.1.length : Nat) : Int) 0))) (!(eqI ((y11.1.Funcs.length : Nat) : Int) 1)))) = true → (0 : Int) < (y11.1.Funcs.length : Int) := fun hg => (under_elem g13 hg).2.1
  have g13n : (!(orB (orB (orB (orB (!(eqI y3.2 0)) (!(eqI y7.2 0))) (!(eqI y11.2 0))) (!(eqI ((y7.1.length : Nat) : Int) 0))) (!(eqI ((y11.1.Funcs.length : Nat) : Int) 1)))) = true → 0 < y11.1.Funcs.length := fun hg => by simpa using (under_elem g13 hg).2.2.1
  have g13c : (!(orB (orB (orB (orB (!(eqI y3.2 0)) (!(eqI y7.2 0))) (!(eqI y11.2 0))) (!(eqI ((y7.1.length : Nat) : Int) 0))) (!(eqI ((y11.1.Funcs.length : Nat) : Int) 1)))) = true → y11.1.Funcs[0]? = some (gd y11.1.Funcs 0) := fun hg => by simpa using (under_elem g13 hg).2.2.2
  have f14 : (!(orB (orB (orB (orB (!(eqI y3.2 0)) (!(eqI y7.2 0))) (!(eqI y11.2 0))) (!(eqI ((y7.1.length : Nat) : Int) 0))) (!(eqI ((y11.1.Funcs.length : Nat) : Int) 1)))) = true → partCV Tryd.prog 22 (encL y11.1.Funcs) (0 * 2 + 1) = some (.cell (sC ((gd y11.1.Funcs 0).Code))) := fun hg => partCV_enc (g13c hg) (f := 1) (by simp)
  have F1 := an g13a (an g13b (an g13n f14))
  refine goG F1 F1 ?_
  revert hs; refine cS F1 ?_ ?_ <;> intro h15 hs
  · refine goG F1 F1 ?_
    obtain rfl := sj hs
    exact hQ _ _ (rg F1 (Gh.refl _))
  · revert hs; refine lK fun l16 hx17 hs => ?_
    have hx17n : l16.length = 1 := by rw [hx17]; rfl
    have F2 := an F1 hx17
    refine goG F2 F2 ?_
    revert hs; refine bK fun y18 hx19 hs => ?_
    refine cA F2 (at_r14_Same hx19) ?_
    obtain ⟨g20, hs⟩ := guardO_some hs
    have g20a : y18 = true → 0 ≤ (0 : Int) := fun hg => (under_elem g20 hg).1
    have g20b : y18 = true → (0 : Int) < (y11.1.Funcs.length : Int) := fun hg => (under_elem g20 hg).2.1
    have g20n : y18 = true → 0 < y11.1.Funcs.length := fun hg => by simpa using (under_elem g20 hg).2.2.1
    have g20c : y18 = true → y11.1.Funcs[0]? = some (gd y11.1.Funcs 0) := fun hg => by simpa using (under_elem g20 hg).2.2.2
    have f21 : y18 = true → partCV Tryd.prog 22 (encL y11.1.Funcs) (0 * 2 + 1) = some (.cell (sC ((gd y11.1.Funcs 0).Code))) := fun hg => partCV_enc (g20c hg) (f := 1) (by simp)
    obtain ⟨g22, hs⟩ := guardO_some hs
    have g22a : y18 = true → 0 ≤ (1 : Int) := fun hg => (under_elem g22 hg).1
    have g22b : y18 = true → (1 : Int) < (((gd y11.1.Funcs 0).Code).length : Int) := fun hg => (under_elem g22 hg).2.1
    have g22n : y18 = true → 1 < ((gd y11.1.Funcs 0).Code).length := fun hg => by simpa using (under_elem g22 hg).2.2.1
    have g22c : y18 = true → ((gd y11.1.Funcs 0).Code)[1]? = some (gd ((gd y11.1.Funcs 0).Code) 1) := fun hg => by simpa using (under_elem g22 hg).2.2.2
    have f23 : y18 = true → partCV Tryd.prog 71 (encL ((gd y11.1.Funcs 0).Code)) (1 * 8) = some (.agg [nC ((gd ((gd y11.1.Funcs 0).Code) 1).Op), nC ((gd ((gd y11.1.Funcs 0).Code) 1).A), nC ((gd ((gd y11.1.Funcs 0).Code) 1).B), nC ((gd ((gd y11.1.Funcs 0).Code) 1).C), nC ((gd ((gd y11.1.Funcs 0).Code) 1).Obj), nC ((gd ((gd y11.1.Funcs 0).Code) 1).N), nC ((gd ((gd y11.1.Funcs 0).Code) 1).Fn), nC ((gd ((gd y11.1.Funcs 0).Code) 1).Order)]) := fun hg => partCV_enc (g22c hg) (f := 0) (by simp)
    have F3 := an F2 (an g20a (an g20b (an g20n (an f21 (an g22a (an g22b (an g22n f23)))))))
    refine goG F3 F3 ?_
    obtain rfl := sj hs
    exact hQ _ _ (rg F3 (Gh.refl _))
end Go.Dc
end
section
set_option linter.all false
namespace Go.Dc
open Go Go.Hw Go.Proofs
set_option maxRecDepth 100000

def law14_AwaitFinds (fuelN : Nat) (a0 : Program) : Option Bool :=
  Option.bind (r08_Small a0) (fun y1 => cond (!y1) (Option.bind (law14_lives fuelN) (fun y4 => some y4)) (Option.bind (await_Find fuelN a0) (fun y6 => Option.bind (r14_Find fuelN a0) (fun y8 => guardO (orB (!(eqI y6.2 y8.2)) ((r14_Same y6.1 y8.1).isSome)) (guardO (orB (!(andB (eqI y6.2 y8.2) ((r14_Same y6.1 y8.1).getD default))) ((law14_lives fuelN).isSome)) (some (andB (andB (eqI y6.2 y8.2) ((r14_Same y6.1 y8.1).getD default)) ((law14_lives fuelN).getD default))))))))

end Go.Dc
end
section
set_option linter.all false
namespace Go.Dc.Pl
open Go Go.Hw Go.Dc
set_option maxRecDepth 100000
theorem flat1 {α β : Type} (h : α → List β) (hc : ∀ k, (h k).length ≤ 1) (l : List α) : (l.flatMap h).length ≤ l.length := by have := flat_le h 1 hc l; omega
theorem spinsOf_le {k : Nat} {f : Func} : (spinsOf k f).length ≤ f.Code.length := by
  have := flat1 (spinO k f) (spinO_le k f) (List.range f.Code.length); rwa [List.length_range] at this
def fOf (p : Program) (k : Nat) : Func := gd p.Funcs k
theorem fOf_eq {p : Program} {k : Nat} (h : k < p.Funcs.length) : p.Funcs[k]? = some (fOf p k) := by
  rw [fOf, gd, List.getD_eq_getElem?_getD, List.getElem?_eq_getElem h]; rfl
theorem fOf_le {p : Program} (hp : small p = true) (k : Nat) : (fOf p k).Code.length ≤ 100 := by
  obtain ⟨s1, s2, s3, s4, s5, s6⟩ := small_t hp
  by_cases h : k < p.Funcs.length
  · exact s6 _ (List.mem_of_getElem? (fOf_eq h))
  · rw [fOf, gd, List.getD_eq_getElem?_getD, List.getElem?_eq_none (by omega)]; show ([] : List Inst).length ≤ 100; simp
theorem spins_eq {p : Program} (hp : small p = true) {fuel : Nat} (hf : 200 ≤ fuel) : await_spins fuel p = some (spins p) ∧ (spins p).length ≤ 2000 := by
  obtain ⟨s1, s2, s3, s4, s5, s6⟩ := small_t hp
  have hle : ∀ k, (spinsOf k (fOf p k)).length ≤ 100 := fun k => Nat.le_trans spinsOf_le (fOf_le hp k)
  have h := gathN (L := await_spins_L1 fuel p) p.Funcs.length 0 100 (fun k => spinsOf k (fOf p k)) hle (fun q s => by rw [await_spins_L1]; simp [ltI_d]) (fun q k s hk hs => by
    rw [await_spins_L1, ltI_d, show decide ((k : Int) < ((p.Funcs.length : Nat) : Int)) = true by simp; omega, cond_true, getI_nat, fOf_eq hk, Option.bind_some, spins_L2 (fOf_le hp k) hf (by omega), wrapS (by omega)]; rfl) fuel 0 [] (by simp) (by omega) (by omega)
  rw [Int.natCast_zero] at h
  rw [await_spins, h, Nat.sub_zero, ← List.range_eq_range', List.nil_append]
  refine ⟨rfl, ?_⟩
  have := flat_le (fun k => spinsOf k (fOf p k)) 100 hle (List.range p.Funcs.length)
  rw [List.length_range] at this
  exact Nat.le_trans this (by omega)
def toSpin (x : AwaitSpin) : Spin := { Func := x.fn, First := x.first, Last := IntKind.i64.wrap (x.first + 2) }
def found (p : Program) : List Spin := (spins p).map toSpin
theorem own_find {p : Program} (hp : small p = true) {fuel : Nat} (hf : 200 ≤ fuel) : await_Find fuel p = some (cond (!(eqI (chk p).1 0)) ([], (chk p).1) (found p, 0)) := by
  obtain ⟨h1, h2⟩ := spins_eq hp hf
  obtain ⟨n, rfl⟩ : ∃ n, fuel = n + 8 := ⟨fuel - 8, by omega⟩
  rw [await_Find, own_check hp, Option.bind_some, h1, Option.bind_some, show lenB (spins p).length = true by rw [lenB_d]; simp; omega, guardO_t,
    appM (L := await_Find_L1) (b := 24) (m := 2000) toSpin (by decide) (fun _ _ => rfl) (fun x q a k => by rw [await_Find_L1]; rfl) (spins p) [] 0 (by simpa using h2)]
  cases !(eqI (chk p).1 0) <;> rfl
theorem same_refl (l : List Spin) : r14_Same l l = some true := by
  have h := srch (L := r14_Same_L1 l) (fun _ _ => none) (fun _ => rfl) l 0 fun j x hx q => by
    rw [Nat.zero_add, r14_Same_L1, hx, Option.bind_some]; simp [eqI, andB]
  rw [r14_Same, h, show eqI ((l.length : Nat) : Int) ((l.length : Nat) : Int) = true by simp [eqI]]
  have : ∀ (l : List Spin) (k : Nat), first (fun _ _ => (none : Option Bool)) l k = none := fun l => by
    induction l with
    | nil => intro k; rfl
    | cons x q ih => intro k; rw [first_cons]; exact ih _
  rw [this]; rfl
theorem lives : law14_lives 200 = some true := by kernel_rfl
end Go.Dc.Pl
end
section
set_option linter.all false
namespace Go.Dc
open Go Go.Hw Go.Proofs
set_option maxRecDepth 100000
def r08_Clone_L1 : List Func → Nat → (List Func) → Option (List Func)
  | [], k240, l241 => some (l241)
  | x283 :: q279, k240, l241 => Option.bind (some (([] : List Inst))) (fun l298 => guardO (limB 64 (l298.length + x283.Code.length)) (Option.bind (some (l298 ++ x283.Code)) (fun l302 => Option.bind (some ([{ x283 with Code := l302 }])) (fun l304 => guardO (limB 40 (l241.length + l304.length)) (Option.bind (some (l241 ++ l304)) (fun l307 => r08_Clone_L1 q279 (k240 + 1) l307))))))

def r08_Clone (a0 : Program) : Option Program :=
  Option.bind (some (([] : List Var))) (fun l21 => guardO (limB 24 (l21.length + a0.Vars.length)) (Option.bind (some (l21 ++ a0.Vars)) (fun l24 => Option.bind (some (([] : List ByteArray))) (fun l26 => guardO (limB 16 (l26.length + a0.Mutexes.length)) (Option.bind (some (l26 ++ a0.Mutexes)) (fun l29 => Option.bind (some (([] : List ByteArray))) (fun l31 => guardO (limB 16 (l31.length + a0.Conds.length)) (Option.bind (some (l31 ++ a0.Conds)) (fun l34 => Option.bind (some (([] : List Start))) (fun l36 => guardO (limB 16 (l36.length + a0.Threads.length)) (Option.bind (some (l36 ++ a0.Threads)) (fun l39 => Option.bind (α := (List Func)) (Option.bind (r08_Clone_L1 a0.Funcs 0 []) (fun l272 => some (l272))) (fun l173 => some ({ Vars := l24, Mutexes := l29, Conds := l34, Funcs := l173, Threads := l39 } : Program))))))))))))))

set_option maxHeartbeats 2000000 in
theorem at_r08_Clone {a0 : Program} {r : Program} (hs : r08_Clone a0 = some r) : CAt Tryd.prog 39 [.agg (eA a0)] [] (.ret (.agg [.sl (.r 0) 0 2 r.Vars.length, .sl (.r 1) 0 1 r.Mutexes.length, .sl (.r 2) 0 1 r.Conds.length, .sl (.r 3) 0 2 r.Funcs.length, .sl (.r 4) 0 2 r.Threads.length])) [(.r 0, .pure (encL r.Vars)), (.r 1, .pure (encL r.Mutexes)), (.r 2, .pure (encL r.Conds)), (.r 3, .cells (oencL r.Funcs)), (.r 4, .pure (encL r.Threads))] := by
  refine at_bound (by kernel_rfl) fun hb => ?_
  have hb1 : LenOk (.sl a0.Vars.length (encL a0.Vars)) := lkc hb
  have hb2 : LenOk (.sl a0.Mutexes.length (encL a0.Mutexes)) := lkc hb
  have hb3 : LenOk (.sl a0.Conds.length (encL a0.Conds)) := lkc hb
  have hb4 : LenOk (.sl a0.Funcs.length (encL a0.Funcs)) := lkc hb
  have hb5 : LenOk (.sl a0.Threads.length (encL a0.Threads)) := lkc hb
  refine at_code mixed Tryd.func39 (by kernel_rfl) rfl (by kernel_rfl) rfl fun Q hQ => ?_
  rw [r08_Clone] at hs
  revert hs; refine lK fun l21 hx22 hs => ?_
  have hx22n : l21.length = 0 := by rw [hx22]; rfl
  obtain ⟨g23, hs⟩ := guardO_some hs
  have g23 := limB_t g23
  obtain ⟨g23a, g23b⟩ := g23
  revert hs; refine lK fun l24 hx25 hs => ?_
  have hx25n : l24.length = (l21.length + a0.Vars.length) := by rw [hx25]; simp
  have hx25e : encL l24 = encL l21 ++ encL a0.Vars := by rw [hx25]; simp
  revert hs; refine lK fun l26 hx27 hs => ?_
  have hx27n : l26.length = 0 := by rw [hx27]; rfl
  obtain ⟨g28, hs⟩ := guardO_some hs
  have g28 := limB_t g28
  obtain ⟨g28a, g28b⟩ := g28
  revert hs; refine lK fun l29 hx30 hs => ?_
  have hx30n : l29.length = (l26.length + a0.Mutexes.length) := by rw [hx30]; simp
  have hx30e : encL l29 = encL l26 ++ encL a0.Mutexes := by rw [hx30]; simp
  revert hs; refine lK fun l31 hx32 hs => ?_
  have hx32n : l31.length = 0 := by rw [hx32]; rfl
  obtain ⟨g33, hs⟩ := guardO_some hs
  have g33 := limB_t g33
  obtain ⟨g33a, g33b⟩ := g33
  revert hs; refine lK fun l34 hx35 hs => ?_
  have hx35n : l34.length = (l31.length + a0.Conds.length) := by rw [hx35]; simp
  have hx35e : encL l34 = encL l31 ++ encL a0.Conds := by rw [hx35]; simp
  revert hs; refine lK fun l36 hx37 hs => ?_
  have hx37n : l36.length = 0 := by rw [hx37]; rfl
  obtain ⟨g38, hs⟩ := guardO_some hs
  have g38 := limB_t g38
  obtain ⟨g38a, g38b⟩ := g38
  revert hs; refine lK fun l39 hx40 hs => ?_
  have hx40n : l39.length = (l36.length + a0.Threads.length) := by rw [hx40]; simp
  have hx40e : encL l39 = encL l36 ++ encL a0.Threads := by rw [hx40]; simp
  have F1 := an hx22 (an hx25n (an hx25e (an hx27 (an hx30n (an hx30e (an hx32 (an hx35n (an hx35e (an hx37 (an hx40n hx40e))))))))))
  refine goD2 F1 ?_
  revert hs; refine bK fun o175 e174 hs => ?_
  refine awp_cutK (fun (v : (List Func)) (σ : St) => some (v) = some o175 ∧ σ.env 2 = .cell (.ref (.o 1 1 0) 0) ∧ σ.env 3 = .cell (.ref (.o 2 17 0) 0) ∧ σ.hp (.o 1 1 0) = some (.cells [.z, .z, .z, .z, .z]) ∧ σ.hp (.l 12) = some (.cells (oencL v)) ∧ σ.hp (.o 2 17 0) = some (.cells [.sl (.o 2 3 0) 0 2 l24.length, .sl (.o 2 7 0) 0 1 l29.length, .sl (.o 2 11 0) 0 1 l34.length, .sl (.l 12) 0 2 v.length, .sl (.o 2 15 0) 0 2 l39.length]) ∧ σ.hp (.o 2 3 0) = some (.pure (encL l24)) ∧ σ.hp (.o 2 7 0) = some (.pure (encL l29)) ∧ σ.hp (.o 2 11 0) = some (.pure (encL l34)) ∧ σ.hp (.o 2 15 0) = some (.pure (encL l39)) ∧ 3 ≤ σ.gen) (by rfl) (fun Q hK176 hX177 => ?_) (fun l173 σ3 hp => ?_)
  · refine goD F1 ?_
    revert e174; refine bK fun o274 e273 e174 => ?_
    refine awp_loopW (fun (v : (List Func) × Nat × (List Func)) (σ : St) => r08_Clone_L1 v.1 v.2.1 v.2.2 = some o274 ∧ v.1 = a0.Funcs.drop v.2.1 ∧ σ.env 1 = .cell (.ref (.o 1 0 0) 0) ∧ σ.env 2 = .cell (.ref (.o 1 1 0) 0) ∧ σ.env 3 = .cell (.ref (.o 2 17 0) 0) ∧ σ.env 4 = iV .i64 ((v.2.1 : Nat) : Int) ∧ σ.hp (.o 1 0 0) = some (.cells (eA a0)) ∧ σ.hp (.o 1 1 0) = some (.cells [.z, .z, .z, .z, .z]) ∧ σ.hp (.l 35) = some (.cells (oencL v.2.2)) ∧ σ.hp (.o 2 17 0) = some (.cells [.sl (.o 2 3 0) 0 2 l24.length, .sl (.o 2 7 0) 0 1 l29.length, .sl (.o 2 11 0) 0 1 l34.length, .sl (.l 35) 0 2 v.2.2.length, .sl (.o 2 15 0) 0 2 l39.length]) ∧ σ.hp (.o 2 3 0) = some (.pure (encL l24)) ∧ σ.hp (.o 2 7 0) = some (.pure (encL l29)) ∧ σ.hp (.o 2 11 0) = some (.pure (encL l34)) ∧ σ.hp (.o 2 15 0) = some (.pure (encL l39)) ∧ 3 ≤ σ.gen) (fun v => v.1.length) _ ((Gh.voidB _ (.l 35) (.o 2 17 0) 3 2 rfl (by simp [F1]; rfl) (by first | rfl | simp) (by simp)).trans (Gh.cel _ (.l 35))) (a0.Funcs, 0, []) ⟨e273, by simp, pv F1, pv F1, pv F1, pv F1, pv F1, pv F1, pv F1, pv F1, pv F1, pv F1, pv F1, pv F1, pg⟩ fun v σ6 hp L275 hL276 => ?_
    obtain ⟨q278, k240, l241⟩ := v
    dsimp only at hp hL276
    obtain ⟨e273, hd277, h5_1, h5_2, h5_3, h5_4, g5_0, g5_1, g5_2, g5_3, g5_4, g5_5, g5_6, g5_7, n5_g⟩ := hp
    have n5_0 : ¬ (σ6.gen = 0) := by omega
    have n5_1 : ¬ (σ6.gen = 1) := by omega
    rcases q278 with _ | ⟨x283, q279⟩
    · have hlt280 := drop_end hd277
      rw [r08_Clone_L1] at e273; try dsimp only at e273
      have F2 := an h5_1 (an h5_2 (an h5_3 (an h5_4 (an g5_0 (an g5_1 (an g5_2 (an g5_3 (an g5_4 (an g5_5 (an g5_6 (an g5_7 (an n5_0 n5_1))))))))))))
      refine goR F2 ?_
      refine condK_f (by simp [ltI]; omega) ?_
      obtain rfl := sj e273
      try dsimp only at e174
      exact hK176 l241 _ _ (Gh.ren _ (.l 35) (.l 12) (by simp) rfl rfl) ⟨e174, pv F2, pv F2, pv F2, pv F2, pv F2, pv F2, pv F2, pv F2, pv F2, pg⟩
    · obtain ⟨hx282, hlt280, hd284⟩ := drop_next hd277
      have ew281 := wrap_succ hlt280 (hb4).len
      rw [r08_Clone_L1] at e273; try dsimp only at e273
      have F3 := an h5_1 (an h5_2 (an h5_3 (an h5_4 (an g5_0 (an g5_1 (an g5_2 (an g5_3 (an g5_4 (an g5_5 (an g5_6 (an g5_7 (an n5_0 (an n5_1 (an hlt280 ew281))))))))))))))
      refine goR F3 ?_
      refine condK_t (by simp [ltI]; omega) ?_
      have f297 : partCV Tryd.prog 9 (encL a0.Funcs) (k240 * 2) = some (sV x283.Name) := partCV_enc hx282 (f := 0) (by simp)
      revert e273; refine lK fun l298 hx299 e273 => ?_
      have hx299n : l298.length = 0 := by rw [hx299]; rfl
      have f300 : partCV Tryd.prog 22 (encL a0.Funcs) (k240 * 2 + 1) = some (.cell (sC x283.Code)) := partCV_enc hx282 (f := 1) (by simp)
      obtain ⟨g301, e273⟩ := guardO_some e273
      have g301 := limB_t g301
      obtain ⟨g301a, g301b⟩ := g301
      revert e273; refine lK fun l302 hx303 e273 => ?_
      have hx303n : l302.length = (l298.length + x283.Code.length) := by rw [hx303]; simp
      have hx303e : encL l302 = encL l298 ++ encL x283.Code := by rw [hx303]; simp
      revert e273; refine lK fun l304 hx305 e273 => ?_
      have hx305n : l304.length = 1 := by rw [hx305]; rfl
      obtain ⟨g306, e273⟩ := guardO_some e273
      have g306 := limB_t g306
      obtain ⟨g306a, g306b⟩ := g306
      revert e273; refine lK fun l307 hx308 e273 => ?_
      have hx308n : l307.length = (l241.length + l304.length) := by rw [hx308]; simp
      have hx308e : encL l307 = encL l241 ++ encL l304 := by rw [hx308]; simp
      have f309a : (oencL l241 ++ ([tC x283.Name, .sl (.o (σ6.gen + 2) 15 0) 0 8 l302.length] : List AC))[l241.length * 2 + 1]? = some (.sl (.o (σ6.gen + 2) 15 0) 0 8 l302.length) := by first | rfl | (rw [List.getElem?_append_right (by simp)]; simp)
      have f309b : oencL l307 = oencL l241 ++ ([tC x283.Name, .own (.sp 8 l302.length (encL l302))] : List AC) := by rw [hx308]; simp [hx305]
      have F4 := an F3 (an f297 (an hx299 (an f300 (an hx303n (an hx303e (an hx305 (an hx308n (an f309a f309b))))))))
      refine goN F4 ?_
      refine awp_draw ?_
      refine goN F4 ?_
      refine awp_gh (by rfl) (Gh.close _ (.o (σ6.gen + 2) 18 0) (l241.length * 2 + 1)) ?_
      try simp only [St.frz, St.pur]
      refine goR F4 ?_
      exact hL276 (q279, (k240 + 1), l307) _ _ (Gh.ren _ (.o (σ6.gen + 2) 18 0) (.l 35) (by simp) rfl rfl) ⟨e273, hd284, pv F4, pv F4, pv F4, pv F4, pv F4, pv F4, pv F4, pv F4, pv F4, pv F4, pv F4, pv F4, pg⟩ (by simp)
  · obtain ⟨e174, h4_2, h4_3, g4_0, g4_1, g4_2, g4_3, g4_4, g4_5, g4_6, n4_g⟩ := hp
    obtain rfl := sj e174
    try dsimp only at hs
    have n4_0 : ¬ (σ3.gen = 0) := by omega
    have n4_1 : ¬ (σ3.gen = 1) := by omega
    have F5 := an h4_2 (an h4_3 (an g4_0 (an g4_1 (an g4_2 (an g4_3 (an g4_4 (an g4_5 (an g4_6 (an n4_0 n4_1)))))))))
    refine goD F5 ?_
    obtain rfl := sj hs
    refine hQ _ _ (ret2g _ ((Gh.ren _ (.o 2 3 0) (.r 0) (by simp) rfl rfl).trans ((Gh.ren _ (.o 2 7 0) (.r 1) (by simp) rfl rfl).trans ((Gh.ren _ (.o 2 11 0) (.r 2) (by simp) rfl rfl).trans ((Gh.ren _ (.l 12) (.r 3) (by simp) rfl rfl).trans (Gh.ren _ (.o 2 15 0) (.r 4) (by simp) rfl rfl))))) (by simp [St.frz, St.pur, F5]; rfl) (by first | rfl | (simp [St.frz, St.pur, F5]; done) | (rw [if_pos (by first | omega | (simp; omega))]; simp [St.frz, St.pur, F5]; first | omega | exact List.take_of_length_le (by simp; omega) | skip)) (pv F5))
end Go.Dc
end
section
set_option linter.all false
namespace Go.Dc
open Go Go.Hw Go.Proofs
set_option maxRecDepth 100000
def r14_Rewrite_L1 (a0 : Program) : List Spin → Nat → (List Func) → Option (List Func)
  | [], k248, l249 => some (l249)
  | x298 :: q294, k248, l249 => Option.bind (getI a0.Funcs x298.Func) (fun x309 => Option.bind (r14_Condition x309 x298.First) (fun y313 => Option.bind (getI l249 x298.Func) (fun x315 => Option.bind (getI x315.Code x298.First) (fun x325 => Option.bind (some (x315.Code.set ((x298.First).toNat) y313.1)) (fun l327 => Option.bind (some (l249.set ((x298.Func).toNat) ({ x315 with Code := l327 }))) (fun l331 => r14_Rewrite_L1 a0 q294 (k248 + 1) l331))))))

def r14_Rewrite (fuelN : Nat) (a0 : Program) : Option (Program × Int) :=
  Option.bind (r14_Find fuelN a0) (fun y1 => cond (!(eqI y1.2 0)) (some (({ Vars := [], Mutexes := [], Conds := [], Funcs := [], Threads := [] } : Program), y1.2)) (Option.bind (r08_Clone a0) (fun y4 => Option.bind (α := (List Func)) (guardO (lenB y1.1.length) (Option.bind (r14_Rewrite_L1 a0 y1.1 0 y4.Funcs) (fun l287 => some (l287)))) (fun l167 => some ({ y4 with Funcs := l167 }, 0)))))

end Go.Dc
end
section
set_option linter.all false
namespace Go.Dc
open Go Go.Hw Go.Proofs
set_option maxRecDepth 100000
def r08_same_L1 (a1 : List ByteArray) : List ByteArray → Nat → Option (Unit ⊕ Bool)
  | [], k73 => some (.inl ())
  | x98 :: q94, k73 => Option.bind (a1[k73]?) (fun x105 => cond (!(eqS x98 x105)) (some (.inr false)) (r08_same_L1 a1 q94 (k73 + 1)))

def r08_same (a0 : List ByteArray) (a1 : List ByteArray) : Option Bool :=
  cond (!(eqI ((a0.length : Nat) : Int) ((a1.length : Nat) : Int))) (some false) (Option.bind (α := Unit ⊕ Bool) (Option.bind (r08_same_L1 a1 a0 0) (fun o => match o with | .inl _ => some (.inl ()) | .inr r109 => some (.inr r109))) (fun o => match o with | .inl _ => some true | .inr r110 => some r110))

set_option maxHeartbeats 2000000 in
theorem at_r08_same {a0 : List ByteArray} {a1 : List ByteArray} {r : Bool} (hs : r08_same a0 a1 = some r) : At Tryd.prog 69 [.cell (sC a0), .cell (sC a1)] (bV r) := by
  refine at_bound (by kernel_rfl) fun hb => ?_
  have hb1 : LenOk (.sl a0.length (encL a0)) := lkc hb
  have hb2 : LenOk (.sl a1.length (encL a1)) := lkc hb
  refine at_code mixed Tryd.func69 (by kernel_rfl) rfl (by kernel_rfl) rfl fun Q hQ => ?_
  rw [r08_same] at hs
  refine goR f0 ?_
  revert hs; refine cS f0 ?_ ?_ <;> intro h1 hs
  · refine goR f0 ?_
    obtain rfl := sj hs
    exact hQ _ _ (rg f0 (Gh.refl _))
  · refine goR2 f0 ?_
    revert hs; refine bK fun o55 e54 hs => ?_
    refine awp_cutK (fun (v : Unit) (σ : St) => some (.inl v) = some o55 ∧ 3 ≤ σ.gen) (by rfl) (fun Q hK56 hX57 => ?_) (fun v σ3 hp => ?_)
    · refine goR f0 ?_
      revert e54; refine bK fun o89 e88 e54 => ?_
      refine awp_loopW (fun (v : (List ByteArray) × Nat) (σ : St) => r08_same_L1 a1 v.1 v.2 = some o89 ∧ v.1 = a0.drop v.2 ∧ σ.env 0 = .cell (sC a0) ∧ σ.env 1 = .cell (sC a1) ∧ σ.env 5 = iV .i64 ((v.2 : Nat) : Int) ∧ 3 ≤ σ.gen) (fun v => v.1.length) _ (Gh.refl _) (a0, 0) ⟨e88, by simp, pv f0, pv f0, pv f0, pg⟩ fun v σ6 hp L90 hL91 => ?_
      obtain ⟨q93, k73⟩ := v
      dsimp only at hp hL91
      obtain ⟨e88, hd92, h5_0, h5_1, h5_5, n5_g⟩ := hp
      rcases q93 with _ | ⟨x98, q94⟩
      · have hlt95 := drop_end hd92
        rw [r08_same_L1] at e88; try dsimp only at e88
        have F1 := an h5_0 (an h5_1 h5_5)
        refine goR F1 ?_
        refine condK_f (by simp [ltI]; omega) ?_
        obtain rfl := sj e88
        try dsimp only at e54
        exact hK56 () _ _ (Gh.refl _) ⟨e54, pg⟩
      · obtain ⟨hx97, hlt95, hd99⟩ := drop_next hd92
        have ew96 := wrap_succ hlt95 (hb1).len
        rw [r08_same_L1] at e88; try dsimp only at e88
        have F2 := an h5_0 (an h5_1 (an h5_5 (an hlt95 ew96)))
        refine goR F2 ?_
        refine condK_t (by simp [ltI]; omega) ?_
        have f104 : partCV Tryd.prog 9 (encL a0) (k73) = some (sV x98) := partCV_enc1 hx97 (by simp)
        revert e88; refine bK fun x105 hx106 e88 => ?_
        have hx106b := getN_some hx106
        have f107 : partCV Tryd.prog 9 (encL a1) (k73) = some (sV x105) := partCV_enc1 hx106 (by simp)
        have F3 := an F2 (an f104 f107)
        refine goD F3 ?_
        revert e88; refine cS F3 ?_ ?_ <;> intro h108 e88
        · refine goD F3 ?_
          obtain rfl := sj e88
          try dsimp only at e54
          obtain rfl := sj e54
          try dsimp only at hs
          refine hX57 _ _ (by simp) ?_
          refine goD F3 ?_
          obtain rfl := sj hs
          exact hQ _ _ (rg F3 (Gh.refl _))
        · refine goD F3 ?_
          exact hL91 (q94, (k73 + 1)) _ _ (Gh.refl _) ⟨e88, hd99, pv F3, pv F3, pv F3, pg⟩ (by simp)
    · obtain ⟨e54, n4_g⟩ := hp
      obtain rfl := sj e54
      try dsimp only at hs
      refine goR f0 ?_
      obtain rfl := sj hs
      exact hQ _ _ (rg f0 (Gh.refl _))
end Go.Dc
end
section
set_option linter.all false
namespace Go.Dc
open Go Go.Hw Go.Proofs
set_option maxRecDepth 100000
def r08_function_L1 (a1 : Func) : List Inst → Nat → Option (Unit ⊕ Bool)
  | [], k73 => some (.inl ())
  | x98 :: q94, k73 => Option.bind (a1.Code[k73]?) (fun x105 => cond (!(andB (eqI x98.Op x105.Op) (andB (eqI x98.A x105.A) (andB (eqI x98.B x105.B) (andB (eqI x98.C x105.C) (andB (eqI x98.Obj x105.Obj) (andB (eqI x98.N x105.N) (andB (eqI x98.Fn x105.Fn) (andB (eqI x98.Order x105.Order) true))))))))) (some (.inr false)) (r08_function_L1 a1 q94 (k73 + 1)))

def r08_function (a0 : Func) (a1 : Func) : Option Bool :=
  cond (orB (!(eqS a0.Name a1.Name)) (!(eqI ((a0.Code.length : Nat) : Int) ((a1.Code.length : Nat) : Int)))) (some false) (Option.bind (α := Unit ⊕ Bool) (Option.bind (r08_function_L1 a1 a0.Code 0) (fun o => match o with | .inl _ => some (.inl ()) | .inr r109 => some (.inr r109))) (fun o => match o with | .inl _ => some true | .inr r110 => some r110))

set_option maxHeartbeats 2000000 in
theorem at_r08_function {a0 : Func} {a1 : Func} {r : Bool} (hs : r08_function a0 a1 = some r) : At Tryd.prog 70 [.agg (eA a0), .agg (eA a1)] (bV r) := by
  refine at_bound (by kernel_rfl) fun hb => ?_
  have hb1 : LenOk (.sl a0.Code.length (encL a0.Code)) := lkc hb
  have hb2 : LenOk (.sl a1.Code.length (encL a1.Code)) := lkc hb
  refine at_code mixed Tryd.func70 (by kernel_rfl) rfl (by kernel_rfl) rfl fun Q hQ => ?_
  rw [r08_function] at hs
  refine goG f0 f0 ?_
  revert hs; refine cS f0 ?_ ?_ <;> intro h1 hs
  · refine goG f0 f0 ?_
    obtain rfl := sj hs
    exact hQ _ _ (rg f0 (Gh.refl _))
  · refine goG2 f0 f0 ?_
    revert hs; refine bK fun o55 e54 hs => ?_
    refine awp_cutK (fun (v : Unit) (σ : St) => some (.inl v) = some o55 ∧ 3 ≤ σ.gen) (by rfl) (fun Q hK56 hX57 => ?_) (fun v σ3 hp => ?_)
    · refine goG f0 f0 ?_
      revert e54; refine bK fun o89 e88 e54 => ?_
      refine awp_loopW (fun (v : (List Inst) × Nat) (σ : St) => r08_function_L1 a1 v.1 v.2 = some o89 ∧ v.1 = a0.Code.drop v.2 ∧ σ.env 2 = .cell (.ref (.o 1 0 0) 0) ∧ σ.env 3 = .cell (.ref (.o 1 1 0) 0) ∧ σ.env 5 = iV .i64 ((v.2 : Nat) : Int) ∧ σ.hp (.o 1 0 0) = some (.cells (eA a0)) ∧ σ.hp (.o 1 1 0) = some (.cells (eA a1)) ∧ 3 ≤ σ.gen) (fun v => v.1.length) _ (Gh.refl _) (a0.Code, 0) ⟨e88, by simp, pv f0, pv f0, pv f0, pv f0, pv f0, pg⟩ fun v σ6 hp L90 hL91 => ?_
      obtain ⟨q93, k73⟩ := v
      dsimp only at hp hL91
      obtain ⟨e88, hd92, h5_2, h5_3, h5_5, g5_0, g5_1, n5_g⟩ := hp
      have n5_0 : ¬ (σ6.gen = 0) := by omega
      rcases q93 with _ | ⟨x98, q94⟩
      · have hlt95 := drop_end hd92
        rw [r08_function_L1] at e88; try dsimp only at e88
        have F1 := an h5_2 (an h5_3 (an h5_5 (an g5_0 (an g5_1 n5_0))))
        refine goR F1 ?_
        refine condK_f (by simp [ltI]; omega) ?_
        obtain rfl := sj e88
        try dsimp only at e54
        exact hK56 () _ _ (Gh.refl _) ⟨e54, pg⟩
      · obtain ⟨hx97, hlt95, hd99⟩ := drop_next hd92
        have ew96 := wrap_succ hlt95 (hb1).len
        rw [r08_function_L1] at e88; try dsimp only at e88
        have F2 := an h5_2 (an h5_3 (an h5_5 (an g5_0 (an g5_1 (an n5_0 (an hlt95 ew96))))))
        refine goR F2 ?_
        refine condK_t (by simp [ltI]; omega) ?_
        have f104 : partCV Tryd.prog 71 (encL a0.Code) (k73 * 8) = some (.agg (eA x98)) := partCV_enc hx97 (f := 0) (by simp)
        revert e88; refine bK fun x105 hx106 e88 => ?_
        have hx106b := getN_some hx106
        have f107 : partCV Tryd.prog 71 (encL a1.Code) (k73 * 8) = some (.agg (eA x105)) := partCV_enc hx106 (f := 0) (by simp)
        have F3 := an F2 (an f104 f107)
        refine goD F3 ?_
        revert e88; refine cS F3 ?_ ?_ <;> intro h108 e88
        · refine goD F3 ?_
          obtain rfl := sj e88
          try dsimp only at e54
          obtain rfl := sj e54
          try dsimp only at hs
          refine hX57 _ _ (by simp) ?_
          refine goD F3 ?_
          obtain rfl := sj hs
          exact hQ _ _ (rg F3 (Gh.refl _))
        · refine goD F3 ?_
          exact hL91 (q94, (k73 + 1)) _ _ (Gh.refl _) ⟨e88, hd99, pv F3, pv F3, pv F3, pv F3, pv F3, pg⟩ (by simp)
    · obtain ⟨e54, n4_g⟩ := hp
      obtain rfl := sj e54
      try dsimp only at hs
      refine goG f0 f0 ?_
      obtain rfl := sj hs
      exact hQ _ _ (rg f0 (Gh.refl _))
end Go.Dc
end
section
set_option linter.all false
namespace Go.Dc
open Go Go.Hw Go.Proofs
set_option maxRecDepth 100000
def r08_Equal_L1 (a1 : Program) : List Var → Nat → Option (Unit ⊕ Bool)
  | [], k75 => some (.inl ())
  | x100 :: q96, k75 => Option.bind (a1.Vars[k75]?) (fun x107 => cond (!(andB (eqS x100.Name x107.Name) (andB (eqI x100.Init x107.Init) true))) (some (.inr false)) (r08_Equal_L1 a1 q96 (k75 + 1)))

def r08_Equal_L2 (a1 : Program) : List Func → Nat → Option (Unit ⊕ Bool)
  | [], k199 => some (.inl ())
  | x228 :: q224, k199 => Option.bind (a1.Funcs[k199]?) (fun x237 => Option.bind (r08_function x228 x237) (fun y240 => cond (!y240) (some (.inr false)) (r08_Equal_L2 a1 q224 (k199 + 1))))

def r08_Equal_L3 (a1 : Program) : List Start → Nat → Option (Unit ⊕ Bool)
  | [], k315 => some (.inl ())
  | x340 :: q336, k315 => Option.bind (a1.Threads[k315]?) (fun x347 => cond (!(andB (eqI x340.Func x347.Func) (andB (eqI x340.Arg x347.Arg) true))) (some (.inr false)) (r08_Equal_L3 a1 q336 (k315 + 1)))

def r08_Equal (a0 : Program) (a1 : Program) : Option Bool :=
  guardO (orB (!(eqI ((a0.Vars.length : Nat) : Int) ((a1.Vars.length : Nat) : Int))) ((r08_same a0.Mutexes a1.Mutexes).isSome)) (guardO (orB (!(!(orB (!(eqI ((a0.Vars.length : Nat) : Int) ((a1.Vars.length : Nat) : Int))) (!((r08_same a0.Mutexes a1.Mutexes).getD default))))) ((r08_same a0.Conds a1.Conds).isSome)) (cond (orB (orB (orB (orB (!(eqI ((a0.Vars.length : Nat) : Int) ((a1.Vars.length : Nat) : Int))) (!((r08_same a0.Mutexes a1.Mutexes).getD default))) (!((r08_same a0.Conds a1.Conds).getD default))) (!(eqI ((a0.Funcs.length : Nat) : Int) ((a1.Funcs.length : Nat) : Int)))) (!(eqI ((a0.Threads.length : Nat) : Int) ((a1.Threads.length : Nat) : Int)))) (some false) (Option.bind (α := Unit ⊕ Bool) (Option.bind (r08_Equal_L1 a1 a0.Vars 0) (fun o => match o with | .inl _ => some (.inl ()) | .inr r111 => some (.inr r111))) (fun o => match o with | .inl _ => Option.bind (α := Unit ⊕ Bool) (Option.bind (r08_Equal_L2 a1 a0.Funcs 0) (fun o => match o with | .inl _ => some (.inl ()) | .inr r243 => some (.inr r243))) (fun o => match o with | .inl _ => Option.bind (α := Unit ⊕ Bool) (Option.bind (r08_Equal_L3 a1 a0.Threads 0) (fun o => match o with | .inl _ => some (.inl ()) | .inr r351 => some (.inr r351))) (fun o => match o with | .inl _ => some true | .inr r352 => some r352) | .inr r353 => some r353) | .inr r354 => some r354))))

set_option maxHeartbeats 2000000 in
theorem at_r08_Equal {a0 : Program} {a1 : Program} {r : Bool} (hs : r08_Equal a0 a1 = some r) : At Tryd.prog 42 [.agg (eA a0), .agg (eA a1)] (bV r) := by
  refine at_bound (by kernel_rfl) fun hb => ?_
  have hb1 : LenOk (.sl a0.Vars.length (encL a0.Vars)) := lkc hb
  have hb2 : LenOk (.sl a0.Mutexes.length (encL a0.Mutexes)) := lkc hb
  have hb3 : LenOk (.sl a0.Conds.length (encL a0.Conds)) := lkc hb
  have hb4 : LenOk (.sl a0.Funcs.length (encL a0.Funcs)) := lkc hb
  have hb5 : LenOk (.sl a0.Threads.length (encL a0.Threads)) := lkc hb
  have hb6 : LenOk (.sl a1.Vars.length (encL a1.Vars)) := lkc hb
  have hb7 : LenOk (.sl a1.Mutexes.length (encL a1.Mutexes)) := lkc hb
  have hb8 : LenOk (.sl a1.Conds.length (encL a1.Conds)) := lkc hb
  have hb9 : LenOk (.sl a1.Funcs.length (encL a1.Funcs)) := lkc hb
  have hb10 : LenOk (.sl a1.Threads.length (encL a1.Threads)) := lkc hb
  refine at_code mixed Tryd.func42 (by kernel_rfl) rfl (by kernel_rfl) rfl fun Q hQ => ?_
  rw [r08_Equal] at hs
  refine goG f0 f0 ?_
  obtain ⟨g1, hs⟩ := guardO_some hs
  refine gsel_call (fun hg => at_r08_same (under_call g1 hg)) (fun hg => by (try simp at hg); (first | simp [hg, id]); try rfl) (fun hg => by (try simp at hg); simp [hg, id]) (by simp) ?_
  refine goG f0 f0 ?_
  obtain ⟨g2, hs⟩ := guardO_some hs
  refine gsel_call (fun hg => at_r08_same (under_call g2 hg)) (fun hg => by (try simp at hg); (first | simp [hg, id]); try rfl) (fun hg => by (try simp at hg); simp [hg, id]) (by simp) ?_
  refine goG f0 f0 ?_
  revert hs; refine cS f0 ?_ ?_ <;> intro h3 hs
  · refine goG f0 f0 ?_
    obtain rfl := sj hs
    exact hQ _ _ (rg f0 (Gh.refl _))
  · refine goG2 f0 f0 ?_
    revert hs; refine bK fun o57 e56 hs => ?_
    refine awp_cutK (fun (v : Unit) (σ : St) => some (.inl v) = some o57 ∧ σ.env 2 = .cell (.ref (.o 1 0 0) 0) ∧ σ.env 3 = .cell (.ref (.o 1 1 0) 0) ∧ σ.hp (.o 1 0 0) = some (.cells (eA a0)) ∧ σ.hp (.o 1 1 0) = some (.cells (eA a1)) ∧ 3 ≤ σ.gen) (by rfl) (fun Q hK58 hX59 => ?_) (fun v σ3 hp => ?_)
    · refine goG f0 f0 ?_
      revert e56; refine bK fun o91 e90 e56 => ?_
      refine awp_loopW (fun (v : (List Var) × Nat) (σ : St) => r08_Equal_L1 a1 v.1 v.2 = some o91 ∧ v.1 = a0.Vars.drop v.2 ∧ σ.env 2 = .cell (.ref (.o 1 0 0) 0) ∧ σ.env 3 = .cell (.ref (.o 1 1 0) 0) ∧ σ.env 5 = iV .i64 ((v.2 : Nat) : Int) ∧ σ.hp (.o 1 0 0) = some (.cells (eA a0)) ∧ σ.hp (.o 1 1 0) = some (.cells (eA a1)) ∧ 3 ≤ σ.gen) (fun v => v.1.length) _ (Gh.refl _) (a0.Vars, 0) ⟨e90, by simp, pv f0, pv f0, pv f0, pv f0, pv f0, pg⟩ fun v σ6 hp L92 hL93 => ?_
      obtain ⟨q95, k75⟩ := v
      dsimp only at hp hL93
      obtain ⟨e90, hd94, h5_2, h5_3, h5_5, g5_0, g5_1, n5_g⟩ := hp
      have n5_0 : ¬ (σ6.gen = 0) := by omega
      rcases q95 with _ | ⟨x100, q96⟩
      · have hlt97 := drop_end hd94
        rw [r08_Equal_L1] at e90; try dsimp only at e90
        have F1 := an h5_2 (an h5_3 (an h5_5 (an g5_0 (an g5_1 n5_0))))
        refine goR F1 ?_
        refine condK_f (by simp [ltI]; omega) ?_
        obtain rfl := sj e90
        try dsimp only at e56
        exact hK58 () _ _ (Gh.refl _) ⟨e56, pv F1, pv F1, pv F1, pv F1, pg⟩
      · obtain ⟨hx99, hlt97, hd101⟩ := drop_next hd94
        have ew98 := wrap_succ hlt97 (hb1).len
        rw [r08_Equal_L1] at e90; try dsimp only at e90
        have F2 := an h5_2 (an h5_3 (an h5_5 (an g5_0 (an g5_1 (an n5_0 (an hlt97 ew98))))))
        refine goR F2 ?_
        refine condK_t (by simp [ltI]; omega) ?_
        have f106 : partCV Tryd.prog 105 (encL a0.Vars) (k75 * 2) = some (.agg (eA x100)) := partCV_enc hx99 (f := 0) (by simp)
        revert e90; refine bK fun x107 hx108 e90 => ?_
        have hx108b := getN_some hx108
        have f109 : partCV Tryd.prog 105 (encL a1.Vars) (k75 * 2) = some (.agg (eA x107)) := partCV_enc hx108 (f := 0) (by simp)
        have F3 := an F2 (an f106 f109)
        refine goD F3 ?_
        revert e90; refine cS F3 ?_ ?_ <;> intro h110 e90
        · refine goD F3 ?_
          obtain rfl := sj e90
          try dsimp only at e56
          obtain rfl := sj e56
          try dsimp only at hs
          refine hX59 _ _ (by simp) ?_
          refine goD F3 ?_
          obtain rfl := sj hs
          exact hQ _ _ (rg F3 (Gh.refl _))
        · refine goD F3 ?_
          exact hL93 (q96, (k75 + 1)) _ _ (Gh.refl _) ⟨e90, hd101, pv F3, pv F3, pv F3, pv F3, pv F3, pg⟩ (by simp)
    · obtain ⟨e56, h4_2, h4_3, g4_0, g4_1, n4_g⟩ := hp
      obtain rfl := sj e56
      try dsimp only at hs
      have n4_0 : ¬ (σ3.gen = 0) := by omega
      have F4 := an h4_2 (an h4_3 (an g4_0 (an g4_1 n4_0)))
      refine goG2 F4 F4 ?_
      revert hs; refine bK fun o177 e176 hs => ?_
      refine awp_cutK (fun (v : Unit) (σ : St) => some (.inl v) = some o177 ∧ σ.env 2 = .cell (.ref (.o 1 0 0) 0) ∧ σ.env 3 = .cell (.ref (.o 1 1 0) 0) ∧ σ.hp (.o 1 0 0) = some (.cells (eA a0)) ∧ σ.hp (.o 1 1 0) = some (.cells (eA a1)) ∧ (σ3.gen + 1) ≤ σ.gen) (by rfl) (fun Q hK178 hX179 => ?_) (fun v σ9 hp => ?_)
      · refine goG F4 F4 ?_
        revert e176; refine bK fun o219 e218 e176 => ?_
        refine awp_loopW (fun (v : (List Func) × Nat) (σ : St) => r08_Equal_L2 a1 v.1 v.2 = some o219 ∧ v.1 = a0.Funcs.drop v.2 ∧ σ.env 2 = .cell (.ref (.o 1 0 0) 0) ∧ σ.env 3 = .cell (.ref (.o 1 1 0) 0) ∧ σ.env 6 = iV .i64 ((v.2 : Nat) : Int) ∧ σ.hp (.o 1 0 0) = some (.cells (eA a0)) ∧ σ.hp (.o 1 1 0) = some (.cells (eA a1)) ∧ (σ3.gen + 1) ≤ σ.gen) (fun v => v.1.length) _ (Gh.refl _) (a0.Funcs, 0) ⟨e218, by simp, pv F4, pv F4, pv F4, pv F4, pv F4, pg⟩ fun v σ12 hp L220 hL221 => ?_
        obtain ⟨q223, k199⟩ := v
        dsimp only at hp hL221
        obtain ⟨e218, hd222, h11_2, h11_3, h11_6, g11_0, g11_1, n11_g⟩ := hp
        have n11_0 : ¬ (σ12.gen = 0) := by omega
        rcases q223 with _ | ⟨x228, q224⟩
        · have hlt225 := drop_end hd222
          rw [r08_Equal_L2] at e218; try dsimp only at e218
          have F5 := an h11_2 (an h11_3 (an h11_6 (an g11_0 (an g11_1 n11_0))))
          refine goR F5 ?_
          refine condK_f (by simp [ltI]; omega) ?_
          obtain rfl := sj e218
          try dsimp only at e176
          exact hK178 () _ _ (Gh.refl _) ⟨e176, pv F5, pv F5, pv F5, pv F5, pg⟩
        · obtain ⟨hx227, hlt225, hd229⟩ := drop_next hd222
          have ew226 := wrap_succ hlt225 (hb4).len
          rw [r08_Equal_L2] at e218; try dsimp only at e218
          have F6 := an h11_2 (an h11_3 (an h11_6 (an g11_0 (an g11_1 (an n11_0 (an hlt225 ew226))))))
          refine goR F6 ?_
          refine condK_t (by simp [ltI]; omega) ?_
          have f236 : partCV Tryd.prog 24 (encL a0.Funcs) (k199 * 2) = some (.agg (eA x228)) := partCV_enc hx227 (f := 0) (by simp)
          revert e218; refine bK fun x237 hx238 e218 => ?_
          have hx238b := getN_some hx238
          have f239 : partCV Tryd.prog 24 (encL a1.Funcs) (k199 * 2) = some (.agg (eA x237)) := partCV_enc hx238 (f := 0) (by simp)
          have F7 := an F6 (an f236 f239)
          refine goD F7 ?_
          revert e218; refine bK fun y240 hx241 e218 => ?_
          refine cP F7 (at_r08_function hx241) ?_
          refine goD F7 ?_
          revert e218; refine cS F7 ?_ ?_ <;> intro h242 e218
          · refine goD F7 ?_
            obtain rfl := sj e218
            try dsimp only at e176
            obtain rfl := sj e176
            try dsimp only at hs
            refine hX179 _ _ (by simp) ?_
            refine goD F7 ?_
            obtain rfl := sj hs
            exact hQ _ _ (rg F7 (Gh.refl _))
          · refine goD F7 ?_
            exact hL221 (q224, (k199 + 1)) _ _ (Gh.refl _) ⟨e218, hd229, pv F7, pv F7, pv F7, pv F7, pv F7, pg⟩ (by simp)
      · obtain ⟨e176, h10_2, h10_3, g10_0, g10_1, n10_g⟩ := hp
        obtain rfl := sj e176
        try dsimp only at hs
        have n10_0 : ¬ (σ9.gen = 0) := by omega
        have F8 := an h10_2 (an h10_3 (an g10_0 (an g10_1 n10_0)))
        refine goG2 F8 F8 ?_
        revert hs; refine bK fun o297 e296 hs => ?_
        refine awp_cutK (fun (v : Unit) (σ : St) => some (.inl v) = some o297 ∧ (σ9.gen + 1) ≤ σ.gen) (by rfl) (fun Q hK298 hX299 => ?_) (fun v σ15 hp => ?_)
        · refine goG F8 F8 ?_
          revert e296; refine bK fun o331 e330 e296 => ?_
          refine awp_loopW (fun (v : (List Start) × Nat) (σ : St) => r08_Equal_L3 a1 v.1 v.2 = some o331 ∧ v.1 = a0.Threads.drop v.2 ∧ σ.env 2 = .cell (.ref (.o 1 0 0) 0) ∧ σ.env 3 = .cell (.ref (.o 1 1 0) 0) ∧ σ.env 7 = iV .i64 ((v.2 : Nat) : Int) ∧ σ.hp (.o 1 0 0) = some (.cells (eA a0)) ∧ σ.hp (.o 1 1 0) = some (.cells (eA a1)) ∧ (σ9.gen + 1) ≤ σ.gen) (fun v => v.1.length) _ (Gh.refl _) (a0.Threads, 0) ⟨e330, by simp, pv F8, pv F8, pv F8, pv F8, pv F8, pg⟩ fun v σ18 hp L332 hL333 => ?_
          obtain ⟨q335, k315⟩ := v
          dsimp only at hp hL333
          obtain ⟨e330, hd334, h17_2, h17_3, h17_7, g17_0, g17_1, n17_g⟩ := hp
          have n17_0 : ¬ (σ18.gen = 0) := by omega
          rcases q335 with _ | ⟨x340, q336⟩
          · have hlt337 := drop_end hd334
            rw [r08_Equal_L3] at e330; try dsimp only at e330
            have F9 := an h17_2 (an h17_3 (an h17_7 (an g17_0 (an g17_1 n17_0))))
            refine goR F9 ?_
            refine condK_f (by simp [ltI]; omega) ?_
            obtain rfl := sj e330
            try dsimp only at e296
            exact hK298 () _ _ (Gh.refl _) ⟨e296, pg⟩
          · obtain ⟨hx339, hlt337, hd341⟩ := drop_next hd334
            have ew338 := wrap_succ hlt337 (hb5).len
            rw [r08_Equal_L3] at e330; try dsimp only at e330
            have F10 := an h17_2 (an h17_3 (an h17_7 (an g17_0 (an g17_1 (an n17_0 (an hlt337 ew338))))))
            refine goR F10 ?_
            refine condK_t (by simp [ltI]; omega) ?_
            have f346 : partCV Tryd.prog 108 (encL a0.Threads) (k315 * 2) = some (.agg (eA x340)) := partCV_enc hx339 (f := 0) (by simp)
            revert e330; refine bK fun x347 hx348 e330 => ?_
            have hx348b := getN_some hx348
            have f349 : partCV Tryd.prog 108 (encL a1.Threads) (k315 * 2) = some (.agg (eA x347)) := partCV_enc hx348 (f := 0) (by simp)
            have F11 := an F10 (an f346 f349)
            refine goD F11 ?_
            revert e330; refine cS F11 ?_ ?_ <;> intro h350 e330
            · refine goD F11 ?_
              obtain rfl := sj e330
              try dsimp only at e296
              obtain rfl := sj e296
              try dsimp only at hs
              refine hX299 _ _ (by simp) ?_
              refine goD F11 ?_
              obtain rfl := sj hs
              exact hQ _ _ (rg F11 (Gh.refl _))
            · refine goD F11 ?_
              exact hL333 (q336, (k315 + 1)) _ _ (Gh.refl _) ⟨e330, hd341, pv F11, pv F11, pv F11, pv F11, pv F11, pg⟩ (by simp)
        · obtain ⟨e296, n16_g⟩ := hp
          obtain rfl := sj e296
          try dsimp only at hs
          refine goG f0 f0 ?_
          obtain rfl := sj hs
          exact hQ _ _ (rg f0 (Gh.refl _))
end Go.Dc
end
section
set_option linter.all false
namespace Go.Dc
open Go Go.Hw Go.Proofs
set_option maxRecDepth 100000

def law14_AwaitRewrites (fuelN : Nat) (a0 : Program) : Option Bool :=
  Option.bind (r08_Small a0) (fun y1 => cond (!y1) (Option.bind (law14_lives fuelN) (fun y4 => some y4)) (Option.bind (r08_Clone a0) (fun y6 => Option.bind (await_Rewrite fuelN a0) (fun y8 => Option.bind (r14_Rewrite fuelN a0) (fun y10 => guardO (orB (!(eqI y8.2 y10.2)) ((r08_Equal y8.1 y10.1).isSome)) (cond (andB (eqI y8.2 y10.2) ((r08_Equal y8.1 y10.1).getD default)) (Option.bind (r08_Equal a0 y6) (fun y14 => guardO (orB (!y14) ((law14_lives fuelN).isSome)) (some (andB y14 ((law14_lives fuelN).getD default))))) (some false)))))))

end Go.Dc
end
section
set_option linter.all false
namespace Go.Dc.Pl
open Go Go.Hw Go.Dc
set_option maxRecDepth 100000
theorem first_noneF {α β : Type} : ∀ (l : List α) (k : Nat), first (fun _ _ => (none : Option β)) l k = none
  | [], _ => rfl
  | x :: q, k => by rw [first_cons]; exact first_noneF q _
theorem same_str (l : List ByteArray) : r08_same l l = some true := by
  have h := srch (L := r08_same_L1 l) (fun _ _ => none) (fun _ => rfl) l 0 fun j x hx q => by
    rw [Nat.zero_add, r08_same_L1, hx, Option.bind_some, eqS_refl]; rfl
  rw [r08_same, h, show eqI ((l.length : Nat) : Int) ((l.length : Nat) : Int) = true by simp [eqI], first_noneF]; rfl
theorem same_fun (f : Func) : r08_function f f = some true := by
  have h := srch (L := r08_function_L1 f) (fun _ _ => none) (fun _ => rfl) f.Code 0 fun j x hx q => by
    rw [Nat.zero_add, r08_function_L1, hx, Option.bind_some]; simp [eqI, andB]
  rw [r08_function, h, show eqI ((f.Code.length : Nat) : Int) ((f.Code.length : Nat) : Int) = true by simp [eqI], eqS_refl, first_noneF]; rfl
theorem equal_refl (p : Program) : r08_Equal p p = some true := by
  have h1 := srch (L := r08_Equal_L1 p) (fun _ _ => none) (fun _ => rfl) p.Vars 0 fun j x hx q => by
    rw [Nat.zero_add, r08_Equal_L1, hx, Option.bind_some]; simp [eqI, andB, eqS]
  have h2 := srch (L := r08_Equal_L2 p) (fun _ _ => none) (fun _ => rfl) p.Funcs 0 fun j x hx q => by
    rw [Nat.zero_add, r08_Equal_L2, hx, Option.bind_some, same_fun]; rfl
  have h3 := srch (L := r08_Equal_L3 p) (fun _ _ => none) (fun _ => rfl) p.Threads 0 fun j x hx q => by
    rw [Nat.zero_add, r08_Equal_L3, hx, Option.bind_some]; simp [eqI, andB]
  have he : ∀ n : Nat, eqI (n : Int) (n : Int) = true := fun n => by simp [eqI]
  rw [r08_Equal, h1, h2, h3, same_str, same_str, he, he, he, first_noneF, first_noneF, first_noneF]; rfl
theorem refclone {p : Program} (hp : small p = true) : r08_Clone p = some p := by
  obtain ⟨s1, s2, s3, s4, s5, s6⟩ := small_t hp
  have hL : ∀ (l : List Func) (k : Nat) (a : List Func), (∀ f ∈ l, f.Code.length ≤ 100) → a.length + l.length ≤ 20 → r08_Clone_L1 l k a = some (a ++ l) := fun l => by
    induction l with
    | nil => intro k a _ _; rw [r08_Clone_L1]; simp
    | cons x q ih =>
      intro k a hc ha
      rw [r08_Clone_L1, Option.bind_some, show limB 64 ([].length + x.Code.length) = true from limB_of (m := 100) (by have := hc x (by simp); simpa using this) (by decide), guardO_t, Option.bind_some, Option.bind_some,
        show limB 40 (a.length + [({ x with Code := [] ++ x.Code } : Func)].length) = true from limB_of (m := 20) (by simp at ha ⊢; omega) (by decide), guardO_t, Option.bind_some, ih _ _ (fun f hf => hc f (by simp [hf])) (by simp at ha ⊢; omega)]
      simp
  simp only [r08_Clone, Option.bind_some, List.nil_append, List.length_nil, Nat.zero_add]
  rw [show limB 24 p.Vars.length = true from limB_of (m := 20) s1 (by decide), show limB 16 p.Mutexes.length = true from limB_of (m := 20) s2 (by decide), show limB 16 p.Conds.length = true from limB_of (m := 20) s3 (by decide), show limB 16 p.Threads.length = true from limB_of (m := 20) s5 (by decide), hL p.Funcs 0 [] s6 (by simpa using s4)]
  rfl
theorem ownclone {p : Program} (hp : small p = true) : program_Clone p = some p := by
  obtain ⟨s1, s2, s3, s4, s5, s6⟩ := small_t hp
  have hL : ∀ (q k : Nat), k + q = p.Funcs.length → program_Clone_L1 p q k p.Funcs = some p.Funcs := fun q => by
    induction q with
    | zero => intro k h; rw [program_Clone_L1, show decide (p.Funcs.length ≤ k) = true by simp; omega]; rfl
    | succ q ih =>
      intro k h
      have hf := fOf_eq (p := p) (k := k) (by omega)
      rw [program_Clone_L1, hf, Option.bind_some, slices_Clone_api_Inst, show limB 64 (fOf p k).Code.length = true from limB_of (m := 100) (fOf_le hp k) (by decide), guardO_t, Option.bind_some, Option.bind_some, Option.bind_some]
      rw [show p.Funcs.set k { fOf p k with Code := (fOf p k).Code } = p.Funcs from ?_, ih (k + 1) (by omega)]
      apply List.ext_getElem?
      intro j
      rw [List.getElem?_set]
      split
      · rename_i e; subst e; rw [if_pos (by omega), hf]
      · rfl
  rw [program_Clone, slices_Clone_api_Var, slices_Clone_string, slices_Clone_string, slices_Clone_api_Func, slices_Clone_api_Start,
    show limB 24 p.Vars.length = true from limB_of (m := 20) s1 (by decide), show limB 16 p.Mutexes.length = true from limB_of (m := 20) s2 (by decide), show limB 16 p.Conds.length = true from limB_of (m := 20) s3 (by decide), show limB 40 p.Funcs.length = true from limB_of (m := 20) s4 (by decide), show limB 16 p.Threads.length = true from limB_of (m := 20) s5 (by decide)]
  simp only [guardO_t, Option.bind_some]
  rw [show lenB p.Funcs.length = true by rw [lenB_d]; simp; omega, guardO_t, hL p.Funcs.length 0 (by omega)]
  rfl
/-- What a spin says of the program. -/
def Spun (p : Program) (x : AwaitSpin) : Prop := ∃ k i : Nat, x.fn = (k : Int) ∧ x.first = (i : Int) ∧ k < p.Funcs.length ∧ i < (fOf p k).Code.length ∧ awF (fOf p k) i = some x.await
theorem spun (p : Program) : ∀ x ∈ spins p, Spun p x := fun x hx => by
  simp only [spins, spinsOf, List.mem_flatMap, List.mem_range] at hx
  obtain ⟨k, hk, i, hi, hx⟩ := hx
  rw [spinO] at hx
  cases h : awF (gd p.Funcs k) i with
  | none => rw [h] at hx; cases hx
  | some y => rw [h] at hx; obtain rfl := List.mem_singleton.1 hx; exact ⟨k, i, rfl, rfl, hk, hi, h⟩
/-- The same lists of code, by their lengths. -/
def Like (p : Program) (l : List Func) : Prop := l.length = p.Funcs.length ∧ ∀ (k : Nat) (f : Func), l[k]? = some f → f.Code.length = (fOf p k).Code.length
end Go.Dc.Pl
end
section
set_option linter.all false
namespace Go.Dc.Pl
open Go Go.Hw Go.Dc
set_option maxRecDepth 100000
/-- The code in which the loads of spins have become awaits. -/
def rwL (f : Func) : List Inst := f.Code.zipIdx.map fun x => (awF f x.2).getD x.1
def rwF (f : Func) : Func := { f with Code := rwL f }
def rwP (p : Program) : Program := { p with Funcs := p.Funcs.map rwF }
theorem rwL_len (f : Func) : (rwL f).length = f.Code.length := by simp [rwL]
theorem rwL_get (f : Func) (i : Nat) : (rwL f)[i]? = (f.Code[i]?).map fun c => (awF f i).getD c := by
  rw [rwL, List.getElem?_map, List.getElem?_zipIdx]
  cases f.Code[i]? <;> simp
theorem upd_ext {l l' : List Func} (h : l.length = l'.length) (hk : ∀ (k : Nat) (f f' : Func), l[k]? = some f → l'[k]? = some f' → f = f') : l = l' := by
  apply List.ext_getElem?
  intro k
  rcases Nat.lt_or_ge k l.length with h1 | h1
  · have a := List.getElem?_eq_getElem h1
    have b := List.getElem?_eq_getElem (show k < l'.length by omega)
    rw [a, b, hk k _ _ a b]
  · rw [List.getElem?_eq_none h1, List.getElem?_eq_none (by omega)]
theorem code_ext {l l' : List Inst} (h : l.length = l'.length) (hk : ∀ (k : Nat) (f f' : Inst), l[k]? = some f → l'[k]? = some f' → f = f') : l = l' := by
  apply List.ext_getElem?
  intro k
  rcases Nat.lt_or_ge k l.length with h1 | h1
  · have a := List.getElem?_eq_getElem h1
    have b := List.getElem?_eq_getElem (show k < l'.length by omega)
    rw [a, b, hk k _ _ a b]
  · rw [List.getElem?_eq_none h1, List.getElem?_eq_none (by omega)]
/-- What has been done when the spins of a set have been written. -/
structure Done (p : Program) (S : Nat → Nat → Prop) (l : List Func) : Prop where
  len : l.length = p.Funcs.length
  name : ∀ (k : Nat) (f : Func), l[k]? = some f → f.Name = (fOf p k).Name
  size : ∀ (k : Nat) (f : Func), l[k]? = some f → f.Code.length = (fOf p k).Code.length
  yes : ∀ (k : Nat) (f : Func), l[k]? = some f → ∀ i c, f.Code[i]? = some c → S k i → awF (fOf p k) i = some c
  no : ∀ (k : Nat) (f : Func), l[k]? = some f → ∀ i c, f.Code[i]? = some c → ¬ S k i → (fOf p k).Code[i]? = some c
def inS (q : List AwaitSpin) (k i : Nat) : Prop := ∃ x ∈ q, x.fn = (k : Int) ∧ x.first = (i : Int)
theorem Done.step {p : Program} {S S' : Nat → Nat → Prop} {l : List Func} (h : Done p S l) {k i : Nat} {y : Inst} (hy : awF (fOf p k) i = some y) {f : Func} (hf : l[k]? = some f)
    (hS : ∀ a b, S' a b ↔ S a b ∨ (a = k ∧ b = i)) : Done p S' (l.set k { f with Code := f.Code.set i y }) := by
  have key : ∀ (a : Nat) (g : Func), (l.set k { f with Code := f.Code.set i y })[a]? = some g → (a = k ∧ g = { f with Code := f.Code.set i y }) ∨ (a ≠ k ∧ l[a]? = some g) := by
    intro a g hg
    rw [List.getElem?_set] at hg
    split at hg
    · rename_i e
      split at hg
      · left; exact ⟨e.symm, (Option.some.inj hg).symm⟩
      · cases hg
    · rename_i e; right; exact ⟨fun h => e h.symm, hg⟩
  refine ⟨by rw [List.length_set]; exact h.len, fun a g hg => ?_, fun a g hg => ?_, fun a g hg b c hc hs => ?_, fun a g hg b c hc hs => ?_⟩
  · rcases key a g hg with ⟨rfl, rfl⟩ | ⟨_, h2⟩
    · exact h.name a f hf
    · exact h.name a g h2
  · rcases key a g hg with ⟨rfl, rfl⟩ | ⟨_, h2⟩
    · simpa using h.size a f hf
    · exact h.size a g h2
  · rcases key a g hg with ⟨rfl, rfl⟩ | ⟨hne, h2⟩
    · simp only [List.getElem?_set] at hc
      split at hc
      · rename_i e; subst e
        split at hc
        · rw [← Option.some.inj hc]; exact hy
        · cases hc
      · rename_i e
        rcases (hS _ _).1 hs with h3 | ⟨_, h3⟩
        · exact h.yes a f hf b c hc h3
        · exact absurd h3.symm e
    · rcases (hS _ _).1 hs with h3 | ⟨h3, _⟩
      · exact h.yes a g h2 b c hc h3
      · exact absurd h3 hne
  · rcases key a g hg with ⟨rfl, rfl⟩ | ⟨hne, h2⟩
    · simp only [List.getElem?_set] at hc
      split at hc
      · rename_i e; subst e; exact absurd ((hS _ _).2 (.inr ⟨rfl, rfl⟩)) hs
      · exact h.no a f hf b c hc fun h3 => hs ((hS _ _).2 (.inl h3))
    · exact h.no a g h2 b c hc fun h3 => hs ((hS _ _).2 (.inl h3))
theorem own_L1 {p : Program} : ∀ (q : List AwaitSpin) (k1 : Nat) (l : List Func) (S : Nat → Nat → Prop), (∀ x ∈ q, Spun p x) → Done p S l → ∃ r, await_Rewrite_L1 q k1 l = some r ∧ Done p (fun a b => S a b ∨ inS q a b) r
  | [], _, l, S, _, hl => ⟨l, rfl, by
      have e : (fun a b => S a b ∨ inS [] a b) = S := by funext a b; simp [inS]
      rw [e]; exact hl⟩
  | x :: q, k1, l, S, hq, hl => by
    obtain ⟨k, i, h1, h2, h3, h4, h5⟩ := hq x (by simp)
    obtain ⟨f, hf⟩ : ∃ f, l[k]? = some f := ⟨_, List.getElem?_eq_getElem (by rw [hl.len]; exact h3)⟩
    have hlen := hl.size k f hf
    obtain ⟨c, hc⟩ : ∃ c, f.Code[i]? = some c := ⟨_, List.getElem?_eq_getElem (by rw [hlen]; exact h4)⟩
    obtain ⟨r, e1, e2⟩ := own_L1 q (k1 + 1) (l.set k { f with Code := f.Code.set i x.await }) (fun a b => S a b ∨ (a = k ∧ b = i)) (fun y hy => hq y (by simp [hy])) (hl.step h5 hf fun a b => Iff.rfl)
    refine ⟨r, ?_, ?_⟩
    · rw [await_Rewrite_L1, h1, getI_nat, hf, Option.bind_some, h2, getI_nat, hc, Option.bind_some, Option.bind_some, Option.bind_some, Int.toNat_natCast, Int.toNat_natCast]
      exact e1
    · have e : (fun a b => S a b ∨ inS (x :: q) a b) = fun a b => (S a b ∨ (a = k ∧ b = i)) ∨ inS q a b := by
        funext a b
        simp only [inS, List.mem_cons, exists_eq_or_imp, h1, h2, or_assoc, eq_iff_iff]
        have : (((k : Int) = (a : Int)) ∧ ((i : Int) = (b : Int))) ↔ (a = k ∧ b = i) := by omega
        rw [this]
      rw [e]; exact e2
theorem mem_spins {p : Program} {k i : Nat} (hk : k < p.Funcs.length) : inS (spins p) k i ↔ (awF (fOf p k) i).isSome = true := by
  constructor
  · rintro ⟨x, hx, h1, h2⟩
    obtain ⟨a, b, e1, e2, e3, e4, e5⟩ := spun p x hx
    obtain rfl : a = k := by omega
    obtain rfl : b = i := by omega
    rw [e5]; rfl
  · intro h
    obtain ⟨y, hy⟩ := Option.isSome_iff_exists.1 h
    have hi : i < (fOf p k).Code.length := by
      rcases Nat.lt_or_ge i (fOf p k).Code.length with h1 | h1
      · exact h1
      · rw [awF_hi (by omega)] at hy; cases hy
    refine ⟨{ fn := (k : Int), first := (i : Int), await := y }, ?_, rfl, rfl⟩
    simp only [spins, spinsOf, List.mem_flatMap, List.mem_range]
    refine ⟨k, hk, i, hi, ?_⟩
    rw [spinO, show gd p.Funcs k = fOf p k from rfl, hy]; simp
theorem own_rewrite {p : Program} (hp : small p = true) {fuel : Nat} (hf : 200 ≤ fuel) (hc : eqI (chk p).1 0 = true) : await_Rewrite fuel p = some (rwP p, 0) := by
  obtain ⟨h1, h2⟩ := spins_eq hp hf
  obtain ⟨r, e1, e2⟩ := own_L1 (spins p) 0 p.Funcs (fun _ _ => False) (spun p) ⟨rfl, fun k f h => by rw [fOf_eq (getN_some h)] at h; rw [Option.some.inj h], fun k f h => by rw [fOf_eq (getN_some h)] at h; rw [Option.some.inj h], fun _ _ _ _ _ _ h => h.elim, fun k f h i c hc _ => by rw [fOf_eq (getN_some h)] at h; rw [Option.some.inj h]; exact hc⟩
  have hr : r = p.Funcs.map rwF := by
    refine upd_ext (by rw [e2.len, List.length_map]) fun k f f' ha hb => ?_
    rw [List.getElem?_map] at hb
    have hk : k < p.Funcs.length := by rw [← e2.len]; exact getN_some ha
    rw [fOf_eq hk, Option.map_some] at hb
    obtain rfl := Option.some.inj hb
    have hn := e2.name k f ha
    have hco : f.Code = rwL (fOf p k) := by
      refine code_ext (by rw [e2.size k f ha, rwL_len]) fun i c c' h3 h4 => ?_
      rw [rwL_get] at h4
      by_cases hs : inS (spins p) k i
      · have := e2.yes k f ha i c h3 (.inr hs)
        rw [this] at h4
        cases hx : (fOf p k).Code[i]? <;> rw [hx] at h4 <;> simp at h4
        exact h4
      · have h5 := e2.no k f ha i c h3 (by simpa using hs)
        have h6 : awF (fOf p k) i = none := by
          rw [mem_spins hk] at hs; simpa using hs
        rw [h5, h6] at h4; simpa using h4
    cases f; simp only [rwF] at hn hco ⊢; subst hn; subst hco; rfl
  obtain ⟨n, rfl⟩ : ∃ n, fuel = n + 8 := ⟨fuel - 8, by omega⟩
  rw [await_Rewrite, own_check hp, Option.bind_some, ownclone hp, h1, hc]
  simp only [Bool.not_true, cond_false, Option.bind_some]
  rw [show lenB (spins p).length = true by rw [lenB_d]; simp; omega, e1, hr]
  rfl
end Go.Dc.Pl
end
section
set_option linter.all false
namespace Go.Dc.Pl
open Go Go.Hw Go.Dc
set_option maxRecDepth 100000
/-- What an instruction with these operands must satisfy. -/
structure InstOk (x : Inst) (uA uB uC uO uN uF uR : Bool) : Prop where
  zA : uA = false → x.A = 0
  zB : uB = false → x.B = 0
  zC : uC = false → x.C = 0
  zO : uO = false → x.Obj = 0
  zN : uN = false → x.N = 0
  zF : uF = false → x.Fn = 0
  zR : uR = false → x.Order = 0
  A : 0 ≤ x.A ∧ x.A < 8
  B : 0 ≤ x.B ∧ x.B < 8
  C : 0 ≤ x.C ∧ x.C < 8
  R : 0 ≤ x.Order ∧ x.Order ≤ 2
  F : uF = true → 1 ≤ x.Fn ∧ x.Fn ≤ 10
  N : x.Op = 1 → -2147483648 ≤ x.N ∧ x.N ≤ 2147483647
end Go.Dc.Pl
end
section
set_option linter.all false
namespace Go.Dc.Pl
open Go Go.Hw Go.Dc
set_option maxRecDepth 100000
/-- A spin at i. -/
structure Pat (f : Func) (i : Nat) (a b c : Inst) : Prop where
  ha : f.Code[i]? = some a
  hb : f.Code[i + 1]? = some b
  hc : f.Code[i + 2]? = some c
  op1 : a.Op = 8
  op2 : b.Op = 3
  op3 : c.Op = 5
  cB : c.B = b.A
  cN : c.N = (i : Int)
  t1 : f.Code.any (brTo ((i + 1 : Nat) : Int)) = false
  t2 : f.Code.any (brTo ((i + 2 : Nat) : Int)) = false
  one : ¬ (b.B = a.A ↔ b.C = a.A)
  oth : (if b.C = a.A then b.B else b.C) ≠ b.A
  fn : b.Fn = 7 ∨ b.Fn = 8 ∨ (b.C = a.A ∧ (b.Fn = 9 ∨ b.Fn = 10))
theorem cond_dec {α : Type} (p : Prop) [Decidable p] (a b : α) : cond (decide p) a b = if p then a else b := by by_cases h : p <;> simp [h]
theorem Pat.awF {f : Func} {i : Nat} {a b c : Inst} (h : Pat f i a b c) : awF f i = some (awI a b) := by
  rw [Pl.awF, h.ha, h.hb, h.hc]
  have : pat f i a b c = true := by
    simp only [pat, andB_d, orB_d, eqI_d, eqB, Bool.and_eq_true, Bool.or_eq_true, Bool.not_eq_true', decide_eq_true_eq, cond_dec, decide_eq_false_iff_not, beq_eq_false_iff_ne, ne_eq, decide_eq_decide]
    refine ⟨⟨⟨⟨⟨h.op1, h.op2⟩, h.op3⟩, h.cB⟩, h.cN⟩, h.t1, h.t2, h.one, h.oth, ?_⟩
    rcases h.fn with h | h | h <;> simp [h]
  simp only [this, onlyIf_t]
/-- Spins lie apart. -/
def apart (y x : AwaitSpin) : Prop := y.fn < x.fn ∨ (y.fn = x.fn ∧ y.first + 2 < x.first)
theorem mem_spinO {k : Nat} {f : Func} {i : Nat} {x : AwaitSpin} (h : x ∈ spinO k f i) : x.fn = (k : Int) ∧ x.first = (i : Int) ∧ (awF f i).isSome = true := by
  rw [spinO] at h
  cases ha : awF f i with
  | none => rw [ha] at h; cases h
  | some y => rw [ha] at h; obtain rfl := List.mem_singleton.1 h; exact ⟨rfl, rfl, rfl⟩
theorem mem_spinsOf {k : Nat} {f : Func} {x : AwaitSpin} (h : x ∈ spinsOf k f) : x.fn = (k : Int) := by
  rw [spinsOf, List.mem_flatMap] at h
  obtain ⟨i, _, hi⟩ := h
  exact (mem_spinO hi).1
end Go.Dc.Pl
end
section
set_option linter.all false
namespace Go.Dc
open Go Go.Hw Go.Proofs
set_option maxRecDepth 100000

def r08_Valid (fuelN : Nat) (a0 : Program) : Option Bool :=
  Option.bind (r08_Check fuelN a0) (fun y1 => some (eqI y1.1 0))

set_option maxHeartbeats 2000000 in
theorem at_r08_Valid {fuelN : Nat} {a0 : Program} {r : Bool} (hs : r08_Valid fuelN a0 = some r) : At Tryd.prog 43 [.agg (eA a0)] (bV r) := by
  refine at_bound (by kernel_rfl) fun hb => ?_
  have hb1 : LenOk (.sl a0.Vars.length (encL a0.Vars)) := lkc hb
  have hb2 : LenOk (.sl a0.Mutexes.length (encL a0.Mutexes)) := lkc hb
  have hb3 : LenOk (.sl a0.Conds.length (encL a0.Conds)) := lkc hb
  have hb4 : LenOk (.sl a0.Funcs.length (encL a0.Funcs)) := lkc hb
  have hb5 : LenOk (.sl a0.Threads.length (encL a0.Threads)) := lkc hb
  refine at_code mixed Tryd.func43 (by kernel_rfl) rfl (by kernel_rfl) rfl fun Q hQ => ?_
  rw [r08_Valid] at hs
  refine goR f0 ?_
  revert hs; refine bK fun y1 hx2 hs => ?_
  refine cP f0 (at_r08_Check hx2) ?_
  refine goR f0 ?_
  obtain rfl := sj hs
  exact hQ _ _ (rg f0 (Gh.refl _))
end Go.Dc
end
section
set_option linter.all false
namespace Go.Dc
open Go Go.Hw Go.Proofs
set_option maxRecDepth 100000
def r08_Size_L1 : List Func → Int → Nat → Option Int
  | [], i50, k51 => some (i50)
  | x67 :: q63, i50, k51 => r08_Size_L1 q63 (IntKind.i64.wrap (i50 + ((x67.Code.length : Nat) : Int))) (k51 + 1)

def r08_Size (a0 : Program) : Option Int :=
  Option.bind (α := Int) (Option.bind (r08_Size_L1 a0.Funcs 0 0) (fun i56 => some (i56))) (fun i33 => some i33)

end Go.Dc
end
section
set_option linter.all false
namespace Go.Dc
open Go Go.Hw Go.Proofs
set_option maxRecDepth 100000
def law14_AwaitOnce_L1 (y7 : (List Spin) × Int) : List Spin → Nat → Option (Unit ⊕ Bool)
  | [], k108 => some (.inl ())
  | x137 :: q133, k108 => Option.bind (getI y7.1 (IntKind.i64.wrap (((k108 : Nat) : Int) - 1))) (fun x147 => cond (orB (ltI x137.Func x147.Func) (andB (eqI x137.Func x147.Func) (!(ltI x147.Last x137.First)))) (some (.inr false)) (law14_AwaitOnce_L1 y7 q133 (k108 + 1)))

def law14_AwaitOnce_L3 (x1615 : Func) : List Inst → Int → Nat → Option (Int ⊕ Bool)
  | [], i1638, k1639 => some (.inl i1638)
  | x1668 :: q1664, i1638, k1639 => Option.bind (x1615.Code[k1639]?) (fun x1675 => cond (!(andB (eqI x1668.Op x1675.Op) (andB (eqI x1668.A x1675.A) (andB (eqI x1668.B x1675.B) (andB (eqI x1668.C x1675.C) (andB (eqI x1668.Obj x1675.Obj) (andB (eqI x1668.N x1675.N) (andB (eqI x1668.Fn x1675.Fn) (andB (eqI x1668.Order x1675.Order) true))))))))) (cond (orB (!(eqI x1668.Op 8)) (!(eqI x1675.Op 14))) (some (.inr false)) (law14_AwaitOnce_L3 x1615 q1664 (IntKind.i64.wrap (i1638 + 1)) (k1639 + 1))) (law14_AwaitOnce_L3 x1615 q1664 i1638 (k1639 + 1)))

def law14_AwaitOnce_L2 (a0 : Program) (y9 : Program × Int) : Nat → Int → Int → Option (Int ⊕ Bool)
  | 0, _, _ => none
  | q1519 + 1, i1342, i1343 => cond (ltI i1343 ((a0.Funcs.length : Nat) : Int)) (Option.bind (α := Int ⊕ Bool) (Option.bind (getI a0.Funcs i1343) (fun x1612 => Option.bind (getI y9.1.Funcs i1343) (fun x1615 => cond (!(eqI ((x1612.Code.length : Nat) : Int) ((x1615.Code.length : Nat) : Int))) (some (.inr false)) (Option.bind (law14_AwaitOnce_L3 x1615 x1612.Code i1342 0) (fun o => match o with | .inl i1657 => some (.inl i1657) | .inr r1682 => some (.inr r1682)))))) (fun o => match o with | .inl i1601 => law14_AwaitOnce_L2 a0 y9 q1519 i1601 (IntKind.i64.wrap (i1343 + 1)) | .inr r1683 => some (.inr r1683))) (some (.inl i1342))

def law14_AwaitOnce (fuelN : Nat) (a0 : Program) : Option Bool :=
  Option.bind (r08_Small a0) (fun y1 => guardO (orB (!y1) ((r08_Valid fuelN a0).isSome)) (cond (orB (!y1) (!((r08_Valid fuelN a0).getD default))) (Option.bind (law14_lives fuelN) (fun y5 => some y5)) (Option.bind (await_Find fuelN a0) (fun y7 => Option.bind (await_Rewrite fuelN a0) (fun y9 => Option.bind (await_Find fuelN y9.1) (fun y11 => guardO (orB (!(!(orB (orB (orB (!(eqI y7.2 0)) (!(eqI y9.2 0))) (!(eqI y11.2 0))) (!(eqI ((y11.1.length : Nat) : Int) 0))))) ((r08_Valid fuelN y9.1).isSome)) (guardO (orB (!(!(orB (orB (orB (orB (!(eqI y7.2 0)) (!(eqI y9.2 0))) (!(eqI y11.2 0))) (!(eqI ((y11.1.length : Nat) : Int) 0))) (!((r08_Valid fuelN y9.1).getD default))))) ((r08_Size y9.1).isSome)) (guardO (orB (!(!(orB (orB (orB (orB (!(eqI y7.2 0)) (!(eqI y9.2 0))) (!(eqI y11.2 0))) (!(eqI ((y11.1.length : Nat) : Int) 0))) (!((r08_Valid fuelN y9.1).getD default))))) ((r08_Size a0).isSome)) (cond (orB (orB (orB (orB (orB (orB (!(eqI y7.2 0)) (!(eqI y9.2 0))) (!(eqI y11.2 0))) (!(eqI ((y11.1.length : Nat) : Int) 0))) (!((r08_Valid fuelN y9.1).getD default))) (!(eqI ((r08_Size y9.1).getD default) ((r08_Size a0).getD default)))) (!(eqI ((y9.1.Funcs.length : Nat) : Int) ((a0.Funcs.length : Nat) : Int)))) (some false) (Option.bind (α := Unit ⊕ Bool) (guardO (lenB y7.1.length) (Option.bind (law14_AwaitOnce_L1 y7 (y7.1.drop 1) 1) (fun o => match o with | .inl _ => some (.inl ()) | .inr r153 => some (.inr r153)))) (fun o => match o with | .inl _ => Option.bind (α := Int ⊕ Bool) (Option.bind (law14_AwaitOnce_L2 a0 y9 fuelN 0 0) (fun o => match o with | .inl i1512 => some (.inl i1512) | .inr r1684 => some (.inr r1684))) (fun o => match o with | .inl i917 => guardO (orB (!(eqI i917 ((y7.1.length : Nat) : Int))) ((law14_lives fuelN).isSome)) (some (andB (eqI i917 ((y7.1.length : Nat) : Int)) ((law14_lives fuelN).getD default))) | .inr r1686 => some r1686) | .inr r1687 => some r1687)))))))))))

end Go.Dc
end
section
set_option linter.all false
namespace Go.Dc.Pl
open Go Go.Hw Go.Dc
set_option maxRecDepth 100000
theorem ref_valid {p : Program} (hp : small p = true) : r08_Valid 200 p = some (eqI (chk p).1 0) := by
  rw [r08_Valid, ref_check hp (by omega)]; rfl
/-- How many spins a function has from a place on. -/
def cntL (f : Func) (l : List Inst) (k : Nat) : Nat := (l.zipIdx k).countP fun x => (awF f x.2).isSome
end Go.Dc.Pl
end
section
set_option linter.all false
namespace Go.Dc
open Go Go.Hw Go.Proofs
set_option maxRecDepth 100000
def law14_AwaitLocal_L1 (a0 : Program) : List Spin → Nat → Option (Unit ⊕ Bool)
  | [], k102 => some (.inl ())
  | x121 :: q117, k102 => cond (!(eqI x121.Func ((a0.Funcs.length : Nat) : Int))) (some (.inr false)) (law14_AwaitLocal_L1 a0 q117 (k102 + 1))

def law14_AwaitLocal (fuelN : Nat) (a0 : Program) (a1 : List Inst) : Option Bool :=
  Option.bind (r08_Small a0) (fun y1 => cond (orB (orB (!y1) (ltI 64 ((a1.length : Nat) : Int))) (!(ltI ((a0.Funcs.length : Nat) : Int) 8))) (Option.bind (law14_lives fuelN) (fun y4 => some y4)) (Option.bind (r08_Clone a0) (fun y6 => Option.bind (some (([] : List Inst))) (fun l19 => guardO (limB 64 (l19.length + a1.length)) (Option.bind (some (l19 ++ a1)) (fun l22 => Option.bind (some ([({ Name := (⟨#[122, 122, 57]⟩ : ByteArray), Code := l22 } : Func)])) (fun l24 => guardO (limB 40 (y6.Funcs.length + l24.length)) (Option.bind (some (y6.Funcs ++ l24)) (fun l27 => Option.bind (r08_Valid fuelN a0) (fun y30 => cond y30 (Option.bind (r08_Valid fuelN ({ y6 with Funcs := l27 })) (fun y33 => cond (!y33) (Option.bind (law14_lives fuelN) (fun y36 => some y36)) (Option.bind (await_Find fuelN a0) (fun y38 => Option.bind (await_Find fuelN ({ y6 with Funcs := l27 })) (fun y40 => Option.bind (await_Rewrite fuelN a0) (fun y42 => Option.bind (await_Rewrite fuelN ({ y6 with Funcs := l27 })) (fun y44 => cond (!(orB (orB (orB (orB (!(eqI y38.2 0)) (!(eqI y40.2 0))) (!(eqI y42.2 0))) (!(eqI y44.2 0))) (ltI ((y40.1.length : Nat) : Int) ((y38.1.length : Nat) : Int)))) (guardO (slB 0 ((y38.1.length : Nat) : Int) y40.1.length) (Option.bind (some (subL y40.1 0 ((y38.1.length : Nat) : Int))) (fun l48 => Option.bind (r14_Same y38.1 l48) (fun y51 => cond (orB (!y51) (!(eqI ((y44.1.Funcs.length : Nat) : Int) (IntKind.i64.wrap (((a0.Funcs.length : Nat) : Int) + 1))))) (some false) (Option.bind (α := Unit ⊕ Bool) (guardO (lenB y40.1.length) (Option.bind (law14_AwaitLocal_L1 a0 (y40.1.drop y38.1.length) y38.1.length) (fun o => match o with | .inl _ => some (.inl ()) | .inr r127 => some (.inr r127)))) (fun o => match o with | .inl _ => guardO (slB 0 ((a0.Funcs.length : Nat) : Int) y44.1.Funcs.length) (Option.bind (some (subL y44.1.Funcs 0 ((a0.Funcs.length : Nat) : Int))) (fun l129 => Option.bind (r08_Equal y42.1 ({ Vars := y44.1.Vars, Mutexes := y44.1.Mutexes, Conds := y44.1.Conds, Funcs := l129, Threads := y44.1.Threads } : Program)) (fun y132 => guardO (orB (!y132) ((law14_lives fuelN).isSome)) (some (andB y132 ((law14_lives fuelN).getD default)))))) | .inr r135 => some r135)))))) (some false)))))))) (Option.bind (law14_lives fuelN) (fun y136 => some y136))))))))))))

set_option maxHeartbeats 2000000 in
theorem at_law14_AwaitLocal {fuelN : Nat} {a0 : Program} {a1 : List Inst} {r : Bool} (hs : law14_AwaitLocal fuelN a0 a1 = some r) : At Tryd.prog 13 [.agg (eA a0), .cell (sC a1)] (bV r) := by
  refine at_bound (by kernel_rfl) fun hb => ?_
  have hb1 : LenOk (.sl a0.Vars.length (encL a0.Vars)) := lkc hb
  have hb2 : LenOk (.sl a0.Mutexes.length (encL a0.Mutexes)) := lkc hb
  have hb3 : LenOk (.sl a0.Conds.length (encL a0.Conds)) := lkc hb
  have hb4 : LenOk (.sl a0.Funcs.length (encL a0.Funcs)) := lkc hb
  have hb5 : LenOk (.sl a0.Threads.length (encL a0.Threads)) := lkc hb
  have hb6 : LenOk (.sl a1.length (encL a1)) := lkc hb
  refine at_code mixed Tryd.func13 (by kernel_rfl) rfl (by kernel_rfl) rfl fun Q hQ => ?_
  rw [law14_AwaitLocal] at hs
  refine goR f0 ?_
  revert hs; refine bK fun y1 hx2 hs => ?_
  refine cP f0 (at_r08_Small hx2) ?_
  refine goG f0 f0 ?_
  revert hs; refine cS f0 ?_ ?_ <;> intro h3 hs
  · refine goG f0 f0 ?_
    revert hs; refine bK fun y4 hx5 hs => ?_
    refine cP f0 (at_law14_lives hx5) ?_
    refine goG f0 f0 ?_
    obtain rfl := sj hs
    exact hQ _ _ (rg f0 (Gh.refl _))
  · refine goG f0 f0 ?_
    revert hs; refine bK fun y6 hx7 hs => ?_
    refine cA f0 (at_r08_Clone hx7) ?_
    revert hs; refine lK fun l19 hx20 hs => ?_
    have hx20n : l19.length = 0 := by rw [hx20]; rfl
    obtain ⟨g21, hs⟩ := guardO_some hs
    have g21 := limB_t g21
    obtain ⟨g21a, g21b⟩ := g21
    revert hs; refine lK fun l22 hx23 hs => ?_
    have hx23n : l22.length = (l19.length + a1.length) := by rw [hx23]; simp
    have hx23e : encL l22 = encL l19 ++ encL a1 := by rw [hx23]; simp
    revert hs; refine lK fun l24 hx25 hs => ?_
    have hx25n : l24.length = 1 := by rw [hx25]; rfl
    obtain ⟨g26, hs⟩ := guardO_some hs
    have g26 := limB_t g26
    obtain ⟨g26a, g26b⟩ := g26
    revert hs; refine lK fun l27 hx28 hs => ?_
    have hx28n : l27.length = (y6.Funcs.length + l24.length) := by rw [hx28]; simp
    have hx28e : encL l27 = encL y6.Funcs ++ encL l24 := by rw [hx28]; simp
    have f29a : (y6.Funcs.length + 1) * 2 ≤ y6.Funcs.length * 2 + 2 := by omega
    have f29b : ∀ Y : List CV, Y.length = 2 → List.take ((y6.Funcs.length + 1) * 2) (encL y6.Funcs ++ Y) = encL y6.Funcs ++ Y := fun Y hY => List.take_of_length_le (by first | (simp [hY]; done) | (simp [hY]; omega))
    have F1 := an hx20 (an hx23n (an hx23e (an hx25 (an hx28n (an hx28e (an f29a f29b))))))
    repeat (first | simp [cvs_append, F1] | with_reducible first | refine ord_l (by kernel_rfl) ?_ | refine ord_e (by kernel_rfl) ?_ | refine ord_c (by kernel_rfl) ?_ | refine ord_d (by kernel_rfl) ?_ | refine And.intro (by omega) ?_ | refine optF_if (by omega) ?_ | refine gsel_pure (by with_unfolding_all rfl) _ (fun hg => by (try simp at hg); first | (simp [hg, cvs_append, F1]; rfl) | (simp [cvs_append, F1]; simp only [if_pos hg]; simp [cvs_append, F1]; rfl)) ?_ | refine dskip_intro ?_ | refine dsel_pure (by with_unfolding_all rfl) _ (fun hg => by (try simp at hg); simp [hg, cvs_append, F1]; rfl) ?_)
    refine awp_draw ?_
    repeat (first | simp [cvs_append, F1] | with_reducible first | refine ord_l (by kernel_rfl) ?_ | refine ord_e (by kernel_rfl) ?_ | refine ord_c (by kernel_rfl) ?_ | refine ord_d (by kernel_rfl) ?_ | refine And.intro (by omega) ?_ | refine optF_if (by omega) ?_ | refine gsel_pure (by with_unfolding_all rfl) _ (fun hg => by (try simp at hg); first | (simp [hg, cvs_append, F1]; rfl) | (simp [cvs_append, F1]; simp only [if_pos hg]; simp [cvs_append, F1]; rfl)) ?_ | refine dskip_intro ?_ | refine dsel_pure (by with_unfolding_all rfl) _ (fun hg => by (try simp at hg); simp [hg, cvs_append, F1]; rfl) ?_)
    refine awp_gh (by rfl) ((Gh.frz _ (.o 4 4 0)).trans ((Gh.pur _ (.o 4 6 0)).trans (Gh.frz _ (.o 4 7 0)))) ?_
    try simp only [St.frz, St.pur]
    repeat (first | simp [cvs_append, F1] | with_reducible first | refine awp_reg ?_ | refine And.intro (by omega) ?_ | refine optF_if (by omega) ?_)
    revert hs; refine bK fun y30 hx31 hs => ?_
    refine callK_pure (at_r08_Valid hx31) (by (first | simp [cvs_append, F1] | simp (disch := omega) [cvs_append, F1]); try rfl) (by simp) (by simp) ?_
    repeat (first | simp [cvs_append, F1] | with_reducible first | refine awp_reg ?_ | refine And.intro (by omega) ?_ | refine optF_if (by omega) ?_ | refine gsel_pure (by with_unfolding_all rfl) _ (fun hg => by (try simp at hg); first | (simp [hg, cvs_append, F1]; rfl) | (simp [cvs_append, F1]; simp only [if_pos hg]; simp [cvs_append, F1]; rfl)) ?_)
    refine gsel_split (fun h32 => ?_) (fun h32 => ?_)
    · replace hs := condT h32 hs
      have F2 := an F1 h32
      repeat (first | simp [cvs_append, F2] | with_reducible first | refine awp_reg ?_ | refine And.intro (by omega) ?_ | refine optF_if (by omega) ?_ | refine gsel_pure (by with_unfolding_all rfl) _ (fun hg => by (try simp at hg); first | (simp [hg, cvs_append, F2]; rfl) | (simp [cvs_append, F2]; simp only [if_pos hg]; simp [cvs_append, F2]; rfl)) ?_)
      revert hs; refine bK fun y33 hx34 hs => ?_
      refine callK_at (at_r08_Valid hx34) [] (by (first | simp [cvs_append, F2] | simp (disch := omega) [cvs_append, F2]); try rfl) (by simp) (by simp) (by simp; rfl) (by simp [cvs_append, F2]; rfl) ?_
      repeat (first | simp [cvs_append, F2] | with_reducible first | refine awp_reg ?_ | refine And.intro (by omega) ?_ | refine optF_if (by omega) ?_ | refine gsel_pure (by with_unfolding_all rfl) _ (fun hg => by (try simp at hg); first | (simp [hg, cvs_append, F2]; rfl) | (simp [cvs_append, F2]; simp only [if_pos hg]; simp [cvs_append, F2]; rfl)) ?_)
      refine condK_spec (!y33) (by first | rfl | (simp [cvs_append, F2]; done) | (simp [andB, orB, eqI, ltI, Int.natCast_inj, cvs_append, F2]; done)) (fun h35 => ?_) (fun h35 => ?_)
      · replace hs := condT h35 hs
        repeat (first | simp [cvs_append, F2] | with_reducible first | refine awp_reg ?_ | refine And.intro (by omega) ?_ | refine optF_if (by omega) ?_ | refine gsel_pure (by with_unfolding_all rfl) _ (fun hg => by (try simp at hg); first | (simp [hg, cvs_append, F2]; rfl) | (simp [cvs_append, F2]; simp only [if_pos hg]; simp [cvs_append, F2]; rfl)) ?_)
        revert hs; refine bK fun y36 hx37 hs => ?_
        refine callK_pure (at_law14_lives hx37) (by (first | simp [cvs_append, F2] | simp (disch := omega) [cvs_append, F2]); try rfl) (by simp) (by simp) ?_
        repeat (first | simp [cvs_append, F2] | with_reducible first | refine awp_reg ?_ | refine And.intro (by omega) ?_ | refine optF_if (by omega) ?_ | refine gsel_pure (by with_unfolding_all rfl) _ (fun hg => by (try simp at hg); first | (simp [hg, cvs_append, F2]; rfl) | (simp [cvs_append, F2]; simp only [if_pos hg]; simp [cvs_append, F2]; rfl)) ?_)
        obtain rfl := sj hs
        refine hQ _ _ (ret2g _ (Gh.refl _) (by simp [St.frz, St.pur, cvs_append, F2]; rfl) (by first | rfl | (simp [St.frz, St.pur, cvs_append, F2]; done) | (rw [if_pos (by first | omega | (simp; omega))]; simp [St.frz, St.pur, cvs_append, F2]; first | omega | exact List.take_of_length_le (by simp; omega) | skip)) (by simp))
      · replace hs := condF h35 hs
        repeat (first | simp [cvs_append, F2] | with_reducible first | refine awp_reg ?_ | refine And.intro (by omega) ?_ | refine optF_if (by omega) ?_ | refine gsel_pure (by with_unfolding_all rfl) _ (fun hg => by (try simp at hg); first | (simp [hg, cvs_append, F2]; rfl) | (simp [cvs_append, F2]; simp only [if_pos hg]; simp [cvs_append, F2]; rfl)) ?_)
        revert hs; refine bK fun y38 hx39 hs => ?_
        refine callK_pure (at_await_Find hx39) (by (first | simp [cvs_append, F2] | simp (disch := omega) [cvs_append, F2]); try rfl) (by simp) (by simp) ?_
        repeat (first | simp [cvs_append, F2] | with_reducible first | refine And.intro (by omega) ?_ | refine optF_if (by omega) ?_ | refine gsel_pure (by with_unfolding_all rfl) _ (fun hg => by (try simp at hg); first | (simp [hg, cvs_append, F2]; rfl) | (simp [cvs_append, F2]; simp only [if_pos hg]; simp [cvs_append, F2]; rfl)) ?_)
        refine awp_gh (by rfl) ((Gh.frz _ (.o 3 1 0)).trans ((Gh.frz _ (.o 3 1 1)).trans ((Gh.frz _ (.o 3 1 2)).trans (Gh.frz _ (.o 3 1 4))))) ?_
        try simp only [St.frz, St.pur]
        repeat (first | simp [cvs_append, F2] | with_reducible first | refine awp_reg ?_ | refine And.intro (by omega) ?_ | refine optF_if (by omega) ?_)
        revert hs; refine bK fun y40 hx41 hs => ?_
        refine callK_pure (at_await_Find hx41) (by (first | simp [cvs_append, F2] | simp (disch := omega) [cvs_append, F2]); try rfl) (by simp) (by simp) ?_
        repeat (first | simp [cvs_append, F2] | with_reducible first | refine awp_reg ?_ | refine And.intro (by omega) ?_ | refine optF_if (by omega) ?_)
        revert hs; refine bK fun y42 hx43 hs => ?_
        refine callK_pure (at_await_Rewrite hx43) (by (first | simp [cvs_append, F2] | simp (disch := omega) [cvs_append, F2]); try rfl) (by simp) (by simp) ?_
        repeat (first | simp [cvs_append, F2] | with_reducible first | refine awp_reg ?_ | refine And.intro (by omega) ?_ | refine optF_if (by omega) ?_)
        revert hs; refine bK fun y44 hx45 hs => ?_
        refine callK_pure (at_await_Rewrite hx45) (by (first | simp [cvs_append, F2] | simp (disch := omega) [cvs_append, F2]); try rfl) (by simp) (by simp) ?_
        repeat (first | simp [cvs_append, F2] | with_reducible first | refine awp_reg ?_ | refine And.intro (by omega) ?_ | refine optF_if (by omega) ?_ | refine gsel_pure (by with_unfolding_all rfl) _ (fun hg => by (try simp at hg); first | (simp [hg, cvs_append, F2]; rfl) | (simp [cvs_append, F2]; simp only [if_pos hg]; simp [cvs_append, F2]; rfl)) ?_)
        refine gsel_split (fun h46 => ?_) (fun h46 => ?_)
        · replace hs := condT h46 hs
          simp only [Bool.not_eq_true', Bool.not_eq_false', Bool.not_not] at h46
          obtain ⟨g47, hs⟩ := guardO_some hs
          obtain ⟨g47a, g47b, g47c⟩ := slB_t g47
          revert hs; refine lK fun l48 hx49 hs => ?_
          have f50n : l48.length = (((y38.1.length : Nat) : Int) - 0).toNat := by rw [hx49]; exact subL_len ⟨g47a, g47b, g47c⟩
          have f50e : ((encL y40.1).drop ((0 : Int).toNat * 3)).take ((((y38.1.length : Nat) : Int) - 0).toNat * 3) = encL l48 := by rw [hx49]; exact subL_enc (α := Spin)
          try simp at f50n
          try simp at f50e
          have F3 := an F2 (an h46 (an g47a (an g47b (an g47c (an f50n f50e)))))
          repeat (first | simp [cvs_append, F3] | with_reducible first | refine awp_reg ?_ | refine And.intro (by omega) ?_ | refine optF_if (by omega) ?_ | refine gsel_pure (by with_unfolding_all rfl) _ (fun hg => by (try simp at hg); first | (simp [hg, cvs_append, F3]; rfl) | (simp [cvs_append, F3]; simp only [if_pos hg]; simp [cvs_append, F3]; rfl)) ?_)
          revert hs; refine bK fun y51 hx52 hs => ?_
          refine callK_pure (at_r14_Same hx52) (by (first | simp [cvs_append, F3] | simp (disch := omega) [cvs_append, F3]); try rfl) (by simp) (by simp) ?_
          repeat (first | simp [cvs_append, F3] | with_reducible first | refine awp_reg ?_ | refine And.intro (by omega) ?_ | refine optF_if (by omega) ?_ | refine gsel_pure (by with_unfolding_all rfl) _ (fun hg => by (try simp at hg); first | (simp [hg, cvs_append, F3]; rfl) | (simp [cvs_append, F3]; simp only [if_pos hg]; simp [cvs_append, F3]; rfl)) ?_)
          refine condK_spec (orB (!y51) (!(eqI ((y44.1.Funcs.length : Nat) : Int) (IntKind.i64.wrap (((a0.Funcs.length : Nat) : Int) + 1))))) (by first | rfl | (simp [cvs_append, F3]; done) | (simp [andB, orB, eqI, ltI, Int.natCast_inj, cvs_append, F3]; done)) (fun h53 => ?_) (fun h53 => ?_)
          · replace hs := condT h53 hs
            repeat (first | simp [cvs_append, F3] | with_reducible first | refine awp_reg ?_ | refine And.intro (by omega) ?_ | refine optF_if (by omega) ?_ | refine gsel_pure (by with_unfolding_all rfl) _ (fun hg => by (try simp at hg); first | (simp [hg, cvs_append, F3]; rfl) | (simp [cvs_append, F3]; simp only [if_pos hg]; simp [cvs_append, F3]; rfl)) ?_)
            obtain rfl := sj hs
            refine hQ _ _ (ret2g _ (Gh.refl _) (by simp [St.frz, St.pur, cvs_append, F3]; rfl) (by first | rfl | (simp [St.frz, St.pur, cvs_append, F3]; done) | (rw [if_pos (by first | omega | (simp; omega))]; simp [St.frz, St.pur, cvs_append, F3]; first | omega | exact List.take_of_length_le (by simp; omega) | skip)) (by simp))
          · replace hs := condF h53 hs
            repeat (first | simp [-awp_cond_eq, -awp_block_eq, cvs_append, F3] | with_reducible first | refine awp_reg ?_ | refine And.intro (by omega) ?_ | refine optF_if (by omega) ?_ | refine gsel_pure (by with_unfolding_all rfl) _ (fun hg => by (try simp at hg); first | (simp [hg, cvs_append, F3]; rfl) | (simp [cvs_append, F3]; simp only [if_pos hg]; simp [cvs_append, F3]; rfl)) ?_)
            revert hs; refine bK fun o90 e89 hs => ?_
            refine awp_cutK (fun (v : Unit) (σ : St) => some (.inl v) = some o90 ∧ σ.env 2 = .cell (.ref (.o 1 0 0) 0) ∧ σ.env 10 = .cell (.ref (.o 8 5 0) 0) ∧ σ.env 12 = .cell (.ref (.o 9 5 0) 0) ∧ σ.hp (.o 1 0 0) = some (.cells (eA a0)) ∧ σ.hp (.o 8 5 0) = some (.cells (eA y42.1)) ∧ σ.hp (.o 9 5 0) = some (.cells (eA y44.1)) ∧ 11 ≤ σ.gen) (by rfl) (fun Q hK91 hX92 => ?_) (fun v σ3 hp => ?_)
            · repeat (first | simp [cvs_append, F3] | with_reducible first | refine awp_reg ?_ | refine And.intro (by omega) ?_ | refine optF_if (by omega) ?_ | refine gsel_pure (by with_unfolding_all rfl) _ (fun hg => by (try simp at hg); first | (simp [hg, cvs_append, F3]; rfl) | (simp [cvs_append, F3]; simp only [if_pos hg]; simp [cvs_append, F3]; rfl)) ?_)
              obtain ⟨hb122, e89⟩ := guardO_some e89
              revert e89; refine bK fun o112 e111 e89 => ?_
              refine awp_loopW (fun (v : (List Spin) × Nat) (σ : St) => law14_AwaitLocal_L1 a0 v.1 v.2 = some o112 ∧ v.1 = y40.1.drop v.2 ∧ σ.env 2 = .cell (.ref (.o 1 0 0) 0) ∧ σ.env 8 = .cell (sC y40.1) ∧ σ.env 10 = .cell (.ref (.o 8 5 0) 0) ∧ σ.env 12 = .cell (.ref (.o 9 5 0) 0) ∧ σ.env 14 = iV .i64 ((v.2 : Nat) : Int) ∧ σ.hp (.o 1 0 0) = some (.cells (eA a0)) ∧ σ.hp (.o 8 5 0) = some (.cells (eA y42.1)) ∧ σ.hp (.o 9 5 0) = some (.cells (eA y44.1)) ∧ 11 ≤ σ.gen) (fun v => v.1.length) _ (Gh.refl _) (y40.1.drop y38.1.length, y38.1.length) ⟨e111, by simp, by simp [St.frz, St.pur, cvs_append, F3], by simp [St.frz, St.pur, cvs_append, F3], by simp [St.frz, St.pur, cvs_append, F3], by simp [St.frz, St.pur, cvs_append, F3], by simp [St.frz, St.pur, cvs_append, F3], by simp [St.frz, St.pur, cvs_append, F3], by simp [St.frz, St.pur, cvs_append, F3], by simp [St.frz, St.pur, cvs_append, F3], pg⟩ fun v σ6 hp L113 hL114 => ?_
              obtain ⟨q116, k102⟩ := v
              dsimp only at hp hL114
              obtain ⟨e111, hd115, h5_2, h5_8, h5_10, h5_12, h5_14, g5_0, g5_1, g5_2, n5_g⟩ := hp
              have n5_0 : ¬ (σ6.gen = 0) := by omega
              have n5_1 : ¬ (σ6.gen = 1) := by omega
              have n5_2 : ¬ (σ6.gen = 2) := by omega
              have n5_3 : ¬ (σ6.gen = 3) := by omega
              have n5_4 : ¬ (σ6.gen = 4) := by omega
              have n5_5 : ¬ (σ6.gen = 5) := by omega
              have n5_6 : ¬ (σ6.gen = 6) := by omega
              have n5_7 : ¬ (σ6.gen = 7) := by omega
              have n5_8 : ¬ (σ6.gen = 8) := by omega
              rcases q116 with _ | ⟨x121, q117⟩
              · have hlt118 := drop_end hd115
                rw [law14_AwaitLocal_L1] at e111; try dsimp only at e111
                have F4 := an h5_2 (an h5_8 (an h5_10 (an h5_12 (an h5_14 (an g5_0 (an g5_1 (an g5_2 (an n5_0 (an n5_1 (an n5_2 (an n5_3 (an n5_4 (an n5_5 (an n5_6 (an n5_7 (an n5_8 (an h32 h46)))))))))))))))))
                repeat (first | simp [cvs_append, F4] | with_reducible first | refine awp_reg ?_ | refine And.intro (by omega) ?_ | refine optF_if (by omega) ?_)
                refine condK_f (by simp [ltI]; omega) ?_
                obtain rfl := sj e111
                try dsimp only at e89
                refine hK91 () _ _ (Gh.refl _) ⟨e89, ?_, ?_, ?_, ?_, ?_, ?_, pg⟩ <;> simp [St.frz, St.pur, cvs_append, F4]
              · obtain ⟨hx120, hlt118, hd123⟩ := drop_next hd115
                have ew119 := wrap_succG hlt118 hb122
                rw [law14_AwaitLocal_L1] at e111; try dsimp only at e111
                have F5 := an h5_2 (an h5_8 (an h5_10 (an h5_12 (an h5_14 (an g5_0 (an g5_1 (an g5_2 (an n5_0 (an n5_1 (an n5_2 (an n5_3 (an n5_4 (an n5_5 (an n5_6 (an n5_7 (an n5_8 (an h32 (an h46 (an hlt118 ew119)))))))))))))))))))
                repeat (first | simp [cvs_append, F5] | with_reducible first | refine awp_reg ?_ | refine And.intro (by omega) ?_ | refine optF_if (by omega) ?_)
                refine condK_t (by simp [ltI]; omega) ?_
                have f125 : partCV Tryd.prog 3 (encL y40.1) (k102 * 3) = some (iV .i64 x121.Func) := partCV_enc hx120 (f := 0) (by simp)
                have F6 := an F5 f125
                repeat (first | simp [cvs_append, F6] | with_reducible first | refine awp_reg ?_ | refine awp_draw ?_ | refine ord_l (by kernel_rfl) ?_ | refine ord_e (by kernel_rfl) ?_ | refine ord_c (by kernel_rfl) ?_ | refine ord_d (by kernel_rfl) ?_ | refine And.intro (by omega) ?_ | refine optF_if (by omega) ?_)
                refine condK_spec (!(eqI x121.Func ((a0.Funcs.length : Nat) : Int))) (by first | rfl | (simp [cvs_append, F6]; done) | (simp [andB, orB, eqI, ltI, Int.natCast_inj, cvs_append, F6]; done)) (fun h126 => ?_) (fun h126 => ?_)
                · replace e111 := condT h126 e111
                  repeat (first | simp [cvs_append, F6] | with_reducible first | refine awp_reg ?_ | refine awp_draw ?_ | refine ord_l (by kernel_rfl) ?_ | refine ord_e (by kernel_rfl) ?_ | refine ord_c (by kernel_rfl) ?_ | refine ord_d (by kernel_rfl) ?_ | refine And.intro (by omega) ?_ | refine optF_if (by omega) ?_)
                  obtain rfl := sj e111
                  try dsimp only at e89
                  obtain rfl := sj e89
                  try dsimp only at hs
                  refine hX92 _ _ (by simp) ?_
                  repeat (first | simp [cvs_append, F6] | with_reducible first | refine awp_reg ?_ | refine awp_draw ?_ | refine ord_l (by kernel_rfl) ?_ | refine ord_e (by kernel_rfl) ?_ | refine ord_c (by kernel_rfl) ?_ | refine ord_d (by kernel_rfl) ?_ | refine And.intro (by omega) ?_ | refine optF_if (by omega) ?_)
                  obtain rfl := sj hs
                  refine hQ _ _ (ret2g _ (Gh.refl _) (by simp [St.frz, St.pur, cvs_append, F6]; rfl) (by first | rfl | (simp [St.frz, St.pur, cvs_append, F6]; done) | (rw [if_pos (by first | omega | (simp; omega))]; simp [St.frz, St.pur, cvs_append, F6]; first | omega | exact List.take_of_length_le (by simp; omega) | skip)) (by simp))
                · replace e111 := condF h126 e111
                  repeat (first | simp [cvs_append, F6] | with_reducible first | refine awp_reg ?_ | refine awp_draw ?_ | refine ord_l (by kernel_rfl) ?_ | refine ord_e (by kernel_rfl) ?_ | refine ord_c (by kernel_rfl) ?_ | refine ord_d (by kernel_rfl) ?_ | refine And.intro (by omega) ?_ | refine optF_if (by omega) ?_)
                  refine hL114 (q117, (k102 + 1)) _ _ (Gh.refl _) ⟨e111, hd123, ?_, ?_, ?_, ?_, ?_, ?_, ?_, ?_, pg⟩ (by simp) <;> simp [St.frz, St.pur, cvs_append, F6]
            · obtain ⟨e89, h4_2, h4_10, h4_12, g4_0, g4_1, g4_2, n4_g⟩ := hp
              obtain rfl := sj e89
              try dsimp only at hs
              have n4_0 : ¬ (σ3.gen = 0) := by omega
              have n4_1 : ¬ (σ3.gen = 1) := by omega
              have n4_2 : ¬ (σ3.gen = 2) := by omega
              have n4_3 : ¬ (σ3.gen = 3) := by omega
              have n4_4 : ¬ (σ3.gen = 4) := by omega
              have n4_5 : ¬ (σ3.gen = 5) := by omega
              have n4_6 : ¬ (σ3.gen = 6) := by omega
              have n4_7 : ¬ (σ3.gen = 7) := by omega
              have n4_8 : ¬ (σ3.gen = 8) := by omega
              obtain ⟨g128, hs⟩ := guardO_some hs
              obtain ⟨g128a, g128b, g128c⟩ := slB_t g128
              revert hs; refine lK fun l129 hx130 hs => ?_
              have f131n : l129.length = (((a0.Funcs.length : Nat) : Int) - 0).toNat := by rw [hx130]; exact subL_len ⟨g128a, g128b, g128c⟩
              have f131e : ((encL y44.1.Funcs).drop ((0 : Int).toNat * 2)).take ((((a0.Funcs.length : Nat) : Int) - 0).toNat * 2) = encL l129 := by rw [hx130]; exact subL_enc (α := Func)
              try simp at f131n
              try simp at f131e
              have F7 := an h4_2 (an h4_10 (an h4_12 (an g4_0 (an g4_1 (an g4_2 (an n4_0 (an n4_1 (an n4_2 (an n4_3 (an n4_4 (an n4_5 (an n4_6 (an n4_7 (an n4_8 (an h32 (an h46 (an g128a (an g128b (an g128c (an f131n f131e))))))))))))))))))))
              repeat (first | simp [cvs_append, F7] | with_reducible first | refine awp_reg ?_ | refine And.intro (by omega) ?_ | refine optF_if (by omega) ?_ | refine gsel_pure (by with_unfolding_all rfl) _ (fun hg => by (try simp at hg); first | (simp [hg, cvs_append, F7]; rfl) | (simp [cvs_append, F7]; simp only [if_pos hg]; simp [cvs_append, F7]; rfl)) ?_)
              revert hs; refine bK fun y132 hx133 hs => ?_
              refine callK_pure (at_r08_Equal hx133) (by (first | simp [cvs_append, F7] | simp (disch := omega) [cvs_append, F7]); try rfl) (by simp) (by simp) ?_
              repeat (first | simp [cvs_append, F7] | with_reducible first | refine awp_reg ?_ | refine And.intro (by omega) ?_ | refine optF_if (by omega) ?_ | refine gsel_pure (by with_unfolding_all rfl) _ (fun hg => by (try simp at hg); first | (simp [hg, cvs_append, F7]; rfl) | (simp [cvs_append, F7]; simp only [if_pos hg]; simp [cvs_append, F7]; rfl)) ?_)
              obtain ⟨g134, hs⟩ := guardO_some hs
              refine gsel_call (fun hg => at_law14_lives (under_call g134 hg)) (fun hg => by (try simp at hg); (first | simp [hg, cvs_append, F7]); try rfl) (fun hg => by (try simp at hg); simp [hg, cvs_append, F7]) (by simp) ?_
              repeat (first | simp [cvs_append, F7] | with_reducible first | refine awp_reg ?_ | refine And.intro (by omega) ?_ | refine optF_if (by omega) ?_ | refine gsel_pure (by with_unfolding_all rfl) _ (fun hg => by (try simp at hg); first | (simp [hg, cvs_append, F7]; rfl) | (simp [cvs_append, F7]; simp only [if_pos hg]; simp [cvs_append, F7]; rfl)) ?_)
              obtain rfl := sj hs
              refine hQ _ _ (ret2g _ (Gh.refl _) (by simp [St.frz, St.pur, cvs_append, F7]; rfl) (by first | rfl | (simp [St.frz, St.pur, cvs_append, F7]; done) | (rw [if_pos (by first | omega | (simp; omega))]; simp [St.frz, St.pur, cvs_append, F7]; first | omega | exact List.take_of_length_le (by simp; omega) | skip)) (by simp))
        · replace hs := condF h46 hs
          simp only [Bool.not_eq_true', Bool.not_eq_false', Bool.not_not] at h46
          have F8 := an F2 h46
          repeat (first | simp [cvs_append, F8] | with_reducible first | refine awp_reg ?_ | refine And.intro (by omega) ?_ | refine optF_if (by omega) ?_ | refine gsel_pure (by with_unfolding_all rfl) _ (fun hg => by (try simp at hg); first | (simp [hg, cvs_append, F8]; rfl) | (simp [cvs_append, F8]; simp only [if_pos hg]; simp [cvs_append, F8]; rfl)) ?_)
          repeat (first | simp [cvs_append, F8] | with_reducible refine awp_reg ?_)
          obtain rfl := sj hs
          refine hQ _ _ (ret2g _ (Gh.refl _) (by simp [St.frz, St.pur, cvs_append, F8]; rfl) (by first | rfl | (simp [St.frz, St.pur, cvs_append, F8]; done) | (rw [if_pos (by first | omega | (simp; omega))]; simp [St.frz, St.pur, cvs_append, F8]; first | omega | exact List.take_of_length_le (by simp; omega) | skip)) (by simp))
    · replace hs := condF h32 hs
      have F9 := an F1 h32
      repeat (first | simp [cvs_append, F9] | with_reducible first | refine awp_reg ?_ | refine And.intro (by omega) ?_ | refine optF_if (by omega) ?_ | refine gsel_pure (by with_unfolding_all rfl) _ (fun hg => by (try simp at hg); first | (simp [hg, cvs_append, F9]; rfl) | (simp [cvs_append, F9]; simp only [if_pos hg]; simp [cvs_append, F9]; rfl)) ?_)
      repeat (first | simp [cvs_append, F9] | with_reducible first | refine awp_reg ?_ | refine And.intro (by omega) ?_ | refine optF_if (by omega) ?_)
      revert hs; refine bK fun y136 hx137 hs => ?_
      refine callK_pure (at_law14_lives hx137) (by (first | simp [cvs_append, F9] | simp (disch := omega) [cvs_append, F9]); try rfl) (by simp) (by simp) ?_
      repeat (first | simp [cvs_append, F9] | with_reducible first | refine awp_reg ?_ | refine And.intro (by omega) ?_ | refine optF_if (by omega) ?_)
      obtain rfl := sj hs
      refine hQ _ _ (ret2g _ (Gh.refl _) (by simp [St.frz, St.pur, cvs_append, F9]; rfl) (by first | rfl | (simp [St.frz, St.pur, cvs_append, F9]; done) | (rw [if_pos (by first | omega | (simp; omega))]; simp [St.frz, St.pur, cvs_append, F9]; first | omega | exact List.take_of_length_le (by simp; omega) | skip)) (by simp))
end Go.Dc
end
section
set_option linter.all false
namespace Go.Dc.Pl
open Go Go.Hw Go.Dc
set_option maxRecDepth 100000
/-- A program with one function more. -/
def more (p : Program) (g : Func) : Program := { p with Funcs := p.Funcs ++ [g] }
theorem fOf_more {p : Program} {g : Func} {k : Nat} (h : k < p.Funcs.length) : fOf (more p g) k = fOf p k := by
  have h1 : (more p g).Funcs[k]? = some (fOf p k) := by rw [more, List.getElem?_append_left h, fOf_eq h]
  rw [fOf_eq (getN_some h1)] at h1
  exact Option.some.inj h1
theorem fOf_new (p : Program) (g : Func) : fOf (more p g) p.Funcs.length = g := by
  have h1 : (more p g).Funcs[p.Funcs.length]? = some g := by rw [more, List.getElem?_append_right (by omega)]; simp
  rw [fOf_eq (getN_some h1)] at h1
  exact Option.some.inj h1
theorem flatMap_congr' {α β : Type} {f g : α → List β} : ∀ {l : List α}, (∀ x ∈ l, f x = g x) → l.flatMap f = l.flatMap g
  | [], _ => rfl
  | x :: l, h => by rw [List.flatMap_cons, List.flatMap_cons, h x (by simp), flatMap_congr' fun y hy => h y (by simp [hy])]
theorem spins_more (p : Program) (g : Func) : spins (more p g) = spins p ++ spinsOf p.Funcs.length g := by
  rw [spins, show (more p g).Funcs.length = p.Funcs.length + 1 by simp [more], List.range_succ, List.flatMap_append, spins]
  congr 1
  · exact flatMap_congr' fun k hk => by
      rw [show gd (more p g).Funcs k = fOf (more p g) k from rfl, fOf_more (by simpa using hk)]; rfl
  · rw [List.flatMap_cons, List.flatMap_nil, List.append_nil, show gd (more p g).Funcs p.Funcs.length = fOf (more p g) p.Funcs.length from rfl, fOf_new]
theorem found_more (p : Program) (g : Func) : found (more p g) = found p ++ (spinsOf p.Funcs.length g).map toSpin := by
  rw [found, spins_more, List.map_append]; rfl
theorem rw_more (p : Program) (g : Func) : (rwP (more p g)).Funcs = p.Funcs.map rwF ++ [rwF g] := by
  simp [rwP, more]
theorem sub_app {α : Type} (l r : List α) : subL (l ++ r) 0 ((l.length : Nat) : Int) = l := by
  rw [subL]; simp
theorem small_more {p : Program} {g : Func} (hp : small p = true) (hn : p.Funcs.length < 8) (hg : g.Code.length ≤ 64) : small (more p g) = true := by
  obtain ⟨s1, s2, s3, s4, s5, s6⟩ := small_t hp
  simp only [small, more, List.length_append, List.length_singleton, Bool.and_eq_true, decide_eq_true_eq, Bool.not_eq_true', List.any_eq_false, List.mem_append, List.mem_singleton]
  refine ⟨⟨s1, s2, s3, by omega, s5⟩, ?_⟩
  rintro f (hf | rfl)
  · have := s6 f hf; omega
  · omega
theorem law_local (p : Program) (code : List Inst) : law14_AwaitLocal 200 p code = some true := by
  rw [law14_AwaitLocal, small_eq, Option.bind_some]
  cases hp : small p
  · rw [lives]; rfl
  · cases h64 : ltI 64 ((code.length : Nat) : Int)
    · cases h8 : ltI ((p.Funcs.length : Nat) : Int) 8
      · rw [lives]; rfl
      · have e64 : code.length ≤ 64 := by simp [ltI_d] at h64; omega
        have e8 : p.Funcs.length < 8 := by simp [ltI_d] at h8; omega
        simp only [Bool.not_true, show orB (orB false false) false = false from rfl, cond_false]
        rw [refclone hp]
        simp only [Option.bind_some]
        rw [show limB 64 (([] : List Inst).length + code.length) = true from limB_of (m := 100) (by simp; omega) (by decide), guardO_t,
          show limB 40 (p.Funcs.length + ([({ Name := (⟨#[122, 122, 57]⟩ : ByteArray), Code := [] ++ code } : Func)]).length) = true from limB_of (m := 20) (by simp; omega) (by decide), guardO_t, List.nil_append]
        generalize hg : ({ Name := (⟨#[122, 122, 57]⟩ : ByteArray), Code := code } : Func) = g
        have hgl : g.Code.length ≤ 64 := by rw [← hg]; exact e64
        have hm := small_more (g := g) hp e8 hgl
        rw [show ({ p with Funcs := p.Funcs ++ [g] } : Program) = more p g from rfl]
        rw [ref_valid hp, ref_valid hm]
        simp only [Option.bind_some]
        cases hc : eqI (chk p).1 0
        · rw [lives]; rfl
        · cases hcm : eqI (chk (more p g)).1 0
          · rw [lives]; rfl
          · obtain ⟨h1, h2⟩ := spins_eq hp (fuel := 200) (by omega)
            obtain ⟨h3, h4⟩ := spins_eq hm (fuel := 200) (by omega)
            have hd : ∀ m : Int, eqI m m = true := fun m => by simp [eqI]
            rw [own_find hp (by omega), own_find hm (by omega), hc, hcm, own_rewrite hp (by omega) hc, own_rewrite hm (by omega) hcm]
            simp only [Bool.not_true, cond_false, cond_true, Option.bind_some, show eqI (0 : Int) 0 = true from rfl]
            have hle : ltI (((found (more p g)).length : Nat) : Int) (((found p).length : Nat) : Int) = false := by rw [found_more]; simp [ltI_d]; omega
            have hls : (found p).length ≤ (found (more p g)).length := by rw [found_more]; simp
            rw [hle, show slB 0 (((found p).length : Nat) : Int) ((found (more p g)).length : Int) = true by simp [slB]; omega]
            simp only [show (!(orB (orB (orB (orB false false) false) false) false)) = true from rfl, cond_true, guardO_t]
            rw [show subL (found (more p g)) 0 (((found p).length : Nat) : Int) = found p by rw [found_more, sub_app], same_refl, Option.bind_some, show eqI (((rwP (more p g)).Funcs.length : Nat) : Int) (IntKind.i64.wrap (((p.Funcs.length : Nat) : Int) + 1)) = true by
              rw [wrap_i64 (by omega) (by omega), rw_more]; simp [eqI]]
            rw [show (found (more p g)).drop (found p).length = (spinsOf p.Funcs.length g).map toSpin by rw [found_more, List.drop_left]]
            have hL := srch (L := law14_AwaitLocal_L1 p) (fun _ _ => none) (fun _ => rfl) ((spinsOf p.Funcs.length g).map toSpin) (found p).length fun j x hx q => by
              rw [List.getElem?_map] at hx
              cases hs : (spinsOf p.Funcs.length g)[j]? with
              | none => rw [hs] at hx; cases hx
              | some y =>
                rw [hs] at hx
                obtain rfl := Option.some.inj hx
                have := mem_spinsOf (List.mem_of_getElem? hs)
                rw [law14_AwaitLocal_L1]
                simp only [toSpin, this, hd]; rfl
            rw [first_noneF] at hL
            rw [show lenB (found (more p g)).length = true by rw [lenB_d, found, List.length_map]; simp; omega, hL]
            simp only [guardO_t, Bool.not_true, show orB false false = false from rfl, cond_false, Option.bind_some, toS_none]
            rw [rw_more, show slB 0 ((p.Funcs.length : Nat) : Int) ((p.Funcs.map rwF ++ [rwF g]).length : Int) = true by simp [slB]; omega, guardO_t,
              show subL (p.Funcs.map rwF ++ [rwF g]) 0 ((p.Funcs.length : Nat) : Int) = p.Funcs.map rwF by have := sub_app (p.Funcs.map rwF) [rwF g]; rwa [List.length_map] at this]
            rw [show ({ Vars := (rwP (more p g)).Vars, Mutexes := (rwP (more p g)).Mutexes, Conds := (rwP (more p g)).Conds, Funcs := p.Funcs.map rwF, Threads := (rwP (more p g)).Threads } : Program) = rwP p from rfl, equal_refl, lives]
            rfl
    · rw [lives]; rfl
end Go.Dc.Pl
end
section
set_option linter.all false
namespace Go.Dc
open Go Go.Hw Go.Proofs
set_option maxRecDepth 100000
theorem dec9 {H : Type} {n : Nat} {d : DataW H} {c : List CV} (h : cvD Tryd.prog n 9 d = some c) : ∃ x : ByteArray, True ∧ c = Enc.enc x := by
  obtain ⟨m, rfl⟩ := cvD_string Tryd.underlying9 h
  exact ⟨m, trivial, rfl⟩
theorem dec3 {H : Type} {n : Nat} {d : DataW H} {c : List CV} (h : cvD Tryd.prog n 3 d = some c) : ∃ x : Int, (-9223372036854775808 ≤ x ∧ x ≤ 9223372036854775807) ∧ c = Enc.enc x := by
  obtain ⟨m, hm, rfl⟩ := cvD_int Tryd.underlying3 h
  exact ⟨m, by simpa [IntKind.min, IntKind.max, IntKind.signed, IntKind.bits] using hm, rfl⟩
def OkVar (x : Var) : Prop := (fun _ : ByteArray => True) x.Name ∧ (fun x : Int => -9223372036854775808 ≤ x ∧ x ≤ 9223372036854775807) x.Init
theorem dec105 {H : Type} {n : Nat} {d : DataW H} {c : List CV} (h : cvD Tryd.prog n 105 d = some c) : ∃ x : Var, OkVar x ∧ c = Enc.enc x := by
  obtain ⟨m, l, rfl, rfl, hl, h⟩ := cvD_struct Tryd.underlying105 h
  have hl : l.length = 2 := hl
  match l, hl with
  | [d0, d1], _ =>
    simp only [List.zipWith] at h
    obtain ⟨a0, b0, h0, k1, rfl⟩ := concatM_cons h
    obtain ⟨a1, b1, h1, k2, rfl⟩ := concatM_cons k1
    obtain rfl := concatM_nil k2
    obtain ⟨x0, q0, rfl⟩ := dec9 h0
    obtain ⟨x1, q1, rfl⟩ := dec3 h1
    exact ⟨⟨x0, x1⟩, ⟨q0, q1⟩, rfl⟩
theorem dec48 {H : Type} {n : Nat} {d : DataW H} {c : List CV} (h : cvD Tryd.prog n 48 d = some c) : ∃ x : List Var, (∀ y ∈ x, (OkVar) y) ∧ c = Enc.enc x := by
  obtain ⟨L, hQ, rfl⟩ := cvD_sliceQ (g := Enc.enc) (Q := OkVar) Tryd.underlying48 (fun n d c h => dec105 h) h
  exact ⟨L, hQ, rfl⟩
theorem dec49 {H : Type} {n : Nat} {d : DataW H} {c : List CV} (h : cvD Tryd.prog n 49 d = some c) : ∃ x : List ByteArray, (∀ y ∈ x, (fun _ : ByteArray => True) y) ∧ c = Enc.enc x := by
  obtain ⟨L, hQ, rfl⟩ := cvD_sliceQ (g := Enc.enc) (Q := fun _ : ByteArray => True) Tryd.underlying49 (fun n d c h => dec9 h) h
  exact ⟨L, hQ, rfl⟩
theorem dec67 {H : Type} {n : Nat} {d : DataW H} {c : List CV} (h : cvD Tryd.prog n 67 d = some c) : ∃ x : Int, (-9223372036854775808 ≤ x ∧ x ≤ 9223372036854775807) ∧ c = Enc.enc x := by
  obtain ⟨m, hm, rfl⟩ := cvD_int Tryd.underlying67 h
  exact ⟨m, by simpa [IntKind.min, IntKind.max, IntKind.signed, IntKind.bits] using hm, rfl⟩
theorem dec68 {H : Type} {n : Nat} {d : DataW H} {c : List CV} (h : cvD Tryd.prog n 68 d = some c) : ∃ x : Int, (-9223372036854775808 ≤ x ∧ x ≤ 9223372036854775807) ∧ c = Enc.enc x := by
  obtain ⟨m, hm, rfl⟩ := cvD_int Tryd.underlying68 h
  exact ⟨m, by simpa [IntKind.min, IntKind.max, IntKind.signed, IntKind.bits] using hm, rfl⟩
theorem dec69 {H : Type} {n : Nat} {d : DataW H} {c : List CV} (h : cvD Tryd.prog n 69 d = some c) : ∃ x : Int, (-9223372036854775808 ≤ x ∧ x ≤ 9223372036854775807) ∧ c = Enc.enc x := by
  obtain ⟨m, hm, rfl⟩ := cvD_int Tryd.underlying69 h
  exact ⟨m, by simpa [IntKind.min, IntKind.max, IntKind.signed, IntKind.bits] using hm, rfl⟩
def OkInst (x : Inst) : Prop := (fun x : Int => -9223372036854775808 ≤ x ∧ x ≤ 9223372036854775807) x.Op ∧ (fun x : Int => -9223372036854775808 ≤ x ∧ x ≤ 9223372036854775807) x.A ∧ (fun x : Int => -9223372036854775808 ≤ x ∧ x ≤ 9223372036854775807) x.B ∧ (fun x : Int => -9223372036854775808 ≤ x ∧ x ≤ 9223372036854775807) x.C ∧ (fun x : Int => -9223372036854775808 ≤ x ∧ x ≤ 9223372036854775807) x.Obj ∧ (fun x : Int => -9223372036854775808 ≤ x ∧ x ≤ 9223372036854775807) x.N ∧ (fun x : Int => -9223372036854775808 ≤ x ∧ x ≤ 9223372036854775807) x.Fn ∧ (fun x : Int => -9223372036854775808 ≤ x ∧ x ≤ 9223372036854775807) x.Order
theorem dec71 {H : Type} {n : Nat} {d : DataW H} {c : List CV} (h : cvD Tryd.prog n 71 d = some c) : ∃ x : Inst, OkInst x ∧ c = Enc.enc x := by
  obtain ⟨m, l, rfl, rfl, hl, h⟩ := cvD_struct Tryd.underlying71 h
  have hl : l.length = 8 := hl
  match l, hl with
  | [d0, d1, d2, d3, d4, d5, d6, d7], _ =>
    simp only [List.zipWith] at h
    obtain ⟨a0, b0, h0, k1, rfl⟩ := concatM_cons h
    obtain ⟨a1, b1, h1, k2, rfl⟩ := concatM_cons k1
    obtain ⟨a2, b2, h2, k3, rfl⟩ := concatM_cons k2
    obtain ⟨a3, b3, h3, k4, rfl⟩ := concatM_cons k3
    obtain ⟨a4, b4, h4, k5, rfl⟩ := concatM_cons k4
    obtain ⟨a5, b5, h5, k6, rfl⟩ := concatM_cons k5
    obtain ⟨a6, b6, h6, k7, rfl⟩ := concatM_cons k6
    obtain ⟨a7, b7, h7, k8, rfl⟩ := concatM_cons k7
    obtain rfl := concatM_nil k8
    obtain ⟨x0, q0, rfl⟩ := dec67 h0
    obtain ⟨x1, q1, rfl⟩ := dec3 h1
    obtain ⟨x2, q2, rfl⟩ := dec3 h2
    obtain ⟨x3, q3, rfl⟩ := dec3 h3
    obtain ⟨x4, q4, rfl⟩ := dec3 h4
    obtain ⟨x5, q5, rfl⟩ := dec3 h5
    obtain ⟨x6, q6, rfl⟩ := dec68 h6
    obtain ⟨x7, q7, rfl⟩ := dec69 h7
    exact ⟨⟨x0, x1, x2, x3, x4, x5, x6, x7⟩, ⟨q0, q1, q2, q3, q4, q5, q6, q7⟩, rfl⟩
theorem dec22 {H : Type} {n : Nat} {d : DataW H} {c : List CV} (h : cvD Tryd.prog n 22 d = some c) : ∃ x : List Inst, (∀ y ∈ x, (OkInst) y) ∧ c = Enc.enc x := by
  obtain ⟨L, hQ, rfl⟩ := cvD_sliceQ (g := Enc.enc) (Q := OkInst) Tryd.underlying22 (fun n d c h => dec71 h) h
  exact ⟨L, hQ, rfl⟩
def OkFunc (x : Func) : Prop := (fun _ : ByteArray => True) x.Name ∧ (fun l : List Inst => ∀ x ∈ l, (OkInst) x) x.Code
theorem dec24 {H : Type} {n : Nat} {d : DataW H} {c : List CV} (h : cvD Tryd.prog n 24 d = some c) : ∃ x : Func, OkFunc x ∧ c = Enc.enc x := by
  obtain ⟨m, l, rfl, rfl, hl, h⟩ := cvD_struct Tryd.underlying24 h
  have hl : l.length = 2 := hl
  match l, hl with
  | [d0, d1], _ =>
    simp only [List.zipWith] at h
    obtain ⟨a0, b0, h0, k1, rfl⟩ := concatM_cons h
    obtain ⟨a1, b1, h1, k2, rfl⟩ := concatM_cons k1
    obtain rfl := concatM_nil k2
    obtain ⟨x0, q0, rfl⟩ := dec9 h0
    obtain ⟨x1, q1, rfl⟩ := dec22 h1
    exact ⟨⟨x0, x1⟩, ⟨q0, q1⟩, rfl⟩
theorem dec50 {H : Type} {n : Nat} {d : DataW H} {c : List CV} (h : cvD Tryd.prog n 50 d = some c) : ∃ x : List Func, (∀ y ∈ x, (OkFunc) y) ∧ c = Enc.enc x := by
  obtain ⟨L, hQ, rfl⟩ := cvD_sliceQ (g := Enc.enc) (Q := OkFunc) Tryd.underlying50 (fun n d c h => dec24 h) h
  exact ⟨L, hQ, rfl⟩
def OkStart (x : Start) : Prop := (fun x : Int => -9223372036854775808 ≤ x ∧ x ≤ 9223372036854775807) x.Func ∧ (fun x : Int => -9223372036854775808 ≤ x ∧ x ≤ 9223372036854775807) x.Arg
theorem dec108 {H : Type} {n : Nat} {d : DataW H} {c : List CV} (h : cvD Tryd.prog n 108 d = some c) : ∃ x : Start, OkStart x ∧ c = Enc.enc x := by
  obtain ⟨m, l, rfl, rfl, hl, h⟩ := cvD_struct Tryd.underlying108 h
  have hl : l.length = 2 := hl
  match l, hl with
  | [d0, d1], _ =>
    simp only [List.zipWith] at h
    obtain ⟨a0, b0, h0, k1, rfl⟩ := concatM_cons h
    obtain ⟨a1, b1, h1, k2, rfl⟩ := concatM_cons k1
    obtain rfl := concatM_nil k2
    obtain ⟨x0, q0, rfl⟩ := dec3 h0
    obtain ⟨x1, q1, rfl⟩ := dec3 h1
    exact ⟨⟨x0, x1⟩, ⟨q0, q1⟩, rfl⟩
theorem dec51 {H : Type} {n : Nat} {d : DataW H} {c : List CV} (h : cvD Tryd.prog n 51 d = some c) : ∃ x : List Start, (∀ y ∈ x, (OkStart) y) ∧ c = Enc.enc x := by
  obtain ⟨L, hQ, rfl⟩ := cvD_sliceQ (g := Enc.enc) (Q := OkStart) Tryd.underlying51 (fun n d c h => dec108 h) h
  exact ⟨L, hQ, rfl⟩
def OkProgram (x : Program) : Prop := (fun l : List Var => ∀ x ∈ l, (OkVar) x) x.Vars ∧ (fun l : List ByteArray => ∀ x ∈ l, (fun _ : ByteArray => True) x) x.Mutexes ∧ (fun l : List ByteArray => ∀ x ∈ l, (fun _ : ByteArray => True) x) x.Conds ∧ (fun l : List Func => ∀ x ∈ l, (OkFunc) x) x.Funcs ∧ (fun l : List Start => ∀ x ∈ l, (OkStart) x) x.Threads
theorem dec53 {H : Type} {n : Nat} {d : DataW H} {c : List CV} (h : cvD Tryd.prog n 53 d = some c) : ∃ x : Program, OkProgram x ∧ c = Enc.enc x := by
  obtain ⟨m, l, rfl, rfl, hl, h⟩ := cvD_struct Tryd.underlying53 h
  have hl : l.length = 5 := hl
  match l, hl with
  | [d0, d1, d2, d3, d4], _ =>
    simp only [List.zipWith] at h
    obtain ⟨a0, b0, h0, k1, rfl⟩ := concatM_cons h
    obtain ⟨a1, b1, h1, k2, rfl⟩ := concatM_cons k1
    obtain ⟨a2, b2, h2, k3, rfl⟩ := concatM_cons k2
    obtain ⟨a3, b3, h3, k4, rfl⟩ := concatM_cons k3
    obtain ⟨a4, b4, h4, k5, rfl⟩ := concatM_cons k4
    obtain rfl := concatM_nil k5
    obtain ⟨x0, q0, rfl⟩ := dec48 h0
    obtain ⟨x1, q1, rfl⟩ := dec49 h1
    obtain ⟨x2, q2, rfl⟩ := dec49 h2
    obtain ⟨x3, q3, rfl⟩ := dec50 h3
    obtain ⟨x4, q4, rfl⟩ := dec51 h4
    exact ⟨⟨x0, x1, x2, x3, x4⟩, ⟨q0, q1, q2, q3, q4⟩, rfl⟩
theorem open53 {H : Type} {enc : TypeId × Value → H} {W : World} {sp : Nat → Bool} {held : Bool} {v : Value} {d : DataW H} {p : List MemPlace} {r : Go.Reach} {b0 : Nat} (hv : Value.okWide Tryd.prog W r b0 53 v) (h : DataW.Trod enc Tryd.prog W 0 sp held 53 v d p) :
    ∃ x : Program, OkProgram x ∧ AVRep W m0 (fun _ => False) v (.agg ((Enc.enc x).map .p)) := by
  obtain ⟨cvs, e, hr⟩ := rep_struct (m := 8) Tryd.underlying53 (by kernel_rfl) hv h
  obtain ⟨x, hx, rfl⟩ := dec53 e
  exact ⟨x, hx, hr⟩
theorem open22 {H : Type} {enc : TypeId × Value → H} {W : World} {sp : Nat → Bool} {held : Bool} {v : Value} {d : DataW H} {p : List MemPlace} {r : Go.Reach} {b0 : Nat} (hv : Value.okWide Tryd.prog W r b0 22 v) (h : DataW.Trod enc Tryd.prog W 0 sp held 22 v d p) :
    ∃ x : List Inst, (fun l : List Inst => ∀ x ∈ l, (OkInst) x) x ∧ AVRep W m0 (fun _ => False) v (.cell (.p (.sl x.length (encL x)))) := by
  obtain ⟨c, e, hr⟩ := rep_slice (m := 8) Tryd.underlying22 (by kernel_rfl) hv h
  obtain ⟨x, hx, e2⟩ := dec22 e
  obtain rfl : c = .sl x.length (encL x) := by simpa using e2
  exact ⟨x, hx, hr⟩
theorem gN1 : Tryd.prog.globalNamed "modelcheck/value.names" = some 1 := by kernel_rfl
theorem gN0 : Tryd.prog.globalNamed "modelcheck/inst.rows" = some 0 := by kernel_rfl
/-- The package variables as the rows lay them. -/
theorem gT1 : (Tryd.prog.globals[1]?).map (·.type) = some 161 := by kernel_rfl
set_option maxRecDepth 100000 in
theorem gC1 : cvD Tryd.prog 6 161 (Go.Proofs.YtgcinmhiohlmiaaDoor.Rows.laid_modelcheck_value_names (H := Unit)) = some (encL namesTab) := by kernel_rfl
theorem gT0 : (Tryd.prog.globals[0]?).map (·.type) = some 145 := by kernel_rfl
set_option maxRecDepth 100000 in
theorem gC0 : cvD Tryd.prog 6 145 (Go.Proofs.YtgcinmhiohlmiaaDoor.Rows.laid_modelcheck_inst_rows (H := Unit)) = some (encL rowsTab) := by kernel_rfl
set_option maxRecDepth 100000 in
theorem globs {W : World} (laid : List (String × DataW Unit)) (he : laid = [("modelcheck/value.names", Go.Proofs.YtgcinmhiohlmiaaDoor.Rows.laid_modelcheck_value_names), ("modelcheck/inst.rows", Go.Proofs.YtgcinmhiohlmiaaDoor.Rows.laid_modelcheck_inst_rows)])
    (h : laidMetH Tryd.prog laid W) : ∀ g cs, Globals.G g = some cs → AVRep W m0 (fun _ => False) (.pointer (some ⟨g, 0, none⟩)) (.cell (.ep cs 0)) := by
  subst he
  rw [MakeChecks.laidMetH_plain _ _ _ (by kernel_rfl)] at h
  obtain ⟨ps, ⟨g0, t0, cs0, f0, p0, q0, hg0, ht0, hv0, hd0, ⟨g1, t1, cs1, f1, p1, q1, hg1, ht1, hv1, hd1, _, _⟩, _⟩, _, _⟩ := h
  obtain rfl := Option.some.inj (gN1.symm.trans hg0)
  obtain rfl := Option.some.inj (gT1.symm.trans ht0)
  obtain rfl := Option.some.inj (gN0.symm.trans hg1)
  obtain rfl := Option.some.inj (gT0.symm.trans ht1)
  intro g cs hgc
  have hgc : (if g = 0 then some (encL rowsTab) else if g = 1 then some (encL namesTab) else none) = some cs := hgc
  split at hgc
  · rename_i e
    subst e
    cases hgc
    exact rep_global (m := 6) (t := 145) (by kernel_rfl) hd1 gC0 fun j => by simpa using World.var?_cell hg1 hv1 j
  · split at hgc
    · rename_i e
      subst e
      cases hgc
      exact rep_global (m := 6) (t := 161) (by kernel_rfl) hd0 gC1 fun j => by simpa using World.var?_cell hg0 hv0 j
    · cases hgc
end Go.Dc
end
