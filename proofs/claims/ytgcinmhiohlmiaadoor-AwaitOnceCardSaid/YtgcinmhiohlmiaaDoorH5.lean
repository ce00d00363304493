/- Contracts of functions, by their numbers, and the laws that walk them. Conditions: as each states. -/
import Derived.Test.YtgcinmhiohlmiaaDoorH4
import Derived.Test.YtgcinmhiohlmiaaDoorH3
import Derived.Test.YtgcinmhiohlmiaaDoorRows
import Derived.LaidMore
import Derived.MakeChecks
set_option linter.all false
section
set_option linter.all false
namespace Go.Dc.Pl
open Go Go.Hw Go.Dc
set_option maxRecDepth 100000
/-- What an instruction with these operands must satisfy. -/
structure InstOk (x : Inst) (uA uB uC uO uN uF uR : Bool) : Prop where
  zA : uA = false → x.A = 0
  zB : uB = false → x.B = 0
  zC : uC = false → x.C = 0
  zO : uO = false → x.Obj = 0
  zN : uN = false → x.N = 0
  zF : uF = false → x.Fn = 0
  zR : uR = false → x.Order = 0
  A : 0 ≤ x.A ∧ x.A < 8
  B : 0 ≤ x.B ∧ x.B < 8
  C : 0 ≤ x.C ∧ x.C < 8
  R : 0 ≤ x.Order ∧ x.Order ≤ 2
  F : uF = true → 1 ≤ x.Fn ∧ x.Fn ≤ 10
  N : x.Op = 1 → -2147483648 ≤ x.N ∧ x.N ≤ 2147483647
theorem ic_aux {c : Bool} {k : Int} {a : Option Int} (hk : k ≠ 0) : (eqI ((cond c (some k) a).getD 0) 0 = true) ↔ (c = false ∧ eqI (a.getD 0) 0 = true) := by
  cases c <;> simp [eqI, hk]
theorem icode_iff {x : Inst} (h1 : 1 ≤ x.Op) (h2 : x.Op ≤ 22) {uA uB uC uO uN uF uR : Bool} (hA : r07_has x.Op 65 = some uA) (hB : r07_has x.Op 66 = some uB) (hC : r07_has x.Op 67 = some uC)
    (hO : r07_has x.Op 79 = some uO) (hN : r07_has x.Op 78 = some uN) (hF : r07_has x.Op 70 = some uF) (hR : r07_has x.Op 82 = some uR) : eqI (icode x) 0 = true ↔ InstOk x uA uB uC uO uN uF uR := by
  obtain ⟨na, nb, hna, hnb, hea, heb⟩ := names_eq x.Fn
  have e : icode x = (cond (orB (orB (orB (orB (orB (orB (andB (!uA) (!(eqI x.A 0))) (andB (!uB) (!(eqI x.B 0)))) (andB (!uC) (!(eqI x.C 0)))) (andB (!uO) (!(eqI x.Obj 0)))) (andB (!uN) (!(eqI x.N 0)))) (andB (!uF) (!(eqI x.Fn 0)))) (andB (!uR) (!(eqI x.Order 0)))) (some 9)
      (cond (orB (orB (!(andB (!ltI x.A 0) (ltI x.A 8))) (!(andB (!ltI x.B 0) (ltI x.B 8)))) (!(andB (!ltI x.C 0) (ltI x.C 8)))) (some 10) (cond (orB (ltI x.Order 0) (ltI 2 x.Order)) (some 13) (cond (andB uF (noName x.Fn)) (some 8) (cond (andB (eqI x.Op 1) (orB (ltI x.N (-2147483648)) (ltI 2147483647 x.N))) (some 2) (some 0)))))).getD 0 := by
    rw [icode, r07_Check, show orB (ltI x.Op 1) (ltI 22 x.Op) = false by simp [orB_d, ltI_d]; omega]
    simp only [hA, hB, hC, hO, hN, hF, hR, hnb, heb, Option.bind_some, Option.isSome_some, Option.getD_some, orB_t, guardO_t, cond_false, r07_register]
  rw [e, ic_aux (by decide), ic_aux (by decide), ic_aux (by decide), ic_aux (by decide), ic_aux (by decide)]
  simp only [orB_d, andB_d, eqI_d, ltI_d, noName, Bool.or_eq_false_iff, Bool.and_eq_false_imp, Bool.not_eq_true', Bool.not_eq_false', decide_eq_true_eq, decide_eq_false_iff_not, Bool.not_eq_eq_eq_not, Bool.not_true, Bool.not_false, Bool.and_eq_true, Option.getD_some, decide_true, and_true]
  constructor
  · rintro ⟨⟨⟨⟨⟨⟨⟨a, b⟩, c⟩, o⟩, n⟩, f⟩, r⟩, ⟨⟨ra, rb⟩, rc⟩, ro, rf, rn⟩
    refine ⟨a, b, c, o, n, f, r, by omega, by omega, by omega, by omega, fun h => ?_, fun h => ?_⟩
    · have := rf h; omega
    · have := rn h; omega
  · intro h
    obtain ⟨a, b, c, o, n, f, r, ra, rb, rc, ro, rf, rn⟩ := h
    refine ⟨⟨⟨⟨⟨⟨⟨a, b⟩, c⟩, o⟩, n⟩, f⟩, r⟩, ⟨⟨by omega, by omega⟩, by omega⟩, by omega, fun h => ?_, fun h => ?_⟩
    · have := rf h; omega
    · have := rn h; omega
/-- An instruction of a program that is well formed. -/
theorem ci_iff {p : Program} {x : Inst} {n : Nat} : eqI (ci p x n) 0 = true ↔ eqI (icode x) 0 = true ∧ exs p x = true ∧ (x.Op = 4 ∨ x.Op = 5 → 0 ≤ x.N ∧ x.N ≤ n) := by
  rw [ci]
  cases h : eqI (icode x) 0
  · simp [h]
  · cases exs p x
    · simp [eqI]
    · simp only [Bool.not_true, cond_false, true_and]
      cases h2 : andB (orB (eqI x.Op 4) (eqI x.Op 5)) (orB (ltI x.N 0) (ltI (n : Int) x.N))
      · simp only [cond_false, show eqI 0 0 = true from rfl, true_iff]
        simp only [andB_d, orB_d, eqI_d, ltI_d, Bool.and_eq_false_imp, Bool.or_eq_true, decide_eq_true_eq, Bool.or_eq_false_iff, decide_eq_false_iff_not] at h2
        intro h3; have := h2 h3; omega
      · simp only [cond_true, show eqI 12 0 = false from rfl, Bool.false_eq_true, false_iff]
        simp only [andB_d, orB_d, eqI_d, ltI_d, Bool.and_eq_true, Bool.or_eq_true, decide_eq_true_eq] at h2
        intro h3; have := h3 h2.1; omega
theorem first_none_iff {α β : Type} {f : Nat → α → Option β} : ∀ {l : List α} {k : Nat}, first f l k = none ↔ ∀ j x, l[j]? = some x → f (k + j) x = none
  | [], k => by simp
  | x :: q, k => by
    rw [first_cons]
    constructor
    · intro h j y hy
      cases hc : f k x with
      | some r => rw [hc] at h; cases h
      | none =>
        rw [hc] at h
        cases j with
        | zero => obtain rfl := Option.some.inj hy; exact hc
        | succ j => have := first_none_iff.1 h j y (by simpa using hy); rwa [show k + (j + 1) = k + 1 + j by omega]
    · intro h
      rw [show f k x = none from h 0 x rfl]
      exact first_none_iff.2 fun j y hy => by have := h (j + 1) y (by simpa using hy); rwa [show k + 1 + j = k + (j + 1) by omega]
/-- A function's code is well formed. -/
theorem cF_iff {p : Program} {k : Nat} {f : Func} : cF p k f = none ↔ f.Code.length ≤ 64 ∧ ∀ (j : Nat) (x : Inst), f.Code[j]? = some x → eqI (ci p x f.Code.length) 0 = true := by
  rw [cF]
  cases h : ltI 64 ((f.Code.length : Nat) : Int)
  · rw [cond_false, Option.map_eq_none_iff, first_none_iff]
    have h1 : f.Code.length ≤ 64 := by simp [ltI_d] at h; omega
    simp only [cI, h1, true_and]
    refine forall_congr' fun j => forall_congr' fun x => imp_congr_right fun _ => ?_
    cases eqI (ci p x f.Code.length) 0 <;> simp
  · simp only [cond_true, reduceCtorEq, false_iff]
    have h1 : 64 < f.Code.length := by simp [ltI_d] at h; omega
    rintro ⟨h2, _⟩; omega
theorem ckN_ne {p : Program} {r : Int × Int} (hn : ckN p = some r) : eqI r.1 0 = false := by
  rw [ckN] at hn
  split at hn
  · rename_i hb; obtain rfl := Option.some.inj hn; have := badName_ne hb; exact this
  · split at hn
    · rename_i hb; obtain rfl := Option.some.inj hn; have := badName_ne hb; exact this
    · split at hn
      · rename_i hb; obtain rfl := Option.some.inj hn; have := badName_ne hb; exact this
      · exact badName_ne hn
/-- A program is well formed. -/
theorem chk_iff {p : Program} : eqI (chk p).1 0 = true ↔ ckN p = none ∧ eqI (ckO p) 0 = true ∧ (∀ (k : Nat) (f : Func), p.Funcs[k]? = some f → cF p k f = none) ∧ eqI (ckT p) 0 = true := by
  rw [chk]
  cases hn : ckN p with
  | some r => have := ckN_ne hn; simp [this]
  | none =>
    cases ho : eqI (ckO p) 0
    · simp [ho]
    · simp only [Bool.not_true, cond_false, true_and]
      cases hf : first (cF p) p.Funcs 0 with
      | some r =>
        have := first_ne (fun k x r h => cF_ne h) _ _ hf
        simp only [this, Bool.false_eq_true, false_iff]
        rintro ⟨h, _⟩
        obtain ⟨j, x, hx, e⟩ := first_some hf
        rw [Nat.zero_add, h j x hx] at e; cases e
      | none =>
        simp only [iff_and_self]
        intro _ k f hk
        have := first_none_iff.1 hf k f hk
        rwa [Nat.zero_add] at this
end Go.Dc.Pl
end
section
set_option linter.all false
namespace Go.Dc.Pl
open Go Go.Hw Go.Dc
set_option maxRecDepth 100000
theorem load_ok {x : Inst} (h : x.Op = 8) : eqI (icode x) 0 = true ↔ InstOk x true false false true false false true :=
  icode_iff (by omega) (by omega) (by rw [h]; kernel_rfl) (by rw [h]; kernel_rfl) (by rw [h]; kernel_rfl) (by rw [h]; kernel_rfl) (by rw [h]; kernel_rfl) (by rw [h]; kernel_rfl) (by rw [h]; kernel_rfl)
theorem calc_ok {x : Inst} (h : x.Op = 3) : eqI (icode x) 0 = true ↔ InstOk x true true true false false true false :=
  icode_iff (by omega) (by omega) (by rw [h]; kernel_rfl) (by rw [h]; kernel_rfl) (by rw [h]; kernel_rfl) (by rw [h]; kernel_rfl) (by rw [h]; kernel_rfl) (by rw [h]; kernel_rfl) (by rw [h]; kernel_rfl)
theorem await_ok {x : Inst} (h : x.Op = 14) : eqI (icode x) 0 = true ↔ InstOk x true true false true false true true :=
  icode_iff (by omega) (by omega) (by rw [h]; kernel_rfl) (by rw [h]; kernel_rfl) (by rw [h]; kernel_rfl) (by rw [h]; kernel_rfl) (by rw [h]; kernel_rfl) (by rw [h]; kernel_rfl) (by rw [h]; kernel_rfl)
/-- A spin at i. -/
structure Pat (f : Func) (i : Nat) (a b c : Inst) : Prop where
  ha : f.Code[i]? = some a
  hb : f.Code[i + 1]? = some b
  hc : f.Code[i + 2]? = some c
  op1 : a.Op = 8
  op2 : b.Op = 3
  op3 : c.Op = 5
  cB : c.B = b.A
  cN : c.N = (i : Int)
  t1 : f.Code.any (brTo ((i + 1 : Nat) : Int)) = false
  t2 : f.Code.any (brTo ((i + 2 : Nat) : Int)) = false
  one : ¬ (b.B = a.A ↔ b.C = a.A)
  oth : (if b.C = a.A then b.B else b.C) ≠ b.A
  fn : b.Fn = 7 ∨ b.Fn = 8 ∨ (b.C = a.A ∧ (b.Fn = 9 ∨ b.Fn = 10))
theorem cond_dec {α : Type} (p : Prop) [Decidable p] (a b : α) : cond (decide p) a b = if p then a else b := by by_cases h : p <;> simp [h]
theorem awF_some {f : Func} {i : Nat} {y : Inst} (h : awF f i = some y) : ∃ a b c, Pat f i a b c ∧ y = awI a b := by
  rw [awF] at h
  split at h
  · rename_i a b c ha hb hc
    cases hp : pat f i a b c
    · rw [hp] at h; cases h
    · rw [hp] at h
      obtain rfl := Option.some.inj h
      refine ⟨a, b, c, ?_, rfl⟩
      simp only [pat, andB_d, orB_d, eqI_d, eqB, Bool.and_eq_true, Bool.or_eq_true, Bool.not_eq_true', decide_eq_true_eq, cond_dec, decide_eq_false_iff_not, beq_eq_false_iff_ne, ne_eq, decide_eq_decide] at hp
      obtain ⟨⟨⟨⟨⟨o1, o2⟩, o3⟩, cb⟩, cn⟩, t1, t2, one, oth, fn⟩ := hp
      exact ⟨ha, hb, hc, o1, o2, o3, cb, cn, t1, t2, one, oth, by rcases fn with (h | h) | h <;> simp [h]⟩
  · cases h
theorem Pat.awF {f : Func} {i : Nat} {a b c : Inst} (h : Pat f i a b c) : awF f i = some (awI a b) := by
  rw [Pl.awF, h.ha, h.hb, h.hc]
  have : pat f i a b c = true := by
    simp only [pat, andB_d, orB_d, eqI_d, eqB, Bool.and_eq_true, Bool.or_eq_true, Bool.not_eq_true', decide_eq_true_eq, cond_dec, decide_eq_false_iff_not, beq_eq_false_iff_ne, ne_eq, decide_eq_decide]
    refine ⟨⟨⟨⟨⟨h.op1, h.op2⟩, h.op3⟩, h.cB⟩, h.cN⟩, h.t1, h.t2, h.one, h.oth, ?_⟩
    rcases h.fn with h | h | h <;> simp [h]
  simp only [this, onlyIf_t]
theorem awI_B (a b : Inst) : (awI a b).B = if b.C = a.A then b.B else b.C := by
  simp only [awI, eqI_d, cond_dec]
theorem exs_vars {p : Program} {x : Inst} (h : x.Op = 8 ∨ x.Op = 14) : exs p x = (andB (!ltI x.Obj 0) (ltI x.Obj ((p.Vars.length : Nat) : Int))) := by
  rcases h with h | h <;> simp [exs, r08_exists, h, eqI]
theorem aw_ci {p : Program} {f : Func} {i n : Nat} {a b c : Inst} (h : Pat f i a b c) (ha : eqI (ci p a n) 0 = true) (hb : eqI (ci p b n) 0 = true) : eqI (ci p (awI a b) n) 0 = true := by
  obtain ⟨a1, a2, a3⟩ := ci_iff.1 ha
  obtain ⟨b1, b2, b3⟩ := ci_iff.1 hb
  have la := (load_ok h.op1).1 a1
  have lb := (calc_ok h.op2).1 b1
  refine ci_iff.2 ⟨(await_ok rfl).2 ⟨(fun e => by cases e), (fun e => by cases e), fun _ => rfl, (fun e => by cases e), fun _ => rfl, (fun e => by cases e), (fun e => by cases e), la.A, ?_, ⟨show (0:Int) ≤ 0 by decide, show (0:Int) < 8 by decide⟩, la.R, fun _ => ?_, (fun e => by cases e)⟩, ?_, (fun e => by rcases e with e | e <;> cases e)⟩
  · rw [awI_B]; split
    · exact lb.B
    · exact lb.C
  · simp only [awI, conF, eqI_d, cond_dec]
    split
    · omega
    · split
      · omega
      · split <;> omega
  · rw [exs_vars (.inl h.op1)] at a2
    rw [exs_vars (.inr rfl)]; exact a2
theorem exs_rw (p : Program) (x : Inst) : exs (rwP p) x = exs p x := by simp [exs, r08_exists, rwP]
theorem ci_rw (p : Program) (x : Inst) (n : Nat) : ci (rwP p) x n = ci p x n := by simp [ci, exs_rw]
theorem rwP_get {p : Program} {k : Nat} {g : Func} (h : (rwP p).Funcs[k]? = some g) : k < p.Funcs.length ∧ g = rwF (fOf p k) := by
  simp only [rwP, List.getElem?_map] at h
  cases hf : p.Funcs[k]? with
  | none => rw [hf] at h; cases h
  | some f =>
    have hk := getN_some hf
    rw [fOf_eq hk] at h
    simp at h
    exact ⟨hk, h.symm⟩
theorem chk_rw {p : Program} (h : eqI (chk p).1 0 = true) : eqI (chk (rwP p)).1 0 = true := by
  obtain ⟨h1, h2, h3, h4⟩ := chk_iff.1 h
  refine chk_iff.2 ⟨?_, ?_, fun k g hg => ?_, ?_⟩
  · rw [← h1, ckN, ckN]
    simp [rwP, rwF, Function.comp_def]
  · rw [← h2]; simp [ckO, limP, rwP]
  · obtain ⟨hk, rfl⟩ := rwP_get hg
    obtain ⟨c1, c2⟩ := cF_iff.1 (h3 k _ (fOf_eq hk))
    refine cF_iff.2 ⟨by simpa [rwF, rwL_len] using c1, fun j x hx => ?_⟩
    rw [ci_rw]
    simp only [rwF, rwL_len] at hx ⊢
    rw [rwL_get] at hx
    cases hc : (fOf p k).Code[j]? with
    | none => rw [hc] at hx; cases hx
    | some c =>
      rw [hc, Option.map_some] at hx
      obtain rfl := Option.some.inj hx
      cases ha : awF (fOf p k) j with
      | none => exact c2 j c hc
      | some y =>
        obtain ⟨a, b, d, hp, rfl⟩ := awF_some ha
        exact aw_ci hp (c2 _ _ hp.ha) (c2 _ _ hp.hb)
  · rw [← h4, ckT, ckT, show (thF (rwP p)) = thF p by funext x; simp only [thF, rwP, List.length_map]]; rfl
theorem rw_op {f : Func} {i : Nat} {c : Inst} (h : (rwL f)[i]? = some c) : (f.Code[i]? = some c ∧ awF f i = none) ∨ (c.Op = 14 ∧ ∃ x, f.Code[i]? = some x ∧ x.Op = 8 ∧ (awF f i).isSome = true) := by
  rw [rwL_get] at h
  cases hc : f.Code[i]? with
  | none => rw [hc] at h; cases h
  | some x =>
    rw [hc, Option.map_some] at h
    obtain rfl := Option.some.inj h
    cases ha : awF f i with
    | none => exact .inl ⟨rfl, rfl⟩
    | some y =>
      obtain ⟨a, b, d, hp, rfl⟩ := awF_some ha
      rw [hp.ha] at hc
      obtain rfl := Option.some.inj hc
      exact .inr ⟨rfl, _, rfl, hp.op1, rfl⟩
theorem any_iff {l : List Inst} {q : Inst → Bool} : l.any q = false ↔ ∀ (j : Nat) x, l[j]? = some x → q x = false := by
  rw [List.any_eq_false]
  constructor
  · intro h j x hx; simpa using h x (List.mem_of_getElem? hx)
  · intro h x hx
    obtain ⟨j, hj⟩ := List.getElem?_of_mem hx
    simp [h j x hj]
theorem any_rw {f : Func} {n : Int} (h : (rwL f).any (brTo n) = false) : f.Code.any (brTo n) = false := by
  rw [any_iff] at h ⊢
  intro j x hx
  have hj := h j _ (by rw [rwL_get, hx]; rfl)
  cases ha : awF f j with
  | none => rw [ha] at hj; exact hj
  | some y =>
    obtain ⟨a, b, d, hp, rfl⟩ := awF_some ha
    rw [hp.ha] at hx
    obtain rfl := Option.some.inj hx
    simp [brTo, hp.op1, eqI, orB, andB]
theorem awF_rw (f : Func) (i : Nat) : awF (rwF f) i = none := by
  cases h : awF (rwF f) i with
  | none => rfl
  | some y =>
    obtain ⟨a, b, c, hp, rfl⟩ := awF_some h
    have h1 := rw_op hp.ha
    have h2 := rw_op hp.hb
    have h3 := rw_op hp.hc
    rw [hp.op1] at h1; rw [hp.op2] at h2; rw [hp.op3] at h3
    simp only [show ¬ ((8 : Int) = 14) by decide, show ¬ ((3 : Int) = 14) by decide, show ¬ ((5 : Int) = 14) by decide, false_and, or_false] at h1 h2 h3
    have : Pat f i a b c := ⟨h1.1, h2.1, h3.1, hp.op1, hp.op2, hp.op3, hp.cB, hp.cN, any_rw hp.t1, any_rw hp.t2, hp.one, hp.oth, hp.fn⟩
    rw [this.awF] at h1; cases h1.2
theorem found_rw (p : Program) : found (rwP p) = [] := by
  rw [found, List.map_eq_nil_iff, spins, List.flatMap_eq_nil_iff]
  intro k hk
  rw [spinsOf, List.flatMap_eq_nil_iff]
  intro i hi
  simp only [List.mem_range] at hk
  obtain ⟨g, hg⟩ : ∃ g, (rwP p).Funcs[k]? = some g := ⟨_, List.getElem?_eq_getElem hk⟩
  rw [show gd (rwP p).Funcs k = fOf (rwP p) k from rfl, spinO]
  obtain ⟨_, e⟩ := rwP_get hg
  rw [fOf_eq hk] at hg
  rw [Option.some.inj hg, e, awF_rw]
/-- Spins lie apart. -/
def apart (y x : AwaitSpin) : Prop := y.fn < x.fn ∨ (y.fn = x.fn ∧ y.first + 2 < x.first)
theorem awF_apart {f : Func} {i j : Nat} (hi : (awF f i).isSome = true) (hj : (awF f j).isSome = true) (h : i < j) : i + 2 < j := by
  obtain ⟨y, hy⟩ := Option.isSome_iff_exists.1 hi
  obtain ⟨z, hz⟩ := Option.isSome_iff_exists.1 hj
  obtain ⟨a, b, c, hp, _⟩ := awF_some hy
  obtain ⟨a', b', c', hq, _⟩ := awF_some hz
  rcases Nat.lt_or_ge (i + 2) j with h1 | h1
  · exact h1
  · rcases (show j = i + 1 ∨ j = i + 2 by omega) with rfl | rfl
    · have e := Option.some.inj (hp.hb.symm.trans hq.ha)
      have := hp.op2; rw [e, hq.op1] at this; cases this
    · have e := Option.some.inj (hp.hc.symm.trans hq.ha)
      have := hp.op3; rw [e, hq.op1] at this; cases this
theorem mem_spinO {k : Nat} {f : Func} {i : Nat} {x : AwaitSpin} (h : x ∈ spinO k f i) : x.fn = (k : Int) ∧ x.first = (i : Int) ∧ (awF f i).isSome = true := by
  rw [spinO] at h
  cases ha : awF f i with
  | none => rw [ha] at h; cases h
  | some y => rw [ha] at h; obtain rfl := List.mem_singleton.1 h; exact ⟨rfl, rfl, rfl⟩
theorem mem_spinsOf {k : Nat} {f : Func} {x : AwaitSpin} (h : x ∈ spinsOf k f) : x.fn = (k : Int) := by
  rw [spinsOf, List.mem_flatMap] at h
  obtain ⟨i, _, hi⟩ := h
  exact (mem_spinO hi).1
theorem spinsOf_apart (k : Nat) (f : Func) : (spinsOf k f).Pairwise apart := by
  rw [spinsOf, List.pairwise_flatMap]
  refine ⟨fun i _ => ?_, ?_⟩
  · rw [spinO]; split
    · exact List.pairwise_singleton _ _
    · exact List.Pairwise.nil
  · refine List.Pairwise.imp (fun {i j} hij x hx y hy => ?_) List.pairwise_lt_range
    obtain ⟨x1, x2, x3⟩ := mem_spinO hx
    obtain ⟨y1, y2, y3⟩ := mem_spinO hy
    have := awF_apart x3 y3 hij
    exact .inr ⟨by rw [x1, y1], by rw [x2, y2]; omega⟩
theorem spins_apart (p : Program) : (spins p).Pairwise apart := by
  rw [spins, List.pairwise_flatMap]
  refine ⟨fun i _ => spinsOf_apart _ _, ?_⟩
  refine List.Pairwise.imp (fun {i j} hij x hx y hy => ?_) List.pairwise_lt_range
  exact .inl (by rw [mem_spinsOf hx, mem_spinsOf hy]; omega)
end Go.Dc.Pl
end
section
set_option linter.all false
namespace Go.Dc
open Go Go.Hw Go.Proofs
set_option maxRecDepth 100000

def r08_Valid (fuelN : Nat) (a0 : Program) : Option Bool :=
  Option.bind (r08_Check fuelN a0) (fun y1 => some (eqI y1.1 0))

set_option maxHeartbeats 2000000 in
theorem at_r08_Valid {fuelN : Nat} {a0 : Program} {r : Bool} (hs : r08_Valid fuelN a0 = some r) : At Tryd.prog 43 [.agg (eA a0)] (bV r) := by
  refine at_bound (by kernel_rfl) fun hb => ?_
  have hb1 : LenOk (.sl a0.Vars.length (encL a0.Vars)) := lkc hb
  have hb2 : LenOk (.sl a0.Mutexes.length (encL a0.Mutexes)) := lkc hb
  have hb3 : LenOk (.sl a0.Conds.length (encL a0.Conds)) := lkc hb
  have hb4 : LenOk (.sl a0.Funcs.length (encL a0.Funcs)) := lkc hb
  have hb5 : LenOk (.sl a0.Threads.length (encL a0.Threads)) := lkc hb
  refine at_code mixed Tryd.func43 (by kernel_rfl) rfl (by kernel_rfl) rfl fun Q hQ => ?_
  rw [r08_Valid] at hs
  refine goR f0 ?_
  revert hs; refine bK fun y1 hx2 hs => ?_
  refine cP f0 (at_r08_Check hx2) ?_
  refine goR f0 ?_
  obtain rfl := sj hs
  exact hQ _ _ (rg f0 (Gh.refl _))
end Go.Dc
end
section
set_option linter.all false
namespace Go.Dc
open Go Go.Hw Go.Proofs
set_option maxRecDepth 100000
def r08_Size_L1 : List Func → Int → Nat → Option Int
  | [], i50, k51 => some (i50)
  | x67 :: q63, i50, k51 => r08_Size_L1 q63 (IntKind.i64.wrap (i50 + ((x67.Code.length : Nat) : Int))) (k51 + 1)

def r08_Size (a0 : Program) : Option Int :=
  Option.bind (α := Int) (Option.bind (r08_Size_L1 a0.Funcs 0 0) (fun i56 => some (i56))) (fun i33 => some i33)

set_option maxHeartbeats 2000000 in
theorem at_r08_Size {a0 : Program} {r : Int} (hs : r08_Size a0 = some r) : At Tryd.prog 46 [.agg (eA a0)] (iV .i64 r) := by
  refine at_bound (by kernel_rfl) fun hb => ?_
  have hb1 : LenOk (.sl a0.Vars.length (encL a0.Vars)) := lkc hb
  have hb2 : LenOk (.sl a0.Mutexes.length (encL a0.Mutexes)) := lkc hb
  have hb3 : LenOk (.sl a0.Conds.length (encL a0.Conds)) := lkc hb
  have hb4 : LenOk (.sl a0.Funcs.length (encL a0.Funcs)) := lkc hb
  have hb5 : LenOk (.sl a0.Threads.length (encL a0.Threads)) := lkc hb
  refine at_code mixed Tryd.func46 (by kernel_rfl) rfl (by kernel_rfl) rfl fun Q hQ => ?_
  rw [r08_Size] at hs
  refine goR2 f0 ?_
  revert hs; refine bK fun o35 e34 hs => ?_
  refine awp_cutK (fun (v : Int) (σ : St) => some (v) = some o35 ∧ σ.env 3 = iV .i64 v ∧ 3 ≤ σ.gen) (by rfl) (fun Q hK36 hX37 => ?_) (fun i33 σ3 hp => ?_)
  · refine goR f0 ?_
    revert e34; refine bK fun o58 e57 e34 => ?_
    refine awp_loopW (fun (v : (List Func) × Int × Nat) (σ : St) => r08_Size_L1 v.1 v.2.1 v.2.2 = some o58 ∧ v.1 = a0.Funcs.drop v.2.2 ∧ σ.env 1 = .cell (.ref (.o 1 0 0) 0) ∧ σ.env 3 = iV .i64 v.2.1 ∧ σ.env 4 = iV .i64 ((v.2.2 : Nat) : Int) ∧ σ.hp (.o 1 0 0) = some (.cells (eA a0)) ∧ 3 ≤ σ.gen) (fun v => v.1.length) _ (Gh.refl _) (a0.Funcs, 0, 0) ⟨e57, by simp, pv f0, pv f0, pv f0, pv f0, pg⟩ fun v σ6 hp L59 hL60 => ?_
    obtain ⟨q62, i50, k51⟩ := v
    dsimp only at hp hL60
    obtain ⟨e57, hd61, h5_1, h5_3, h5_4, g5_0, n5_g⟩ := hp
    have n5_0 : ¬ (σ6.gen = 0) := by omega
    rcases q62 with _ | ⟨x67, q63⟩
    · have hlt64 := drop_end hd61
      rw [r08_Size_L1] at e57; try dsimp only at e57
      have F1 := an h5_1 (an h5_3 (an h5_4 (an g5_0 n5_0)))
      refine goR F1 ?_
      refine condK_f (by simp [ltI]; omega) ?_
      obtain rfl := sj e57
      try dsimp only at e34
      exact hK36 i50 _ _ (Gh.refl _) ⟨e34, pv F1, pg⟩
    · obtain ⟨hx66, hlt64, hd68⟩ := drop_next hd61
      have ew65 := wrap_succ hlt64 (hb4).len
      rw [r08_Size_L1] at e57; try dsimp only at e57
      have F2 := an h5_1 (an h5_3 (an h5_4 (an g5_0 (an n5_0 (an hlt64 ew65)))))
      refine goR F2 ?_
      refine condK_t (by simp [ltI]; omega) ?_
      have f69 : partCV Tryd.prog 22 (encL a0.Funcs) (k51 * 2 + 1) = some (.cell (sC x67.Code)) := partCV_enc hx66 (f := 1) (by simp)
      have F3 := an F2 f69
      refine goR F3 ?_
      exact hL60 (q63, IntKind.i64.wrap (i50 + ((x67.Code.length : Nat) : Int)), (k51 + 1)) _ _ (Gh.refl _) ⟨e57, hd68, pv F3, pv F3, pv F3, pv F3, pg⟩ (by simp)
  · obtain ⟨e34, h4_3, n4_g⟩ := hp
    obtain rfl := sj e34
    try dsimp only at hs
    refine goR h4_3 ?_
    obtain rfl := sj hs
    exact hQ _ _ (rg h4_3 (Gh.refl _))
end Go.Dc
end
section
set_option linter.all false
namespace Go.Dc
open Go Go.Hw Go.Proofs
set_option maxRecDepth 100000
def law14_AwaitOnce_L1 (y7 : (List Spin) × Int) : List Spin → Nat → Option (Unit ⊕ Bool)
  | [], k108 => some (.inl ())
  | x137 :: q133, k108 => Option.bind (getI y7.1 (IntKind.i64.wrap (((k108 : Nat) : Int) - 1))) (fun x147 => cond (orB (ltI x137.Func x147.Func) (andB (eqI x137.Func x147.Func) (!(ltI x147.Last x137.First)))) (some (.inr false)) (law14_AwaitOnce_L1 y7 q133 (k108 + 1)))

def law14_AwaitOnce_L3 (x1615 : Func) : List Inst → Int → Nat → Option (Int ⊕ Bool)
  | [], i1638, k1639 => some (.inl i1638)
  | x1668 :: q1664, i1638, k1639 => Option.bind (x1615.Code[k1639]?) (fun x1675 => cond (!(andB (eqI x1668.Op x1675.Op) (andB (eqI x1668.A x1675.A) (andB (eqI x1668.B x1675.B) (andB (eqI x1668.C x1675.C) (andB (eqI x1668.Obj x1675.Obj) (andB (eqI x1668.N x1675.N) (andB (eqI x1668.Fn x1675.Fn) (andB (eqI x1668.Order x1675.Order) true))))))))) (cond (orB (!(eqI x1668.Op 8)) (!(eqI x1675.Op 14))) (some (.inr false)) (law14_AwaitOnce_L3 x1615 q1664 (IntKind.i64.wrap (i1638 + 1)) (k1639 + 1))) (law14_AwaitOnce_L3 x1615 q1664 i1638 (k1639 + 1)))

def law14_AwaitOnce_L2 (a0 : Program) (y9 : Program × Int) : Nat → Int → Int → Option (Int ⊕ Bool)
  | 0, _, _ => none
  | q1519 + 1, i1342, i1343 => cond (ltI i1343 ((a0.Funcs.length : Nat) : Int)) (Option.bind (α := Int ⊕ Bool) (Option.bind (getI a0.Funcs i1343) (fun x1612 => Option.bind (getI y9.1.Funcs i1343) (fun x1615 => cond (!(eqI ((x1612.Code.length : Nat) : Int) ((x1615.Code.length : Nat) : Int))) (some (.inr false)) (Option.bind (law14_AwaitOnce_L3 x1615 x1612.Code i1342 0) (fun o => match o with | .inl i1657 => some (.inl i1657) | .inr r1682 => some (.inr r1682)))))) (fun o => match o with | .inl i1601 => law14_AwaitOnce_L2 a0 y9 q1519 i1601 (IntKind.i64.wrap (i1343 + 1)) | .inr r1683 => some (.inr r1683))) (some (.inl i1342))

def law14_AwaitOnce (fuelN : Nat) (a0 : Program) : Option Bool :=
  Option.bind (r08_Small a0) (fun y1 => guardO (orB (!y1) ((r08_Valid fuelN a0).isSome)) (cond (orB (!y1) (!((r08_Valid fuelN a0).getD default))) (Option.bind (law14_lives fuelN) (fun y5 => some y5)) (Option.bind (await_Find fuelN a0) (fun y7 => Option.bind (await_Rewrite fuelN a0) (fun y9 => Option.bind (await_Find fuelN y9.1) (fun y11 => guardO (orB (!(!(orB (orB (orB (!(eqI y7.2 0)) (!(eqI y9.2 0))) (!(eqI y11.2 0))) (!(eqI ((y11.1.length : Nat) : Int) 0))))) ((r08_Valid fuelN y9.1).isSome)) (guardO (orB (!(!(orB (orB (orB (orB (!(eqI y7.2 0)) (!(eqI y9.2 0))) (!(eqI y11.2 0))) (!(eqI ((y11.1.length : Nat) : Int) 0))) (!((r08_Valid fuelN y9.1).getD default))))) ((r08_Size y9.1).isSome)) (guardO (orB (!(!(orB (orB (orB (orB (!(eqI y7.2 0)) (!(eqI y9.2 0))) (!(eqI y11.2 0))) (!(eqI ((y11.1.length : Nat) : Int) 0))) (!((r08_Valid fuelN y9.1).getD default))))) ((r08_Size a0).isSome)) (cond (orB (orB (orB (orB (orB (orB (!(eqI y7.2 0)) (!(eqI y9.2 0))) (!(eqI y11.2 0))) (!(eqI ((y11.1.length : Nat) : Int) 0))) (!((r08_Valid fuelN y9.1).getD default))) (!(eqI ((r08_Size y9.1).getD default) ((r08_Size a0).getD default)))) (!(eqI ((y9.1.Funcs.length : Nat) : Int) ((a0.Funcs.length : Nat) : Int)))) (some false) (Option.bind (α := Unit ⊕ Bool) (guardO (lenB y7.1.length) (Option.bind (law14_AwaitOnce_L1 y7 (y7.1.drop 1) 1) (fun o => match o with | .inl _ => some (.inl ()) | .inr r153 => some (.inr r153)))) (fun o => match o with | .inl _ => Option.bind (α := Int ⊕ Bool) (Option.bind (law14_AwaitOnce_L2 a0 y9 fuelN 0 0) (fun o => match o with | .inl i1512 => some (.inl i1512) | .inr r1684 => some (.inr r1684))) (fun o => match o with | .inl i917 => guardO (orB (!(eqI i917 ((y7.1.length : Nat) : Int))) ((law14_lives fuelN).isSome)) (some (andB (eqI i917 ((y7.1.length : Nat) : Int)) ((law14_lives fuelN).getD default))) | .inr r1686 => some r1686) | .inr r1687 => some r1687)))))))))))

set_option maxHeartbeats 2000000 in
theorem at_law14_AwaitOnce {fuelN : Nat} {a0 : Program} {r : Bool} (hs : law14_AwaitOnce fuelN a0 = some r) : At Tryd.prog 12 [.agg (eA a0)] (bV r) := by
  refine at_bound (by kernel_rfl) fun hb => ?_
  have hb1 : LenOk (.sl a0.Vars.length (encL a0.Vars)) := lkc hb
  have hb2 : LenOk (.sl a0.Mutexes.length (encL a0.Mutexes)) := lkc hb
  have hb3 : LenOk (.sl a0.Conds.length (encL a0.Conds)) := lkc hb
  have hb4 : LenOk (.sl a0.Funcs.length (encL a0.Funcs)) := lkc hb
  have hb5 : LenOk (.sl a0.Threads.length (encL a0.Threads)) := lkc hb
  refine at_code mixed Tryd.func12 (by kernel_rfl) rfl (by kernel_rfl) rfl fun Q hQ => ?_
  rw [law14_AwaitOnce] at hs
  refine goR f0 ?_
  revert hs; refine bK fun y1 hx2 hs => ?_
  refine cP f0 (at_r08_Small hx2) ?_
  refine goG f0 f0 ?_
  obtain ⟨g3, hs⟩ := guardO_some hs
  refine gsel_call (fun hg => at_r08_Valid (under_call g3 hg)) (fun hg => by (try simp at hg); (first | simp [hg, id]); try rfl) (fun hg => by (try simp at hg); simp [hg, id]) (by simp) ?_
  refine goG f0 f0 ?_
  revert hs; refine cS f0 ?_ ?_ <;> intro h4 hs
  · refine goG f0 f0 ?_
    revert hs; refine bK fun y5 hx6 hs => ?_
    refine cP f0 (at_law14_lives hx6) ?_
    refine goG f0 f0 ?_
    obtain rfl := sj hs
    exact hQ _ _ (rg f0 (Gh.refl _))
  · refine goG f0 f0 ?_
    revert hs; refine bK fun y7 hx8 hs => ?_
    refine cP f0 (at_await_Find hx8) ?_
    refine goG f0 f0 ?_
    revert hs; refine bK fun y9 hx10 hs => ?_
    refine cP f0 (at_await_Rewrite hx10) ?_
    refine goG f0 f0 ?_
    revert hs; refine bK fun y11 hx12 hs => ?_
    refine cP f0 (at_await_Find hx12) ?_
    refine goE f0 f0 ?_
    obtain ⟨g16, hs⟩ := guardO_some hs
    refine dsel_call (fun hg => at_r08_Valid (under_call g16 hg)) (fun hg => by (try simp at hg); (first | simp [hg, id]); try rfl) (fun hg => by (try simp at hg); simp [hg, id]) (by simp) ?_
    refine goE f0 f0 ?_
    obtain ⟨g17, hs⟩ := guardO_some hs
    refine dsel_call (fun hg => at_r08_Size (under_call g17 hg)) (fun hg => by (try simp at hg); (first | simp [hg, id]); try rfl) (fun hg => by (try simp at hg); simp [hg, id]) (by simp) ?_
    refine goE f0 f0 ?_
    obtain ⟨g18, hs⟩ := guardO_some hs
    refine dsel_call (fun hg => at_r08_Size (under_call g18 hg)) (fun hg => by (try simp at hg); (first | simp [hg, id]); try rfl) (fun hg => by (try simp at hg); simp [hg, id]) (by simp) ?_
    refine goE f0 f0 ?_
    revert hs; refine cS f0 ?_ ?_ <;> intro h19 hs
    · refine goE f0 f0 ?_
      obtain rfl := sj hs
      exact hQ _ _ (rg f0 (Gh.refl _))
    · refine goE2 f0 f0 ?_
      revert hs; refine bK fun o86 e85 hs => ?_
      refine awp_cutK (fun (v : Unit) (σ : St) => some (.inl v) = some o86 ∧ σ.env 1 = .cell (.ref (.o 1 0 0) 0) ∧ σ.env 3 = .cell (sC y7.1) ∧ σ.env 5 = .cell (.ref (.o 4 5 0) 0) ∧ σ.hp (.o 1 0 0) = some (.cells (eA a0)) ∧ σ.hp (.o 4 5 0) = some (.cells (eA y9.1)) ∧ 7 ≤ σ.gen) (by rfl) (fun Q hK87 hX88 => ?_) (fun v σ3 hp => ?_)
      · refine goE f0 f0 ?_
        obtain ⟨hb138, e85⟩ := guardO_some e85
        revert e85; refine bK fun o128 e127 e85 => ?_
        refine awp_loopW (fun (v : (List Spin) × Nat) (σ : St) => law14_AwaitOnce_L1 y7 v.1 v.2 = some o128 ∧ v.1 = y7.1.drop v.2 ∧ σ.env 1 = .cell (.ref (.o 1 0 0) 0) ∧ σ.env 3 = .cell (sC y7.1) ∧ σ.env 5 = .cell (.ref (.o 4 5 0) 0) ∧ σ.env 9 = iV .i64 ((v.2 : Nat) : Int) ∧ σ.hp (.o 1 0 0) = some (.cells (eA a0)) ∧ σ.hp (.o 4 5 0) = some (.cells (eA y9.1)) ∧ 7 ≤ σ.gen) (fun v => v.1.length) _ (Gh.refl _) (y7.1.drop 1, 1) ⟨e127, by simp, pv f0, pv f0, pv f0, pv f0, pv f0, pv f0, pg⟩ fun v σ6 hp L129 hL130 => ?_
        obtain ⟨q132, k108⟩ := v
        dsimp only at hp hL130
        obtain ⟨e127, hd131, h5_1, h5_3, h5_5, h5_9, g5_0, g5_1, n5_g⟩ := hp
        have n5_0 : ¬ (σ6.gen = 0) := by omega
        have n5_1 : ¬ (σ6.gen = 1) := by omega
        have n5_2 : ¬ (σ6.gen = 2) := by omega
        have n5_3 : ¬ (σ6.gen = 3) := by omega
        rcases q132 with _ | ⟨x137, q133⟩
        · have hlt134 := drop_end hd131
          rw [law14_AwaitOnce_L1] at e127; try dsimp only at e127
          have F1 := an h5_1 (an h5_3 (an h5_5 (an h5_9 (an g5_0 (an g5_1 (an n5_0 (an n5_1 (an n5_2 n5_3))))))))
          refine goR F1 ?_
          refine condK_f (by simp [ltI]; omega) ?_
          obtain rfl := sj e127
          try dsimp only at e85
          exact hK87 () _ _ (Gh.refl _) ⟨e85, pv F1, pv F1, pv F1, pv F1, pv F1, pg⟩
        · obtain ⟨hx136, hlt134, hd139⟩ := drop_next hd131
          have ew135 := wrap_succG hlt134 hb138
          rw [law14_AwaitOnce_L1] at e127; try dsimp only at e127
          have F2 := an h5_1 (an h5_3 (an h5_5 (an h5_9 (an g5_0 (an g5_1 (an n5_0 (an n5_1 (an n5_2 (an n5_3 (an hlt134 ew135))))))))))
          refine goR F2 ?_
          refine condK_t (by simp [ltI]; omega) ?_
          have f146 : partCV Tryd.prog 3 (encL y7.1) (k108 * 3) = some (iV .i64 x137.Func) := partCV_enc hx136 (f := 0) (by simp)
          revert e127; refine bK fun x147 hx148 e127 => ?_
          obtain ⟨hx148a, hx148b, hx148c, hx148d⟩ := getI_some hx148
          have f149 : partCV Tryd.prog 3 (encL y7.1) (((IntKind.i64.wrap (((k108 : Nat) : Int) - 1)).toNat) * 3) = some (iV .i64 x147.Func) := partCV_enc hx148d (f := 0) (by simp)
          have f150 : partCV Tryd.prog 3 (encL y7.1) (k108 * 3 + 1) = some (iV .i64 x137.First) := partCV_enc hx136 (f := 1) (by simp)
          have f151 : partCV Tryd.prog 3 (encL y7.1) (((IntKind.i64.wrap (((k108 : Nat) : Int) - 1)).toNat) * 3 + 2) = some (iV .i64 x147.Last) := partCV_enc hx148d (f := 2) (by simp)
          have F3 := an F2 (an f146 (an f149 (an f150 f151)))
          have F4 := an F3 (an hx148a hx148b)
          refine goE F3 F4 ?_
          revert e127; refine cS F3 ?_ ?_ <;> intro h152 e127
          · refine goE F3 F4 ?_
            obtain rfl := sj e127
            try dsimp only at e85
            obtain rfl := sj e85
            try dsimp only at hs
            refine hX88 _ _ (by simp) ?_
            refine goE F3 F4 ?_
            obtain rfl := sj hs
            exact hQ _ _ (rg F3 (Gh.refl _))
          · refine goE F3 F4 ?_
            exact hL130 (q133, (k108 + 1)) _ _ (Gh.refl _) ⟨e127, hd139, pv F3, pv F3, pv F3, pv F3, pv F3, pv F3, pg⟩ (by simp)
      · obtain ⟨e85, h4_1, h4_3, h4_5, g4_0, g4_1, n4_g⟩ := hp
        obtain rfl := sj e85
        try dsimp only at hs
        have n4_0 : ¬ (σ3.gen = 0) := by omega
        have n4_1 : ¬ (σ3.gen = 1) := by omega
        have n4_2 : ¬ (σ3.gen = 2) := by omega
        have n4_3 : ¬ (σ3.gen = 3) := by omega
        have F5 := an h4_1 (an h4_3 (an h4_5 (an g4_0 (an g4_1 (an n4_0 (an n4_1 (an n4_2 n4_3)))))))
        refine goE2 F5 F5 ?_
        revert hs; refine bK fun o919 e918 hs => ?_
        refine awp_cutK (fun (v : Int) (σ : St) => some (.inl v) = some o919 ∧ σ.env 3 = .cell (sC y7.1) ∧ σ.env 10 = iV .i64 v ∧ (σ3.gen + 2) ≤ σ.gen) (by rfl) (fun Q hK920 hX921 => ?_) (fun i917 σ33 hp => ?_)
        · refine goE F5 F5 ?_
          revert e918; refine bK fun o1514 e1513 e918 => ?_
          refine awp_loopW (fun (v : Nat × Int × Int) (σ : St) => law14_AwaitOnce_L2 a0 y9 v.1 v.2.1 v.2.2 = some o1514 ∧ σ.env 1 = .cell (.ref (.o 1 0 0) 0) ∧ σ.env 3 = .cell (sC y7.1) ∧ σ.env 5 = .cell (.ref (.o 4 5 0) 0) ∧ σ.env 10 = iV .i64 v.2.1 ∧ σ.env 11 = iV .i64 v.2.2 ∧ σ.hp (.o 1 0 0) = some (.cells (eA a0)) ∧ σ.hp (.o 4 5 0) = some (.cells (eA y9.1)) ∧ (σ3.gen + 2) ≤ σ.gen) (fun v => v.1) _ (Gh.refl _) (fuelN, 0, 0) ⟨e1513, pv F5, pv F5, pv F5, pv F5, pv F5, pv F5, pv F5, pg⟩ fun v σ54 hp L1515 hL1516 => ?_
          obtain ⟨q1518, i1342, i1343⟩ := v
          dsimp only at hp hL1516
          obtain ⟨e1513, h53_1, h53_3, h53_5, h53_10, h53_11, g53_0, g53_1, n53_g⟩ := hp
          have n53_0 : ¬ (σ54.gen = 0) := by omega
          have n53_1 : ¬ (σ54.gen = 1) := by omega
          have n53_2 : ¬ (σ54.gen = 2) := by omega
          have n53_3 : ¬ (σ54.gen = 3) := by omega
          rcases q1518 with _ | q1519
          · rw [law14_AwaitOnce_L2] at e1513; cases e1513
          · rw [law14_AwaitOnce_L2] at e1513; try dsimp only at e1513
            have F6 := an h53_1 (an h53_3 (an h53_5 (an h53_10 (an h53_11 (an g53_0 (an g53_1 (an n53_0 (an n53_1 (an n53_2 n53_3)))))))))
            refine goR F6 ?_
            revert e1513; refine cS F6 ?_ ?_ <;> intro h1523 e1513
            · refine goR2 F6 ?_
              revert e1513; refine bK fun o1603 e1602 e1513 => ?_
              refine awp_cutK (fun (v : Int) (σ : St) => some (.inl v) = some o1603 ∧ σ.env 1 = .cell (.ref (.o 1 0 0) 0) ∧ σ.env 3 = .cell (sC y7.1) ∧ σ.env 5 = .cell (.ref (.o 4 5 0) 0) ∧ σ.env 10 = iV .i64 v ∧ σ.env 11 = iV .i64 i1343 ∧ σ.hp (.o 1 0 0) = some (.cells (eA a0)) ∧ σ.hp (.o 4 5 0) = some (.cells (eA y9.1)) ∧ (σ54.gen + 1) ≤ σ.gen) (by rfl) (fun Q hK1604 hX1605 => ?_) (fun i1601 σ57 hp => ?_)
              · revert e1602; refine bK fun x1612 hx1613 e1602 => ?_
                obtain ⟨hx1613a, hx1613b, hx1613c, hx1613d⟩ := getI_some hx1613
                have f1614 : partCV Tryd.prog 22 (encL a0.Funcs) (((i1343).toNat) * 2 + 1) = some (.cell (sC x1612.Code)) := partCV_enc hx1613d (f := 1) (by simp)
                revert e1602; refine bK fun x1615 hx1616 e1602 => ?_
                obtain ⟨hx1616a, hx1616b, hx1616c, hx1616d⟩ := getI_some hx1616
                have f1617 : partCV Tryd.prog 22 (encL y9.1.Funcs) (((i1343).toNat) * 2 + 1) = some (.cell (sC x1615.Code)) := partCV_enc hx1616d (f := 1) (by simp)
                have F7 := an F6 (an f1614 f1617)
                refine goD F7 ?_
                revert e1602; refine cS F7 ?_ ?_ <;> intro h1618 e1602
                · refine goD F7 ?_
                  obtain rfl := sj e1602
                  try dsimp only at e1513
                  refine hX1605 _ _ (by simp) ?_
                  refine goD F7 ?_
                  obtain rfl := sj e1513
                  try dsimp only at e918
                  obtain rfl := sj e918
                  try dsimp only at hs
                  refine hX921 _ _ (by simp) ?_
                  refine goD F7 ?_
                  obtain rfl := sj hs
                  exact hQ _ _ (rg F7 (Gh.refl _))
                · refine goD F7 ?_
                  revert e1602; refine bK fun o1659 e1658 e1602 => ?_
                  refine awp_loopW (fun (v : (List Inst) × Int × Nat) (σ : St) => law14_AwaitOnce_L3 x1615 v.1 v.2.1 v.2.2 = some o1659 ∧ v.1 = x1612.Code.drop v.2.2 ∧ σ.env 1 = .cell (.ref (.o 1 0 0) 0) ∧ σ.env 3 = .cell (sC y7.1) ∧ σ.env 5 = .cell (.ref (.o 4 5 0) 0) ∧ σ.env 10 = iV .i64 v.2.1 ∧ σ.env 11 = iV .i64 i1343 ∧ σ.env 12 = .cell (sC x1612.Code) ∧ σ.env 13 = .cell (sC x1615.Code) ∧ σ.env 14 = iV .i64 ((v.2.2 : Nat) : Int) ∧ σ.hp (.o 1 0 0) = some (.cells (eA a0)) ∧ σ.hp (.o 4 5 0) = some (.cells (eA y9.1)) ∧ (σ54.gen + 4) ≤ σ.gen) (fun v => v.1.length) _ (Gh.refl _) (x1612.Code, i1342, 0) ⟨e1658, by simp, pv F7, pv F7, pv F7, pv F7, pv F7, pv F7, pv F7, pv F7, pv F7, pv F7, pg⟩ fun v σ60 hp L1660 hL1661 => ?_
                  obtain ⟨q1663, i1638, k1639⟩ := v
                  dsimp only at hp hL1661
                  obtain ⟨e1658, hd1662, h59_1, h59_3, h59_5, h59_10, h59_11, h59_12, h59_13, h59_14, g59_0, g59_1, n59_g⟩ := hp
                  have n59_0 : ¬ (σ60.gen = 0) := by omega
                  have n59_1 : ¬ (σ60.gen = 1) := by omega
                  have n59_2 : ¬ (σ60.gen = 2) := by omega
                  have n59_3 : ¬ (σ60.gen = 3) := by omega
                  rcases q1663 with _ | ⟨x1668, q1664⟩
                  · have hlt1665 := drop_end hd1662
                    rw [law14_AwaitOnce_L3] at e1658; try dsimp only at e1658
                    have F8 := an h59_1 (an h59_3 (an h59_5 (an h59_10 (an h59_11 (an h59_12 (an h59_13 (an h59_14 (an g59_0 (an g59_1 (an n59_0 (an n59_1 (an n59_2 (an n59_3 (an f1614 f1617))))))))))))))
                    refine goR F8 ?_
                    refine condK_f (by simp [ltI]; omega) ?_
                    obtain rfl := sj e1658
                    try dsimp only at e1602
                    exact hK1604 i1638 _ _ (Gh.refl _) ⟨e1602, pv F8, pv F8, pv F8, pv F8, pv F8, pv F8, pv F8, pg⟩
                  · obtain ⟨hx1667, hlt1665, hd1669⟩ := drop_next hd1662
                    have ew1666 := wrap_succ hlt1665 ((LenOk.elem hb4 hx1613d (c := .sl x1612.Code.length (encL x1612.Code)) (by simp))).len
                    rw [law14_AwaitOnce_L3] at e1658; try dsimp only at e1658
                    have F9 := an h59_1 (an h59_3 (an h59_5 (an h59_10 (an h59_11 (an h59_12 (an h59_13 (an h59_14 (an g59_0 (an g59_1 (an n59_0 (an n59_1 (an n59_2 (an n59_3 (an f1614 (an f1617 (an hlt1665 ew1666))))))))))))))))
                    refine goR F9 ?_
                    refine condK_t (by simp [ltI]; omega) ?_
                    have f1674 : partCV Tryd.prog 71 (encL x1612.Code) (k1639 * 8) = some (.agg (eA x1668)) := partCV_enc hx1667 (f := 0) (by simp)
                    revert e1658; refine bK fun x1675 hx1676 e1658 => ?_
                    have hx1676b := getN_some hx1676
                    have f1677 : partCV Tryd.prog 71 (encL x1615.Code) (k1639 * 8) = some (.agg (eA x1675)) := partCV_enc hx1676 (f := 0) (by simp)
                    have F10 := an F9 (an f1674 f1677)
                    refine goD F10 ?_
                    revert e1658; refine cS F10 ?_ ?_ <;> intro h1678 e1658
                    · have f1679 : partCV Tryd.prog 67 (encL x1612.Code) (k1639 * 8) = some (iV .i64 x1668.Op) := partCV_enc hx1667 (f := 0) (by simp)
                      have f1680 : partCV Tryd.prog 67 (encL x1615.Code) (k1639 * 8) = some (iV .i64 x1675.Op) := partCV_enc hx1676 (f := 0) (by simp)
                      have F11 := an F10 (an f1679 f1680)
                      have F12 := an F11 (an hx1613a (an hx1613b (an hx1616a (an hx1616b hx1676b))))
                      refine goE F11 F12 ?_
                      revert e1658; refine cS F11 ?_ ?_ <;> intro h1681 e1658
                      · refine goE F11 F12 ?_
                        obtain rfl := sj e1658
                        try dsimp only at e1602
                        obtain rfl := sj e1602
                        try dsimp only at e1513
                        refine hX1605 _ _ (by simp) ?_
                        refine goE F11 F12 ?_
                        obtain rfl := sj e1513
                        try dsimp only at e918
                        obtain rfl := sj e918
                        try dsimp only at hs
                        refine hX921 _ _ (by simp) ?_
                        refine goE F11 F12 ?_
                        obtain rfl := sj hs
                        exact hQ _ _ (rg F11 (Gh.refl _))
                      · refine goE F11 F12 ?_
                        exact hL1661 (q1664, IntKind.i64.wrap (i1638 + 1), (k1639 + 1)) _ _ (Gh.refl _) ⟨e1658, hd1669, pv F11, pv F11, pv F11, pv F11, pv F11, pv F11, pv F11, pv F11, pv F11, pv F11, pg⟩ (by simp)
                    · refine goD F10 ?_
                      exact hL1661 (q1664, i1638, (k1639 + 1)) _ _ (Gh.refl _) ⟨e1658, hd1669, pv F10, pv F10, pv F10, pv F10, pv F10, pv F10, pv F10, pv F10, pv F10, pv F10, pg⟩ (by simp)
              · obtain ⟨e1602, h58_1, h58_3, h58_5, h58_10, h58_11, g58_0, g58_1, n58_g⟩ := hp
                obtain rfl := sj e1602
                try dsimp only at e1513
                have n58_0 : ¬ (σ57.gen = 0) := by omega
                have n58_1 : ¬ (σ57.gen = 1) := by omega
                have n58_2 : ¬ (σ57.gen = 2) := by omega
                have n58_3 : ¬ (σ57.gen = 3) := by omega
                have F13 := an h58_1 (an h58_3 (an h58_5 (an h58_10 (an h58_11 (an g58_0 (an g58_1 (an n58_0 (an n58_1 (an n58_2 n58_3)))))))))
                refine goR F13 ?_
                exact hL1516 (q1519, i1601, IntKind.i64.wrap (i1343 + 1)) _ _ (Gh.refl _) ⟨e1513, pv F13, pv F13, pv F13, pv F13, pv F13, pv F13, pv F13, pg⟩ (by omega)
            · refine goR F6 ?_
              obtain rfl := sj e1513
              try dsimp only at e918
              exact hK920 i1342 _ _ (Gh.refl _) ⟨e918, pv F6, pv F6, pg⟩
        · obtain ⟨e918, h34_3, h34_10, n34_g⟩ := hp
          obtain rfl := sj e918
          try dsimp only at hs
          have F14 := an h34_3 h34_10
          refine goE F14 F14 ?_
          obtain ⟨g1685, hs⟩ := guardO_some hs
          refine gsel_call (fun hg => at_law14_lives (under_call g1685 hg)) (fun hg => by (try simp at hg); (first | simp [hg, F14]); try rfl) (fun hg => by (try simp at hg); simp [hg, F14]) (by simp) ?_
          refine goE F14 F14 ?_
          obtain rfl := sj hs
          exact hQ _ _ (rg F14 (Gh.refl _))
end Go.Dc
end
section
set_option linter.all false
namespace Go.Dc.Pl
open Go Go.Hw Go.Dc
set_option maxRecDepth 100000
theorem ref_valid {p : Program} (hp : small p = true) : r08_Valid 200 p = some (eqI (chk p).1 0) := by
  rw [r08_Valid, ref_check hp (by omega)]; rfl
theorem size_rw : ∀ (l : List Func) (i : Int) (k : Nat), r08_Size_L1 (l.map rwF) i k = r08_Size_L1 l i k
  | [], i, k => rfl
  | x :: q, i, k => by rw [List.map_cons, r08_Size_L1, r08_Size_L1, size_rw q]; simp [rwF, rwL_len]
theorem size_some : ∀ (l : List Func) (i : Int) (k : Nat), ∃ n, r08_Size_L1 l i k = some n
  | [], i, k => ⟨i, rfl⟩
  | x :: q, i, k => by rw [r08_Size_L1]; exact size_some q _ _
theorem pw_adj {α : Type} {R : α → α → Prop} {l : List α} (h : l.Pairwise R) {k : Nat} {y x : α} (hy : l[k]? = some y) (hx : l[k + 1]? = some x) : R y x := by
  rw [List.pairwise_iff_getElem] at h
  have h1 := getN_some hy
  have h2 := getN_some hx
  have := h k (k + 1) h1 h2 (by omega)
  rw [List.getElem?_eq_getElem h1] at hy
  rw [List.getElem?_eq_getElem h2] at hx
  rwa [Option.some.inj hy, Option.some.inj hx] at this
theorem spin_lt {p : Program} {x : AwaitSpin} (hp : small p = true) (h : x ∈ spins p) : 0 ≤ x.fn ∧ x.fn < 20 ∧ 0 ≤ x.first ∧ x.first < 100 := by
  obtain ⟨k, i, h1, h2, h3, h4, h5⟩ := spun p x h
  have := fOf_le hp k
  have := (small_t hp).2.2.2.1
  omega
theorem once_L1 {p : Program} (hp : small p = true) {e : Int} (hl : (spins p).length ≤ 2000) : law14_AwaitOnce_L1 (found p, e) ((found p).drop 1) 1 = some (.inl ()) := by
  have h := srch (L := law14_AwaitOnce_L1 (found p, e)) (fun _ _ => none) (fun _ => rfl) ((found p).drop 1) 1 fun j x hx q => by
    rw [List.getElem?_drop, show 1 + j = j + 1 by omega, found, List.getElem?_map] at hx
    cases h1 : (spins p)[j + 1]? with
    | none => rw [h1] at hx; cases hx
    | some x0 =>
      rw [h1] at hx
      obtain rfl := Option.some.inj hx
      have hj := getN_some h1
      obtain ⟨y0, hy⟩ : ∃ y, (spins p)[j]? = some y := ⟨_, List.getElem?_eq_getElem (by omega)⟩
      have ha := pw_adj (spins_apart p) hy h1
      have hb := spin_lt hp (List.mem_of_getElem? hy)
      rw [law14_AwaitOnce_L1, wrap_i64 (n := ((1 + j : Nat) : Int) - 1) (by omega) (by omega), show ((1 + j : Nat) : Int) - 1 = (j : Int) by omega, getI_nat]
      simp only [found, List.getElem?_map, hy, Option.map_some, Option.bind_some, toSpin]
      rw [wrap_i64 (n := y0.first + 2) (by omega) (by omega)]
      have : orB (ltI x0.fn y0.fn) (andB (eqI x0.fn y0.fn) (!ltI (y0.first + 2) x0.first)) = false := by
        simp only [orB_d, andB_d, ltI_d, eqI_d, Bool.or_eq_false_iff, decide_eq_false_iff_not, Bool.and_eq_false_imp, decide_eq_true_eq, Bool.not_eq_false']
        rcases ha with h3 | ⟨h3, h4⟩ <;> constructor <;> intros <;> omega
      rw [this]; rfl
  rw [h, first_noneF]; rfl
/-- How many spins a function has from a place on. -/
def cntL (f : Func) (l : List Inst) (k : Nat) : Nat := (l.zipIdx k).countP fun x => (awF f x.2).isSome
theorem once_L3 {f : Func} : ∀ (q : List Inst) (k : Nat) (c : Int), q = f.Code.drop k → 0 ≤ c → c + q.length ≤ 1000000 → law14_AwaitOnce_L3 (rwF f) q c k = some (.inl (c + (cntL f q k : Int)))
  | [], k, c, _, _, _ => by simp [law14_AwaitOnce_L3, cntL]
  | x :: q, k, c, hd, h0, hc => by
    obtain ⟨hx, hlt, hr⟩ := drop_next hd
    simp only [List.length_cons] at hc
    rw [law14_AwaitOnce_L3, show (rwF f).Code = rwL f from rfl, rwL_get, hx, Option.map_some, Option.bind_some, cntL, List.zipIdx_cons, List.countP_cons]
    cases ha : awF f k with
    | none =>
      rw [Option.getD_none]
      have : (!andB (eqI x.Op x.Op) (andB (eqI x.A x.A) (andB (eqI x.B x.B) (andB (eqI x.C x.C) (andB (eqI x.Obj x.Obj) (andB (eqI x.N x.N) (andB (eqI x.Fn x.Fn) (andB (eqI x.Order x.Order) true)))))))) = false := by simp [andB_d, eqI_d]
      rw [this, cond_false, once_L3 q (k + 1) c hr h0 (by omega)]
      simp [cntL]
    | some y =>
      obtain ⟨a, b, d, hp, rfl⟩ := awF_some ha
      rw [hp.ha] at hx
      obtain rfl := Option.some.inj hx
      rw [Option.getD_some, show (awI a b).Op = 14 from rfl, hp.op1]
      simp only [show eqI 8 14 = false from rfl, show eqI 8 8 = true from rfl, show eqI 14 14 = true from rfl, andB_d (false), Bool.false_and, Bool.not_false, cond_true, Bool.not_true, show orB false false = false from rfl, cond_false]
      rw [wrap_i64 (n := c + 1) (by omega) (by omega), once_L3 q (k + 1) (c + 1) hr (by omega) (by omega)]
      simp [cntL]; omega
theorem len_spins (k : Nat) (f : Func) : ∀ l : List Nat, (l.flatMap (spinO k f)).length = l.countP fun i => (awF f i).isSome
  | [] => rfl
  | i :: l => by
    rw [List.flatMap_cons, List.length_append, len_spins k f l, List.countP_cons, spinO]
    cases awF f i <;> simp <;> omega
theorem cnt_spins (k : Nat) (f : Func) : cntL f f.Code 0 = (spinsOf k f).length := by
  rw [spinsOf, len_spins, cntL]
  have : (List.range f.Code.length) = f.Code.zipIdx.map Prod.snd := by
    rw [List.zipIdx_map_snd, List.range_eq_range']
  rw [this, List.countP_map]; rfl
theorem sumI {L : Nat → Int → Int → Option (Int ⊕ Bool)} (n : Nat) (g : Nat → Nat) (hg : ∀ k, g k ≤ 100) (h0 : ∀ q c, L (q + 1) c (n : Int) = some (.inl c))
    (h1 : ∀ (q k : Nat) (c : Int), k < n → 0 ≤ c → c ≤ 100 * k → L (q + 1) c (k : Int) = L q (c + g k) ((k + 1 : Nat) : Int)) :
    ∀ (q k : Nat) (c : Int), k ≤ n → n < k + q → 0 ≤ c → c ≤ 100 * k → L q c (k : Int) = some (.inl (c + (((List.range' k (n - k)).map g).sum : Nat)))
  | 0, k, c, hk, hq, _, _ => absurd hq (by omega)
  | q + 1, k, c, hk, hq, hc, hc2 => by
    rcases Nat.lt_or_ge k n with h | h
    · have := hg k
      rw [h1 q k c h hc hc2, sumI n g hg h0 h1 q (k + 1) _ h (by omega) (by omega) (by omega), show n - k = (n - (k + 1)) + 1 by omega, List.range'_succ, List.map_cons, List.sum_cons]
      simp; omega
    · obtain rfl : k = n := by omega
      rw [h0, Nat.sub_self]; simp
theorem once_L2 {p : Program} (hp : small p = true) : law14_AwaitOnce_L2 p (rwP p, 0) 200 0 0 = some (.inl ((spins p).length : Int)) := by
  obtain ⟨s1, s2, s3, s4, s5, s6⟩ := small_t hp
  have h := sumI (L := law14_AwaitOnce_L2 p (rwP p, 0)) p.Funcs.length (fun k => (spinsOf k (fOf p k)).length) (fun k => Nat.le_trans spinsOf_le (fOf_le hp k)) (fun q c => by
    rw [law14_AwaitOnce_L2]; simp [ltI_d]) (fun q k c hk h0 h1 => by
    have hl := fOf_le hp k
    rw [law14_AwaitOnce_L2, ltI_d, show decide ((k : Int) < ((p.Funcs.length : Nat) : Int)) = true by simp; omega, cond_true, getI_nat, fOf_eq hk, Option.bind_some, getI_nat, show (rwP p).Funcs = p.Funcs.map rwF from rfl, List.getElem?_map, fOf_eq hk, Option.map_some, Option.bind_some,
      show (rwF (fOf p k)).Code.length = (fOf p k).Code.length from rwL_len _, show (!(eqI (((fOf p k).Code.length : Nat) : Int) (((fOf p k).Code.length : Nat) : Int))) = false by simp [eqI], cond_false, once_L3 (f := fOf p k) (fOf p k).Code 0 c rfl h0 (by omega), cnt_spins k]
    rw [wrapS (by omega)]
    rfl) 200 0 0 (by omega) (by omega) (by omega) (by omega)
  rw [Int.natCast_zero] at h
  rw [h, Nat.sub_zero, ← List.range_eq_range', spins, List.length_flatMap]
  simp; rfl
theorem law_once (p : Program) : law14_AwaitOnce 200 p = some true := by
  rw [law14_AwaitOnce, small_eq, Option.bind_some]
  cases hp : small p
  · rw [lives]; rfl
  · rw [ref_valid hp]
    cases hc : eqI (chk p).1 0
    · rw [lives]; rfl
    · obtain ⟨h1, h2⟩ := spins_eq hp (fuel := 200) (by omega)
      have hs := small_rw hp
      have hv := chk_rw hc
      obtain ⟨n, hn⟩ := size_some p.Funcs 0 0
      have hz : r08_Size p = some n := by rw [r08_Size, hn]; rfl
      have hz2 : r08_Size (rwP p) = some n := by rw [r08_Size, show (rwP p).Funcs = p.Funcs.map rwF from rfl, size_rw, hn]; rfl
      have hd : ∀ m : Int, eqI m m = true := fun m => by simp [eqI]
      rw [own_find hp (by omega), hc, own_rewrite hp (by omega) hc]
      simp only [Bool.not_true, cond_false, Option.bind_some]
      rw [own_find hs (by omega), hv, found_rw, ref_valid hs, hv, hz, hz2]
      simp only [Bool.not_true, cond_false, Option.bind_some, Option.isSome_some, Option.getD_some, orB_t, guardO_t, hd, show (rwP p).Funcs.length = p.Funcs.length by simp [rwP], List.length_nil, show eqI (0 : Int) 0 = true from rfl, Int.natCast_zero]
      rw [show lenB (found p).length = true by rw [lenB_d, found, List.length_map]; simp; omega, once_L1 hp h2, once_L2 hp, lives]
      have hlen : ((spins p).length : Int) = (found p).length := by rw [found, List.length_map]
      simp only [guardO_t, Option.bind_some, Bool.not_true, show orB false false = false from rfl, cond_false, Option.isSome_some, orB_t, Option.getD_some, hlen, hd]
      rfl
end Go.Dc.Pl
end
section
set_option linter.all false
namespace Go.Dc
open Go Go.Hw Go.Proofs
set_option maxRecDepth 100000
theorem dec9 {H : Type} {n : Nat} {d : DataW H} {c : List CV} (h : cvD Tryd.prog n 9 d = some c) : ∃ x : ByteArray, True ∧ c = Enc.enc x := by
  obtain ⟨m, rfl⟩ := cvD_string Tryd.underlying9 h
  exact ⟨m, trivial, rfl⟩
theorem dec3 {H : Type} {n : Nat} {d : DataW H} {c : List CV} (h : cvD Tryd.prog n 3 d = some c) : ∃ x : Int, (-9223372036854775808 ≤ x ∧ x ≤ 9223372036854775807) ∧ c = Enc.enc x := by
  obtain ⟨m, hm, rfl⟩ := cvD_int Tryd.underlying3 h
  exact ⟨m, by simpa [IntKind.min, IntKind.max, IntKind.signed, IntKind.bits] using hm, rfl⟩
def OkVar (x : Var) : Prop := (fun _ : ByteArray => True) x.Name ∧ (fun x : Int => -9223372036854775808 ≤ x ∧ x ≤ 9223372036854775807) x.Init
theorem dec105 {H : Type} {n : Nat} {d : DataW H} {c : List CV} (h : cvD Tryd.prog n 105 d = some c) : ∃ x : Var, OkVar x ∧ c = Enc.enc x := by
  obtain ⟨m, l, rfl, rfl, hl, h⟩ := cvD_struct Tryd.underlying105 h
  have hl : l.length = 2 := hl
  match l, hl with
  | [d0, d1], _ =>
    simp only [List.zipWith] at h
    obtain ⟨a0, b0, h0, k1, rfl⟩ := concatM_cons h
    obtain ⟨a1, b1, h1, k2, rfl⟩ := concatM_cons k1
    obtain rfl := concatM_nil k2
    obtain ⟨x0, q0, rfl⟩ := dec9 h0
    obtain ⟨x1, q1, rfl⟩ := dec3 h1
    exact ⟨⟨x0, x1⟩, ⟨q0, q1⟩, rfl⟩
theorem dec48 {H : Type} {n : Nat} {d : DataW H} {c : List CV} (h : cvD Tryd.prog n 48 d = some c) : ∃ x : List Var, (∀ y ∈ x, (OkVar) y) ∧ c = Enc.enc x := by
  obtain ⟨L, hQ, rfl⟩ := cvD_sliceQ (g := Enc.enc) (Q := OkVar) Tryd.underlying48 (fun n d c h => dec105 h) h
  exact ⟨L, hQ, rfl⟩
theorem dec49 {H : Type} {n : Nat} {d : DataW H} {c : List CV} (h : cvD Tryd.prog n 49 d = some c) : ∃ x : List ByteArray, (∀ y ∈ x, (fun _ : ByteArray => True) y) ∧ c = Enc.enc x := by
  obtain ⟨L, hQ, rfl⟩ := cvD_sliceQ (g := Enc.enc) (Q := fun _ : ByteArray => True) Tryd.underlying49 (fun n d c h => dec9 h) h
  exact ⟨L, hQ, rfl⟩
theorem dec67 {H : Type} {n : Nat} {d : DataW H} {c : List CV} (h : cvD Tryd.prog n 67 d = some c) : ∃ x : Int, (-9223372036854775808 ≤ x ∧ x ≤ 9223372036854775807) ∧ c = Enc.enc x := by
  obtain ⟨m, hm, rfl⟩ := cvD_int Tryd.underlying67 h
  exact ⟨m, by simpa [IntKind.min, IntKind.max, IntKind.signed, IntKind.bits] using hm, rfl⟩
theorem dec68 {H : Type} {n : Nat} {d : DataW H} {c : List CV} (h : cvD Tryd.prog n 68 d = some c) : ∃ x : Int, (-9223372036854775808 ≤ x ∧ x ≤ 9223372036854775807) ∧ c = Enc.enc x := by
  obtain ⟨m, hm, rfl⟩ := cvD_int Tryd.underlying68 h
  exact ⟨m, by simpa [IntKind.min, IntKind.max, IntKind.signed, IntKind.bits] using hm, rfl⟩
theorem dec69 {H : Type} {n : Nat} {d : DataW H} {c : List CV} (h : cvD Tryd.prog n 69 d = some c) : ∃ x : Int, (-9223372036854775808 ≤ x ∧ x ≤ 9223372036854775807) ∧ c = Enc.enc x := by
  obtain ⟨m, hm, rfl⟩ := cvD_int Tryd.underlying69 h
  exact ⟨m, by simpa [IntKind.min, IntKind.max, IntKind.signed, IntKind.bits] using hm, rfl⟩
def OkInst (x : Inst) : Prop := (fun x : Int => -9223372036854775808 ≤ x ∧ x ≤ 9223372036854775807) x.Op ∧ (fun x : Int => -9223372036854775808 ≤ x ∧ x ≤ 9223372036854775807) x.A ∧ (fun x : Int => -9223372036854775808 ≤ x ∧ x ≤ 9223372036854775807) x.B ∧ (fun x : Int => -9223372036854775808 ≤ x ∧ x ≤ 9223372036854775807) x.C ∧ (fun x : Int => -9223372036854775808 ≤ x ∧ x ≤ 9223372036854775807) x.Obj ∧ (fun x : Int => -9223372036854775808 ≤ x ∧ x ≤ 9223372036854775807) x.N ∧ (fun x : Int => -9223372036854775808 ≤ x ∧ x ≤ 9223372036854775807) x.Fn ∧ (fun x : Int => -9223372036854775808 ≤ x ∧ x ≤ 9223372036854775807) x.Order
theorem dec71 {H : Type} {n : Nat} {d : DataW H} {c : List CV} (h : cvD Tryd.prog n 71 d = some c) : ∃ x : Inst, OkInst x ∧ c = Enc.enc x := by
  obtain ⟨m, l, rfl, rfl, hl, h⟩ := cvD_struct Tryd.underlying71 h
  have hl : l.length = 8 := hl
  match l, hl with
  | [d0, d1, d2, d3, d4, d5, d6, d7], _ =>
    simp only [List.zipWith] at h
    obtain ⟨a0, b0, h0, k1, rfl⟩ := concatM_cons h
    obtain ⟨a1, b1, h1, k2, rfl⟩ := concatM_cons k1
    obtain ⟨a2, b2, h2, k3, rfl⟩ := concatM_cons k2
    obtain ⟨a3, b3, h3, k4, rfl⟩ := concatM_cons k3
    obtain ⟨a4, b4, h4, k5, rfl⟩ := concatM_cons k4
    obtain ⟨a5, b5, h5, k6, rfl⟩ := concatM_cons k5
    obtain ⟨a6, b6, h6, k7, rfl⟩ := concatM_cons k6
    obtain ⟨a7, b7, h7, k8, rfl⟩ := concatM_cons k7
    obtain rfl := concatM_nil k8
    obtain ⟨x0, q0, rfl⟩ := dec67 h0
    obtain ⟨x1, q1, rfl⟩ := dec3 h1
    obtain ⟨x2, q2, rfl⟩ := dec3 h2
    obtain ⟨x3, q3, rfl⟩ := dec3 h3
    obtain ⟨x4, q4, rfl⟩ := dec3 h4
    obtain ⟨x5, q5, rfl⟩ := dec3 h5
    obtain ⟨x6, q6, rfl⟩ := dec68 h6
    obtain ⟨x7, q7, rfl⟩ := dec69 h7
    exact ⟨⟨x0, x1, x2, x3, x4, x5, x6, x7⟩, ⟨q0, q1, q2, q3, q4, q5, q6, q7⟩, rfl⟩
theorem dec22 {H : Type} {n : Nat} {d : DataW H} {c : List CV} (h : cvD Tryd.prog n 22 d = some c) : ∃ x : List Inst, (∀ y ∈ x, (OkInst) y) ∧ c = Enc.enc x := by
  obtain ⟨L, hQ, rfl⟩ := cvD_sliceQ (g := Enc.enc) (Q := OkInst) Tryd.underlying22 (fun n d c h => dec71 h) h
  exact ⟨L, hQ, rfl⟩
def OkFunc (x : Func) : Prop := (fun _ : ByteArray => True) x.Name ∧ (fun l : List Inst => ∀ x ∈ l, (OkInst) x) x.Code
theorem dec24 {H : Type} {n : Nat} {d : DataW H} {c : List CV} (h : cvD Tryd.prog n 24 d = some c) : ∃ x : Func, OkFunc x ∧ c = Enc.enc x := by
  obtain ⟨m, l, rfl, rfl, hl, h⟩ := cvD_struct Tryd.underlying24 h
  have hl : l.length = 2 := hl
  match l, hl with
  | [d0, d1], _ =>
    simp only [List.zipWith] at h
    obtain ⟨a0, b0, h0, k1, rfl⟩ := concatM_cons h
    obtain ⟨a1, b1, h1, k2, rfl⟩ := concatM_cons k1
    obtain rfl := concatM_nil k2
    obtain ⟨x0, q0, rfl⟩ := dec9 h0
    obtain ⟨x1, q1, rfl⟩ := dec22 h1
    exact ⟨⟨x0, x1⟩, ⟨q0, q1⟩, rfl⟩
theorem dec50 {H : Type} {n : Nat} {d : DataW H} {c : List CV} (h : cvD Tryd.prog n 50 d = some c) : ∃ x : List Func, (∀ y ∈ x, (OkFunc) y) ∧ c = Enc.enc x := by
  obtain ⟨L, hQ, rfl⟩ := cvD_sliceQ (g := Enc.enc) (Q := OkFunc) Tryd.underlying50 (fun n d c h => dec24 h) h
  exact ⟨L, hQ, rfl⟩
def OkStart (x : Start) : Prop := (fun x : Int => -9223372036854775808 ≤ x ∧ x ≤ 9223372036854775807) x.Func ∧ (fun x : Int => -9223372036854775808 ≤ x ∧ x ≤ 9223372036854775807) x.Arg
theorem dec108 {H : Type} {n : Nat} {d : DataW H} {c : List CV} (h : cvD Tryd.prog n 108 d = some c) : ∃ x : Start, OkStart x ∧ c = Enc.enc x := by
  obtain ⟨m, l, rfl, rfl, hl, h⟩ := cvD_struct Tryd.underlying108 h
  have hl : l.length = 2 := hl
  match l, hl with
  | [d0, d1], _ =>
    simp only [List.zipWith] at h
    obtain ⟨a0, b0, h0, k1, rfl⟩ := concatM_cons h
    obtain ⟨a1, b1, h1, k2, rfl⟩ := concatM_cons k1
    obtain rfl := concatM_nil k2
    obtain ⟨x0, q0, rfl⟩ := dec3 h0
    obtain ⟨x1, q1, rfl⟩ := dec3 h1
    exact ⟨⟨x0, x1⟩, ⟨q0, q1⟩, rfl⟩
theorem dec51 {H : Type} {n : Nat} {d : DataW H} {c : List CV} (h : cvD Tryd.prog n 51 d = some c) : ∃ x : List Start, (∀ y ∈ x, (OkStart) y) ∧ c = Enc.enc x := by
  obtain ⟨L, hQ, rfl⟩ := cvD_sliceQ (g := Enc.enc) (Q := OkStart) Tryd.underlying51 (fun n d c h => dec108 h) h
  exact ⟨L, hQ, rfl⟩
def OkProgram (x : Program) : Prop := (fun l : List Var => ∀ x ∈ l, (OkVar) x) x.Vars ∧ (fun l : List ByteArray => ∀ x ∈ l, (fun _ : ByteArray => True) x) x.Mutexes ∧ (fun l : List ByteArray => ∀ x ∈ l, (fun _ : ByteArray => True) x) x.Conds ∧ (fun l : List Func => ∀ x ∈ l, (OkFunc) x) x.Funcs ∧ (fun l : List Start => ∀ x ∈ l, (OkStart) x) x.Threads
theorem dec53 {H : Type} {n : Nat} {d : DataW H} {c : List CV} (h : cvD Tryd.prog n 53 d = some c) : ∃ x : Program, OkProgram x ∧ c = Enc.enc x := by
  obtain ⟨m, l, rfl, rfl, hl, h⟩ := cvD_struct Tryd.underlying53 h
  have hl : l.length = 5 := hl
  match l, hl with
  | [d0, d1, d2, d3, d4], _ =>
    simp only [List.zipWith] at h
    obtain ⟨a0, b0, h0, k1, rfl⟩ := concatM_cons h
    obtain ⟨a1, b1, h1, k2, rfl⟩ := concatM_cons k1
    obtain ⟨a2, b2, h2, k3, rfl⟩ := concatM_cons k2
    obtain ⟨a3, b3, h3, k4, rfl⟩ := concatM_cons k3
    obtain ⟨a4, b4, h4, k5, rfl⟩ := concatM_cons k4
    obtain rfl := concatM_nil k5
    obtain ⟨x0, q0, rfl⟩ := dec48 h0
    obtain ⟨x1, q1, rfl⟩ := dec49 h1
    obtain ⟨x2, q2, rfl⟩ := dec49 h2
    obtain ⟨x3, q3, rfl⟩ := dec50 h3
    obtain ⟨x4, q4, rfl⟩ := dec51 h4
    exact ⟨⟨x0, x1, x2, x3, x4⟩, ⟨q0, q1, q2, q3, q4⟩, rfl⟩
theorem open53 {H : Type} {enc : TypeId × Value → H} {W : World} {sp : Nat → Bool} {held : Bool} {v : Value} {d : DataW H} {p : List MemPlace} {r : Go.Reach} {b0 : Nat} (hv : Value.okWide Tryd.prog W r b0 53 v) (h : DataW.Trod enc Tryd.prog W 0 sp held 53 v d p) :
    ∃ x : Program, OkProgram x ∧ AVRep W m0 (fun _ => False) v (.agg ((Enc.enc x).map .p)) := by
  obtain ⟨cvs, e, hr⟩ := rep_struct (m := 8) Tryd.underlying53 (by kernel_rfl) hv h
  obtain ⟨x, hx, rfl⟩ := dec53 e
  exact ⟨x, hx, hr⟩
theorem gN1 : Tryd.prog.globalNamed "modelcheck/value.names" = some 1 := by kernel_rfl
theorem gN0 : Tryd.prog.globalNamed "modelcheck/inst.rows" = some 0 := by kernel_rfl
/-- The package variables as the rows lay them. -/
theorem gT1 : (Tryd.prog.globals[1]?).map (·.type) = some 161 := by kernel_rfl
set_option maxRecDepth 100000 in
theorem gC1 : cvD Tryd.prog 6 161 (Go.Proofs.YtgcinmhiohlmiaaDoor.Rows.laid_modelcheck_value_names (H := Unit)) = some (encL namesTab) := by kernel_rfl
theorem gT0 : (Tryd.prog.globals[0]?).map (·.type) = some 145 := by kernel_rfl
set_option maxRecDepth 100000 in
theorem gC0 : cvD Tryd.prog 6 145 (Go.Proofs.YtgcinmhiohlmiaaDoor.Rows.laid_modelcheck_inst_rows (H := Unit)) = some (encL rowsTab) := by kernel_rfl
set_option maxRecDepth 100000 in
theorem globs {W : World} (laid : List (String × DataW Unit)) (he : laid = [("modelcheck/value.names", Go.Proofs.YtgcinmhiohlmiaaDoor.Rows.laid_modelcheck_value_names), ("modelcheck/inst.rows", Go.Proofs.YtgcinmhiohlmiaaDoor.Rows.laid_modelcheck_inst_rows)])
    (h : laidMetH Tryd.prog laid W) : ∀ g cs, Globals.G g = some cs → AVRep W m0 (fun _ => False) (.pointer (some ⟨g, 0, none⟩)) (.cell (.ep cs 0)) := by
  subst he
  rw [MakeChecks.laidMetH_plain _ _ _ (by kernel_rfl)] at h
  obtain ⟨ps, ⟨g0, t0, cs0, f0, p0, q0, hg0, ht0, hv0, hd0, ⟨g1, t1, cs1, f1, p1, q1, hg1, ht1, hv1, hd1, _, _⟩, _⟩, _, _⟩ := h
  obtain rfl := Option.some.inj (gN1.symm.trans hg0)
  obtain rfl := Option.some.inj (gT1.symm.trans ht0)
  obtain rfl := Option.some.inj (gN0.symm.trans hg1)
  obtain rfl := Option.some.inj (gT0.symm.trans ht1)
  intro g cs hgc
  have hgc : (if g = 0 then some (encL rowsTab) else if g = 1 then some (encL namesTab) else none) = some cs := hgc
  split at hgc
  · rename_i e
    subst e
    cases hgc
    exact rep_global (m := 6) (t := 145) (by kernel_rfl) hd1 gC0 fun j => by simpa using World.var?_cell hg1 hv1 j
  · split at hgc
    · rename_i e
      subst e
      cases hgc
      exact rep_global (m := 6) (t := 161) (by kernel_rfl) hd0 gC1 fun j => by simpa using World.var?_cell hg0 hv0 j
    · cases hgc
end Go.Dc
end
