/- Contracts of functions, by their numbers, and the laws that walk them. Conditions: as each states. -/
import Derived.Test.YtihjddokgmjafaaDoorH4
import Derived.KernelRfl
import Derived.Test.YtihjddokgmjafaaDoorH3
set_option linter.all false
section
set_option linter.all false
namespace Go.Dc
open Go Go.Hw Go.Proofs
set_option maxRecDepth 100000
def r16_Few_L1 (fuelN : Nat) (a0 : UnitT) : Nat → Int → Int → Option Int
  | 0, _, _ => none
  | q66 + 1, i50, i51 => cond (andB (ltI i51 ((a0.Procs.length : Nat) : Int)) (ltI i51 100)) (Option.bind (getI a0.Procs i51) (fun x71 => Option.bind (r16_size fuelN x71.Body 40) (fun y74 => r16_Few_L1 fuelN a0 q66 (IntKind.i64.wrap (i50 + y74)) (IntKind.i64.wrap (i51 + 1))))) (some (i50))

def r16_Few (fuelN : Nat) (a0 : UnitT) : Option Bool :=
  Option.bind (α := Int) (Option.bind (r16_Few_L1 fuelN a0 fuelN (IntKind.i64.wrap (IntKind.i64.wrap (IntKind.i64.wrap (IntKind.i64.wrap (((a0.Vars.length : Nat) : Int) + ((a0.Mutexes.length : Nat) : Int)) + ((a0.Conds.length : Nat) : Int)) + ((a0.Threads.length : Nat) : Int)) + ((a0.Procs.length : Nat) : Int))) 0) (fun i59 => some (i59))) (fun i36 => some (andB (!(ltI 2000 i36)) (!(ltI 100 ((a0.Procs.length : Nat) : Int)))))

set_option maxHeartbeats 2000000 in
theorem at_r16_Few {fuelN : Nat} {a0 : UnitT} {r : Bool} (hs : r16_Few fuelN a0 = some r) : At Tryd.prog 26 [.agg (eA a0)] (bV r) := by
  refine at_bound (by kernel_rfl) fun hb => ?_
  have hb1 : LenOk (.sl a0.Vars.length (encL a0.Vars)) := lkc hb
  have hb2 : LenOk (.sl a0.Mutexes.length (encL a0.Mutexes)) := lkc hb
  have hb3 : LenOk (.sl a0.Conds.length (encL a0.Conds)) := lkc hb
  have hb4 : LenOk (.sl a0.Procs.length (encL a0.Procs)) := lkc hb
  have hb5 : LenOk (.sl a0.Threads.length (encL a0.Threads)) := lkc hb
  refine at_code mixed Tryd.func26 (by kernel_rfl) rfl (by kernel_rfl) rfl fun Q hQ => ?_
  rw [r16_Few] at hs
  refine goR2 f0 ?_
  revert hs; refine bK fun o38 e37 hs => ?_
  refine awp_cutK (fun (v : Int) (σ : St) => some (v) = some o38 ∧ σ.env 1 = .cell (.ref (.o 1 0 0) 0) ∧ σ.env 3 = iV .i64 v ∧ σ.hp (.o 1 0 0) = some (.cells (eA a0)) ∧ 3 ≤ σ.gen) (by rfl) (fun Q hK39 hX40 => ?_) (fun i36 σ3 hp => ?_)
  · refine goR f0 ?_
    revert e37; refine bK fun o61 e60 e37 => ?_
    refine awp_loopW (fun (v : Nat × Int × Int) (σ : St) => r16_Few_L1 fuelN a0 v.1 v.2.1 v.2.2 = some o61 ∧ σ.env 1 = .cell (.ref (.o 1 0 0) 0) ∧ σ.env 3 = iV .i64 v.2.1 ∧ σ.env 4 = iV .i64 v.2.2 ∧ σ.hp (.o 1 0 0) = some (.cells (eA a0)) ∧ 3 ≤ σ.gen) (fun v => v.1) _ (Gh.refl _) (fuelN, IntKind.i64.wrap (IntKind.i64.wrap (IntKind.i64.wrap (IntKind.i64.wrap (((a0.Vars.length : Nat) : Int) + ((a0.Mutexes.length : Nat) : Int)) + ((a0.Conds.length : Nat) : Int)) + ((a0.Threads.length : Nat) : Int)) + ((a0.Procs.length : Nat) : Int)), 0) ⟨e60, pv f0, pv f0, pv f0, pv f0, pg⟩ fun v σ6 hp L62 hL63 => ?_
    obtain ⟨q65, i50, i51⟩ := v
    dsimp only at hp hL63
    obtain ⟨e60, h5_1, h5_3, h5_4, g5_0, n5_g⟩ := hp
    have n5_0 : ¬ (σ6.gen = 0) := by omega
    rcases q65 with _ | q66
    · rw [r16_Few_L1] at e60; cases e60
    · rw [r16_Few_L1] at e60; try dsimp only at e60
      have F1 := an h5_1 (an h5_3 (an h5_4 (an g5_0 n5_0)))
      refine goG F1 F1 ?_
      revert e60; refine cS F1 ?_ ?_ <;> intro h70 e60
      · revert e60; refine bK fun x71 hx72 e60 => ?_
        obtain ⟨hx72a, hx72b, hx72c, hx72d⟩ := getI_some hx72
        have f73 : partCV Tryd.prog 55 (encL a0.Procs) (((i51).toNat) * 3 + 2) = some (.cell (sC x71.Body)) := partCV_enc hx72d (f := 2) (by simp)
        have F2 := an F1 f73
        have F3 := an F2 (an hx72a hx72b)
        refine goG F2 F3 ?_
        revert e60; refine bK fun y74 hx75 e60 => ?_
        refine cP F2 (at_r16_size hx75) ?_
        refine goG F2 F3 ?_
        exact hL63 (q66, IntKind.i64.wrap (i50 + y74), IntKind.i64.wrap (i51 + 1)) _ _ (Gh.refl _) ⟨e60, pv F2, pv F2, pv F2, pv F2, pg⟩ (by omega)
      · refine goG F1 F1 ?_
        obtain rfl := sj e60
        try dsimp only at e37
        exact hK39 i50 _ _ (Gh.refl _) ⟨e37, pv F1, pv F1, pv F1, pg⟩
  · obtain ⟨e37, h4_1, h4_3, g4_0, n4_g⟩ := hp
    obtain rfl := sj e37
    try dsimp only at hs
    have n4_0 : ¬ (σ3.gen = 0) := by omega
    have F4 := an h4_1 (an h4_3 (an g4_0 n4_0))
    refine goG F4 F4 ?_
    obtain rfl := sj hs
    exact hQ _ _ (rg F4 (Gh.refl _))
end Go.Dc
end
section
set_option linter.all false
namespace Go.Dc.Pl
open Go Go.Hw Go.Dc
mutual
def nS : Stmt → Nat
  | ⟨_, _, _, _, _, _, x, b, e⟩ => nL x + nSL b + nSL e + 1
def nSL : List Stmt → Nat
  | [] => 0
  | x :: r => nS x + nSL r
end
mutual
def cS : Stmt → Nat
  | ⟨_, _, _, _, _, _, _, b, e⟩ => cSL b + cSL e + 1
def cSL : List Stmt → Nat
  | [] => 0
  | x :: r => cS x + cSL r
end
mutual
/-- The statements in the order of their numbers, with their levels. -/
def flS (n : Int) : Stmt → List (Int × Stmt)
  | ⟨a, b, c, d, e, f, g, h, i⟩ => (n, ⟨a, b, c, d, e, f, g, h, i⟩) :: (flL (n + 1) h ++ flL (n + 1) i)
def flL (n : Int) : List Stmt → List (Int × Stmt)
  | [] => []
  | x :: r => flS n x ++ flL n r
end
theorem nS_eq (s : Stmt) : nS s = nL s.Exprs + nSL s.Body + nSL s.Else + 1 := by cases s; rw [nS]
theorem cS_eq (s : Stmt) : cS s = cSL s.Body + cSL s.Else + 1 := by cases s; rw [cS]
theorem flS_eq (n : Int) (s : Stmt) : flS n s = (n, s) :: (flL (n + 1) s.Body ++ flL (n + 1) s.Else) := by cases s; rw [flS]
@[simp] theorem nSL_nil : nSL [] = 0 := by rw [nSL]
@[simp] theorem nSL_cons (x : Stmt) (r : List Stmt) : nSL (x :: r) = nS x + nSL r := by rw [nSL]
@[simp] theorem cSL_nil : cSL [] = 0 := by rw [cSL]
@[simp] theorem cSL_cons (x : Stmt) (r : List Stmt) : cSL (x :: r) = cS x + cSL r := by rw [cSL]
@[simp] theorem flL_nil (n : Int) : flL n [] = [] := by rw [flL]
@[simp] theorem flL_cons (n : Int) (x : Stmt) (r : List Stmt) : flL n (x :: r) = flS n x ++ flL n r := by rw [flL]
theorem nS_pos (s : Stmt) : 1 ≤ nS s := by rw [nS_eq]; omega
theorem nSL_len : ∀ l : List Stmt, l.length ≤ nSL l
  | [] => by simp
  | x :: r => by have := nSL_len r; have := nS_pos x; simp; omega
theorem nSL_mem : ∀ {l : List Stmt} {x : Stmt}, x ∈ l → nS x ≤ nSL l
  | y :: r, x, h => by
    rcases List.mem_cons.1 h with rfl | h
    · simp
    · have := nSL_mem h; simp; omega
theorem flL_append (n : Int) : ∀ a b : List Stmt, flL n (a ++ b) = flL n a ++ flL n b
  | [], b => by simp
  | x :: a, b => by simp [flL_append n a b]
mutual
theorem fl_lenS : ∀ (s : Stmt) (n : Int), (flS n s).length = cS s
  | ⟨a, b, c, d, e, f, g, h, i⟩, n => by rw [flS, cS, List.length_cons, List.length_append, fl_lenL h, fl_lenL i]
theorem fl_lenL : ∀ (l : List Stmt) (n : Int), (flL n l).length = cSL l
  | [], n => by simp
  | x :: r, n => by rw [flL_cons, cSL_cons, List.length_append, fl_lenS x, fl_lenL r]
end
mutual
theorem c_leS : ∀ s : Stmt, cS s ≤ nS s
  | ⟨a, b, c, d, e, f, g, h, i⟩ => by rw [cS, nS]; have := c_leL h; have := c_leL i; omega
theorem c_leL : ∀ l : List Stmt, cSL l ≤ nSL l
  | [] => by simp
  | x :: r => by have := c_leS x; have := c_leL r; simp; omega
end
mutual
theorem fl_memS : ∀ (s : Stmt) (n : Int) (y : Int × Stmt), y ∈ flS n s → nS y.2 ≤ nS s
  | ⟨a, b, c, d, e, f, g, h, i⟩, n, y, hy => by
    rw [flS] at hy
    rcases List.mem_cons.1 hy with rfl | hy
    · exact Nat.le_refl _
    · rw [nS]
      rcases List.mem_append.1 hy with hy | hy
      · have := fl_memL h _ y hy; omega
      · have := fl_memL i _ y hy; omega
theorem fl_memL : ∀ (l : List Stmt) (n : Int) (y : Int × Stmt), y ∈ flL n l → nS y.2 ≤ nSL l
  | [], n, y, hy => by simp at hy
  | x :: r, n, y, hy => by
    rw [flL_cons] at hy
    rw [nSL_cons]
    rcases List.mem_append.1 hy with hy | hy
    · have := fl_memS x _ y hy; omega
    · have := fl_memL r _ y hy; omega
end
mutual
theorem itS_eq' : ∀ (s : Stmt) (n : Int), 0 ≤ n → n + nS s ≤ 4194304 → itS s n = some (flS n s)
  | ⟨a, b, c, d, e, f, g, h, i⟩, n, h0, hn => by
    rw [nS] at hn
    have h1 := nSL_len h; have h2 := nSL_len i
    rw [itS, flS, wrap_s (by omega) (by omega), itL_eq' h (n + 1) (by omega) (by omega), itL_eq' i (n + 1) (by omega) (by omega),
      show lenB h.length = true by rw [lenB_d]; simp; omega, show lenB i.length = true by rw [lenB_d]; simp; omega]
    rfl
theorem itL_eq' : ∀ (l : List Stmt) (n : Int), 0 ≤ n → n + nSL l ≤ 4194304 → itL l n = some (flL n l)
  | [], n, _, _ => by rw [itL]; simp
  | x :: r, n, h0, hn => by
    rw [nSL_cons] at hn
    rw [itL, itS_eq' x n h0 (by omega), itL_eq' r n h0 (by omega), flL_cons]; rfl
end
theorem its_eq {l : List Stmt} (h : nSL l ≤ 2097152) : it_stmts l 1 = some (flL 1 l) := by
  have := nSL_len l
  rw [it_stmts, show lenB l.length = true by rw [lenB_d]; simp; omega, guardO_t, itL_eq' l 1 (by omega) (by omega)]
theorem count_L : ∀ (xs : List (Int × Stmt)) (i : Nat), i + xs.length ≤ 4194304 → ast_Count_L1 xs (i : Int) = some ((i + xs.length : Nat) : Int)
  | [], i, _ => by rw [ast_Count_L1]; simp
  | x :: r, i, h => by
    rw [List.length_cons] at h
    rw [ast_Count_L1, wrapS (by omega), count_L r (i + 1) (by omega), List.length_cons]; congr 2; omega
theorem own_count {l : List Stmt} (h : nSL l ≤ 2097152) : ast_Count l = some (cSL l : Int) := by
  have := count_L (flL 1 l) 0 (by rw [fl_lenL]; have := c_leL l; omega)
  rw [show ((0 : Nat) : Int) = 0 from rfl, fl_lenL, Nat.zero_add] at this
  rw [ast_Count, ast_stmts, Option.bind_some, its_eq h, Option.bind_some, this]; rfl
theorem ref_count : ∀ (N : Nat) (l : List Stmt), nSL l < N → nSL l ≤ 2097152 → r16_Count N l = some (cSL l : Int)
  | 0, l, h, _ => absurd h (by omega)
  | N + 1, l, h, hb => by
    have key : ∀ (r : List Stmt) (i k : Nat), i + nSL r ≤ 4194304 → nSL r ≤ nSL l → r16_Count_L1 (r16_Count N) r (i : Int) k = some ((i + cSL r : Nat) : Int) := by
      intro r
      induction r with
      | nil => intro i k _ _; rw [r16_Count_L1]; simp
      | cons x r ih =>
        intro i k hi hr
        rw [nSL_cons] at hi hr
        have h1 := nS_eq x
        have hc := c_leS x
        have c1 := c_leL x.Body; have c2 := c_leL x.Else
        rw [r16_Count_L1, ref_count N x.Body (by omega) (by omega), Option.bind_some, ref_count N x.Else (by omega) (by omega), Option.bind_some, wrapS (by omega),
          wrap_s (n := ((i + 1 : Nat) : Int) + (cSL x.Body : Int)) (by omega) (by omega), wrap_s (n := ((i + 1 : Nat) : Int) + (cSL x.Body : Int) + (cSL x.Else : Int)) (by omega) (by omega), show ((i + 1 : Nat) : Int) + (cSL x.Body : Int) + (cSL x.Else : Int) = ((i + 1 + cSL x.Body + cSL x.Else : Nat) : Int) by omega, ih _ _ (by omega) (by omega), cSL_cons, cS_eq]
        congr 2; omega
    rw [show r16_Count (N + 1) l = r16_Count_B (r16_Count N) l from rfl, r16_Count_B]
    have := key l 0 0 (by omega) (Nat.le_refl _)
    rw [show ((0 : Nat) : Int) = 0 from rfl, Nat.zero_add] at this
    rw [this]; rfl
/-! Local variables. -/
def addN (a : List ByteArray) (s : Stmt) : List ByteArray := if asg s.Kind = true ∧ isIn a s.Name = false then a ++ [s.Name] else a
def addL (a : List ByteArray) (xs : List (Int × Stmt)) : List ByteArray := xs.foldl (fun a y => addN a y.2) a
@[simp] theorem addL_nil (a : List ByteArray) : addL a [] = a := rfl
@[simp] theorem addL_cons (a : List ByteArray) (x : Int × Stmt) (r : List (Int × Stmt)) : addL a (x :: r) = addL (addN a x.2) r := rfl
theorem addL_append (a : List ByteArray) (x y : List (Int × Stmt)) : addL a (x ++ y) = addL (addL a x) y := by simp [addL]
theorem addN_len (a : List ByteArray) (s : Stmt) : a.length ≤ (addN a s).length ∧ (addN a s).length ≤ a.length + 1 := by unfold addN; split <;> simp
theorem addL_len : ∀ (xs : List (Int × Stmt)) (a : List ByteArray), (addL a xs).length ≤ a.length + xs.length
  | [], a => by simp
  | x :: r, a => by have := addL_len r (addN a x.2); have := (addN_len a x.2).2; simp; omega
theorem lim16 {n : Nat} (h : n ≤ 8388608) : limB 16 n = true := by simp [limB]; omega
theorem locals_L : ∀ (xs : List (Int × Stmt)) (a : List ByteArray), a.length + xs.length ≤ 4194304 → ast_Locals_L1 xs a = some (addL a xs)
  | [], a, _ => by rw [ast_Locals_L1]; rfl
  | x :: r, a, h => by
    rw [List.length_cons] at h
    have h2 := (addN_len a x.2).2
    have ih := locals_L r (addN a x.2) (by omega)
    rw [ast_Locals_L1, assigns_eq, Option.bind_some, contains_eq, Option.bind_some, addL_cons]
    cases hA : asg x.2.Kind with
    | false => rw [show addN a x.2 = a by simp [addN, hA]] at ih ⊢; exact ih
    | true =>
      cases hI : isIn a x.2.Name with
      | true => rw [show addN a x.2 = a by simp [addN, hI]] at ih ⊢; exact ih
      | false =>
        rw [show addN a x.2 = a ++ [x.2.Name] by simp [addN, hA, hI]] at ih ⊢
        simp only [Bool.not_false, cond_true, Option.bind_some, List.length_singleton]
        rw [lim16 (by omega), guardO_t]; exact ih
def par (p : Proc) : List ByteArray := if eqS p.Param emp = true then [] else [p.Param]
def locP (p : Proc) : List ByteArray := addL (par p) (flL 1 p.Body)
theorem par_len (p : Proc) : (par p).length ≤ 1 := by unfold par; split <;> simp
theorem own_locals {p : Proc} (h : nSL p.Body ≤ 2097152) : ast_Locals p = some (locP p) := by
  have hl := locals_L (flL 1 p.Body) (par p) (by rw [fl_lenL]; have := c_leL p.Body; have := par_len p; omega)
  rw [ast_Locals, show (⟨#[]⟩ : ByteArray) = emp from rfl, locP, ← hl]
  have hp : (bif !eqS p.Param emp then (some [p.Param]).bind fun l13 => guardO (limB 16 l13.length) ((some l13).bind fun l16 => some l16) else some []) = some (par p) := by
    unfold par; cases eqS p.Param emp with
    | true => rfl
    | false => rfl
  rw [hp, Option.bind_some, ast_stmts, Option.bind_some, its_eq h, Option.bind_some]
  cases ast_Locals_L1 (flL 1 p.Body) (par p) <;> rfl
theorem ref_names : ∀ (N : Nat) (l : List Stmt) (a : List ByteArray) (n : Int), nSL l < N → a.length + nSL l ≤ 4194304 → r16_names N a l = some (addL a (flL n l))
  | 0, l, a, n, h, _ => absurd h (by omega)
  | N + 1, l, a, n, h, hb => by
    have key : ∀ (r : List Stmt) (a : List ByteArray) (k : Nat), a.length + nSL r ≤ 4194304 → nSL r ≤ nSL l → r16_names_L1 (r16_names N) r a k = some (addL a (flL n r)) := by
      intro r
      induction r with
      | nil => intro a k _ _; rw [r16_names_L1]; simp
      | cons x r ih =>
        intro a k hi hr
        rw [nSL_cons] at hi hr
        have h1 := nS_eq x
        have rest : ∀ b : List ByteArray, b.length ≤ a.length + 1 → (Option.bind (r16_names N b x.Body) fun y => Option.bind (r16_names N y x.Else) fun z => r16_names_L1 (r16_names N) r z (k + 1)) = some (addL (addL (addL b (flL (n + 1) x.Body)) (flL (n + 1) x.Else)) (flL n r)) := by
          intro b hb2
          have e1 := addL_len (flL (n + 1) x.Body) b
          have e2 := addL_len (flL (n + 1) x.Else) (addL b (flL (n + 1) x.Body))
          rw [fl_lenL] at e1 e2
          have c1 := c_leL x.Body; have c2 := c_leL x.Else
          rw [ref_names N x.Body b (n + 1) (by omega) (by omega), Option.bind_some, ref_names N x.Else _ (n + 1) (by omega) (by omega), Option.bind_some, ih _ _ (by omega) (by omega)]
        rw [flL_cons, flS_eq, List.cons_append, addL_cons, addL_append, addL_append]
        rw [r16_names_L1, in_eq, show r16_known x.Kind = some (okK x.Kind) by
          simp only [r16_known, andB_d, ltI_d, okK, ← decide_not, ← Bool.decide_and]; congr 2; apply propext; omega, Option.bind_some]
        cases hK : okK x.Kind with
        | false =>
          have hA : asg x.Kind = false := by simp [okK, asg] at hK ⊢; omega
          rw [show addN a x = a by simp [addN, hA]]
          exact rest a (by omega)
        | true =>
          rw [(tab hK).N]
          cases hA : asg x.Kind with
          | false => rw [show addN a x = a by simp [addN, hA]]; exact rest a (by omega)
          | true =>
            cases hI : isIn a x.Name with
            | true => rw [show addN a x = a by simp [addN, hI]]; exact rest a (by omega)
            | false =>
              rw [show addN a x = a ++ [x.Name] by simp [addN, hA, hI]]
              have := rest (a ++ [x.Name]) (by simp)
              simp only [Option.isSome_some, Option.getD_some, orB_d, Bool.or_true, guardO_t, andB_d, Bool.and_true, Bool.not_false, cond_true, Option.bind_some, List.length_singleton]
              rw [lim16 (by omega), guardO_t]; exact this
    rw [show r16_names (N + 1) a l = r16_names_B (r16_names N) a l from rfl, r16_names_B, key l a 0 hb (Nat.le_refl _)]; rfl
theorem ref_locals {N : Nat} {p : Proc} (h : nSL p.Body < N) (hb : nSL p.Body ≤ 2097152) : r16_Locals N p = some (locP p) := by
  rw [r16_Locals, Option.bind_some, show (⟨#[]⟩ : ByteArray) = emp from rfl, locP, par]
  cases eqS p.Param emp with
  | true =>
    rw [Bool.not_true, cond_false, if_pos rfl, ref_names N p.Body [] 1 h (by simp; omega)]; rfl
  | false =>
    rw [Bool.not_false, cond_true, if_neg (by simp), Option.bind_some]
    simp only [List.length_nil, List.length_singleton, Nat.zero_add, List.nil_append]
    rw [lim16 (by omega), guardO_t, Option.bind_some, ref_names N p.Body [p.Param] 1 h (by simp; omega)]; rfl
/-! The count of nodes of a unit ends. -/
theorem size_some : ∀ (N : Nat) (l : List Stmt) (d : Int), nSL l + 2 < N → nSL l ≤ 1048576 → ∃ r, r16_size N l d = some r
  | 0, l, d, h, _ => absurd h (by omega)
  | N + 1, l, d, h, hb => by
    rw [show r16_size (N + 1) l d = r16_size_B (r16_size N) N l d from rfl, r16_size_B]
    have hlen := nSL_len l
    have key : ∀ (q i : Nat) (a : Int), i ≤ l.length → l.length < i + q → ∃ r, r16_size_L1 N l d (r16_size N) q a (i : Int) = some r := by
      intro q
      induction q with
      | zero => intro i a hi hq; exact absurd hq (by omega)
      | succ q ih =>
        intro i a hi hq
        rw [r16_size_L1]
        cases hc : andB (ltI (i : Int) ((l.length : Nat) : Int)) (ltI 0 d) with
        | false => exact ⟨_, rfl⟩
        | true =>
          have hi' : i < l.length := by simp [andB_d, ltI_d] at hc; omega
          rw [cond_true, getI_nat, List.getElem?_eq_getElem hi', Option.bind_some]
          have hm := nSL_mem (List.getElem_mem hi')
          have h1 := nS_eq l[i]
          obtain ⟨x, hx⟩ := nodes_some N l[i].Exprs 40 (by omega) (by omega)
          obtain ⟨y, hy⟩ := size_some N l[i].Body (IntKind.i64.wrap (d - 1)) (by omega) (by omega)
          obtain ⟨z, hz⟩ := size_some N l[i].Else (IntKind.i64.wrap (d - 1)) (by omega) (by omega)
          rw [hx, Option.bind_some, hy, Option.bind_some, hz, Option.bind_some, wrapS (n := i) (by omega)]
          exact ih (i + 1) _ hi' (by omega)
    obtain ⟨r, hr⟩ := key N 0 ((l.length : Nat) : Int) (by omega) (by omega)
    rw [show ((0 : Nat) : Int) = 0 from rfl] at hr
    rw [hr]
    simp only [Option.bind_some]
    cases andB (eqI d 0) (ltI 0 r)
    · exact ⟨r, rfl⟩
    · exact ⟨_, rfl⟩
/-- A unit of bounded size. -/
structure Sm (u : UnitT) : Prop where
  vars : u.Vars.length ≤ 1048576
  mutexes : u.Mutexes.length ≤ 1048576
  conds : u.Conds.length ≤ 1048576
  procs : u.Procs.length ≤ 1048576
  threads : u.Threads.length ≤ 1048576
  body : ∀ p ∈ u.Procs, nSL p.Body ≤ 1048576
theorem few_some {N : Nat} {u : UnitT} (h : Sm u) (hN : 1048580 ≤ N) : ∃ b, r16_Few N u = some b := by
  have key : ∀ (q i : Nat) (a : Int), i ≤ u.Procs.length → u.Procs.length < i + q → ∃ r, r16_Few_L1 N u q a (i : Int) = some r := by
    intro q
    induction q with
    | zero => intro i a hi hq; exact absurd hq (by omega)
    | succ q ih =>
      intro i a hi hq
      rw [r16_Few_L1]
      cases hc : andB (ltI (i : Int) ((u.Procs.length : Nat) : Int)) (ltI (i : Int) 100) with
      | false => exact ⟨_, rfl⟩
      | true =>
        have hi' : i < u.Procs.length := by simp [andB_d, ltI_d] at hc; omega
        have hm := h.body _ (List.getElem_mem hi')
        obtain ⟨x, hx⟩ := size_some N u.Procs[i].Body 40 (by omega) hm
        have hp := h.procs
        rw [cond_true, getI_nat, List.getElem?_eq_getElem hi', Option.bind_some, hx, Option.bind_some, wrapS (n := i) (by omega)]
        exact ih (i + 1) _ hi' (by omega)
  rw [r16_Few]
  obtain ⟨r, hr⟩ := key N 0 (IntKind.i64.wrap (IntKind.i64.wrap (IntKind.i64.wrap (IntKind.i64.wrap (((u.Vars.length : Nat) : Int) + ((u.Mutexes.length : Nat) : Int)) + ((u.Conds.length : Nat) : Int)) + ((u.Threads.length : Nat) : Int)) + ((u.Procs.length : Nat) : Int))) (by omega) (by have := h.procs; omega)
  rw [show ((0 : Nat) : Int) = 0 from rfl] at hr
  rw [hr]; exact ⟨_, rfl⟩
end Go.Dc.Pl
end
section
set_option linter.all false
namespace Go.Dc
open Go Go.Hw Go.Proofs
set_option maxRecDepth 100000
def ast_objects_L1 : List Var → Nat → (List ByteArray) → Option (List ByteArray)
  | [], k81, l82 => some (l82)
  | x104 :: q100, k81, l82 => Option.bind (some ([x104.Name])) (fun l107 => guardO (limB 16 (l82.length + l107.length)) (Option.bind (some (l82 ++ l107)) (fun l110 => ast_objects_L1 q100 (k81 + 1) l110)))

def ast_objects_L2 : List Proc → Nat → (List ByteArray) → Option (List ByteArray)
  | [], k192, l193 => some (l193)
  | x215 :: q211, k192, l193 => Option.bind (some ([x215.Name])) (fun l218 => guardO (limB 16 (l193.length + l218.length)) (Option.bind (some (l193 ++ l218)) (fun l221 => ast_objects_L2 q211 (k192 + 1) l221)))

def ast_objects (a0 : UnitT) : Option (Arr 5 (List ByteArray)) :=
  Option.bind (α := (List ByteArray)) (Option.bind (ast_objects_L1 a0.Vars 0 []) (fun l93 => some (l93))) (fun l54 => Option.bind (α := (List ByteArray)) (Option.bind (ast_objects_L2 a0.Procs 0 []) (fun l204 => some (l204))) (fun l165 => some (Arr.of 5 [[], l54, a0.Mutexes, a0.Conds, l165])))

set_option maxHeartbeats 2000000 in
theorem at_ast_objects {a0 : UnitT} {r : (Arr 5 (List ByteArray))} (hs : ast_objects a0 = some r) : At Tryd.prog 68 [.agg (eA a0)] (.agg [sC (r.f 0), sC (r.f 1), sC (r.f 2), sC (r.f 3), sC (r.f 4)]) := by
  refine at_bound (by kernel_rfl) fun hb => ?_
  have hb1 : LenOk (.sl a0.Vars.length (encL a0.Vars)) := lkc hb
  have hb2 : LenOk (.sl a0.Mutexes.length (encL a0.Mutexes)) := lkc hb
  have hb3 : LenOk (.sl a0.Conds.length (encL a0.Conds)) := lkc hb
  have hb4 : LenOk (.sl a0.Procs.length (encL a0.Procs)) := lkc hb
  have hb5 : LenOk (.sl a0.Threads.length (encL a0.Threads)) := lkc hb
  refine at_code mixed Tryd.func68 (by kernel_rfl) rfl (by kernel_rfl) rfl fun Q hQ => ?_
  rw [ast_objects] at hs
  refine goR2 f0 ?_
  revert hs; refine bK fun o56 e55 hs => ?_
  refine awp_cutK (fun (v : (List ByteArray)) (σ : St) => some (v) = some o56 ∧ σ.env 1 = .cell (.ref (.o 1 0 0) 0) ∧ σ.env 2 = .cell (.ref (.o 1 1 0) 0) ∧ σ.env 3 = .cell (.ref (.o 2 0 0) 0) ∧ σ.hp (.o 1 0 0) = some (.cells (eA a0)) ∧ σ.hp (.o 1 1 0) = some (.cells [.z, .z, .z, .z, .z]) ∧ σ.hp (.l 1) = some (.pure (encL v)) ∧ σ.hp (.o 2 0 0) = some (.cells [.z, .sl (.l 1) 0 1 v.length, .z, .z, .z]) ∧ 3 ≤ σ.gen) (by rfl) (fun Q hK57 hX58 => ?_) (fun l54 σ3 hp => ?_)
  · refine goR f0 ?_
    revert e55; refine bK fun o95 e94 e55 => ?_
    refine awp_loopW (fun (v : (List Var) × Nat × (List ByteArray)) (σ : St) => ast_objects_L1 v.1 v.2.1 v.2.2 = some o95 ∧ v.1 = a0.Vars.drop v.2.1 ∧ σ.env 1 = .cell (.ref (.o 1 0 0) 0) ∧ σ.env 2 = .cell (.ref (.o 1 1 0) 0) ∧ σ.env 3 = .cell (.ref (.o 2 0 0) 0) ∧ σ.env 9 = .cell (sC a0.Vars) ∧ σ.env 10 = iV .i64 ((a0.Vars.length : Nat) : Int) ∧ σ.env 11 = iV .i64 ((v.2.1 : Nat) : Int) ∧ σ.hp (.o 1 0 0) = some (.cells (eA a0)) ∧ σ.hp (.o 1 1 0) = some (.cells [.z, .z, .z, .z, .z]) ∧ σ.hp (.l 4) = some (.pure (encL v.2.2)) ∧ σ.hp (.o 2 0 0) = some (.cells [.z, .sl (.l 4) 0 1 v.2.2.length, .z, .z, .z]) ∧ 3 ≤ σ.gen) (fun v => v.1.length) _ (Gh.voidB _ (.l 4) (.o 2 0 0) 1 1 rfl (by simp; rfl) (by first | rfl | simp) (by simp)) (a0.Vars, 0, []) ⟨e94, by simp, pv f0, pv f0, pv f0, pv f0, pv f0, pv f0, pv f0, pv f0, pv f0, pv f0, pg⟩ fun v σ6 hp L96 hL97 => ?_
    obtain ⟨q99, k81, l82⟩ := v
    dsimp only at hp hL97
    obtain ⟨e94, hd98, h5_1, h5_2, h5_3, h5_9, h5_10, h5_11, g5_0, g5_1, g5_2, g5_3, n5_g⟩ := hp
    have n5_0 : ¬ (σ6.gen = 0) := by omega
    have n5_1 : ¬ (σ6.gen = 1) := by omega
    rcases q99 with _ | ⟨x104, q100⟩
    · have hlt101 := drop_end hd98
      rw [ast_objects_L1] at e94; try dsimp only at e94
      have F1 := an h5_1 (an h5_2 (an h5_3 (an h5_9 (an h5_10 (an h5_11 (an g5_0 (an g5_1 (an g5_2 (an g5_3 (an n5_0 n5_1))))))))))
      refine goR F1 ?_
      refine condK_f (by simp [ltI]; omega) ?_
      obtain rfl := sj e94
      try dsimp only at e55
      exact hK57 l82 _ _ (Gh.ren _ (.l 4) (.l 1) (by simp) rfl rfl) ⟨e55, pv F1, pv F1, pv F1, pv F1, pv F1, pv F1, pv F1, pg⟩
    · obtain ⟨hx103, hlt101, hd105⟩ := drop_next hd98
      have ew102 := wrap_succ hlt101 (hb1).len
      rw [ast_objects_L1] at e94; try dsimp only at e94
      have F2 := an h5_1 (an h5_2 (an h5_3 (an h5_9 (an h5_10 (an h5_11 (an g5_0 (an g5_1 (an g5_2 (an g5_3 (an n5_0 (an n5_1 (an hlt101 ew102))))))))))))
      refine goR F2 ?_
      refine condK_t (by simp [ltI]; omega) ?_
      have f106 : partCV Tryd.prog 69 (encL a0.Vars) (k81 * 2) = some (.agg (eA x104)) := partCV_enc hx103 (f := 0) (by simp)
      revert e94; refine lK fun l107 hx108 e94 => ?_
      have hx108n : l107.length = 1 := by rw [hx108]; rfl
      obtain ⟨g109, e94⟩ := guardO_some e94
      have g109 := limB_t g109
      obtain ⟨g109a, g109b⟩ := g109
      revert e94; refine lK fun l110 hx111 e94 => ?_
      have hx111n : l110.length = (l82.length + l107.length) := by rw [hx111]; simp
      have hx111e : encL l110 = encL l82 ++ encL l107 := by rw [hx111]; simp
      have F3 := an F2 (an f106 (an hx108 (an hx111n hx111e)))
      refine goR F3 ?_
      exact hL97 (q100, (k81 + 1), l110) _ _ (Gh.ren _ (.o (σ6.gen + 3) 5 0) (.l 4) (by simp) rfl rfl) ⟨e94, hd105, pv F3, pv F3, pv F3, pv F3, pv F3, pv F3, pv F3, pv F3, pv F3, pv F3, pg⟩ (by simp)
  · obtain ⟨e55, h4_1, h4_2, h4_3, g4_0, g4_1, g4_2, g4_3, n4_g⟩ := hp
    obtain rfl := sj e55
    try dsimp only at hs
    have n4_0 : ¬ (σ3.gen = 0) := by omega
    have n4_1 : ¬ (σ3.gen = 1) := by omega
    have F4 := an h4_1 (an h4_2 (an h4_3 (an g4_0 (an g4_1 (an g4_2 (an g4_3 (an n4_0 n4_1)))))))
    refine goD2 F4 ?_
    revert hs; refine bK fun o167 e166 hs => ?_
    refine awp_cutK (fun (v : (List ByteArray)) (σ : St) => some (v) = some o167 ∧ σ.env 2 = .cell (.ref (.o 1 1 0) 0) ∧ σ.env 3 = .cell (.ref (.o 2 0 0) 0) ∧ σ.hp (.o 1 1 0) = some (.cells [.z, .z, .z, .z, .z]) ∧ σ.hp (.l 9) = some (.pure (encL v)) ∧ σ.hp (.o 2 0 0) = some (.cells [.z, .sl (.l 1) 0 1 l54.length, sC a0.Mutexes, sC a0.Conds, .sl (.l 9) 0 1 v.length]) ∧ σ.hp (.l 1) = some (.pure (encL l54)) ∧ (σ3.gen + 2) ≤ σ.gen) (by rfl) (fun Q hK168 hX169 => ?_) (fun l165 σ9 hp => ?_)
    · refine goD F4 ?_
      revert e166; refine bK fun o206 e205 e166 => ?_
      refine awp_loopW (fun (v : (List Proc) × Nat × (List ByteArray)) (σ : St) => ast_objects_L2 v.1 v.2.1 v.2.2 = some o206 ∧ v.1 = a0.Procs.drop v.2.1 ∧ σ.env 2 = .cell (.ref (.o 1 1 0) 0) ∧ σ.env 3 = .cell (.ref (.o 2 0 0) 0) ∧ σ.env 30 = .cell (sC a0.Procs) ∧ σ.env 31 = iV .i64 ((a0.Procs.length : Nat) : Int) ∧ σ.env 32 = iV .i64 ((v.2.1 : Nat) : Int) ∧ σ.hp (.o 1 1 0) = some (.cells [.z, .z, .z, .z, .z]) ∧ σ.hp (.l 17) = some (.pure (encL v.2.2)) ∧ σ.hp (.o 2 0 0) = some (.cells [.z, .sl (.l 1) 0 1 l54.length, sC a0.Mutexes, sC a0.Conds, .sl (.l 17) 0 1 v.2.2.length]) ∧ σ.hp (.l 1) = some (.pure (encL l54)) ∧ (σ3.gen + 2) ≤ σ.gen) (fun v => v.1.length) _ (Gh.voidB _ (.l 17) (.o 2 0 0) 4 1 rfl (by simp [F4]; rfl) (by first | rfl | simp) (by simp)) (a0.Procs, 0, []) ⟨e205, by simp, pv F4, pv F4, pv F4, pv F4, pv F4, pv F4, pv F4, pv F4, pv F4, pg⟩ fun v σ12 hp L207 hL208 => ?_
      obtain ⟨q210, k192, l193⟩ := v
      dsimp only at hp hL208
      obtain ⟨e205, hd209, h11_2, h11_3, h11_30, h11_31, h11_32, g11_0, g11_1, g11_2, g11_3, n11_g⟩ := hp
      have n11_0 : ¬ (σ12.gen = 0) := by omega
      have n11_1 : ¬ (σ12.gen = 1) := by omega
      rcases q210 with _ | ⟨x215, q211⟩
      · have hlt212 := drop_end hd209
        rw [ast_objects_L2] at e205; try dsimp only at e205
        have F5 := an h11_2 (an h11_3 (an h11_30 (an h11_31 (an h11_32 (an g11_0 (an g11_1 (an g11_2 (an g11_3 (an n11_0 n11_1)))))))))
        refine goR F5 ?_
        refine condK_f (by simp [ltI]; omega) ?_
        obtain rfl := sj e205
        try dsimp only at e166
        exact hK168 l193 _ _ (Gh.ren _ (.l 17) (.l 9) (by simp) rfl rfl) ⟨e166, pv F5, pv F5, pv F5, pv F5, pv F5, pv F5, pg⟩
      · obtain ⟨hx214, hlt212, hd216⟩ := drop_next hd209
        have ew213 := wrap_succ hlt212 (hb4).len
        rw [ast_objects_L2] at e205; try dsimp only at e205
        have F6 := an h11_2 (an h11_3 (an h11_30 (an h11_31 (an h11_32 (an g11_0 (an g11_1 (an g11_2 (an g11_3 (an n11_0 (an n11_1 (an hlt212 ew213)))))))))))
        refine goR F6 ?_
        refine condK_t (by simp [ltI]; omega) ?_
        have f217 : partCV Tryd.prog 57 (encL a0.Procs) (k192 * 3) = some (.agg (eA x215)) := partCV_enc hx214 (f := 0) (by simp)
        revert e205; refine lK fun l218 hx219 e205 => ?_
        have hx219n : l218.length = 1 := by rw [hx219]; rfl
        obtain ⟨g220, e205⟩ := guardO_some e205
        have g220 := limB_t g220
        obtain ⟨g220a, g220b⟩ := g220
        revert e205; refine lK fun l221 hx222 e205 => ?_
        have hx222n : l221.length = (l193.length + l218.length) := by rw [hx222]; simp
        have hx222e : encL l221 = encL l193 ++ encL l218 := by rw [hx222]; simp
        have F7 := an F6 (an f217 (an hx219 (an hx222n hx222e)))
        refine goR F7 ?_
        exact hL208 (q211, (k192 + 1), l221) _ _ (Gh.ren _ (.o (σ12.gen + 3) 5 0) (.l 17) (by simp) rfl rfl) ⟨e205, hd216, pv F7, pv F7, pv F7, pv F7, pv F7, pv F7, pv F7, pv F7, pv F7, pg⟩ (by simp)
    · obtain ⟨e166, h10_2, h10_3, g10_0, g10_1, g10_2, g10_3, n10_g⟩ := hp
      obtain rfl := sj e166
      try dsimp only at hs
      have n10_0 : ¬ (σ9.gen = 0) := by omega
      have n10_1 : ¬ (σ9.gen = 1) := by omega
      have F8 := an h10_2 (an h10_3 (an g10_0 (an g10_1 (an g10_2 (an g10_3 (an n10_0 n10_1))))))
      refine goD F8 ?_
      obtain rfl := sj hs
      exact hQ _ _ (rg F8 ((Gh.frz _ (.l 1)).trans ((Gh.frz _ (.l 9)).trans (Gh.unz _))))
end Go.Dc
end
section
set_option linter.all false
namespace Go.Dc
open Go Go.Hw Go.Proofs
set_option maxRecDepth 100000
def ast_names_L1 (a0 : List ByteArray) : List ByteArray → Nat → Option (Unit ⊕ (Int × Int))
  | [], k77 => some (.inl ())
  | x103 :: q99, k77 => Option.bind (ast_validName x103) (fun y106 => cond (!y106) (some (.inr (6, ((k77 : Nat) : Int)))) (guardO (slB 0 ((k77 : Nat) : Int) a0.length) (Option.bind (some (subL a0 0 ((k77 : Nat) : Int))) (fun l110 => Option.bind (slices_Contains_string l110 x103) (fun y113 => cond y113 (some (.inr (7, ((k77 : Nat) : Int)))) (ast_names_L1 a0 q99 (k77 + 1)))))))

def ast_names (a0 : List ByteArray) : Option (Int × Int) :=
  Option.bind (α := Unit ⊕ (Int × Int)) (Option.bind (ast_names_L1 a0 a0 0) (fun o => match o with | .inl _ => some (.inl ()) | .inr r116 => some (.inr r116))) (fun o => match o with | .inl _ => some (0, (-1)) | .inr r117 => some r117)

set_option maxHeartbeats 2000000 in
theorem at_ast_names {a0 : List ByteArray} {r : Int × Int} (hs : ast_names a0 = some r) : At Tryd.prog 118 [.cell (sC a0)] (.tup [iV .i64 r.1, iV .i64 r.2]) := by
  refine at_bound (by kernel_rfl) fun hb => ?_
  have hb1 : LenOk (.sl a0.length (encL a0)) := lkc hb
  refine at_code mixed Tryd.func118 (by kernel_rfl) rfl (by kernel_rfl) rfl fun Q hQ => ?_
  rw [ast_names] at hs
  refine goR2 f0 ?_
  revert hs; refine bK fun o58 e57 hs => ?_
  refine awp_cutK (fun (v : Unit) (σ : St) => some (.inl v) = some o58 ∧ 2 ≤ σ.gen) (by rfl) (fun Q hK59 hX60 => ?_) (fun v σ3 hp => ?_)
  · refine goR f0 ?_
    revert e57; refine bK fun o94 e93 e57 => ?_
    refine awp_loopW (fun (v : (List ByteArray) × Nat) (σ : St) => ast_names_L1 a0 v.1 v.2 = some o94 ∧ v.1 = a0.drop v.2 ∧ σ.env 0 = .cell (sC a0) ∧ σ.env 6 = .cell (sC a0) ∧ σ.env 7 = iV .i64 ((a0.length : Nat) : Int) ∧ σ.env 8 = iV .i64 ((v.2 : Nat) : Int) ∧ 2 ≤ σ.gen) (fun v => v.1.length) _ (Gh.refl _) (a0, 0) ⟨e93, by simp, pv f0, pv f0, pv f0, pv f0, pg⟩ fun v σ6 hp L95 hL96 => ?_
    obtain ⟨q98, k77⟩ := v
    dsimp only at hp hL96
    obtain ⟨e93, hd97, h5_0, h5_6, h5_7, h5_8, n5_g⟩ := hp
    rcases q98 with _ | ⟨x103, q99⟩
    · have hlt100 := drop_end hd97
      rw [ast_names_L1] at e93; try dsimp only at e93
      have F1 := an h5_0 (an h5_6 (an h5_7 h5_8))
      refine goR F1 ?_
      refine condK_f (by simp [ltI]; omega) ?_
      obtain rfl := sj e93
      try dsimp only at e57
      exact hK59 () _ _ (Gh.refl _) ⟨e57, pg⟩
    · obtain ⟨hx102, hlt100, hd104⟩ := drop_next hd97
      have ew101 := wrap_succ hlt100 (hb1).len
      rw [ast_names_L1] at e93; try dsimp only at e93
      have F2 := an h5_0 (an h5_6 (an h5_7 (an h5_8 (an hlt100 ew101))))
      refine goR F2 ?_
      refine condK_t (by simp [ltI]; omega) ?_
      have f105 : partCV Tryd.prog 9 (encL a0) (k77) = some (sV x103) := partCV_enc1 hx102 (by simp)
      have F3 := an F2 f105
      refine goR F3 ?_
      revert e93; refine bK fun y106 hx107 e93 => ?_
      refine cP F3 (at_ast_validName hx107) ?_
      refine goR F3 ?_
      revert e93; refine cS F3 ?_ ?_ <;> intro h108 e93
      · refine goR F3 ?_
        obtain rfl := sj e93
        try dsimp only at e57
        obtain rfl := sj e57
        try dsimp only at hs
        refine hX60 _ _ (by simp) ?_
        refine goR F3 ?_
        obtain rfl := sj hs
        exact hQ _ _ (rg F3 (Gh.refl _))
      · obtain ⟨g109, e93⟩ := guardO_some e93
        obtain ⟨g109a, g109b, g109c⟩ := slB_t g109
        revert e93; refine lK fun l110 hx111 e93 => ?_
        have f112n : l110.length = (((k77 : Nat) : Int) - 0).toNat := by rw [hx111]; exact subL_len ⟨g109a, g109b, g109c⟩
        have f112e : ((encL a0).drop ((0 : Int).toNat * 1)).take ((((k77 : Nat) : Int) - 0).toNat * 1) = encL l110 := by rw [hx111]; exact subL_enc (α := ByteArray)
        try simp at f112n
        try simp at f112e
        have f112o : LenOk (.sl l110.length (encL l110)) := by rw [hx111]; exact subL_ok hb1
        have F4 := an F3 (an g109a (an g109b (an g109c (an f112n f112e))))
        refine goR F4 ?_
        revert e93; refine bK fun y113 hx114 e93 => ?_
        refine cP F4 (at_slices_Contains_string hx114) ?_
        refine goR F4 ?_
        revert e93; refine cS F4 ?_ ?_ <;> intro h115 e93
        · refine goR F4 ?_
          obtain rfl := sj e93
          try dsimp only at e57
          obtain rfl := sj e57
          try dsimp only at hs
          refine hX60 _ _ (by simp) ?_
          refine goR F4 ?_
          obtain rfl := sj hs
          exact hQ _ _ (rg F4 (Gh.refl _))
        · refine goR F4 ?_
          exact hL96 (q99, (k77 + 1)) _ _ (Gh.refl _) ⟨e93, hd104, pv F4, pv F4, pv F4, pv F4, pg⟩ (by simp)
  · obtain ⟨e57, n4_g⟩ := hp
    obtain rfl := sj e57
    try dsimp only at hs
    refine goR f0 ?_
    obtain rfl := sj hs
    exact hQ _ _ (rg f0 (Gh.refl _))
end Go.Dc
end
section
set_option linter.all false
namespace Go.Dc
open Go Go.Hw Go.Proofs
set_option maxRecDepth 100000
def ast_head_L1 (a1 : Arr 5 (List ByteArray)) : Nat → Int → Option (Unit ⊕ (Int × Int))
  | 0, _ => none
  | q65 + 1, i50 => cond (!(ltI 4 i50)) (guardO (inB i50 5) (Option.bind (ast_names (a1.f ((i50).toNat))) (fun y72 => cond (!(eqI y72.1 0)) (cond (eqI i50 4) (some (.inr (y72.1, y72.2))) (some (.inr (y72.1, (-1))))) (ast_head_L1 a1 q65 (IntKind.i64.wrap (i50 + 1)))))) (some (.inl ()))

def ast_head_L2 : List Var → Nat → Option (Unit ⊕ (Int × Int))
  | [], k118 => some (.inl ())
  | x135 :: q131, k118 => cond (orB (ltI x135.Init (-2147483648)) (ltI 2147483647 x135.Init)) (some (.inr (2, (-1)))) (ast_head_L2 q131 (k118 + 1))

def ast_head (fuelN : Nat) (a0 : UnitT) (a1 : Arr 5 (List ByteArray)) : Option (Int × Int) :=
  Option.bind (α := Unit ⊕ (Int × Int)) (Option.bind (ast_head_L1 a1 fuelN 1) (fun o => match o with | .inl _ => some (.inl ()) | .inr r76 => some (.inr r76))) (fun o => match o with | .inl _ => cond (orB (orB (orB (ltI 8 ((a0.Vars.length : Nat) : Int)) (ltI 4 ((a0.Mutexes.length : Nat) : Int))) (ltI 4 ((a0.Conds.length : Nat) : Int))) (ltI 8 ((a0.Procs.length : Nat) : Int))) (some (4, (-1))) (Option.bind (α := Unit ⊕ (Int × Int)) (Option.bind (ast_head_L2 a0.Vars 0) (fun o => match o with | .inl _ => some (.inl ()) | .inr r139 => some (.inr r139))) (fun o => match o with | .inl _ => some (0, (-1)) | .inr r140 => some r140)) | .inr r141 => some r141)

set_option maxHeartbeats 2000000 in
theorem at_ast_head {fuelN : Nat} {a0 : UnitT} {a1 : Arr 5 (List ByteArray)} {r : Int × Int} (hs : ast_head fuelN a0 a1 = some r) : At Tryd.prog 69 [.agg (eA a0), .agg [sC (a1.f 0), sC (a1.f 1), sC (a1.f 2), sC (a1.f 3), sC (a1.f 4)]] (.tup [iV .i64 r.1, iV .i64 r.2]) := by
  refine at_bound (by kernel_rfl) fun hb => ?_
  have hb1 : LenOk (.sl a0.Vars.length (encL a0.Vars)) := lkc hb
  have hb2 : LenOk (.sl a0.Mutexes.length (encL a0.Mutexes)) := lkc hb
  have hb3 : LenOk (.sl a0.Conds.length (encL a0.Conds)) := lkc hb
  have hb4 : LenOk (.sl a0.Procs.length (encL a0.Procs)) := lkc hb
  have hb5 : LenOk (.sl a0.Threads.length (encL a0.Threads)) := lkc hb
  have hb6 : LenOk (.sl (a1.f 0).length (encL (a1.f 0))) := lkc hb
  have hb7 : LenOk (.sl (a1.f 1).length (encL (a1.f 1))) := lkc hb
  have hb8 : LenOk (.sl (a1.f 2).length (encL (a1.f 2))) := lkc hb
  have hb9 : LenOk (.sl (a1.f 3).length (encL (a1.f 3))) := lkc hb
  have hb10 : LenOk (.sl (a1.f 4).length (encL (a1.f 4))) := lkc hb
  refine at_code mixed Tryd.func69 (by kernel_rfl) rfl (by kernel_rfl) rfl fun Q hQ => ?_
  rw [ast_head] at hs
  refine goR2 f0 ?_
  revert hs; refine bK fun o38 e37 hs => ?_
  refine awp_cutK (fun (v : Unit) (σ : St) => some (.inl v) = some o38 ∧ σ.env 2 = .cell (.ref (.o 1 0 0) 0) ∧ σ.hp (.o 1 0 0) = some (.cells (eA a0)) ∧ 2 ≤ σ.gen) (by rfl) (fun Q hK39 hX40 => ?_) (fun v σ3 hp => ?_)
  · refine goR f0 ?_
    revert e37; refine bK fun o60 e59 e37 => ?_
    refine awp_loopW (fun (v : Nat × Int) (σ : St) => ast_head_L1 a1 v.1 v.2 = some o60 ∧ σ.env 2 = .cell (.ref (.o 1 0 0) 0) ∧ σ.env 3 = .cell (.ref (.o 1 1 0) 0) ∧ σ.env 6 = iV .i64 v.2 ∧ σ.hp (.o 1 0 0) = some (.cells (eA a0)) ∧ σ.hp (.o 1 1 0) = some (.cells [sC (a1.f 0), sC (a1.f 1), sC (a1.f 2), sC (a1.f 3), sC (a1.f 4)]) ∧ 2 ≤ σ.gen) (fun v => v.1) _ (Gh.refl _) (fuelN, 1) ⟨e59, pv f0, pv f0, pv f0, pv f0, pv f0, pg⟩ fun v σ6 hp L61 hL62 => ?_
    obtain ⟨q64, i50⟩ := v
    dsimp only at hp hL62
    obtain ⟨e59, h5_2, h5_3, h5_6, g5_0, g5_1, n5_g⟩ := hp
    have n5_0 : ¬ (σ6.gen = 0) := by omega
    rcases q64 with _ | q65
    · rw [ast_head_L1] at e59; cases e59
    · rw [ast_head_L1] at e59; try dsimp only at e59
      have F1 := an h5_2 (an h5_3 (an h5_6 (an g5_0 (an g5_1 n5_0))))
      refine goR F1 ?_
      revert e59; refine cS F1 ?_ ?_ <;> intro h69 e59
      · obtain ⟨g70, e59⟩ := guardO_some e59
        have g70a : 0 ≤ i50 := (inB_t g70).1
        have g70b : i50 < 5 := (inB_t g70).2.1
        have g70n : (i50).toNat < 5 :=  by simpa using (inB_t g70).2.2
        have f71 : ([sC (a1.f 0), sC (a1.f 1), sC (a1.f 2), sC (a1.f 3), sC (a1.f 4)] : List AC)[(i50).toNat]? = some (sC (a1.f ((i50).toNat))) := arr_read (n := 5) (fun j => (sC (a1.f j) : AC)) g70n
        have f71t := take_one f71
        have f71g := get_of f71
        have F2 := an F1 (an g70a (an g70b (an g70n (an f71 (an f71t f71g)))))
        refine goR F2 ?_
        revert e59; refine bK fun y72 hx73 e59 => ?_
        refine cP F2 (at_ast_names hx73) ?_
        refine goR F2 ?_
        revert e59; refine cS F2 ?_ ?_ <;> intro h74 e59
        · refine goR F2 ?_
          revert e59; refine cS F2 ?_ ?_ <;> intro h75 e59
          · refine goR F2 ?_
            obtain rfl := sj e59
            try dsimp only at e37
            obtain rfl := sj e37
            try dsimp only at hs
            refine hX40 _ _ (by simp) ?_
            refine goR F2 ?_
            obtain rfl := sj hs
            exact hQ _ _ (rg F2 (Gh.refl _))
          · refine goR F2 ?_
            obtain rfl := sj e59
            try dsimp only at e37
            obtain rfl := sj e37
            try dsimp only at hs
            refine hX40 _ _ (by simp) ?_
            refine goR F2 ?_
            obtain rfl := sj hs
            exact hQ _ _ (rg F2 (Gh.refl _))
        · refine goR F2 ?_
          exact hL62 (q65, IntKind.i64.wrap (i50 + 1)) _ _ (Gh.refl _) ⟨e59, pv F2, pv F2, pv F2, pv F2, pv F2, pg⟩ (by omega)
      · refine goR F1 ?_
        obtain rfl := sj e59
        try dsimp only at e37
        exact hK39 () _ _ (Gh.refl _) ⟨e37, pv F1, pv F1, pg⟩
  · obtain ⟨e37, h4_2, g4_0, n4_g⟩ := hp
    obtain rfl := sj e37
    try dsimp only at hs
    have n4_0 : ¬ (σ3.gen = 0) := by omega
    have F3 := an h4_2 (an g4_0 n4_0)
    refine goG F3 F3 ?_
    revert hs; refine cS F3 ?_ ?_ <;> intro h77 hs
    · refine goG F3 F3 ?_
      obtain rfl := sj hs
      exact hQ _ _ (rg F3 (Gh.refl _))
    · refine goG2 F3 F3 ?_
      revert hs; refine bK fun o108 e107 hs => ?_
      refine awp_cutK (fun (v : Unit) (σ : St) => some (.inl v) = some o108 ∧ (σ3.gen + 2) ≤ σ.gen) (by rfl) (fun Q hK109 hX110 => ?_) (fun v σ9 hp => ?_)
      · refine goG F3 F3 ?_
        revert e107; refine bK fun o126 e125 e107 => ?_
        refine awp_loopW (fun (v : (List Var) × Nat) (σ : St) => ast_head_L2 v.1 v.2 = some o126 ∧ v.1 = a0.Vars.drop v.2 ∧ σ.env 52 = .cell (sC a0.Vars) ∧ σ.env 53 = iV .i64 ((a0.Vars.length : Nat) : Int) ∧ σ.env 54 = iV .i64 ((v.2 : Nat) : Int) ∧ (σ3.gen + 2) ≤ σ.gen) (fun v => v.1.length) _ (Gh.refl _) (a0.Vars, 0) ⟨e125, by simp, pv F3, pv F3, pv F3, pg⟩ fun v σ12 hp L127 hL128 => ?_
        obtain ⟨q130, k118⟩ := v
        dsimp only at hp hL128
        obtain ⟨e125, hd129, h11_52, h11_53, h11_54, n11_g⟩ := hp
        rcases q130 with _ | ⟨x135, q131⟩
        · have hlt132 := drop_end hd129
          rw [ast_head_L2] at e125; try dsimp only at e125
          have F4 := an h11_52 (an h11_53 h11_54)
          refine goR F4 ?_
          refine condK_f (by simp [ltI]; omega) ?_
          obtain rfl := sj e125
          try dsimp only at e107
          exact hK109 () _ _ (Gh.refl _) ⟨e107, pg⟩
        · obtain ⟨hx134, hlt132, hd136⟩ := drop_next hd129
          have ew133 := wrap_succ hlt132 (hb1).len
          rw [ast_head_L2] at e125; try dsimp only at e125
          have F5 := an h11_52 (an h11_53 (an h11_54 (an hlt132 ew133)))
          refine goR F5 ?_
          refine condK_t (by simp [ltI]; omega) ?_
          have f137 : partCV Tryd.prog 69 (encL a0.Vars) (k118 * 2) = some (.agg (eA x135)) := partCV_enc hx134 (f := 0) (by simp)
          have F6 := an F5 f137
          refine goG F6 F6 ?_
          revert e125; refine cS F6 ?_ ?_ <;> intro h138 e125
          · refine goG F6 F6 ?_
            obtain rfl := sj e125
            try dsimp only at e107
            obtain rfl := sj e107
            try dsimp only at hs
            refine hX110 _ _ (by simp) ?_
            refine goG F6 F6 ?_
            obtain rfl := sj hs
            exact hQ _ _ (rg F6 (Gh.refl _))
          · refine goG F6 F6 ?_
            exact hL128 (q131, (k118 + 1)) _ _ (Gh.refl _) ⟨e125, hd136, pv F6, pv F6, pv F6, pg⟩ (by simp)
      · obtain ⟨e107, n10_g⟩ := hp
        obtain rfl := sj e107
        try dsimp only at hs
        refine goG f0 f0 ?_
        obtain rfl := sj hs
        exact hQ _ _ (rg f0 (Gh.refl _))
end Go.Dc
end
section
set_option linter.all false
namespace Go.Dc
open Go Go.Hw Go.Proofs
set_option maxRecDepth 100000
def ast_proc_L1 (fuelN : Nat) (a1 : Arr 5 (List ByteArray)) (y6 : (List ByteArray)) : List (Int × Stmt) → Int → Option (Int ⊕ (Int × Int))
  | [], i30 => some (.inl i30)
  | y20 :: q43, i30 => Option.bind (ast_checker_stmt fuelN ({ objects := a1, locals := y6 } : AstChecker) y20.1 y20.2) (fun y44 => cond (!(eqI y44 0)) (some (.inr (y44, i30))) (ast_proc_L1 fuelN a1 y6 q43 (IntKind.i64.wrap (i30 + 1))))

def ast_proc (fuelN : Nat) (a0 : Proc) (a1 : Arr 5 (List ByteArray)) : Option (Int × Int) :=
  guardO (orB (!(!(eqS a0.Param (⟨#[]⟩ : ByteArray)))) ((ast_validName a0.Param).isSome)) (cond (andB (!(eqS a0.Param (⟨#[]⟩ : ByteArray))) (!((ast_validName a0.Param).getD default))) (some (6, (-1))) (Option.bind (ast_Count a0.Body) (fun y3 => cond (ltI 128 y3) (some (4, (-1))) (Option.bind (ast_Locals a0) (fun y6 => Option.bind (α := Int) (cond (!(eqS a0.Param (⟨#[]⟩ : ByteArray))) (some (IntKind.i64.wrap (((y6.length : Nat) : Int) - 1))) (some (((y6.length : Nat) : Int)))) (fun i9 => cond (ltI 4 i9) (some (4, (-1))) (Option.bind (ast_stmts a0.Body 1) (fun y16 => Option.bind (it_stmts y16.1 y16.2) (fun xs18 => Option.bind (ast_proc_L1 fuelN a1 y6 xs18 0) (fun o => match o with | .inl i35 => some (0, (-1)) | .inr r47 => some r47))))))))))

set_option maxHeartbeats 2000000 in
theorem at_ast_proc {fuelN : Nat} {a0 : Proc} {a1 : Arr 5 (List ByteArray)} {r : Int × Int} (hs : ast_proc fuelN a0 a1 = some r) : At Tryd.prog 70 [.agg (eA a0), .agg [sC (a1.f 0), sC (a1.f 1), sC (a1.f 2), sC (a1.f 3), sC (a1.f 4)]] (.tup [iV .i64 r.1, iV .i64 r.2]) := by
  refine at_bound (by kernel_rfl) fun hb => ?_
  have hb1 : LenOk (.sl a0.Body.length (encL a0.Body)) := lkc hb
  have hb2 : LenOk (.sl (a1.f 0).length (encL (a1.f 0))) := lkc hb
  have hb3 : LenOk (.sl (a1.f 1).length (encL (a1.f 1))) := lkc hb
  have hb4 : LenOk (.sl (a1.f 2).length (encL (a1.f 2))) := lkc hb
  have hb5 : LenOk (.sl (a1.f 3).length (encL (a1.f 3))) := lkc hb
  have hb6 : LenOk (.sl (a1.f 4).length (encL (a1.f 4))) := lkc hb
  refine at_code mixed Tryd.func70 (by kernel_rfl) rfl (by kernel_rfl) rfl fun Q hQ => ?_
  rw [ast_proc] at hs
  refine goG f0 f0 ?_
  obtain ⟨g1, hs⟩ := guardO_some hs
  refine gsel_call (fun hg => at_ast_validName (under_call g1 hg)) (fun hg => by (try simp at hg); (first | simp [hg, id]); try rfl) (fun hg => by (try simp at hg); simp [hg, id]) (by simp) ?_
  refine goG f0 f0 ?_
  revert hs; refine cS f0 ?_ ?_ <;> intro h2 hs
  · refine goG f0 f0 ?_
    obtain rfl := sj hs
    exact hQ _ _ (rg f0 (Gh.refl _))
  · refine goG f0 f0 ?_
    revert hs; refine bK fun y3 hx4 hs => ?_
    refine cP f0 (at_ast_Count hx4) ?_
    refine goG f0 f0 ?_
    revert hs; refine cS f0 ?_ ?_ <;> intro h5 hs
    · refine goG f0 f0 ?_
      obtain rfl := sj hs
      exact hQ _ _ (rg f0 (Gh.refl _))
    · refine goG f0 f0 ?_
      revert hs; refine bK fun y6 hx7 hs => ?_
      refine cP f0 (at_ast_Locals hx7) ?_
      refine goG2 f0 f0 ?_
      revert hs; refine bK fun o11 e10 hs => ?_
      refine awp_cutK (fun (v : Int) (σ : St) => some (v) = some o11 ∧ σ.env 2 = .cell (.ref (.o 1 0 0) 0) ∧ σ.env 3 = .cell (.ref (.o 1 1 0) 0) ∧ σ.env 4 = .cell (.ref (.o 1 2 0) 0) ∧ σ.env 5 = .cell (.ref (.o 1 3 0) 0) ∧ σ.env 6 = .cell (sC y6) ∧ σ.env 7 = iV .i64 v ∧ σ.hp (.o 1 0 0) = some (.cells (eA a0)) ∧ σ.hp (.o 1 1 0) = some (.cells [sC (a1.f 0), sC (a1.f 1), sC (a1.f 2), sC (a1.f 3), sC (a1.f 4)]) ∧ σ.hp (.o 1 2 0) = some (.cells [nC 0]) ∧ σ.hp (.o 1 3 0) = some (.cells [nC 0]) ∧ 6 ≤ σ.gen) (by rfl) (fun Q hK12 hX13 => ?_) (fun i9 σ1 hp => ?_)
      · refine goG f0 f0 ?_
        revert e10; refine cS f0 ?_ ?_ <;> intro h14 e10
        · refine goG f0 f0 ?_
          exact hK12 (IntKind.i64.wrap (((y6.length : Nat) : Int) - 1)) _ _ (Gh.refl _) ⟨e10, pv f0, pv f0, pv f0, pv f0, pv f0, pv f0, pv f0, pv f0, pv f0, pv f0, pg⟩
        · refine goG f0 f0 ?_
          exact hK12 ((y6.length : Nat) : Int) _ _ (Gh.refl _) ⟨e10, pv f0, pv f0, pv f0, pv f0, pv f0, pv f0, pv f0, pv f0, pv f0, pv f0, pg⟩
      · obtain ⟨e10, h2_2, h2_3, h2_4, h2_5, h2_6, h2_7, g2_0, g2_1, g2_2, g2_3, n2_g⟩ := hp
        obtain rfl := sj e10
        try dsimp only at hs
        have n2_0 : ¬ (σ1.gen = 0) := by omega
        have F1 := an h2_2 (an h2_3 (an h2_4 (an h2_5 (an h2_6 (an h2_7 (an g2_0 (an g2_1 (an g2_2 (an g2_3 n2_0)))))))))
        refine goG F1 F1 ?_
        revert hs; refine cS F1 ?_ ?_ <;> intro h15 hs
        · refine goG F1 F1 ?_
          obtain rfl := sj hs
          exact hQ _ _ (rg F1 (Gh.refl _))
        · refine goG F1 F1 ?_
          revert hs; refine bK fun y16 hx17 hs => ?_
          refine cP F1 (at_ast_stmts hx17) ?_
          refine goG F1 F1 ?_
          revert hs; refine bK fun xs18 hx19 hs => ?_
          revert hs; refine bK fun o37 e36 hs => ?_
          refine awp_range (gf := 124) (cs := [.bx [.sl y16.1.length (encL y16.1)], .bx [.c (.int .i64 y16.2)]]) (xs18.map (fun (y : Int × Stmt) => ([.cell (.c (.int .i64 y.1)), .agg [.c (.int .i64 y.2.Kind), .c (.string y.2.Name), .c (.string y.2.Obj), .c (.string y.2.Other), .c (.int .i64 y.2.Fn), .c (.int .i64 y.2.Order), .sl y.2.Exprs.length (encL y.2.Exprs), .sl y.2.Body.length (encL y.2.Body), .sl y.2.Else.length (encL y.2.Else)]] : List EV))) (fun (k38 : Nat) (hp39 : Go.Hw.Id → Option Blk) (gen40 : Nat) => ∃ v : Int, ast_proc_L1 fuelN a1 y6 (xs18.drop k38) v = some o37 ∧ hp39 (.o 1 2 0) = some (.cells [nC 0]) ∧ hp39 (.o 1 3 0) = some (.cells [nC 0]) ∧ hp39 (.o (σ1.gen + 2) 4 0) = some (.cells [.ref (.o (σ1.gen + 2) 3 0) 0]) ∧ hp39 (.o (σ1.gen + 3) 0 0) = some (.cells [nC v]) ∧ hp39 (.o (σ1.gen + 2) 3 0) = some (.cells [sC (a1.f 0), sC (a1.f 1), sC (a1.f 2), sC (a1.f 3), sC (a1.f 4), sC y6]) ∧ (σ1.gen + 4) ≤ gen40) _ (Gh.refl _) (pv F1) (seq_stmtsA hx19) (fun x hx => by obtain ⟨y, _, rfl⟩ := List.mem_map.1 hx; rfl) ⟨0, e36, pv F1, pv F1, pv F1, pv F1, pv F1, pg⟩ (fun k38 x hp39 gen40 hx hI => ?_) (fun hp39 gen40 hI => ?_)
          · obtain ⟨i30, e36, g3_0, g3_1, g3_2, g3_3, g3_4, n3_g⟩ := hI
            try dsimp only at e36 g3_0 g3_1 g3_2 g3_3 g3_4 n3_g
            obtain ⟨y20, hy41, rfl⟩ := map_get hx
            rw [drop_at hy41, ast_proc_L1] at e36; try dsimp only at e36
            have n3_0 : ¬ (gen40 = 0) := by omega
            have n3_σ1gen_0 : ¬ (gen40 = σ1.gen) := by omega
            have n3_σ1gen_0' : ¬ (σ1.gen = gen40) := by omega
            have n3_σ1gen_1 : ¬ (gen40 = σ1.gen + 1) := by omega
            have n3_σ1gen_1' : ¬ (σ1.gen + 1 = gen40) := by omega
            have n3_σ1gen_2 : ¬ (gen40 = σ1.gen + 2) := by omega
            have n3_σ1gen_2' : ¬ (σ1.gen + 2 = gen40) := by omega
            have n3_σ1gen_3 : ¬ (gen40 = σ1.gen + 3) := by omega
            have n3_σ1gen_3' : ¬ (σ1.gen + 3 = gen40) := by omega
            have n3_σ1gen_a : ∀ j, ¬ (gen40 + j = σ1.gen) := fun j => by omega
            have n3_σ1gen_a' : ∀ j, ¬ (σ1.gen = gen40 + j) := fun j => by omega
            have F2 := an h2_2 (an h2_3 (an h2_4 (an h2_5 (an h2_6 (an h2_7 (an n2_0 (an g3_0 (an g3_1 (an g3_2 (an g3_3 (an g3_4 (an n3_0 (an n3_σ1gen_0 (an n3_σ1gen_0' (an n3_σ1gen_1 (an n3_σ1gen_1' (an n3_σ1gen_2 (an n3_σ1gen_2' (an n3_σ1gen_3 (an n3_σ1gen_3' (an n3_σ1gen_a n3_σ1gen_a')))))))))))))))))))))
            refine goG F2 F2 ?_
            revert e36; refine bK fun y44 hx45 e36 => ?_
            refine cA F2 (at_ast_checker_stmt hx45) ?_
            refine goG F2 F2 ?_
            revert e36; refine cS F2 ?_ ?_ <;> intro h46 e36
            · refine goE F2 F2 ?_
              obtain rfl := sj e36
              try dsimp only at hs
              refine rPost_ret ?_
              refine goE F2 F2 ?_
              obtain rfl := sj hs
              exact hQ _ _ (rg F2 (Gh.refl _))
            · refine goG F2 F2 ?_
              refine rPost_gh (Gh.refl _) ⟨IntKind.i64.wrap (i30 + 1), e36, pv F2, pv F2, pv F2, pv F2, pv F2, pg⟩
          · obtain ⟨i30, e36, g3_0, g3_1, g3_2, g3_3, g3_4, n3_g⟩ := hI
            try dsimp only at e36 g3_0 g3_1 g3_2 g3_3 g3_4 n3_g
            rw [show xs18.drop (xs18.map (fun (y : Int × Stmt) => ([.cell (.c (.int .i64 y.1)), .agg [.c (.int .i64 y.2.Kind), .c (.string y.2.Name), .c (.string y.2.Obj), .c (.string y.2.Other), .c (.int .i64 y.2.Fn), .c (.int .i64 y.2.Order), .sl y.2.Exprs.length (encL y.2.Exprs), .sl y.2.Body.length (encL y.2.Body), .sl y.2.Else.length (encL y.2.Else)]] : List EV))).length = [] by simp, ast_proc_L1] at e36; try dsimp only at e36
            have n3_0 : ¬ (gen40 = 0) := by omega
            have n3_σ1gen_0 : ¬ (gen40 = σ1.gen) := by omega
            have n3_σ1gen_0' : ¬ (σ1.gen = gen40) := by omega
            have n3_σ1gen_1 : ¬ (gen40 = σ1.gen + 1) := by omega
            have n3_σ1gen_1' : ¬ (σ1.gen + 1 = gen40) := by omega
            have n3_σ1gen_2 : ¬ (gen40 = σ1.gen + 2) := by omega
            have n3_σ1gen_2' : ¬ (σ1.gen + 2 = gen40) := by omega
            have n3_σ1gen_3 : ¬ (gen40 = σ1.gen + 3) := by omega
            have n3_σ1gen_3' : ¬ (σ1.gen + 3 = gen40) := by omega
            have n3_σ1gen_a : ∀ j, ¬ (gen40 + j = σ1.gen) := fun j => by omega
            have n3_σ1gen_a' : ∀ j, ¬ (σ1.gen = gen40 + j) := fun j => by omega
            obtain rfl := sj e36
            try dsimp only at hs
            have F3 := an h2_2 (an h2_3 (an h2_4 (an h2_5 (an h2_6 (an h2_7 (an n2_0 (an g3_0 (an g3_1 (an g3_2 (an g3_3 (an g3_4 (an n3_0 (an n3_σ1gen_0 (an n3_σ1gen_0' (an n3_σ1gen_1 (an n3_σ1gen_1' (an n3_σ1gen_2 (an n3_σ1gen_2' (an n3_σ1gen_3 (an n3_σ1gen_3' (an n3_σ1gen_a n3_σ1gen_a')))))))))))))))))))))
            refine goG F3 F3 ?_
            obtain rfl := sj hs
            exact hQ _ _ (rg F3 (Gh.refl _))
end Go.Dc
end
section
set_option linter.all false
namespace Go.Dc
open Go Go.Hw Go.Proofs
set_option maxRecDepth 100000
def ast_Check_L1 (fuelN : Nat) (y1 : (Arr 5 (List ByteArray))) : List Proc → Nat → Option (Unit ⊕ (Int × Int × Int))
  | [], k54 => some (.inl ())
  | x73 :: q69, k54 => Option.bind (ast_proc fuelN x73 y1) (fun y76 => cond (!(eqI y76.1 0)) (some (.inr (y76.1, ((k54 : Nat) : Int), y76.2))) (ast_Check_L1 fuelN y1 q69 (k54 + 1)))

def ast_Check_L2 (y1 : (Arr 5 (List ByteArray))) : List Launch → Nat → Option (Unit ⊕ (Int × Int × Int))
  | [], k133 => some (.inl ())
  | x153 :: q149, k133 => Option.bind (slices_Contains_string (y1.f 4) x153.Proc) (fun y156 => cond (!y156) (some (.inr (11, (-1), (-1)))) (cond (orB (ltI x153.Arg (-2147483648)) (ltI 2147483647 x153.Arg)) (some (.inr (2, (-1), (-1)))) (ast_Check_L2 y1 q149 (k133 + 1))))

def ast_Check (fuelN : Nat) (a0 : UnitT) : Option (Int × Int × Int) :=
  Option.bind (ast_objects a0) (fun y1 => Option.bind (ast_head fuelN a0 y1) (fun y3 => cond (!(eqI y3.1 0)) (some (y3.1, y3.2, (-1))) (Option.bind (α := Unit ⊕ (Int × Int × Int)) (Option.bind (ast_Check_L1 fuelN y1 a0.Procs 0) (fun o => match o with | .inl _ => some (.inl ()) | .inr r79 => some (.inr r79))) (fun o => match o with | .inl _ => cond (orB (ltI ((a0.Threads.length : Nat) : Int) 1) (ltI 8 ((a0.Threads.length : Nat) : Int))) (some (4, (-1), (-1))) (Option.bind (α := Unit ⊕ (Int × Int × Int)) (Option.bind (ast_Check_L2 y1 a0.Threads 0) (fun o => match o with | .inl _ => some (.inl ()) | .inr r160 => some (.inr r160))) (fun o => match o with | .inl _ => some (0, (-1), (-1)) | .inr r161 => some r161)) | .inr r162 => some r162))))

set_option maxHeartbeats 2000000 in
theorem at_ast_Check {fuelN : Nat} {a0 : UnitT} {r : Int × Int × Int} (hs : ast_Check fuelN a0 = some r) : At Tryd.prog 28 [.agg (eA a0)] (.tup [iV .i64 r.1, iV .i64 r.2.1, iV .i64 r.2.2]) := by
  refine at_bound (by kernel_rfl) fun hb => ?_
  have hb1 : LenOk (.sl a0.Vars.length (encL a0.Vars)) := lkc hb
  have hb2 : LenOk (.sl a0.Mutexes.length (encL a0.Mutexes)) := lkc hb
  have hb3 : LenOk (.sl a0.Conds.length (encL a0.Conds)) := lkc hb
  have hb4 : LenOk (.sl a0.Procs.length (encL a0.Procs)) := lkc hb
  have hb5 : LenOk (.sl a0.Threads.length (encL a0.Threads)) := lkc hb
  refine at_code mixed Tryd.func28 (by kernel_rfl) rfl (by kernel_rfl) rfl fun Q hQ => ?_
  rw [ast_Check] at hs
  refine goR f0 ?_
  revert hs; refine bK fun y1 hx2 hs => ?_
  refine cP f0 (at_ast_objects hx2) ?_
  refine goR f0 ?_
  revert hs; refine bK fun y3 hx4 hs => ?_
  refine cP f0 (at_ast_head hx4) ?_
  refine goR f0 ?_
  revert hs; refine cS f0 ?_ ?_ <;> intro h5 hs
  · refine goR f0 ?_
    obtain rfl := sj hs
    exact hQ _ _ (rg f0 (Gh.refl _))
  · refine goR2 f0 ?_
    revert hs; refine bK fun o42 e41 hs => ?_
    refine awp_cutK (fun (v : Unit) (σ : St) => some (.inl v) = some o42 ∧ σ.env 1 = .cell (.ref (.o 1 0 0) 0) ∧ σ.env 5 = .cell (.ref (.o 2 2 0) 0) ∧ σ.hp (.o 1 0 0) = some (.cells (eA a0)) ∧ σ.hp (.o 2 2 0) = some (.cells [sC (y1.f 0), sC (y1.f 1), sC (y1.f 2), sC (y1.f 3), sC (y1.f 4)]) ∧ 5 ≤ σ.gen) (by rfl) (fun Q hK43 hX44 => ?_) (fun v σ3 hp => ?_)
    · refine goR f0 ?_
      revert e41; refine bK fun o64 e63 e41 => ?_
      refine awp_loopW (fun (v : (List Proc) × Nat) (σ : St) => ast_Check_L1 fuelN y1 v.1 v.2 = some o64 ∧ v.1 = a0.Procs.drop v.2 ∧ σ.env 1 = .cell (.ref (.o 1 0 0) 0) ∧ σ.env 5 = .cell (.ref (.o 2 2 0) 0) ∧ σ.env 27 = .cell (sC a0.Procs) ∧ σ.env 28 = iV .i64 ((a0.Procs.length : Nat) : Int) ∧ σ.env 29 = iV .i64 ((v.2 : Nat) : Int) ∧ σ.hp (.o 1 0 0) = some (.cells (eA a0)) ∧ σ.hp (.o 2 2 0) = some (.cells [sC (y1.f 0), sC (y1.f 1), sC (y1.f 2), sC (y1.f 3), sC (y1.f 4)]) ∧ 5 ≤ σ.gen) (fun v => v.1.length) _ (Gh.refl _) (a0.Procs, 0) ⟨e63, by simp, pv f0, pv f0, pv f0, pv f0, pv f0, pv f0, pv f0, pg⟩ fun v σ6 hp L65 hL66 => ?_
      obtain ⟨q68, k54⟩ := v
      dsimp only at hp hL66
      obtain ⟨e63, hd67, h5_1, h5_5, h5_27, h5_28, h5_29, g5_0, g5_1, n5_g⟩ := hp
      have n5_0 : ¬ (σ6.gen = 0) := by omega
      have n5_1 : ¬ (σ6.gen = 1) := by omega
      rcases q68 with _ | ⟨x73, q69⟩
      · have hlt70 := drop_end hd67
        rw [ast_Check_L1] at e63; try dsimp only at e63
        have F1 := an h5_1 (an h5_5 (an h5_27 (an h5_28 (an h5_29 (an g5_0 (an g5_1 (an n5_0 n5_1)))))))
        refine goR F1 ?_
        refine condK_f (by simp [ltI]; omega) ?_
        obtain rfl := sj e63
        try dsimp only at e41
        exact hK43 () _ _ (Gh.refl _) ⟨e41, pv F1, pv F1, pv F1, pv F1, pg⟩
      · obtain ⟨hx72, hlt70, hd74⟩ := drop_next hd67
        have ew71 := wrap_succ hlt70 (hb4).len
        rw [ast_Check_L1] at e63; try dsimp only at e63
        have F2 := an h5_1 (an h5_5 (an h5_27 (an h5_28 (an h5_29 (an g5_0 (an g5_1 (an n5_0 (an n5_1 (an hlt70 ew71)))))))))
        refine goR F2 ?_
        refine condK_t (by simp [ltI]; omega) ?_
        have f75 : partCV Tryd.prog 57 (encL a0.Procs) (k54 * 3) = some (.agg (eA x73)) := partCV_enc hx72 (f := 0) (by simp)
        have F3 := an F2 f75
        refine goR F3 ?_
        revert e63; refine bK fun y76 hx77 e63 => ?_
        refine cP F3 (at_ast_proc hx77) ?_
        refine goR F3 ?_
        revert e63; refine cS F3 ?_ ?_ <;> intro h78 e63
        · refine goR F3 ?_
          obtain rfl := sj e63
          try dsimp only at e41
          obtain rfl := sj e41
          try dsimp only at hs
          refine hX44 _ _ (by simp) ?_
          refine goR F3 ?_
          obtain rfl := sj hs
          exact hQ _ _ (rg F3 (Gh.refl _))
        · refine goR F3 ?_
          exact hL66 (q69, (k54 + 1)) _ _ (Gh.refl _) ⟨e63, hd74, pv F3, pv F3, pv F3, pv F3, pv F3, pv F3, pv F3, pg⟩ (by simp)
    · obtain ⟨e41, h4_1, h4_5, g4_0, g4_1, n4_g⟩ := hp
      obtain rfl := sj e41
      try dsimp only at hs
      have n4_0 : ¬ (σ3.gen = 0) := by omega
      have n4_1 : ¬ (σ3.gen = 1) := by omega
      have F4 := an h4_1 (an h4_5 (an g4_0 (an g4_1 (an n4_0 n4_1))))
      refine goG F4 F4 ?_
      revert hs; refine cS F4 ?_ ?_ <;> intro h80 hs
      · refine goG F4 F4 ?_
        obtain rfl := sj hs
        exact hQ _ _ (rg F4 (Gh.refl _))
      · refine goG2 F4 F4 ?_
        revert hs; refine bK fun o120 e119 hs => ?_
        refine awp_cutK (fun (v : Unit) (σ : St) => some (.inl v) = some o120 ∧ (σ3.gen + 2) ≤ σ.gen) (by rfl) (fun Q hK121 hX122 => ?_) (fun v σ9 hp => ?_)
        · refine goG F4 F4 ?_
          revert e119; refine bK fun o144 e143 e119 => ?_
          refine awp_loopW (fun (v : (List Launch) × Nat) (σ : St) => ast_Check_L2 y1 v.1 v.2 = some o144 ∧ v.1 = a0.Threads.drop v.2 ∧ σ.env 5 = .cell (.ref (.o 2 2 0) 0) ∧ σ.env 57 = .cell (sC a0.Threads) ∧ σ.env 58 = iV .i64 ((a0.Threads.length : Nat) : Int) ∧ σ.env 59 = iV .i64 ((v.2 : Nat) : Int) ∧ σ.hp (.o 2 2 0) = some (.cells [sC (y1.f 0), sC (y1.f 1), sC (y1.f 2), sC (y1.f 3), sC (y1.f 4)]) ∧ (σ3.gen + 2) ≤ σ.gen) (fun v => v.1.length) _ (Gh.refl _) (a0.Threads, 0) ⟨e143, by simp, pv F4, pv F4, pv F4, pv F4, pv F4, pg⟩ fun v σ12 hp L145 hL146 => ?_
          obtain ⟨q148, k133⟩ := v
          dsimp only at hp hL146
          obtain ⟨e143, hd147, h11_5, h11_57, h11_58, h11_59, g11_0, n11_g⟩ := hp
          have n11_0 : ¬ (σ12.gen = 0) := by omega
          have n11_1 : ¬ (σ12.gen = 1) := by omega
          rcases q148 with _ | ⟨x153, q149⟩
          · have hlt150 := drop_end hd147
            rw [ast_Check_L2] at e143; try dsimp only at e143
            have F5 := an h11_5 (an h11_57 (an h11_58 (an h11_59 (an g11_0 (an n11_0 n11_1)))))
            refine goR F5 ?_
            refine condK_f (by simp [ltI]; omega) ?_
            obtain rfl := sj e143
            try dsimp only at e119
            exact hK121 () _ _ (Gh.refl _) ⟨e119, pg⟩
          · obtain ⟨hx152, hlt150, hd154⟩ := drop_next hd147
            have ew151 := wrap_succ hlt150 (hb5).len
            rw [ast_Check_L2] at e143; try dsimp only at e143
            have F6 := an h11_5 (an h11_57 (an h11_58 (an h11_59 (an g11_0 (an n11_0 (an n11_1 (an hlt150 ew151)))))))
            refine goR F6 ?_
            refine condK_t (by simp [ltI]; omega) ?_
            have f155 : partCV Tryd.prog 108 (encL a0.Threads) (k133 * 2) = some (.agg (eA x153)) := partCV_enc hx152 (f := 0) (by simp)
            have F7 := an F6 f155
            refine goR F7 ?_
            revert e143; refine bK fun y156 hx157 e143 => ?_
            refine cP F7 (at_slices_Contains_string hx157) ?_
            refine goR F7 ?_
            revert e143; refine cS F7 ?_ ?_ <;> intro h158 e143
            · refine goR F7 ?_
              obtain rfl := sj e143
              try dsimp only at e119
              obtain rfl := sj e119
              try dsimp only at hs
              refine hX122 _ _ (by simp) ?_
              refine goR F7 ?_
              obtain rfl := sj hs
              exact hQ _ _ (rg F7 (Gh.refl _))
            · refine goG F7 F7 ?_
              revert e143; refine cS F7 ?_ ?_ <;> intro h159 e143
              · refine goG F7 F7 ?_
                obtain rfl := sj e143
                try dsimp only at e119
                obtain rfl := sj e119
                try dsimp only at hs
                refine hX122 _ _ (by simp) ?_
                refine goG F7 F7 ?_
                obtain rfl := sj hs
                exact hQ _ _ (rg F7 (Gh.refl _))
              · refine goG F7 F7 ?_
                exact hL146 (q149, (k133 + 1)) _ _ (Gh.refl _) ⟨e143, hd154, pv F7, pv F7, pv F7, pv F7, pv F7, pg⟩ (by simp)
        · obtain ⟨e119, n10_g⟩ := hp
          obtain rfl := sj e119
          try dsimp only at hs
          refine goG f0 f0 ?_
          obtain rfl := sj hs
          exact hQ _ _ (rg f0 (Gh.refl _))
end Go.Dc
end
section
set_option linter.all false
namespace Go.Dc
open Go Go.Hw Go.Proofs
set_option maxRecDepth 100000
def r16_list_L1 (a0 : List ByteArray) : List ByteArray → Nat → Option (Unit ⊕ (Int × Int))
  | [], k101 => some (.inl ())
  | x133 :: q129, k101 => Option.bind (r16_Name x133) (fun y136 => cond (!y136) (some (.inr (6, ((k101 : Nat) : Int)))) (guardO (slB 0 ((k101 : Nat) : Int) a0.length) (Option.bind (some (subL a0 0 ((k101 : Nat) : Int))) (fun l146 => Option.bind (r16_in l146 x133) (fun y149 => cond y149 (some (.inr (7, ((k101 : Nat) : Int)))) (r16_list_L1 a0 q129 (k101 + 1)))))))

def r16_list (a0 : List ByteArray) : Option (Int × Int) :=
  Option.bind (α := Unit ⊕ (Int × Int)) (Option.bind (r16_list_L1 a0 a0 0) (fun o => match o with | .inl _ => some (.inl ()) | .inr r152 => some (.inr r152))) (fun o => match o with | .inl _ => some (0, (-1)) | .inr r153 => some r153)

end Go.Dc
end
section
set_option linter.all false
namespace Go.Dc
open Go Go.Hw Go.Proofs
set_option maxRecDepth 100000
def r16_C_block_L1 (fuelN : Nat) (a2 : Int) (rF123z : R16C → (List Stmt) → Int → Option (Int × R16C)) : List Stmt → Nat → (List ByteArray) → (List Var) → (List ByteArray) → (List ByteArray) → (List Proc) → (List Launch) → (List ByteArray) → (List ByteArray) → Int → Option (((List ByteArray) × (List Var) × (List ByteArray) × (List ByteArray) × (List Proc) × (List Launch) × (List ByteArray) × (List ByteArray) × Int) ⊕ (Int × R16C))
  | [], k142, l143, l144, l145, l146, l147, l148, l149, l150, i151 => some (.inl (l143, l144, l145, l146, l147, l148, l149, l150, i151))
  | x187 :: q183, k142, l143, l144, l145, l146, l147, l148, l149, l150, i151 => Option.bind (r16_C_statement fuelN ({ Vars := l143, U := ({ Vars := l144, Mutexes := l145, Conds := l146, Procs := l147, Threads := l148 } : UnitT), Procs := l149, Locals := l150, At := i151 } : R16C) x187 a2) (fun y190 => cond (!(eqI y190 0)) (some (.inr (y190, ({ Vars := l143, U := ({ Vars := l144, Mutexes := l145, Conds := l146, Procs := l147, Threads := l148 } : UnitT), Procs := l149, Locals := l150, At := i151 } : R16C)))) (Option.bind (rF123z ({ Vars := l143, U := ({ Vars := l144, Mutexes := l145, Conds := l146, Procs := l147, Threads := l148 } : UnitT), Procs := l149, Locals := l150, At := IntKind.i64.wrap (i151 + 1) } : R16C) x187.Body (IntKind.i64.wrap (a2 + 1))) (fun y194 => cond (!(eqI y194.1 0)) (some (.inr (y194.1, y194.2))) (Option.bind (rF123z y194.2 x187.Else (IntKind.i64.wrap (a2 + 1))) (fun y198 => cond (!(eqI y198.1 0)) (some (.inr (y198.1, y198.2))) (r16_C_block_L1 fuelN a2 rF123z q183 (k142 + 1) y198.2.Vars y198.2.U.Vars y198.2.U.Mutexes y198.2.U.Conds y198.2.U.Procs y198.2.U.Threads y198.2.Procs y198.2.Locals y198.2.At))))))

def r16_C_block_B (rF123z : R16C → (List Stmt) → Int → Option (Int × R16C)) (fuelN : Nat) (a0 : R16C) (a1 : List Stmt) (a2 : Int) : Option (Int × R16C) :=
  Option.bind (α := ((List ByteArray) × (List Var) × (List ByteArray) × (List ByteArray) × (List Proc) × (List Launch) × (List ByteArray) × (List ByteArray) × Int) ⊕ (Int × R16C)) (Option.bind (r16_C_block_L1 fuelN a2 rF123z a1 0 a0.Vars a0.U.Vars a0.U.Mutexes a0.U.Conds a0.U.Procs a0.U.Threads a0.Procs a0.Locals a0.At) (fun o => match o with | .inl (l168, l169, l170, l171, l172, l173, l174, l175, i176) => some (.inl (l168, l169, l170, l171, l172, l173, l174, l175, i176)) | .inr r201 => some (.inr r201))) (fun o => match o with | .inl (l95, l96, l97, l98, l99, l100, l101, l102, i103) => some (0, ({ Vars := l95, U := ({ Vars := l96, Mutexes := l97, Conds := l98, Procs := l99, Threads := l100 } : UnitT), Procs := l101, Locals := l102, At := i103 } : R16C)) | .inr r202 => some r202)

def r16_C_block : Nat → R16C → (List Stmt) → Int → Option (Int × R16C)
  | 0 => fun _ _ _ => none
  | fuelN + 1 => fun a0 a1 a2 => r16_C_block_B (r16_C_block fuelN) fuelN a0 a1 a2

end Go.Dc
end
section
set_option linter.all false
namespace Go.Dc
open Go Go.Hw Go.Proofs
set_option maxRecDepth 100000

def r16_C_proc (fuelN : Nat) (a0 : R16C) (a1 : Proc) : Option (Int × Int × R16C) :=
  guardO (orB (!(!(eqS a1.Param (⟨#[]⟩ : ByteArray)))) ((r16_Name a1.Param).isSome)) (cond (andB (!(eqS a1.Param (⟨#[]⟩ : ByteArray))) (!((r16_Name a1.Param).getD default))) (some (6, (-1), a0)) (Option.bind (r16_Count fuelN a1.Body) (fun y3 => cond (ltI 128 y3) (some (4, (-1), a0)) (Option.bind (r16_Locals fuelN a1) (fun y6 => Option.bind (α := Int) (cond (!(eqS a1.Param (⟨#[]⟩ : ByteArray))) (some (IntKind.i64.wrap (4 + 1))) (some (4))) (fun i9 => cond (ltI i9 ((y6.length : Nat) : Int)) (some (4, (-1), { a0 with Locals := y6, At := 0 })) (Option.bind (r16_C_block fuelN ({ a0 with Locals := y6, At := 0 }) a1.Body 1) (fun y16 => cond (!(eqI y16.1 0)) (some (y16.1, y16.2.At, y16.2)) (some (0, (-1), y16.2))))))))))

end Go.Dc
end
section
set_option linter.all false
namespace Go.Dc
open Go Go.Hw Go.Proofs
set_option maxRecDepth 100000
def r16_Check_L1 : List Var → Nat → (List ByteArray) → Option (List ByteArray)
  | [], k127, l128 => some (l128)
  | x158 :: q154, k127, l128 => Option.bind (some ([x158.Name])) (fun l167 => guardO (limB 16 (l128.length + l167.length)) (Option.bind (some (l128 ++ l167)) (fun l170 => r16_Check_L1 q154 (k127 + 1) l170)))

def r16_Check_L2 : List Proc → Nat → (List ByteArray) → Option (List ByteArray)
  | [], k298, l299 => some (l299)
  | x329 :: q325, k298, l299 => Option.bind (some ([x329.Name])) (fun l338 => guardO (limB 16 (l299.length + l338.length)) (Option.bind (some (l299 ++ l338)) (fun l341 => r16_Check_L2 q325 (k298 + 1) l341)))

def r16_Check_L3 : List (List ByteArray) → Nat → Option (Unit ⊕ (Int × Int × Int))
  | [], k400 => some (.inl ())
  | x420 :: q416, k400 => Option.bind (r16_list x420) (fun y424 => cond (andB (!(eqI y424.1 0)) (eqI ((k400 : Nat) : Int) 3)) (some (.inr (y424.1, y424.2, (-1)))) (cond (!(eqI y424.1 0)) (some (.inr (y424.1, (-1), (-1)))) (r16_Check_L3 q416 (k400 + 1))))

def r16_Check_L4 : List Var → Nat → Option (Unit ⊕ (Int × Int × Int))
  | [], k478 => some (.inl ())
  | x497 :: q493, k478 => Option.bind (r16_value x497.Init) (fun y500 => cond (!y500) (some (.inr (2, (-1), (-1)))) (r16_Check_L4 q493 (k478 + 1)))

def r16_Check_L5 (fuelN : Nat) : List Proc → Nat → (List ByteArray) → (List Var) → (List ByteArray) → (List ByteArray) → (List Proc) → (List Launch) → (List ByteArray) → (List ByteArray) → Int → Option (((List ByteArray) × (List Var) × (List ByteArray) × (List ByteArray) × (List Proc) × (List Launch) × (List ByteArray) × (List ByteArray) × Int) ⊕ (Int × Int × Int))
  | [], k639, l640, l641, l642, l643, l644, l645, l646, l647, i648 => some (.inl (l640, l641, l642, l643, l644, l645, l646, l647, i648))
  | x676 :: q672, k639, l640, l641, l642, l643, l644, l645, l646, l647, i648 => Option.bind (r16_C_proc fuelN ({ Vars := l640, U := ({ Vars := l641, Mutexes := l642, Conds := l643, Procs := l644, Threads := l645 } : UnitT), Procs := l646, Locals := l647, At := i648 } : R16C) x676) (fun y679 => cond (!(eqI y679.1 0)) (some (.inr (y679.1, ((k639 : Nat) : Int), y679.2.1))) (r16_Check_L5 fuelN q672 (k639 + 1) y679.2.2.Vars y679.2.2.U.Vars y679.2.2.U.Mutexes y679.2.2.U.Conds y679.2.2.U.Procs y679.2.2.U.Threads y679.2.2.Procs y679.2.2.Locals y679.2.2.At))

def r16_Check_L6 (l593 : List ByteArray) : List Launch → Nat → Option (Unit ⊕ (Int × Int × Int))
  | [], k766 => some (.inl ())
  | x794 :: q790, k766 => Option.bind (r16_in l593 x794.Proc) (fun y800 => cond (!y800) (some (.inr (11, (-1), (-1)))) (Option.bind (r16_value x794.Arg) (fun y804 => cond (!y804) (some (.inr (2, (-1), (-1)))) (r16_Check_L6 l593 q790 (k766 + 1)))))

def r16_Check (fuelN : Nat) (a0 : UnitT) : Option (Int × Int × Int) :=
  Option.bind (α := (List ByteArray)) (Option.bind (r16_Check_L1 a0.Vars 0 []) (fun l147 => some (l147))) (fun l84 => Option.bind (α := (List ByteArray)) (Option.bind (r16_Check_L2 a0.Procs 0 []) (fun l318 => some (l318))) (fun l255 => Option.bind (some ([l84, a0.Mutexes, a0.Conds, l255])) (fun l345 => Option.bind (α := Unit ⊕ (Int × Int × Int)) (guardO (lenB l345.length) (Option.bind (r16_Check_L3 l345 0) (fun o => match o with | .inl _ => some (.inl ()) | .inr r428 => some (.inr r428)))) (fun o => match o with | .inl _ => cond (orB (orB (orB (ltI 8 ((a0.Vars.length : Nat) : Int)) (ltI 4 ((a0.Mutexes.length : Nat) : Int))) (ltI 4 ((a0.Conds.length : Nat) : Int))) (ltI 8 ((a0.Procs.length : Nat) : Int))) (some (4, (-1), (-1))) (Option.bind (α := Unit ⊕ (Int × Int × Int)) (Option.bind (r16_Check_L4 a0.Vars 0) (fun o => match o with | .inl _ => some (.inl ()) | .inr r503 => some (.inr r503))) (fun o => match o with | .inl _ => Option.bind (α := ((List ByteArray) × (List Var) × (List ByteArray) × (List ByteArray) × (List Proc) × (List Launch) × (List ByteArray) × (List ByteArray) × Int) ⊕ (Int × Int × Int)) (Option.bind (r16_Check_L5 fuelN a0.Procs 0 l84 a0.Vars a0.Mutexes a0.Conds a0.Procs a0.Threads l255 [] 0) (fun o => match o with | .inl (l657, l658, l659, l660, l661, l662, l663, l664, i665) => some (.inl (l657, l658, l659, l660, l661, l662, l663, l664, i665)) | .inr r682 => some (.inr r682))) (fun o => match o with | .inl (l587, l588, l589, l590, l591, l592, l593, l594, i595) => cond (orB (ltI ((a0.Threads.length : Nat) : Int) 1) (ltI 8 ((a0.Threads.length : Nat) : Int))) (some (4, (-1), (-1))) (Option.bind (α := Unit ⊕ (Int × Int × Int)) (Option.bind (r16_Check_L6 l593 a0.Threads 0) (fun o => match o with | .inl _ => some (.inl ()) | .inr r807 => some (.inr r807))) (fun o => match o with | .inl _ => some (0, (-1), (-1)) | .inr r808 => some r808)) | .inr r809 => some r809) | .inr r810 => some r810)) | .inr r811 => some r811))))

end Go.Dc
end
section
set_option linter.all false
namespace Go.Dc.Pl
open Go Go.Hw Go.Dc
/-! Names. -/
def nmW (l : List ByteArray) (k : Nat) (x : ByteArray) : Option (Int × Int) := if okWord x = false then some (6, (k : Int)) else onlyIf (isIn (l.take k) x) (7, (k : Int))
def badW (l : List ByteArray) : Option (Int × Int) := first (nmW l) l 0
theorem own_names (l : List ByteArray) : ast_names l = some ((badW l).getD (0, -1)) := by
  have h := srch (L := ast_names_L1 l) (nmW l) (fun _ => rfl) l 0 fun j x hx q => by
    have hj := getN_some hx
    rw [Nat.zero_add, ast_names_L1, own_word, Option.bind_some, nmW]
    cases okWord x
    · rfl
    · rw [show slB 0 ((j : Nat) : Int) l.length = true by simp [slB]; omega, guardO_t, Option.bind_some, contains_eq, Option.bind_some, show subL l 0 (j : Int) = l.take j by simp [subL], if_neg (by simp), Bool.not_true, cond_false]
      exact step_only _ _ _
  rw [ast_names, h, badW]
  cases first (nmW l) l 0 <;> rfl
theorem badW_ne {l : List ByteArray} {r : Int × Int} (h : badW l = some r) : r.1 = 6 ∨ r.1 = 7 := by
  obtain ⟨j, x, _, e⟩ := first_some h
  unfold nmW at e
  split at e
  · cases e; exact .inl rfl
  · cases hb : isIn (l.take (0 + j)) x with
    | true => rw [hb] at e; cases e; exact .inr rfl
    | false => rw [hb] at e; cases e
def vnm (u : UnitT) : List ByteArray := u.Vars.map (·.Name)
def pnm (u : UnitT) : List ByteArray := u.Procs.map (·.Name)
def objs (u : UnitT) : Arr 5 (List ByteArray) := Arr.of 5 [[], vnm u, u.Mutexes, u.Conds, pnm u]
theorem lim16' : limB 16 4194304 = true := by simp [limB]
section
variable {u : UnitT} (h : Sm u)
include h
theorem own_objects : ast_objects u = some (objs u) := by
  have e1 := appM (L := fun l a k => ast_objects_L1 l k a) (b := 16) (m := 4194304) (fun v : Var => v.Name) lim16' (fun a k => rfl) (fun x q a k => rfl) u.Vars [] 0 (by have := h.vars; simp; omega)
  have e2 := appM (L := fun l a k => ast_objects_L2 l k a) (b := 16) (m := 4194304) (fun v : Proc => v.Name) lim16' (fun a k => rfl) (fun x q a k => rfl) u.Procs [] 0 (by have := h.procs; simp; omega)
  simp only [List.nil_append] at e1 e2
  rw [ast_objects, e1, e2]; rfl
end
/-- The first error of the declarations. -/
def manyU (u : UnitT) : Bool := decide (8 < u.Vars.length ∨ 4 < u.Mutexes.length ∨ 4 < u.Conds.length ∨ 8 < u.Procs.length)
def headE (u : UnitT) : Option (Int × Int) :=
  match badW (vnm u), badW u.Mutexes, badW u.Conds, badW (pnm u) with
  | some r, _, _, _ => some (r.1, -1)
  | none, some r, _, _ => some (r.1, -1)
  | none, none, some r, _ => some (r.1, -1)
  | none, none, none, some r => some r
  | none, none, none, none => if manyU u = true then some (4, -1) else onlyIf (u.Vars.any fun v => outV v.Init) (2, -1)
theorem headE_ne {u : UnitT} {r : Int × Int} (h : headE u = some r) : r.1 ≠ 0 := by
  have key : ∀ {l : List ByteArray} {q : Int × Int}, badW l = some q → q.1 ≠ 0 := fun e => by rcases badW_ne e with e | e <;> rw [e] <;> decide
  unfold headE at h
  cases h1 : badW (vnm u) with
  | some q => rw [h1] at h; obtain rfl := Option.some.inj h; exact key (q := q) h1
  | none =>
    rw [h1] at h
    cases h2 : badW u.Mutexes with
    | some q => rw [h2] at h; obtain rfl := Option.some.inj h; exact key (q := q) h2
    | none =>
      rw [h2] at h
      cases h3 : badW u.Conds with
      | some q => rw [h3] at h; obtain rfl := Option.some.inj h; exact key (q := q) h3
      | none =>
        rw [h3] at h
        cases h4 : badW (pnm u) with
        | some q => rw [h4] at h; obtain rfl := Option.some.inj h; exact key h4
        | none =>
          rw [h4] at h
          simp only at h
          split at h
          · cases h; simp
          · cases hb : (u.Vars.any fun v => outV v.Init) with
            | true => rw [hb] at h; cases h; simp
            | false => rw [hb] at h; cases h
theorem many_eq (u : UnitT) : orB (orB (orB (ltI 8 ((u.Vars.length : Nat) : Int)) (ltI 4 ((u.Mutexes.length : Nat) : Int))) (ltI 4 ((u.Conds.length : Nat) : Int))) (ltI 8 ((u.Procs.length : Nat) : Int)) = manyU u := by
  simp only [orB_d, ltI_d, manyU, ← Bool.decide_or]; congr 1; apply propext; omega
theorem own_head {N : Nat} (u : UnitT) (hN : 5 ≤ N) : ast_head N u (objs u) = some ((headE u).getD (0, -1)) := by
  obtain ⟨n, rfl⟩ : ∃ n, N = n + 5 := ⟨N - 5, by omega⟩
  have hv := srch (L := ast_head_L2) (fun _ (x : Var) => onlyIf (outV x.Init) (2, -1)) (fun _ => rfl) u.Vars 0 fun j x hx q => by rw [ast_head_L2]; exact step_only _ _ _
  rw [first_onlyC] at hv
  have w1 : IntKind.i64.wrap ((1 : Int) + 1) = 2 := by decide
  have w2 : IntKind.i64.wrap ((2 : Int) + 1) = 3 := by decide
  have w3 : IntKind.i64.wrap ((3 : Int) + 1) = 4 := by decide
  have w4 : IntKind.i64.wrap ((4 : Int) + 1) = 5 := by decide
  have o1 : (objs u).f (1 : Int).toNat = vnm u := rfl
  have o2 : (objs u).f (2 : Int).toNat = u.Mutexes := rfl
  have o3 : (objs u).f (3 : Int).toNat = u.Conds := rfl
  have o4 : (objs u).f (4 : Int).toNat = pnm u := rfl
  have step : ∀ (r : Int × Int), (r.1 = 6 ∨ r.1 = 7) → eqI r.1 0 = false := fun r h => by rw [eqI_d]; rcases h with h | h <;> rw [h] <;> rfl
  rw [ast_head, many_eq, hv, headE]
  cases h1 : badW (vnm u) with
  | some r =>
    rw [ast_head_L1, o1, own_names, h1]
    simp [ltI_d, inB_d, step r (badW_ne h1), eqI_d 1 4]
  | none =>
    rw [ast_head_L1, o1, own_names, h1, w1]
    cases h2 : badW u.Mutexes with
    | some r =>
      rw [ast_head_L1, o2, own_names, h2]
      simp [ltI_d, inB_d, step r (badW_ne h2), eqI_d 2 4, eqI_d (0 : Int) 0]
    | none =>
      rw [ast_head_L1, o2, own_names, h2, w2]
      cases h3 : badW u.Conds with
      | some r =>
        rw [ast_head_L1, o3, own_names, h3]
        simp [ltI_d, inB_d, step r (badW_ne h3), eqI_d 3 4, eqI_d (0 : Int) 0]
      | none =>
        rw [ast_head_L1, o3, own_names, h3, w3]
        cases h4 : badW (pnm u) with
        | some r =>
          rw [ast_head_L1, o4, own_names, h4]
          simp [ltI_d, inB_d, step r (badW_ne h4), eqI_d 4 4, eqI_d (0 : Int) 0]
        | none =>
          rw [ast_head_L1, o4, own_names, h4, w4, ast_head_L1]
          simp [ltI_d, inB_d, eqI_d (0 : Int) 0]
          cases manyU u with
          | true => simp
          | false => cases (u.Vars.any fun v => outV v.Init) <;> simp
/-! Procedures. -/
def fe (o : Arr 5 (List ByteArray)) (ls : List ByteArray) (k : Nat) (y : Int × Stmt) : Option (Int × Int) := if stE o ls y.1 y.2 = 0 then none else some (stE o ls y.1 y.2, (k : Int))
def procE (o : Arr 5 (List ByteArray)) (p : Proc) : Int × Int :=
  if eqS p.Param emp = false ∧ okWord p.Param = false then (6, -1) else if 128 < cSL p.Body then (4, -1) else if 4 + (par p).length < (locP p).length then (4, -1) else (first (fe o (locP p)) (flL 1 p.Body) 0).getD (0, -1)
theorem own_proc_L {N : Nat} {o : Arr 5 (List ByteArray)} {ls : List ByteArray} : ∀ (xs : List (Int × Stmt)) (i : Nat), (∀ y ∈ xs, nL y.2.Exprs ≤ N ∧ nL y.2.Exprs ≤ 1048576) → i + xs.length ≤ 4194304 →
    ast_proc_L1 N o ls xs (i : Int) = some (match first (fe o ls) xs i with | none => .inl ((i + xs.length : Nat) : Int) | some r => .inr r)
  | [], i, _, _ => by rw [ast_proc_L1]; simp
  | y :: r, i, h, hi => by
    rw [List.length_cons] at hi
    obtain ⟨a, b⟩ := h y (by simp)
    rw [ast_proc_L1, own_stmt a b, Option.bind_some, first_cons, wrapS (by omega), own_proc_L r (i + 1) (fun z hz => h z (by simp [hz])) (by omega), eqI_d, fe]
    by_cases e : stE o ls y.1 y.2 = 0
    · simp only [e, if_true, decide_true, Bool.not_true, cond_false, List.length_cons]
      rw [show i + 1 + r.length = i + (r.length + 1) by omega]
    · simp [e]
theorem flat_ok {l : List Stmt} {n : Int} {N : Nat} (h : nSL l ≤ 1048576) (hN : 1048576 ≤ N) : ∀ y ∈ flL n l, nL y.2.Exprs ≤ N ∧ nL y.2.Exprs ≤ 1048576 := fun y hy => by
  have := fl_memL l n y hy
  have := nS_eq y.2
  omega
theorem own_proc {N : Nat} {p : Proc} (o : Arr 5 (List ByteArray)) (h : nSL p.Body ≤ 1048576) (hN : 1048576 ≤ N) : ast_proc N p o = some (procE o p) := by
  have hl := own_proc_L (o := o) (ls := locP p) (flL 1 p.Body) 0 (flat_ok (N := N) h hN) (by rw [fl_lenL]; have := c_leL p.Body; omega)
  rw [show ((0 : Nat) : Int) = 0 from rfl] at hl
  have hc := c_leL p.Body
  have hlen : (locP p).length ≤ 1 + 1048576 := by
    have := addL_len (flL 1 p.Body) (par p); rw [fl_lenL] at this; have := par_len p; unfold locP; omega
  rw [ast_proc, own_word, own_count (by omega), own_locals (by omega), show (⟨#[]⟩ : ByteArray) = emp from rfl, procE]
  simp only [Option.isSome_some, Option.getD_some, orB_d, Bool.or_true, guardO_t, andB_d, Option.bind_some, ast_stmts, its_eq (show nSL p.Body ≤ 2097152 by omega), hl]
  have hw : ∀ x : Int, -1 ≤ x → x ≤ 4194304 → IntKind.i64.wrap x = x := fun x h1 h2 => wrap_s (by omega) (by omega)
  rw [hw _ (by omega) (by omega)]
  by_cases h128 : 128 < cSL p.Body
  · have h128' : ltI 128 (cSL p.Body : Int) = true := by rw [ltI_d]; exact decide_eq_true (by omega)
    rw [h128', if_pos h128]
    cases eqS p.Param emp <;> cases okWord p.Param <;> rfl
  · have h128' : ltI 128 (cSL p.Body : Int) = false := by rw [ltI_d]; exact decide_eq_false (by omega)
    rw [h128', if_neg h128, cond_false]
    unfold par
    cases eqS p.Param emp with
    | true =>
      simp only [if_true, List.length_nil]
      by_cases e4 : 4 + 0 < (locP p).length
      · have e4' : ltI 4 ((locP p).length : Int) = true := by rw [ltI_d]; exact decide_eq_true (by omega)
        rw [if_pos e4]; simp [e4']
      · have e4' : ltI 4 ((locP p).length : Int) = false := by rw [ltI_d]; exact decide_eq_false (by omega)
        rw [if_neg e4]; simp [e4']
        cases first (fe o (locP p)) (flL 1 p.Body) 0 <;> rfl
    | false =>
      cases okWord p.Param with
      | false => simp
      | true =>
        simp only [Bool.false_eq_true, if_false, List.length_singleton]
        by_cases e4 : 4 + 1 < (locP p).length
        · have e4' : ltI 4 (((locP p).length : Int) - 1) = true := by rw [ltI_d]; exact decide_eq_true (by omega)
          rw [if_pos e4]; simp [e4']
        · have e4' : ltI 4 (((locP p).length : Int) - 1) = false := by rw [ltI_d]; exact decide_eq_false (by omega)
          rw [if_neg e4]; simp [e4']
          cases first (fe o (locP p)) (flL 1 p.Body) 0 <;> rfl
/-! The reference's blocks. -/
def afterB (o : Arr 5 (List ByteArray)) (c : R16C) (xs : List (Int × Stmt)) (a : Nat) : Int × R16C := match first (fe o c.Locals) xs a with
  | none => (0, { c with At := ((a + xs.length : Nat) : Int) })
  | some r => (r.1, { c with At := r.2 })
def Fit (o : Arr 5 (List ByteArray)) (c : R16C) : Prop := o.f 1 = c.Vars ∧ o.f 2 = c.U.Mutexes ∧ o.f 3 = c.U.Conds ∧ o.f 4 = c.Procs
/-! The unit. -/
def pe (o : Arr 5 (List ByteArray)) (k : Nat) (p : Proc) : Option (Int × Int × Int) := if (procE o p).1 = 0 then none else some ((procE o p).1, (k : Int), (procE o p).2)
def thE (ps : List ByteArray) (t : Launch) : Option (Int × Int × Int) := if isIn ps t.Proc = false then some (11, -1, -1) else onlyIf (outV t.Arg) (2, -1, -1)
def checkU (u : UnitT) : Int × Int × Int :=
  match headE u with
  | some r => (r.1, r.2, -1)
  | none => match first (pe (objs u)) u.Procs 0 with
    | some r => r
    | none => if u.Threads.length < 1 ∨ 8 < u.Threads.length then (4, -1, -1) else (first (fun _ t => thE (pnm u) t) u.Threads 0).getD (0, -1, -1)
theorem own_check {N : Nat} {u : UnitT} (h : Sm u) (hN : 1048580 ≤ N) : ast_Check N u = some (checkU u) := by
  have hp := srch (L := ast_Check_L1 N (objs u)) (pe (objs u)) (fun _ => rfl) u.Procs 0 fun j x hx q => by
    rw [Nat.zero_add, ast_Check_L1, own_proc (objs u) (h.body x (List.mem_of_getElem? hx)) (by omega), Option.bind_some, pe, eqI_d]
    by_cases e : (procE (objs u) x).1 = 0 <;> simp [e]
  have ht := srch (L := ast_Check_L2 (objs u)) (fun _ t => thE (pnm u) t) (fun _ => rfl) u.Threads 0 fun j x hx q => by
    rw [ast_Check_L2, contains_eq, Option.bind_some, thE, show (objs u).f 4 = pnm u from rfl, outV]
    cases isIn (pnm u) x.Proc
    · rfl
    · rw [if_neg (by simp), Bool.not_true, cond_false]; exact step_only _ _ _
  rw [ast_Check, own_objects h, Option.bind_some, own_head u (by omega), Option.bind_some, hp, ht, checkU]
  cases hh : headE u with
  | some r => simp [eqI_d, headE_ne hh]
  | none =>
    simp only [Option.getD_none, eqI_d, decide_true, Bool.not_true, cond_false]
    cases first (pe (objs u)) u.Procs 0 with
    | some r => rfl
    | none =>
      simp only [toS_none, Option.bind_some]
      have hc : orB (ltI ((u.Threads.length : Nat) : Int) 1) (ltI 8 ((u.Threads.length : Nat) : Int)) = decide (u.Threads.length < 1 ∨ 8 < u.Threads.length) := by
        simp only [orB_d, ltI_d, ← Bool.decide_or]; congr 1; apply propext; omega
      rw [hc]
      by_cases e : u.Threads.length < 1 ∨ 8 < u.Threads.length
      · rw [if_pos e, decide_eq_true e]; rfl
      · rw [if_neg e, decide_eq_false e]
        cases first (fun _ t => thE (pnm u) t) u.Threads 0 <;> rfl
end Go.Dc.Pl
end
section
set_option linter.all false
namespace Go.Dc
open Go Go.Hw Go.Proofs
set_option maxRecDepth 100000
def r16_Strings_L1 (a1 : List ByteArray) : List ByteArray → Nat → Option (Unit ⊕ Bool)
  | [], k76 => some (.inl ())
  | x102 :: q98, k76 => Option.bind (a1[k76]?) (fun x109 => cond (!(eqS x102 x109)) (some (.inr false)) (r16_Strings_L1 a1 q98 (k76 + 1)))

def r16_Strings (a0 : List ByteArray) (a1 : List ByteArray) : Option Bool :=
  cond (!(eqI ((a0.length : Nat) : Int) ((a1.length : Nat) : Int))) (some false) (Option.bind (α := Unit ⊕ Bool) (Option.bind (r16_Strings_L1 a1 a0 0) (fun o => match o with | .inl _ => some (.inl ()) | .inr r113 => some (.inr r113))) (fun o => match o with | .inl _ => some true | .inr r114 => some r114))

set_option maxHeartbeats 2000000 in
theorem at_r16_Strings {a0 : List ByteArray} {a1 : List ByteArray} {r : Bool} (hs : r16_Strings a0 a1 = some r) : At Tryd.prog 35 [.cell (sC a0), .cell (sC a1)] (bV r) := by
  refine at_bound (by kernel_rfl) fun hb => ?_
  have hb1 : LenOk (.sl a0.length (encL a0)) := lkc hb
  have hb2 : LenOk (.sl a1.length (encL a1)) := lkc hb
  refine at_code mixed Tryd.func35 (by kernel_rfl) rfl (by kernel_rfl) rfl fun Q hQ => ?_
  rw [r16_Strings] at hs
  refine goR f0 ?_
  revert hs; refine cS f0 ?_ ?_ <;> intro h1 hs
  · refine goR f0 ?_
    obtain rfl := sj hs
    exact hQ _ _ (rg f0 (Gh.refl _))
  · refine goR2 f0 ?_
    revert hs; refine bK fun o57 e56 hs => ?_
    refine awp_cutK (fun (v : Unit) (σ : St) => some (.inl v) = some o57 ∧ 3 ≤ σ.gen) (by rfl) (fun Q hK58 hX59 => ?_) (fun v σ3 hp => ?_)
    · refine goR f0 ?_
      revert e56; refine bK fun o93 e92 e56 => ?_
      refine awp_loopW (fun (v : (List ByteArray) × Nat) (σ : St) => r16_Strings_L1 a1 v.1 v.2 = some o93 ∧ v.1 = a0.drop v.2 ∧ σ.env 0 = .cell (sC a0) ∧ σ.env 1 = .cell (sC a1) ∧ σ.env 5 = iV .i64 ((v.2 : Nat) : Int) ∧ 3 ≤ σ.gen) (fun v => v.1.length) _ (Gh.refl _) (a0, 0) ⟨e92, by simp, pv f0, pv f0, pv f0, pg⟩ fun v σ6 hp L94 hL95 => ?_
      obtain ⟨q97, k76⟩ := v
      dsimp only at hp hL95
      obtain ⟨e92, hd96, h5_0, h5_1, h5_5, n5_g⟩ := hp
      rcases q97 with _ | ⟨x102, q98⟩
      · have hlt99 := drop_end hd96
        rw [r16_Strings_L1] at e92; try dsimp only at e92
        have F1 := an h5_0 (an h5_1 h5_5)
        refine goR F1 ?_
        refine condK_f (by simp [ltI]; omega) ?_
        obtain rfl := sj e92
        try dsimp only at e56
        exact hK58 () _ _ (Gh.refl _) ⟨e56, pg⟩
      · obtain ⟨hx101, hlt99, hd103⟩ := drop_next hd96
        have ew100 := wrap_succ hlt99 (hb1).len
        rw [r16_Strings_L1] at e92; try dsimp only at e92
        have F2 := an h5_0 (an h5_1 (an h5_5 (an hlt99 ew100)))
        refine goR F2 ?_
        refine condK_t (by simp [ltI]; omega) ?_
        have f108 : partCV Tryd.prog 9 (encL a0) (k76) = some (sV x102) := partCV_enc1 hx101 (by simp)
        revert e92; refine bK fun x109 hx110 e92 => ?_
        have hx110b := getN_some hx110
        have f111 : partCV Tryd.prog 9 (encL a1) (k76) = some (sV x109) := partCV_enc1 hx110 (by simp)
        have F3 := an F2 (an f108 f111)
        refine goD F3 ?_
        revert e92; refine cS F3 ?_ ?_ <;> intro h112 e92
        · refine goD F3 ?_
          obtain rfl := sj e92
          try dsimp only at e56
          obtain rfl := sj e56
          try dsimp only at hs
          refine hX59 _ _ (by simp) ?_
          refine goD F3 ?_
          obtain rfl := sj hs
          exact hQ _ _ (rg F3 (Gh.refl _))
        · refine goD F3 ?_
          exact hL95 (q98, (k76 + 1)) _ _ (Gh.refl _) ⟨e92, hd103, pv F3, pv F3, pv F3, pg⟩ (by simp)
    · obtain ⟨e56, n4_g⟩ := hp
      obtain rfl := sj e56
      try dsimp only at hs
      refine goR f0 ?_
      obtain rfl := sj hs
      exact hQ _ _ (rg f0 (Gh.refl _))
end Go.Dc
end
section
set_option linter.all false
namespace Go.Dc
open Go Go.Hw Go.Proofs
set_option maxRecDepth 100000
def slices_Clone_api_Var (a0 : List Var) : Option (List Var) := guardO (limB 24 a0.length) (some a0)

set_option maxHeartbeats 2000000 in
theorem at_slices_Clone_api_Var {a0 r : List Var} (hs : slices_Clone_api_Var a0 = some r) : CAt Tryd.prog 82 [.cell (sC a0)] [] (.ret (.cell (.sl (.r 0) 0 2 r.length))) [(.r 0, .pure (encL r))] := by
  rw [slices_Clone_api_Var] at hs
  obtain ⟨g1, hs⟩ := guardO_some hs
  obtain rfl := Option.some.inj hs
  obtain ⟨g1a, g1b⟩ := limB_t g1
  refine at_code mixed Tryd.func82 (by kernel_rfl) rfl (by kernel_rfl) rfl fun Q hQ => ?_
  repeat (first | simp | with_reducible first | refine awp_reg ?_ | refine And.intro (by omega) ?_ | refine optF_if (by omega) ?_)
  unfold nilK
  simp only [Tryd.underlying37]
  refine ⟨fun h => ?_, ?_⟩
  · have h0 := encL_nil_of (by simp) h
    subst h0
    repeat (first | simp | with_reducible first | refine awp_reg ?_ | refine And.intro (by omega) ?_ | refine optF_if (by omega) ?_)
    refine hQ _ _ (ret2g _ (Gh.void _ (.r 0) 2 2 rfl (by simp)) (by simp [St.void, St.kil]; rfl) (by first | rfl | simp) (by simp [St.void, St.kil]))
  · repeat (first | simp | with_reducible first | refine awp_reg ?_ | refine And.intro (by omega) ?_ | refine optF_if (by omega) ?_)
    refine hQ _ _ (ret2g _ (Gh.ren _ (.o 3 2 0) (.r 0) (by simp) rfl rfl) (by simp; rfl) (by first | rfl | simp) (by simp))
end Go.Dc
end
section
set_option linter.all false
namespace Go.Dc
open Go Go.Hw Go.Proofs
set_option maxRecDepth 100000
def slices_Clone_string (a0 : List ByteArray) : Option (List ByteArray) := guardO (limB 16 a0.length) (some a0)

set_option maxHeartbeats 2000000 in
theorem at_slices_Clone_string {a0 r : List ByteArray} (hs : slices_Clone_string a0 = some r) : CAt Tryd.prog 83 [.cell (sC a0)] [] (.ret (.cell (.sl (.r 0) 0 1 r.length))) [(.r 0, .pure (encL r))] := by
  rw [slices_Clone_string] at hs
  obtain ⟨g1, hs⟩ := guardO_some hs
  obtain rfl := Option.some.inj hs
  obtain ⟨g1a, g1b⟩ := limB_t g1
  refine at_code mixed Tryd.func83 (by kernel_rfl) rfl (by kernel_rfl) rfl fun Q hQ => ?_
  repeat (first | simp | with_reducible first | refine awp_reg ?_ | refine And.intro (by omega) ?_ | refine optF_if (by omega) ?_)
  unfold nilK
  simp only [Tryd.underlying38]
  refine ⟨fun h => ?_, ?_⟩
  · have h0 := encL_nil_of (by simp) h
    subst h0
    repeat (first | simp | with_reducible first | refine awp_reg ?_ | refine And.intro (by omega) ?_ | refine optF_if (by omega) ?_)
    refine hQ _ _ (ret2g _ (Gh.void _ (.r 0) 2 1 rfl (by simp)) (by simp [St.void, St.kil]; rfl) (by first | rfl | simp) (by simp [St.void, St.kil]))
  · repeat (first | simp | with_reducible first | refine awp_reg ?_ | refine And.intro (by omega) ?_ | refine optF_if (by omega) ?_)
    refine hQ _ _ (ret2g _ (Gh.ren _ (.o 3 2 0) (.r 0) (by simp) rfl rfl) (by simp; rfl) (by first | rfl | simp) (by simp))
end Go.Dc
end
section
set_option linter.all false
namespace Go.Dc
open Go Go.Hw Go.Proofs
set_option maxRecDepth 100000
def slices_Clone_api_Proc (a0 : List Proc) : Option (List Proc) := guardO (limB 56 a0.length) (some a0)

set_option maxHeartbeats 2000000 in
theorem at_slices_Clone_api_Proc {a0 r : List Proc} (hs : slices_Clone_api_Proc a0 = some r) : CAt Tryd.prog 84 [.cell (sC a0)] [] (.ret (.cell (.sl (.r 0) 0 3 r.length))) [(.r 0, .pure (encL r))] := by
  rw [slices_Clone_api_Proc] at hs
  obtain ⟨g1, hs⟩ := guardO_some hs
  obtain rfl := Option.some.inj hs
  obtain ⟨g1a, g1b⟩ := limB_t g1
  refine at_code mixed Tryd.func84 (by kernel_rfl) rfl (by kernel_rfl) rfl fun Q hQ => ?_
  repeat (first | simp | with_reducible first | refine awp_reg ?_ | refine And.intro (by omega) ?_ | refine optF_if (by omega) ?_)
  unfold nilK
  simp only [Tryd.underlying39]
  refine ⟨fun h => ?_, ?_⟩
  · have h0 := encL_nil_of (by simp) h
    subst h0
    repeat (first | simp | with_reducible first | refine awp_reg ?_ | refine And.intro (by omega) ?_ | refine optF_if (by omega) ?_)
    refine hQ _ _ (ret2g _ (Gh.void _ (.r 0) 2 3 rfl (by simp)) (by simp [St.void, St.kil]; rfl) (by first | rfl | simp) (by simp [St.void, St.kil]))
  · repeat (first | simp | with_reducible first | refine awp_reg ?_ | refine And.intro (by omega) ?_ | refine optF_if (by omega) ?_)
    refine hQ _ _ (ret2g _ (Gh.ren _ (.o 3 2 0) (.r 0) (by simp) rfl rfl) (by simp; rfl) (by first | rfl | simp) (by simp))
end Go.Dc
end
section
set_option linter.all false
namespace Go.Dc
open Go Go.Hw Go.Proofs
set_option maxRecDepth 100000
def slices_Clone_api_Launch (a0 : List Launch) : Option (List Launch) := guardO (limB 24 a0.length) (some a0)

set_option maxHeartbeats 2000000 in
theorem at_slices_Clone_api_Launch {a0 r : List Launch} (hs : slices_Clone_api_Launch a0 = some r) : CAt Tryd.prog 85 [.cell (sC a0)] [] (.ret (.cell (.sl (.r 0) 0 2 r.length))) [(.r 0, .pure (encL r))] := by
  rw [slices_Clone_api_Launch] at hs
  obtain ⟨g1, hs⟩ := guardO_some hs
  obtain rfl := Option.some.inj hs
  obtain ⟨g1a, g1b⟩ := limB_t g1
  refine at_code mixed Tryd.func85 (by kernel_rfl) rfl (by kernel_rfl) rfl fun Q hQ => ?_
  repeat (first | simp | with_reducible first | refine awp_reg ?_ | refine And.intro (by omega) ?_ | refine optF_if (by omega) ?_)
  unfold nilK
  simp only [Tryd.underlying40]
  refine ⟨fun h => ?_, ?_⟩
  · have h0 := encL_nil_of (by simp) h
    subst h0
    repeat (first | simp | with_reducible first | refine awp_reg ?_ | refine And.intro (by omega) ?_ | refine optF_if (by omega) ?_)
    refine hQ _ _ (ret2g _ (Gh.void _ (.r 0) 2 2 rfl (by simp)) (by simp [St.void, St.kil]; rfl) (by first | rfl | simp) (by simp [St.void, St.kil]))
  · repeat (first | simp | with_reducible first | refine awp_reg ?_ | refine And.intro (by omega) ?_ | refine optF_if (by omega) ?_)
    refine hQ _ _ (ret2g _ (Gh.ren _ (.o 3 2 0) (.r 0) (by simp) rfl rfl) (by simp; rfl) (by first | rfl | simp) (by simp))
end Go.Dc
end
section
set_option linter.all false
namespace Go.Dc
open Go Go.Hw Go.Proofs
set_option maxRecDepth 100000
def slices_Clone_api_Stmt (a0 : List Stmt) : Option (List Stmt) := guardO (limB 144 a0.length) (some a0)

set_option maxHeartbeats 2000000 in
theorem at_slices_Clone_api_Stmt {a0 r : List Stmt} (hs : slices_Clone_api_Stmt a0 = some r) : CAt Tryd.prog 127 [.cell (sC a0)] [] (.ret (.cell (.sl (.r 0) 0 9 r.length))) [(.r 0, .pure (encL r))] := by
  rw [slices_Clone_api_Stmt] at hs
  obtain ⟨g1, hs⟩ := guardO_some hs
  obtain rfl := Option.some.inj hs
  obtain ⟨g1a, g1b⟩ := limB_t g1
  refine at_code mixed Tryd.func127 (by kernel_rfl) rfl (by kernel_rfl) rfl fun Q hQ => ?_
  repeat (first | simp | with_reducible first | refine awp_reg ?_ | refine And.intro (by omega) ?_ | refine optF_if (by omega) ?_)
  unfold nilK
  simp only [Tryd.underlying55]
  refine ⟨fun h => ?_, ?_⟩
  · have h0 := encL_nil_of (by simp) h
    subst h0
    repeat (first | simp | with_reducible first | refine awp_reg ?_ | refine And.intro (by omega) ?_ | refine optF_if (by omega) ?_)
    refine hQ _ _ (ret2g _ (Gh.void _ (.r 0) 2 9 rfl (by simp)) (by simp [St.void, St.kil]; rfl) (by first | rfl | simp) (by simp [St.void, St.kil]))
  · repeat (first | simp | with_reducible first | refine awp_reg ?_ | refine And.intro (by omega) ?_ | refine optF_if (by omega) ?_)
    refine hQ _ _ (ret2g _ (Gh.ren _ (.o 3 2 0) (.r 0) (by simp) rfl rfl) (by simp; rfl) (by first | rfl | simp) (by simp))
end Go.Dc
end
section
set_option linter.all false
namespace Go.Dc
open Go Go.Hw Go.Proofs
set_option maxRecDepth 100000
def slices_Clone_api_Expr (a0 : List Expr) : Option (List Expr) := guardO (limB 64 a0.length) (some a0)

set_option maxHeartbeats 2000000 in
theorem at_slices_Clone_api_Expr {a0 r : List Expr} (hs : slices_Clone_api_Expr a0 = some r) : CAt Tryd.prog 165 [.cell (sC a0)] [] (.ret (.cell (.sl (.r 0) 0 5 r.length))) [(.r 0, .pure (encL r))] := by
  rw [slices_Clone_api_Expr] at hs
  obtain ⟨g1, hs⟩ := guardO_some hs
  obtain rfl := Option.some.inj hs
  obtain ⟨g1a, g1b⟩ := limB_t g1
  refine at_code mixed Tryd.func165 (by kernel_rfl) rfl (by kernel_rfl) rfl fun Q hQ => ?_
  repeat (first | simp | with_reducible first | refine awp_reg ?_ | refine And.intro (by omega) ?_ | refine optF_if (by omega) ?_)
  unfold nilK
  simp only [Tryd.underlying48]
  refine ⟨fun h => ?_, ?_⟩
  · have h0 := encL_nil_of (by simp) h
    subst h0
    repeat (first | simp | with_reducible first | refine awp_reg ?_ | refine And.intro (by omega) ?_ | refine optF_if (by omega) ?_)
    refine hQ _ _ (ret2g _ (Gh.void _ (.r 0) 2 5 rfl (by simp)) (by simp [St.void, St.kil]; rfl) (by first | rfl | simp) (by simp [St.void, St.kil]))
  · repeat (first | simp | with_reducible first | refine awp_reg ?_ | refine And.intro (by omega) ?_ | refine optF_if (by omega) ?_)
    refine hQ _ _ (ret2g _ (Gh.ren _ (.o 3 2 0) (.r 0) (by simp) rfl rfl) (by simp; rfl) (by first | rfl | simp) (by simp))
end Go.Dc
end
section
set_option linter.all false
namespace Go.Dc
open Go Go.Hw Go.Proofs
set_option maxRecDepth 100000
def ast_exprs_L1 (rF128z : (List Expr) → Option (List Expr)) : Nat → (List Expr) → Nat → Option (List Expr)
  | 0, l85, k86 => guardO (decide (l85.length ≤ k86)) (some (l85))
  | q105 + 1, l85, k86 => Option.bind (l85[k86]?) (fun x111 => Option.bind (rF128z x111.Args) (fun y114 => Option.bind (some (l85.set k86 ({ x111 with Args := y114 }))) (fun l118 => ast_exprs_L1 rF128z q105 l118 (k86 + 1))))

def ast_exprs_B (rF128z : (List Expr) → Option (List Expr)) (a0 : List Expr) : Option (List Expr) :=
  Option.bind (slices_Clone_api_Expr a0) (fun y1 => Option.bind (α := (List Expr)) (guardO (lenB y1.length) (Option.bind (ast_exprs_L1 rF128z y1.length y1 0) (fun l98 => some (l98)))) (fun l59 => some l59))

def ast_exprs : Nat → (List Expr) → Option (List Expr)
  | 0 => fun _ => none
  | fuelN + 1 => fun a0 => ast_exprs_B (ast_exprs fuelN) a0

set_option maxHeartbeats 2000000 in
theorem at_ast_exprs_B {rF128z : (List Expr) → Option (List Expr)} (ihrF128z : ∀ (a0 : List Expr) (r : (List Expr)), rF128z a0 = some r → CAt Tryd.prog 128 [.cell (sC a0)] [] (.ret (.cell (.sl (.r 0) 0 5 r.length))) [(.r 0, .cells (oencL r))]) {a0 : List Expr} {r : (List Expr)} (hs : ast_exprs_B rF128z a0 = some r) : CAt Tryd.prog 128 [.cell (sC a0)] [] (.ret (.cell (.sl (.r 0) 0 5 r.length))) [(.r 0, .cells (oencL r))] := by
  refine at_bound (by kernel_rfl) fun hb => ?_
  have hb1 : LenOk (.sl a0.length (encL a0)) := lkc hb
  refine at_code mixed Tryd.func128 (by kernel_rfl) rfl (by kernel_rfl) rfl fun Q hQ => ?_
  rw [ast_exprs_B] at hs
  refine goR f0 ?_
  revert hs; refine bK fun y1 hx2 hs => ?_
  refine cA f0 (at_slices_Clone_api_Expr hx2) ?_
  refine goR2 f0 ?_
  revert hs; refine bK fun o61 e60 hs => ?_
  refine awp_cutK (fun (v : (List Expr)) (σ : St) => some (v) = some o61 ∧ σ.env 3 = .cell (.sl (.l 3) 0 5 v.length) ∧ σ.hp (.l 3) = some (.cells (oencL v)) ∧ 3 ≤ σ.gen) (by rfl) (fun Q hK62 hX63 => ?_) (fun l59 σ3 hp => ?_)
  · refine goR f0 ?_
    obtain ⟨hb109, e60⟩ := guardO_some e60
    revert e60; refine bK fun o100 e99 e60 => ?_
    refine awp_loopW (fun (v : Nat × (List Expr) × Nat) (σ : St) => ast_exprs_L1 rF128z v.1 v.2.1 v.2.2 = some o100 ∧ v.1 + v.2.2 = y1.length ∧ σ.env 3 = .cell (.sl (.l 8) 0 5 v.2.1.length) ∧ σ.env 8 = iV .i64 ((y1.length : Nat) : Int) ∧ σ.env 9 = iV .i64 ((v.2.2 : Nat) : Int) ∧ σ.hp (.l 8) = some (.cells (mixL v.2.2 v.2.1)) ∧ 3 ≤ σ.gen) (fun v => v.1) _ ((Gh.cel _ (.o 2 1 0)).trans (Gh.ren _ (.o 2 1 0) (.l 8) (by simp) rfl rfl)) (y1.length, y1, 0) ⟨e99, by first | omega | simp | (simp; omega), pv f0, pv f0, pv f0, pv f0, pg⟩ fun v σ6 hp L101 hL102 => ?_
    obtain ⟨q104, l85, k86⟩ := v
    dsimp only at hp hL102
    obtain ⟨e99, hd103, h5_3, h5_8, h5_9, g5_0, n5_g⟩ := hp
    rcases q104 with _ | q105
    · have hlt106 : ¬ k86 < y1.length := by omega
      rw [ast_exprs_L1] at e99; try dsimp only at e99
      have F1 := an h5_3 (an h5_8 (an h5_9 g5_0))
      refine goR F1 ?_
      refine condK_f (by simp [ltI]; omega) ?_
      obtain ⟨g110, e99⟩ := guardO_some e99
      have g110 := mixL_full (of_decide_eq_true g110)
      obtain rfl := sj e99
      try dsimp only at e60
      have F2 := an F1 g110
      exact hK62 l85 _ _ (Gh.ren _ (.l 8) (.l 3) (by simp) rfl rfl) ⟨e60, pv F2, pv F2, pg⟩
    · have hlt106 : k86 < y1.length := by omega
      have ew107 := wrap_succG hlt106 hb109
      rw [ast_exprs_L1] at e99; try dsimp only at e99
      have F3 := an h5_3 (an h5_8 (an h5_9 (an g5_0 (an hlt106 ew107))))
      refine goR F3 ?_
      refine condK_t (by simp [ltI]; omega) ?_
      revert e99; refine bK fun x111 hx112 e99 => ?_
      have hx112b := getN_some hx112
      have f113 : (mixL k86 l85)[k86 * 5 + 4]? = some (sC x111.Args) := mixL_get hx112 (Nat.le_refl _) (f := 4) (by first | rfl | (simp; done) | (simp; rfl))
      have f113t := take_one f113
      have F4 := an F3 (an f113 f113t)
      refine goR F4 ?_
      revert e99; refine bK fun y114 hx115 e99 => ?_
      refine cA F4 (ihrF128z _ _ hx115) ?_
      have f116l : k86 * 5 + 4 < (mixL k86 l85).length := by rw [mixL_length]; have := getN_some hx112; simp; omega
      have f116c := fun c => (set_seg f116l c).1
      have f116d := fun c => (set_seg f116l c).2
      revert e99; refine lK fun l118 hx119 e99 => ?_
      have f117 : (mixL k86 l85).set (k86 * 5 + 4) (.own (.sl 5 y114.length (otL y114))) = mixL (k86 + 1) l118 := by rw [hx119]; exact mixL_set hx112 (f := 4) (by simp) (by first | rfl | (simp; done) | (simp [partL]; done) | (simp [partL]; rfl))
      have f117n : l118.length = l85.length := by rw [hx119]; simp
      have F5 := an F4 (an f116c (an f116d (an f117 f117n)))
      refine goN F5 ?_
      refine awp_gh (by rfl) (Gh.close _ (.l 8) (k86 * 5 + 4)) ?_
      try simp only [St.frz, St.pur]
      refine goR F5 ?_
      exact hL102 (q105, l118, (k86 + 1)) _ _ (Gh.refl _) ⟨e99, (by first | omega | (simp; omega)), pv F5, pv F5, pv F5, pv F5, pg⟩ (by omega)
  · obtain ⟨e60, h4_3, g4_0, n4_g⟩ := hp
    obtain rfl := sj e60
    try dsimp only at hs
    have F6 := an h4_3 g4_0
    refine goR F6 ?_
    obtain rfl := sj hs
    refine hQ _ _ (ret2g _ (Gh.ren _ (.l 3) (.r 0) (by simp) rfl rfl) (by simp [St.frz, St.pur, F6]; rfl) (by first | rfl | (simp [St.frz, St.pur, F6]; done) | (rw [if_pos (by first | omega | (simp; omega))]; simp [St.frz, St.pur, F6]; first | omega | exact List.take_of_length_le (by simp; omega) | skip)) (pv F6))
theorem at_ast_exprs : ∀ {fuelN : Nat} {a0 : List Expr} {r : (List Expr)} (hs : ast_exprs fuelN a0 = some r), CAt Tryd.prog 128 [.cell (sC a0)] [] (.ret (.cell (.sl (.r 0) 0 5 r.length))) [(.r 0, .cells (oencL r))]
  | 0, _, _, hs => by rw [ast_exprs] at hs; cases hs
  | n + 1, _, _, hs => by
    rw [ast_exprs] at hs
    exact at_ast_exprs_B (fun _ _ h => at_ast_exprs h) hs
end Go.Dc
end
section
set_option linter.all false
namespace Go.Dc
open Go Go.Hw Go.Proofs
set_option maxRecDepth 100000
def ast_block_L1 (fuelN : Nat) (rF86z : (List Stmt) → Option (List Stmt)) : Nat → (List Stmt) → Nat → Option (List Stmt)
  | 0, l157, k158 => guardO (decide (l157.length ≤ k158)) (some (l157))
  | q195 + 1, l157, k158 => Option.bind (l157[k158]?) (fun x201 => Option.bind (ast_exprs fuelN x201.Exprs) (fun y204 => Option.bind (some (l157.set k158 ({ x201 with Exprs := y204 }))) (fun l208 => Option.bind (l208[k158]?) (fun x210 => Option.bind (rF86z x210.Body) (fun y213 => Option.bind (some (l208.set k158 ({ x210 with Body := y213 }))) (fun l217 => Option.bind (l217[k158]?) (fun x219 => Option.bind (rF86z x219.Else) (fun y222 => Option.bind (some (l217.set k158 ({ x219 with Else := y222 }))) (fun l226 => ast_block_L1 fuelN rF86z q195 l226 (k158 + 1))))))))))

def ast_block_B (rF86z : (List Stmt) → Option (List Stmt)) (fuelN : Nat) (a0 : List Stmt) : Option (List Stmt) :=
  Option.bind (slices_Clone_api_Stmt a0) (fun y1 => Option.bind (α := (List Stmt)) (guardO (lenB y1.length) (Option.bind (ast_block_L1 fuelN rF86z y1.length y1 0) (fun l188 => some (l188)))) (fun l113 => some l113))

def ast_block : Nat → (List Stmt) → Option (List Stmt)
  | 0 => fun _ => none
  | fuelN + 1 => fun a0 => ast_block_B (ast_block fuelN) fuelN a0

set_option maxHeartbeats 2000000 in
theorem at_ast_block_B {rF86z : (List Stmt) → Option (List Stmt)} (ihrF86z : ∀ (a0 : List Stmt) (r : (List Stmt)), rF86z a0 = some r → CAt Tryd.prog 86 [.cell (sC a0)] [] (.ret (.cell (.sl (.r 0) 0 9 r.length))) [(.r 0, .cells (oencL r))]) {fuelN : Nat} {a0 : List Stmt} {r : (List Stmt)} (hs : ast_block_B rF86z fuelN a0 = some r) : CAt Tryd.prog 86 [.cell (sC a0)] [] (.ret (.cell (.sl (.r 0) 0 9 r.length))) [(.r 0, .cells (oencL r))] := by
  refine at_bound (by kernel_rfl) fun hb => ?_
  have hb1 : LenOk (.sl a0.length (encL a0)) := lkc hb
  refine at_code mixed Tryd.func86 (by kernel_rfl) rfl (by kernel_rfl) rfl fun Q hQ => ?_
  rw [ast_block_B] at hs
  refine goR f0 ?_
  revert hs; refine bK fun y1 hx2 hs => ?_
  refine cA f0 (at_slices_Clone_api_Stmt hx2) ?_
  refine goR2 f0 ?_
  revert hs; refine bK fun o115 e114 hs => ?_
  refine awp_cutK (fun (v : (List Stmt)) (σ : St) => some (v) = some o115 ∧ σ.env 3 = .cell (.sl (.l 3) 0 9 v.length) ∧ σ.hp (.l 3) = some (.cells (oencL v)) ∧ 3 ≤ σ.gen) (by rfl) (fun Q hK116 hX117 => ?_) (fun l113 σ3 hp => ?_)
  · refine goR f0 ?_
    obtain ⟨hb199, e114⟩ := guardO_some e114
    revert e114; refine bK fun o190 e189 e114 => ?_
    refine awp_loopW (fun (v : Nat × (List Stmt) × Nat) (σ : St) => ast_block_L1 fuelN rF86z v.1 v.2.1 v.2.2 = some o190 ∧ v.1 + v.2.2 = y1.length ∧ σ.env 3 = .cell (.sl (.l 8) 0 9 v.2.1.length) ∧ σ.env 8 = iV .i64 ((y1.length : Nat) : Int) ∧ σ.env 9 = iV .i64 ((v.2.2 : Nat) : Int) ∧ σ.hp (.l 8) = some (.cells (mixL v.2.2 v.2.1)) ∧ 3 ≤ σ.gen) (fun v => v.1) _ ((Gh.cel _ (.o 2 1 0)).trans (Gh.ren _ (.o 2 1 0) (.l 8) (by simp) rfl rfl)) (y1.length, y1, 0) ⟨e189, by first | omega | simp | (simp; omega), pv f0, pv f0, pv f0, pv f0, pg⟩ fun v σ6 hp L191 hL192 => ?_
    obtain ⟨q194, l157, k158⟩ := v
    dsimp only at hp hL192
    obtain ⟨e189, hd193, h5_3, h5_8, h5_9, g5_0, n5_g⟩ := hp
    rcases q194 with _ | q195
    · have hlt196 : ¬ k158 < y1.length := by omega
      rw [ast_block_L1] at e189; try dsimp only at e189
      have F1 := an h5_3 (an h5_8 (an h5_9 g5_0))
      refine goR F1 ?_
      refine condK_f (by simp [ltI]; omega) ?_
      obtain ⟨g200, e189⟩ := guardO_some e189
      have g200 := mixL_full (of_decide_eq_true g200)
      obtain rfl := sj e189
      try dsimp only at e114
      have F2 := an F1 g200
      exact hK116 l157 _ _ (Gh.ren _ (.l 8) (.l 3) (by simp) rfl rfl) ⟨e114, pv F2, pv F2, pg⟩
    · have hlt196 : k158 < y1.length := by omega
      have ew197 := wrap_succG hlt196 hb199
      rw [ast_block_L1] at e189; try dsimp only at e189
      have F3 := an h5_3 (an h5_8 (an h5_9 (an g5_0 (an hlt196 ew197))))
      refine goR F3 ?_
      refine condK_t (by simp [ltI]; omega) ?_
      revert e189; refine bK fun x201 hx202 e189 => ?_
      have hx202b := getN_some hx202
      have f203 : (mixL k158 l157)[k158 * 9 + 6]? = some (sC x201.Exprs) := mixL_get hx202 (Nat.le_refl _) (f := 6) (by first | rfl | (simp; done) | (simp; rfl))
      have f203t := take_one f203
      have F4 := an F3 (an f203 f203t)
      refine goR F4 ?_
      revert e189; refine bK fun y204 hx205 e189 => ?_
      refine cA F4 (at_ast_exprs hx205) ?_
      have f206l : k158 * 9 + 6 < (mixL k158 l157).length := by rw [mixL_length]; have := getN_some hx202; simp; omega
      have f206c := fun c => (set_seg f206l c).1
      have f206d := fun c => (set_seg f206l c).2
      revert e189; refine lK fun l208 hx209 e189 => ?_
      have f207 : (mixL k158 l157).set (k158 * 9 + 6) (.own (.sl 5 y204.length (otL y204))) = mixP k158 7 l208 := by rw [hx209, mixP_zero hx202]; exact mixP_set hx202 (f := 6) (by simp) (by first | rfl | (simp; done) | (simp [partL]; done) | (simp [partL]; rfl))
      have f207n : l208.length = l157.length := by rw [hx209]; simp
      have F5 := an F4 (an f206c (an f206d (an f207 f207n)))
      refine goN F5 ?_
      refine awp_gh (by rfl) (Gh.close _ (.l 8) (k158 * 9 + 6)) ?_
      try simp only [St.frz, St.pur]
      revert e189; refine bK fun x210 hx211 e189 => ?_
      have hx211b := getN_some hx211
      have f212 : (mixP k158 7 l208)[k158 * 9 + 7]? = some (sC x210.Body) := mixP_get hx211 (f := 7) (by simp) (by first | rfl | (simp [partL]; done) | (simp [partL]; rfl))
      have f212t := take_one f212
      have F6 := an F5 (an f212 f212t)
      refine goR F6 ?_
      revert e189; refine bK fun y213 hx214 e189 => ?_
      refine cA F6 (ihrF86z _ _ hx214) ?_
      have f215l : k158 * 9 + 7 < (mixP k158 7 l208).length := by rw [mixP_len hx211]; have := getN_some hx211; simp; omega
      have f215c := fun c => (set_seg f215l c).1
      have f215d := fun c => (set_seg f215l c).2
      revert e189; refine lK fun l217 hx218 e189 => ?_
      have f216 : (mixP k158 7 l208).set (k158 * 9 + 7) (.own (.sl 9 y213.length (otL y213))) = mixP k158 8 l217 := by rw [hx218]; exact mixP_set hx211 (f := 7) (by simp) (by first | rfl | (simp; done) | (simp [partL]; done) | (simp [partL]; rfl))
      have f216n : l217.length = l208.length := by rw [hx218]; simp
      have F7 := an F6 (an f215c (an f215d (an f216 f216n)))
      refine goN F7 ?_
      refine awp_gh (by rfl) (Gh.close _ (.l 8) (k158 * 9 + 7)) ?_
      try simp only [St.frz, St.pur]
      revert e189; refine bK fun x219 hx220 e189 => ?_
      have hx220b := getN_some hx220
      have f221 : (mixP k158 8 l217)[k158 * 9 + 8]? = some (sC x219.Else) := mixP_get hx220 (f := 8) (by simp) (by first | rfl | (simp [partL]; done) | (simp [partL]; rfl))
      have f221t := take_one f221
      have F8 := an F7 (an f221 f221t)
      refine goR F8 ?_
      revert e189; refine bK fun y222 hx223 e189 => ?_
      refine cA F8 (ihrF86z _ _ hx223) ?_
      have f224l : k158 * 9 + 8 < (mixP k158 8 l217).length := by rw [mixP_len hx220]; have := getN_some hx220; simp; omega
      have f224c := fun c => (set_seg f224l c).1
      have f224d := fun c => (set_seg f224l c).2
      revert e189; refine lK fun l226 hx227 e189 => ?_
      have f225 : (mixP k158 8 l217).set (k158 * 9 + 8) (.own (.sl 9 y222.length (otL y222))) = mixL (k158 + 1) l226 := by rw [hx227]; exact mixP_fin hx220 (f := 8) (by simp) (by first | rfl | (simp; done) | (simp [partL]; done) | (simp [partL]; rfl))
      have f225n : l226.length = l217.length := by rw [hx227]; simp
      have F9 := an F8 (an f224c (an f224d (an f225 f225n)))
      refine goN F9 ?_
      refine awp_gh (by rfl) (Gh.close _ (.l 8) (k158 * 9 + 8)) ?_
      try simp only [St.frz, St.pur]
      refine goR F9 ?_
      exact hL192 (q195, l226, (k158 + 1)) _ _ (Gh.refl _) ⟨e189, (by first | omega | (simp; omega)), pv F9, pv F9, pv F9, pv F9, pg⟩ (by omega)
  · obtain ⟨e114, h4_3, g4_0, n4_g⟩ := hp
    obtain rfl := sj e114
    try dsimp only at hs
    have F10 := an h4_3 g4_0
    refine goR F10 ?_
    obtain rfl := sj hs
    refine hQ _ _ (ret2g _ (Gh.ren _ (.l 3) (.r 0) (by simp) rfl rfl) (by simp [St.frz, St.pur, F10]; rfl) (by first | rfl | (simp [St.frz, St.pur, F10]; done) | (rw [if_pos (by first | omega | (simp; omega))]; simp [St.frz, St.pur, F10]; first | omega | exact List.take_of_length_le (by simp; omega) | skip)) (pv F10))
theorem at_ast_block : ∀ {fuelN : Nat} {a0 : List Stmt} {r : (List Stmt)} (hs : ast_block fuelN a0 = some r), CAt Tryd.prog 86 [.cell (sC a0)] [] (.ret (.cell (.sl (.r 0) 0 9 r.length))) [(.r 0, .cells (oencL r))]
  | 0, _, _, hs => by rw [ast_block] at hs; cases hs
  | n + 1, _, _, hs => by
    rw [ast_block] at hs
    exact at_ast_block_B (fun _ _ h => at_ast_block h) hs
end Go.Dc
end
section
set_option linter.all false
namespace Go.Dc
open Go Go.Hw Go.Proofs
set_option maxRecDepth 100000
def ast_Clone_L1 (fuelN : Nat) : Nat → Nat → (List Proc) → Option (List Proc)
  | 0, k127, l128 => guardO (decide (l128.length ≤ k127)) (some (l128))
  | q153 + 1, k127, l128 => Option.bind (l128[k127]?) (fun x165 => Option.bind (ast_block fuelN x165.Body) (fun y168 => Option.bind (some (l128.set k127 ({ x165 with Body := y168 }))) (fun l172 => ast_Clone_L1 fuelN q153 (k127 + 1) l172)))

def ast_Clone (fuelN : Nat) (a0 : UnitT) : Option UnitT :=
  Option.bind (slices_Clone_api_Var a0.Vars) (fun y11 => Option.bind (slices_Clone_string a0.Mutexes) (fun y13 => Option.bind (slices_Clone_string a0.Conds) (fun y15 => Option.bind (slices_Clone_api_Proc a0.Procs) (fun y17 => Option.bind (slices_Clone_api_Launch a0.Threads) (fun y19 => Option.bind (α := (List Proc)) (guardO (lenB y17.length) (Option.bind (ast_Clone_L1 fuelN y17.length 0 y17) (fun l146 => some (l146)))) (fun l95 => some ({ Vars := y11, Mutexes := y13, Conds := y15, Procs := l95, Threads := y19 } : UnitT)))))))

set_option maxHeartbeats 2000000 in
theorem at_ast_Clone {fuelN : Nat} {a0 : UnitT} {r : UnitT} (hs : ast_Clone fuelN a0 = some r) : CAt Tryd.prog 40 [.agg (eA a0)] [] (.ret (.agg [.sl (.r 0) 0 2 r.Vars.length, .sl (.r 1) 0 1 r.Mutexes.length, .sl (.r 2) 0 1 r.Conds.length, .sl (.r 3) 0 3 r.Procs.length, .sl (.r 4) 0 2 r.Threads.length])) [(.r 0, .pure (encL r.Vars)), (.r 1, .pure (encL r.Mutexes)), (.r 2, .pure (encL r.Conds)), (.r 3, .cells (oencL r.Procs)), (.r 4, .pure (encL r.Threads))] := by
  refine at_bound (by kernel_rfl) fun hb => ?_
  have hb1 : LenOk (.sl a0.Vars.length (encL a0.Vars)) := lkc hb
  have hb2 : LenOk (.sl a0.Mutexes.length (encL a0.Mutexes)) := lkc hb
  have hb3 : LenOk (.sl a0.Conds.length (encL a0.Conds)) := lkc hb
  have hb4 : LenOk (.sl a0.Procs.length (encL a0.Procs)) := lkc hb
  have hb5 : LenOk (.sl a0.Threads.length (encL a0.Threads)) := lkc hb
  refine at_code mixed Tryd.func40 (by kernel_rfl) rfl (by kernel_rfl) rfl fun Q hQ => ?_
  rw [ast_Clone] at hs
  refine goD f0 ?_
  revert hs; refine bK fun y11 hx12 hs => ?_
  refine cA f0 (at_slices_Clone_api_Var hx12) ?_
  refine goD f0 ?_
  revert hs; refine bK fun y13 hx14 hs => ?_
  refine cA f0 (at_slices_Clone_string hx14) ?_
  refine goD f0 ?_
  revert hs; refine bK fun y15 hx16 hs => ?_
  refine cA f0 (at_slices_Clone_string hx16) ?_
  refine goD f0 ?_
  revert hs; refine bK fun y17 hx18 hs => ?_
  refine cA f0 (at_slices_Clone_api_Proc hx18) ?_
  refine goD f0 ?_
  revert hs; refine bK fun y19 hx20 hs => ?_
  refine cA f0 (at_slices_Clone_api_Launch hx20) ?_
  refine goD2 f0 ?_
  revert hs; refine bK fun o97 e96 hs => ?_
  refine awp_cutK (fun (v : (List Proc)) (σ : St) => some (v) = some o97 ∧ σ.env 2 = .cell (.ref (.o 1 1 0) 0) ∧ σ.env 3 = .cell (.ref (.o 2 16 0) 0) ∧ σ.hp (.o 1 1 0) = some (.cells [.z, .z, .z, .z, .z]) ∧ σ.hp (.l 14) = some (.cells (oencL v)) ∧ σ.hp (.o 2 16 0) = some (.cells [.sl (.o 2 2 0) 0 2 y11.length, .sl (.o 2 5 0) 0 1 y13.length, .sl (.o 2 8 0) 0 1 y15.length, .sl (.l 14) 0 3 v.length, .sl (.o 2 14 0) 0 2 y19.length]) ∧ σ.hp (.o 2 2 0) = some (.pure (encL y11)) ∧ σ.hp (.o 2 5 0) = some (.pure (encL y13)) ∧ σ.hp (.o 2 8 0) = some (.pure (encL y15)) ∧ σ.hp (.o 2 14 0) = some (.pure (encL y19)) ∧ 3 ≤ σ.gen) (by rfl) (fun Q hK98 hX99 => ?_) (fun l95 σ3 hp => ?_)
  · refine goD f0 ?_
    obtain ⟨hb157, e96⟩ := guardO_some e96
    revert e96; refine bK fun o148 e147 e96 => ?_
    refine awp_loopW (fun (v : Nat × Nat × (List Proc)) (σ : St) => ast_Clone_L1 fuelN v.1 v.2.1 v.2.2 = some o148 ∧ v.1 + v.2.1 = y17.length ∧ σ.env 2 = .cell (.ref (.o 1 1 0) 0) ∧ σ.env 3 = .cell (.ref (.o 2 16 0) 0) ∧ σ.env 23 = iV .i64 ((y17.length : Nat) : Int) ∧ σ.env 24 = iV .i64 ((v.2.1 : Nat) : Int) ∧ σ.hp (.o 1 1 0) = some (.cells [.z, .z, .z, .z, .z]) ∧ σ.hp (.l 39) = some (.cells (mixL v.2.1 v.2.2)) ∧ σ.hp (.o 2 16 0) = some (.cells [.sl (.o 2 2 0) 0 2 y11.length, .sl (.o 2 5 0) 0 1 y13.length, .sl (.o 2 8 0) 0 1 y15.length, .sl (.l 39) 0 3 v.2.2.length, .sl (.o 2 14 0) 0 2 y19.length]) ∧ σ.hp (.o 2 2 0) = some (.pure (encL y11)) ∧ σ.hp (.o 2 5 0) = some (.pure (encL y13)) ∧ σ.hp (.o 2 8 0) = some (.pure (encL y15)) ∧ σ.hp (.o 2 14 0) = some (.pure (encL y19)) ∧ 3 ≤ σ.gen) (fun v => v.1) _ ((Gh.cel _ (.o 2 11 0)).trans (Gh.ren _ (.o 2 11 0) (.l 39) (by simp) rfl rfl)) (y17.length, 0, y17) ⟨e147, by first | omega | simp | (simp; omega), pv f0, pv f0, pv f0, pv f0, pv f0, pv f0, pv f0, pv f0, pv f0, pv f0, pv f0, pg⟩ fun v σ6 hp L149 hL150 => ?_
    obtain ⟨q152, k127, l128⟩ := v
    dsimp only at hp hL150
    obtain ⟨e147, hd151, h5_2, h5_3, h5_23, h5_24, g5_0, g5_1, g5_2, g5_3, g5_4, g5_5, g5_6, n5_g⟩ := hp
    have n5_0 : ¬ (σ6.gen = 0) := by omega
    have n5_1 : ¬ (σ6.gen = 1) := by omega
    rcases q152 with _ | q153
    · have hlt154 : ¬ k127 < y17.length := by omega
      rw [ast_Clone_L1] at e147; try dsimp only at e147
      have F1 := an h5_2 (an h5_3 (an h5_23 (an h5_24 (an g5_0 (an g5_1 (an g5_2 (an g5_3 (an g5_4 (an g5_5 (an g5_6 (an n5_0 n5_1)))))))))))
      refine goR F1 ?_
      refine condK_f (by simp [ltI]; omega) ?_
      obtain ⟨g158, e147⟩ := guardO_some e147
      have g158 := mixL_full (of_decide_eq_true g158)
      obtain rfl := sj e147
      try dsimp only at e96
      have F2 := an F1 g158
      exact hK98 l128 _ _ (Gh.ren _ (.l 39) (.l 14) (by simp) rfl rfl) ⟨e96, pv F2, pv F2, pv F2, pv F2, pv F2, pv F2, pv F2, pv F2, pv F2, pg⟩
    · have hlt154 : k127 < y17.length := by omega
      have ew155 := wrap_succG hlt154 hb157
      rw [ast_Clone_L1] at e147; try dsimp only at e147
      have F3 := an h5_2 (an h5_3 (an h5_23 (an h5_24 (an g5_0 (an g5_1 (an g5_2 (an g5_3 (an g5_4 (an g5_5 (an g5_6 (an n5_0 (an n5_1 (an hlt154 ew155)))))))))))))
      refine goR F3 ?_
      refine condK_t (by simp [ltI]; omega) ?_
      revert e147; refine bK fun x165 hx166 e147 => ?_
      have hx166b := getN_some hx166
      have f167 : (mixL k127 l128)[k127 * 3 + 2]? = some (sC x165.Body) := mixL_get hx166 (Nat.le_refl _) (f := 2) (by first | rfl | (simp; done) | (simp; rfl))
      have f167t := take_one f167
      have F4 := an F3 (an f167 f167t)
      refine goD F4 ?_
      revert e147; refine bK fun y168 hx169 e147 => ?_
      refine cA F4 (at_ast_block hx169) ?_
      have f170l : k127 * 3 + 2 < (mixL k127 l128).length := by rw [mixL_length]; have := getN_some hx166; simp; omega
      have f170c := fun c => (set_seg f170l c).1
      have f170d := fun c => (set_seg f170l c).2
      revert e147; refine lK fun l172 hx173 e147 => ?_
      have f171 : (mixL k127 l128).set (k127 * 3 + 2) (.own (.sl 9 y168.length (otL y168))) = mixL (k127 + 1) l172 := by rw [hx173]; exact mixL_set hx166 (f := 2) (by simp) (by first | rfl | (simp; done) | (simp [partL]; done) | (simp [partL]; rfl))
      have f171n : l172.length = l128.length := by rw [hx173]; simp
      have F5 := an F4 (an f170c (an f170d (an f171 f171n)))
      refine goN F5 ?_
      refine awp_gh (by rfl) (Gh.close _ (.l 39) (k127 * 3 + 2)) ?_
      try simp only [St.frz, St.pur]
      refine goR F5 ?_
      exact hL150 (q153, (k127 + 1), l172) _ _ (Gh.refl _) ⟨e147, (by first | omega | (simp; omega)), pv F5, pv F5, pv F5, pv F5, pv F5, pv F5, pv F5, pv F5, pv F5, pv F5, pv F5, pg⟩ (by omega)
  · obtain ⟨e96, h4_2, h4_3, g4_0, g4_1, g4_2, g4_3, g4_4, g4_5, g4_6, n4_g⟩ := hp
    obtain rfl := sj e96
    try dsimp only at hs
    have n4_0 : ¬ (σ3.gen = 0) := by omega
    have n4_1 : ¬ (σ3.gen = 1) := by omega
    have F6 := an h4_2 (an h4_3 (an g4_0 (an g4_1 (an g4_2 (an g4_3 (an g4_4 (an g4_5 (an g4_6 (an n4_0 n4_1)))))))))
    refine goD F6 ?_
    obtain rfl := sj hs
    refine hQ _ _ (ret2g _ ((Gh.ren _ (.o 2 2 0) (.r 0) (by simp) rfl rfl).trans ((Gh.ren _ (.o 2 5 0) (.r 1) (by simp) rfl rfl).trans ((Gh.ren _ (.o 2 8 0) (.r 2) (by simp) rfl rfl).trans ((Gh.ren _ (.l 14) (.r 3) (by simp) rfl rfl).trans (Gh.ren _ (.o 2 14 0) (.r 4) (by simp) rfl rfl))))) (by simp [St.frz, St.pur, F6]; rfl) (by first | rfl | (simp [St.frz, St.pur, F6]; done) | (rw [if_pos (by first | omega | (simp; omega))]; simp [St.frz, St.pur, F6]; first | omega | exact List.take_of_length_le (by simp; omega) | skip)) (pv F6))
end Go.Dc
end
section
set_option linter.all false
namespace Go.Dc
open Go Go.Hw Go.Proofs
set_option maxRecDepth 100000

def ast_sameExpr_1 (rF135z : Expr → Expr → Option Bool) (a0 : Expr) (a1 : Expr) : Option Bool :=
  Option.bind (rF135z a0 a1) (fun y1 => some y1)

set_option maxHeartbeats 2000000 in
theorem at_ast_sameExpr_1 {rF135z : Expr → Expr → Option Bool} (ihrF135z : ∀ (a0 : Expr) (a1 : Expr) (r : Bool), rF135z a0 a1 = some r → At Tryd.prog 135 [.agg (eA a0), .agg (eA a1)] (bV r)) {a0 : Expr} {a1 : Expr} {r : Bool} (hs : ast_sameExpr_1 rF135z a0 a1 = some r) : At Tryd.prog 167 [.agg (eA a0), .agg (eA a1)] (bV r) := by
  refine at_bound (by kernel_rfl) fun hb => ?_
  have hb1 : LenOk (.sl a0.Args.length (encL a0.Args)) := lkc hb
  have hb2 : LenOk (.sl a1.Args.length (encL a1.Args)) := lkc hb
  refine at_code mixed Tryd.func167 (by kernel_rfl) rfl (by kernel_rfl) rfl fun Q hQ => ?_
  rw [ast_sameExpr_1] at hs
  refine goR f0 ?_
  revert hs; refine bK fun y1 hx2 hs => ?_
  refine cP f0 (ihrF135z _ _ _ hx2) ?_
  refine goR f0 ?_
  obtain rfl := sj hs
  exact hQ _ _ (rg f0 (Gh.refl _))
end Go.Dc
end
section
set_option linter.all false
namespace Go.Dc
open Go Go.Hw Go.Proofs
set_option maxRecDepth 100000
def slices_EqualFunc_api_Expr_ast_sameExpr_1_L1 (a1 : List Expr) (rF135z : Expr → Expr → Option Bool) : List Expr → Nat → Option (Unit ⊕ Bool)
  | [], k62 => some (.inl ())
  | x84 :: q80, k62 => Option.bind (a1[k62]?) (fun x87 => Option.bind (ast_sameExpr_1 rF135z x84 x87) (fun y90 => cond (!y90) (some (.inr false)) (slices_EqualFunc_api_Expr_ast_sameExpr_1_L1 a1 rF135z q80 (k62 + 1))))

def slices_EqualFunc_api_Expr_ast_sameExpr_1 (rF135z : Expr → Expr → Option Bool) (a0 : List Expr) (a1 : List Expr) : Option Bool :=
  cond (!(eqI ((a0.length : Nat) : Int) ((a1.length : Nat) : Int))) (some false) (Option.bind (α := Unit ⊕ Bool) (Option.bind (slices_EqualFunc_api_Expr_ast_sameExpr_1_L1 a1 rF135z a0 0) (fun o => match o with | .inl _ => some (.inl ()) | .inr r93 => some (.inr r93))) (fun o => match o with | .inl _ => some true | .inr r94 => some r94))

set_option maxHeartbeats 2000000 in
theorem at_slices_EqualFunc_api_Expr_ast_sameExpr_1 {rF135z : Expr → Expr → Option Bool} (ihrF135z : ∀ (a0 : Expr) (a1 : Expr) (r : Bool), rF135z a0 a1 = some r → At Tryd.prog 135 [.agg (eA a0), .agg (eA a1)] (bV r)) {a0 : List Expr} {a1 : List Expr} {r : Bool} (hs : slices_EqualFunc_api_Expr_ast_sameExpr_1 rF135z a0 a1 = some r) : At Tryd.prog 133 [.cell (sC a0), .cell (sC a1), .cell (.p (.c (.func (.func 167) #[] #[])))] (bV r) := by
  refine at_bound (by kernel_rfl) fun hb => ?_
  have hb1 : LenOk (.sl a0.length (encL a0)) := lkc hb
  have hb2 : LenOk (.sl a1.length (encL a1)) := lkc hb
  refine at_code mixed Tryd.func133 (by kernel_rfl) rfl (by kernel_rfl) rfl fun Q hQ => ?_
  rw [slices_EqualFunc_api_Expr_ast_sameExpr_1] at hs
  refine goR f0 ?_
  revert hs; refine cS f0 ?_ ?_ <;> intro h1 hs
  · refine goR f0 ?_
    obtain rfl := sj hs
    exact hQ _ _ (rg f0 (Gh.refl _))
  · refine goR2 f0 ?_
    revert hs; refine bK fun o47 e46 hs => ?_
    refine awp_cutK (fun (v : Unit) (σ : St) => some (.inl v) = some o47 ∧ 3 ≤ σ.gen) (by rfl) (fun Q hK48 hX49 => ?_) (fun v σ3 hp => ?_)
    · refine goR f0 ?_
      revert e46; refine bK fun o75 e74 e46 => ?_
      refine awp_loopW (fun (v : (List Expr) × Nat) (σ : St) => slices_EqualFunc_api_Expr_ast_sameExpr_1_L1 a1 rF135z v.1 v.2 = some o75 ∧ v.1 = a0.drop v.2 ∧ σ.env 1 = .cell (sC a1) ∧ σ.env 2 = .cell (.p (.c (.func (.func 167) #[] #[]))) ∧ σ.env 15 = .cell (sC a0) ∧ σ.env 16 = iV .i64 ((a0.length : Nat) : Int) ∧ σ.env 17 = iV .i64 ((v.2 : Nat) : Int) ∧ 3 ≤ σ.gen) (fun v => v.1.length) _ (Gh.refl _) (a0, 0) ⟨e74, by simp, pv f0, pv f0, pv f0, pv f0, pv f0, pg⟩ fun v σ6 hp L76 hL77 => ?_
      obtain ⟨q79, k62⟩ := v
      dsimp only at hp hL77
      obtain ⟨e74, hd78, h5_1, h5_2, h5_15, h5_16, h5_17, n5_g⟩ := hp
      rcases q79 with _ | ⟨x84, q80⟩
      · have hlt81 := drop_end hd78
        rw [slices_EqualFunc_api_Expr_ast_sameExpr_1_L1] at e74; try dsimp only at e74
        have F1 := an h5_1 (an h5_2 (an h5_15 (an h5_16 h5_17)))
        refine goR F1 ?_
        refine condK_f (by simp [ltI]; omega) ?_
        obtain rfl := sj e74
        try dsimp only at e46
        exact hK48 () _ _ (Gh.refl _) ⟨e46, pg⟩
      · obtain ⟨hx83, hlt81, hd85⟩ := drop_next hd78
        have ew82 := wrap_succ hlt81 (hb1).len
        rw [slices_EqualFunc_api_Expr_ast_sameExpr_1_L1] at e74; try dsimp only at e74
        have F2 := an h5_1 (an h5_2 (an h5_15 (an h5_16 (an h5_17 (an hlt81 ew82)))))
        refine goR F2 ?_
        refine condK_t (by simp [ltI]; omega) ?_
        have f86 : partCV Tryd.prog 50 (encL a0) (k62 * 5) = some (.agg (eA x84)) := partCV_enc hx83 (f := 0) (by simp)
        revert e74; refine bK fun x87 hx88 e74 => ?_
        have hx88b := getN_some hx88
        have f89 : partCV Tryd.prog 50 (encL a1) (k62 * 5) = some (.agg (eA x87)) := partCV_enc hx88 (f := 0) (by simp)
        have F3 := an F2 (an f86 f89)
        refine goR F3 ?_
        revert e74; refine bK fun y90 hx91 e74 => ?_
        refine cP F3 (at_ast_sameExpr_1 ihrF135z hx91) ?_
        refine goR F3 ?_
        revert e74; refine cS F3 ?_ ?_ <;> intro h92 e74
        · refine goR F3 ?_
          obtain rfl := sj e74
          try dsimp only at e46
          obtain rfl := sj e46
          try dsimp only at hs
          refine hX49 _ _ (by simp) ?_
          refine goR F3 ?_
          obtain rfl := sj hs
          exact hQ _ _ (rg F3 (Gh.refl _))
        · refine goR F3 ?_
          exact hL77 (q80, (k62 + 1)) _ _ (Gh.refl _) ⟨e74, hd85, pv F3, pv F3, pv F3, pv F3, pv F3, pg⟩ (by simp)
    · obtain ⟨e46, n4_g⟩ := hp
      obtain rfl := sj e46
      try dsimp only at hs
      refine goR f0 ?_
      obtain rfl := sj hs
      exact hQ _ _ (rg f0 (Gh.refl _))
end Go.Dc
end
section
set_option linter.all false
namespace Go.Dc
open Go Go.Hw Go.Proofs
set_option maxRecDepth 100000

def ast_sameExpr_B (rF135z : Expr → Expr → Option Bool) (a0 : Expr) (a1 : Expr) : Option Bool :=
  guardO (orB (!(andB (andB (andB (eqI a0.Kind a1.Kind) (eqI a0.N a1.N)) (eqS a0.Name a1.Name)) (eqI a0.Fn a1.Fn))) ((slices_EqualFunc_api_Expr_ast_sameExpr_1 rF135z a0.Args a1.Args).isSome)) (some (andB (andB (andB (andB (eqI a0.Kind a1.Kind) (eqI a0.N a1.N)) (eqS a0.Name a1.Name)) (eqI a0.Fn a1.Fn)) ((slices_EqualFunc_api_Expr_ast_sameExpr_1 rF135z a0.Args a1.Args).getD default)))

def ast_sameExpr : Nat → Expr → Expr → Option Bool
  | 0 => fun _ _ => none
  | fuelN + 1 => fun a0 a1 => ast_sameExpr_B (ast_sameExpr fuelN) a0 a1

set_option maxHeartbeats 2000000 in
theorem at_ast_sameExpr_B {rF135z : Expr → Expr → Option Bool} (ihrF135z : ∀ (a0 : Expr) (a1 : Expr) (r : Bool), rF135z a0 a1 = some r → At Tryd.prog 135 [.agg (eA a0), .agg (eA a1)] (bV r)) {a0 : Expr} {a1 : Expr} {r : Bool} (hs : ast_sameExpr_B rF135z a0 a1 = some r) : At Tryd.prog 135 [.agg (eA a0), .agg (eA a1)] (bV r) := by
  refine at_bound (by kernel_rfl) fun hb => ?_
  have hb1 : LenOk (.sl a0.Args.length (encL a0.Args)) := lkc hb
  have hb2 : LenOk (.sl a1.Args.length (encL a1.Args)) := lkc hb
  refine at_code mixed Tryd.func135 (by kernel_rfl) rfl (by kernel_rfl) rfl fun Q hQ => ?_
  rw [ast_sameExpr_B] at hs
  refine goG f0 f0 ?_
  obtain ⟨g1, hs⟩ := guardO_some hs
  refine gsel_call (fun hg => at_slices_EqualFunc_api_Expr_ast_sameExpr_1 ihrF135z (under_call g1 hg)) (fun hg => by (try simp at hg); (first | simp [hg, id]); try rfl) (fun hg => by (try simp at hg); simp [hg, id]) (by simp) ?_
  refine goG f0 f0 ?_
  obtain rfl := sj hs
  exact hQ _ _ (rg f0 (Gh.refl _))
theorem at_ast_sameExpr : ∀ {fuelN : Nat} {a0 : Expr} {a1 : Expr} {r : Bool} (hs : ast_sameExpr fuelN a0 a1 = some r), At Tryd.prog 135 [.agg (eA a0), .agg (eA a1)] (bV r)
  | 0, _, _, _, hs => by rw [ast_sameExpr] at hs; cases hs
  | n + 1, _, _, _, hs => by
    rw [ast_sameExpr] at hs
    exact at_ast_sameExpr_B (fun _ _ _ h => at_ast_sameExpr h) hs
end Go.Dc
end
section
set_option linter.all false
namespace Go.Dc
open Go Go.Hw Go.Proofs
set_option maxRecDepth 100000

def ast_sameStmt_2 (fuelN : Nat) (a0 : Expr) (a1 : Expr) : Option Bool :=
  Option.bind (ast_sameExpr fuelN a0 a1) (fun y1 => some y1)

set_option maxHeartbeats 2000000 in
theorem at_ast_sameStmt_2 {fuelN : Nat} {a0 : Expr} {a1 : Expr} {r : Bool} (hs : ast_sameStmt_2 fuelN a0 a1 = some r) : At Tryd.prog 134 [.agg (eA a0), .agg (eA a1)] (bV r) := by
  refine at_bound (by kernel_rfl) fun hb => ?_
  have hb1 : LenOk (.sl a0.Args.length (encL a0.Args)) := lkc hb
  have hb2 : LenOk (.sl a1.Args.length (encL a1.Args)) := lkc hb
  refine at_code mixed Tryd.func134 (by kernel_rfl) rfl (by kernel_rfl) rfl fun Q hQ => ?_
  rw [ast_sameStmt_2] at hs
  refine goR f0 ?_
  revert hs; refine bK fun y1 hx2 hs => ?_
  refine cP f0 (at_ast_sameExpr hx2) ?_
  refine goR f0 ?_
  obtain rfl := sj hs
  exact hQ _ _ (rg f0 (Gh.refl _))
end Go.Dc
end
section
set_option linter.all false
namespace Go.Dc
open Go Go.Hw Go.Proofs
set_option maxRecDepth 100000
def slices_EqualFunc_api_Expr_ast_sameStmt_2_L1 (fuelN : Nat) (a1 : List Expr) : List Expr → Nat → Option (Unit ⊕ Bool)
  | [], k62 => some (.inl ())
  | x84 :: q80, k62 => Option.bind (a1[k62]?) (fun x87 => Option.bind (ast_sameStmt_2 fuelN x84 x87) (fun y90 => cond (!y90) (some (.inr false)) (slices_EqualFunc_api_Expr_ast_sameStmt_2_L1 fuelN a1 q80 (k62 + 1))))

def slices_EqualFunc_api_Expr_ast_sameStmt_2 (fuelN : Nat) (a0 : List Expr) (a1 : List Expr) : Option Bool :=
  cond (!(eqI ((a0.length : Nat) : Int) ((a1.length : Nat) : Int))) (some false) (Option.bind (α := Unit ⊕ Bool) (Option.bind (slices_EqualFunc_api_Expr_ast_sameStmt_2_L1 fuelN a1 a0 0) (fun o => match o with | .inl _ => some (.inl ()) | .inr r93 => some (.inr r93))) (fun o => match o with | .inl _ => some true | .inr r94 => some r94))

set_option maxHeartbeats 2000000 in
theorem at_slices_EqualFunc_api_Expr_ast_sameStmt_2 {fuelN : Nat} {a0 : List Expr} {a1 : List Expr} {r : Bool} (hs : slices_EqualFunc_api_Expr_ast_sameStmt_2 fuelN a0 a1 = some r) : At Tryd.prog 133 [.cell (sC a0), .cell (sC a1), .cell (.p (.c (.func (.func 134) #[] #[])))] (bV r) := by
  refine at_bound (by kernel_rfl) fun hb => ?_
  have hb1 : LenOk (.sl a0.length (encL a0)) := lkc hb
  have hb2 : LenOk (.sl a1.length (encL a1)) := lkc hb
  refine at_code mixed Tryd.func133 (by kernel_rfl) rfl (by kernel_rfl) rfl fun Q hQ => ?_
  rw [slices_EqualFunc_api_Expr_ast_sameStmt_2] at hs
  refine goR f0 ?_
  revert hs; refine cS f0 ?_ ?_ <;> intro h1 hs
  · refine goR f0 ?_
    obtain rfl := sj hs
    exact hQ _ _ (rg f0 (Gh.refl _))
  · refine goR2 f0 ?_
    revert hs; refine bK fun o47 e46 hs => ?_
    refine awp_cutK (fun (v : Unit) (σ : St) => some (.inl v) = some o47 ∧ 3 ≤ σ.gen) (by rfl) (fun Q hK48 hX49 => ?_) (fun v σ3 hp => ?_)
    · refine goR f0 ?_
      revert e46; refine bK fun o75 e74 e46 => ?_
      refine awp_loopW (fun (v : (List Expr) × Nat) (σ : St) => slices_EqualFunc_api_Expr_ast_sameStmt_2_L1 fuelN a1 v.1 v.2 = some o75 ∧ v.1 = a0.drop v.2 ∧ σ.env 1 = .cell (sC a1) ∧ σ.env 2 = .cell (.p (.c (.func (.func 134) #[] #[]))) ∧ σ.env 15 = .cell (sC a0) ∧ σ.env 16 = iV .i64 ((a0.length : Nat) : Int) ∧ σ.env 17 = iV .i64 ((v.2 : Nat) : Int) ∧ 3 ≤ σ.gen) (fun v => v.1.length) _ (Gh.refl _) (a0, 0) ⟨e74, by simp, pv f0, pv f0, pv f0, pv f0, pv f0, pg⟩ fun v σ6 hp L76 hL77 => ?_
      obtain ⟨q79, k62⟩ := v
      dsimp only at hp hL77
      obtain ⟨e74, hd78, h5_1, h5_2, h5_15, h5_16, h5_17, n5_g⟩ := hp
      rcases q79 with _ | ⟨x84, q80⟩
      · have hlt81 := drop_end hd78
        rw [slices_EqualFunc_api_Expr_ast_sameStmt_2_L1] at e74; try dsimp only at e74
        have F1 := an h5_1 (an h5_2 (an h5_15 (an h5_16 h5_17)))
        refine goR F1 ?_
        refine condK_f (by simp [ltI]; omega) ?_
        obtain rfl := sj e74
        try dsimp only at e46
        exact hK48 () _ _ (Gh.refl _) ⟨e46, pg⟩
      · obtain ⟨hx83, hlt81, hd85⟩ := drop_next hd78
        have ew82 := wrap_succ hlt81 (hb1).len
        rw [slices_EqualFunc_api_Expr_ast_sameStmt_2_L1] at e74; try dsimp only at e74
        have F2 := an h5_1 (an h5_2 (an h5_15 (an h5_16 (an h5_17 (an hlt81 ew82)))))
        refine goR F2 ?_
        refine condK_t (by simp [ltI]; omega) ?_
        have f86 : partCV Tryd.prog 50 (encL a0) (k62 * 5) = some (.agg (eA x84)) := partCV_enc hx83 (f := 0) (by simp)
        revert e74; refine bK fun x87 hx88 e74 => ?_
        have hx88b := getN_some hx88
        have f89 : partCV Tryd.prog 50 (encL a1) (k62 * 5) = some (.agg (eA x87)) := partCV_enc hx88 (f := 0) (by simp)
        have F3 := an F2 (an f86 f89)
        refine goR F3 ?_
        revert e74; refine bK fun y90 hx91 e74 => ?_
        refine cP F3 (at_ast_sameStmt_2 hx91) ?_
        refine goR F3 ?_
        revert e74; refine cS F3 ?_ ?_ <;> intro h92 e74
        · refine goR F3 ?_
          obtain rfl := sj e74
          try dsimp only at e46
          obtain rfl := sj e46
          try dsimp only at hs
          refine hX49 _ _ (by simp) ?_
          refine goR F3 ?_
          obtain rfl := sj hs
          exact hQ _ _ (rg F3 (Gh.refl _))
        · refine goR F3 ?_
          exact hL77 (q80, (k62 + 1)) _ _ (Gh.refl _) ⟨e74, hd85, pv F3, pv F3, pv F3, pv F3, pv F3, pg⟩ (by simp)
    · obtain ⟨e46, n4_g⟩ := hp
      obtain rfl := sj e46
      try dsimp only at hs
      refine goR f0 ?_
      obtain rfl := sj hs
      exact hQ _ _ (rg f0 (Gh.refl _))
end Go.Dc
end
section
set_option linter.all false
namespace Go.Dc
open Go Go.Hw Go.Proofs
set_option maxRecDepth 100000

def ast_sameStmt_1_1 (rF93z : Stmt → Stmt → Option Bool) (a0 : Stmt) (a1 : Stmt) : Option Bool :=
  Option.bind (rF93z a0 a1) (fun y1 => some y1)

set_option maxHeartbeats 2000000 in
theorem at_ast_sameStmt_1_1 {rF93z : Stmt → Stmt → Option Bool} (ihrF93z : ∀ (a0 : Stmt) (a1 : Stmt) (r : Bool), rF93z a0 a1 = some r → At Tryd.prog 93 [.agg (eA a0), .agg (eA a1)] (bV r)) {a0 : Stmt} {a1 : Stmt} {r : Bool} (hs : ast_sameStmt_1_1 rF93z a0 a1 = some r) : At Tryd.prog 132 [.agg (eA a0), .agg (eA a1)] (bV r) := by
  refine at_bound (by kernel_rfl) fun hb => ?_
  have hb1 : LenOk (.sl a0.Exprs.length (encL a0.Exprs)) := lkc hb
  have hb2 : LenOk (.sl a0.Body.length (encL a0.Body)) := lkc hb
  have hb3 : LenOk (.sl a0.Else.length (encL a0.Else)) := lkc hb
  have hb4 : LenOk (.sl a1.Exprs.length (encL a1.Exprs)) := lkc hb
  have hb5 : LenOk (.sl a1.Body.length (encL a1.Body)) := lkc hb
  have hb6 : LenOk (.sl a1.Else.length (encL a1.Else)) := lkc hb
  refine at_code mixed Tryd.func132 (by kernel_rfl) rfl (by kernel_rfl) rfl fun Q hQ => ?_
  rw [ast_sameStmt_1_1] at hs
  refine goR f0 ?_
  revert hs; refine bK fun y1 hx2 hs => ?_
  refine cP f0 (ihrF93z _ _ _ hx2) ?_
  refine goR f0 ?_
  obtain rfl := sj hs
  exact hQ _ _ (rg f0 (Gh.refl _))
end Go.Dc
end
section
set_option linter.all false
namespace Go.Dc
open Go Go.Hw Go.Proofs
set_option maxRecDepth 100000
def slices_EqualFunc_api_Stmt_ast_sameStmt_1_1_L1 (a1 : List Stmt) (rF93z : Stmt → Stmt → Option Bool) : List Stmt → Nat → Option (Unit ⊕ Bool)
  | [], k62 => some (.inl ())
  | x84 :: q80, k62 => Option.bind (a1[k62]?) (fun x87 => Option.bind (ast_sameStmt_1_1 rF93z x84 x87) (fun y90 => cond (!y90) (some (.inr false)) (slices_EqualFunc_api_Stmt_ast_sameStmt_1_1_L1 a1 rF93z q80 (k62 + 1))))

def slices_EqualFunc_api_Stmt_ast_sameStmt_1_1 (rF93z : Stmt → Stmt → Option Bool) (a0 : List Stmt) (a1 : List Stmt) : Option Bool :=
  cond (!(eqI ((a0.length : Nat) : Int) ((a1.length : Nat) : Int))) (some false) (Option.bind (α := Unit ⊕ Bool) (Option.bind (slices_EqualFunc_api_Stmt_ast_sameStmt_1_1_L1 a1 rF93z a0 0) (fun o => match o with | .inl _ => some (.inl ()) | .inr r93 => some (.inr r93))) (fun o => match o with | .inl _ => some true | .inr r94 => some r94))

set_option maxHeartbeats 2000000 in
theorem at_slices_EqualFunc_api_Stmt_ast_sameStmt_1_1 {rF93z : Stmt → Stmt → Option Bool} (ihrF93z : ∀ (a0 : Stmt) (a1 : Stmt) (r : Bool), rF93z a0 a1 = some r → At Tryd.prog 93 [.agg (eA a0), .agg (eA a1)] (bV r)) {a0 : List Stmt} {a1 : List Stmt} {r : Bool} (hs : slices_EqualFunc_api_Stmt_ast_sameStmt_1_1 rF93z a0 a1 = some r) : At Tryd.prog 91 [.cell (sC a0), .cell (sC a1), .cell (.p (.c (.func (.func 132) #[] #[])))] (bV r) := by
  refine at_bound (by kernel_rfl) fun hb => ?_
  have hb1 : LenOk (.sl a0.length (encL a0)) := lkc hb
  have hb2 : LenOk (.sl a1.length (encL a1)) := lkc hb
  refine at_code mixed Tryd.func91 (by kernel_rfl) rfl (by kernel_rfl) rfl fun Q hQ => ?_
  rw [slices_EqualFunc_api_Stmt_ast_sameStmt_1_1] at hs
  refine goR f0 ?_
  revert hs; refine cS f0 ?_ ?_ <;> intro h1 hs
  · refine goR f0 ?_
    obtain rfl := sj hs
    exact hQ _ _ (rg f0 (Gh.refl _))
  · refine goR2 f0 ?_
    revert hs; refine bK fun o47 e46 hs => ?_
    refine awp_cutK (fun (v : Unit) (σ : St) => some (.inl v) = some o47 ∧ 3 ≤ σ.gen) (by rfl) (fun Q hK48 hX49 => ?_) (fun v σ3 hp => ?_)
    · refine goR f0 ?_
      revert e46; refine bK fun o75 e74 e46 => ?_
      refine awp_loopW (fun (v : (List Stmt) × Nat) (σ : St) => slices_EqualFunc_api_Stmt_ast_sameStmt_1_1_L1 a1 rF93z v.1 v.2 = some o75 ∧ v.1 = a0.drop v.2 ∧ σ.env 1 = .cell (sC a1) ∧ σ.env 2 = .cell (.p (.c (.func (.func 132) #[] #[]))) ∧ σ.env 15 = .cell (sC a0) ∧ σ.env 16 = iV .i64 ((a0.length : Nat) : Int) ∧ σ.env 17 = iV .i64 ((v.2 : Nat) : Int) ∧ 3 ≤ σ.gen) (fun v => v.1.length) _ (Gh.refl _) (a0, 0) ⟨e74, by simp, pv f0, pv f0, pv f0, pv f0, pv f0, pg⟩ fun v σ6 hp L76 hL77 => ?_
      obtain ⟨q79, k62⟩ := v
      dsimp only at hp hL77
      obtain ⟨e74, hd78, h5_1, h5_2, h5_15, h5_16, h5_17, n5_g⟩ := hp
      rcases q79 with _ | ⟨x84, q80⟩
      · have hlt81 := drop_end hd78
        rw [slices_EqualFunc_api_Stmt_ast_sameStmt_1_1_L1] at e74; try dsimp only at e74
        have F1 := an h5_1 (an h5_2 (an h5_15 (an h5_16 h5_17)))
        refine goR F1 ?_
        refine condK_f (by simp [ltI]; omega) ?_
        obtain rfl := sj e74
        try dsimp only at e46
        exact hK48 () _ _ (Gh.refl _) ⟨e46, pg⟩
      · obtain ⟨hx83, hlt81, hd85⟩ := drop_next hd78
        have ew82 := wrap_succ hlt81 (hb1).len
        rw [slices_EqualFunc_api_Stmt_ast_sameStmt_1_1_L1] at e74; try dsimp only at e74
        have F2 := an h5_1 (an h5_2 (an h5_15 (an h5_16 (an h5_17 (an hlt81 ew82)))))
        refine goR F2 ?_
        refine condK_t (by simp [ltI]; omega) ?_
        have f86 : partCV Tryd.prog 67 (encL a0) (k62 * 9) = some (.agg (eA x84)) := partCV_enc hx83 (f := 0) (by simp)
        revert e74; refine bK fun x87 hx88 e74 => ?_
        have hx88b := getN_some hx88
        have f89 : partCV Tryd.prog 67 (encL a1) (k62 * 9) = some (.agg (eA x87)) := partCV_enc hx88 (f := 0) (by simp)
        have F3 := an F2 (an f86 f89)
        refine goR F3 ?_
        revert e74; refine bK fun y90 hx91 e74 => ?_
        refine cP F3 (at_ast_sameStmt_1_1 ihrF93z hx91) ?_
        refine goR F3 ?_
        revert e74; refine cS F3 ?_ ?_ <;> intro h92 e74
        · refine goR F3 ?_
          obtain rfl := sj e74
          try dsimp only at e46
          obtain rfl := sj e46
          try dsimp only at hs
          refine hX49 _ _ (by simp) ?_
          refine goR F3 ?_
          obtain rfl := sj hs
          exact hQ _ _ (rg F3 (Gh.refl _))
        · refine goR F3 ?_
          exact hL77 (q80, (k62 + 1)) _ _ (Gh.refl _) ⟨e74, hd85, pv F3, pv F3, pv F3, pv F3, pv F3, pg⟩ (by simp)
    · obtain ⟨e46, n4_g⟩ := hp
      obtain rfl := sj e46
      try dsimp only at hs
      refine goR f0 ?_
      obtain rfl := sj hs
      exact hQ _ _ (rg f0 (Gh.refl _))
end Go.Dc
end
section
set_option linter.all false
namespace Go.Dc
open Go Go.Hw Go.Proofs
set_option maxRecDepth 100000

def ast_sameStmt_1 (rF93z : Stmt → Stmt → Option Bool) (a0 : List Stmt) (a1 : List Stmt) : Option Bool :=
  Option.bind (slices_EqualFunc_api_Stmt_ast_sameStmt_1_1 rF93z a0 a1) (fun y1 => some y1)

set_option maxHeartbeats 2000000 in
theorem at_ast_sameStmt_1 {rF93z : Stmt → Stmt → Option Bool} (ihrF93z : ∀ (a0 : Stmt) (a1 : Stmt) (r : Bool), rF93z a0 a1 = some r → At Tryd.prog 93 [.agg (eA a0), .agg (eA a1)] (bV r)) {a0 : List Stmt} {a1 : List Stmt} {r : Bool} (hs : ast_sameStmt_1 rF93z a0 a1 = some r) : At Tryd.prog 131 [.cell (sC a0), .cell (sC a1)] (bV r) := by
  refine at_bound (by kernel_rfl) fun hb => ?_
  have hb1 : LenOk (.sl a0.length (encL a0)) := lkc hb
  have hb2 : LenOk (.sl a1.length (encL a1)) := lkc hb
  refine at_code mixed Tryd.func131 (by kernel_rfl) rfl (by kernel_rfl) rfl fun Q hQ => ?_
  rw [ast_sameStmt_1] at hs
  refine goR f0 ?_
  revert hs; refine bK fun y1 hx2 hs => ?_
  refine cP f0 (at_slices_EqualFunc_api_Stmt_ast_sameStmt_1_1 ihrF93z hx2) ?_
  refine goR f0 ?_
  obtain rfl := sj hs
  exact hQ _ _ (rg f0 (Gh.refl _))
end Go.Dc
end
section
set_option linter.all false
namespace Go.Dc
open Go Go.Hw Go.Proofs
set_option maxRecDepth 100000

def ast_sameStmt_B (rF93z : Stmt → Stmt → Option Bool) (fuelN : Nat) (a0 : Stmt) (a1 : Stmt) : Option Bool :=
  cond (orB (orB (orB (orB (orB (!(eqI a0.Kind a1.Kind)) (!(eqS a0.Name a1.Name))) (!(eqS a0.Obj a1.Obj))) (!(eqS a0.Other a1.Other))) (!(eqI a0.Fn a1.Fn))) (!(eqI a0.Order a1.Order))) (some false) (Option.bind (slices_EqualFunc_api_Expr_ast_sameStmt_2 fuelN a0.Exprs a1.Exprs) (fun y2 => cond y2 (Option.bind (ast_sameStmt_1 rF93z a0.Body a1.Body) (fun y5 => cond y5 (Option.bind (ast_sameStmt_1 rF93z a0.Else a1.Else) (fun y8 => some y8)) (some false))) (some false)))

def ast_sameStmt : Nat → Stmt → Stmt → Option Bool
  | 0 => fun _ _ => none
  | fuelN + 1 => fun a0 a1 => ast_sameStmt_B (ast_sameStmt fuelN) fuelN a0 a1

set_option maxHeartbeats 2000000 in
theorem at_ast_sameStmt_B {rF93z : Stmt → Stmt → Option Bool} (ihrF93z : ∀ (a0 : Stmt) (a1 : Stmt) (r : Bool), rF93z a0 a1 = some r → At Tryd.prog 93 [.agg (eA a0), .agg (eA a1)] (bV r)) {fuelN : Nat} {a0 : Stmt} {a1 : Stmt} {r : Bool} (hs : ast_sameStmt_B rF93z fuelN a0 a1 = some r) : At Tryd.prog 93 [.agg (eA a0), .agg (eA a1)] (bV r) := by
  refine at_bound (by kernel_rfl) fun hb => ?_
  have hb1 : LenOk (.sl a0.Exprs.length (encL a0.Exprs)) := lkc hb
  have hb2 : LenOk (.sl a0.Body.length (encL a0.Body)) := lkc hb
  have hb3 : LenOk (.sl a0.Else.length (encL a0.Else)) := lkc hb
  have hb4 : LenOk (.sl a1.Exprs.length (encL a1.Exprs)) := lkc hb
  have hb5 : LenOk (.sl a1.Body.length (encL a1.Body)) := lkc hb
  have hb6 : LenOk (.sl a1.Else.length (encL a1.Else)) := lkc hb
  refine at_code mixed Tryd.func93 (by kernel_rfl) rfl (by kernel_rfl) rfl fun Q hQ => ?_
  rw [ast_sameStmt_B] at hs
  refine goG f0 f0 ?_
  revert hs; refine cS f0 ?_ ?_ <;> intro h1 hs
  · refine goG f0 f0 ?_
    obtain rfl := sj hs
    exact hQ _ _ (rg f0 (Gh.refl _))
  · refine goG f0 f0 ?_
    revert hs; refine bK fun y2 hx3 hs => ?_
    refine cP f0 (at_slices_EqualFunc_api_Expr_ast_sameStmt_2 hx3) ?_
    refine goG f0 f0 ?_
    refine gsel_split (fun h4 => ?_) (fun h4 => ?_)
    · replace hs := condT h4 hs
      refine goG h4 h4 ?_
      revert hs; refine bK fun y5 hx6 hs => ?_
      refine cP h4 (at_ast_sameStmt_1 ihrF93z hx6) ?_
      refine goG h4 h4 ?_
      refine gsel_split (fun h7 => ?_) (fun h7 => ?_)
      · replace hs := condT h7 hs
        have F1 := an h4 h7
        refine goG F1 F1 ?_
        revert hs; refine bK fun y8 hx9 hs => ?_
        refine cP F1 (at_ast_sameStmt_1 ihrF93z hx9) ?_
        refine goG F1 F1 ?_
        obtain rfl := sj hs
        exact hQ _ _ (rg F1 (Gh.refl _))
      · replace hs := condF h7 hs
        have F2 := an h4 h7
        refine goG F2 F2 ?_
        obtain rfl := sj hs
        exact hQ _ _ (rg F2 (Gh.refl _))
    · replace hs := condF h4 hs
      refine goG h4 h4 ?_
      obtain rfl := sj hs
      exact hQ _ _ (rg h4 (Gh.refl _))
theorem at_ast_sameStmt : ∀ {fuelN : Nat} {a0 : Stmt} {a1 : Stmt} {r : Bool} (hs : ast_sameStmt fuelN a0 a1 = some r), At Tryd.prog 93 [.agg (eA a0), .agg (eA a1)] (bV r)
  | 0, _, _, _, hs => by rw [ast_sameStmt] at hs; cases hs
  | n + 1, _, _, _, hs => by
    rw [ast_sameStmt] at hs
    exact at_ast_sameStmt_B (fun _ _ _ h => at_ast_sameStmt h) hs
end Go.Dc
end
section
set_option linter.all false
namespace Go.Dc
open Go Go.Hw Go.Proofs
set_option maxRecDepth 100000

def ast_Equal_1_1 (fuelN : Nat) (a0 : Stmt) (a1 : Stmt) : Option Bool :=
  Option.bind (ast_sameStmt fuelN a0 a1) (fun y1 => some y1)

set_option maxHeartbeats 2000000 in
theorem at_ast_Equal_1_1 {fuelN : Nat} {a0 : Stmt} {a1 : Stmt} {r : Bool} (hs : ast_Equal_1_1 fuelN a0 a1 = some r) : At Tryd.prog 92 [.agg (eA a0), .agg (eA a1)] (bV r) := by
  refine at_bound (by kernel_rfl) fun hb => ?_
  have hb1 : LenOk (.sl a0.Exprs.length (encL a0.Exprs)) := lkc hb
  have hb2 : LenOk (.sl a0.Body.length (encL a0.Body)) := lkc hb
  have hb3 : LenOk (.sl a0.Else.length (encL a0.Else)) := lkc hb
  have hb4 : LenOk (.sl a1.Exprs.length (encL a1.Exprs)) := lkc hb
  have hb5 : LenOk (.sl a1.Body.length (encL a1.Body)) := lkc hb
  have hb6 : LenOk (.sl a1.Else.length (encL a1.Else)) := lkc hb
  refine at_code mixed Tryd.func92 (by kernel_rfl) rfl (by kernel_rfl) rfl fun Q hQ => ?_
  rw [ast_Equal_1_1] at hs
  refine goR f0 ?_
  revert hs; refine bK fun y1 hx2 hs => ?_
  refine cP f0 (at_ast_sameStmt hx2) ?_
  refine goR f0 ?_
  obtain rfl := sj hs
  exact hQ _ _ (rg f0 (Gh.refl _))
end Go.Dc
end
section
set_option linter.all false
namespace Go.Dc
open Go Go.Hw Go.Proofs
set_option maxRecDepth 100000
def slices_EqualFunc_api_Stmt_ast_Equal_1_1_L1 (fuelN : Nat) (a1 : List Stmt) : List Stmt → Nat → Option (Unit ⊕ Bool)
  | [], k62 => some (.inl ())
  | x84 :: q80, k62 => Option.bind (a1[k62]?) (fun x87 => Option.bind (ast_Equal_1_1 fuelN x84 x87) (fun y90 => cond (!y90) (some (.inr false)) (slices_EqualFunc_api_Stmt_ast_Equal_1_1_L1 fuelN a1 q80 (k62 + 1))))

def slices_EqualFunc_api_Stmt_ast_Equal_1_1 (fuelN : Nat) (a0 : List Stmt) (a1 : List Stmt) : Option Bool :=
  cond (!(eqI ((a0.length : Nat) : Int) ((a1.length : Nat) : Int))) (some false) (Option.bind (α := Unit ⊕ Bool) (Option.bind (slices_EqualFunc_api_Stmt_ast_Equal_1_1_L1 fuelN a1 a0 0) (fun o => match o with | .inl _ => some (.inl ()) | .inr r93 => some (.inr r93))) (fun o => match o with | .inl _ => some true | .inr r94 => some r94))

set_option maxHeartbeats 2000000 in
theorem at_slices_EqualFunc_api_Stmt_ast_Equal_1_1 {fuelN : Nat} {a0 : List Stmt} {a1 : List Stmt} {r : Bool} (hs : slices_EqualFunc_api_Stmt_ast_Equal_1_1 fuelN a0 a1 = some r) : At Tryd.prog 91 [.cell (sC a0), .cell (sC a1), .cell (.p (.c (.func (.func 92) #[] #[])))] (bV r) := by
  refine at_bound (by kernel_rfl) fun hb => ?_
  have hb1 : LenOk (.sl a0.length (encL a0)) := lkc hb
  have hb2 : LenOk (.sl a1.length (encL a1)) := lkc hb
  refine at_code mixed Tryd.func91 (by kernel_rfl) rfl (by kernel_rfl) rfl fun Q hQ => ?_
  rw [slices_EqualFunc_api_Stmt_ast_Equal_1_1] at hs
  refine goR f0 ?_
  revert hs; refine cS f0 ?_ ?_ <;> intro h1 hs
  · refine goR f0 ?_
    obtain rfl := sj hs
    exact hQ _ _ (rg f0 (Gh.refl _))
  · refine goR2 f0 ?_
    revert hs; refine bK fun o47 e46 hs => ?_
    refine awp_cutK (fun (v : Unit) (σ : St) => some (.inl v) = some o47 ∧ 3 ≤ σ.gen) (by rfl) (fun Q hK48 hX49 => ?_) (fun v σ3 hp => ?_)
    · refine goR f0 ?_
      revert e46; refine bK fun o75 e74 e46 => ?_
      refine awp_loopW (fun (v : (List Stmt) × Nat) (σ : St) => slices_EqualFunc_api_Stmt_ast_Equal_1_1_L1 fuelN a1 v.1 v.2 = some o75 ∧ v.1 = a0.drop v.2 ∧ σ.env 1 = .cell (sC a1) ∧ σ.env 2 = .cell (.p (.c (.func (.func 92) #[] #[]))) ∧ σ.env 15 = .cell (sC a0) ∧ σ.env 16 = iV .i64 ((a0.length : Nat) : Int) ∧ σ.env 17 = iV .i64 ((v.2 : Nat) : Int) ∧ 3 ≤ σ.gen) (fun v => v.1.length) _ (Gh.refl _) (a0, 0) ⟨e74, by simp, pv f0, pv f0, pv f0, pv f0, pv f0, pg⟩ fun v σ6 hp L76 hL77 => ?_
      obtain ⟨q79, k62⟩ := v
      dsimp only at hp hL77
      obtain ⟨e74, hd78, h5_1, h5_2, h5_15, h5_16, h5_17, n5_g⟩ := hp
      rcases q79 with _ | ⟨x84, q80⟩
      · have hlt81 := drop_end hd78
        rw [slices_EqualFunc_api_Stmt_ast_Equal_1_1_L1] at e74; try dsimp only at e74
        have F1 := an h5_1 (an h5_2 (an h5_15 (an h5_16 h5_17)))
        refine goR F1 ?_
        refine condK_f (by simp [ltI]; omega) ?_
        obtain rfl := sj e74
        try dsimp only at e46
        exact hK48 () _ _ (Gh.refl _) ⟨e46, pg⟩
      · obtain ⟨hx83, hlt81, hd85⟩ := drop_next hd78
        have ew82 := wrap_succ hlt81 (hb1).len
        rw [slices_EqualFunc_api_Stmt_ast_Equal_1_1_L1] at e74; try dsimp only at e74
        have F2 := an h5_1 (an h5_2 (an h5_15 (an h5_16 (an h5_17 (an hlt81 ew82)))))
        refine goR F2 ?_
        refine condK_t (by simp [ltI]; omega) ?_
        have f86 : partCV Tryd.prog 67 (encL a0) (k62 * 9) = some (.agg (eA x84)) := partCV_enc hx83 (f := 0) (by simp)
        revert e74; refine bK fun x87 hx88 e74 => ?_
        have hx88b := getN_some hx88
        have f89 : partCV Tryd.prog 67 (encL a1) (k62 * 9) = some (.agg (eA x87)) := partCV_enc hx88 (f := 0) (by simp)
        have F3 := an F2 (an f86 f89)
        refine goR F3 ?_
        revert e74; refine bK fun y90 hx91 e74 => ?_
        refine cP F3 (at_ast_Equal_1_1 hx91) ?_
        refine goR F3 ?_
        revert e74; refine cS F3 ?_ ?_ <;> intro h92 e74
        · refine goR F3 ?_
          obtain rfl := sj e74
          try dsimp only at e46
          obtain rfl := sj e46
          try dsimp only at hs
          refine hX49 _ _ (by simp) ?_
          refine goR F3 ?_
          obtain rfl := sj hs
          exact hQ _ _ (rg F3 (Gh.refl _))
        · refine goR F3 ?_
          exact hL77 (q80, (k62 + 1)) _ _ (Gh.refl _) ⟨e74, hd85, pv F3, pv F3, pv F3, pv F3, pv F3, pg⟩ (by simp)
    · obtain ⟨e46, n4_g⟩ := hp
      obtain rfl := sj e46
      try dsimp only at hs
      refine goR f0 ?_
      obtain rfl := sj hs
      exact hQ _ _ (rg f0 (Gh.refl _))
end Go.Dc
end
section
set_option linter.all false
namespace Go.Dc
open Go Go.Hw Go.Proofs
set_option maxRecDepth 100000

def ast_Equal_1 (fuelN : Nat) (a0 : Proc) (a1 : Proc) : Option Bool :=
  guardO (orB (!(andB (eqS a0.Name a1.Name) (eqS a0.Param a1.Param))) ((slices_EqualFunc_api_Stmt_ast_Equal_1_1 fuelN a0.Body a1.Body).isSome)) (some (andB (andB (eqS a0.Name a1.Name) (eqS a0.Param a1.Param)) ((slices_EqualFunc_api_Stmt_ast_Equal_1_1 fuelN a0.Body a1.Body).getD default)))

set_option maxHeartbeats 2000000 in
theorem at_ast_Equal_1 {fuelN : Nat} {a0 : Proc} {a1 : Proc} {r : Bool} (hs : ast_Equal_1 fuelN a0 a1 = some r) : At Tryd.prog 90 [.agg (eA a0), .agg (eA a1)] (bV r) := by
  refine at_bound (by kernel_rfl) fun hb => ?_
  have hb1 : LenOk (.sl a0.Body.length (encL a0.Body)) := lkc hb
  have hb2 : LenOk (.sl a1.Body.length (encL a1.Body)) := lkc hb
  refine at_code mixed Tryd.func90 (by kernel_rfl) rfl (by kernel_rfl) rfl fun Q hQ => ?_
  rw [ast_Equal_1] at hs
  refine goG f0 f0 ?_
  obtain ⟨g1, hs⟩ := guardO_some hs
  refine gsel_call (fun hg => at_slices_EqualFunc_api_Stmt_ast_Equal_1_1 (under_call g1 hg)) (fun hg => by (try simp at hg); (first | simp [hg, id]); try rfl) (fun hg => by (try simp at hg); simp [hg, id]) (by simp) ?_
  refine goG f0 f0 ?_
  obtain rfl := sj hs
  exact hQ _ _ (rg f0 (Gh.refl _))
end Go.Dc
end
section
set_option linter.all false
namespace Go.Dc
open Go Go.Hw Go.Proofs
set_option maxRecDepth 100000
def slices_EqualFunc_api_Proc_ast_Equal_1_L1 (fuelN : Nat) (a1 : List Proc) : List Proc → Nat → Option (Unit ⊕ Bool)
  | [], k62 => some (.inl ())
  | x84 :: q80, k62 => Option.bind (a1[k62]?) (fun x87 => Option.bind (ast_Equal_1 fuelN x84 x87) (fun y90 => cond (!y90) (some (.inr false)) (slices_EqualFunc_api_Proc_ast_Equal_1_L1 fuelN a1 q80 (k62 + 1))))

def slices_EqualFunc_api_Proc_ast_Equal_1 (fuelN : Nat) (a0 : List Proc) (a1 : List Proc) : Option Bool :=
  cond (!(eqI ((a0.length : Nat) : Int) ((a1.length : Nat) : Int))) (some false) (Option.bind (α := Unit ⊕ Bool) (Option.bind (slices_EqualFunc_api_Proc_ast_Equal_1_L1 fuelN a1 a0 0) (fun o => match o with | .inl _ => some (.inl ()) | .inr r93 => some (.inr r93))) (fun o => match o with | .inl _ => some true | .inr r94 => some r94))

set_option maxHeartbeats 2000000 in
theorem at_slices_EqualFunc_api_Proc_ast_Equal_1 {fuelN : Nat} {a0 : List Proc} {a1 : List Proc} {r : Bool} (hs : slices_EqualFunc_api_Proc_ast_Equal_1 fuelN a0 a1 = some r) : At Tryd.prog 89 [.cell (sC a0), .cell (sC a1), .cell (.p (.c (.func (.func 90) #[] #[])))] (bV r) := by
  refine at_bound (by kernel_rfl) fun hb => ?_
  have hb1 : LenOk (.sl a0.length (encL a0)) := lkc hb
  have hb2 : LenOk (.sl a1.length (encL a1)) := lkc hb
  refine at_code mixed Tryd.func89 (by kernel_rfl) rfl (by kernel_rfl) rfl fun Q hQ => ?_
  rw [slices_EqualFunc_api_Proc_ast_Equal_1] at hs
  refine goR f0 ?_
  revert hs; refine cS f0 ?_ ?_ <;> intro h1 hs
  · refine goR f0 ?_
    obtain rfl := sj hs
    exact hQ _ _ (rg f0 (Gh.refl _))
  · refine goR2 f0 ?_
    revert hs; refine bK fun o47 e46 hs => ?_
    refine awp_cutK (fun (v : Unit) (σ : St) => some (.inl v) = some o47 ∧ 3 ≤ σ.gen) (by rfl) (fun Q hK48 hX49 => ?_) (fun v σ3 hp => ?_)
    · refine goR f0 ?_
      revert e46; refine bK fun o75 e74 e46 => ?_
      refine awp_loopW (fun (v : (List Proc) × Nat) (σ : St) => slices_EqualFunc_api_Proc_ast_Equal_1_L1 fuelN a1 v.1 v.2 = some o75 ∧ v.1 = a0.drop v.2 ∧ σ.env 1 = .cell (sC a1) ∧ σ.env 2 = .cell (.p (.c (.func (.func 90) #[] #[]))) ∧ σ.env 15 = .cell (sC a0) ∧ σ.env 16 = iV .i64 ((a0.length : Nat) : Int) ∧ σ.env 17 = iV .i64 ((v.2 : Nat) : Int) ∧ 3 ≤ σ.gen) (fun v => v.1.length) _ (Gh.refl _) (a0, 0) ⟨e74, by simp, pv f0, pv f0, pv f0, pv f0, pv f0, pg⟩ fun v σ6 hp L76 hL77 => ?_
      obtain ⟨q79, k62⟩ := v
      dsimp only at hp hL77
      obtain ⟨e74, hd78, h5_1, h5_2, h5_15, h5_16, h5_17, n5_g⟩ := hp
      rcases q79 with _ | ⟨x84, q80⟩
      · have hlt81 := drop_end hd78
        rw [slices_EqualFunc_api_Proc_ast_Equal_1_L1] at e74; try dsimp only at e74
        have F1 := an h5_1 (an h5_2 (an h5_15 (an h5_16 h5_17)))
        refine goR F1 ?_
        refine condK_f (by simp [ltI]; omega) ?_
        obtain rfl := sj e74
        try dsimp only at e46
        exact hK48 () _ _ (Gh.refl _) ⟨e46, pg⟩
      · obtain ⟨hx83, hlt81, hd85⟩ := drop_next hd78
        have ew82 := wrap_succ hlt81 (hb1).len
        rw [slices_EqualFunc_api_Proc_ast_Equal_1_L1] at e74; try dsimp only at e74
        have F2 := an h5_1 (an h5_2 (an h5_15 (an h5_16 (an h5_17 (an hlt81 ew82)))))
        refine goR F2 ?_
        refine condK_t (by simp [ltI]; omega) ?_
        have f86 : partCV Tryd.prog 57 (encL a0) (k62 * 3) = some (.agg (eA x84)) := partCV_enc hx83 (f := 0) (by simp)
        revert e74; refine bK fun x87 hx88 e74 => ?_
        have hx88b := getN_some hx88
        have f89 : partCV Tryd.prog 57 (encL a1) (k62 * 3) = some (.agg (eA x87)) := partCV_enc hx88 (f := 0) (by simp)
        have F3 := an F2 (an f86 f89)
        refine goR F3 ?_
        revert e74; refine bK fun y90 hx91 e74 => ?_
        refine cP F3 (at_ast_Equal_1 hx91) ?_
        refine goR F3 ?_
        revert e74; refine cS F3 ?_ ?_ <;> intro h92 e74
        · refine goR F3 ?_
          obtain rfl := sj e74
          try dsimp only at e46
          obtain rfl := sj e46
          try dsimp only at hs
          refine hX49 _ _ (by simp) ?_
          refine goR F3 ?_
          obtain rfl := sj hs
          exact hQ _ _ (rg F3 (Gh.refl _))
        · refine goR F3 ?_
          exact hL77 (q80, (k62 + 1)) _ _ (Gh.refl _) ⟨e74, hd85, pv F3, pv F3, pv F3, pv F3, pv F3, pg⟩ (by simp)
    · obtain ⟨e46, n4_g⟩ := hp
      obtain rfl := sj e46
      try dsimp only at hs
      refine goR f0 ?_
      obtain rfl := sj hs
      exact hQ _ _ (rg f0 (Gh.refl _))
end Go.Dc
end
section
set_option linter.all false
namespace Go.Dc
open Go Go.Hw Go.Proofs
set_option maxRecDepth 100000
def slices_Equal_api_Var_L1 (a1 : List Var) : List Var → Nat → Option (Unit ⊕ Bool)
  | [], k76 => some (.inl ())
  | x102 :: q98, k76 => Option.bind (a1[k76]?) (fun x109 => cond (!(andB (eqS x102.Name x109.Name) (andB (eqI x102.Init x109.Init) true))) (some (.inr false)) (slices_Equal_api_Var_L1 a1 q98 (k76 + 1)))

def slices_Equal_api_Var (a0 : List Var) (a1 : List Var) : Option Bool :=
  cond (!(eqI ((a0.length : Nat) : Int) ((a1.length : Nat) : Int))) (some false) (Option.bind (α := Unit ⊕ Bool) (Option.bind (slices_Equal_api_Var_L1 a1 a0 0) (fun o => match o with | .inl _ => some (.inl ()) | .inr r113 => some (.inr r113))) (fun o => match o with | .inl _ => some true | .inr r114 => some r114))

set_option maxHeartbeats 2000000 in
theorem at_slices_Equal_api_Var {a0 : List Var} {a1 : List Var} {r : Bool} (hs : slices_Equal_api_Var a0 a1 = some r) : At Tryd.prog 94 [.cell (sC a0), .cell (sC a1)] (bV r) := by
  refine at_bound (by kernel_rfl) fun hb => ?_
  have hb1 : LenOk (.sl a0.length (encL a0)) := lkc hb
  have hb2 : LenOk (.sl a1.length (encL a1)) := lkc hb
  refine at_code mixed Tryd.func94 (by kernel_rfl) rfl (by kernel_rfl) rfl fun Q hQ => ?_
  rw [slices_Equal_api_Var] at hs
  refine goR f0 ?_
  revert hs; refine cS f0 ?_ ?_ <;> intro h1 hs
  · refine goR f0 ?_
    obtain rfl := sj hs
    exact hQ _ _ (rg f0 (Gh.refl _))
  · refine goR2 f0 ?_
    revert hs; refine bK fun o57 e56 hs => ?_
    refine awp_cutK (fun (v : Unit) (σ : St) => some (.inl v) = some o57 ∧ 3 ≤ σ.gen) (by rfl) (fun Q hK58 hX59 => ?_) (fun v σ3 hp => ?_)
    · refine goR f0 ?_
      revert e56; refine bK fun o93 e92 e56 => ?_
      refine awp_loopW (fun (v : (List Var) × Nat) (σ : St) => slices_Equal_api_Var_L1 a1 v.1 v.2 = some o93 ∧ v.1 = a0.drop v.2 ∧ σ.env 0 = .cell (sC a0) ∧ σ.env 1 = .cell (sC a1) ∧ σ.env 12 = iV .i64 ((a0.length : Nat) : Int) ∧ σ.env 13 = iV .i64 ((v.2 : Nat) : Int) ∧ 3 ≤ σ.gen) (fun v => v.1.length) _ (Gh.refl _) (a0, 0) ⟨e92, by simp, pv f0, pv f0, pv f0, pv f0, pg⟩ fun v σ6 hp L94 hL95 => ?_
      obtain ⟨q97, k76⟩ := v
      dsimp only at hp hL95
      obtain ⟨e92, hd96, h5_0, h5_1, h5_12, h5_13, n5_g⟩ := hp
      rcases q97 with _ | ⟨x102, q98⟩
      · have hlt99 := drop_end hd96
        rw [slices_Equal_api_Var_L1] at e92; try dsimp only at e92
        have F1 := an h5_0 (an h5_1 (an h5_12 h5_13))
        refine goR F1 ?_
        refine condK_f (by simp [ltI]; omega) ?_
        obtain rfl := sj e92
        try dsimp only at e56
        exact hK58 () _ _ (Gh.refl _) ⟨e56, pg⟩
      · obtain ⟨hx101, hlt99, hd103⟩ := drop_next hd96
        have ew100 := wrap_succ hlt99 (hb1).len
        rw [slices_Equal_api_Var_L1] at e92; try dsimp only at e92
        have F2 := an h5_0 (an h5_1 (an h5_12 (an h5_13 (an hlt99 ew100))))
        refine goR F2 ?_
        refine condK_t (by simp [ltI]; omega) ?_
        have f108 : partCV Tryd.prog 69 (encL a0) (k76 * 2) = some (.agg (eA x102)) := partCV_enc hx101 (f := 0) (by simp)
        revert e92; refine bK fun x109 hx110 e92 => ?_
        have hx110b := getN_some hx110
        have f111 : partCV Tryd.prog 69 (encL a1) (k76 * 2) = some (.agg (eA x109)) := partCV_enc hx110 (f := 0) (by simp)
        have F3 := an F2 (an f108 f111)
        refine goD F3 ?_
        revert e92; refine cS F3 ?_ ?_ <;> intro h112 e92
        · refine goD F3 ?_
          obtain rfl := sj e92
          try dsimp only at e56
          obtain rfl := sj e56
          try dsimp only at hs
          refine hX59 _ _ (by simp) ?_
          refine goD F3 ?_
          obtain rfl := sj hs
          exact hQ _ _ (rg F3 (Gh.refl _))
        · refine goD F3 ?_
          exact hL95 (q98, (k76 + 1)) _ _ (Gh.refl _) ⟨e92, hd103, pv F3, pv F3, pv F3, pv F3, pg⟩ (by simp)
    · obtain ⟨e56, n4_g⟩ := hp
      obtain rfl := sj e56
      try dsimp only at hs
      refine goR f0 ?_
      obtain rfl := sj hs
      exact hQ _ _ (rg f0 (Gh.refl _))
end Go.Dc
end
section
set_option linter.all false
namespace Go.Dc
open Go Go.Hw Go.Proofs
set_option maxRecDepth 100000
def slices_Equal_string_L1 (a1 : List ByteArray) : List ByteArray → Nat → Option (Unit ⊕ Bool)
  | [], k76 => some (.inl ())
  | x102 :: q98, k76 => Option.bind (a1[k76]?) (fun x109 => cond (!(eqS x102 x109)) (some (.inr false)) (slices_Equal_string_L1 a1 q98 (k76 + 1)))

def slices_Equal_string (a0 : List ByteArray) (a1 : List ByteArray) : Option Bool :=
  cond (!(eqI ((a0.length : Nat) : Int) ((a1.length : Nat) : Int))) (some false) (Option.bind (α := Unit ⊕ Bool) (Option.bind (slices_Equal_string_L1 a1 a0 0) (fun o => match o with | .inl _ => some (.inl ()) | .inr r113 => some (.inr r113))) (fun o => match o with | .inl _ => some true | .inr r114 => some r114))

set_option maxHeartbeats 2000000 in
theorem at_slices_Equal_string {a0 : List ByteArray} {a1 : List ByteArray} {r : Bool} (hs : slices_Equal_string a0 a1 = some r) : At Tryd.prog 95 [.cell (sC a0), .cell (sC a1)] (bV r) := by
  refine at_bound (by kernel_rfl) fun hb => ?_
  have hb1 : LenOk (.sl a0.length (encL a0)) := lkc hb
  have hb2 : LenOk (.sl a1.length (encL a1)) := lkc hb
  refine at_code mixed Tryd.func95 (by kernel_rfl) rfl (by kernel_rfl) rfl fun Q hQ => ?_
  rw [slices_Equal_string] at hs
  refine goR f0 ?_
  revert hs; refine cS f0 ?_ ?_ <;> intro h1 hs
  · refine goR f0 ?_
    obtain rfl := sj hs
    exact hQ _ _ (rg f0 (Gh.refl _))
  · refine goR2 f0 ?_
    revert hs; refine bK fun o57 e56 hs => ?_
    refine awp_cutK (fun (v : Unit) (σ : St) => some (.inl v) = some o57 ∧ 3 ≤ σ.gen) (by rfl) (fun Q hK58 hX59 => ?_) (fun v σ3 hp => ?_)
    · refine goR f0 ?_
      revert e56; refine bK fun o93 e92 e56 => ?_
      refine awp_loopW (fun (v : (List ByteArray) × Nat) (σ : St) => slices_Equal_string_L1 a1 v.1 v.2 = some o93 ∧ v.1 = a0.drop v.2 ∧ σ.env 0 = .cell (sC a0) ∧ σ.env 1 = .cell (sC a1) ∧ σ.env 12 = iV .i64 ((a0.length : Nat) : Int) ∧ σ.env 13 = iV .i64 ((v.2 : Nat) : Int) ∧ 3 ≤ σ.gen) (fun v => v.1.length) _ (Gh.refl _) (a0, 0) ⟨e92, by simp, pv f0, pv f0, pv f0, pv f0, pg⟩ fun v σ6 hp L94 hL95 => ?_
      obtain ⟨q97, k76⟩ := v
      dsimp only at hp hL95
      obtain ⟨e92, hd96, h5_0, h5_1, h5_12, h5_13, n5_g⟩ := hp
      rcases q97 with _ | ⟨x102, q98⟩
      · have hlt99 := drop_end hd96
        rw [slices_Equal_string_L1] at e92; try dsimp only at e92
        have F1 := an h5_0 (an h5_1 (an h5_12 h5_13))
        refine goR F1 ?_
        refine condK_f (by simp [ltI]; omega) ?_
        obtain rfl := sj e92
        try dsimp only at e56
        exact hK58 () _ _ (Gh.refl _) ⟨e56, pg⟩
      · obtain ⟨hx101, hlt99, hd103⟩ := drop_next hd96
        have ew100 := wrap_succ hlt99 (hb1).len
        rw [slices_Equal_string_L1] at e92; try dsimp only at e92
        have F2 := an h5_0 (an h5_1 (an h5_12 (an h5_13 (an hlt99 ew100))))
        refine goR F2 ?_
        refine condK_t (by simp [ltI]; omega) ?_
        have f108 : partCV Tryd.prog 9 (encL a0) (k76) = some (sV x102) := partCV_enc1 hx101 (by simp)
        revert e92; refine bK fun x109 hx110 e92 => ?_
        have hx110b := getN_some hx110
        have f111 : partCV Tryd.prog 9 (encL a1) (k76) = some (sV x109) := partCV_enc1 hx110 (by simp)
        have F3 := an F2 (an f108 f111)
        refine goD F3 ?_
        revert e92; refine cS F3 ?_ ?_ <;> intro h112 e92
        · refine goD F3 ?_
          obtain rfl := sj e92
          try dsimp only at e56
          obtain rfl := sj e56
          try dsimp only at hs
          refine hX59 _ _ (by simp) ?_
          refine goD F3 ?_
          obtain rfl := sj hs
          exact hQ _ _ (rg F3 (Gh.refl _))
        · refine goD F3 ?_
          exact hL95 (q98, (k76 + 1)) _ _ (Gh.refl _) ⟨e92, hd103, pv F3, pv F3, pv F3, pv F3, pg⟩ (by simp)
    · obtain ⟨e56, n4_g⟩ := hp
      obtain rfl := sj e56
      try dsimp only at hs
      refine goR f0 ?_
      obtain rfl := sj hs
      exact hQ _ _ (rg f0 (Gh.refl _))
end Go.Dc
end
section
set_option linter.all false
namespace Go.Dc
open Go Go.Hw Go.Proofs
set_option maxRecDepth 100000
def slices_Equal_api_Launch_L1 (a1 : List Launch) : List Launch → Nat → Option (Unit ⊕ Bool)
  | [], k76 => some (.inl ())
  | x102 :: q98, k76 => Option.bind (a1[k76]?) (fun x109 => cond (!(andB (eqS x102.Proc x109.Proc) (andB (eqI x102.Arg x109.Arg) true))) (some (.inr false)) (slices_Equal_api_Launch_L1 a1 q98 (k76 + 1)))

def slices_Equal_api_Launch (a0 : List Launch) (a1 : List Launch) : Option Bool :=
  cond (!(eqI ((a0.length : Nat) : Int) ((a1.length : Nat) : Int))) (some false) (Option.bind (α := Unit ⊕ Bool) (Option.bind (slices_Equal_api_Launch_L1 a1 a0 0) (fun o => match o with | .inl _ => some (.inl ()) | .inr r113 => some (.inr r113))) (fun o => match o with | .inl _ => some true | .inr r114 => some r114))

set_option maxHeartbeats 2000000 in
theorem at_slices_Equal_api_Launch {a0 : List Launch} {a1 : List Launch} {r : Bool} (hs : slices_Equal_api_Launch a0 a1 = some r) : At Tryd.prog 96 [.cell (sC a0), .cell (sC a1)] (bV r) := by
  refine at_bound (by kernel_rfl) fun hb => ?_
  have hb1 : LenOk (.sl a0.length (encL a0)) := lkc hb
  have hb2 : LenOk (.sl a1.length (encL a1)) := lkc hb
  refine at_code mixed Tryd.func96 (by kernel_rfl) rfl (by kernel_rfl) rfl fun Q hQ => ?_
  rw [slices_Equal_api_Launch] at hs
  refine goR f0 ?_
  revert hs; refine cS f0 ?_ ?_ <;> intro h1 hs
  · refine goR f0 ?_
    obtain rfl := sj hs
    exact hQ _ _ (rg f0 (Gh.refl _))
  · refine goR2 f0 ?_
    revert hs; refine bK fun o57 e56 hs => ?_
    refine awp_cutK (fun (v : Unit) (σ : St) => some (.inl v) = some o57 ∧ 3 ≤ σ.gen) (by rfl) (fun Q hK58 hX59 => ?_) (fun v σ3 hp => ?_)
    · refine goR f0 ?_
      revert e56; refine bK fun o93 e92 e56 => ?_
      refine awp_loopW (fun (v : (List Launch) × Nat) (σ : St) => slices_Equal_api_Launch_L1 a1 v.1 v.2 = some o93 ∧ v.1 = a0.drop v.2 ∧ σ.env 0 = .cell (sC a0) ∧ σ.env 1 = .cell (sC a1) ∧ σ.env 12 = iV .i64 ((a0.length : Nat) : Int) ∧ σ.env 13 = iV .i64 ((v.2 : Nat) : Int) ∧ 3 ≤ σ.gen) (fun v => v.1.length) _ (Gh.refl _) (a0, 0) ⟨e92, by simp, pv f0, pv f0, pv f0, pv f0, pg⟩ fun v σ6 hp L94 hL95 => ?_
      obtain ⟨q97, k76⟩ := v
      dsimp only at hp hL95
      obtain ⟨e92, hd96, h5_0, h5_1, h5_12, h5_13, n5_g⟩ := hp
      rcases q97 with _ | ⟨x102, q98⟩
      · have hlt99 := drop_end hd96
        rw [slices_Equal_api_Launch_L1] at e92; try dsimp only at e92
        have F1 := an h5_0 (an h5_1 (an h5_12 h5_13))
        refine goR F1 ?_
        refine condK_f (by simp [ltI]; omega) ?_
        obtain rfl := sj e92
        try dsimp only at e56
        exact hK58 () _ _ (Gh.refl _) ⟨e56, pg⟩
      · obtain ⟨hx101, hlt99, hd103⟩ := drop_next hd96
        have ew100 := wrap_succ hlt99 (hb1).len
        rw [slices_Equal_api_Launch_L1] at e92; try dsimp only at e92
        have F2 := an h5_0 (an h5_1 (an h5_12 (an h5_13 (an hlt99 ew100))))
        refine goR F2 ?_
        refine condK_t (by simp [ltI]; omega) ?_
        have f108 : partCV Tryd.prog 108 (encL a0) (k76 * 2) = some (.agg (eA x102)) := partCV_enc hx101 (f := 0) (by simp)
        revert e92; refine bK fun x109 hx110 e92 => ?_
        have hx110b := getN_some hx110
        have f111 : partCV Tryd.prog 108 (encL a1) (k76 * 2) = some (.agg (eA x109)) := partCV_enc hx110 (f := 0) (by simp)
        have F3 := an F2 (an f108 f111)
        refine goD F3 ?_
        revert e92; refine cS F3 ?_ ?_ <;> intro h112 e92
        · refine goD F3 ?_
          obtain rfl := sj e92
          try dsimp only at e56
          obtain rfl := sj e56
          try dsimp only at hs
          refine hX59 _ _ (by simp) ?_
          refine goD F3 ?_
          obtain rfl := sj hs
          exact hQ _ _ (rg F3 (Gh.refl _))
        · refine goD F3 ?_
          exact hL95 (q98, (k76 + 1)) _ _ (Gh.refl _) ⟨e92, hd103, pv F3, pv F3, pv F3, pv F3, pg⟩ (by simp)
    · obtain ⟨e56, n4_g⟩ := hp
      obtain rfl := sj e56
      try dsimp only at hs
      refine goR f0 ?_
      obtain rfl := sj hs
      exact hQ _ _ (rg f0 (Gh.refl _))
end Go.Dc
end
section
set_option linter.all false
namespace Go.Dc
open Go Go.Hw Go.Proofs
set_option maxRecDepth 100000

def ast_Equal (fuelN : Nat) (a0 : UnitT) (a1 : UnitT) : Option Bool :=
  Option.bind (slices_EqualFunc_api_Proc_ast_Equal_1 fuelN a0.Procs a1.Procs) (fun y1 => guardO (orB (!y1) ((slices_Equal_api_Var a0.Vars a1.Vars).isSome)) (guardO (orB (!(andB y1 ((slices_Equal_api_Var a0.Vars a1.Vars).getD default))) ((slices_Equal_string a0.Mutexes a1.Mutexes).isSome)) (guardO (orB (!(andB (andB y1 ((slices_Equal_api_Var a0.Vars a1.Vars).getD default)) ((slices_Equal_string a0.Mutexes a1.Mutexes).getD default))) ((slices_Equal_string a0.Conds a1.Conds).isSome)) (guardO (orB (!(andB (andB (andB y1 ((slices_Equal_api_Var a0.Vars a1.Vars).getD default)) ((slices_Equal_string a0.Mutexes a1.Mutexes).getD default)) ((slices_Equal_string a0.Conds a1.Conds).getD default))) ((slices_Equal_api_Launch a0.Threads a1.Threads).isSome)) (some (andB (andB (andB (andB y1 ((slices_Equal_api_Var a0.Vars a1.Vars).getD default)) ((slices_Equal_string a0.Mutexes a1.Mutexes).getD default)) ((slices_Equal_string a0.Conds a1.Conds).getD default)) ((slices_Equal_api_Launch a0.Threads a1.Threads).getD default)))))))

set_option maxHeartbeats 2000000 in
theorem at_ast_Equal {fuelN : Nat} {a0 : UnitT} {a1 : UnitT} {r : Bool} (hs : ast_Equal fuelN a0 a1 = some r) : At Tryd.prog 43 [.agg (eA a0), .agg (eA a1)] (bV r) := by
  refine at_bound (by kernel_rfl) fun hb => ?_
  have hb1 : LenOk (.sl a0.Vars.length (encL a0.Vars)) := lkc hb
  have hb2 : LenOk (.sl a0.Mutexes.length (encL a0.Mutexes)) := lkc hb
  have hb3 : LenOk (.sl a0.Conds.length (encL a0.Conds)) := lkc hb
  have hb4 : LenOk (.sl a0.Procs.length (encL a0.Procs)) := lkc hb
  have hb5 : LenOk (.sl a0.Threads.length (encL a0.Threads)) := lkc hb
  have hb6 : LenOk (.sl a1.Vars.length (encL a1.Vars)) := lkc hb
  have hb7 : LenOk (.sl a1.Mutexes.length (encL a1.Mutexes)) := lkc hb
  have hb8 : LenOk (.sl a1.Conds.length (encL a1.Conds)) := lkc hb
  have hb9 : LenOk (.sl a1.Procs.length (encL a1.Procs)) := lkc hb
  have hb10 : LenOk (.sl a1.Threads.length (encL a1.Threads)) := lkc hb
  refine at_code mixed Tryd.func43 (by kernel_rfl) rfl (by kernel_rfl) rfl fun Q hQ => ?_
  rw [ast_Equal] at hs
  refine goR f0 ?_
  revert hs; refine bK fun y1 hx2 hs => ?_
  refine cP f0 (at_slices_EqualFunc_api_Proc_ast_Equal_1 hx2) ?_
  refine goG f0 f0 ?_
  obtain ⟨g3, hs⟩ := guardO_some hs
  refine gsel_call (fun hg => at_slices_Equal_api_Var (under_call g3 hg)) (fun hg => by (try simp at hg); (first | simp [hg, id]); try rfl) (fun hg => by (try simp at hg); simp [hg, id]) (by simp) ?_
  refine goG f0 f0 ?_
  obtain ⟨g4, hs⟩ := guardO_some hs
  refine gsel_call (fun hg => at_slices_Equal_string (under_call g4 hg)) (fun hg => by (try simp at hg); (first | simp [hg, id]); try rfl) (fun hg => by (try simp at hg); simp [hg, id]) (by simp) ?_
  refine goG f0 f0 ?_
  obtain ⟨g5, hs⟩ := guardO_some hs
  refine gsel_call (fun hg => at_slices_Equal_string (under_call g5 hg)) (fun hg => by (try simp at hg); (first | simp [hg, id]); try rfl) (fun hg => by (try simp at hg); simp [hg, id]) (by simp) ?_
  refine goG f0 f0 ?_
  obtain ⟨g6, hs⟩ := guardO_some hs
  refine gsel_call (fun hg => at_slices_Equal_api_Launch (under_call g6 hg)) (fun hg => by (try simp at hg); (first | simp [hg, id]); try rfl) (fun hg => by (try simp at hg); simp [hg, id]) (by simp) ?_
  refine goG f0 f0 ?_
  obtain rfl := sj hs
  exact hQ _ _ (rg f0 (Gh.refl _))
end Go.Dc
end
section
set_option linter.all false
namespace Go.Dc
open Go Go.Hw Go.Proofs
set_option maxRecDepth 100000

def law16_local (a0 : ByteArray) : Option Expr :=
  some ({ Kind := 2, N := 0, Name := a0, Fn := 0, Args := [] } : Expr)

set_option maxHeartbeats 2000000 in
theorem at_law16_local {a0 : ByteArray} {r : Expr} (hs : law16_local a0 = some r) : At Tryd.prog 66 [sV a0] (.agg (eA r)) := by
  refine at_bound (by kernel_rfl) fun hb => ?_
  refine at_code mixed Tryd.func66 (by kernel_rfl) rfl (by kernel_rfl) rfl fun Q hQ => ?_
  rw [law16_local] at hs
  refine goR f0 ?_
  obtain rfl := sj hs
  exact hQ _ _ (rg f0 (Gh.unz _))
end Go.Dc
end
section
set_option linter.all false
namespace Go.Dc
open Go Go.Hw Go.Proofs
set_option maxRecDepth 100000

def law16_sum (a0 : Expr) (a1 : Expr) : Option Expr :=
  Option.bind (some ([a0, a1])) (fun l1 => some ({ Kind := 3, N := 0, Name := (⟨#[]⟩ : ByteArray), Fn := 1, Args := l1 } : Expr))

set_option maxHeartbeats 2000000 in
theorem at_law16_sum {a0 : Expr} {a1 : Expr} {r : Expr} (hs : law16_sum a0 a1 = some r) : At Tryd.prog 67 [.agg (eA a0), .agg (eA a1)] (.agg (eA r)) := by
  refine at_bound (by kernel_rfl) fun hb => ?_
  have hb1 : LenOk (.sl a0.Args.length (encL a0.Args)) := lkc hb
  have hb2 : LenOk (.sl a1.Args.length (encL a1.Args)) := lkc hb
  refine at_code mixed Tryd.func67 (by kernel_rfl) rfl (by kernel_rfl) rfl fun Q hQ => ?_
  rw [law16_sum] at hs
  revert hs; refine lK fun l1 hx2 hs => ?_
  have hx2n : l1.length = 2 := by rw [hx2]; rfl
  refine goR hx2 ?_
  obtain rfl := sj hs
  exact hQ _ _ (rg hx2 (Gh.frz _ (.o 2 2 0)))
end Go.Dc
end
section
set_option linter.all false
namespace Go.Dc
open Go Go.Hw Go.Proofs
set_option maxRecDepth 100000

def law16_awake (fuelN : Nat)  : Option Bool :=
  Option.bind (law16_local (⟨#[98]⟩ : ByteArray)) (fun y1 => Option.bind (some ([y1])) (fun l3 => Option.bind (some ([({ Kind := 1, N := 1, Name := (⟨#[]⟩ : ByteArray), Fn := 0, Args := [] } : Expr)])) (fun l15 => Option.bind (law16_local (⟨#[97]⟩ : ByteArray)) (fun y17 => Option.bind (some ([y17])) (fun l19 => Option.bind (some ([({ Kind := 1, Name := (⟨#[99]⟩ : ByteArray), Obj := (⟨#[]⟩ : ByteArray), Other := (⟨#[]⟩ : ByteArray), Fn := 0, Order := 0, Exprs := l3, Body := [], Else := [] } : Stmt)])) (fun l21 => Option.bind (some ([({ Kind := 1, Name := (⟨#[98]⟩ : ByteArray), Obj := (⟨#[]⟩ : ByteArray), Other := (⟨#[]⟩ : ByteArray), Fn := 0, Order := 0, Exprs := l15, Body := [], Else := [] } : Stmt), ({ Kind := 18, Name := (⟨#[]⟩ : ByteArray), Obj := (⟨#[]⟩ : ByteArray), Other := (⟨#[]⟩ : ByteArray), Fn := 0, Order := 0, Exprs := l19, Body := l21, Else := [] } : Stmt)])) (fun l23 => Option.bind (some ([({ Name := (⟨#[112]⟩ : ByteArray), Param := (⟨#[97]⟩ : ByteArray), Body := l23 } : Proc)])) (fun l25 => Option.bind (some ([({ Proc := (⟨#[112]⟩ : ByteArray), Arg := 0 } : Launch)])) (fun l27 => Option.bind (ast_Check fuelN ({ Vars := [], Mutexes := [], Conds := [], Procs := l25, Threads := l27 } : UnitT)) (fun y29 => Option.bind (ast_Clone fuelN ({ Vars := [], Mutexes := [], Conds := [], Procs := l25, Threads := l27 } : UnitT)) (fun y31 => Option.bind (ast_Equal fuelN ({ Vars := [], Mutexes := [], Conds := [], Procs := l25, Threads := l27 } : UnitT) y31) (fun y33 => cond (eqI ((y31.Procs.length : Nat) : Int) 1) (Option.bind (y31.Procs[0]?) (fun x36 => cond (eqI ((x36.Body.length : Nat) : Int) 2) (Option.bind (x36.Body[1]?) (fun x41 => cond (!(eqI ((x41.Body.length : Nat) : Int) 1)) (Option.bind (some (x36.Body.set 1 x41)) (fun l46 => Option.bind (some (y31.Procs.set 0 ({ x36 with Body := l46 }))) (fun l49 => some false))) (Option.bind (some (x36.Body.set 1 x41)) (fun l52 => Option.bind (some (y31.Procs.set 0 ({ x36 with Body := l52 }))) (fun l55 => Option.bind (l55[0]?) (fun x57 => Option.bind (x57.Body[1]?) (fun x60 => Option.bind (x60.Body[0]?) (fun x63 => Option.bind (some (x60.Body.set 0 ({ x63 with Name := (⟨#[105, 102]⟩ : ByteArray) }))) (fun l66 => Option.bind (some (x57.Body.set 1 ({ x60 with Body := l66 }))) (fun l69 => Option.bind (some (l55.set 0 ({ x57 with Body := l69 }))) (fun l72 => Option.bind (ast_Check fuelN ({ y31 with Procs := l72 })) (fun y74 => Option.bind (law16_local (⟨#[97]⟩ : ByteArray)) (fun y76 => Option.bind (law16_local (⟨#[97]⟩ : ByteArray)) (fun y78 => Option.bind (law16_sum y76 y78) (fun y80 => Option.bind (law16_local (⟨#[97]⟩ : ByteArray)) (fun y82 => Option.bind (law16_sum y80 y82) (fun y84 => Option.bind (law16_local (⟨#[97]⟩ : ByteArray)) (fun y86 => Option.bind (law16_sum y84 y86) (fun y88 => cond (andB (andB (andB (andB (andB (andB (eqI y29.1 0) (eqI y29.2.1 (-1))) (eqI y29.2.2 (-1))) (eqI y74.1 6)) (eqI y74.2.1 0)) (eqI y74.2.2 2)) y33) (Option.bind (ast_Equal fuelN ({ Vars := [], Mutexes := [], Conds := [], Procs := l25, Threads := l27 } : UnitT) ({ y31 with Procs := l72 })) (fun y91 => guardO (orB (!(!y91)) ((ast_Locals ({ Name := (⟨#[112]⟩ : ByteArray), Param := (⟨#[97]⟩ : ByteArray), Body := l23 } : Proc)).isSome)) (cond (!y91) (Option.bind (some ([(⟨#[97]⟩ : ByteArray), (⟨#[98]⟩ : ByteArray), (⟨#[99]⟩ : ByteArray)])) (fun l95 => Option.bind (r16_Strings ((ast_Locals ({ Name := (⟨#[112]⟩ : ByteArray), Param := (⟨#[97]⟩ : ByteArray), Body := l23 } : Proc)).getD default) l95) (fun y97 => guardO (orB (!y97) ((ast_Count l23).isSome)) (guardO (orB (!(andB y97 (eqI ((ast_Count l23).getD default) 3))) ((law16_local (⟨#[97]⟩ : ByteArray)).isSome)) (guardO (orB (!(andB y97 (eqI ((ast_Count l23).getD default) 3))) ((law16_local (⟨#[98]⟩ : ByteArray)).isSome)) (guardO (orB (!(andB y97 (eqI ((ast_Count l23).getD default) 3))) ((law16_sum ((law16_local (⟨#[97]⟩ : ByteArray)).getD default) ((law16_local (⟨#[98]⟩ : ByteArray)).getD default)).isSome)) (cond (andB y97 (eqI ((ast_Count l23).getD default) 3)) (Option.bind (some ([(⟨#[97]⟩ : ByteArray)])) (fun l104 => Option.bind (ast_CheckExpr fuelN ((law16_sum ((law16_local (⟨#[97]⟩ : ByteArray)).getD default) ((law16_local (⟨#[98]⟩ : ByteArray)).getD default)).getD default) l104) (fun y106 => cond (eqI y106 11) (Option.bind (some ([(⟨#[97]⟩ : ByteArray)])) (fun l109 => Option.bind (ast_CheckExpr fuelN y88 l109) (fun y111 => guardO (orB (!(eqI y111 4)) ((ast_Depth fuelN y88).isSome)) (some (andB (eqI y111 4) (eqI ((ast_Depth fuelN y88).getD default) 4)))))) (some false)))) (some false)))))))) (some false)))) (some false)))))))))))))))))))) (Option.bind (some (y31.Procs.set 0 x36)) (fun l115 => some false)))) (some false)))))))))))))

set_option maxHeartbeats 2000000 in
theorem at_law16_awake {fuelN : Nat}  {r : Bool} (hs : law16_awake fuelN = some r) : At Tryd.prog 27 [] (bV r) := by
  refine at_bound (by kernel_rfl) fun hb => ?_
  refine at_code mixed Tryd.func27 (by kernel_rfl) rfl (by kernel_rfl) rfl fun Q hQ => ?_
  rw [law16_awake] at hs
  refine goR f0 ?_
  revert hs; refine bK fun y1 hx2 hs => ?_
  refine cP f0 (at_law16_local hx2) ?_
  revert hs; refine lK fun l3 hx4 hs => ?_
  have hx4n : l3.length = 1 := by rw [hx4]; rfl
  revert hs; refine lK fun l15 hx16 hs => ?_
  have hx16n : l15.length = 1 := by rw [hx16]; rfl
  have F1 := an hx4 hx16
  refine goD F1 ?_
  revert hs; refine bK fun y17 hx18 hs => ?_
  refine cP F1 (at_law16_local hx18) ?_
  revert hs; refine lK fun l19 hx20 hs => ?_
  have hx20n : l19.length = 1 := by rw [hx20]; rfl
  revert hs; refine lK fun l21 hx22 hs => ?_
  have hx22n : l21.length = 1 := by rw [hx22]; rfl
  revert hs; refine lK fun l23 hx24 hs => ?_
  have hx24n : l23.length = 2 := by rw [hx24]; rfl
  have F2 := an F1 (an hx20 (an hx22 hx24))
  refine goN F2 ?_
  refine awp_gh (by rfl) ((Gh.frz _ (.o 2 1 0)).trans ((Gh.pur _ (.o 3 6 0)).trans ((Gh.frz _ (.o 3 1 0)).trans ((Gh.frz _ (.o 3 4 0)).trans ((Gh.frz _ (.o 3 6 0)).trans (Gh.pur _ (.o 3 8 0))))))) ?_
  try simp only [St.frz, St.pur]
  revert hs; refine lK fun l25 hx26 hs => ?_
  have hx26n : l25.length = 1 := by rw [hx26]; rfl
  revert hs; refine lK fun l27 hx28 hs => ?_
  have hx28n : l27.length = 1 := by rw [hx28]; rfl
  have F3 := an F2 (an hx26 hx28)
  refine goN F3 ?_
  refine awp_reg ?_
  refine goN F3 ?_
  refine awp_gh (by rfl) ((Gh.frz _ (.o 3 8 0)).trans (Gh.pur _ (.o 4 1 0))) ?_
  try simp only [St.frz, St.pur]
  refine goR F3 ?_
  revert hs; refine bK fun y29 hx30 hs => ?_
  refine cA F3 (at_unz (args := [.agg [.z, .z, .z, sC l25, sC l27]]) (by simp) (at_ast_Check hx30)) ?_
  refine goN F3 ?_
  refine awp_gh (by rfl) ((Gh.frz _ (.o 4 1 0)).trans (Gh.frz _ (.o 4 3 0))) ?_
  try simp only [St.frz, St.pur]
  refine goR F3 ?_
  revert hs; refine bK fun y31 hx32 hs => ?_
  refine cA F3 (at_unz (args := [.agg [.z, .z, .z, sC l25, sC l27]]) (by simp) (at_ast_Clone hx32)) ?_
  refine goR F3 ?_
  revert hs; refine bK fun y33 hx34 hs => ?_
  refine cA F3 (at_unz (args := [.agg [.z, .z, .z, sC l25, sC l27], .agg (eA y31)]) (by simp) (at_ast_Equal hx34)) ?_
  refine goG F3 F3 ?_
  refine gsel_split (fun h35 => ?_) (fun h35 => ?_)
  · replace hs := condT h35 hs
    revert hs; refine bK fun x36 hx37 hs => ?_
    have hx37b := getN_some hx37
    have f38a : (oencL y31.Procs)[2]? = some (.own (.sl 9 x36.Body.length (otL x36.Body))) := oencL_get hx37 (f := 2) (by first | rfl | (simp; done) | (simp; rfl))
    have f38b : ((oencL y31.Procs).drop (2)).take 1 = [.own (.sl 9 x36.Body.length (otL x36.Body))] := oencL_seg hx37 (f := 2) (by first | rfl | (simp; done) | (simp; rfl)) (by first | rfl | (simp; done) | (simp; rfl))
    have f38l : 2 < (oencL y31.Procs).length := (List.getElem?_eq_some_iff.1 f38a).1
    have f38c := fun c => (set_seg f38l c).1
    have f38d := fun c => (set_seg f38l c).2
    have F4 := an F3 (an h35 (an f38a (an f38b (an f38c f38d))))
    have F5 := an F4 hx37b
    refine goG F4 F5 ?_
    refine gsel_split (fun h39 => ?_) (fun h39 => ?_)
    · replace hs := condT h39 hs
      revert hs; refine bK fun x41 hx42 hs => ?_
      have hx42b := getN_some hx42
      have f43a : (oencL x36.Body)[16]? = some (.own (.sl 9 x41.Body.length (otL x41.Body))) := oencL_get hx42 (f := 7) (by first | rfl | (simp; done) | (simp; rfl))
      have f43b : ((oencL x36.Body).drop (16)).take 1 = [.own (.sl 9 x41.Body.length (otL x41.Body))] := oencL_seg hx42 (f := 7) (by first | rfl | (simp; done) | (simp; rfl)) (by first | rfl | (simp; done) | (simp; rfl))
      have f43l : 16 < (oencL x36.Body).length := (List.getElem?_eq_some_iff.1 f43a).1
      have f43c := fun c => (set_seg f43l c).1
      have f43d := fun c => (set_seg f43l c).2
      have F6 := an F4 (an h39 (an f43a (an f43b (an f43c f43d))))
      have F7 := an F6 (an hx37b hx42b)
      refine goG F6 F7 ?_
      revert hs; refine cS F6 ?_ ?_ <;> intro h44 hs
      · revert hs; refine lK fun l46 hx47 hs => ?_
        have f45 : (oencL x36.Body).set (16) (.own (.sl 9 x41.Body.length (otL x41.Body))) = oencL l46 := by rw [hx47]; exact oencL_set hx42 (f := 7) (by simp) (by first | rfl | (simp; done) | (simp; rfl))
        have f45n : l46.length = x36.Body.length := by rw [hx47]; simp
        have f45t : (oencL x41.Body).take (x41.Body.length * 9) = oencL x41.Body := oencL_takeN _ (by simp)
        have f45u : x41.Body.length = x41.Body.length → (oencL x41.Body).take (x41.Body.length * 9) = oencL x41.Body := fun h => by rw [← h]; exact oencL_takeN _ (by simp)
        have f45v : x41.Body.length = x41.Body.length → (oencL x36.Body).set (16) (.own (.sl 9 x41.Body.length (otL x41.Body))) = oencL l46 := fun h => by rw [← h]; exact f45
        have f45w : ∀ n : Nat, n = l46.length → (encL l46).take (n * 9) = encL l46 := fun n h => by rw [h]; exact encL_takeN _ (by simp)
        revert hs; refine lK fun l49 hx50 hs => ?_
        have f48 : (oencL y31.Procs).set (2) (.own (.sl 9 l46.length (otL l46))) = oencL l49 := by rw [hx50]; exact oencL_set hx37 (f := 2) (by simp) (by first | rfl | (simp; done) | (simp; rfl))
        have f48n : l49.length = y31.Procs.length := by rw [hx50]; simp
        have f48t : (oencL l46).take (l46.length * 9) = oencL l46 := oencL_takeN _ (by simp)
        have f48u : l46.length = x36.Body.length → (oencL l46).take (x36.Body.length * 9) = oencL l46 := fun h => by rw [← h]; exact oencL_takeN _ (by simp)
        have f48v : l46.length = x36.Body.length → (oencL y31.Procs).set (2) (.own (.sl 9 x36.Body.length (otL l46))) = oencL l49 := fun h => by rw [← h]; exact f48
        have f48w : ∀ n : Nat, n = l49.length → (encL l49).take (n * 3) = encL l49 := fun n h => by rw [h]; exact encL_takeN _ (by simp)
        have F8 := an F6 (an f45 (an f45n (an f45t (an f45u (an f45v (an f45w (an f48 (an f48n (an f48t (an f48u (an f48v f48w)))))))))))
        have F9 := an F8 (an hx37b hx42b)
        repeat (first | simp [F8] | with_reducible first | refine And.intro (by omega) ?_ | refine optF_if (by omega) ?_ | refine gsel_pure (by with_unfolding_all rfl) _ (fun hg => by (try simp at hg); first | (simp [hg, F9]; rfl) | (simp [F8]; simp only [if_pos hg]; simp [F8]; rfl)) ?_)
        refine awp_gh (by rfl) ((Gh.close _ (.o 8 9 2) (16)).trans (Gh.close _ (.o 6 1 3) (2))) ?_
        try simp only [St.frz, St.pur]
        refine goR F8 ?_
        obtain rfl := sj hs
        exact hQ _ _ (rg F8 (Gh.refl _))
      · revert hs; refine lK fun l52 hx53 hs => ?_
        have f51 : (oencL x36.Body).set (16) (.own (.sl 9 x41.Body.length (otL x41.Body))) = oencL l52 := by rw [hx53]; exact oencL_set hx42 (f := 7) (by simp) (by first | rfl | (simp; done) | (simp; rfl))
        have f51n : l52.length = x36.Body.length := by rw [hx53]; simp
        have f51t : (oencL x41.Body).take (x41.Body.length * 9) = oencL x41.Body := oencL_takeN _ (by simp)
        have f51u : x41.Body.length = x41.Body.length → (oencL x41.Body).take (x41.Body.length * 9) = oencL x41.Body := fun h => by rw [← h]; exact oencL_takeN _ (by simp)
        have f51v : x41.Body.length = x41.Body.length → (oencL x36.Body).set (16) (.own (.sl 9 x41.Body.length (otL x41.Body))) = oencL l52 := fun h => by rw [← h]; exact f51
        have f51w : ∀ n : Nat, n = l52.length → (encL l52).take (n * 9) = encL l52 := fun n h => by rw [h]; exact encL_takeN _ (by simp)
        revert hs; refine lK fun l55 hx56 hs => ?_
        have f54 : (oencL y31.Procs).set (2) (.own (.sl 9 l52.length (otL l52))) = oencL l55 := by rw [hx56]; exact oencL_set hx37 (f := 2) (by simp) (by first | rfl | (simp; done) | (simp; rfl))
        have f54n : l55.length = y31.Procs.length := by rw [hx56]; simp
        have f54t : (oencL l52).take (l52.length * 9) = oencL l52 := oencL_takeN _ (by simp)
        have f54u : l52.length = x36.Body.length → (oencL l52).take (x36.Body.length * 9) = oencL l52 := fun h => by rw [← h]; exact oencL_takeN _ (by simp)
        have f54v : l52.length = x36.Body.length → (oencL y31.Procs).set (2) (.own (.sl 9 x36.Body.length (otL l52))) = oencL l55 := fun h => by rw [← h]; exact f54
        have f54w : ∀ n : Nat, n = l55.length → (encL l55).take (n * 3) = encL l55 := fun n h => by rw [h]; exact encL_takeN _ (by simp)
        have F10 := an F6 (an f51 (an f51n (an f51t (an f51u (an f51v (an f51w (an f54 (an f54n (an f54t (an f54u (an f54v f54w)))))))))))
        have F11 := an F10 (an hx37b hx42b)
        repeat (first | simp [F10] | with_reducible first | refine And.intro (by omega) ?_ | refine optF_if (by omega) ?_ | refine gsel_pure (by with_unfolding_all rfl) _ (fun hg => by (try simp at hg); first | (simp [hg, F11]; rfl) | (simp [F10]; simp only [if_pos hg]; simp [F10]; rfl)) ?_)
        refine awp_gh (by rfl) ((Gh.close _ (.o 8 9 2) (16)).trans (Gh.close _ (.o 6 1 3) (2))) ?_
        try simp only [St.frz, St.pur]
        revert hs; refine bK fun x57 hx58 hs => ?_
        have hx58b := getN_some hx58
        have f59a : (oencL l55)[2]? = some (.own (.sl 9 x57.Body.length (otL x57.Body))) := oencL_get hx58 (f := 2) (by first | rfl | (simp; done) | (simp; rfl))
        have f59b : ((oencL l55).drop (2)).take 1 = [.own (.sl 9 x57.Body.length (otL x57.Body))] := oencL_seg hx58 (f := 2) (by first | rfl | (simp; done) | (simp; rfl)) (by first | rfl | (simp; done) | (simp; rfl))
        have f59l : 2 < (oencL l55).length := (List.getElem?_eq_some_iff.1 f59a).1
        have f59c := fun c => (set_seg f59l c).1
        have f59d := fun c => (set_seg f59l c).2
        revert hs; refine bK fun x60 hx61 hs => ?_
        have hx61b := getN_some hx61
        have f62a : (oencL x57.Body)[16]? = some (.own (.sl 9 x60.Body.length (otL x60.Body))) := oencL_get hx61 (f := 7) (by first | rfl | (simp; done) | (simp; rfl))
        have f62b : ((oencL x57.Body).drop (16)).take 1 = [.own (.sl 9 x60.Body.length (otL x60.Body))] := oencL_seg hx61 (f := 7) (by first | rfl | (simp; done) | (simp; rfl)) (by first | rfl | (simp; done) | (simp; rfl))
        have f62l : 16 < (oencL x57.Body).length := (List.getElem?_eq_some_iff.1 f62a).1
        have f62c := fun c => (set_seg f62l c).1
        have f62d := fun c => (set_seg f62l c).2
        revert hs; refine bK fun x63 hx64 hs => ?_
        have hx64b := getN_some hx64
        revert hs; refine lK fun l66 hx67 hs => ?_
        have f65 : (oencL x60.Body).set (1) (tC (⟨#[105, 102]⟩ : ByteArray)) = oencL l66 := by rw [hx67]; exact oencL_set hx64 (f := 1) (by simp) (by first | rfl | (simp; done) | (simp; rfl))
        have f65n : l66.length = x60.Body.length := by rw [hx67]; simp
        have f65w : ∀ n : Nat, n = l66.length → (encL l66).take (n * 9) = encL l66 := fun n h => by rw [h]; exact encL_takeN _ (by simp)
        revert hs; refine lK fun l69 hx70 hs => ?_
        have f68 : (oencL x57.Body).set (16) (.own (.sl 9 l66.length (otL l66))) = oencL l69 := by rw [hx70]; exact oencL_set hx61 (f := 7) (by simp) (by first | rfl | (simp; done) | (simp; rfl))
        have f68n : l69.length = x57.Body.length := by rw [hx70]; simp
        have f68t : (oencL l66).take (l66.length * 9) = oencL l66 := oencL_takeN _ (by simp)
        have f68u : l66.length = x60.Body.length → (oencL l66).take (x60.Body.length * 9) = oencL l66 := fun h => by rw [← h]; exact oencL_takeN _ (by simp)
        have f68v : l66.length = x60.Body.length → (oencL x57.Body).set (16) (.own (.sl 9 x60.Body.length (otL l66))) = oencL l69 := fun h => by rw [← h]; exact f68
        have f68w : ∀ n : Nat, n = l69.length → (encL l69).take (n * 9) = encL l69 := fun n h => by rw [h]; exact encL_takeN _ (by simp)
        revert hs; refine lK fun l72 hx73 hs => ?_
        have f71 : (oencL l55).set (2) (.own (.sl 9 l69.length (otL l69))) = oencL l72 := by rw [hx73]; exact oencL_set hx58 (f := 2) (by simp) (by first | rfl | (simp; done) | (simp; rfl))
        have f71n : l72.length = l55.length := by rw [hx73]; simp
        have f71t : (oencL l69).take (l69.length * 9) = oencL l69 := oencL_takeN _ (by simp)
        have f71u : l69.length = x57.Body.length → (oencL l69).take (x57.Body.length * 9) = oencL l69 := fun h => by rw [← h]; exact oencL_takeN _ (by simp)
        have f71v : l69.length = x57.Body.length → (oencL l55).set (2) (.own (.sl 9 x57.Body.length (otL l69))) = oencL l72 := fun h => by rw [← h]; exact f71
        have f71w : ∀ n : Nat, n = l72.length → (encL l72).take (n * 3) = encL l72 := fun n h => by rw [h]; exact encL_takeN _ (by simp)
        have F12 := an F10 (an f59a (an f59b (an f59c (an f59d (an f62a (an f62b (an f62c (an f62d (an f65 (an f65n (an f65w (an f68 (an f68n (an f68t (an f68u (an f68v (an f68w (an f71 (an f71n (an f71t (an f71u (an f71v f71w))))))))))))))))))))))
        refine goN F12 ?_
        refine awp_reg ?_
        refine goN F12 ?_
        refine awp_gh (by rfl) ((Gh.close _ (.o 9 4 2) (16)).trans (Gh.close _ (.o 6 1 3) (2))) ?_
        try simp only [St.frz, St.pur]
        refine goR F12 ?_
        revert hs; refine bK fun y74 hx75 hs => ?_
        refine cA F12 (at_ast_Check hx75) ?_
        refine goR F12 ?_
        revert hs; refine bK fun y76 hx77 hs => ?_
        refine cP F12 (at_law16_local hx77) ?_
        refine goR F12 ?_
        revert hs; refine bK fun y78 hx79 hs => ?_
        refine cP F12 (at_law16_local hx79) ?_
        refine goR F12 ?_
        revert hs; refine bK fun y80 hx81 hs => ?_
        refine cP F12 (at_law16_sum hx81) ?_
        refine goR F12 ?_
        revert hs; refine bK fun y82 hx83 hs => ?_
        refine cP F12 (at_law16_local hx83) ?_
        refine goR F12 ?_
        revert hs; refine bK fun y84 hx85 hs => ?_
        refine cP F12 (at_law16_sum hx85) ?_
        refine goR F12 ?_
        revert hs; refine bK fun y86 hx87 hs => ?_
        refine cP F12 (at_law16_local hx87) ?_
        refine goR F12 ?_
        revert hs; refine bK fun y88 hx89 hs => ?_
        refine cP F12 (at_law16_sum hx89) ?_
        have F13 := an F12 (an hx37b (an hx42b (an hx58b (an hx61b hx64b))))
        refine goG F12 F13 ?_
        refine gsel_split (fun h90 => ?_) (fun h90 => ?_)
        · replace hs := condT h90 hs
          have F14 := an F12 h90
          have F15 := an F14 (an hx37b (an hx42b (an hx58b (an hx61b hx64b))))
          refine goG F14 F15 ?_
          revert hs; refine bK fun y91 hx92 hs => ?_
          refine cA F14 (at_unz (args := [.agg [.z, .z, .z, sC l25, sC l27], .agg [sC y31.Vars, sC y31.Mutexes, sC y31.Conds, sC l72, sC y31.Threads]]) (by simp) (at_ast_Equal hx92)) ?_
          refine goG F14 F15 ?_
          obtain ⟨g93, hs⟩ := guardO_some hs
          refine gsel_call (fun hg => at_ast_Locals (under_call g93 hg)) (fun hg => by (try simp at hg); (first | simp [hg, F14]); try rfl) (fun hg => by (try simp at hg); simp [hg, F14]) (by simp) ?_
          refine goG F14 F15 ?_
          refine gsel_split (fun h94 => ?_) (fun h94 => ?_)
          · replace hs := condT h94 hs
            simp only [Bool.not_eq_true', Bool.not_eq_false', Bool.not_not] at h94
            revert hs; refine lK fun l95 hx96 hs => ?_
            have hx96n : l95.length = 3 := by rw [hx96]; rfl
            have F16 := an F14 (an h94 hx96)
            have F17 := an F16 (an hx37b (an hx42b (an hx58b (an hx61b hx64b))))
            refine goG F16 F17 ?_
            revert hs; refine bK fun y97 hx98 hs => ?_
            refine cA F16 (at_r16_Strings hx98) ?_
            refine goG F16 F17 ?_
            obtain ⟨g99, hs⟩ := guardO_some hs
            refine gsel_call (fun hg => at_ast_Count (under_call g99 hg)) (fun hg => by (try simp at hg); (first | simp [hg, F16]); try rfl) (fun hg => by (try simp at hg); simp [hg, F16]) (by simp) ?_
            refine goG F16 F17 ?_
            obtain ⟨g100, hs⟩ := guardO_some hs
            refine gsel_cast (andB y97 (eqI ((ast_Count l23).getD default) 3)) (by first | rfl | simp [F16]) ?_
            refine gsel_call (fun hg => at_law16_local (under_call g100 hg)) (fun hg => by (try simp [F16] at hg); (first | simp [hg, F16]); try rfl) (fun hg => by (try simp [F16] at hg); simp [hg, F16]) (by simp) ?_
            refine goG F16 F17 ?_
            obtain ⟨g101, hs⟩ := guardO_some hs
            refine gsel_cast (andB y97 (eqI ((ast_Count l23).getD default) 3)) (by first | rfl | simp [F16]) ?_
            refine gsel_call (fun hg => at_law16_local (under_call g101 hg)) (fun hg => by (try simp [F16] at hg); (first | simp [hg, F16]); try rfl) (fun hg => by (try simp [F16] at hg); simp [hg, F16]) (by simp) ?_
            refine goG F16 F17 ?_
            obtain ⟨g102, hs⟩ := guardO_some hs
            refine gsel_cast (andB y97 (eqI ((ast_Count l23).getD default) 3)) (by first | rfl | simp [F16]) ?_
            refine gsel_call (fun hg => at_law16_sum (under_call g102 hg)) (fun hg => by (try simp [F16] at hg); (first | simp [hg, F16]); try rfl) (fun hg => by (try simp [F16] at hg); simp [hg, F16]) (by simp) ?_
            refine goG F16 F17 ?_
            refine gsel_cast (andB y97 (eqI ((ast_Count l23).getD default) 3)) (by first | rfl | simp [F16]) ?_
            refine gsel_split (fun h103 => ?_) (fun h103 => ?_)
            · replace hs := condT h103 hs
              have h103s := h103
              try simp [F16] at h103s
              revert hs; refine lK fun l104 hx105 hs => ?_
              have hx105n : l104.length = 1 := by rw [hx105]; rfl
              have F18 := an F16 (an h103s (an h103 hx105))
              have F19 := an F18 (an hx37b (an hx42b (an hx58b (an hx61b hx64b))))
              refine goG F18 F19 ?_
              revert hs; refine bK fun y106 hx107 hs => ?_
              refine cA F18 (at_ast_CheckExpr hx107) ?_
              refine goG F18 F19 ?_
              refine gsel_split (fun h108 => ?_) (fun h108 => ?_)
              · replace hs := condT h108 hs
                revert hs; refine lK fun l109 hx110 hs => ?_
                have hx110n : l109.length = 1 := by rw [hx110]; rfl
                have F20 := an F18 (an h108 hx110)
                have F21 := an F20 (an hx37b (an hx42b (an hx58b (an hx61b hx64b))))
                refine goG F20 F21 ?_
                revert hs; refine bK fun y111 hx112 hs => ?_
                refine cA F20 (at_ast_CheckExpr hx112) ?_
                refine goG F20 F21 ?_
                obtain ⟨g113, hs⟩ := guardO_some hs
                refine gsel_call (fun hg => at_ast_Depth (under_call g113 hg)) (fun hg => by (try simp at hg); (first | simp [hg, F20]); try rfl) (fun hg => by (try simp at hg); simp [hg, F20]) (by simp) ?_
                refine goG F20 F21 ?_
                obtain rfl := sj hs
                exact hQ _ _ (rg F20 (Gh.refl _))
              · replace hs := condF h108 hs
                have F22 := an F18 h108
                have F23 := an F22 (an hx37b (an hx42b (an hx58b (an hx61b hx64b))))
                refine goG F22 F23 ?_
                obtain rfl := sj hs
                exact hQ _ _ (rg F22 (Gh.refl _))
            · replace hs := condF h103 hs
              have h103s := h103
              try simp [F16] at h103s
              have F24 := an F16 (an h103s h103)
              have F25 := an F24 (an hx37b (an hx42b (an hx58b (an hx61b hx64b))))
              refine goG F24 F25 ?_
              obtain rfl := sj hs
              exact hQ _ _ (rg F24 (Gh.refl _))
          · replace hs := condF h94 hs
            simp only [Bool.not_eq_true', Bool.not_eq_false', Bool.not_not] at h94
            have F26 := an F14 h94
            have F27 := an F26 (an hx37b (an hx42b (an hx58b (an hx61b hx64b))))
            refine goG F26 F27 ?_
            obtain rfl := sj hs
            exact hQ _ _ (rg F26 (Gh.refl _))
        · replace hs := condF h90 hs
          have F28 := an F12 h90
          have F29 := an F28 (an hx37b (an hx42b (an hx58b (an hx61b hx64b))))
          refine goG F28 F29 ?_
          obtain rfl := sj hs
          exact hQ _ _ (rg F28 (Gh.refl _))
    · replace hs := condF h39 hs
      revert hs; refine lK fun l115 hx116 hs => ?_
      have f114 : (oencL y31.Procs).set (2) (.own (.sl 9 x36.Body.length (otL x36.Body))) = oencL l115 := by rw [hx116]; exact oencL_set hx37 (f := 2) (by simp) (by first | rfl | (simp; done) | (simp; rfl))
      have f114n : l115.length = y31.Procs.length := by rw [hx116]; simp
      have f114t : (oencL x36.Body).take (x36.Body.length * 9) = oencL x36.Body := oencL_takeN _ (by simp)
      have f114u : x36.Body.length = x36.Body.length → (oencL x36.Body).take (x36.Body.length * 9) = oencL x36.Body := fun h => by rw [← h]; exact oencL_takeN _ (by simp)
      have f114v : x36.Body.length = x36.Body.length → (oencL y31.Procs).set (2) (.own (.sl 9 x36.Body.length (otL x36.Body))) = oencL l115 := fun h => by rw [← h]; exact f114
      have f114w : ∀ n : Nat, n = l115.length → (encL l115).take (n * 3) = encL l115 := fun n h => by rw [h]; exact encL_takeN _ (by simp)
      have F30 := an F4 (an h39 (an f114 (an f114n (an f114t (an f114u (an f114v f114w))))))
      have F31 := an F30 hx37b
      repeat (first | simp [F30] | with_reducible first | refine And.intro (by omega) ?_ | refine optF_if (by omega) ?_ | refine gsel_pure (by with_unfolding_all rfl) _ (fun hg => by (try simp at hg); first | (simp [hg, F31]; rfl) | (simp [F30]; simp only [if_pos hg]; simp [F30]; rfl)) ?_)
      refine awp_gh (by rfl) (Gh.close _ (.o 6 1 3) (2)) ?_
      try simp only [St.frz, St.pur]
      refine goR F30 ?_
      obtain rfl := sj hs
      exact hQ _ _ (rg F30 (Gh.refl _))
  · replace hs := condF h35 hs
    have F32 := an F3 h35
    refine goG F32 F32 ?_
    refine goR F32 ?_
    obtain rfl := sj hs
    exact hQ _ _ (rg F32 (Gh.refl _))
end Go.Dc
end
section
set_option linter.all false
namespace Go.Dc
open Go Go.Hw Go.Proofs
set_option maxRecDepth 100000

def law16_AstCheck (fuelN : Nat) (a0 : UnitT) : Option Bool :=
  Option.bind (r16_Few fuelN a0) (fun y1 => cond (!y1) (Option.bind (law16_awake fuelN) (fun y4 => some y4)) (Option.bind (ast_Check fuelN a0) (fun y6 => Option.bind (r16_Check fuelN a0) (fun y8 => Option.bind (law16_awake fuelN) (fun y10 => some (andB (andB (andB y10 (eqI y6.1 y8.1)) (eqI y6.2.1 y8.2.1)) (eqI y6.2.2 y8.2.2)))))))

end Go.Dc
end
section
set_option linter.all false
namespace Go.Dc
open Go Go.Hw Go.Proofs
set_option maxRecDepth 100000

def law16_AstExpr (fuelN : Nat) (a0 : Expr) (a1 : List ByteArray) : Option Bool :=
  Option.bind (r16_FewExpr fuelN a0) (fun y1 => cond (orB (!y1) (ltI 100 ((a1.length : Nat) : Int))) (Option.bind (law16_awake fuelN) (fun y4 => some y4)) (Option.bind (law16_awake fuelN) (fun y12 => guardO (orB (!y12) ((ast_CheckExpr fuelN a0 a1).isSome)) (guardO (orB (!y12) ((r16_CheckExpr fuelN a0 a1).isSome)) (guardO (orB (!(andB y12 (eqI ((ast_CheckExpr fuelN a0 a1).getD default) ((r16_CheckExpr fuelN a0 a1).getD default)))) ((ast_Depth fuelN a0).isSome)) (guardO (orB (!(andB y12 (eqI ((ast_CheckExpr fuelN a0 a1).getD default) ((r16_CheckExpr fuelN a0 a1).getD default)))) ((r16_Depth fuelN a0).isSome)) (some (andB (andB y12 (eqI ((ast_CheckExpr fuelN a0 a1).getD default) ((r16_CheckExpr fuelN a0 a1).getD default))) (eqI ((ast_Depth fuelN a0).getD default) ((r16_Depth fuelN a0).getD default))))))))))

set_option maxHeartbeats 2000000 in
theorem at_law16_AstExpr {fuelN : Nat} {a0 : Expr} {a1 : List ByteArray} {r : Bool} (hs : law16_AstExpr fuelN a0 a1 = some r) : At Tryd.prog 8 [.agg (eA a0), .cell (sC a1)] (bV r) := by
  refine at_bound (by kernel_rfl) fun hb => ?_
  have hb1 : LenOk (.sl a0.Args.length (encL a0.Args)) := lkc hb
  have hb2 : LenOk (.sl a1.length (encL a1)) := lkc hb
  refine at_code mixed Tryd.func8 (by kernel_rfl) rfl (by kernel_rfl) rfl fun Q hQ => ?_
  rw [law16_AstExpr] at hs
  refine goR f0 ?_
  revert hs; refine bK fun y1 hx2 hs => ?_
  refine cP f0 (at_r16_FewExpr hx2) ?_
  refine goG f0 f0 ?_
  revert hs; refine cS f0 ?_ ?_ <;> intro h3 hs
  · refine goG f0 f0 ?_
    revert hs; refine bK fun y4 hx5 hs => ?_
    refine cP f0 (at_law16_awake hx5) ?_
    refine goG f0 f0 ?_
    obtain rfl := sj hs
    exact hQ _ _ (rg f0 (Gh.refl _))
  · refine goE f0 f0 ?_
    revert hs; refine bK fun y12 hx13 hs => ?_
    refine cP f0 (at_law16_awake hx13) ?_
    refine goE f0 f0 ?_
    obtain ⟨g14, hs⟩ := guardO_some hs
    refine dsel_call (fun hg => at_ast_CheckExpr (under_call g14 hg)) (fun hg => by (try simp at hg); (first | simp [hg, id]); try rfl) (fun hg => by (try simp at hg); simp [hg, id]) (by simp) ?_
    refine goE f0 f0 ?_
    obtain ⟨g15, hs⟩ := guardO_some hs
    refine dsel_call (fun hg => at_r16_CheckExpr (under_call g15 hg)) (fun hg => by (try simp at hg); (first | simp [hg, id]); try rfl) (fun hg => by (try simp at hg); simp [hg, id]) (by simp) ?_
    refine goE f0 f0 ?_
    obtain ⟨g16, hs⟩ := guardO_some hs
    refine dsel_call (fun hg => at_ast_Depth (under_call g16 hg)) (fun hg => by (try simp at hg); (first | simp [hg, id]); try rfl) (fun hg => by (try simp at hg); simp [hg, id]) (by simp) ?_
    refine goE f0 f0 ?_
    obtain ⟨g17, hs⟩ := guardO_some hs
    refine dsel_call (fun hg => at_r16_Depth (under_call g17 hg)) (fun hg => by (try simp at hg); (first | simp [hg, id]); try rfl) (fun hg => by (try simp at hg); simp [hg, id]) (by simp) ?_
    refine goE f0 f0 ?_
    obtain rfl := sj hs
    exact hQ _ _ (rg f0 (Gh.refl _))
end Go.Dc
end
section
set_option linter.all false
namespace Go.Dc
open Go Go.Hw Go.Proofs
set_option maxRecDepth 100000

def law16_AstShape (fuelN : Nat) (a0 : Proc) : Option Bool :=
  Option.bind (some ([a0])) (fun l1 => Option.bind (r16_Few fuelN ({ Vars := [], Mutexes := [], Conds := [], Procs := l1, Threads := [] } : UnitT)) (fun y3 => cond (!y3) (Option.bind (law16_awake fuelN) (fun y6 => some y6)) (Option.bind (law16_awake fuelN) (fun y15 => guardO (orB (!y15) ((ast_Locals a0).isSome)) (guardO (orB (!y15) ((r16_Locals fuelN a0).isSome)) (guardO (orB (!y15) ((r16_Strings ((ast_Locals a0).getD default) ((r16_Locals fuelN a0).getD default)).isSome)) (guardO (orB (!(andB y15 ((r16_Strings ((ast_Locals a0).getD default) ((r16_Locals fuelN a0).getD default)).getD default))) ((ast_Count a0.Body).isSome)) (guardO (orB (!(andB y15 ((r16_Strings ((ast_Locals a0).getD default) ((r16_Locals fuelN a0).getD default)).getD default))) ((r16_Count fuelN a0.Body).isSome)) (some (andB (andB y15 ((r16_Strings ((ast_Locals a0).getD default) ((r16_Locals fuelN a0).getD default)).getD default)) (eqI ((ast_Count a0.Body).getD default) ((r16_Count fuelN a0.Body).getD default))))))))))))

set_option maxHeartbeats 2000000 in
theorem at_law16_AstShape {fuelN : Nat} {a0 : Proc} {r : Bool} (hs : law16_AstShape fuelN a0 = some r) : At Tryd.prog 9 [.agg (eA a0)] (bV r) := by
  refine at_bound (by kernel_rfl) fun hb => ?_
  have hb1 : LenOk (.sl a0.Body.length (encL a0.Body)) := lkc hb
  refine at_code mixed Tryd.func9 (by kernel_rfl) rfl (by kernel_rfl) rfl fun Q hQ => ?_
  rw [law16_AstShape] at hs
  revert hs; refine lK fun l1 hx2 hs => ?_
  have hx2n : l1.length = 1 := by rw [hx2]; rfl
  refine goR hx2 ?_
  revert hs; refine bK fun y3 hx4 hs => ?_
  refine cA hx2 (at_unz (args := [.agg [.z, .z, .z, sC l1, .z]]) (by simp) (at_r16_Few hx4)) ?_
  refine goR hx2 ?_
  revert hs; refine cS hx2 ?_ ?_ <;> intro h5 hs
  · refine goR hx2 ?_
    revert hs; refine bK fun y6 hx7 hs => ?_
    refine cP hx2 (at_law16_awake hx7) ?_
    refine goR hx2 ?_
    obtain rfl := sj hs
    exact hQ _ _ (rg hx2 (Gh.refl _))
  · refine goD hx2 ?_
    revert hs; refine bK fun y15 hx16 hs => ?_
    refine cP hx2 (at_law16_awake hx16) ?_
    refine goE hx2 hx2 ?_
    obtain ⟨g17, hs⟩ := guardO_some hs
    refine dsel_call (fun hg => at_ast_Locals (under_call g17 hg)) (fun hg => by (try simp at hg); (first | simp [hg, hx2]); try rfl) (fun hg => by (try simp at hg); simp [hg, hx2]) (by simp) ?_
    refine goE hx2 hx2 ?_
    obtain ⟨g18, hs⟩ := guardO_some hs
    refine dsel_call (fun hg => at_r16_Locals (under_call g18 hg)) (fun hg => by (try simp at hg); (first | simp [hg, hx2]); try rfl) (fun hg => by (try simp at hg); simp [hg, hx2]) (by simp) ?_
    refine goE hx2 hx2 ?_
    obtain ⟨g19, hs⟩ := guardO_some hs
    refine dsel_call (fun hg => at_r16_Strings (under_call g19 hg)) (fun hg => by (try simp at hg); (first | simp [hg, hx2]); try rfl) (fun hg => by (try simp at hg); simp [hg, hx2]) (by simp) ?_
    refine goE hx2 hx2 ?_
    obtain ⟨g20, hs⟩ := guardO_some hs
    refine dsel_call (fun hg => at_ast_Count (under_call g20 hg)) (fun hg => by (try simp at hg); (first | simp [hg, hx2]); try rfl) (fun hg => by (try simp at hg); simp [hg, hx2]) (by simp) ?_
    refine goE hx2 hx2 ?_
    obtain ⟨g21, hs⟩ := guardO_some hs
    refine dsel_call (fun hg => at_r16_Count (under_call g21 hg)) (fun hg => by (try simp at hg); (first | simp [hg, hx2]); try rfl) (fun hg => by (try simp at hg); simp [hg, hx2]) (by simp) ?_
    refine goE hx2 hx2 ?_
    obtain rfl := sj hs
    exact hQ _ _ (rg hx2 (Gh.refl _))
end Go.Dc
end
section
set_option linter.all false
namespace Go.Dc.Pl
open Go Go.Hw Go.Dc
set_option maxRecDepth 100000 in
theorem awake_true : law16_awake 2097160 = some true := by kernel_rfl
theorem law_expr {e : Expr} (ls : List ByteArray) (h : nE e ≤ 1048576) : law16_AstExpr 2097160 e ls = some true := by
  obtain ⟨b, hb⟩ := few_expr (N := 2097160) (e := e) (by omega) h
  rw [law16_AstExpr, hb, Option.bind_some, awake_true, own_expr ls (by omega) h, ref_expr ls (by omega) h, own_depth _ e (by omega) h, ref_depth (by omega) h]
  cases orB (!b) (ltI 100 ((ls.length : Nat) : Int)) <;> simp [andB_d, eqI_d, orB_d]
theorem strings_refl : ∀ (l : List ByteArray), r16_Strings l l = some true := by
  intro l
  have h := srch (L := r16_Strings_L1 l) (fun _ _ => (none : Option Bool)) (fun _ => rfl) l 0 fun j x hx q => by
    rw [Nat.zero_add, r16_Strings_L1, hx, Option.bind_some]; simp [eqS]
  have e : first (fun (_ : Nat) (_ : ByteArray) => (none : Option Bool)) l 0 = none := by
    generalize 0 = k
    induction l generalizing k with
    | nil => rfl
    | cons x l ih => rw [first_cons]; exact ih (srch (L := r16_Strings_L1 l) (fun _ _ => (none : Option Bool)) (fun _ => rfl) l 0 fun j x hx q => by
        rw [Nat.zero_add, r16_Strings_L1, hx, Option.bind_some]; simp [eqS]) (k + 1)
  rw [r16_Strings, h, e]; simp [eqI_d]
theorem law_shape {p : Proc} (h : nSL p.Body ≤ 1048576) : law16_AstShape 2097160 p = some true := by
  obtain ⟨b, hb⟩ := few_some (N := 2097160) (u := ({ Vars := [], Mutexes := [], Conds := [], Procs := [p], Threads := [] } : UnitT)) ⟨by simp, by simp, by simp, by simp, by simp, fun q hq => by simp at hq; subst hq; exact h⟩ (by omega)
  rw [law16_AstShape, Option.bind_some, hb, Option.bind_some, awake_true, own_locals (by omega), ref_locals (by omega) (by omega), own_count (by omega), ref_count _ _ (by omega) (by omega)]
  cases b <;> simp [andB_d, eqI_d, orB_d, strings_refl]
end Go.Dc.Pl
end
section
set_option linter.all false
namespace Go.Hw
variable [Globals]
section
variable {H : Type} {enc : TypeId × Value → H} {P : Program} {w : World} {sp : Nat → Bool} {held : Bool}
end
end Go.Hw
end
section
set_option linter.all false
namespace Go.Hw
variable [Globals]
def okT (P : Program) (S : List TypeId) (t : TypeId) : Bool := match P.underlying t with
  | some .bool => P.cellsOf t == 1
  | some (.int _) => P.cellsOf t == 1
  | some .string => P.cellsOf t == 1
  | some (.slice e) => S.contains e && P.cellsOf t == 1
  | some (.struct fs) => fs.toList.all (fun f => S.contains f.type) && contig P 0 fs.toList == some (P.cellsOf t)
  | some (.array k e) => S.contains e && P.cellsOf t == k * P.cellsOf e
  | _ => false
def okS (P : Program) (S : List TypeId) : Bool := S.all (okT P S)
section
variable {H : Type} {enc : TypeId × Value → H} {P : Program} {w : World} {sp : Nat → Bool} {held : Bool} {bad : Nat → Prop} {S : List TypeId}
theorem trodW_fields {n : Nat} (ih : ∀ (t : TypeId) (cs : List Value) (x : DataW H × List MemPlace), t ∈ S → DataW.trod enc P w 0 sp held n t cs = some x → ∃ cvs, cvD P n t x.1 = some cvs ∧ CReps w bad cs cvs) {cs : List Value} :
    ∀ (fl : List Field) (xs : List (DataW H × List MemPlace)) (off tot : Nat), (∀ f ∈ fl, f.type ∈ S) → contig P off fl = some tot → xs.length = fl.length →
      (∀ (i : Nat) (f : Field), fl[i]? = some f → DataW.trod enc P w 0 sp held n f.type ((cs.drop f.offset).take (P.cellsOf f.type)) = xs[i]?) →
      ∃ cvs, concatM (List.zipWith (fun f d => cvD P n f.type d) fl (xs.map (·.1))) = some cvs ∧ CReps w bad ((cs.drop off).take (tot - off)) cvs
  | [], xs, off, tot, _, hc, hl, _ => by
    simp [contig] at hc
    subst hc
    exact ⟨[], by simp [concatM], by simpa using CReps.nil⟩
  | f :: r, [], off, tot, _, _, hl, _ => by simp at hl
  | f :: r, x :: xs, off, tot, hp, hc, hl, ht => by
    rw [contig] at hc
    split at hc
    · rename_i ho
      have h0 := ht 0 f rfl
      simp at h0
      rw [ho] at h0
      obtain ⟨c1, e1, r1⟩ := ih f.type _ x (hp f (by simp)) h0
      obtain ⟨c2, e2, r2⟩ := trodW_fields ih r xs (off + P.cellsOf f.type) tot (fun g hg => hp g (by simp [hg])) hc (by simpa using hl) (fun i g hg => by simpa using ht (i + 1) g (by simpa using hg))
      refine ⟨c1 ++ c2, ?_, ?_⟩
      · simp only [List.map_cons, List.zipWith_cons_cons, e1, concatM, e2, Option.map_some]
      · rw [drop_split cs (contig_le hc)]
        exact r1.append r2
    · cases hc
theorem trodW_elems {n : Nat} {e : TypeId} (ih : ∀ (cs : List Value) (x : DataW H × List MemPlace), DataW.trod enc P w 0 sp held n e cs = some x → ∃ cvs, cvD P n e x.1 = some cvs ∧ CReps w bad cs cvs) {cs : List Value} :
    ∀ (xs : List (DataW H × List MemPlace)) (i0 : Nat), (∀ i, i < xs.length → DataW.trod enc P w 0 sp held n e ((cs.drop ((i0 + i) * P.cellsOf e)).take (P.cellsOf e)) = xs[i]?) →
      ∃ cvs, concatM ((xs.map (·.1)).map (cvD P n e)) = some cvs ∧ CReps w bad ((cs.drop (i0 * P.cellsOf e)).take (xs.length * P.cellsOf e)) cvs
  | [], i0, _ => ⟨[], by simp [concatM], by simpa using CReps.nil⟩
  | x :: xs, i0, ht => by
    have h0 := ht 0 (by simp)
    simp at h0
    obtain ⟨c1, e1, r1⟩ := ih _ x h0
    obtain ⟨c2, e2, r2⟩ := trodW_elems ih xs (i0 + 1) (fun i hi => by
      have := ht (i + 1) (by simpa using hi)
      rw [show i0 + (i + 1) = i0 + 1 + i by omega] at this
      simpa using this)
    refine ⟨c1 ++ c2, by simp only [List.map_cons, e1, concatM, e2, Option.map_some], ?_⟩
    have h1 : (i0 + 1) * P.cellsOf e = i0 * P.cellsOf e + P.cellsOf e := by rw [Nat.succ_mul]
    rw [h1] at r2
    have h2 : (x :: xs).length * P.cellsOf e = P.cellsOf e + xs.length * P.cellsOf e := by rw [List.length_cons, Nat.succ_mul]; omega
    rw [h2, List.take_add, List.drop_drop]
    exact r1.append r2
theorem trodW_slots {n : Nat} {e : TypeId} {a : Addr} (ih : ∀ (cs : List Value) (x : DataW H × List MemPlace), DataW.trod enc P w 0 sp held n e cs = some x → ∃ cvs, cvD P n e x.1 = some cvs ∧ CReps w bad cs cvs) :
    ∀ (xs : List (DataW H × List MemPlace)) (i0 : Nat), (∀ i, i < xs.length → (w.cells? 0 (a.add ((i0 + i) * P.cellsOf e)) (P.cellsOf e)).bind (DataW.trod enc P w 0 sp held n e) = xs[i]?) →
      ∃ cvs raws, concatM ((xs.map (·.1)).map (cvD P n e)) = some cvs ∧ CReps w bad raws cvs ∧ raws.length = xs.length * P.cellsOf e ∧ ∀ j u, raws[j]? = some u → w.cell? (a.add (i0 * P.cellsOf e + j)) = some u
  | [], i0, _ => ⟨[], [], by simp [concatM], CReps.nil, by simp, by simp⟩
  | x :: xs, i0, ht => by
    have h0 := ht 0 (by simp)
    simp only [Nat.add_zero, List.getElem?_cons_zero, Option.bind_eq_some_iff] at h0
    obtain ⟨us, hu, h0⟩ := h0
    obtain ⟨c1, e1, r1⟩ := ih _ x h0
    obtain ⟨c2, raws, e2, r2, hl, hm⟩ := trodW_slots ih xs (i0 + 1) (fun i hi => by
      have := ht (i + 1) (by simpa using hi)
      rw [show i0 + (i + 1) = i0 + 1 + i by omega] at this
      simpa using this)
    obtain ⟨_, hul, huc⟩ := World.cells?_some hu
    refine ⟨c1 ++ c2, us ++ raws, by simp only [List.map_cons, e1, concatM, e2, Option.map_some], r1.append r2, ?_, fun j u hj => ?_⟩
    · rw [List.length_append, hul, hl, List.length_cons, Nat.succ_mul]; omega
    · rcases Nat.lt_or_ge j us.length with hj' | hj'
      · rw [List.getElem?_append_left hj'] at hj
        have := huc j (by omega)
        rw [addr_add] at this
        rw [this, hj]
      · rw [List.getElem?_append_right hj'] at hj
        have := hm _ u hj
        have h1 : (i0 + 1) * P.cellsOf e = i0 * P.cellsOf e + P.cellsOf e := by rw [Nat.succ_mul]
        rw [h1, Nat.add_assoc, show P.cellsOf e + (j - us.length) = j by omega] at this
        exact this
/-- What reads as_ a datum is its cells: types that may lead to themselves. -/
theorem trodW_cvs (hbad : ∀ b, ¬ bad b) (hS : okS P S = true) : ∀ (m : Nat) (t : TypeId) (cs : List Value) (x : DataW H × List MemPlace), t ∈ S → DataW.trod enc P w 0 sp held m t cs = some x → ∃ cvs, cvD P m t x.1 = some cvs ∧ CReps w bad cs cvs
  | 0, t, cs, x, _, h => by simp [DataW.trod] at h
  | m + 1, t, cs, x, hp, h => by
    have ih := trodW_cvs hbad hS m
    have hp := List.all_eq_true.1 hS t hp
    rw [okT] at hp
    split at hp
    · rename_i hu
      obtain ⟨b, rfl, rfl⟩ := DataW.trod_bool hu h
      exact ⟨[.c (.bool b)], by simp [cvD, hu], .single (.c _) rfl⟩
    · rename_i k hu
      obtain ⟨n, rfl, rfl, hw⟩ := DataW.trod_int hu h
      exact ⟨[.c (.int k n)], by simp only [cvD, hu]; rw [if_pos (by simpa [Lit.wf] using hw)], .single (.c _) rfl⟩
    · rename_i hu
      obtain ⟨s, rfl, rfl, _⟩ := DataW.trod_string hu h
      exact ⟨[.c (.string s)], by simp [cvD, hu], .single (.c _) rfl⟩
    · rename_i e hu
      simp only [Bool.and_eq_true, List.contains_iff_mem] at hp
      rcases DataW.trod_slice hu h with ⟨rfl, rfl⟩ | ⟨a, len, cap, elems, rest, n, hn, rfl, rfl, _, hlc, hcm, hel, hE, _, _⟩
      · exact ⟨[.sl 0 []], by simp [cvD, hu], .single (.sl none 0 0 [] [] (Nat.le_refl _) (Nat.zero_le _) rfl (by simp) (by simp) (by simp)) rfl⟩
      · obtain rfl : n = m := by omega
        obtain ⟨cvs, raws, e1, r1, hl, hm⟩ := trodW_slots (fun cs x h => ih e cs x hp.1 h) elems 0 (fun i hi => by simpa using hE i (by omega))
        refine ⟨[.sl elems.length cvs], by simp only [cvD, hu, e1, Option.map_some, List.length_map], .single ?_ rfl⟩
        rw [← hel]
        exact .sl (some a) _ cap raws cvs (by omega) hcm r1.len r1.one (fun j u hj => ⟨a, rfl, hbad _, by simpa using hm j u hj⟩) r1.rep
    · rename_i fs hu
      simp only [Bool.and_eq_true, beq_iff_eq, List.all_eq_true, List.contains_iff_mem] at hp
      obtain ⟨xs, n, hn, rfl, hcl, hxl, hF⟩ := DataW.trod_struct hu h
      obtain rfl : n = m := by omega
      obtain ⟨cvs, e1, r1⟩ := trodW_fields ih (cs := cs) fs.toList xs 0 (P.cellsOf t) hp.1 hp.2 (by simpa using hxl) (fun i f hf => hF i f (by simpa using hf))
      refine ⟨cvs, by simp only [cvD, hu, e1, List.length_map, hxl, if_true], ?_⟩
      have : (cs.drop 0).take (P.cellsOf t - 0) = cs := by rw [← hcl]; simp
      rwa [this] at r1
    · rename_i k e hu
      simp only [Bool.and_eq_true, beq_iff_eq, List.contains_iff_mem] at hp
      obtain ⟨xs, n, hn, rfl, hcl, hxl, hE⟩ := DataW.trod_array hu h
      obtain rfl : n = m := by omega
      obtain ⟨cvs, e1, r1⟩ := trodW_elems (fun cs x h => ih e cs x hp.1 h) (cs := cs) xs 0 (fun i hi => by simpa using hE i (by omega))
      refine ⟨cvs, by simp only [cvD, hu, e1, List.length_map, hxl, if_true], ?_⟩
      have : (cs.drop (0 * P.cellsOf e)).take (xs.length * P.cellsOf e) = cs := by
        rw [hxl, ← hp.2, ← hcl]; simp
      rwa [this] at r1
    · cases hp
open Go.WideShapes in
theorem repW_struct {t : TypeId} {fs : Array Field} {v : Value} {d : DataW H} {p : List MemPlace} {r : Go.Reach} {b0 : Nat} (hS : okS P S = true) (ht : t ∈ S) (hu : P.underlying t = some (.struct fs)) (hv : Value.okWide P w r b0 t v)
    (h : DataW.Trod enc P w 0 sp held t v d p) : ∃ m cvs, cvD P m t d = some cvs ∧ AVRep w m0 (fun _ => False) v (.agg (cvs.map .p)) := by
  obtain ⟨cs, rfl, hsz⟩ := okWide_struct hu hv
  obtain ⟨fuel, hf⟩ := h
  obtain ⟨cvs, e, hr⟩ := trodW_cvs (bad := Bad m0 (fun _ => False)) (fun b hb => (bad_m0).1 hb) hS fuel t _ _ ht hf
  have hr : CReps w (Bad m0 (fun _ => False)) cs.toList cvs := hr
  refine ⟨fuel, cvs, e, .agg cs _ (by have := hr.len; simpa using this) hr.one fun j u x hj hx => ?_⟩
  rw [List.getElem?_map, Option.map_eq_some_iff] at hx
  obtain ⟨c, hc, rfl⟩ := hx
  exact hr.rep j u c (by simpa using hj) hc
open Go.WideShapes in
theorem repW_slice {t e : TypeId} {v : Value} {d : DataW H} {p : List MemPlace} {r : Go.Reach} {b0 : Nat} (hS : okS P S = true) (ht : t ∈ S) (hu : P.underlying t = some (.slice e)) (hv : Value.okWide P w r b0 t v)
    (h : DataW.Trod enc P w 0 sp held t v d p) : ∃ m c, cvD P m t d = some [c] ∧ AVRep w m0 (fun _ => False) v (.cell (.p c)) := by
  obtain ⟨a, len, cap, rfl⟩ := okWide_slice hu hv
  obtain ⟨fuel, hf⟩ := h
  obtain ⟨cvs, e, hr⟩ := trodW_cvs (bad := Bad m0 (fun _ => False)) (fun b hb => (bad_m0).1 hb) hS fuel t _ _ ht hf
  have hl := hr.len
  match cvs, hl with
  | [c], _ => exact ⟨fuel, c, e, .cell _ _ (hr.rep 0 _ _ rfl rfl)⟩
end
/-! What a datum's cells are, part by part. -/
theorem cvD_sliceW {H : Type} {P : Program} {n t e : Nat} {d : DataW H} {c : List CV} {α : Type} [Enc α] (hu : P.underlying t = some (.slice e)) (hg : ∀ m, m < n → ∀ (d : DataW H) c, cvD P m e d = some c → ∃ x : α, c = Enc.enc x) (h : cvD P n t d = some c) : ∃ L : List α, c = Enc.enc L := by
  cases n with
  | zero => simp [cvD] at h
  | succ n =>
    simp only [cvD, hu] at h
    split at h
    · cases h; exact ⟨[], rfl⟩
    · rename_i l sp
      rw [Option.map_eq_some_iff] at h
      obtain ⟨c', h, rfl⟩ := h
      obtain ⟨L, hL, rfl⟩ := concatM_map (fun d _ c hc => hg n (Nat.lt_succ_self _) d c hc) h
      exact ⟨L, by rw [← hL]; rfl⟩
    · cases h
theorem cvD_structW {H : Type} {P : Program} {n t : Nat} {d : DataW H} {c : List CV} {fs : Array Field} (hu : P.underlying t = some (.struct fs)) (h : cvD P n t d = some c) : ∃ m l, m < n ∧ d = .agg l ∧ l.length = fs.size ∧ concatM (List.zipWith (fun f d => cvD P m f.type d) fs.toList l) = some c := by
  cases n with
  | zero => simp [cvD] at h
  | succ n =>
    simp only [cvD, hu] at h
    split at h
    · rename_i l
      split at h
      · rename_i hl; exact ⟨n, l, Nat.lt_succ_self _, rfl, hl, h⟩
      · cases h
    · cases h
/-! Integers are within their kinds; how much a datum holds. -/
mutual
def okC : CV → Prop
  | .c (.int k n) => k.min ≤ n ∧ n ≤ k.max
  | .sl _ cs => okL cs
  | _ => True
def okL : List CV → Prop
  | [] => True
  | x :: r => okC x ∧ okL r
end
mutual
def bkC : CV → Nat
  | .c (.string s) => s.size + 1
  | .sl _ cs => bkL cs + 1
  | _ => 1
def bkL : List CV → Nat
  | [] => 0
  | x :: r => bkC x + bkL r
end
@[simp] theorem okL_nil : okL [] := by rw [okL]; trivial
@[simp] theorem okL_cons (x : CV) (r : List CV) : okL (x :: r) ↔ okC x ∧ okL r := by rw [okL]
@[simp] theorem bkL_nil : bkL [] = 0 := by rw [bkL]
@[simp] theorem bkL_cons (x : CV) (r : List CV) : bkL (x :: r) = bkC x + bkL r := by rw [bkL]
@[simp] theorem okL_append (a b : List CV) : okL (a ++ b) ↔ okL a ∧ okL b := by
  induction a with
  | nil => simp
  | cons x a ih => simp [ih, and_assoc]
@[simp] theorem bkL_append (a b : List CV) : bkL (a ++ b) = bkL a + bkL b := by
  induction a with
  | nil => simp
  | cons x a ih => simp [ih]; omega
@[simp] theorem bkC_sl (n : Nat) (cs : List CV) : bkC (.sl n cs) = bkL cs + 1 := by rw [bkC]
@[simp] theorem bkC_str (s : ByteArray) : bkC (.c (.string s)) = s.size + 1 := by rw [bkC]
@[simp] theorem bkC_int (k : IntKind) (n : Int) : bkC (.c (.int k n)) = 1 := by rw [bkC] <;> simp
@[simp] theorem bkC_bool (b : Bool) : bkC (.c (.bool b)) = 1 := by rw [bkC] <;> simp
@[simp] theorem okC_sl (n : Nat) (cs : List CV) : okC (.sl n cs) ↔ okL cs := by rw [okC]
@[simp] theorem okC_int (k : IntKind) (n : Int) : okC (.c (.int k n)) ↔ (k.min ≤ n ∧ n ≤ k.max) := by rw [okC]
theorem bkC_pos (c : CV) : 1 ≤ bkC c := by
  cases c with
  | c v => cases v <;> simp [bkC]
  | sl n cs => simp
  | _ => simp [bkC]
theorem bkL_encL {α : Type} [Enc α] : ∀ {l : List α} {x : α}, x ∈ l → bkL (Enc.enc x) ≤ bkL (encL l)
  | y :: r, x, hx => by
    rw [encL_cons, bkL_append]
    rcases List.mem_cons.1 hx with rfl | hx
    · omega
    · have := bkL_encL hx; omega
theorem bkL_len (l : List CV) : l.length ≤ bkL l := by
  induction l with
  | nil => simp
  | cons x l ih => have := bkC_pos x; simp; omega
theorem bkL_lenL {α : Type} [Enc α] (h : 1 ≤ Enc.sz α) (l : List α) : l.length ≤ bkL (encL l) := by
  have h1 := bkL_len (encL l)
  rw [encL_length] at h1
  exact Nat.le_trans (Nat.le_mul_of_pos_right _ h) h1
theorem concatM_ok : ∀ {l : List (Option (List CV))} {c : List CV}, (∀ o ∈ l, ∀ a, o = some a → okL a) → concatM l = some c → okL c
  | [], c, _, h => by simp [concatM] at h; subst h; simp
  | o :: r, c, hf, h => by
    obtain ⟨a, b, rfl, hb, rfl⟩ := concatM_cons h
    rw [okL_append]
    exact ⟨hf _ (by simp) a rfl, concatM_ok (fun o ho => hf o (by simp [ho])) hb⟩
theorem cvD_okL {H : Type} {P : Program} : ∀ (n : Nat) (t : TypeId) (d : DataW H) (c : List CV), cvD P n t d = some c → okL c
  | 0, t, d, c, h => by simp [cvD] at h
  | n + 1, t, d, c, h => by
    unfold cvD at h
    split at h
    · split at h
      · cases h; simp [okC]
      · cases h
    · split at h
      · split at h
        · rename_i hr; cases h; simpa using hr
        · cases h
      · cases h
    · split at h
      · cases h; simp [okC]
      · cases h
    · split at h
      · cases h; simp
      · rw [Option.map_eq_some_iff] at h
        obtain ⟨c', h, rfl⟩ := h
        simp only [okL_cons, okC_sl, okL_nil, and_true]
        refine concatM_ok (fun o ho a ha => ?_) h
        obtain ⟨d', _, rfl⟩ := List.mem_map.1 ho
        exact cvD_okL n _ d' a ha
      · cases h
    · split at h
      · split at h
        · refine concatM_ok (fun o ho a ha => ?_) h
          rw [List.mem_iff_getElem?] at ho
          obtain ⟨j, hj⟩ := ho
          rw [List.getElem?_zipWith] at hj
          split at hj
          · cases hj; exact cvD_okL n _ _ a ha
          · cases hj
        · cases h
      · cases h
    · split at h
      · split at h
        · refine concatM_ok (fun o ho a ha => ?_) h
          obtain ⟨d', _, rfl⟩ := List.mem_map.1 ho
          exact cvD_okL n _ d' a ha
        · cases h
      · cases h
    · cases h
section
variable {H : Type} (B : DataW H → Nat) (Bs : List (DataW H) → Nat) (hnil : Bs [] = 0) (hcons : ∀ d r, Bs (d :: r) = B d + Bs r)
include hnil hcons
theorem concatM_bk {f : DataW H → Option (List CV)} : ∀ {l : List (DataW H)} {c : List CV}, (∀ d ∈ l, ∀ a, f d = some a → bkL a ≤ B d) → concatM (l.map f) = some c → bkL c ≤ Bs l
  | [], c, _, h => by simp [concatM] at h; subst h; simp
  | d :: r, c, hf, h => by
    rw [List.map_cons] at h
    obtain ⟨a, b, ha, hb, rfl⟩ := concatM_cons h
    have h1 := hf d (by simp) a ha
    have h2 := concatM_bk (fun d hd => hf d (by simp [hd])) hb
    rw [bkL_append, hcons]; omega
theorem concatM_bkz {F : Field → DataW H → Option (List CV)} : ∀ {fl : List Field} {l : List (DataW H)} {c : List CV}, (∀ f ∈ fl, ∀ d ∈ l, ∀ a, F f d = some a → bkL a ≤ B d) → concatM (List.zipWith F fl l) = some c → bkL c ≤ Bs l
  | [], l, c, _, h => by simp [concatM] at h; subst h; simp
  | f :: fl, [], c, _, h => by simp [concatM] at h; subst h; simp
  | f :: fl, d :: r, c, hf, h => by
    rw [List.zipWith_cons_cons] at h
    obtain ⟨a, b, ha, hb, rfl⟩ := concatM_cons h
    have h1 := hf f (by simp) d (by simp) a ha
    have h2 := concatM_bkz (fun g hg d hd => hf g (by simp [hg]) d (by simp [hd])) hb
    rw [bkL_append, hcons]; omega
/-- The cells of a datum hold no more than the datum, by whatever measure counts its parts. -/
theorem cvD_bk {P : Program} (hlit : ∀ l, 1 ≤ B (.lit l)) (hstr : ∀ l, l.length + 1 ≤ B (.lit (.string l))) (hn : 1 ≤ B .nil) (hsl : ∀ l s, Bs l + 1 ≤ B (.slice l s)) (hag : ∀ l, Bs l ≤ B (.agg l)) : ∀ (n : Nat) (t : TypeId) (d : DataW H) (c : List CV), cvD P n t d = some c → bkL c ≤ B d
  | 0, t, d, c, h => by simp [cvD] at h
  | n + 1, t, d, c, h => by
    have ih := cvD_bk (P := P) hlit hstr hn hsl hag n
    unfold cvD at h
    split at h
    · split at h
      · cases h; simpa using hlit _
      · cases h
    · split at h
      · split at h
        · cases h; simpa using hlit _
        · cases h
      · cases h
    · split at h
      · rename_i l; cases h; have := hstr l; simpa [ByteArray.size] using this
      · cases h
    · split at h
      · cases h; simpa using hn
      · rename_i l s
        rw [Option.map_eq_some_iff] at h
        obtain ⟨c', h, rfl⟩ := h
        have h1 := concatM_bk B Bs hnil hcons (fun d' _ a ha => ih _ d' a ha) h
        have h2 := hsl l s
        simp; omega
      · cases h
    · split at h
      · rename_i l
        split at h
        · have h1 := concatM_bkz B Bs hnil hcons (F := fun f d => cvD P n f.type d) (fun f _ d' _ a ha => ih _ d' a ha) h
          have h2 := hag l
          omega
        · cases h
      · cases h
    · split at h
      · rename_i l
        split at h
        · have h1 := concatM_bk B Bs hnil hcons (fun d' _ a ha => ih _ d' a ha) h
          have h2 := hag l
          omega
        · cases h
      · cases h
    · cases h
end
end Go.Hw
end
section
set_option linter.all false
namespace Go.Dc.Pl
open Go Go.Hw Go.Dc
mutual
theorem nE_bk : ∀ e : Expr, nE e ≤ bkL (Enc.enc e)
  | ⟨a, b, c, d, l⟩ => by rw [nE, enc_Expr]; have := nL_bk l; simp; omega
theorem nL_bk : ∀ l : List Expr, nL l ≤ bkL (encL l)
  | [] => by simp
  | x :: r => by rw [encL_cons, bkL_append, nL_cons]; have := nE_bk x; have := nL_bk r; omega
end
mutual
theorem nS_bk : ∀ s : Stmt, nS s ≤ bkL (Enc.enc s)
  | ⟨a, b, c, d, e, f, g, h, i⟩ => by rw [nS, enc_Stmt]; have := nL_bk g; have := nSL_bk h; have := nSL_bk i; simp; omega
theorem nSL_bk : ∀ l : List Stmt, nSL l ≤ bkL (encL l)
  | [] => by simp
  | x :: r => by rw [encL_cons, bkL_append, nSL_cons]; have := nS_bk x; have := nSL_bk r; omega
end
theorem proc_bk (p : Proc) : nSL p.Body ≤ bkL (Enc.enc p) := by
  rw [enc_Proc]; have := nSL_bk p.Body; simp; omega
theorem sm_of {u : UnitT} {n : Nat} (h : bkL (Enc.enc u) ≤ n) (hn : n ≤ 1048576) : Sm u := by
  rw [enc_UnitT] at h
  have h1 := bkL_lenL (α := Var) (by simp) u.Vars
  have h2 := bkL_lenL (α := ByteArray) (by simp) u.Mutexes
  have h3 := bkL_lenL (α := ByteArray) (by simp) u.Conds
  have h4 := bkL_lenL (α := Proc) (by simp) u.Procs
  have h5 := bkL_lenL (α := Launch) (by simp) u.Threads
  simp at h
  exact ⟨by omega, by omega, by omega, by omega, by omega, fun p hp => by have := bkL_encL hp; have := proc_bk p; omega⟩
end Go.Dc.Pl
end
section
set_option linter.all false
namespace Go.Dc
open Go Go.Hw Go.Proofs
set_option maxRecDepth 100000
def law16_bound_L1 (fuelN : Nat) (a1 : List ByteArray) (rF44z : (List Stmt) → (List ByteArray) → Option Bool) : List Stmt → Nat → Option (Unit ⊕ Bool)
  | [], k69 => some (.inl ())
  | x93 :: q89, k69 => guardO (orB (!(!(eqS x93.Name (⟨#[]⟩ : ByteArray)))) ((law16_has a1 x93.Name).isSome)) (guardO (orB (!(!(andB (!(eqS x93.Name (⟨#[]⟩ : ByteArray))) (!((law16_has a1 x93.Name).getD default))))) ((law16_closed fuelN x93.Exprs a1).isSome)) (guardO (orB (!(!(orB (andB (!(eqS x93.Name (⟨#[]⟩ : ByteArray))) (!((law16_has a1 x93.Name).getD default))) (!((law16_closed fuelN x93.Exprs a1).getD default))))) ((rF44z x93.Body a1).isSome)) (guardO (orB (!(!(orB (orB (andB (!(eqS x93.Name (⟨#[]⟩ : ByteArray))) (!((law16_has a1 x93.Name).getD default))) (!((law16_closed fuelN x93.Exprs a1).getD default))) (!((rF44z x93.Body a1).getD default))))) ((rF44z x93.Else a1).isSome)) (cond (orB (orB (orB (andB (!(eqS x93.Name (⟨#[]⟩ : ByteArray))) (!((law16_has a1 x93.Name).getD default))) (!((law16_closed fuelN x93.Exprs a1).getD default))) (!((rF44z x93.Body a1).getD default))) (!((rF44z x93.Else a1).getD default))) (some (.inr false)) (law16_bound_L1 fuelN a1 rF44z q89 (k69 + 1))))))

def law16_bound_B (rF44z : (List Stmt) → (List ByteArray) → Option Bool) (fuelN : Nat) (a0 : List Stmt) (a1 : List ByteArray) : Option Bool :=
  Option.bind (α := Unit ⊕ Bool) (Option.bind (law16_bound_L1 fuelN a1 rF44z a0 0) (fun o => match o with | .inl _ => some (.inl ()) | .inr r104 => some (.inr r104))) (fun o => match o with | .inl _ => some true | .inr r105 => some r105)

def law16_bound : Nat → (List Stmt) → (List ByteArray) → Option Bool
  | 0 => fun _ _ => none
  | fuelN + 1 => fun a0 a1 => law16_bound_B (law16_bound fuelN) fuelN a0 a1

set_option maxHeartbeats 2000000 in
theorem at_law16_bound_B {rF44z : (List Stmt) → (List ByteArray) → Option Bool} (ihrF44z : ∀ (a0 : List Stmt) (a1 : List ByteArray) (r : Bool), rF44z a0 a1 = some r → At Tryd.prog 44 [.cell (sC a0), .cell (sC a1)] (bV r)) {fuelN : Nat} {a0 : List Stmt} {a1 : List ByteArray} {r : Bool} (hs : law16_bound_B rF44z fuelN a0 a1 = some r) : At Tryd.prog 44 [.cell (sC a0), .cell (sC a1)] (bV r) := by
  refine at_bound (by kernel_rfl) fun hb => ?_
  have hb1 : LenOk (.sl a0.length (encL a0)) := lkc hb
  have hb2 : LenOk (.sl a1.length (encL a1)) := lkc hb
  refine at_code mixed Tryd.func44 (by kernel_rfl) rfl (by kernel_rfl) rfl fun Q hQ => ?_
  rw [law16_bound_B] at hs
  refine goR2 f0 ?_
  revert hs; refine bK fun o52 e51 hs => ?_
  refine awp_cutK (fun (v : Unit) (σ : St) => some (.inl v) = some o52 ∧ 2 ≤ σ.gen) (by rfl) (fun Q hK53 hX54 => ?_) (fun v σ3 hp => ?_)
  · refine goR f0 ?_
    revert e51; refine bK fun o84 e83 e51 => ?_
    refine awp_loopW (fun (v : (List Stmt) × Nat) (σ : St) => law16_bound_L1 fuelN a1 rF44z v.1 v.2 = some o84 ∧ v.1 = a0.drop v.2 ∧ σ.env 0 = .cell (sC a0) ∧ σ.env 1 = .cell (sC a1) ∧ σ.env 5 = iV .i64 ((v.2 : Nat) : Int) ∧ 2 ≤ σ.gen) (fun v => v.1.length) _ (Gh.refl _) (a0, 0) ⟨e83, by simp, pv f0, pv f0, pv f0, pg⟩ fun v σ6 hp L85 hL86 => ?_
    obtain ⟨q88, k69⟩ := v
    dsimp only at hp hL86
    obtain ⟨e83, hd87, h5_0, h5_1, h5_5, n5_g⟩ := hp
    rcases q88 with _ | ⟨x93, q89⟩
    · have hlt90 := drop_end hd87
      rw [law16_bound_L1] at e83; try dsimp only at e83
      have F1 := an h5_0 (an h5_1 h5_5)
      refine goR F1 ?_
      refine condK_f (by simp [ltI]; omega) ?_
      obtain rfl := sj e83
      try dsimp only at e51
      exact hK53 () _ _ (Gh.refl _) ⟨e51, pg⟩
    · obtain ⟨hx92, hlt90, hd94⟩ := drop_next hd87
      have ew91 := wrap_succ hlt90 (hb1).len
      rw [law16_bound_L1] at e83; try dsimp only at e83
      have F2 := an h5_0 (an h5_1 (an h5_5 (an hlt90 ew91)))
      refine goR F2 ?_
      refine condK_t (by simp [ltI]; omega) ?_
      have f95 : partCV Tryd.prog 9 (encL a0) (k69 * 9 + 1) = some (sV x93.Name) := partCV_enc hx92 (f := 1) (by simp)
      have F3 := an F2 f95
      refine goG F3 F3 ?_
      obtain ⟨g96, e83⟩ := guardO_some e83
      refine gsel_call (fun hg => at_law16_has (under_call g96 hg)) (fun hg => by (try simp at hg); (first | simp [hg, F3]); try rfl) (fun hg => by (try simp at hg); simp [hg, F3]) (by simp) ?_
      have f97 : partCV Tryd.prog 48 (encL a0) (k69 * 9 + 6) = some (.cell (sC x93.Exprs)) := partCV_enc hx92 (f := 6) (by simp)
      have F4 := an F3 f97
      refine goG F4 F4 ?_
      obtain ⟨g98, e83⟩ := guardO_some e83
      refine gsel_call (fun hg => at_law16_closed (under_call g98 hg)) (fun hg => by (try simp at hg); (first | simp [hg, F4]); try rfl) (fun hg => by (try simp at hg); simp [hg, F4]) (by simp) ?_
      have f99 : partCV Tryd.prog 55 (encL a0) (k69 * 9 + 7) = some (.cell (sC x93.Body)) := partCV_enc hx92 (f := 7) (by simp)
      have F5 := an F4 f99
      refine goG F5 F5 ?_
      obtain ⟨g100, e83⟩ := guardO_some e83
      refine gsel_call (fun hg => ihrF44z _ _ _ (under_call g100 hg)) (fun hg => by (try simp at hg); (first | simp [hg, F5]); try rfl) (fun hg => by (try simp at hg); simp [hg, F5]) (by simp) ?_
      have f101 : partCV Tryd.prog 55 (encL a0) (k69 * 9 + 8) = some (.cell (sC x93.Else)) := partCV_enc hx92 (f := 8) (by simp)
      have F6 := an F5 f101
      refine goG F6 F6 ?_
      obtain ⟨g102, e83⟩ := guardO_some e83
      refine gsel_call (fun hg => ihrF44z _ _ _ (under_call g102 hg)) (fun hg => by (try simp at hg); (first | simp [hg, F6]); try rfl) (fun hg => by (try simp at hg); simp [hg, F6]) (by simp) ?_
      refine goG F6 F6 ?_
      revert e83; refine cS F6 ?_ ?_ <;> intro h103 e83
      · refine goG F6 F6 ?_
        obtain rfl := sj e83
        try dsimp only at e51
        obtain rfl := sj e51
        try dsimp only at hs
        refine hX54 _ _ (by simp) ?_
        refine goG F6 F6 ?_
        obtain rfl := sj hs
        exact hQ _ _ (rg F6 (Gh.refl _))
      · refine goG F6 F6 ?_
        exact hL86 (q89, (k69 + 1)) _ _ (Gh.refl _) ⟨e83, hd94, pv F6, pv F6, pv F6, pg⟩ (by simp)
  · obtain ⟨e51, n4_g⟩ := hp
    obtain rfl := sj e51
    try dsimp only at hs
    refine goR f0 ?_
    obtain rfl := sj hs
    exact hQ _ _ (rg f0 (Gh.refl _))
theorem at_law16_bound : ∀ {fuelN : Nat} {a0 : List Stmt} {a1 : List ByteArray} {r : Bool} (hs : law16_bound fuelN a0 a1 = some r), At Tryd.prog 44 [.cell (sC a0), .cell (sC a1)] (bV r)
  | 0, _, _, _, hs => by rw [law16_bound] at hs; cases hs
  | n + 1, _, _, _, hs => by
    rw [law16_bound] at hs
    exact at_law16_bound_B (fun _ _ _ h => at_law16_bound h) hs
end Go.Dc
end
