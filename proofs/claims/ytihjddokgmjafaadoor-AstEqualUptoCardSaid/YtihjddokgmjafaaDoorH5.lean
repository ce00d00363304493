/- Contracts of functions, by their numbers, and the laws that walk them. Conditions: as each states. -/
import Derived.Test.YtihjddokgmjafaaDoorH4
import Derived.KernelRfl
import Derived.Test.YtihjddokgmjafaaDoorH3
set_option linter.all false
section
set_option linter.all false
namespace Go.Dc.Pl
open Go Go.Hw Go.Dc
/-! Names. -/
def nmW (l : List ByteArray) (k : Nat) (x : ByteArray) : Option (Int × Int) := if okWord x = false then some (6, (k : Int)) else onlyIf (isIn (l.take k) x) (7, (k : Int))
def badW (l : List ByteArray) : Option (Int × Int) := first (nmW l) l 0
def vnm (u : UnitT) : List ByteArray := u.Vars.map (·.Name)
def pnm (u : UnitT) : List ByteArray := u.Procs.map (·.Name)
def objs (u : UnitT) : Arr 5 (List ByteArray) := Arr.of 5 [[], vnm u, u.Mutexes, u.Conds, pnm u]
section
variable {u : UnitT} (h : Sm u)
include h
end
/-- The first error of the declarations. -/
def manyU (u : UnitT) : Bool := decide (8 < u.Vars.length ∨ 4 < u.Mutexes.length ∨ 4 < u.Conds.length ∨ 8 < u.Procs.length)
def headE (u : UnitT) : Option (Int × Int) :=
  match badW (vnm u), badW u.Mutexes, badW u.Conds, badW (pnm u) with
  | some r, _, _, _ => some (r.1, -1)
  | none, some r, _, _ => some (r.1, -1)
  | none, none, some r, _ => some (r.1, -1)
  | none, none, none, some r => some r
  | none, none, none, none => if manyU u = true then some (4, -1) else onlyIf (u.Vars.any fun v => outV v.Init) (2, -1)
/-! Procedures. -/
def fe (o : Arr 5 (List ByteArray)) (ls : List ByteArray) (k : Nat) (y : Int × Stmt) : Option (Int × Int) := if stE o ls y.1 y.2 = 0 then none else some (stE o ls y.1 y.2, (k : Int))
def procE (o : Arr 5 (List ByteArray)) (p : Proc) : Int × Int :=
  if eqS p.Param emp = false ∧ okWord p.Param = false then (6, -1) else if 128 < cSL p.Body then (4, -1) else if 4 + (par p).length < (locP p).length then (4, -1) else (first (fe o (locP p)) (flL 1 p.Body) 0).getD (0, -1)
/-! The reference's blocks. -/
def afterB (o : Arr 5 (List ByteArray)) (c : R16C) (xs : List (Int × Stmt)) (a : Nat) : Int × R16C := match first (fe o c.Locals) xs a with
  | none => (0, { c with At := ((a + xs.length : Nat) : Int) })
  | some r => (r.1, { c with At := r.2 })
def Fit (o : Arr 5 (List ByteArray)) (c : R16C) : Prop := o.f 1 = c.Vars ∧ o.f 2 = c.U.Mutexes ∧ o.f 3 = c.U.Conds ∧ o.f 4 = c.Procs
/-! The unit. -/
def pe (o : Arr 5 (List ByteArray)) (k : Nat) (p : Proc) : Option (Int × Int × Int) := if (procE o p).1 = 0 then none else some ((procE o p).1, (k : Int), (procE o p).2)
def thE (ps : List ByteArray) (t : Launch) : Option (Int × Int × Int) := if isIn ps t.Proc = false then some (11, -1, -1) else onlyIf (outV t.Arg) (2, -1, -1)
def checkU (u : UnitT) : Int × Int × Int :=
  match headE u with
  | some r => (r.1, r.2, -1)
  | none => match first (pe (objs u)) u.Procs 0 with
    | some r => r
    | none => if u.Threads.length < 1 ∨ 8 < u.Threads.length then (4, -1, -1) else (first (fun _ t => thE (pnm u) t) u.Threads 0).getD (0, -1, -1)
end Go.Dc.Pl
end
section
set_option linter.all false
namespace Go.Dc
open Go Go.Hw Go.Proofs
set_option maxRecDepth 100000
def r16_Strings_L1 (a1 : List ByteArray) : List ByteArray → Nat → Option (Unit ⊕ Bool)
  | [], k76 => some (.inl ())
  | x102 :: q98, k76 => Option.bind (a1[k76]?) (fun x109 => cond (!(eqS x102 x109)) (some (.inr false)) (r16_Strings_L1 a1 q98 (k76 + 1)))

def r16_Strings (a0 : List ByteArray) (a1 : List ByteArray) : Option Bool :=
  cond (!(eqI ((a0.length : Nat) : Int) ((a1.length : Nat) : Int))) (some false) (Option.bind (α := Unit ⊕ Bool) (Option.bind (r16_Strings_L1 a1 a0 0) (fun o => match o with | .inl _ => some (.inl ()) | .inr r113 => some (.inr r113))) (fun o => match o with | .inl _ => some true | .inr r114 => some r114))

set_option maxHeartbeats 2000000 in
theorem at_r16_Strings {a0 : List ByteArray} {a1 : List ByteArray} {r : Bool} (hs : r16_Strings a0 a1 = some r) : At Tryd.prog 35 [.cell (sC a0), .cell (sC a1)] (bV r) := by
  refine at_bound (by kernel_rfl) fun hb => ?_
  have hb1 : LenOk (.sl a0.length (encL a0)) := lkc hb
  have hb2 : LenOk (.sl a1.length (encL a1)) := lkc hb
  refine at_code mixed Tryd.func35 (by kernel_rfl) rfl (by kernel_rfl) rfl fun Q hQ => ?_
  rw [r16_Strings] at hs
  refine goR f0 ?_
  revert hs; refine cS f0 ?_ ?_ <;> intro h1 hs
  · refine goR f0 ?_
    obtain rfl := sj hs
    exact hQ _ _ (rg f0 (Gh.refl _))
  · refine goR2 f0 ?_
    revert hs; refine bK fun o57 e56 hs => ?_
    refine awp_cutK (fun (v : Unit) (σ : St) => some (.inl v) = some o57 ∧ 3 ≤ σ.gen) (by rfl) (fun Q hK58 hX59 => ?_) (fun v σ3 hp => ?_)
    · refine goR f0 ?_
      revert e56; refine bK fun o93 e92 e56 => ?_
      refine awp_loopW (fun (v : (List ByteArray) × Nat) (σ : St) => r16_Strings_L1 a1 v.1 v.2 = some o93 ∧ v.1 = a0.drop v.2 ∧ σ.env 0 = .cell (sC a0) ∧ σ.env 1 = .cell (sC a1) ∧ σ.env 5 = iV .i64 ((v.2 : Nat) : Int) ∧ 3 ≤ σ.gen) (fun v => v.1.length) _ (Gh.refl _) (a0, 0) ⟨e92, by simp, pv f0, pv f0, pv f0, pg⟩ fun v σ6 hp L94 hL95 => ?_
      obtain ⟨q97, k76⟩ := v
      dsimp only at hp hL95
      obtain ⟨e92, hd96, h5_0, h5_1, h5_5, n5_g⟩ := hp
      rcases q97 with _ | ⟨x102, q98⟩
      · have hlt99 := drop_end hd96
        rw [r16_Strings_L1] at e92; try dsimp only at e92
        have F1 := an h5_0 (an h5_1 h5_5)
        refine goR F1 ?_
        refine condK_f (by simp [ltI]; omega) ?_
        obtain rfl := sj e92
        try dsimp only at e56
        exact hK58 () _ _ (Gh.refl _) ⟨e56, pg⟩
      · obtain ⟨hx101, hlt99, hd103⟩ := drop_next hd96
        have ew100 := wrap_succ hlt99 (hb1).len
        rw [r16_Strings_L1] at e92; try dsimp only at e92
        have F2 := an h5_0 (an h5_1 (an h5_5 (an hlt99 ew100)))
        refine goR F2 ?_
        refine condK_t (by simp [ltI]; omega) ?_
        have f108 : partCV Tryd.prog 9 (encL a0) (k76) = some (sV x102) := partCV_enc1 hx101 (by simp)
        revert e92; refine bK fun x109 hx110 e92 => ?_
        have hx110b := getN_some hx110
        have f111 : partCV Tryd.prog 9 (encL a1) (k76) = some (sV x109) := partCV_enc1 hx110 (by simp)
        have F3 := an F2 (an f108 f111)
        refine goD F3 ?_
        revert e92; refine cS F3 ?_ ?_ <;> intro h112 e92
        · refine goD F3 ?_
          obtain rfl := sj e92
          try dsimp only at e56
          obtain rfl := sj e56
          try dsimp only at hs
          refine hX59 _ _ (by simp) ?_
          refine goD F3 ?_
          obtain rfl := sj hs
          exact hQ _ _ (rg F3 (Gh.refl _))
        · refine goD F3 ?_
          exact hL95 (q98, (k76 + 1)) _ _ (Gh.refl _) ⟨e92, hd103, pv F3, pv F3, pv F3, pg⟩ (by simp)
    · obtain ⟨e56, n4_g⟩ := hp
      obtain rfl := sj e56
      try dsimp only at hs
      refine goR f0 ?_
      obtain rfl := sj hs
      exact hQ _ _ (rg f0 (Gh.refl _))
end Go.Dc
end
section
set_option linter.all false
namespace Go.Dc
open Go Go.Hw Go.Proofs
set_option maxRecDepth 100000
def slices_Clone_api_Var (a0 : List Var) : Option (List Var) := guardO (limB 24 a0.length) (some a0)

set_option maxHeartbeats 2000000 in
theorem at_slices_Clone_api_Var {a0 r : List Var} (hs : slices_Clone_api_Var a0 = some r) : CAt Tryd.prog 82 [.cell (sC a0)] [] (.ret (.cell (.sl (.r 0) 0 2 r.length))) [(.r 0, .pure (encL r))] := by
  rw [slices_Clone_api_Var] at hs
  obtain ⟨g1, hs⟩ := guardO_some hs
  obtain rfl := Option.some.inj hs
  obtain ⟨g1a, g1b⟩ := limB_t g1
  refine at_code mixed Tryd.func82 (by kernel_rfl) rfl (by kernel_rfl) rfl fun Q hQ => ?_
  repeat (first | simp | with_reducible first | refine awp_reg ?_ | refine And.intro (by omega) ?_ | refine optF_if (by omega) ?_)
  unfold nilK
  simp only [Tryd.underlying37]
  refine ⟨fun h => ?_, ?_⟩
  · have h0 := encL_nil_of (by simp) h
    subst h0
    repeat (first | simp | with_reducible first | refine awp_reg ?_ | refine And.intro (by omega) ?_ | refine optF_if (by omega) ?_)
    refine hQ _ _ (ret2g _ (Gh.void _ (.r 0) 2 2 rfl (by simp)) (by simp [St.void, St.kil]; rfl) (by first | rfl | simp) (by simp [St.void, St.kil]))
  · repeat (first | simp | with_reducible first | refine awp_reg ?_ | refine And.intro (by omega) ?_ | refine optF_if (by omega) ?_)
    refine hQ _ _ (ret2g _ (Gh.ren _ (.o 3 2 0) (.r 0) (by simp) rfl rfl) (by simp; rfl) (by first | rfl | simp) (by simp))
end Go.Dc
end
section
set_option linter.all false
namespace Go.Dc
open Go Go.Hw Go.Proofs
set_option maxRecDepth 100000
def slices_Clone_string (a0 : List ByteArray) : Option (List ByteArray) := guardO (limB 16 a0.length) (some a0)

set_option maxHeartbeats 2000000 in
theorem at_slices_Clone_string {a0 r : List ByteArray} (hs : slices_Clone_string a0 = some r) : CAt Tryd.prog 83 [.cell (sC a0)] [] (.ret (.cell (.sl (.r 0) 0 1 r.length))) [(.r 0, .pure (encL r))] := by
  rw [slices_Clone_string] at hs
  obtain ⟨g1, hs⟩ := guardO_some hs
  obtain rfl := Option.some.inj hs
  obtain ⟨g1a, g1b⟩ := limB_t g1
  refine at_code mixed Tryd.func83 (by kernel_rfl) rfl (by kernel_rfl) rfl fun Q hQ => ?_
  repeat (first | simp | with_reducible first | refine awp_reg ?_ | refine And.intro (by omega) ?_ | refine optF_if (by omega) ?_)
  unfold nilK
  simp only [Tryd.underlying38]
  refine ⟨fun h => ?_, ?_⟩
  · have h0 := encL_nil_of (by simp) h
    subst h0
    repeat (first | simp | with_reducible first | refine awp_reg ?_ | refine And.intro (by omega) ?_ | refine optF_if (by omega) ?_)
    refine hQ _ _ (ret2g _ (Gh.void _ (.r 0) 2 1 rfl (by simp)) (by simp [St.void, St.kil]; rfl) (by first | rfl | simp) (by simp [St.void, St.kil]))
  · repeat (first | simp | with_reducible first | refine awp_reg ?_ | refine And.intro (by omega) ?_ | refine optF_if (by omega) ?_)
    refine hQ _ _ (ret2g _ (Gh.ren _ (.o 3 2 0) (.r 0) (by simp) rfl rfl) (by simp; rfl) (by first | rfl | simp) (by simp))
end Go.Dc
end
section
set_option linter.all false
namespace Go.Dc
open Go Go.Hw Go.Proofs
set_option maxRecDepth 100000
def slices_Clone_api_Proc (a0 : List Proc) : Option (List Proc) := guardO (limB 56 a0.length) (some a0)

set_option maxHeartbeats 2000000 in
theorem at_slices_Clone_api_Proc {a0 r : List Proc} (hs : slices_Clone_api_Proc a0 = some r) : CAt Tryd.prog 84 [.cell (sC a0)] [] (.ret (.cell (.sl (.r 0) 0 3 r.length))) [(.r 0, .pure (encL r))] := by
  rw [slices_Clone_api_Proc] at hs
  obtain ⟨g1, hs⟩ := guardO_some hs
  obtain rfl := Option.some.inj hs
  obtain ⟨g1a, g1b⟩ := limB_t g1
  refine at_code mixed Tryd.func84 (by kernel_rfl) rfl (by kernel_rfl) rfl fun Q hQ => ?_
  repeat (first | simp | with_reducible first | refine awp_reg ?_ | refine And.intro (by omega) ?_ | refine optF_if (by omega) ?_)
  unfold nilK
  simp only [Tryd.underlying39]
  refine ⟨fun h => ?_, ?_⟩
  · have h0 := encL_nil_of (by simp) h
    subst h0
    repeat (first | simp | with_reducible first | refine awp_reg ?_ | refine And.intro (by omega) ?_ | refine optF_if (by omega) ?_)
    refine hQ _ _ (ret2g _ (Gh.void _ (.r 0) 2 3 rfl (by simp)) (by simp [St.void, St.kil]; rfl) (by first | rfl | simp) (by simp [St.void, St.kil]))
  · repeat (first | simp | with_reducible first | refine awp_reg ?_ | refine And.intro (by omega) ?_ | refine optF_if (by omega) ?_)
    refine hQ _ _ (ret2g _ (Gh.ren _ (.o 3 2 0) (.r 0) (by simp) rfl rfl) (by simp; rfl) (by first | rfl | simp) (by simp))
end Go.Dc
end
section
set_option linter.all false
namespace Go.Dc
open Go Go.Hw Go.Proofs
set_option maxRecDepth 100000
def slices_Clone_api_Launch (a0 : List Launch) : Option (List Launch) := guardO (limB 24 a0.length) (some a0)

set_option maxHeartbeats 2000000 in
theorem at_slices_Clone_api_Launch {a0 r : List Launch} (hs : slices_Clone_api_Launch a0 = some r) : CAt Tryd.prog 85 [.cell (sC a0)] [] (.ret (.cell (.sl (.r 0) 0 2 r.length))) [(.r 0, .pure (encL r))] := by
  rw [slices_Clone_api_Launch] at hs
  obtain ⟨g1, hs⟩ := guardO_some hs
  obtain rfl := Option.some.inj hs
  obtain ⟨g1a, g1b⟩ := limB_t g1
  refine at_code mixed Tryd.func85 (by kernel_rfl) rfl (by kernel_rfl) rfl fun Q hQ => ?_
  repeat (first | simp | with_reducible first | refine awp_reg ?_ | refine And.intro (by omega) ?_ | refine optF_if (by omega) ?_)
  unfold nilK
  simp only [Tryd.underlying40]
  refine ⟨fun h => ?_, ?_⟩
  · have h0 := encL_nil_of (by simp) h
    subst h0
    repeat (first | simp | with_reducible first | refine awp_reg ?_ | refine And.intro (by omega) ?_ | refine optF_if (by omega) ?_)
    refine hQ _ _ (ret2g _ (Gh.void _ (.r 0) 2 2 rfl (by simp)) (by simp [St.void, St.kil]; rfl) (by first | rfl | simp) (by simp [St.void, St.kil]))
  · repeat (first | simp | with_reducible first | refine awp_reg ?_ | refine And.intro (by omega) ?_ | refine optF_if (by omega) ?_)
    refine hQ _ _ (ret2g _ (Gh.ren _ (.o 3 2 0) (.r 0) (by simp) rfl rfl) (by simp; rfl) (by first | rfl | simp) (by simp))
end Go.Dc
end
section
set_option linter.all false
namespace Go.Dc
open Go Go.Hw Go.Proofs
set_option maxRecDepth 100000
def slices_Clone_api_Stmt (a0 : List Stmt) : Option (List Stmt) := guardO (limB 144 a0.length) (some a0)

set_option maxHeartbeats 2000000 in
theorem at_slices_Clone_api_Stmt {a0 r : List Stmt} (hs : slices_Clone_api_Stmt a0 = some r) : CAt Tryd.prog 127 [.cell (sC a0)] [] (.ret (.cell (.sl (.r 0) 0 9 r.length))) [(.r 0, .pure (encL r))] := by
  rw [slices_Clone_api_Stmt] at hs
  obtain ⟨g1, hs⟩ := guardO_some hs
  obtain rfl := Option.some.inj hs
  obtain ⟨g1a, g1b⟩ := limB_t g1
  refine at_code mixed Tryd.func127 (by kernel_rfl) rfl (by kernel_rfl) rfl fun Q hQ => ?_
  repeat (first | simp | with_reducible first | refine awp_reg ?_ | refine And.intro (by omega) ?_ | refine optF_if (by omega) ?_)
  unfold nilK
  simp only [Tryd.underlying55]
  refine ⟨fun h => ?_, ?_⟩
  · have h0 := encL_nil_of (by simp) h
    subst h0
    repeat (first | simp | with_reducible first | refine awp_reg ?_ | refine And.intro (by omega) ?_ | refine optF_if (by omega) ?_)
    refine hQ _ _ (ret2g _ (Gh.void _ (.r 0) 2 9 rfl (by simp)) (by simp [St.void, St.kil]; rfl) (by first | rfl | simp) (by simp [St.void, St.kil]))
  · repeat (first | simp | with_reducible first | refine awp_reg ?_ | refine And.intro (by omega) ?_ | refine optF_if (by omega) ?_)
    refine hQ _ _ (ret2g _ (Gh.ren _ (.o 3 2 0) (.r 0) (by simp) rfl rfl) (by simp; rfl) (by first | rfl | simp) (by simp))
end Go.Dc
end
section
set_option linter.all false
namespace Go.Dc
open Go Go.Hw Go.Proofs
set_option maxRecDepth 100000
def slices_Clone_api_Expr (a0 : List Expr) : Option (List Expr) := guardO (limB 64 a0.length) (some a0)

set_option maxHeartbeats 2000000 in
theorem at_slices_Clone_api_Expr {a0 r : List Expr} (hs : slices_Clone_api_Expr a0 = some r) : CAt Tryd.prog 165 [.cell (sC a0)] [] (.ret (.cell (.sl (.r 0) 0 5 r.length))) [(.r 0, .pure (encL r))] := by
  rw [slices_Clone_api_Expr] at hs
  obtain ⟨g1, hs⟩ := guardO_some hs
  obtain rfl := Option.some.inj hs
  obtain ⟨g1a, g1b⟩ := limB_t g1
  refine at_code mixed Tryd.func165 (by kernel_rfl) rfl (by kernel_rfl) rfl fun Q hQ => ?_
  repeat (first | simp | with_reducible first | refine awp_reg ?_ | refine And.intro (by omega) ?_ | refine optF_if (by omega) ?_)
  unfold nilK
  simp only [Tryd.underlying48]
  refine ⟨fun h => ?_, ?_⟩
  · have h0 := encL_nil_of (by simp) h
    subst h0
    repeat (first | simp | with_reducible first | refine awp_reg ?_ | refine And.intro (by omega) ?_ | refine optF_if (by omega) ?_)
    refine hQ _ _ (ret2g _ (Gh.void _ (.r 0) 2 5 rfl (by simp)) (by simp [St.void, St.kil]; rfl) (by first | rfl | simp) (by simp [St.void, St.kil]))
  · repeat (first | simp | with_reducible first | refine awp_reg ?_ | refine And.intro (by omega) ?_ | refine optF_if (by omega) ?_)
    refine hQ _ _ (ret2g _ (Gh.ren _ (.o 3 2 0) (.r 0) (by simp) rfl rfl) (by simp; rfl) (by first | rfl | simp) (by simp))
end Go.Dc
end
section
set_option linter.all false
namespace Go.Dc
open Go Go.Hw Go.Proofs
set_option maxRecDepth 100000
def ast_exprs_L1 (rF128z : (List Expr) → Option (List Expr)) : Nat → (List Expr) → Nat → Option (List Expr)
  | 0, l85, k86 => guardO (decide (l85.length ≤ k86)) (some (l85))
  | q105 + 1, l85, k86 => Option.bind (l85[k86]?) (fun x111 => Option.bind (rF128z x111.Args) (fun y114 => Option.bind (some (l85.set k86 ({ x111 with Args := y114 }))) (fun l118 => ast_exprs_L1 rF128z q105 l118 (k86 + 1))))

def ast_exprs_B (rF128z : (List Expr) → Option (List Expr)) (a0 : List Expr) : Option (List Expr) :=
  Option.bind (slices_Clone_api_Expr a0) (fun y1 => Option.bind (α := (List Expr)) (guardO (lenB y1.length) (Option.bind (ast_exprs_L1 rF128z y1.length y1 0) (fun l98 => some (l98)))) (fun l59 => some l59))

def ast_exprs : Nat → (List Expr) → Option (List Expr)
  | 0 => fun _ => none
  | fuelN + 1 => fun a0 => ast_exprs_B (ast_exprs fuelN) a0

set_option maxHeartbeats 2000000 in
theorem at_ast_exprs_B {rF128z : (List Expr) → Option (List Expr)} (ihrF128z : ∀ (a0 : List Expr) (r : (List Expr)), rF128z a0 = some r → CAt Tryd.prog 128 [.cell (sC a0)] [] (.ret (.cell (.sl (.r 0) 0 5 r.length))) [(.r 0, .cells (oencL r))]) {a0 : List Expr} {r : (List Expr)} (hs : ast_exprs_B rF128z a0 = some r) : CAt Tryd.prog 128 [.cell (sC a0)] [] (.ret (.cell (.sl (.r 0) 0 5 r.length))) [(.r 0, .cells (oencL r))] := by
  refine at_bound (by kernel_rfl) fun hb => ?_
  have hb1 : LenOk (.sl a0.length (encL a0)) := lkc hb
  refine at_code mixed Tryd.func128 (by kernel_rfl) rfl (by kernel_rfl) rfl fun Q hQ => ?_
  rw [ast_exprs_B] at hs
  refine goR f0 ?_
  revert hs; refine bK fun y1 hx2 hs => ?_
  refine cA f0 (at_slices_Clone_api_Expr hx2) ?_
  refine goR2 f0 ?_
  revert hs; refine bK fun o61 e60 hs => ?_
  refine awp_cutK (fun (v : (List Expr)) (σ : St) => some (v) = some o61 ∧ σ.env 3 = .cell (.sl (.l 3) 0 5 v.length) ∧ σ.hp (.l 3) = some (.cells (oencL v)) ∧ 3 ≤ σ.gen) (by rfl) (fun Q hK62 hX63 => ?_) (fun l59 σ3 hp => ?_)
  · refine goR f0 ?_
    obtain ⟨hb109, e60⟩ := guardO_some e60
    revert e60; refine bK fun o100 e99 e60 => ?_
    refine awp_loopW (fun (v : Nat × (List Expr) × Nat) (σ : St) => ast_exprs_L1 rF128z v.1 v.2.1 v.2.2 = some o100 ∧ v.1 + v.2.2 = y1.length ∧ σ.env 3 = .cell (.sl (.l 8) 0 5 v.2.1.length) ∧ σ.env 8 = iV .i64 ((y1.length : Nat) : Int) ∧ σ.env 9 = iV .i64 ((v.2.2 : Nat) : Int) ∧ σ.hp (.l 8) = some (.cells (mixL v.2.2 v.2.1)) ∧ 3 ≤ σ.gen) (fun v => v.1) _ ((Gh.cel _ (.o 2 1 0)).trans (Gh.ren _ (.o 2 1 0) (.l 8) (by simp) rfl rfl)) (y1.length, y1, 0) ⟨e99, by first | omega | simp | (simp; omega), pv f0, pv f0, pv f0, pv f0, pg⟩ fun v σ6 hp L101 hL102 => ?_
    obtain ⟨q104, l85, k86⟩ := v
    dsimp only at hp hL102
    obtain ⟨e99, hd103, h5_3, h5_8, h5_9, g5_0, n5_g⟩ := hp
    rcases q104 with _ | q105
    · have hlt106 : ¬ k86 < y1.length := by omega
      rw [ast_exprs_L1] at e99; try dsimp only at e99
      have F1 := an h5_3 (an h5_8 (an h5_9 g5_0))
      refine goR F1 ?_
      refine condK_f (by simp [ltI]; omega) ?_
      obtain ⟨g110, e99⟩ := guardO_some e99
      have g110 := mixL_full (of_decide_eq_true g110)
      obtain rfl := sj e99
      try dsimp only at e60
      have F2 := an F1 g110
      exact hK62 l85 _ _ (Gh.ren _ (.l 8) (.l 3) (by simp) rfl rfl) ⟨e60, pv F2, pv F2, pg⟩
    · have hlt106 : k86 < y1.length := by omega
      have ew107 := wrap_succG hlt106 hb109
      rw [ast_exprs_L1] at e99; try dsimp only at e99
      have F3 := an h5_3 (an h5_8 (an h5_9 (an g5_0 (an hlt106 ew107))))
      refine goR F3 ?_
      refine condK_t (by simp [ltI]; omega) ?_
      revert e99; refine bK fun x111 hx112 e99 => ?_
      have hx112b := getN_some hx112
      have f113 : (mixL k86 l85)[k86 * 5 + 4]? = some (sC x111.Args) := mixL_get hx112 (Nat.le_refl _) (f := 4) (by first | rfl | (simp; done) | (simp; rfl))
      have f113t := take_one f113
      have F4 := an F3 (an f113 f113t)
      refine goR F4 ?_
      revert e99; refine bK fun y114 hx115 e99 => ?_
      refine cA F4 (ihrF128z _ _ hx115) ?_
      have f116l : k86 * 5 + 4 < (mixL k86 l85).length := by rw [mixL_length]; have := getN_some hx112; simp; omega
      have f116c := fun c => (set_seg f116l c).1
      have f116d := fun c => (set_seg f116l c).2
      revert e99; refine lK fun l118 hx119 e99 => ?_
      have f117 : (mixL k86 l85).set (k86 * 5 + 4) (.own (.sl 5 y114.length (otL y114))) = mixL (k86 + 1) l118 := by rw [hx119]; exact mixL_set hx112 (f := 4) (by simp) (by first | rfl | (simp; done) | (simp [partL]; done) | (simp [partL]; rfl))
      have f117n : l118.length = l85.length := by rw [hx119]; simp
      have F5 := an F4 (an f116c (an f116d (an f117 f117n)))
      refine goN F5 ?_
      refine awp_gh (by rfl) (Gh.close _ (.l 8) (k86 * 5 + 4)) ?_
      try simp only [St.frz, St.pur]
      refine goR F5 ?_
      exact hL102 (q105, l118, (k86 + 1)) _ _ (Gh.refl _) ⟨e99, (by first | omega | (simp; omega)), pv F5, pv F5, pv F5, pv F5, pg⟩ (by omega)
  · obtain ⟨e60, h4_3, g4_0, n4_g⟩ := hp
    obtain rfl := sj e60
    try dsimp only at hs
    have F6 := an h4_3 g4_0
    refine goR F6 ?_
    obtain rfl := sj hs
    refine hQ _ _ (ret2g _ (Gh.ren _ (.l 3) (.r 0) (by simp) rfl rfl) (by simp [St.frz, St.pur, F6]; rfl) (by first | rfl | (simp [St.frz, St.pur, F6]; done) | (rw [if_pos (by first | omega | (simp; omega))]; simp [St.frz, St.pur, F6]; first | omega | exact List.take_of_length_le (by simp; omega) | skip)) (pv F6))
theorem at_ast_exprs : ∀ {fuelN : Nat} {a0 : List Expr} {r : (List Expr)} (hs : ast_exprs fuelN a0 = some r), CAt Tryd.prog 128 [.cell (sC a0)] [] (.ret (.cell (.sl (.r 0) 0 5 r.length))) [(.r 0, .cells (oencL r))]
  | 0, _, _, hs => by rw [ast_exprs] at hs; cases hs
  | n + 1, _, _, hs => by
    rw [ast_exprs] at hs
    exact at_ast_exprs_B (fun _ _ h => at_ast_exprs h) hs
end Go.Dc
end
section
set_option linter.all false
namespace Go.Dc
open Go Go.Hw Go.Proofs
set_option maxRecDepth 100000
def ast_block_L1 (fuelN : Nat) (rF86z : (List Stmt) → Option (List Stmt)) : Nat → (List Stmt) → Nat → Option (List Stmt)
  | 0, l157, k158 => guardO (decide (l157.length ≤ k158)) (some (l157))
  | q195 + 1, l157, k158 => Option.bind (l157[k158]?) (fun x201 => Option.bind (ast_exprs fuelN x201.Exprs) (fun y204 => Option.bind (some (l157.set k158 ({ x201 with Exprs := y204 }))) (fun l208 => Option.bind (l208[k158]?) (fun x210 => Option.bind (rF86z x210.Body) (fun y213 => Option.bind (some (l208.set k158 ({ x210 with Body := y213 }))) (fun l217 => Option.bind (l217[k158]?) (fun x219 => Option.bind (rF86z x219.Else) (fun y222 => Option.bind (some (l217.set k158 ({ x219 with Else := y222 }))) (fun l226 => ast_block_L1 fuelN rF86z q195 l226 (k158 + 1))))))))))

def ast_block_B (rF86z : (List Stmt) → Option (List Stmt)) (fuelN : Nat) (a0 : List Stmt) : Option (List Stmt) :=
  Option.bind (slices_Clone_api_Stmt a0) (fun y1 => Option.bind (α := (List Stmt)) (guardO (lenB y1.length) (Option.bind (ast_block_L1 fuelN rF86z y1.length y1 0) (fun l188 => some (l188)))) (fun l113 => some l113))

def ast_block : Nat → (List Stmt) → Option (List Stmt)
  | 0 => fun _ => none
  | fuelN + 1 => fun a0 => ast_block_B (ast_block fuelN) fuelN a0

set_option maxHeartbeats 2000000 in
theorem at_ast_block_B {rF86z : (List Stmt) → Option (List Stmt)} (ihrF86z : ∀ (a0 : List Stmt) (r : (List Stmt)), rF86z a0 = some r → CAt Tryd.prog 86 [.cell (sC a0)] [] (.ret (.cell (.sl (.r 0) 0 9 r.length))) [(.r 0, .cells (oencL r))]) {fuelN : Nat} {a0 : List Stmt} {r : (List Stmt)} (hs : ast_block_B rF86z fuelN a0 = some r) : CAt Tryd.prog 86 [.cell (sC a0)] [] (.ret (.cell (.sl (.r 0) 0 9 r.length))) [(.r 0, .cells (oencL r))] := by
  refine at_bound (by kernel_rfl) fun hb => ?_
  have hb1 : LenOk (.sl a0.length (encL a0)) := lkc hb
  refine at_code mixed Tryd.func86 (by kernel_rfl) rfl (by kernel_rfl) rfl fun Q hQ => ?_
  rw [ast_block_B] at hs
  refine goR f0 ?_
  revert hs; refine bK fun y1 hx2 hs => ?_
  refine cA f0 (at_slices_Clone_api_Stmt hx2) ?_
  refine goR2 f0 ?_
  revert hs; refine bK fun o115 e114 hs => ?_
  refine awp_cutK (fun (v : (List Stmt)) (σ : St) => some (v) = some o115 ∧ σ.env 3 = .cell (.sl (.l 3) 0 9 v.length) ∧ σ.hp (.l 3) = some (.cells (oencL v)) ∧ 3 ≤ σ.gen) (by rfl) (fun Q hK116 hX117 => ?_) (fun l113 σ3 hp => ?_)
  · refine goR f0 ?_
    obtain ⟨hb199, e114⟩ := guardO_some e114
    revert e114; refine bK fun o190 e189 e114 => ?_
    refine awp_loopW (fun (v : Nat × (List Stmt) × Nat) (σ : St) => ast_block_L1 fuelN rF86z v.1 v.2.1 v.2.2 = some o190 ∧ v.1 + v.2.2 = y1.length ∧ σ.env 3 = .cell (.sl (.l 8) 0 9 v.2.1.length) ∧ σ.env 8 = iV .i64 ((y1.length : Nat) : Int) ∧ σ.env 9 = iV .i64 ((v.2.2 : Nat) : Int) ∧ σ.hp (.l 8) = some (.cells (mixL v.2.2 v.2.1)) ∧ 3 ≤ σ.gen) (fun v => v.1) _ ((Gh.cel _ (.o 2 1 0)).trans (Gh.ren _ (.o 2 1 0) (.l 8) (by simp) rfl rfl)) (y1.length, y1, 0) ⟨e189, by first | omega | simp | (simp; omega), pv f0, pv f0, pv f0, pv f0, pg⟩ fun v σ6 hp L191 hL192 => ?_
    obtain ⟨q194, l157, k158⟩ := v
    dsimp only at hp hL192
    obtain ⟨e189, hd193, h5_3, h5_8, h5_9, g5_0, n5_g⟩ := hp
    rcases q194 with _ | q195
    · have hlt196 : ¬ k158 < y1.length := by omega
      rw [ast_block_L1] at e189; try dsimp only at e189
      have F1 := an h5_3 (an h5_8 (an h5_9 g5_0))
      refine goR F1 ?_
      refine condK_f (by simp [ltI]; omega) ?_
      obtain ⟨g200, e189⟩ := guardO_some e189
      have g200 := mixL_full (of_decide_eq_true g200)
      obtain rfl := sj e189
      try dsimp only at e114
      have F2 := an F1 g200
      exact hK116 l157 _ _ (Gh.ren _ (.l 8) (.l 3) (by simp) rfl rfl) ⟨e114, pv F2, pv F2, pg⟩
    · have hlt196 : k158 < y1.length := by omega
      have ew197 := wrap_succG hlt196 hb199
      rw [ast_block_L1] at e189; try dsimp only at e189
      have F3 := an h5_3 (an h5_8 (an h5_9 (an g5_0 (an hlt196 ew197))))
      refine goR F3 ?_
      refine condK_t (by simp [ltI]; omega) ?_
      revert e189; refine bK fun x201 hx202 e189 => ?_
      have hx202b := getN_some hx202
      have f203 : (mixL k158 l157)[k158 * 9 + 6]? = some (sC x201.Exprs) := mixL_get hx202 (Nat.le_refl _) (f := 6) (by first | rfl | (simp; done) | (simp; rfl))
      have f203t := take_one f203
      have F4 := an F3 (an f203 f203t)
      refine goR F4 ?_
      revert e189; refine bK fun y204 hx205 e189 => ?_
      refine cA F4 (at_ast_exprs hx205) ?_
      have f206l : k158 * 9 + 6 < (mixL k158 l157).length := by rw [mixL_length]; have := getN_some hx202; simp; omega
      have f206c := fun c => (set_seg f206l c).1
      have f206d := fun c => (set_seg f206l c).2
      revert e189; refine lK fun l208 hx209 e189 => ?_
      have f207 : (mixL k158 l157).set (k158 * 9 + 6) (.own (.sl 5 y204.length (otL y204))) = mixP k158 7 l208 := by rw [hx209, mixP_zero hx202]; exact mixP_set hx202 (f := 6) (by simp) (by first | rfl | (simp; done) | (simp [partL]; done) | (simp [partL]; rfl))
      have f207n : l208.length = l157.length := by rw [hx209]; simp
      have F5 := an F4 (an f206c (an f206d (an f207 f207n)))
      refine goN F5 ?_
      refine awp_gh (by rfl) (Gh.close _ (.l 8) (k158 * 9 + 6)) ?_
      try simp only [St.frz, St.pur]
      revert e189; refine bK fun x210 hx211 e189 => ?_
      have hx211b := getN_some hx211
      have f212 : (mixP k158 7 l208)[k158 * 9 + 7]? = some (sC x210.Body) := mixP_get hx211 (f := 7) (by simp) (by first | rfl | (simp [partL]; done) | (simp [partL]; rfl))
      have f212t := take_one f212
      have F6 := an F5 (an f212 f212t)
      refine goR F6 ?_
      revert e189; refine bK fun y213 hx214 e189 => ?_
      refine cA F6 (ihrF86z _ _ hx214) ?_
      have f215l : k158 * 9 + 7 < (mixP k158 7 l208).length := by rw [mixP_len hx211]; have := getN_some hx211; simp; omega
      have f215c := fun c => (set_seg f215l c).1
      have f215d := fun c => (set_seg f215l c).2
      revert e189; refine lK fun l217 hx218 e189 => ?_
      have f216 : (mixP k158 7 l208).set (k158 * 9 + 7) (.own (.sl 9 y213.length (otL y213))) = mixP k158 8 l217 := by rw [hx218]; exact mixP_set hx211 (f := 7) (by simp) (by first | rfl | (simp; done) | (simp [partL]; done) | (simp [partL]; rfl))
      have f216n : l217.length = l208.length := by rw [hx218]; simp
      have F7 := an F6 (an f215c (an f215d (an f216 f216n)))
      refine goN F7 ?_
      refine awp_gh (by rfl) (Gh.close _ (.l 8) (k158 * 9 + 7)) ?_
      try simp only [St.frz, St.pur]
      revert e189; refine bK fun x219 hx220 e189 => ?_
      have hx220b := getN_some hx220
      have f221 : (mixP k158 8 l217)[k158 * 9 + 8]? = some (sC x219.Else) := mixP_get hx220 (f := 8) (by simp) (by first | rfl | (simp [partL]; done) | (simp [partL]; rfl))
      have f221t := take_one f221
      have F8 := an F7 (an f221 f221t)
      refine goR F8 ?_
      revert e189; refine bK fun y222 hx223 e189 => ?_
      refine cA F8 (ihrF86z _ _ hx223) ?_
      have f224l : k158 * 9 + 8 < (mixP k158 8 l217).length := by rw [mixP_len hx220]; have := getN_some hx220; simp; omega
      have f224c := fun c => (set_seg f224l c).1
      have f224d := fun c => (set_seg f224l c).2
      revert e189; refine lK fun l226 hx227 e189 => ?_
      have f225 : (mixP k158 8 l217).set (k158 * 9 + 8) (.own (.sl 9 y222.length (otL y222))) = mixL (k158 + 1) l226 := by rw [hx227]; exact mixP_fin hx220 (f := 8) (by simp) (by first | rfl | (simp; done) | (simp [partL]; done) | (simp [partL]; rfl))
      have f225n : l226.length = l217.length := by rw [hx227]; simp
      have F9 := an F8 (an f224c (an f224d (an f225 f225n)))
      refine goN F9 ?_
      refine awp_gh (by rfl) (Gh.close _ (.l 8) (k158 * 9 + 8)) ?_
      try simp only [St.frz, St.pur]
      refine goR F9 ?_
      exact hL192 (q195, l226, (k158 + 1)) _ _ (Gh.refl _) ⟨e189, (by first | omega | (simp; omega)), pv F9, pv F9, pv F9, pv F9, pg⟩ (by omega)
  · obtain ⟨e114, h4_3, g4_0, n4_g⟩ := hp
    obtain rfl := sj e114
    try dsimp only at hs
    have F10 := an h4_3 g4_0
    refine goR F10 ?_
    obtain rfl := sj hs
    refine hQ _ _ (ret2g _ (Gh.ren _ (.l 3) (.r 0) (by simp) rfl rfl) (by simp [St.frz, St.pur, F10]; rfl) (by first | rfl | (simp [St.frz, St.pur, F10]; done) | (rw [if_pos (by first | omega | (simp; omega))]; simp [St.frz, St.pur, F10]; first | omega | exact List.take_of_length_le (by simp; omega) | skip)) (pv F10))
theorem at_ast_block : ∀ {fuelN : Nat} {a0 : List Stmt} {r : (List Stmt)} (hs : ast_block fuelN a0 = some r), CAt Tryd.prog 86 [.cell (sC a0)] [] (.ret (.cell (.sl (.r 0) 0 9 r.length))) [(.r 0, .cells (oencL r))]
  | 0, _, _, hs => by rw [ast_block] at hs; cases hs
  | n + 1, _, _, hs => by
    rw [ast_block] at hs
    exact at_ast_block_B (fun _ _ h => at_ast_block h) hs
end Go.Dc
end
section
set_option linter.all false
namespace Go.Dc
open Go Go.Hw Go.Proofs
set_option maxRecDepth 100000
def ast_Clone_L1 (fuelN : Nat) : Nat → Nat → (List Proc) → Option (List Proc)
  | 0, k127, l128 => guardO (decide (l128.length ≤ k127)) (some (l128))
  | q153 + 1, k127, l128 => Option.bind (l128[k127]?) (fun x165 => Option.bind (ast_block fuelN x165.Body) (fun y168 => Option.bind (some (l128.set k127 ({ x165 with Body := y168 }))) (fun l172 => ast_Clone_L1 fuelN q153 (k127 + 1) l172)))

def ast_Clone (fuelN : Nat) (a0 : UnitT) : Option UnitT :=
  Option.bind (slices_Clone_api_Var a0.Vars) (fun y11 => Option.bind (slices_Clone_string a0.Mutexes) (fun y13 => Option.bind (slices_Clone_string a0.Conds) (fun y15 => Option.bind (slices_Clone_api_Proc a0.Procs) (fun y17 => Option.bind (slices_Clone_api_Launch a0.Threads) (fun y19 => Option.bind (α := (List Proc)) (guardO (lenB y17.length) (Option.bind (ast_Clone_L1 fuelN y17.length 0 y17) (fun l146 => some (l146)))) (fun l95 => some ({ Vars := y11, Mutexes := y13, Conds := y15, Procs := l95, Threads := y19 } : UnitT)))))))

set_option maxHeartbeats 2000000 in
theorem at_ast_Clone {fuelN : Nat} {a0 : UnitT} {r : UnitT} (hs : ast_Clone fuelN a0 = some r) : CAt Tryd.prog 40 [.agg (eA a0)] [] (.ret (.agg [.sl (.r 0) 0 2 r.Vars.length, .sl (.r 1) 0 1 r.Mutexes.length, .sl (.r 2) 0 1 r.Conds.length, .sl (.r 3) 0 3 r.Procs.length, .sl (.r 4) 0 2 r.Threads.length])) [(.r 0, .pure (encL r.Vars)), (.r 1, .pure (encL r.Mutexes)), (.r 2, .pure (encL r.Conds)), (.r 3, .cells (oencL r.Procs)), (.r 4, .pure (encL r.Threads))] := by
  refine at_bound (by kernel_rfl) fun hb => ?_
  have hb1 : LenOk (.sl a0.Vars.length (encL a0.Vars)) := lkc hb
  have hb2 : LenOk (.sl a0.Mutexes.length (encL a0.Mutexes)) := lkc hb
  have hb3 : LenOk (.sl a0.Conds.length (encL a0.Conds)) := lkc hb
  have hb4 : LenOk (.sl a0.Procs.length (encL a0.Procs)) := lkc hb
  have hb5 : LenOk (.sl a0.Threads.length (encL a0.Threads)) := lkc hb
  refine at_code mixed Tryd.func40 (by kernel_rfl) rfl (by kernel_rfl) rfl fun Q hQ => ?_
  rw [ast_Clone] at hs
  refine goD f0 ?_
  revert hs; refine bK fun y11 hx12 hs => ?_
  refine cA f0 (at_slices_Clone_api_Var hx12) ?_
  refine goD f0 ?_
  revert hs; refine bK fun y13 hx14 hs => ?_
  refine cA f0 (at_slices_Clone_string hx14) ?_
  refine goD f0 ?_
  revert hs; refine bK fun y15 hx16 hs => ?_
  refine cA f0 (at_slices_Clone_string hx16) ?_
  refine goD f0 ?_
  revert hs; refine bK fun y17 hx18 hs => ?_
  refine cA f0 (at_slices_Clone_api_Proc hx18) ?_
  refine goD f0 ?_
  revert hs; refine bK fun y19 hx20 hs => ?_
  refine cA f0 (at_slices_Clone_api_Launch hx20) ?_
  refine goD2 f0 ?_
  revert hs; refine bK fun o97 e96 hs => ?_
  refine awp_cutK (fun (v : (List Proc)) (σ : St) => some (v) = some o97 ∧ σ.env 2 = .cell (.ref (.o 1 1 0) 0) ∧ σ.env 3 = .cell (.ref (.o 2 16 0) 0) ∧ σ.hp (.o 1 1 0) = some (.cells [.z, .z, .z, .z, .z]) ∧ σ.hp (.l 14) = some (.cells (oencL v)) ∧ σ.hp (.o 2 16 0) = some (.cells [.sl (.o 2 2 0) 0 2 y11.length, .sl (.o 2 5 0) 0 1 y13.length, .sl (.o 2 8 0) 0 1 y15.length, .sl (.l 14) 0 3 v.length, .sl (.o 2 14 0) 0 2 y19.length]) ∧ σ.hp (.o 2 2 0) = some (.pure (encL y11)) ∧ σ.hp (.o 2 5 0) = some (.pure (encL y13)) ∧ σ.hp (.o 2 8 0) = some (.pure (encL y15)) ∧ σ.hp (.o 2 14 0) = some (.pure (encL y19)) ∧ 3 ≤ σ.gen) (by rfl) (fun Q hK98 hX99 => ?_) (fun l95 σ3 hp => ?_)
  · refine goD f0 ?_
    obtain ⟨hb157, e96⟩ := guardO_some e96
    revert e96; refine bK fun o148 e147 e96 => ?_
    refine awp_loopW (fun (v : Nat × Nat × (List Proc)) (σ : St) => ast_Clone_L1 fuelN v.1 v.2.1 v.2.2 = some o148 ∧ v.1 + v.2.1 = y17.length ∧ σ.env 2 = .cell (.ref (.o 1 1 0) 0) ∧ σ.env 3 = .cell (.ref (.o 2 16 0) 0) ∧ σ.env 23 = iV .i64 ((y17.length : Nat) : Int) ∧ σ.env 24 = iV .i64 ((v.2.1 : Nat) : Int) ∧ σ.hp (.o 1 1 0) = some (.cells [.z, .z, .z, .z, .z]) ∧ σ.hp (.l 39) = some (.cells (mixL v.2.1 v.2.2)) ∧ σ.hp (.o 2 16 0) = some (.cells [.sl (.o 2 2 0) 0 2 y11.length, .sl (.o 2 5 0) 0 1 y13.length, .sl (.o 2 8 0) 0 1 y15.length, .sl (.l 39) 0 3 v.2.2.length, .sl (.o 2 14 0) 0 2 y19.length]) ∧ σ.hp (.o 2 2 0) = some (.pure (encL y11)) ∧ σ.hp (.o 2 5 0) = some (.pure (encL y13)) ∧ σ.hp (.o 2 8 0) = some (.pure (encL y15)) ∧ σ.hp (.o 2 14 0) = some (.pure (encL y19)) ∧ 3 ≤ σ.gen) (fun v => v.1) _ ((Gh.cel _ (.o 2 11 0)).trans (Gh.ren _ (.o 2 11 0) (.l 39) (by simp) rfl rfl)) (y17.length, 0, y17) ⟨e147, by first | omega | simp | (simp; omega), pv f0, pv f0, pv f0, pv f0, pv f0, pv f0, pv f0, pv f0, pv f0, pv f0, pv f0, pg⟩ fun v σ6 hp L149 hL150 => ?_
    obtain ⟨q152, k127, l128⟩ := v
    dsimp only at hp hL150
    obtain ⟨e147, hd151, h5_2, h5_3, h5_23, h5_24, g5_0, g5_1, g5_2, g5_3, g5_4, g5_5, g5_6, n5_g⟩ := hp
    have n5_0 : ¬ (σ6.gen = 0) := by omega
    have n5_1 : ¬ (σ6.gen = 1) := by omega
    rcases q152 with _ | q153
    · have hlt154 : ¬ k127 < y17.length := by omega
      rw [ast_Clone_L1] at e147; try dsimp only at e147
      have F1 := an h5_2 (an h5_3 (an h5_23 (an h5_24 (an g5_0 (an g5_1 (an g5_2 (an g5_3 (an g5_4 (an g5_5 (an g5_6 (an n5_0 n5_1)))))))))))
      refine goR F1 ?_
      refine condK_f (by simp [ltI]; omega) ?_
      obtain ⟨g158, e147⟩ := guardO_some e147
      have g158 := mixL_full (of_decide_eq_true g158)
      obtain rfl := sj e147
      try dsimp only at e96
      have F2 := an F1 g158
      exact hK98 l128 _ _ (Gh.ren _ (.l 39) (.l 14) (by simp) rfl rfl) ⟨e96, pv F2, pv F2, pv F2, pv F2, pv F2, pv F2, pv F2, pv F2, pv F2, pg⟩
    · have hlt154 : k127 < y17.length := by omega
      have ew155 := wrap_succG hlt154 hb157
      rw [ast_Clone_L1] at e147; try dsimp only at e147
      have F3 := an h5_2 (an h5_3 (an h5_23 (an h5_24 (an g5_0 (an g5_1 (an g5_2 (an g5_3 (an g5_4 (an g5_5 (an g5_6 (an n5_0 (an n5_1 (an hlt154 ew155)))))))))))))
      refine goR F3 ?_
      refine condK_t (by simp [ltI]; omega) ?_
      revert e147; refine bK fun x165 hx166 e147 => ?_
      have hx166b := getN_some hx166
      have f167 : (mixL k127 l128)[k127 * 3 + 2]? = some (sC x165.Body) := mixL_get hx166 (Nat.le_refl _) (f := 2) (by first | rfl | (simp; done) | (simp; rfl))
      have f167t := take_one f167
      have F4 := an F3 (an f167 f167t)
      refine goD F4 ?_
      revert e147; refine bK fun y168 hx169 e147 => ?_
      refine cA F4 (at_ast_block hx169) ?_
      have f170l : k127 * 3 + 2 < (mixL k127 l128).length := by rw [mixL_length]; have := getN_some hx166; simp; omega
      have f170c := fun c => (set_seg f170l c).1
      have f170d := fun c => (set_seg f170l c).2
      revert e147; refine lK fun l172 hx173 e147 => ?_
      have f171 : (mixL k127 l128).set (k127 * 3 + 2) (.own (.sl 9 y168.length (otL y168))) = mixL (k127 + 1) l172 := by rw [hx173]; exact mixL_set hx166 (f := 2) (by simp) (by first | rfl | (simp; done) | (simp [partL]; done) | (simp [partL]; rfl))
      have f171n : l172.length = l128.length := by rw [hx173]; simp
      have F5 := an F4 (an f170c (an f170d (an f171 f171n)))
      refine goN F5 ?_
      refine awp_gh (by rfl) (Gh.close _ (.l 39) (k127 * 3 + 2)) ?_
      try simp only [St.frz, St.pur]
      refine goR F5 ?_
      exact hL150 (q153, (k127 + 1), l172) _ _ (Gh.refl _) ⟨e147, (by first | omega | (simp; omega)), pv F5, pv F5, pv F5, pv F5, pv F5, pv F5, pv F5, pv F5, pv F5, pv F5, pv F5, pg⟩ (by omega)
  · obtain ⟨e96, h4_2, h4_3, g4_0, g4_1, g4_2, g4_3, g4_4, g4_5, g4_6, n4_g⟩ := hp
    obtain rfl := sj e96
    try dsimp only at hs
    have n4_0 : ¬ (σ3.gen = 0) := by omega
    have n4_1 : ¬ (σ3.gen = 1) := by omega
    have F6 := an h4_2 (an h4_3 (an g4_0 (an g4_1 (an g4_2 (an g4_3 (an g4_4 (an g4_5 (an g4_6 (an n4_0 n4_1)))))))))
    refine goD F6 ?_
    obtain rfl := sj hs
    refine hQ _ _ (ret2g _ ((Gh.ren _ (.o 2 2 0) (.r 0) (by simp) rfl rfl).trans ((Gh.ren _ (.o 2 5 0) (.r 1) (by simp) rfl rfl).trans ((Gh.ren _ (.o 2 8 0) (.r 2) (by simp) rfl rfl).trans ((Gh.ren _ (.l 14) (.r 3) (by simp) rfl rfl).trans (Gh.ren _ (.o 2 14 0) (.r 4) (by simp) rfl rfl))))) (by simp [St.frz, St.pur, F6]; rfl) (by first | rfl | (simp [St.frz, St.pur, F6]; done) | (rw [if_pos (by first | omega | (simp; omega))]; simp [St.frz, St.pur, F6]; first | omega | exact List.take_of_length_le (by simp; omega) | skip)) (pv F6))
end Go.Dc
end
section
set_option linter.all false
namespace Go.Dc
open Go Go.Hw Go.Proofs
set_option maxRecDepth 100000

def ast_sameExpr_1 (rF135z : Expr → Expr → Option Bool) (a0 : Expr) (a1 : Expr) : Option Bool :=
  Option.bind (rF135z a0 a1) (fun y1 => some y1)

set_option maxHeartbeats 2000000 in
theorem at_ast_sameExpr_1 {rF135z : Expr → Expr → Option Bool} (ihrF135z : ∀ (a0 : Expr) (a1 : Expr) (r : Bool), rF135z a0 a1 = some r → At Tryd.prog 135 [.agg (eA a0), .agg (eA a1)] (bV r)) {a0 : Expr} {a1 : Expr} {r : Bool} (hs : ast_sameExpr_1 rF135z a0 a1 = some r) : At Tryd.prog 167 [.agg (eA a0), .agg (eA a1)] (bV r) := by
  refine at_bound (by kernel_rfl) fun hb => ?_
  have hb1 : LenOk (.sl a0.Args.length (encL a0.Args)) := lkc hb
  have hb2 : LenOk (.sl a1.Args.length (encL a1.Args)) := lkc hb
  refine at_code mixed Tryd.func167 (by kernel_rfl) rfl (by kernel_rfl) rfl fun Q hQ => ?_
  rw [ast_sameExpr_1] at hs
  refine goR f0 ?_
  revert hs; refine bK fun y1 hx2 hs => ?_
  refine cP f0 (ihrF135z _ _ _ hx2) ?_
  refine goR f0 ?_
  obtain rfl := sj hs
  exact hQ _ _ (rg f0 (Gh.refl _))
end Go.Dc
end
section
set_option linter.all false
namespace Go.Dc
open Go Go.Hw Go.Proofs
set_option maxRecDepth 100000
def slices_EqualFunc_api_Expr_ast_sameExpr_1_L1 (a1 : List Expr) (rF135z : Expr → Expr → Option Bool) : List Expr → Nat → Option (Unit ⊕ Bool)
  | [], k62 => some (.inl ())
  | x84 :: q80, k62 => Option.bind (a1[k62]?) (fun x87 => Option.bind (ast_sameExpr_1 rF135z x84 x87) (fun y90 => cond (!y90) (some (.inr false)) (slices_EqualFunc_api_Expr_ast_sameExpr_1_L1 a1 rF135z q80 (k62 + 1))))

def slices_EqualFunc_api_Expr_ast_sameExpr_1 (rF135z : Expr → Expr → Option Bool) (a0 : List Expr) (a1 : List Expr) : Option Bool :=
  cond (!(eqI ((a0.length : Nat) : Int) ((a1.length : Nat) : Int))) (some false) (Option.bind (α := Unit ⊕ Bool) (Option.bind (slices_EqualFunc_api_Expr_ast_sameExpr_1_L1 a1 rF135z a0 0) (fun o => match o with | .inl _ => some (.inl ()) | .inr r93 => some (.inr r93))) (fun o => match o with | .inl _ => some true | .inr r94 => some r94))

set_option maxHeartbeats 2000000 in
theorem at_slices_EqualFunc_api_Expr_ast_sameExpr_1 {rF135z : Expr → Expr → Option Bool} (ihrF135z : ∀ (a0 : Expr) (a1 : Expr) (r : Bool), rF135z a0 a1 = some r → At Tryd.prog 135 [.agg (eA a0), .agg (eA a1)] (bV r)) {a0 : List Expr} {a1 : List Expr} {r : Bool} (hs : slices_EqualFunc_api_Expr_ast_sameExpr_1 rF135z a0 a1 = some r) : At Tryd.prog 133 [.cell (sC a0), .cell (sC a1), .cell (.p (.c (.func (.func 167) #[] #[])))] (bV r) := by
  refine at_bound (by kernel_rfl) fun hb => ?_
  have hb1 : LenOk (.sl a0.length (encL a0)) := lkc hb
  have hb2 : LenOk (.sl a1.length (encL a1)) := lkc hb
  refine at_code mixed Tryd.func133 (by kernel_rfl) rfl (by kernel_rfl) rfl fun Q hQ => ?_
  rw [slices_EqualFunc_api_Expr_ast_sameExpr_1] at hs
  refine goR f0 ?_
  revert hs; refine cS f0 ?_ ?_ <;> intro h1 hs
  · refine goR f0 ?_
    obtain rfl := sj hs
    exact hQ _ _ (rg f0 (Gh.refl _))
  · refine goR2 f0 ?_
    revert hs; refine bK fun o47 e46 hs => ?_
    refine awp_cutK (fun (v : Unit) (σ : St) => some (.inl v) = some o47 ∧ 3 ≤ σ.gen) (by rfl) (fun Q hK48 hX49 => ?_) (fun v σ3 hp => ?_)
    · refine goR f0 ?_
      revert e46; refine bK fun o75 e74 e46 => ?_
      refine awp_loopW (fun (v : (List Expr) × Nat) (σ : St) => slices_EqualFunc_api_Expr_ast_sameExpr_1_L1 a1 rF135z v.1 v.2 = some o75 ∧ v.1 = a0.drop v.2 ∧ σ.env 1 = .cell (sC a1) ∧ σ.env 2 = .cell (.p (.c (.func (.func 167) #[] #[]))) ∧ σ.env 15 = .cell (sC a0) ∧ σ.env 16 = iV .i64 ((a0.length : Nat) : Int) ∧ σ.env 17 = iV .i64 ((v.2 : Nat) : Int) ∧ 3 ≤ σ.gen) (fun v => v.1.length) _ (Gh.refl _) (a0, 0) ⟨e74, by simp, pv f0, pv f0, pv f0, pv f0, pv f0, pg⟩ fun v σ6 hp L76 hL77 => ?_
      obtain ⟨q79, k62⟩ := v
      dsimp only at hp hL77
      obtain ⟨e74, hd78, h5_1, h5_2, h5_15, h5_16, h5_17, n5_g⟩ := hp
      rcases q79 with _ | ⟨x84, q80⟩
      · have hlt81 := drop_end hd78
        rw [slices_EqualFunc_api_Expr_ast_sameExpr_1_L1] at e74; try dsimp only at e74
        have F1 := an h5_1 (an h5_2 (an h5_15 (an h5_16 h5_17)))
        refine goR F1 ?_
        refine condK_f (by simp [ltI]; omega) ?_
        obtain rfl := sj e74
        try dsimp only at e46
        exact hK48 () _ _ (Gh.refl _) ⟨e46, pg⟩
      · obtain ⟨hx83, hlt81, hd85⟩ := drop_next hd78
        have ew82 := wrap_succ hlt81 (hb1).len
        rw [slices_EqualFunc_api_Expr_ast_sameExpr_1_L1] at e74; try dsimp only at e74
        have F2 := an h5_1 (an h5_2 (an h5_15 (an h5_16 (an h5_17 (an hlt81 ew82)))))
        refine goR F2 ?_
        refine condK_t (by simp [ltI]; omega) ?_
        have f86 : partCV Tryd.prog 50 (encL a0) (k62 * 5) = some (.agg (eA x84)) := partCV_enc hx83 (f := 0) (by simp)
        revert e74; refine bK fun x87 hx88 e74 => ?_
        have hx88b := getN_some hx88
        have f89 : partCV Tryd.prog 50 (encL a1) (k62 * 5) = some (.agg (eA x87)) := partCV_enc hx88 (f := 0) (by simp)
        have F3 := an F2 (an f86 f89)
        refine goR F3 ?_
        revert e74; refine bK fun y90 hx91 e74 => ?_
        refine cP F3 (at_ast_sameExpr_1 ihrF135z hx91) ?_
        refine goR F3 ?_
        revert e74; refine cS F3 ?_ ?_ <;> intro h92 e74
        · refine goR F3 ?_
          obtain rfl := sj e74
          try dsimp only at e46
          obtain rfl := sj e46
          try dsimp only at hs
          refine hX49 _ _ (by simp) ?_
          refine goR F3 ?_
          obtain rfl := sj hs
          exact hQ _ _ (rg F3 (Gh.refl _))
        · refine goR F3 ?_
          exact hL77 (q80, (k62 + 1)) _ _ (Gh.refl _) ⟨e74, hd85, pv F3, pv F3, pv F3, pv F3, pv F3, pg⟩ (by simp)
    · obtain ⟨e46, n4_g⟩ := hp
      obtain rfl := sj e46
      try dsimp only at hs
      refine goR f0 ?_
      obtain rfl := sj hs
      exact hQ _ _ (rg f0 (Gh.refl _))
end Go.Dc
end
section
set_option linter.all false
namespace Go.Dc
open Go Go.Hw Go.Proofs
set_option maxRecDepth 100000

def ast_sameExpr_B (rF135z : Expr → Expr → Option Bool) (a0 : Expr) (a1 : Expr) : Option Bool :=
  guardO (orB (!(andB (andB (andB (eqI a0.Kind a1.Kind) (eqI a0.N a1.N)) (eqS a0.Name a1.Name)) (eqI a0.Fn a1.Fn))) ((slices_EqualFunc_api_Expr_ast_sameExpr_1 rF135z a0.Args a1.Args).isSome)) (some (andB (andB (andB (andB (eqI a0.Kind a1.Kind) (eqI a0.N a1.N)) (eqS a0.Name a1.Name)) (eqI a0.Fn a1.Fn)) ((slices_EqualFunc_api_Expr_ast_sameExpr_1 rF135z a0.Args a1.Args).getD default)))

def ast_sameExpr : Nat → Expr → Expr → Option Bool
  | 0 => fun _ _ => none
  | fuelN + 1 => fun a0 a1 => ast_sameExpr_B (ast_sameExpr fuelN) a0 a1

set_option maxHeartbeats 2000000 in
theorem at_ast_sameExpr_B {rF135z : Expr → Expr → Option Bool} (ihrF135z : ∀ (a0 : Expr) (a1 : Expr) (r : Bool), rF135z a0 a1 = some r → At Tryd.prog 135 [.agg (eA a0), .agg (eA a1)] (bV r)) {a0 : Expr} {a1 : Expr} {r : Bool} (hs : ast_sameExpr_B rF135z a0 a1 = some r) : At Tryd.prog 135 [.agg (eA a0), .agg (eA a1)] (bV r) := by
  refine at_bound (by kernel_rfl) fun hb => ?_
  have hb1 : LenOk (.sl a0.Args.length (encL a0.Args)) := lkc hb
  have hb2 : LenOk (.sl a1.Args.length (encL a1.Args)) := lkc hb
  refine at_code mixed Tryd.func135 (by kernel_rfl) rfl (by kernel_rfl) rfl fun Q hQ => ?_
  rw [ast_sameExpr_B] at hs
  refine goG f0 f0 ?_
  obtain ⟨g1, hs⟩ := guardO_some hs
  refine gsel_call (fun hg => at_slices_EqualFunc_api_Expr_ast_sameExpr_1 ihrF135z (under_call g1 hg)) (fun hg => by (try simp at hg); (first | simp [hg, id]); try rfl) (fun hg => by (try simp at hg); simp [hg, id]) (by simp) ?_
  refine goG f0 f0 ?_
  obtain rfl := sj hs
  exact hQ _ _ (rg f0 (Gh.refl _))
theorem at_ast_sameExpr : ∀ {fuelN : Nat} {a0 : Expr} {a1 : Expr} {r : Bool} (hs : ast_sameExpr fuelN a0 a1 = some r), At Tryd.prog 135 [.agg (eA a0), .agg (eA a1)] (bV r)
  | 0, _, _, _, hs => by rw [ast_sameExpr] at hs; cases hs
  | n + 1, _, _, _, hs => by
    rw [ast_sameExpr] at hs
    exact at_ast_sameExpr_B (fun _ _ _ h => at_ast_sameExpr h) hs
end Go.Dc
end
section
set_option linter.all false
namespace Go.Dc
open Go Go.Hw Go.Proofs
set_option maxRecDepth 100000

def ast_sameStmt_2 (fuelN : Nat) (a0 : Expr) (a1 : Expr) : Option Bool :=
  Option.bind (ast_sameExpr fuelN a0 a1) (fun y1 => some y1)

set_option maxHeartbeats 2000000 in
theorem at_ast_sameStmt_2 {fuelN : Nat} {a0 : Expr} {a1 : Expr} {r : Bool} (hs : ast_sameStmt_2 fuelN a0 a1 = some r) : At Tryd.prog 134 [.agg (eA a0), .agg (eA a1)] (bV r) := by
  refine at_bound (by kernel_rfl) fun hb => ?_
  have hb1 : LenOk (.sl a0.Args.length (encL a0.Args)) := lkc hb
  have hb2 : LenOk (.sl a1.Args.length (encL a1.Args)) := lkc hb
  refine at_code mixed Tryd.func134 (by kernel_rfl) rfl (by kernel_rfl) rfl fun Q hQ => ?_
  rw [ast_sameStmt_2] at hs
  refine goR f0 ?_
  revert hs; refine bK fun y1 hx2 hs => ?_
  refine cP f0 (at_ast_sameExpr hx2) ?_
  refine goR f0 ?_
  obtain rfl := sj hs
  exact hQ _ _ (rg f0 (Gh.refl _))
end Go.Dc
end
section
set_option linter.all false
namespace Go.Dc
open Go Go.Hw Go.Proofs
set_option maxRecDepth 100000
def slices_EqualFunc_api_Expr_ast_sameStmt_2_L1 (fuelN : Nat) (a1 : List Expr) : List Expr → Nat → Option (Unit ⊕ Bool)
  | [], k62 => some (.inl ())
  | x84 :: q80, k62 => Option.bind (a1[k62]?) (fun x87 => Option.bind (ast_sameStmt_2 fuelN x84 x87) (fun y90 => cond (!y90) (some (.inr false)) (slices_EqualFunc_api_Expr_ast_sameStmt_2_L1 fuelN a1 q80 (k62 + 1))))

def slices_EqualFunc_api_Expr_ast_sameStmt_2 (fuelN : Nat) (a0 : List Expr) (a1 : List Expr) : Option Bool :=
  cond (!(eqI ((a0.length : Nat) : Int) ((a1.length : Nat) : Int))) (some false) (Option.bind (α := Unit ⊕ Bool) (Option.bind (slices_EqualFunc_api_Expr_ast_sameStmt_2_L1 fuelN a1 a0 0) (fun o => match o with | .inl _ => some (.inl ()) | .inr r93 => some (.inr r93))) (fun o => match o with | .inl _ => some true | .inr r94 => some r94))

set_option maxHeartbeats 2000000 in
theorem at_slices_EqualFunc_api_Expr_ast_sameStmt_2 {fuelN : Nat} {a0 : List Expr} {a1 : List Expr} {r : Bool} (hs : slices_EqualFunc_api_Expr_ast_sameStmt_2 fuelN a0 a1 = some r) : At Tryd.prog 133 [.cell (sC a0), .cell (sC a1), .cell (.p (.c (.func (.func 134) #[] #[])))] (bV r) := by
  refine at_bound (by kernel_rfl) fun hb => ?_
  have hb1 : LenOk (.sl a0.length (encL a0)) := lkc hb
  have hb2 : LenOk (.sl a1.length (encL a1)) := lkc hb
  refine at_code mixed Tryd.func133 (by kernel_rfl) rfl (by kernel_rfl) rfl fun Q hQ => ?_
  rw [slices_EqualFunc_api_Expr_ast_sameStmt_2] at hs
  refine goR f0 ?_
  revert hs; refine cS f0 ?_ ?_ <;> intro h1 hs
  · refine goR f0 ?_
    obtain rfl := sj hs
    exact hQ _ _ (rg f0 (Gh.refl _))
  · refine goR2 f0 ?_
    revert hs; refine bK fun o47 e46 hs => ?_
    refine awp_cutK (fun (v : Unit) (σ : St) => some (.inl v) = some o47 ∧ 3 ≤ σ.gen) (by rfl) (fun Q hK48 hX49 => ?_) (fun v σ3 hp => ?_)
    · refine goR f0 ?_
      revert e46; refine bK fun o75 e74 e46 => ?_
      refine awp_loopW (fun (v : (List Expr) × Nat) (σ : St) => slices_EqualFunc_api_Expr_ast_sameStmt_2_L1 fuelN a1 v.1 v.2 = some o75 ∧ v.1 = a0.drop v.2 ∧ σ.env 1 = .cell (sC a1) ∧ σ.env 2 = .cell (.p (.c (.func (.func 134) #[] #[]))) ∧ σ.env 15 = .cell (sC a0) ∧ σ.env 16 = iV .i64 ((a0.length : Nat) : Int) ∧ σ.env 17 = iV .i64 ((v.2 : Nat) : Int) ∧ 3 ≤ σ.gen) (fun v => v.1.length) _ (Gh.refl _) (a0, 0) ⟨e74, by simp, pv f0, pv f0, pv f0, pv f0, pv f0, pg⟩ fun v σ6 hp L76 hL77 => ?_
      obtain ⟨q79, k62⟩ := v
      dsimp only at hp hL77
      obtain ⟨e74, hd78, h5_1, h5_2, h5_15, h5_16, h5_17, n5_g⟩ := hp
      rcases q79 with _ | ⟨x84, q80⟩
      · have hlt81 := drop_end hd78
        rw [slices_EqualFunc_api_Expr_ast_sameStmt_2_L1] at e74; try dsimp only at e74
        have F1 := an h5_1 (an h5_2 (an h5_15 (an h5_16 h5_17)))
        refine goR F1 ?_
        refine condK_f (by simp [ltI]; omega) ?_
        obtain rfl := sj e74
        try dsimp only at e46
        exact hK48 () _ _ (Gh.refl _) ⟨e46, pg⟩
      · obtain ⟨hx83, hlt81, hd85⟩ := drop_next hd78
        have ew82 := wrap_succ hlt81 (hb1).len
        rw [slices_EqualFunc_api_Expr_ast_sameStmt_2_L1] at e74; try dsimp only at e74
        have F2 := an h5_1 (an h5_2 (an h5_15 (an h5_16 (an h5_17 (an hlt81 ew82)))))
        refine goR F2 ?_
        refine condK_t (by simp [ltI]; omega) ?_
        have f86 : partCV Tryd.prog 50 (encL a0) (k62 * 5) = some (.agg (eA x84)) := partCV_enc hx83 (f := 0) (by simp)
        revert e74; refine bK fun x87 hx88 e74 => ?_
        have hx88b := getN_some hx88
        have f89 : partCV Tryd.prog 50 (encL a1) (k62 * 5) = some (.agg (eA x87)) := partCV_enc hx88 (f := 0) (by simp)
        have F3 := an F2 (an f86 f89)
        refine goR F3 ?_
        revert e74; refine bK fun y90 hx91 e74 => ?_
        refine cP F3 (at_ast_sameStmt_2 hx91) ?_
        refine goR F3 ?_
        revert e74; refine cS F3 ?_ ?_ <;> intro h92 e74
        · refine goR F3 ?_
          obtain rfl := sj e74
          try dsimp only at e46
          obtain rfl := sj e46
          try dsimp only at hs
          refine hX49 _ _ (by simp) ?_
          refine goR F3 ?_
          obtain rfl := sj hs
          exact hQ _ _ (rg F3 (Gh.refl _))
        · refine goR F3 ?_
          exact hL77 (q80, (k62 + 1)) _ _ (Gh.refl _) ⟨e74, hd85, pv F3, pv F3, pv F3, pv F3, pv F3, pg⟩ (by simp)
    · obtain ⟨e46, n4_g⟩ := hp
      obtain rfl := sj e46
      try dsimp only at hs
      refine goR f0 ?_
      obtain rfl := sj hs
      exact hQ _ _ (rg f0 (Gh.refl _))
end Go.Dc
end
section
set_option linter.all false
namespace Go.Dc
open Go Go.Hw Go.Proofs
set_option maxRecDepth 100000

def ast_sameStmt_1_1 (rF93z : Stmt → Stmt → Option Bool) (a0 : Stmt) (a1 : Stmt) : Option Bool :=
  Option.bind (rF93z a0 a1) (fun y1 => some y1)

set_option maxHeartbeats 2000000 in
theorem at_ast_sameStmt_1_1 {rF93z : Stmt → Stmt → Option Bool} (ihrF93z : ∀ (a0 : Stmt) (a1 : Stmt) (r : Bool), rF93z a0 a1 = some r → At Tryd.prog 93 [.agg (eA a0), .agg (eA a1)] (bV r)) {a0 : Stmt} {a1 : Stmt} {r : Bool} (hs : ast_sameStmt_1_1 rF93z a0 a1 = some r) : At Tryd.prog 132 [.agg (eA a0), .agg (eA a1)] (bV r) := by
  refine at_bound (by kernel_rfl) fun hb => ?_
  have hb1 : LenOk (.sl a0.Exprs.length (encL a0.Exprs)) := lkc hb
  have hb2 : LenOk (.sl a0.Body.length (encL a0.Body)) := lkc hb
  have hb3 : LenOk (.sl a0.Else.length (encL a0.Else)) := lkc hb
  have hb4 : LenOk (.sl a1.Exprs.length (encL a1.Exprs)) := lkc hb
  have hb5 : LenOk (.sl a1.Body.length (encL a1.Body)) := lkc hb
  have hb6 : LenOk (.sl a1.Else.length (encL a1.Else)) := lkc hb
  refine at_code mixed Tryd.func132 (by kernel_rfl) rfl (by kernel_rfl) rfl fun Q hQ => ?_
  rw [ast_sameStmt_1_1] at hs
  refine goR f0 ?_
  revert hs; refine bK fun y1 hx2 hs => ?_
  refine cP f0 (ihrF93z _ _ _ hx2) ?_
  refine goR f0 ?_
  obtain rfl := sj hs
  exact hQ _ _ (rg f0 (Gh.refl _))
end Go.Dc
end
section
set_option linter.all false
namespace Go.Dc
open Go Go.Hw Go.Proofs
set_option maxRecDepth 100000
def slices_EqualFunc_api_Stmt_ast_sameStmt_1_1_L1 (a1 : List Stmt) (rF93z : Stmt → Stmt → Option Bool) : List Stmt → Nat → Option (Unit ⊕ Bool)
  | [], k62 => some (.inl ())
  | x84 :: q80, k62 => Option.bind (a1[k62]?) (fun x87 => Option.bind (ast_sameStmt_1_1 rF93z x84 x87) (fun y90 => cond (!y90) (some (.inr false)) (slices_EqualFunc_api_Stmt_ast_sameStmt_1_1_L1 a1 rF93z q80 (k62 + 1))))

def slices_EqualFunc_api_Stmt_ast_sameStmt_1_1 (rF93z : Stmt → Stmt → Option Bool) (a0 : List Stmt) (a1 : List Stmt) : Option Bool :=
  cond (!(eqI ((a0.length : Nat) : Int) ((a1.length : Nat) : Int))) (some false) (Option.bind (α := Unit ⊕ Bool) (Option.bind (slices_EqualFunc_api_Stmt_ast_sameStmt_1_1_L1 a1 rF93z a0 0) (fun o => match o with | .inl _ => some (.inl ()) | .inr r93 => some (.inr r93))) (fun o => match o with | .inl _ => some true | .inr r94 => some r94))

set_option maxHeartbeats 2000000 in
theorem at_slices_EqualFunc_api_Stmt_ast_sameStmt_1_1 {rF93z : Stmt → Stmt → Option Bool} (ihrF93z : ∀ (a0 : Stmt) (a1 : Stmt) (r : Bool), rF93z a0 a1 = some r → At Tryd.prog 93 [.agg (eA a0), .agg (eA a1)] (bV r)) {a0 : List Stmt} {a1 : List Stmt} {r : Bool} (hs : slices_EqualFunc_api_Stmt_ast_sameStmt_1_1 rF93z a0 a1 = some r) : At Tryd.prog 91 [.cell (sC a0), .cell (sC a1), .cell (.p (.c (.func (.func 132) #[] #[])))] (bV r) := by
  refine at_bound (by kernel_rfl) fun hb => ?_
  have hb1 : LenOk (.sl a0.length (encL a0)) := lkc hb
  have hb2 : LenOk (.sl a1.length (encL a1)) := lkc hb
  refine at_code mixed Tryd.func91 (by kernel_rfl) rfl (by kernel_rfl) rfl fun Q hQ => ?_
  rw [slices_EqualFunc_api_Stmt_ast_sameStmt_1_1] at hs
  refine goR f0 ?_
  revert hs; refine cS f0 ?_ ?_ <;> intro h1 hs
  · refine goR f0 ?_
    obtain rfl := sj hs
    exact hQ _ _ (rg f0 (Gh.refl _))
  · refine goR2 f0 ?_
    revert hs; refine bK fun o47 e46 hs => ?_
    refine awp_cutK (fun (v : Unit) (σ : St) => some (.inl v) = some o47 ∧ 3 ≤ σ.gen) (by rfl) (fun Q hK48 hX49 => ?_) (fun v σ3 hp => ?_)
    · refine goR f0 ?_
      revert e46; refine bK fun o75 e74 e46 => ?_
      refine awp_loopW (fun (v : (List Stmt) × Nat) (σ : St) => slices_EqualFunc_api_Stmt_ast_sameStmt_1_1_L1 a1 rF93z v.1 v.2 = some o75 ∧ v.1 = a0.drop v.2 ∧ σ.env 1 = .cell (sC a1) ∧ σ.env 2 = .cell (.p (.c (.func (.func 132) #[] #[]))) ∧ σ.env 15 = .cell (sC a0) ∧ σ.env 16 = iV .i64 ((a0.length : Nat) : Int) ∧ σ.env 17 = iV .i64 ((v.2 : Nat) : Int) ∧ 3 ≤ σ.gen) (fun v => v.1.length) _ (Gh.refl _) (a0, 0) ⟨e74, by simp, pv f0, pv f0, pv f0, pv f0, pv f0, pg⟩ fun v σ6 hp L76 hL77 => ?_
      obtain ⟨q79, k62⟩ := v
      dsimp only at hp hL77
      obtain ⟨e74, hd78, h5_1, h5_2, h5_15, h5_16, h5_17, n5_g⟩ := hp
      rcases q79 with _ | ⟨x84, q80⟩
      · have hlt81 := drop_end hd78
        rw [slices_EqualFunc_api_Stmt_ast_sameStmt_1_1_L1] at e74; try dsimp only at e74
        have F1 := an h5_1 (an h5_2 (an h5_15 (an h5_16 h5_17)))
        refine goR F1 ?_
        refine condK_f (by simp [ltI]; omega) ?_
        obtain rfl := sj e74
        try dsimp only at e46
        exact hK48 () _ _ (Gh.refl _) ⟨e46, pg⟩
      · obtain ⟨hx83, hlt81, hd85⟩ := drop_next hd78
        have ew82 := wrap_succ hlt81 (hb1).len
        rw [slices_EqualFunc_api_Stmt_ast_sameStmt_1_1_L1] at e74; try dsimp only at e74
        have F2 := an h5_1 (an h5_2 (an h5_15 (an h5_16 (an h5_17 (an hlt81 ew82)))))
        refine goR F2 ?_
        refine condK_t (by simp [ltI]; omega) ?_
        have f86 : partCV Tryd.prog 67 (encL a0) (k62 * 9) = some (.agg (eA x84)) := partCV_enc hx83 (f := 0) (by simp)
        revert e74; refine bK fun x87 hx88 e74 => ?_
        have hx88b := getN_some hx88
        have f89 : partCV Tryd.prog 67 (encL a1) (k62 * 9) = some (.agg (eA x87)) := partCV_enc hx88 (f := 0) (by simp)
        have F3 := an F2 (an f86 f89)
        refine goR F3 ?_
        revert e74; refine bK fun y90 hx91 e74 => ?_
        refine cP F3 (at_ast_sameStmt_1_1 ihrF93z hx91) ?_
        refine goR F3 ?_
        revert e74; refine cS F3 ?_ ?_ <;> intro h92 e74
        · refine goR F3 ?_
          obtain rfl := sj e74
          try dsimp only at e46
          obtain rfl := sj e46
          try dsimp only at hs
          refine hX49 _ _ (by simp) ?_
          refine goR F3 ?_
          obtain rfl := sj hs
          exact hQ _ _ (rg F3 (Gh.refl _))
        · refine goR F3 ?_
          exact hL77 (q80, (k62 + 1)) _ _ (Gh.refl _) ⟨e74, hd85, pv F3, pv F3, pv F3, pv F3, pv F3, pg⟩ (by simp)
    · obtain ⟨e46, n4_g⟩ := hp
      obtain rfl := sj e46
      try dsimp only at hs
      refine goR f0 ?_
      obtain rfl := sj hs
      exact hQ _ _ (rg f0 (Gh.refl _))
end Go.Dc
end
section
set_option linter.all false
namespace Go.Dc
open Go Go.Hw Go.Proofs
set_option maxRecDepth 100000

def ast_sameStmt_1 (rF93z : Stmt → Stmt → Option Bool) (a0 : List Stmt) (a1 : List Stmt) : Option Bool :=
  Option.bind (slices_EqualFunc_api_Stmt_ast_sameStmt_1_1 rF93z a0 a1) (fun y1 => some y1)

set_option maxHeartbeats 2000000 in
theorem at_ast_sameStmt_1 {rF93z : Stmt → Stmt → Option Bool} (ihrF93z : ∀ (a0 : Stmt) (a1 : Stmt) (r : Bool), rF93z a0 a1 = some r → At Tryd.prog 93 [.agg (eA a0), .agg (eA a1)] (bV r)) {a0 : List Stmt} {a1 : List Stmt} {r : Bool} (hs : ast_sameStmt_1 rF93z a0 a1 = some r) : At Tryd.prog 131 [.cell (sC a0), .cell (sC a1)] (bV r) := by
  refine at_bound (by kernel_rfl) fun hb => ?_
  have hb1 : LenOk (.sl a0.length (encL a0)) := lkc hb
  have hb2 : LenOk (.sl a1.length (encL a1)) := lkc hb
  refine at_code mixed Tryd.func131 (by kernel_rfl) rfl (by kernel_rfl) rfl fun Q hQ => ?_
  rw [ast_sameStmt_1] at hs
  refine goR f0 ?_
  revert hs; refine bK fun y1 hx2 hs => ?_
  refine cP f0 (at_slices_EqualFunc_api_Stmt_ast_sameStmt_1_1 ihrF93z hx2) ?_
  refine goR f0 ?_
  obtain rfl := sj hs
  exact hQ _ _ (rg f0 (Gh.refl _))
end Go.Dc
end
section
set_option linter.all false
namespace Go.Dc
open Go Go.Hw Go.Proofs
set_option maxRecDepth 100000

def ast_sameStmt_B (rF93z : Stmt → Stmt → Option Bool) (fuelN : Nat) (a0 : Stmt) (a1 : Stmt) : Option Bool :=
  cond (orB (orB (orB (orB (orB (!(eqI a0.Kind a1.Kind)) (!(eqS a0.Name a1.Name))) (!(eqS a0.Obj a1.Obj))) (!(eqS a0.Other a1.Other))) (!(eqI a0.Fn a1.Fn))) (!(eqI a0.Order a1.Order))) (some false) (Option.bind (slices_EqualFunc_api_Expr_ast_sameStmt_2 fuelN a0.Exprs a1.Exprs) (fun y2 => cond y2 (Option.bind (ast_sameStmt_1 rF93z a0.Body a1.Body) (fun y5 => cond y5 (Option.bind (ast_sameStmt_1 rF93z a0.Else a1.Else) (fun y8 => some y8)) (some false))) (some false)))

def ast_sameStmt : Nat → Stmt → Stmt → Option Bool
  | 0 => fun _ _ => none
  | fuelN + 1 => fun a0 a1 => ast_sameStmt_B (ast_sameStmt fuelN) fuelN a0 a1

set_option maxHeartbeats 2000000 in
theorem at_ast_sameStmt_B {rF93z : Stmt → Stmt → Option Bool} (ihrF93z : ∀ (a0 : Stmt) (a1 : Stmt) (r : Bool), rF93z a0 a1 = some r → At Tryd.prog 93 [.agg (eA a0), .agg (eA a1)] (bV r)) {fuelN : Nat} {a0 : Stmt} {a1 : Stmt} {r : Bool} (hs : ast_sameStmt_B rF93z fuelN a0 a1 = some r) : At Tryd.prog 93 [.agg (eA a0), .agg (eA a1)] (bV r) := by
  refine at_bound (by kernel_rfl) fun hb => ?_
  have hb1 : LenOk (.sl a0.Exprs.length (encL a0.Exprs)) := lkc hb
  have hb2 : LenOk (.sl a0.Body.length (encL a0.Body)) := lkc hb
  have hb3 : LenOk (.sl a0.Else.length (encL a0.Else)) := lkc hb
  have hb4 : LenOk (.sl a1.Exprs.length (encL a1.Exprs)) := lkc hb
  have hb5 : LenOk (.sl a1.Body.length (encL a1.Body)) := lkc hb
  have hb6 : LenOk (.sl a1.Else.length (encL a1.Else)) := lkc hb
  refine at_code mixed Tryd.func93 (by kernel_rfl) rfl (by kernel_rfl) rfl fun Q hQ => ?_
  rw [ast_sameStmt_B] at hs
  refine goG f0 f0 ?_
  revert hs; refine cS f0 ?_ ?_ <;> intro h1 hs
  · refine goG f0 f0 ?_
    obtain rfl := sj hs
    exact hQ _ _ (rg f0 (Gh.refl _))
  · refine goG f0 f0 ?_
    revert hs; refine bK fun y2 hx3 hs => ?_
    refine cP f0 (at_slices_EqualFunc_api_Expr_ast_sameStmt_2 hx3) ?_
    refine goG f0 f0 ?_
    refine gsel_split (fun h4 => ?_) (fun h4 => ?_)
    · replace hs := condT h4 hs
      refine goG h4 h4 ?_
      revert hs; refine bK fun y5 hx6 hs => ?_
      refine cP h4 (at_ast_sameStmt_1 ihrF93z hx6) ?_
      refine goG h4 h4 ?_
      refine gsel_split (fun h7 => ?_) (fun h7 => ?_)
      · replace hs := condT h7 hs
        have F1 := an h4 h7
        refine goG F1 F1 ?_
        revert hs; refine bK fun y8 hx9 hs => ?_
        refine cP F1 (at_ast_sameStmt_1 ihrF93z hx9) ?_
        refine goG F1 F1 ?_
        obtain rfl := sj hs
        exact hQ _ _ (rg F1 (Gh.refl _))
      · replace hs := condF h7 hs
        have F2 := an h4 h7
        refine goG F2 F2 ?_
        obtain rfl := sj hs
        exact hQ _ _ (rg F2 (Gh.refl _))
    · replace hs := condF h4 hs
      refine goG h4 h4 ?_
      obtain rfl := sj hs
      exact hQ _ _ (rg h4 (Gh.refl _))
theorem at_ast_sameStmt : ∀ {fuelN : Nat} {a0 : Stmt} {a1 : Stmt} {r : Bool} (hs : ast_sameStmt fuelN a0 a1 = some r), At Tryd.prog 93 [.agg (eA a0), .agg (eA a1)] (bV r)
  | 0, _, _, _, hs => by rw [ast_sameStmt] at hs; cases hs
  | n + 1, _, _, _, hs => by
    rw [ast_sameStmt] at hs
    exact at_ast_sameStmt_B (fun _ _ _ h => at_ast_sameStmt h) hs
end Go.Dc
end
section
set_option linter.all false
namespace Go.Dc
open Go Go.Hw Go.Proofs
set_option maxRecDepth 100000

def ast_Equal_1_1 (fuelN : Nat) (a0 : Stmt) (a1 : Stmt) : Option Bool :=
  Option.bind (ast_sameStmt fuelN a0 a1) (fun y1 => some y1)

set_option maxHeartbeats 2000000 in
theorem at_ast_Equal_1_1 {fuelN : Nat} {a0 : Stmt} {a1 : Stmt} {r : Bool} (hs : ast_Equal_1_1 fuelN a0 a1 = some r) : At Tryd.prog 92 [.agg (eA a0), .agg (eA a1)] (bV r) := by
  refine at_bound (by kernel_rfl) fun hb => ?_
  have hb1 : LenOk (.sl a0.Exprs.length (encL a0.Exprs)) := lkc hb
  have hb2 : LenOk (.sl a0.Body.length (encL a0.Body)) := lkc hb
  have hb3 : LenOk (.sl a0.Else.length (encL a0.Else)) := lkc hb
  have hb4 : LenOk (.sl a1.Exprs.length (encL a1.Exprs)) := lkc hb
  have hb5 : LenOk (.sl a1.Body.length (encL a1.Body)) := lkc hb
  have hb6 : LenOk (.sl a1.Else.length (encL a1.Else)) := lkc hb
  refine at_code mixed Tryd.func92 (by kernel_rfl) rfl (by kernel_rfl) rfl fun Q hQ => ?_
  rw [ast_Equal_1_1] at hs
  refine goR f0 ?_
  revert hs; refine bK fun y1 hx2 hs => ?_
  refine cP f0 (at_ast_sameStmt hx2) ?_
  refine goR f0 ?_
  obtain rfl := sj hs
  exact hQ _ _ (rg f0 (Gh.refl _))
end Go.Dc
end
section
set_option linter.all false
namespace Go.Dc
open Go Go.Hw Go.Proofs
set_option maxRecDepth 100000
def slices_EqualFunc_api_Stmt_ast_Equal_1_1_L1 (fuelN : Nat) (a1 : List Stmt) : List Stmt → Nat → Option (Unit ⊕ Bool)
  | [], k62 => some (.inl ())
  | x84 :: q80, k62 => Option.bind (a1[k62]?) (fun x87 => Option.bind (ast_Equal_1_1 fuelN x84 x87) (fun y90 => cond (!y90) (some (.inr false)) (slices_EqualFunc_api_Stmt_ast_Equal_1_1_L1 fuelN a1 q80 (k62 + 1))))

def slices_EqualFunc_api_Stmt_ast_Equal_1_1 (fuelN : Nat) (a0 : List Stmt) (a1 : List Stmt) : Option Bool :=
  cond (!(eqI ((a0.length : Nat) : Int) ((a1.length : Nat) : Int))) (some false) (Option.bind (α := Unit ⊕ Bool) (Option.bind (slices_EqualFunc_api_Stmt_ast_Equal_1_1_L1 fuelN a1 a0 0) (fun o => match o with | .inl _ => some (.inl ()) | .inr r93 => some (.inr r93))) (fun o => match o with | .inl _ => some true | .inr r94 => some r94))

set_option maxHeartbeats 2000000 in
theorem at_slices_EqualFunc_api_Stmt_ast_Equal_1_1 {fuelN : Nat} {a0 : List Stmt} {a1 : List Stmt} {r : Bool} (hs : slices_EqualFunc_api_Stmt_ast_Equal_1_1 fuelN a0 a1 = some r) : At Tryd.prog 91 [.cell (sC a0), .cell (sC a1), .cell (.p (.c (.func (.func 92) #[] #[])))] (bV r) := by
  refine at_bound (by kernel_rfl) fun hb => ?_
  have hb1 : LenOk (.sl a0.length (encL a0)) := lkc hb
  have hb2 : LenOk (.sl a1.length (encL a1)) := lkc hb
  refine at_code mixed Tryd.func91 (by kernel_rfl) rfl (by kernel_rfl) rfl fun Q hQ => ?_
  rw [slices_EqualFunc_api_Stmt_ast_Equal_1_1] at hs
  refine goR f0 ?_
  revert hs; refine cS f0 ?_ ?_ <;> intro h1 hs
  · refine goR f0 ?_
    obtain rfl := sj hs
    exact hQ _ _ (rg f0 (Gh.refl _))
  · refine goR2 f0 ?_
    revert hs; refine bK fun o47 e46 hs => ?_
    refine awp_cutK (fun (v : Unit) (σ : St) => some (.inl v) = some o47 ∧ 3 ≤ σ.gen) (by rfl) (fun Q hK48 hX49 => ?_) (fun v σ3 hp => ?_)
    · refine goR f0 ?_
      revert e46; refine bK fun o75 e74 e46 => ?_
      refine awp_loopW (fun (v : (List Stmt) × Nat) (σ : St) => slices_EqualFunc_api_Stmt_ast_Equal_1_1_L1 fuelN a1 v.1 v.2 = some o75 ∧ v.1 = a0.drop v.2 ∧ σ.env 1 = .cell (sC a1) ∧ σ.env 2 = .cell (.p (.c (.func (.func 92) #[] #[]))) ∧ σ.env 15 = .cell (sC a0) ∧ σ.env 16 = iV .i64 ((a0.length : Nat) : Int) ∧ σ.env 17 = iV .i64 ((v.2 : Nat) : Int) ∧ 3 ≤ σ.gen) (fun v => v.1.length) _ (Gh.refl _) (a0, 0) ⟨e74, by simp, pv f0, pv f0, pv f0, pv f0, pv f0, pg⟩ fun v σ6 hp L76 hL77 => ?_
      obtain ⟨q79, k62⟩ := v
      dsimp only at hp hL77
      obtain ⟨e74, hd78, h5_1, h5_2, h5_15, h5_16, h5_17, n5_g⟩ := hp
      rcases q79 with _ | ⟨x84, q80⟩
      · have hlt81 := drop_end hd78
        rw [slices_EqualFunc_api_Stmt_ast_Equal_1_1_L1] at e74; try dsimp only at e74
        have F1 := an h5_1 (an h5_2 (an h5_15 (an h5_16 h5_17)))
        refine goR F1 ?_
        refine condK_f (by simp [ltI]; omega) ?_
        obtain rfl := sj e74
        try dsimp only at e46
        exact hK48 () _ _ (Gh.refl _) ⟨e46, pg⟩
      · obtain ⟨hx83, hlt81, hd85⟩ := drop_next hd78
        have ew82 := wrap_succ hlt81 (hb1).len
        rw [slices_EqualFunc_api_Stmt_ast_Equal_1_1_L1] at e74; try dsimp only at e74
        have F2 := an h5_1 (an h5_2 (an h5_15 (an h5_16 (an h5_17 (an hlt81 ew82)))))
        refine goR F2 ?_
        refine condK_t (by simp [ltI]; omega) ?_
        have f86 : partCV Tryd.prog 67 (encL a0) (k62 * 9) = some (.agg (eA x84)) := partCV_enc hx83 (f := 0) (by simp)
        revert e74; refine bK fun x87 hx88 e74 => ?_
        have hx88b := getN_some hx88
        have f89 : partCV Tryd.prog 67 (encL a1) (k62 * 9) = some (.agg (eA x87)) := partCV_enc hx88 (f := 0) (by simp)
        have F3 := an F2 (an f86 f89)
        refine goR F3 ?_
        revert e74; refine bK fun y90 hx91 e74 => ?_
        refine cP F3 (at_ast_Equal_1_1 hx91) ?_
        refine goR F3 ?_
        revert e74; refine cS F3 ?_ ?_ <;> intro h92 e74
        · refine goR F3 ?_
          obtain rfl := sj e74
          try dsimp only at e46
          obtain rfl := sj e46
          try dsimp only at hs
          refine hX49 _ _ (by simp) ?_
          refine goR F3 ?_
          obtain rfl := sj hs
          exact hQ _ _ (rg F3 (Gh.refl _))
        · refine goR F3 ?_
          exact hL77 (q80, (k62 + 1)) _ _ (Gh.refl _) ⟨e74, hd85, pv F3, pv F3, pv F3, pv F3, pv F3, pg⟩ (by simp)
    · obtain ⟨e46, n4_g⟩ := hp
      obtain rfl := sj e46
      try dsimp only at hs
      refine goR f0 ?_
      obtain rfl := sj hs
      exact hQ _ _ (rg f0 (Gh.refl _))
end Go.Dc
end
section
set_option linter.all false
namespace Go.Dc
open Go Go.Hw Go.Proofs
set_option maxRecDepth 100000

def ast_Equal_1 (fuelN : Nat) (a0 : Proc) (a1 : Proc) : Option Bool :=
  guardO (orB (!(andB (eqS a0.Name a1.Name) (eqS a0.Param a1.Param))) ((slices_EqualFunc_api_Stmt_ast_Equal_1_1 fuelN a0.Body a1.Body).isSome)) (some (andB (andB (eqS a0.Name a1.Name) (eqS a0.Param a1.Param)) ((slices_EqualFunc_api_Stmt_ast_Equal_1_1 fuelN a0.Body a1.Body).getD default)))

set_option maxHeartbeats 2000000 in
theorem at_ast_Equal_1 {fuelN : Nat} {a0 : Proc} {a1 : Proc} {r : Bool} (hs : ast_Equal_1 fuelN a0 a1 = some r) : At Tryd.prog 90 [.agg (eA a0), .agg (eA a1)] (bV r) := by
  refine at_bound (by kernel_rfl) fun hb => ?_
  have hb1 : LenOk (.sl a0.Body.length (encL a0.Body)) := lkc hb
  have hb2 : LenOk (.sl a1.Body.length (encL a1.Body)) := lkc hb
  refine at_code mixed Tryd.func90 (by kernel_rfl) rfl (by kernel_rfl) rfl fun Q hQ => ?_
  rw [ast_Equal_1] at hs
  refine goG f0 f0 ?_
  obtain ⟨g1, hs⟩ := guardO_some hs
  refine gsel_call (fun hg => at_slices_EqualFunc_api_Stmt_ast_Equal_1_1 (under_call g1 hg)) (fun hg => by (try simp at hg); (first | simp [hg, id]); try rfl) (fun hg => by (try simp at hg); simp [hg, id]) (by simp) ?_
  refine goG f0 f0 ?_
  obtain rfl := sj hs
  exact hQ _ _ (rg f0 (Gh.refl _))
end Go.Dc
end
section
set_option linter.all false
namespace Go.Dc
open Go Go.Hw Go.Proofs
set_option maxRecDepth 100000
def slices_EqualFunc_api_Proc_ast_Equal_1_L1 (fuelN : Nat) (a1 : List Proc) : List Proc → Nat → Option (Unit ⊕ Bool)
  | [], k62 => some (.inl ())
  | x84 :: q80, k62 => Option.bind (a1[k62]?) (fun x87 => Option.bind (ast_Equal_1 fuelN x84 x87) (fun y90 => cond (!y90) (some (.inr false)) (slices_EqualFunc_api_Proc_ast_Equal_1_L1 fuelN a1 q80 (k62 + 1))))

def slices_EqualFunc_api_Proc_ast_Equal_1 (fuelN : Nat) (a0 : List Proc) (a1 : List Proc) : Option Bool :=
  cond (!(eqI ((a0.length : Nat) : Int) ((a1.length : Nat) : Int))) (some false) (Option.bind (α := Unit ⊕ Bool) (Option.bind (slices_EqualFunc_api_Proc_ast_Equal_1_L1 fuelN a1 a0 0) (fun o => match o with | .inl _ => some (.inl ()) | .inr r93 => some (.inr r93))) (fun o => match o with | .inl _ => some true | .inr r94 => some r94))

set_option maxHeartbeats 2000000 in
theorem at_slices_EqualFunc_api_Proc_ast_Equal_1 {fuelN : Nat} {a0 : List Proc} {a1 : List Proc} {r : Bool} (hs : slices_EqualFunc_api_Proc_ast_Equal_1 fuelN a0 a1 = some r) : At Tryd.prog 89 [.cell (sC a0), .cell (sC a1), .cell (.p (.c (.func (.func 90) #[] #[])))] (bV r) := by
  refine at_bound (by kernel_rfl) fun hb => ?_
  have hb1 : LenOk (.sl a0.length (encL a0)) := lkc hb
  have hb2 : LenOk (.sl a1.length (encL a1)) := lkc hb
  refine at_code mixed Tryd.func89 (by kernel_rfl) rfl (by kernel_rfl) rfl fun Q hQ => ?_
  rw [slices_EqualFunc_api_Proc_ast_Equal_1] at hs
  refine goR f0 ?_
  revert hs; refine cS f0 ?_ ?_ <;> intro h1 hs
  · refine goR f0 ?_
    obtain rfl := sj hs
    exact hQ _ _ (rg f0 (Gh.refl _))
  · refine goR2 f0 ?_
    revert hs; refine bK fun o47 e46 hs => ?_
    refine awp_cutK (fun (v : Unit) (σ : St) => some (.inl v) = some o47 ∧ 3 ≤ σ.gen) (by rfl) (fun Q hK48 hX49 => ?_) (fun v σ3 hp => ?_)
    · refine goR f0 ?_
      revert e46; refine bK fun o75 e74 e46 => ?_
      refine awp_loopW (fun (v : (List Proc) × Nat) (σ : St) => slices_EqualFunc_api_Proc_ast_Equal_1_L1 fuelN a1 v.1 v.2 = some o75 ∧ v.1 = a0.drop v.2 ∧ σ.env 1 = .cell (sC a1) ∧ σ.env 2 = .cell (.p (.c (.func (.func 90) #[] #[]))) ∧ σ.env 15 = .cell (sC a0) ∧ σ.env 16 = iV .i64 ((a0.length : Nat) : Int) ∧ σ.env 17 = iV .i64 ((v.2 : Nat) : Int) ∧ 3 ≤ σ.gen) (fun v => v.1.length) _ (Gh.refl _) (a0, 0) ⟨e74, by simp, pv f0, pv f0, pv f0, pv f0, pv f0, pg⟩ fun v σ6 hp L76 hL77 => ?_
      obtain ⟨q79, k62⟩ := v
      dsimp only at hp hL77
      obtain ⟨e74, hd78, h5_1, h5_2, h5_15, h5_16, h5_17, n5_g⟩ := hp
      rcases q79 with _ | ⟨x84, q80⟩
      · have hlt81 := drop_end hd78
        rw [slices_EqualFunc_api_Proc_ast_Equal_1_L1] at e74; try dsimp only at e74
        have F1 := an h5_1 (an h5_2 (an h5_15 (an h5_16 h5_17)))
        refine goR F1 ?_
        refine condK_f (by simp [ltI]; omega) ?_
        obtain rfl := sj e74
        try dsimp only at e46
        exact hK48 () _ _ (Gh.refl _) ⟨e46, pg⟩
      · obtain ⟨hx83, hlt81, hd85⟩ := drop_next hd78
        have ew82 := wrap_succ hlt81 (hb1).len
        rw [slices_EqualFunc_api_Proc_ast_Equal_1_L1] at e74; try dsimp only at e74
        have F2 := an h5_1 (an h5_2 (an h5_15 (an h5_16 (an h5_17 (an hlt81 ew82)))))
        refine goR F2 ?_
        refine condK_t (by simp [ltI]; omega) ?_
        have f86 : partCV Tryd.prog 57 (encL a0) (k62 * 3) = some (.agg (eA x84)) := partCV_enc hx83 (f := 0) (by simp)
        revert e74; refine bK fun x87 hx88 e74 => ?_
        have hx88b := getN_some hx88
        have f89 : partCV Tryd.prog 57 (encL a1) (k62 * 3) = some (.agg (eA x87)) := partCV_enc hx88 (f := 0) (by simp)
        have F3 := an F2 (an f86 f89)
        refine goR F3 ?_
        revert e74; refine bK fun y90 hx91 e74 => ?_
        refine cP F3 (at_ast_Equal_1 hx91) ?_
        refine goR F3 ?_
        revert e74; refine cS F3 ?_ ?_ <;> intro h92 e74
        · refine goR F3 ?_
          obtain rfl := sj e74
          try dsimp only at e46
          obtain rfl := sj e46
          try dsimp only at hs
          refine hX49 _ _ (by simp) ?_
          refine goR F3 ?_
          obtain rfl := sj hs
          exact hQ _ _ (rg F3 (Gh.refl _))
        · refine goR F3 ?_
          exact hL77 (q80, (k62 + 1)) _ _ (Gh.refl _) ⟨e74, hd85, pv F3, pv F3, pv F3, pv F3, pv F3, pg⟩ (by simp)
    · obtain ⟨e46, n4_g⟩ := hp
      obtain rfl := sj e46
      try dsimp only at hs
      refine goR f0 ?_
      obtain rfl := sj hs
      exact hQ _ _ (rg f0 (Gh.refl _))
end Go.Dc
end
section
set_option linter.all false
namespace Go.Dc
open Go Go.Hw Go.Proofs
set_option maxRecDepth 100000
def slices_Equal_api_Var_L1 (a1 : List Var) : List Var → Nat → Option (Unit ⊕ Bool)
  | [], k76 => some (.inl ())
  | x102 :: q98, k76 => Option.bind (a1[k76]?) (fun x109 => cond (!(andB (eqS x102.Name x109.Name) (andB (eqI x102.Init x109.Init) true))) (some (.inr false)) (slices_Equal_api_Var_L1 a1 q98 (k76 + 1)))

def slices_Equal_api_Var (a0 : List Var) (a1 : List Var) : Option Bool :=
  cond (!(eqI ((a0.length : Nat) : Int) ((a1.length : Nat) : Int))) (some false) (Option.bind (α := Unit ⊕ Bool) (Option.bind (slices_Equal_api_Var_L1 a1 a0 0) (fun o => match o with | .inl _ => some (.inl ()) | .inr r113 => some (.inr r113))) (fun o => match o with | .inl _ => some true | .inr r114 => some r114))

set_option maxHeartbeats 2000000 in
theorem at_slices_Equal_api_Var {a0 : List Var} {a1 : List Var} {r : Bool} (hs : slices_Equal_api_Var a0 a1 = some r) : At Tryd.prog 94 [.cell (sC a0), .cell (sC a1)] (bV r) := by
  refine at_bound (by kernel_rfl) fun hb => ?_
  have hb1 : LenOk (.sl a0.length (encL a0)) := lkc hb
  have hb2 : LenOk (.sl a1.length (encL a1)) := lkc hb
  refine at_code mixed Tryd.func94 (by kernel_rfl) rfl (by kernel_rfl) rfl fun Q hQ => ?_
  rw [slices_Equal_api_Var] at hs
  refine goR f0 ?_
  revert hs; refine cS f0 ?_ ?_ <;> intro h1 hs
  · refine goR f0 ?_
    obtain rfl := sj hs
    exact hQ _ _ (rg f0 (Gh.refl _))
  · refine goR2 f0 ?_
    revert hs; refine bK fun o57 e56 hs => ?_
    refine awp_cutK (fun (v : Unit) (σ : St) => some (.inl v) = some o57 ∧ 3 ≤ σ.gen) (by rfl) (fun Q hK58 hX59 => ?_) (fun v σ3 hp => ?_)
    · refine goR f0 ?_
      revert e56; refine bK fun o93 e92 e56 => ?_
      refine awp_loopW (fun (v : (List Var) × Nat) (σ : St) => slices_Equal_api_Var_L1 a1 v.1 v.2 = some o93 ∧ v.1 = a0.drop v.2 ∧ σ.env 0 = .cell (sC a0) ∧ σ.env 1 = .cell (sC a1) ∧ σ.env 12 = iV .i64 ((a0.length : Nat) : Int) ∧ σ.env 13 = iV .i64 ((v.2 : Nat) : Int) ∧ 3 ≤ σ.gen) (fun v => v.1.length) _ (Gh.refl _) (a0, 0) ⟨e92, by simp, pv f0, pv f0, pv f0, pv f0, pg⟩ fun v σ6 hp L94 hL95 => ?_
      obtain ⟨q97, k76⟩ := v
      dsimp only at hp hL95
      obtain ⟨e92, hd96, h5_0, h5_1, h5_12, h5_13, n5_g⟩ := hp
      rcases q97 with _ | ⟨x102, q98⟩
      · have hlt99 := drop_end hd96
        rw [slices_Equal_api_Var_L1] at e92; try dsimp only at e92
        have F1 := an h5_0 (an h5_1 (an h5_12 h5_13))
        refine goR F1 ?_
        refine condK_f (by simp [ltI]; omega) ?_
        obtain rfl := sj e92
        try dsimp only at e56
        exact hK58 () _ _ (Gh.refl _) ⟨e56, pg⟩
      · obtain ⟨hx101, hlt99, hd103⟩ := drop_next hd96
        have ew100 := wrap_succ hlt99 (hb1).len
        rw [slices_Equal_api_Var_L1] at e92; try dsimp only at e92
        have F2 := an h5_0 (an h5_1 (an h5_12 (an h5_13 (an hlt99 ew100))))
        refine goR F2 ?_
        refine condK_t (by simp [ltI]; omega) ?_
        have f108 : partCV Tryd.prog 69 (encL a0) (k76 * 2) = some (.agg (eA x102)) := partCV_enc hx101 (f := 0) (by simp)
        revert e92; refine bK fun x109 hx110 e92 => ?_
        have hx110b := getN_some hx110
        have f111 : partCV Tryd.prog 69 (encL a1) (k76 * 2) = some (.agg (eA x109)) := partCV_enc hx110 (f := 0) (by simp)
        have F3 := an F2 (an f108 f111)
        refine goD F3 ?_
        revert e92; refine cS F3 ?_ ?_ <;> intro h112 e92
        · refine goD F3 ?_
          obtain rfl := sj e92
          try dsimp only at e56
          obtain rfl := sj e56
          try dsimp only at hs
          refine hX59 _ _ (by simp) ?_
          refine goD F3 ?_
          obtain rfl := sj hs
          exact hQ _ _ (rg F3 (Gh.refl _))
        · refine goD F3 ?_
          exact hL95 (q98, (k76 + 1)) _ _ (Gh.refl _) ⟨e92, hd103, pv F3, pv F3, pv F3, pv F3, pg⟩ (by simp)
    · obtain ⟨e56, n4_g⟩ := hp
      obtain rfl := sj e56
      try dsimp only at hs
      refine goR f0 ?_
      obtain rfl := sj hs
      exact hQ _ _ (rg f0 (Gh.refl _))
end Go.Dc
end
section
set_option linter.all false
namespace Go.Dc
open Go Go.Hw Go.Proofs
set_option maxRecDepth 100000
def slices_Equal_string_L1 (a1 : List ByteArray) : List ByteArray → Nat → Option (Unit ⊕ Bool)
  | [], k76 => some (.inl ())
  | x102 :: q98, k76 => Option.bind (a1[k76]?) (fun x109 => cond (!(eqS x102 x109)) (some (.inr false)) (slices_Equal_string_L1 a1 q98 (k76 + 1)))

def slices_Equal_string (a0 : List ByteArray) (a1 : List ByteArray) : Option Bool :=
  cond (!(eqI ((a0.length : Nat) : Int) ((a1.length : Nat) : Int))) (some false) (Option.bind (α := Unit ⊕ Bool) (Option.bind (slices_Equal_string_L1 a1 a0 0) (fun o => match o with | .inl _ => some (.inl ()) | .inr r113 => some (.inr r113))) (fun o => match o with | .inl _ => some true | .inr r114 => some r114))

set_option maxHeartbeats 2000000 in
theorem at_slices_Equal_string {a0 : List ByteArray} {a1 : List ByteArray} {r : Bool} (hs : slices_Equal_string a0 a1 = some r) : At Tryd.prog 95 [.cell (sC a0), .cell (sC a1)] (bV r) := by
  refine at_bound (by kernel_rfl) fun hb => ?_
  have hb1 : LenOk (.sl a0.length (encL a0)) := lkc hb
  have hb2 : LenOk (.sl a1.length (encL a1)) := lkc hb
  refine at_code mixed Tryd.func95 (by kernel_rfl) rfl (by kernel_rfl) rfl fun Q hQ => ?_
  rw [slices_Equal_string] at hs
  refine goR f0 ?_
  revert hs; refine cS f0 ?_ ?_ <;> intro h1 hs
  · refine goR f0 ?_
    obtain rfl := sj hs
    exact hQ _ _ (rg f0 (Gh.refl _))
  · refine goR2 f0 ?_
    revert hs; refine bK fun o57 e56 hs => ?_
    refine awp_cutK (fun (v : Unit) (σ : St) => some (.inl v) = some o57 ∧ 3 ≤ σ.gen) (by rfl) (fun Q hK58 hX59 => ?_) (fun v σ3 hp => ?_)
    · refine goR f0 ?_
      revert e56; refine bK fun o93 e92 e56 => ?_
      refine awp_loopW (fun (v : (List ByteArray) × Nat) (σ : St) => slices_Equal_string_L1 a1 v.1 v.2 = some o93 ∧ v.1 = a0.drop v.2 ∧ σ.env 0 = .cell (sC a0) ∧ σ.env 1 = .cell (sC a1) ∧ σ.env 12 = iV .i64 ((a0.length : Nat) : Int) ∧ σ.env 13 = iV .i64 ((v.2 : Nat) : Int) ∧ 3 ≤ σ.gen) (fun v => v.1.length) _ (Gh.refl _) (a0, 0) ⟨e92, by simp, pv f0, pv f0, pv f0, pv f0, pg⟩ fun v σ6 hp L94 hL95 => ?_
      obtain ⟨q97, k76⟩ := v
      dsimp only at hp hL95
      obtain ⟨e92, hd96, h5_0, h5_1, h5_12, h5_13, n5_g⟩ := hp
      rcases q97 with _ | ⟨x102, q98⟩
      · have hlt99 := drop_end hd96
        rw [slices_Equal_string_L1] at e92; try dsimp only at e92
        have F1 := an h5_0 (an h5_1 (an h5_12 h5_13))
        refine goR F1 ?_
        refine condK_f (by simp [ltI]; omega) ?_
        obtain rfl := sj e92
        try dsimp only at e56
        exact hK58 () _ _ (Gh.refl _) ⟨e56, pg⟩
      · obtain ⟨hx101, hlt99, hd103⟩ := drop_next hd96
        have ew100 := wrap_succ hlt99 (hb1).len
        rw [slices_Equal_string_L1] at e92; try dsimp only at e92
        have F2 := an h5_0 (an h5_1 (an h5_12 (an h5_13 (an hlt99 ew100))))
        refine goR F2 ?_
        refine condK_t (by simp [ltI]; omega) ?_
        have f108 : partCV Tryd.prog 9 (encL a0) (k76) = some (sV x102) := partCV_enc1 hx101 (by simp)
        revert e92; refine bK fun x109 hx110 e92 => ?_
        have hx110b := getN_some hx110
        have f111 : partCV Tryd.prog 9 (encL a1) (k76) = some (sV x109) := partCV_enc1 hx110 (by simp)
        have F3 := an F2 (an f108 f111)
        refine goD F3 ?_
        revert e92; refine cS F3 ?_ ?_ <;> intro h112 e92
        · refine goD F3 ?_
          obtain rfl := sj e92
          try dsimp only at e56
          obtain rfl := sj e56
          try dsimp only at hs
          refine hX59 _ _ (by simp) ?_
          refine goD F3 ?_
          obtain rfl := sj hs
          exact hQ _ _ (rg F3 (Gh.refl _))
        · refine goD F3 ?_
          exact hL95 (q98, (k76 + 1)) _ _ (Gh.refl _) ⟨e92, hd103, pv F3, pv F3, pv F3, pv F3, pg⟩ (by simp)
    · obtain ⟨e56, n4_g⟩ := hp
      obtain rfl := sj e56
      try dsimp only at hs
      refine goR f0 ?_
      obtain rfl := sj hs
      exact hQ _ _ (rg f0 (Gh.refl _))
end Go.Dc
end
section
set_option linter.all false
namespace Go.Dc
open Go Go.Hw Go.Proofs
set_option maxRecDepth 100000
def slices_Equal_api_Launch_L1 (a1 : List Launch) : List Launch → Nat → Option (Unit ⊕ Bool)
  | [], k76 => some (.inl ())
  | x102 :: q98, k76 => Option.bind (a1[k76]?) (fun x109 => cond (!(andB (eqS x102.Proc x109.Proc) (andB (eqI x102.Arg x109.Arg) true))) (some (.inr false)) (slices_Equal_api_Launch_L1 a1 q98 (k76 + 1)))

def slices_Equal_api_Launch (a0 : List Launch) (a1 : List Launch) : Option Bool :=
  cond (!(eqI ((a0.length : Nat) : Int) ((a1.length : Nat) : Int))) (some false) (Option.bind (α := Unit ⊕ Bool) (Option.bind (slices_Equal_api_Launch_L1 a1 a0 0) (fun o => match o with | .inl _ => some (.inl ()) | .inr r113 => some (.inr r113))) (fun o => match o with | .inl _ => some true | .inr r114 => some r114))

set_option maxHeartbeats 2000000 in
theorem at_slices_Equal_api_Launch {a0 : List Launch} {a1 : List Launch} {r : Bool} (hs : slices_Equal_api_Launch a0 a1 = some r) : At Tryd.prog 96 [.cell (sC a0), .cell (sC a1)] (bV r) := by
  refine at_bound (by kernel_rfl) fun hb => ?_
  have hb1 : LenOk (.sl a0.length (encL a0)) := lkc hb
  have hb2 : LenOk (.sl a1.length (encL a1)) := lkc hb
  refine at_code mixed Tryd.func96 (by kernel_rfl) rfl (by kernel_rfl) rfl fun Q hQ => ?_
  rw [slices_Equal_api_Launch] at hs
  refine goR f0 ?_
  revert hs; refine cS f0 ?_ ?_ <;> intro h1 hs
  · refine goR f0 ?_
    obtain rfl := sj hs
    exact hQ _ _ (rg f0 (Gh.refl _))
  · refine goR2 f0 ?_
    revert hs; refine bK fun o57 e56 hs => ?_
    refine awp_cutK (fun (v : Unit) (σ : St) => some (.inl v) = some o57 ∧ 3 ≤ σ.gen) (by rfl) (fun Q hK58 hX59 => ?_) (fun v σ3 hp => ?_)
    · refine goR f0 ?_
      revert e56; refine bK fun o93 e92 e56 => ?_
      refine awp_loopW (fun (v : (List Launch) × Nat) (σ : St) => slices_Equal_api_Launch_L1 a1 v.1 v.2 = some o93 ∧ v.1 = a0.drop v.2 ∧ σ.env 0 = .cell (sC a0) ∧ σ.env 1 = .cell (sC a1) ∧ σ.env 12 = iV .i64 ((a0.length : Nat) : Int) ∧ σ.env 13 = iV .i64 ((v.2 : Nat) : Int) ∧ 3 ≤ σ.gen) (fun v => v.1.length) _ (Gh.refl _) (a0, 0) ⟨e92, by simp, pv f0, pv f0, pv f0, pv f0, pg⟩ fun v σ6 hp L94 hL95 => ?_
      obtain ⟨q97, k76⟩ := v
      dsimp only at hp hL95
      obtain ⟨e92, hd96, h5_0, h5_1, h5_12, h5_13, n5_g⟩ := hp
      rcases q97 with _ | ⟨x102, q98⟩
      · have hlt99 := drop_end hd96
        rw [slices_Equal_api_Launch_L1] at e92; try dsimp only at e92
        have F1 := an h5_0 (an h5_1 (an h5_12 h5_13))
        refine goR F1 ?_
        refine condK_f (by simp [ltI]; omega) ?_
        obtain rfl := sj e92
        try dsimp only at e56
        exact hK58 () _ _ (Gh.refl _) ⟨e56, pg⟩
      · obtain ⟨hx101, hlt99, hd103⟩ := drop_next hd96
        have ew100 := wrap_succ hlt99 (hb1).len
        rw [slices_Equal_api_Launch_L1] at e92; try dsimp only at e92
        have F2 := an h5_0 (an h5_1 (an h5_12 (an h5_13 (an hlt99 ew100))))
        refine goR F2 ?_
        refine condK_t (by simp [ltI]; omega) ?_
        have f108 : partCV Tryd.prog 108 (encL a0) (k76 * 2) = some (.agg (eA x102)) := partCV_enc hx101 (f := 0) (by simp)
        revert e92; refine bK fun x109 hx110 e92 => ?_
        have hx110b := getN_some hx110
        have f111 : partCV Tryd.prog 108 (encL a1) (k76 * 2) = some (.agg (eA x109)) := partCV_enc hx110 (f := 0) (by simp)
        have F3 := an F2 (an f108 f111)
        refine goD F3 ?_
        revert e92; refine cS F3 ?_ ?_ <;> intro h112 e92
        · refine goD F3 ?_
          obtain rfl := sj e92
          try dsimp only at e56
          obtain rfl := sj e56
          try dsimp only at hs
          refine hX59 _ _ (by simp) ?_
          refine goD F3 ?_
          obtain rfl := sj hs
          exact hQ _ _ (rg F3 (Gh.refl _))
        · refine goD F3 ?_
          exact hL95 (q98, (k76 + 1)) _ _ (Gh.refl _) ⟨e92, hd103, pv F3, pv F3, pv F3, pv F3, pg⟩ (by simp)
    · obtain ⟨e56, n4_g⟩ := hp
      obtain rfl := sj e56
      try dsimp only at hs
      refine goR f0 ?_
      obtain rfl := sj hs
      exact hQ _ _ (rg f0 (Gh.refl _))
end Go.Dc
end
section
set_option linter.all false
namespace Go.Dc
open Go Go.Hw Go.Proofs
set_option maxRecDepth 100000

def ast_Equal (fuelN : Nat) (a0 : UnitT) (a1 : UnitT) : Option Bool :=
  Option.bind (slices_EqualFunc_api_Proc_ast_Equal_1 fuelN a0.Procs a1.Procs) (fun y1 => guardO (orB (!y1) ((slices_Equal_api_Var a0.Vars a1.Vars).isSome)) (guardO (orB (!(andB y1 ((slices_Equal_api_Var a0.Vars a1.Vars).getD default))) ((slices_Equal_string a0.Mutexes a1.Mutexes).isSome)) (guardO (orB (!(andB (andB y1 ((slices_Equal_api_Var a0.Vars a1.Vars).getD default)) ((slices_Equal_string a0.Mutexes a1.Mutexes).getD default))) ((slices_Equal_string a0.Conds a1.Conds).isSome)) (guardO (orB (!(andB (andB (andB y1 ((slices_Equal_api_Var a0.Vars a1.Vars).getD default)) ((slices_Equal_string a0.Mutexes a1.Mutexes).getD default)) ((slices_Equal_string a0.Conds a1.Conds).getD default))) ((slices_Equal_api_Launch a0.Threads a1.Threads).isSome)) (some (andB (andB (andB (andB y1 ((slices_Equal_api_Var a0.Vars a1.Vars).getD default)) ((slices_Equal_string a0.Mutexes a1.Mutexes).getD default)) ((slices_Equal_string a0.Conds a1.Conds).getD default)) ((slices_Equal_api_Launch a0.Threads a1.Threads).getD default)))))))

set_option maxHeartbeats 2000000 in
theorem at_ast_Equal {fuelN : Nat} {a0 : UnitT} {a1 : UnitT} {r : Bool} (hs : ast_Equal fuelN a0 a1 = some r) : At Tryd.prog 43 [.agg (eA a0), .agg (eA a1)] (bV r) := by
  refine at_bound (by kernel_rfl) fun hb => ?_
  have hb1 : LenOk (.sl a0.Vars.length (encL a0.Vars)) := lkc hb
  have hb2 : LenOk (.sl a0.Mutexes.length (encL a0.Mutexes)) := lkc hb
  have hb3 : LenOk (.sl a0.Conds.length (encL a0.Conds)) := lkc hb
  have hb4 : LenOk (.sl a0.Procs.length (encL a0.Procs)) := lkc hb
  have hb5 : LenOk (.sl a0.Threads.length (encL a0.Threads)) := lkc hb
  have hb6 : LenOk (.sl a1.Vars.length (encL a1.Vars)) := lkc hb
  have hb7 : LenOk (.sl a1.Mutexes.length (encL a1.Mutexes)) := lkc hb
  have hb8 : LenOk (.sl a1.Conds.length (encL a1.Conds)) := lkc hb
  have hb9 : LenOk (.sl a1.Procs.length (encL a1.Procs)) := lkc hb
  have hb10 : LenOk (.sl a1.Threads.length (encL a1.Threads)) := lkc hb
  refine at_code mixed Tryd.func43 (by kernel_rfl) rfl (by kernel_rfl) rfl fun Q hQ => ?_
  rw [ast_Equal] at hs
  refine goR f0 ?_
  revert hs; refine bK fun y1 hx2 hs => ?_
  refine cP f0 (at_slices_EqualFunc_api_Proc_ast_Equal_1 hx2) ?_
  refine goG f0 f0 ?_
  obtain ⟨g3, hs⟩ := guardO_some hs
  refine gsel_call (fun hg => at_slices_Equal_api_Var (under_call g3 hg)) (fun hg => by (try simp at hg); (first | simp [hg, id]); try rfl) (fun hg => by (try simp at hg); simp [hg, id]) (by simp) ?_
  refine goG f0 f0 ?_
  obtain ⟨g4, hs⟩ := guardO_some hs
  refine gsel_call (fun hg => at_slices_Equal_string (under_call g4 hg)) (fun hg => by (try simp at hg); (first | simp [hg, id]); try rfl) (fun hg => by (try simp at hg); simp [hg, id]) (by simp) ?_
  refine goG f0 f0 ?_
  obtain ⟨g5, hs⟩ := guardO_some hs
  refine gsel_call (fun hg => at_slices_Equal_string (under_call g5 hg)) (fun hg => by (try simp at hg); (first | simp [hg, id]); try rfl) (fun hg => by (try simp at hg); simp [hg, id]) (by simp) ?_
  refine goG f0 f0 ?_
  obtain ⟨g6, hs⟩ := guardO_some hs
  refine gsel_call (fun hg => at_slices_Equal_api_Launch (under_call g6 hg)) (fun hg => by (try simp at hg); (first | simp [hg, id]); try rfl) (fun hg => by (try simp at hg); simp [hg, id]) (by simp) ?_
  refine goG f0 f0 ?_
  obtain rfl := sj hs
  exact hQ _ _ (rg f0 (Gh.refl _))
end Go.Dc
end
section
set_option linter.all false
namespace Go.Dc
open Go Go.Hw Go.Proofs
set_option maxRecDepth 100000

def law16_local (a0 : ByteArray) : Option Expr :=
  some ({ Kind := 2, N := 0, Name := a0, Fn := 0, Args := [] } : Expr)

set_option maxHeartbeats 2000000 in
theorem at_law16_local {a0 : ByteArray} {r : Expr} (hs : law16_local a0 = some r) : At Tryd.prog 66 [sV a0] (.agg (eA r)) := by
  refine at_bound (by kernel_rfl) fun hb => ?_
  refine at_code mixed Tryd.func66 (by kernel_rfl) rfl (by kernel_rfl) rfl fun Q hQ => ?_
  rw [law16_local] at hs
  refine goR f0 ?_
  obtain rfl := sj hs
  exact hQ _ _ (rg f0 (Gh.unz _))
end Go.Dc
end
section
set_option linter.all false
namespace Go.Dc
open Go Go.Hw Go.Proofs
set_option maxRecDepth 100000

def law16_sum (a0 : Expr) (a1 : Expr) : Option Expr :=
  Option.bind (some ([a0, a1])) (fun l1 => some ({ Kind := 3, N := 0, Name := (⟨#[]⟩ : ByteArray), Fn := 1, Args := l1 } : Expr))

set_option maxHeartbeats 2000000 in
theorem at_law16_sum {a0 : Expr} {a1 : Expr} {r : Expr} (hs : law16_sum a0 a1 = some r) : At Tryd.prog 67 [.agg (eA a0), .agg (eA a1)] (.agg (eA r)) := by
  refine at_bound (by kernel_rfl) fun hb => ?_
  have hb1 : LenOk (.sl a0.Args.length (encL a0.Args)) := lkc hb
  have hb2 : LenOk (.sl a1.Args.length (encL a1.Args)) := lkc hb
  refine at_code mixed Tryd.func67 (by kernel_rfl) rfl (by kernel_rfl) rfl fun Q hQ => ?_
  rw [law16_sum] at hs
  revert hs; refine lK fun l1 hx2 hs => ?_
  have hx2n : l1.length = 2 := by rw [hx2]; rfl
  refine goR hx2 ?_
  obtain rfl := sj hs
  exact hQ _ _ (rg hx2 (Gh.frz _ (.o 2 2 0)))
end Go.Dc
end
section
set_option linter.all false
namespace Go.Dc
open Go Go.Hw Go.Proofs
set_option maxRecDepth 100000

def law16_awake (fuelN : Nat)  : Option Bool :=
  Option.bind (law16_local (⟨#[98]⟩ : ByteArray)) (fun y1 => Option.bind (some ([y1])) (fun l3 => Option.bind (some ([({ Kind := 1, N := 1, Name := (⟨#[]⟩ : ByteArray), Fn := 0, Args := [] } : Expr)])) (fun l15 => Option.bind (law16_local (⟨#[97]⟩ : ByteArray)) (fun y17 => Option.bind (some ([y17])) (fun l19 => Option.bind (some ([({ Kind := 1, Name := (⟨#[99]⟩ : ByteArray), Obj := (⟨#[]⟩ : ByteArray), Other := (⟨#[]⟩ : ByteArray), Fn := 0, Order := 0, Exprs := l3, Body := [], Else := [] } : Stmt)])) (fun l21 => Option.bind (some ([({ Kind := 1, Name := (⟨#[98]⟩ : ByteArray), Obj := (⟨#[]⟩ : ByteArray), Other := (⟨#[]⟩ : ByteArray), Fn := 0, Order := 0, Exprs := l15, Body := [], Else := [] } : Stmt), ({ Kind := 18, Name := (⟨#[]⟩ : ByteArray), Obj := (⟨#[]⟩ : ByteArray), Other := (⟨#[]⟩ : ByteArray), Fn := 0, Order := 0, Exprs := l19, Body := l21, Else := [] } : Stmt)])) (fun l23 => Option.bind (some ([({ Name := (⟨#[112]⟩ : ByteArray), Param := (⟨#[97]⟩ : ByteArray), Body := l23 } : Proc)])) (fun l25 => Option.bind (some ([({ Proc := (⟨#[112]⟩ : ByteArray), Arg := 0 } : Launch)])) (fun l27 => Option.bind (ast_Check fuelN ({ Vars := [], Mutexes := [], Conds := [], Procs := l25, Threads := l27 } : UnitT)) (fun y29 => Option.bind (ast_Clone fuelN ({ Vars := [], Mutexes := [], Conds := [], Procs := l25, Threads := l27 } : UnitT)) (fun y31 => Option.bind (ast_Equal fuelN ({ Vars := [], Mutexes := [], Conds := [], Procs := l25, Threads := l27 } : UnitT) y31) (fun y33 => cond (eqI ((y31.Procs.length : Nat) : Int) 1) (Option.bind (y31.Procs[0]?) (fun x36 => cond (eqI ((x36.Body.length : Nat) : Int) 2) (Option.bind (x36.Body[1]?) (fun x41 => cond (!(eqI ((x41.Body.length : Nat) : Int) 1)) (Option.bind (some (x36.Body.set 1 x41)) (fun l46 => Option.bind (some (y31.Procs.set 0 ({ x36 with Body := l46 }))) (fun l49 => some false))) (Option.bind (some (x36.Body.set 1 x41)) (fun l52 => Option.bind (some (y31.Procs.set 0 ({ x36 with Body := l52 }))) (fun l55 => Option.bind (l55[0]?) (fun x57 => Option.bind (x57.Body[1]?) (fun x60 => Option.bind (x60.Body[0]?) (fun x63 => Option.bind (some (x60.Body.set 0 ({ x63 with Name := (⟨#[105, 102]⟩ : ByteArray) }))) (fun l66 => Option.bind (some (x57.Body.set 1 ({ x60 with Body := l66 }))) (fun l69 => Option.bind (some (l55.set 0 ({ x57 with Body := l69 }))) (fun l72 => Option.bind (ast_Check fuelN ({ y31 with Procs := l72 })) (fun y74 => Option.bind (law16_local (⟨#[97]⟩ : ByteArray)) (fun y76 => Option.bind (law16_local (⟨#[97]⟩ : ByteArray)) (fun y78 => Option.bind (law16_sum y76 y78) (fun y80 => Option.bind (law16_local (⟨#[97]⟩ : ByteArray)) (fun y82 => Option.bind (law16_sum y80 y82) (fun y84 => Option.bind (law16_local (⟨#[97]⟩ : ByteArray)) (fun y86 => Option.bind (law16_sum y84 y86) (fun y88 => cond (andB (andB (andB (andB (andB (andB (eqI y29.1 0) (eqI y29.2.1 (-1))) (eqI y29.2.2 (-1))) (eqI y74.1 6)) (eqI y74.2.1 0)) (eqI y74.2.2 2)) y33) (Option.bind (ast_Equal fuelN ({ Vars := [], Mutexes := [], Conds := [], Procs := l25, Threads := l27 } : UnitT) ({ y31 with Procs := l72 })) (fun y91 => guardO (orB (!(!y91)) ((ast_Locals ({ Name := (⟨#[112]⟩ : ByteArray), Param := (⟨#[97]⟩ : ByteArray), Body := l23 } : Proc)).isSome)) (cond (!y91) (Option.bind (some ([(⟨#[97]⟩ : ByteArray), (⟨#[98]⟩ : ByteArray), (⟨#[99]⟩ : ByteArray)])) (fun l95 => Option.bind (r16_Strings ((ast_Locals ({ Name := (⟨#[112]⟩ : ByteArray), Param := (⟨#[97]⟩ : ByteArray), Body := l23 } : Proc)).getD default) l95) (fun y97 => guardO (orB (!y97) ((ast_Count l23).isSome)) (guardO (orB (!(andB y97 (eqI ((ast_Count l23).getD default) 3))) ((law16_local (⟨#[97]⟩ : ByteArray)).isSome)) (guardO (orB (!(andB y97 (eqI ((ast_Count l23).getD default) 3))) ((law16_local (⟨#[98]⟩ : ByteArray)).isSome)) (guardO (orB (!(andB y97 (eqI ((ast_Count l23).getD default) 3))) ((law16_sum ((law16_local (⟨#[97]⟩ : ByteArray)).getD default) ((law16_local (⟨#[98]⟩ : ByteArray)).getD default)).isSome)) (cond (andB y97 (eqI ((ast_Count l23).getD default) 3)) (Option.bind (some ([(⟨#[97]⟩ : ByteArray)])) (fun l104 => Option.bind (ast_CheckExpr fuelN ((law16_sum ((law16_local (⟨#[97]⟩ : ByteArray)).getD default) ((law16_local (⟨#[98]⟩ : ByteArray)).getD default)).getD default) l104) (fun y106 => cond (eqI y106 11) (Option.bind (some ([(⟨#[97]⟩ : ByteArray)])) (fun l109 => Option.bind (ast_CheckExpr fuelN y88 l109) (fun y111 => guardO (orB (!(eqI y111 4)) ((ast_Depth fuelN y88).isSome)) (some (andB (eqI y111 4) (eqI ((ast_Depth fuelN y88).getD default) 4)))))) (some false)))) (some false)))))))) (some false)))) (some false)))))))))))))))))))) (Option.bind (some (y31.Procs.set 0 x36)) (fun l115 => some false)))) (some false)))))))))))))

set_option maxHeartbeats 2000000 in
theorem at_law16_awake {fuelN : Nat}  {r : Bool} (hs : law16_awake fuelN = some r) : At Tryd.prog 27 [] (bV r) := by
  refine at_bound (by kernel_rfl) fun hb => ?_
  refine at_code mixed Tryd.func27 (by kernel_rfl) rfl (by kernel_rfl) rfl fun Q hQ => ?_
  rw [law16_awake] at hs
  refine goR f0 ?_
  revert hs; refine bK fun y1 hx2 hs => ?_
  refine cP f0 (at_law16_local hx2) ?_
  revert hs; refine lK fun l3 hx4 hs => ?_
  have hx4n : l3.length = 1 := by rw [hx4]; rfl
  revert hs; refine lK fun l15 hx16 hs => ?_
  have hx16n : l15.length = 1 := by rw [hx16]; rfl
  have F1 := an hx4 hx16
  refine goD F1 ?_
  revert hs; refine bK fun y17 hx18 hs => ?_
  refine cP F1 (at_law16_local hx18) ?_
  revert hs; refine lK fun l19 hx20 hs => ?_
  have hx20n : l19.length = 1 := by rw [hx20]; rfl
  revert hs; refine lK fun l21 hx22 hs => ?_
  have hx22n : l21.length = 1 := by rw [hx22]; rfl
  revert hs; refine lK fun l23 hx24 hs => ?_
  have hx24n : l23.length = 2 := by rw [hx24]; rfl
  have F2 := an F1 (an hx20 (an hx22 hx24))
  refine goN F2 ?_
  refine awp_gh (by rfl) ((Gh.frz _ (.o 2 1 0)).trans ((Gh.pur _ (.o 3 6 0)).trans ((Gh.frz _ (.o 3 1 0)).trans ((Gh.frz _ (.o 3 4 0)).trans ((Gh.frz _ (.o 3 6 0)).trans (Gh.pur _ (.o 3 8 0))))))) ?_
  try simp only [St.frz, St.pur]
  revert hs; refine lK fun l25 hx26 hs => ?_
  have hx26n : l25.length = 1 := by rw [hx26]; rfl
  revert hs; refine lK fun l27 hx28 hs => ?_
  have hx28n : l27.length = 1 := by rw [hx28]; rfl
  have F3 := an F2 (an hx26 hx28)
  refine goN F3 ?_
  refine awp_reg ?_
  refine goN F3 ?_
  refine awp_gh (by rfl) ((Gh.frz _ (.o 3 8 0)).trans (Gh.pur _ (.o 4 1 0))) ?_
  try simp only [St.frz, St.pur]
  refine goR F3 ?_
  revert hs; refine bK fun y29 hx30 hs => ?_
  refine cA F3 (at_unz (args := [.agg [.z, .z, .z, sC l25, sC l27]]) (by simp) (at_ast_Check hx30)) ?_
  refine goN F3 ?_
  refine awp_gh (by rfl) ((Gh.frz _ (.o 4 1 0)).trans (Gh.frz _ (.o 4 3 0))) ?_
  try simp only [St.frz, St.pur]
  refine goR F3 ?_
  revert hs; refine bK fun y31 hx32 hs => ?_
  refine cA F3 (at_unz (args := [.agg [.z, .z, .z, sC l25, sC l27]]) (by simp) (at_ast_Clone hx32)) ?_
  refine goR F3 ?_
  revert hs; refine bK fun y33 hx34 hs => ?_
  refine cA F3 (at_unz (args := [.agg [.z, .z, .z, sC l25, sC l27], .agg (eA y31)]) (by simp) (at_ast_Equal hx34)) ?_
  refine goG F3 F3 ?_
  refine gsel_split (fun h35 => ?_) (fun h35 => ?_)
  · replace hs := condT h35 hs
    revert hs; refine bK fun x36 hx37 hs => ?_
    have hx37b := getN_some hx37
    have f38a : (oencL y31.Procs)[2]? = some (.own (.sl 9 x36.Body.length (otL x36.Body))) := oencL_get hx37 (f := 2) (by first | rfl | (simp; done) | (simp; rfl))
    have f38b : ((oencL y31.Procs).drop (2)).take 1 = [.own (.sl 9 x36.Body.length (otL x36.Body))] := oencL_seg hx37 (f := 2) (by first | rfl | (simp; done) | (simp; rfl)) (by first | rfl | (simp; done) | (simp; rfl))
    have f38l : 2 < (oencL y31.Procs).length := (List.getElem?_eq_some_iff.1 f38a).1
    have f38c := fun c => (set_seg f38l c).1
    have f38d := fun c => (set_seg f38l c).2
    have F4 := an F3 (an h35 (an f38a (an f38b (an f38c f38d))))
    have F5 := an F4 hx37b
    refine goG F4 F5 ?_
    refine gsel_split (fun h39 => ?_) (fun h39 => ?_)
    · replace hs := condT h39 hs
      revert hs; refine bK fun x41 hx42 hs => ?_
      have hx42b := getN_some hx42
      have f43a : (oencL x36.Body)[16]? = some (.own (.sl 9 x41.Body.length (otL x41.Body))) := oencL_get hx42 (f := 7) (by first | rfl | (simp; done) | (simp; rfl))
      have f43b : ((oencL x36.Body).drop (16)).take 1 = [.own (.sl 9 x41.Body.length (otL x41.Body))] := oencL_seg hx42 (f := 7) (by first | rfl | (simp; done) | (simp; rfl)) (by first | rfl | (simp; done) | (simp; rfl))
      have f43l : 16 < (oencL x36.Body).length := (List.getElem?_eq_some_iff.1 f43a).1
      have f43c := fun c => (set_seg f43l c).1
      have f43d := fun c => (set_seg f43l c).2
      have F6 := an F4 (an h39 (an f43a (an f43b (an f43c f43d))))
      have F7 := an F6 (an hx37b hx42b)
      refine goG F6 F7 ?_
      revert hs; refine cS F6 ?_ ?_ <;> intro h44 hs
      · revert hs; refine lK fun l46 hx47 hs => ?_
        have f45 : (oencL x36.Body).set (16) (.own (.sl 9 x41.Body.length (otL x41.Body))) = oencL l46 := by rw [hx47]; exact oencL_set hx42 (f := 7) (by simp) (by first | rfl | (simp; done) | (simp; rfl))
        have f45n : l46.length = x36.Body.length := by rw [hx47]; simp
        have f45t : (oencL x41.Body).take (x41.Body.length * 9) = oencL x41.Body := oencL_takeN _ (by simp)
        have f45u : x41.Body.length = x41.Body.length → (oencL x41.Body).take (x41.Body.length * 9) = oencL x41.Body := fun h => by rw [← h]; exact oencL_takeN _ (by simp)
        have f45v : x41.Body.length = x41.Body.length → (oencL x36.Body).set (16) (.own (.sl 9 x41.Body.length (otL x41.Body))) = oencL l46 := fun h => by rw [← h]; exact f45
        have f45w : ∀ n : Nat, n = l46.length → (encL l46).take (n * 9) = encL l46 := fun n h => by rw [h]; exact encL_takeN _ (by simp)
        revert hs; refine lK fun l49 hx50 hs => ?_
        have f48 : (oencL y31.Procs).set (2) (.own (.sl 9 l46.length (otL l46))) = oencL l49 := by rw [hx50]; exact oencL_set hx37 (f := 2) (by simp) (by first | rfl | (simp; done) | (simp; rfl))
        have f48n : l49.length = y31.Procs.length := by rw [hx50]; simp
        have f48t : (oencL l46).take (l46.length * 9) = oencL l46 := oencL_takeN _ (by simp)
        have f48u : l46.length = x36.Body.length → (oencL l46).take (x36.Body.length * 9) = oencL l46 := fun h => by rw [← h]; exact oencL_takeN _ (by simp)
        have f48v : l46.length = x36.Body.length → (oencL y31.Procs).set (2) (.own (.sl 9 x36.Body.length (otL l46))) = oencL l49 := fun h => by rw [← h]; exact f48
        have f48w : ∀ n : Nat, n = l49.length → (encL l49).take (n * 3) = encL l49 := fun n h => by rw [h]; exact encL_takeN _ (by simp)
        have F8 := an F6 (an f45 (an f45n (an f45t (an f45u (an f45v (an f45w (an f48 (an f48n (an f48t (an f48u (an f48v f48w)))))))))))
        have F9 := an F8 (an hx37b hx42b)
        repeat (first | simp [F8] | with_reducible first | refine And.intro (by omega) ?_ | refine optF_if (by omega) ?_ | refine gsel_pure (by with_unfolding_all rfl) _ (fun hg => by (try simp at hg); first | (simp [hg, F9]; rfl) | (simp [F8]; simp only [if_pos hg]; simp [F8]; rfl)) ?_)
        refine awp_gh (by rfl) ((Gh.close _ (.o 8 9 2) (16)).trans (Gh.close _ (.o 6 1 3) (2))) ?_
        try simp only [St.frz, St.pur]
        refine goR F8 ?_
        obtain rfl := sj hs
        exact hQ _ _ (rg F8 (Gh.refl _))
      · revert hs; refine lK fun l52 hx53 hs => ?_
        have f51 : (oencL x36.Body).set (16) (.own (.sl 9 x41.Body.length (otL x41.Body))) = oencL l52 := by rw [hx53]; exact oencL_set hx42 (f := 7) (by simp) (by first | rfl | (simp; done) | (simp; rfl))
        have f51n : l52.length = x36.Body.length := by rw [hx53]; simp
        have f51t : (oencL x41.Body).take (x41.Body.length * 9) = oencL x41.Body := oencL_takeN _ (by simp)
        have f51u : x41.Body.length = x41.Body.length → (oencL x41.Body).take (x41.Body.length * 9) = oencL x41.Body := fun h => by rw [← h]; exact oencL_takeN _ (by simp)
        have f51v : x41.Body.length = x41.Body.length → (oencL x36.Body).set (16) (.own (.sl 9 x41.Body.length (otL x41.Body))) = oencL l52 := fun h => by rw [← h]; exact f51
        have f51w : ∀ n : Nat, n = l52.length → (encL l52).take (n * 9) = encL l52 := fun n h => by rw [h]; exact encL_takeN _ (by simp)
        revert hs; refine lK fun l55 hx56 hs => ?_
        have f54 : (oencL y31.Procs).set (2) (.own (.sl 9 l52.length (otL l52))) = oencL l55 := by rw [hx56]; exact oencL_set hx37 (f := 2) (by simp) (by first | rfl | (simp; done) | (simp; rfl))
        have f54n : l55.length = y31.Procs.length := by rw [hx56]; simp
        have f54t : (oencL l52).take (l52.length * 9) = oencL l52 := oencL_takeN _ (by simp)
        have f54u : l52.length = x36.Body.length → (oencL l52).take (x36.Body.length * 9) = oencL l52 := fun h => by rw [← h]; exact oencL_takeN _ (by simp)
        have f54v : l52.length = x36.Body.length → (oencL y31.Procs).set (2) (.own (.sl 9 x36.Body.length (otL l52))) = oencL l55 := fun h => by rw [← h]; exact f54
        have f54w : ∀ n : Nat, n = l55.length → (encL l55).take (n * 3) = encL l55 := fun n h => by rw [h]; exact encL_takeN _ (by simp)
        have F10 := an F6 (an f51 (an f51n (an f51t (an f51u (an f51v (an f51w (an f54 (an f54n (an f54t (an f54u (an f54v f54w)))))))))))
        have F11 := an F10 (an hx37b hx42b)
        repeat (first | simp [F10] | with_reducible first | refine And.intro (by omega) ?_ | refine optF_if (by omega) ?_ | refine gsel_pure (by with_unfolding_all rfl) _ (fun hg => by (try simp at hg); first | (simp [hg, F11]; rfl) | (simp [F10]; simp only [if_pos hg]; simp [F10]; rfl)) ?_)
        refine awp_gh (by rfl) ((Gh.close _ (.o 8 9 2) (16)).trans (Gh.close _ (.o 6 1 3) (2))) ?_
        try simp only [St.frz, St.pur]
        revert hs; refine bK fun x57 hx58 hs => ?_
        have hx58b := getN_some hx58
        have f59a : (oencL l55)[2]? = some (.own (.sl 9 x57.Body.length (otL x57.Body))) := oencL_get hx58 (f := 2) (by first | rfl | (simp; done) | (simp; rfl))
        have f59b : ((oencL l55).drop (2)).take 1 = [.own (.sl 9 x57.Body.length (otL x57.Body))] := oencL_seg hx58 (f := 2) (by first | rfl | (simp; done) | (simp; rfl)) (by first | rfl | (simp; done) | (simp; rfl))
        have f59l : 2 < (oencL l55).length := (List.getElem?_eq_some_iff.1 f59a).1
        have f59c := fun c => (set_seg f59l c).1
        have f59d := fun c => (set_seg f59l c).2
        revert hs; refine bK fun x60 hx61 hs => ?_
        have hx61b := getN_some hx61
        have f62a : (oencL x57.Body)[16]? = some (.own (.sl 9 x60.Body.length (otL x60.Body))) := oencL_get hx61 (f := 7) (by first | rfl | (simp; done) | (simp; rfl))
        have f62b : ((oencL x57.Body).drop (16)).take 1 = [.own (.sl 9 x60.Body.length (otL x60.Body))] := oencL_seg hx61 (f := 7) (by first | rfl | (simp; done) | (simp; rfl)) (by first | rfl | (simp; done) | (simp; rfl))
        have f62l : 16 < (oencL x57.Body).length := (List.getElem?_eq_some_iff.1 f62a).1
        have f62c := fun c => (set_seg f62l c).1
        have f62d := fun c => (set_seg f62l c).2
        revert hs; refine bK fun x63 hx64 hs => ?_
        have hx64b := getN_some hx64
        revert hs; refine lK fun l66 hx67 hs => ?_
        have f65 : (oencL x60.Body).set (1) (tC (⟨#[105, 102]⟩ : ByteArray)) = oencL l66 := by rw [hx67]; exact oencL_set hx64 (f := 1) (by simp) (by first | rfl | (simp; done) | (simp; rfl))
        have f65n : l66.length = x60.Body.length := by rw [hx67]; simp
        have f65w : ∀ n : Nat, n = l66.length → (encL l66).take (n * 9) = encL l66 := fun n h => by rw [h]; exact encL_takeN _ (by simp)
        revert hs; refine lK fun l69 hx70 hs => ?_
        have f68 : (oencL x57.Body).set (16) (.own (.sl 9 l66.length (otL l66))) = oencL l69 := by rw [hx70]; exact oencL_set hx61 (f := 7) (by simp) (by first | rfl | (simp; done) | (simp; rfl))
        have f68n : l69.length = x57.Body.length := by rw [hx70]; simp
        have f68t : (oencL l66).take (l66.length * 9) = oencL l66 := oencL_takeN _ (by simp)
        have f68u : l66.length = x60.Body.length → (oencL l66).take (x60.Body.length * 9) = oencL l66 := fun h => by rw [← h]; exact oencL_takeN _ (by simp)
        have f68v : l66.length = x60.Body.length → (oencL x57.Body).set (16) (.own (.sl 9 x60.Body.length (otL l66))) = oencL l69 := fun h => by rw [← h]; exact f68
        have f68w : ∀ n : Nat, n = l69.length → (encL l69).take (n * 9) = encL l69 := fun n h => by rw [h]; exact encL_takeN _ (by simp)
        revert hs; refine lK fun l72 hx73 hs => ?_
        have f71 : (oencL l55).set (2) (.own (.sl 9 l69.length (otL l69))) = oencL l72 := by rw [hx73]; exact oencL_set hx58 (f := 2) (by simp) (by first | rfl | (simp; done) | (simp; rfl))
        have f71n : l72.length = l55.length := by rw [hx73]; simp
        have f71t : (oencL l69).take (l69.length * 9) = oencL l69 := oencL_takeN _ (by simp)
        have f71u : l69.length = x57.Body.length → (oencL l69).take (x57.Body.length * 9) = oencL l69 := fun h => by rw [← h]; exact oencL_takeN _ (by simp)
        have f71v : l69.length = x57.Body.length → (oencL l55).set (2) (.own (.sl 9 x57.Body.length (otL l69))) = oencL l72 := fun h => by rw [← h]; exact f71
        have f71w : ∀ n : Nat, n = l72.length → (encL l72).take (n * 3) = encL l72 := fun n h => by rw [h]; exact encL_takeN _ (by simp)
        have F12 := an F10 (an f59a (an f59b (an f59c (an f59d (an f62a (an f62b (an f62c (an f62d (an f65 (an f65n (an f65w (an f68 (an f68n (an f68t (an f68u (an f68v (an f68w (an f71 (an f71n (an f71t (an f71u (an f71v f71w))))))))))))))))))))))
        refine goN F12 ?_
        refine awp_reg ?_
        refine goN F12 ?_
        refine awp_gh (by rfl) ((Gh.close _ (.o 9 4 2) (16)).trans (Gh.close _ (.o 6 1 3) (2))) ?_
        try simp only [St.frz, St.pur]
        refine goR F12 ?_
        revert hs; refine bK fun y74 hx75 hs => ?_
        refine cA F12 (at_ast_Check hx75) ?_
        refine goR F12 ?_
        revert hs; refine bK fun y76 hx77 hs => ?_
        refine cP F12 (at_law16_local hx77) ?_
        refine goR F12 ?_
        revert hs; refine bK fun y78 hx79 hs => ?_
        refine cP F12 (at_law16_local hx79) ?_
        refine goR F12 ?_
        revert hs; refine bK fun y80 hx81 hs => ?_
        refine cP F12 (at_law16_sum hx81) ?_
        refine goR F12 ?_
        revert hs; refine bK fun y82 hx83 hs => ?_
        refine cP F12 (at_law16_local hx83) ?_
        refine goR F12 ?_
        revert hs; refine bK fun y84 hx85 hs => ?_
        refine cP F12 (at_law16_sum hx85) ?_
        refine goR F12 ?_
        revert hs; refine bK fun y86 hx87 hs => ?_
        refine cP F12 (at_law16_local hx87) ?_
        refine goR F12 ?_
        revert hs; refine bK fun y88 hx89 hs => ?_
        refine cP F12 (at_law16_sum hx89) ?_
        have F13 := an F12 (an hx37b (an hx42b (an hx58b (an hx61b hx64b))))
        refine goG F12 F13 ?_
        refine gsel_split (fun h90 => ?_) (fun h90 => ?_)
        · replace hs := condT h90 hs
          have F14 := an F12 h90
          have F15 := an F14 (an hx37b (an hx42b (an hx58b (an hx61b hx64b))))
          refine goG F14 F15 ?_
          revert hs; refine bK fun y91 hx92 hs => ?_
          refine cA F14 (at_unz (args := [.agg [.z, .z, .z, sC l25, sC l27], .agg [sC y31.Vars, sC y31.Mutexes, sC y31.Conds, sC l72, sC y31.Threads]]) (by simp) (at_ast_Equal hx92)) ?_
          refine goG F14 F15 ?_
          obtain ⟨g93, hs⟩ := guardO_some hs
          refine gsel_call (fun hg => at_ast_Locals (under_call g93 hg)) (fun hg => by (try simp at hg); (first | simp [hg, F14]); try rfl) (fun hg => by (try simp at hg); simp [hg, F14]) (by simp) ?_
          refine goG F14 F15 ?_
          refine gsel_split (fun h94 => ?_) (fun h94 => ?_)
          · replace hs := condT h94 hs
            simp only [Bool.not_eq_true', Bool.not_eq_false', Bool.not_not] at h94
            revert hs; refine lK fun l95 hx96 hs => ?_
            have hx96n : l95.length = 3 := by rw [hx96]; rfl
            have F16 := an F14 (an h94 hx96)
            have F17 := an F16 (an hx37b (an hx42b (an hx58b (an hx61b hx64b))))
            refine goG F16 F17 ?_
            revert hs; refine bK fun y97 hx98 hs => ?_
            refine cA F16 (at_r16_Strings hx98) ?_
            refine goG F16 F17 ?_
            obtain ⟨g99, hs⟩ := guardO_some hs
            refine gsel_call (fun hg => at_ast_Count (under_call g99 hg)) (fun hg => by (try simp at hg); (first | simp [hg, F16]); try rfl) (fun hg => by (try simp at hg); simp [hg, F16]) (by simp) ?_
            refine goG F16 F17 ?_
            obtain ⟨g100, hs⟩ := guardO_some hs
            refine gsel_cast (andB y97 (eqI ((ast_Count l23).getD default) 3)) (by first | rfl | simp [F16]) ?_
            refine gsel_call (fun hg => at_law16_local (under_call g100 hg)) (fun hg => by (try simp [F16] at hg); (first | simp [hg, F16]); try rfl) (fun hg => by (try simp [F16] at hg); simp [hg, F16]) (by simp) ?_
            refine goG F16 F17 ?_
            obtain ⟨g101, hs⟩ := guardO_some hs
            refine gsel_cast (andB y97 (eqI ((ast_Count l23).getD default) 3)) (by first | rfl | simp [F16]) ?_
            refine gsel_call (fun hg => at_law16_local (under_call g101 hg)) (fun hg => by (try simp [F16] at hg); (first | simp [hg, F16]); try rfl) (fun hg => by (try simp [F16] at hg); simp [hg, F16]) (by simp) ?_
            refine goG F16 F17 ?_
            obtain ⟨g102, hs⟩ := guardO_some hs
            refine gsel_cast (andB y97 (eqI ((ast_Count l23).getD default) 3)) (by first | rfl | simp [F16]) ?_
            refine gsel_call (fun hg => at_law16_sum (under_call g102 hg)) (fun hg => by (try simp [F16] at hg); (first | simp [hg, F16]); try rfl) (fun hg => by (try simp [F16] at hg); simp [hg, F16]) (by simp) ?_
            refine goG F16 F17 ?_
            refine gsel_cast (andB y97 (eqI ((ast_Count l23).getD default) 3)) (by first | rfl | simp [F16]) ?_
            refine gsel_split (fun h103 => ?_) (fun h103 => ?_)
            · replace hs := condT h103 hs
              have h103s := h103
              try simp [F16] at h103s
              revert hs; refine lK fun l104 hx105 hs => ?_
              have hx105n : l104.length = 1 := by rw [hx105]; rfl
              have F18 := an F16 (an h103s (an h103 hx105))
              have F19 := an F18 (an hx37b (an hx42b (an hx58b (an hx61b hx64b))))
              refine goG F18 F19 ?_
              revert hs; refine bK fun y106 hx107 hs => ?_
              refine cA F18 (at_ast_CheckExpr hx107) ?_
              refine goG F18 F19 ?_
              refine gsel_split (fun h108 => ?_) (fun h108 => ?_)
              · replace hs := condT h108 hs
                revert hs; refine lK fun l109 hx110 hs => ?_
                have hx110n : l109.length = 1 := by rw [hx110]; rfl
                have F20 := an F18 (an h108 hx110)
                have F21 := an F20 (an hx37b (an hx42b (an hx58b (an hx61b hx64b))))
                refine goG F20 F21 ?_
                revert hs; refine bK fun y111 hx112 hs => ?_
                refine cA F20 (at_ast_CheckExpr hx112) ?_
                refine goG F20 F21 ?_
                obtain ⟨g113, hs⟩ := guardO_some hs
                refine gsel_call (fun hg => at_ast_Depth (under_call g113 hg)) (fun hg => by (try simp at hg); (first | simp [hg, F20]); try rfl) (fun hg => by (try simp at hg); simp [hg, F20]) (by simp) ?_
                refine goG F20 F21 ?_
                obtain rfl := sj hs
                exact hQ _ _ (rg F20 (Gh.refl _))
              · replace hs := condF h108 hs
                have F22 := an F18 h108
                have F23 := an F22 (an hx37b (an hx42b (an hx58b (an hx61b hx64b))))
                refine goG F22 F23 ?_
                obtain rfl := sj hs
                exact hQ _ _ (rg F22 (Gh.refl _))
            · replace hs := condF h103 hs
              have h103s := h103
              try simp [F16] at h103s
              have F24 := an F16 (an h103s h103)
              have F25 := an F24 (an hx37b (an hx42b (an hx58b (an hx61b hx64b))))
              refine goG F24 F25 ?_
              obtain rfl := sj hs
              exact hQ _ _ (rg F24 (Gh.refl _))
          · replace hs := condF h94 hs
            simp only [Bool.not_eq_true', Bool.not_eq_false', Bool.not_not] at h94
            have F26 := an F14 h94
            have F27 := an F26 (an hx37b (an hx42b (an hx58b (an hx61b hx64b))))
            refine goG F26 F27 ?_
            obtain rfl := sj hs
            exact hQ _ _ (rg F26 (Gh.refl _))
        · replace hs := condF h90 hs
          have F28 := an F12 h90
          have F29 := an F28 (an hx37b (an hx42b (an hx58b (an hx61b hx64b))))
          refine goG F28 F29 ?_
          obtain rfl := sj hs
          exact hQ _ _ (rg F28 (Gh.refl _))
    · replace hs := condF h39 hs
      revert hs; refine lK fun l115 hx116 hs => ?_
      have f114 : (oencL y31.Procs).set (2) (.own (.sl 9 x36.Body.length (otL x36.Body))) = oencL l115 := by rw [hx116]; exact oencL_set hx37 (f := 2) (by simp) (by first | rfl | (simp; done) | (simp; rfl))
      have f114n : l115.length = y31.Procs.length := by rw [hx116]; simp
      have f114t : (oencL x36.Body).take (x36.Body.length * 9) = oencL x36.Body := oencL_takeN _ (by simp)
      have f114u : x36.Body.length = x36.Body.length → (oencL x36.Body).take (x36.Body.length * 9) = oencL x36.Body := fun h => by rw [← h]; exact oencL_takeN _ (by simp)
      have f114v : x36.Body.length = x36.Body.length → (oencL y31.Procs).set (2) (.own (.sl 9 x36.Body.length (otL x36.Body))) = oencL l115 := fun h => by rw [← h]; exact f114
      have f114w : ∀ n : Nat, n = l115.length → (encL l115).take (n * 3) = encL l115 := fun n h => by rw [h]; exact encL_takeN _ (by simp)
      have F30 := an F4 (an h39 (an f114 (an f114n (an f114t (an f114u (an f114v f114w))))))
      have F31 := an F30 hx37b
      repeat (first | simp [F30] | with_reducible first | refine And.intro (by omega) ?_ | refine optF_if (by omega) ?_ | refine gsel_pure (by with_unfolding_all rfl) _ (fun hg => by (try simp at hg); first | (simp [hg, F31]; rfl) | (simp [F30]; simp only [if_pos hg]; simp [F30]; rfl)) ?_)
      refine awp_gh (by rfl) (Gh.close _ (.o 6 1 3) (2)) ?_
      try simp only [St.frz, St.pur]
      refine goR F30 ?_
      obtain rfl := sj hs
      exact hQ _ _ (rg F30 (Gh.refl _))
  · replace hs := condF h35 hs
    have F32 := an F3 h35
    refine goG F32 F32 ?_
    refine goR F32 ?_
    obtain rfl := sj hs
    exact hQ _ _ (rg F32 (Gh.refl _))
end Go.Dc
end
section
set_option linter.all false
namespace Go.Dc
open Go Go.Hw Go.Proofs
set_option maxRecDepth 100000

def law16_AstCheck (fuelN : Nat) (a0 : UnitT) : Option Bool :=
  Option.bind (r16_Few fuelN a0) (fun y1 => cond (!y1) (Option.bind (law16_awake fuelN) (fun y4 => some y4)) (Option.bind (ast_Check fuelN a0) (fun y6 => Option.bind (r16_Check fuelN a0) (fun y8 => Option.bind (law16_awake fuelN) (fun y10 => some (andB (andB (andB y10 (eqI y6.1 y8.1)) (eqI y6.2.1 y8.2.1)) (eqI y6.2.2 y8.2.2)))))))

end Go.Dc
end
section
set_option linter.all false
namespace Go.Dc
open Go Go.Hw Go.Proofs
set_option maxRecDepth 100000

def law16_AstExpr (fuelN : Nat) (a0 : Expr) (a1 : List ByteArray) : Option Bool :=
  Option.bind (r16_FewExpr fuelN a0) (fun y1 => cond (orB (!y1) (ltI 100 ((a1.length : Nat) : Int))) (Option.bind (law16_awake fuelN) (fun y4 => some y4)) (Option.bind (law16_awake fuelN) (fun y12 => guardO (orB (!y12) ((ast_CheckExpr fuelN a0 a1).isSome)) (guardO (orB (!y12) ((r16_CheckExpr fuelN a0 a1).isSome)) (guardO (orB (!(andB y12 (eqI ((ast_CheckExpr fuelN a0 a1).getD default) ((r16_CheckExpr fuelN a0 a1).getD default)))) ((ast_Depth fuelN a0).isSome)) (guardO (orB (!(andB y12 (eqI ((ast_CheckExpr fuelN a0 a1).getD default) ((r16_CheckExpr fuelN a0 a1).getD default)))) ((r16_Depth fuelN a0).isSome)) (some (andB (andB y12 (eqI ((ast_CheckExpr fuelN a0 a1).getD default) ((r16_CheckExpr fuelN a0 a1).getD default))) (eqI ((ast_Depth fuelN a0).getD default) ((r16_Depth fuelN a0).getD default))))))))))

end Go.Dc
end
section
set_option linter.all false
namespace Go.Dc
open Go Go.Hw Go.Proofs
set_option maxRecDepth 100000

def law16_AstShape (fuelN : Nat) (a0 : Proc) : Option Bool :=
  Option.bind (some ([a0])) (fun l1 => Option.bind (r16_Few fuelN ({ Vars := [], Mutexes := [], Conds := [], Procs := l1, Threads := [] } : UnitT)) (fun y3 => cond (!y3) (Option.bind (law16_awake fuelN) (fun y6 => some y6)) (Option.bind (law16_awake fuelN) (fun y15 => guardO (orB (!y15) ((ast_Locals a0).isSome)) (guardO (orB (!y15) ((r16_Locals fuelN a0).isSome)) (guardO (orB (!y15) ((r16_Strings ((ast_Locals a0).getD default) ((r16_Locals fuelN a0).getD default)).isSome)) (guardO (orB (!(andB y15 ((r16_Strings ((ast_Locals a0).getD default) ((r16_Locals fuelN a0).getD default)).getD default))) ((ast_Count a0.Body).isSome)) (guardO (orB (!(andB y15 ((r16_Strings ((ast_Locals a0).getD default) ((r16_Locals fuelN a0).getD default)).getD default))) ((r16_Count fuelN a0.Body).isSome)) (some (andB (andB y15 ((r16_Strings ((ast_Locals a0).getD default) ((r16_Locals fuelN a0).getD default)).getD default)) (eqI ((ast_Count a0.Body).getD default) ((r16_Count fuelN a0.Body).getD default))))))))))))

end Go.Dc
end
section
set_option linter.all false
namespace Go.Dc.Pl
open Go Go.Hw Go.Dc
set_option maxRecDepth 100000 in
theorem awake_true : law16_awake 2097160 = some true := by kernel_rfl
end Go.Dc.Pl
end
section
set_option linter.all false
namespace Go.Hw
variable [Globals]
section
variable {H : Type} {enc : TypeId × Value → H} {P : Program} {w : World} {sp : Nat → Bool} {held : Bool}
end
end Go.Hw
end
section
set_option linter.all false
namespace Go.Hw
variable [Globals]
def okT (P : Program) (S : List TypeId) (t : TypeId) : Bool := match P.underlying t with
  | some .bool => P.cellsOf t == 1
  | some (.int _) => P.cellsOf t == 1
  | some .string => P.cellsOf t == 1
  | some (.slice e) => S.contains e && P.cellsOf t == 1
  | some (.struct fs) => fs.toList.all (fun f => S.contains f.type) && contig P 0 fs.toList == some (P.cellsOf t)
  | some (.array k e) => S.contains e && P.cellsOf t == k * P.cellsOf e
  | _ => false
def okS (P : Program) (S : List TypeId) : Bool := S.all (okT P S)
section
variable {H : Type} {enc : TypeId × Value → H} {P : Program} {w : World} {sp : Nat → Bool} {held : Bool} {bad : Nat → Prop} {S : List TypeId}
theorem trodW_fields {n : Nat} (ih : ∀ (t : TypeId) (cs : List Value) (x : DataW H × List MemPlace), t ∈ S → DataW.trod enc P w 0 sp held n t cs = some x → ∃ cvs, cvD P n t x.1 = some cvs ∧ CReps w bad cs cvs) {cs : List Value} :
    ∀ (fl : List Field) (xs : List (DataW H × List MemPlace)) (off tot : Nat), (∀ f ∈ fl, f.type ∈ S) → contig P off fl = some tot → xs.length = fl.length →
      (∀ (i : Nat) (f : Field), fl[i]? = some f → DataW.trod enc P w 0 sp held n f.type ((cs.drop f.offset).take (P.cellsOf f.type)) = xs[i]?) →
      ∃ cvs, concatM (List.zipWith (fun f d => cvD P n f.type d) fl (xs.map (·.1))) = some cvs ∧ CReps w bad ((cs.drop off).take (tot - off)) cvs
  | [], xs, off, tot, _, hc, hl, _ => by
    simp [contig] at hc
    subst hc
    exact ⟨[], by simp [concatM], by simpa using CReps.nil⟩
  | f :: r, [], off, tot, _, _, hl, _ => by simp at hl
  | f :: r, x :: xs, off, tot, hp, hc, hl, ht => by
    rw [contig] at hc
    split at hc
    · rename_i ho
      have h0 := ht 0 f rfl
      simp at h0
      rw [ho] at h0
      obtain ⟨c1, e1, r1⟩ := ih f.type _ x (hp f (by simp)) h0
      obtain ⟨c2, e2, r2⟩ := trodW_fields ih r xs (off + P.cellsOf f.type) tot (fun g hg => hp g (by simp [hg])) hc (by simpa using hl) (fun i g hg => by simpa using ht (i + 1) g (by simpa using hg))
      refine ⟨c1 ++ c2, ?_, ?_⟩
      · simp only [List.map_cons, List.zipWith_cons_cons, e1, concatM, e2, Option.map_some]
      · rw [drop_split cs (contig_le hc)]
        exact r1.append r2
    · cases hc
theorem trodW_elems {n : Nat} {e : TypeId} (ih : ∀ (cs : List Value) (x : DataW H × List MemPlace), DataW.trod enc P w 0 sp held n e cs = some x → ∃ cvs, cvD P n e x.1 = some cvs ∧ CReps w bad cs cvs) {cs : List Value} :
    ∀ (xs : List (DataW H × List MemPlace)) (i0 : Nat), (∀ i, i < xs.length → DataW.trod enc P w 0 sp held n e ((cs.drop ((i0 + i) * P.cellsOf e)).take (P.cellsOf e)) = xs[i]?) →
      ∃ cvs, concatM ((xs.map (·.1)).map (cvD P n e)) = some cvs ∧ CReps w bad ((cs.drop (i0 * P.cellsOf e)).take (xs.length * P.cellsOf e)) cvs
  | [], i0, _ => ⟨[], by simp [concatM], by simpa using CReps.nil⟩
  | x :: xs, i0, ht => by
    have h0 := ht 0 (by simp)
    simp at h0
    obtain ⟨c1, e1, r1⟩ := ih _ x h0
    obtain ⟨c2, e2, r2⟩ := trodW_elems ih xs (i0 + 1) (fun i hi => by
      have := ht (i + 1) (by simpa using hi)
      rw [show i0 + (i + 1) = i0 + 1 + i by omega] at this
      simpa using this)
    refine ⟨c1 ++ c2, by simp only [List.map_cons, e1, concatM, e2, Option.map_some], ?_⟩
    have h1 : (i0 + 1) * P.cellsOf e = i0 * P.cellsOf e + P.cellsOf e := by rw [Nat.succ_mul]
    rw [h1] at r2
    have h2 : (x :: xs).length * P.cellsOf e = P.cellsOf e + xs.length * P.cellsOf e := by rw [List.length_cons, Nat.succ_mul]; omega
    rw [h2, List.take_add, List.drop_drop]
    exact r1.append r2
theorem trodW_slots {n : Nat} {e : TypeId} {a : Addr} (ih : ∀ (cs : List Value) (x : DataW H × List MemPlace), DataW.trod enc P w 0 sp held n e cs = some x → ∃ cvs, cvD P n e x.1 = some cvs ∧ CReps w bad cs cvs) :
    ∀ (xs : List (DataW H × List MemPlace)) (i0 : Nat), (∀ i, i < xs.length → (w.cells? 0 (a.add ((i0 + i) * P.cellsOf e)) (P.cellsOf e)).bind (DataW.trod enc P w 0 sp held n e) = xs[i]?) →
      ∃ cvs raws, concatM ((xs.map (·.1)).map (cvD P n e)) = some cvs ∧ CReps w bad raws cvs ∧ raws.length = xs.length * P.cellsOf e ∧ ∀ j u, raws[j]? = some u → w.cell? (a.add (i0 * P.cellsOf e + j)) = some u
  | [], i0, _ => ⟨[], [], by simp [concatM], CReps.nil, by simp, by simp⟩
  | x :: xs, i0, ht => by
    have h0 := ht 0 (by simp)
    simp only [Nat.add_zero, List.getElem?_cons_zero, Option.bind_eq_some_iff] at h0
    obtain ⟨us, hu, h0⟩ := h0
    obtain ⟨c1, e1, r1⟩ := ih _ x h0
    obtain ⟨c2, raws, e2, r2, hl, hm⟩ := trodW_slots ih xs (i0 + 1) (fun i hi => by
      have := ht (i + 1) (by simpa using hi)
      rw [show i0 + (i + 1) = i0 + 1 + i by omega] at this
      simpa using this)
    obtain ⟨_, hul, huc⟩ := World.cells?_some hu
    refine ⟨c1 ++ c2, us ++ raws, by simp only [List.map_cons, e1, concatM, e2, Option.map_some], r1.append r2, ?_, fun j u hj => ?_⟩
    · rw [List.length_append, hul, hl, List.length_cons, Nat.succ_mul]; omega
    · rcases Nat.lt_or_ge j us.length with hj' | hj'
      · rw [List.getElem?_append_left hj'] at hj
        have := huc j (by omega)
        rw [addr_add] at this
        rw [this, hj]
      · rw [List.getElem?_append_right hj'] at hj
        have := hm _ u hj
        have h1 : (i0 + 1) * P.cellsOf e = i0 * P.cellsOf e + P.cellsOf e := by rw [Nat.succ_mul]
        rw [h1, Nat.add_assoc, show P.cellsOf e + (j - us.length) = j by omega] at this
        exact this
/-- What reads as_ a datum is its cells: types that may lead to themselves. -/
theorem trodW_cvs (hbad : ∀ b, ¬ bad b) (hS : okS P S = true) : ∀ (m : Nat) (t : TypeId) (cs : List Value) (x : DataW H × List MemPlace), t ∈ S → DataW.trod enc P w 0 sp held m t cs = some x → ∃ cvs, cvD P m t x.1 = some cvs ∧ CReps w bad cs cvs
  | 0, t, cs, x, _, h => by simp [DataW.trod] at h
  | m + 1, t, cs, x, hp, h => by
    have ih := trodW_cvs hbad hS m
    have hp := List.all_eq_true.1 hS t hp
    rw [okT] at hp
    split at hp
    · rename_i hu
      obtain ⟨b, rfl, rfl⟩ := DataW.trod_bool hu h
      exact ⟨[.c (.bool b)], by simp [cvD, hu], .single (.c _) rfl⟩
    · rename_i k hu
      obtain ⟨n, rfl, rfl, hw⟩ := DataW.trod_int hu h
      exact ⟨[.c (.int k n)], by simp only [cvD, hu]; rw [if_pos (by simpa [Lit.wf] using hw)], .single (.c _) rfl⟩
    · rename_i hu
      obtain ⟨s, rfl, rfl, _⟩ := DataW.trod_string hu h
      exact ⟨[.c (.string s)], by simp [cvD, hu], .single (.c _) rfl⟩
    · rename_i e hu
      simp only [Bool.and_eq_true, List.contains_iff_mem] at hp
      rcases DataW.trod_slice hu h with ⟨rfl, rfl⟩ | ⟨a, len, cap, elems, rest, n, hn, rfl, rfl, _, hlc, hcm, hel, hE, _, _⟩
      · exact ⟨[.sl 0 []], by simp [cvD, hu], .single (.sl none 0 0 [] [] (Nat.le_refl _) (Nat.zero_le _) rfl (by simp) (by simp) (by simp)) rfl⟩
      · obtain rfl : n = m := by omega
        obtain ⟨cvs, raws, e1, r1, hl, hm⟩ := trodW_slots (fun cs x h => ih e cs x hp.1 h) elems 0 (fun i hi => by simpa using hE i (by omega))
        refine ⟨[.sl elems.length cvs], by simp only [cvD, hu, e1, Option.map_some, List.length_map], .single ?_ rfl⟩
        rw [← hel]
        exact .sl (some a) _ cap raws cvs (by omega) hcm r1.len r1.one (fun j u hj => ⟨a, rfl, hbad _, by simpa using hm j u hj⟩) r1.rep
    · rename_i fs hu
      simp only [Bool.and_eq_true, beq_iff_eq, List.all_eq_true, List.contains_iff_mem] at hp
      obtain ⟨xs, n, hn, rfl, hcl, hxl, hF⟩ := DataW.trod_struct hu h
      obtain rfl : n = m := by omega
      obtain ⟨cvs, e1, r1⟩ := trodW_fields ih (cs := cs) fs.toList xs 0 (P.cellsOf t) hp.1 hp.2 (by simpa using hxl) (fun i f hf => hF i f (by simpa using hf))
      refine ⟨cvs, by simp only [cvD, hu, e1, List.length_map, hxl, if_true], ?_⟩
      have : (cs.drop 0).take (P.cellsOf t - 0) = cs := by rw [← hcl]; simp
      rwa [this] at r1
    · rename_i k e hu
      simp only [Bool.and_eq_true, beq_iff_eq, List.contains_iff_mem] at hp
      obtain ⟨xs, n, hn, rfl, hcl, hxl, hE⟩ := DataW.trod_array hu h
      obtain rfl : n = m := by omega
      obtain ⟨cvs, e1, r1⟩ := trodW_elems (fun cs x h => ih e cs x hp.1 h) (cs := cs) xs 0 (fun i hi => by simpa using hE i (by omega))
      refine ⟨cvs, by simp only [cvD, hu, e1, List.length_map, hxl, if_true], ?_⟩
      have : (cs.drop (0 * P.cellsOf e)).take (xs.length * P.cellsOf e) = cs := by
        rw [hxl, ← hp.2, ← hcl]; simp
      rwa [this] at r1
    · cases hp
open Go.WideShapes in
theorem repW_struct {t : TypeId} {fs : Array Field} {v : Value} {d : DataW H} {p : List MemPlace} {r : Go.Reach} {b0 : Nat} (hS : okS P S = true) (ht : t ∈ S) (hu : P.underlying t = some (.struct fs)) (hv : Value.okWide P w r b0 t v)
    (h : DataW.Trod enc P w 0 sp held t v d p) : ∃ m cvs, cvD P m t d = some cvs ∧ AVRep w m0 (fun _ => False) v (.agg (cvs.map .p)) := by
  obtain ⟨cs, rfl, hsz⟩ := okWide_struct hu hv
  obtain ⟨fuel, hf⟩ := h
  obtain ⟨cvs, e, hr⟩ := trodW_cvs (bad := Bad m0 (fun _ => False)) (fun b hb => (bad_m0).1 hb) hS fuel t _ _ ht hf
  have hr : CReps w (Bad m0 (fun _ => False)) cs.toList cvs := hr
  refine ⟨fuel, cvs, e, .agg cs _ (by have := hr.len; simpa using this) hr.one fun j u x hj hx => ?_⟩
  rw [List.getElem?_map, Option.map_eq_some_iff] at hx
  obtain ⟨c, hc, rfl⟩ := hx
  exact hr.rep j u c (by simpa using hj) hc
end
/-! What a datum's cells are, part by part. -/
theorem cvD_sliceW {H : Type} {P : Program} {n t e : Nat} {d : DataW H} {c : List CV} {α : Type} [Enc α] (hu : P.underlying t = some (.slice e)) (hg : ∀ m, m < n → ∀ (d : DataW H) c, cvD P m e d = some c → ∃ x : α, c = Enc.enc x) (h : cvD P n t d = some c) : ∃ L : List α, c = Enc.enc L := by
  cases n with
  | zero => simp [cvD] at h
  | succ n =>
    simp only [cvD, hu] at h
    split at h
    · cases h; exact ⟨[], rfl⟩
    · rename_i l sp
      rw [Option.map_eq_some_iff] at h
      obtain ⟨c', h, rfl⟩ := h
      obtain ⟨L, hL, rfl⟩ := concatM_map (fun d _ c hc => hg n (Nat.lt_succ_self _) d c hc) h
      exact ⟨L, by rw [← hL]; rfl⟩
    · cases h
theorem cvD_structW {H : Type} {P : Program} {n t : Nat} {d : DataW H} {c : List CV} {fs : Array Field} (hu : P.underlying t = some (.struct fs)) (h : cvD P n t d = some c) : ∃ m l, m < n ∧ d = .agg l ∧ l.length = fs.size ∧ concatM (List.zipWith (fun f d => cvD P m f.type d) fs.toList l) = some c := by
  cases n with
  | zero => simp [cvD] at h
  | succ n =>
    simp only [cvD, hu] at h
    split at h
    · rename_i l
      split at h
      · rename_i hl; exact ⟨n, l, Nat.lt_succ_self _, rfl, hl, h⟩
      · cases h
    · cases h
/-! Integers are within their kinds; how much a datum holds. -/
mutual
def okC : CV → Prop
  | .c (.int k n) => k.min ≤ n ∧ n ≤ k.max
  | .sl _ cs => okL cs
  | _ => True
def okL : List CV → Prop
  | [] => True
  | x :: r => okC x ∧ okL r
end
mutual
def bkC : CV → Nat
  | .c (.string s) => s.size + 1
  | .sl _ cs => bkL cs + 1
  | _ => 1
def bkL : List CV → Nat
  | [] => 0
  | x :: r => bkC x + bkL r
end
@[simp] theorem okL_nil : okL [] := by rw [okL]; trivial
@[simp] theorem okL_cons (x : CV) (r : List CV) : okL (x :: r) ↔ okC x ∧ okL r := by rw [okL]
@[simp] theorem bkL_nil : bkL [] = 0 := by rw [bkL]
@[simp] theorem bkL_cons (x : CV) (r : List CV) : bkL (x :: r) = bkC x + bkL r := by rw [bkL]
@[simp] theorem okL_append (a b : List CV) : okL (a ++ b) ↔ okL a ∧ okL b := by
  induction a with
  | nil => simp
  | cons x a ih => simp [ih, and_assoc]
@[simp] theorem bkL_append (a b : List CV) : bkL (a ++ b) = bkL a + bkL b := by
  induction a with
  | nil => simp
  | cons x a ih => simp [ih]; omega
@[simp] theorem bkC_sl (n : Nat) (cs : List CV) : bkC (.sl n cs) = bkL cs + 1 := by rw [bkC]
@[simp] theorem bkC_str (s : ByteArray) : bkC (.c (.string s)) = s.size + 1 := by rw [bkC]
@[simp] theorem bkC_int (k : IntKind) (n : Int) : bkC (.c (.int k n)) = 1 := by rw [bkC] <;> simp
@[simp] theorem bkC_bool (b : Bool) : bkC (.c (.bool b)) = 1 := by rw [bkC] <;> simp
@[simp] theorem okC_sl (n : Nat) (cs : List CV) : okC (.sl n cs) ↔ okL cs := by rw [okC]
@[simp] theorem okC_int (k : IntKind) (n : Int) : okC (.c (.int k n)) ↔ (k.min ≤ n ∧ n ≤ k.max) := by rw [okC]
theorem bkC_pos (c : CV) : 1 ≤ bkC c := by
  cases c with
  | c v => cases v <;> simp [bkC]
  | sl n cs => simp
  | _ => simp [bkC]
theorem bkL_encL {α : Type} [Enc α] : ∀ {l : List α} {x : α}, x ∈ l → bkL (Enc.enc x) ≤ bkL (encL l)
  | y :: r, x, hx => by
    rw [encL_cons, bkL_append]
    rcases List.mem_cons.1 hx with rfl | hx
    · omega
    · have := bkL_encL hx; omega
theorem bkL_len (l : List CV) : l.length ≤ bkL l := by
  induction l with
  | nil => simp
  | cons x l ih => have := bkC_pos x; simp; omega
theorem bkL_lenL {α : Type} [Enc α] (h : 1 ≤ Enc.sz α) (l : List α) : l.length ≤ bkL (encL l) := by
  have h1 := bkL_len (encL l)
  rw [encL_length] at h1
  exact Nat.le_trans (Nat.le_mul_of_pos_right _ h) h1
theorem concatM_ok : ∀ {l : List (Option (List CV))} {c : List CV}, (∀ o ∈ l, ∀ a, o = some a → okL a) → concatM l = some c → okL c
  | [], c, _, h => by simp [concatM] at h; subst h; simp
  | o :: r, c, hf, h => by
    obtain ⟨a, b, rfl, hb, rfl⟩ := concatM_cons h
    rw [okL_append]
    exact ⟨hf _ (by simp) a rfl, concatM_ok (fun o ho => hf o (by simp [ho])) hb⟩
theorem cvD_okL {H : Type} {P : Program} : ∀ (n : Nat) (t : TypeId) (d : DataW H) (c : List CV), cvD P n t d = some c → okL c
  | 0, t, d, c, h => by simp [cvD] at h
  | n + 1, t, d, c, h => by
    unfold cvD at h
    split at h
    · split at h
      · cases h; simp [okC]
      · cases h
    · split at h
      · split at h
        · rename_i hr; cases h; simpa using hr
        · cases h
      · cases h
    · split at h
      · cases h; simp [okC]
      · cases h
    · split at h
      · cases h; simp
      · rw [Option.map_eq_some_iff] at h
        obtain ⟨c', h, rfl⟩ := h
        simp only [okL_cons, okC_sl, okL_nil, and_true]
        refine concatM_ok (fun o ho a ha => ?_) h
        obtain ⟨d', _, rfl⟩ := List.mem_map.1 ho
        exact cvD_okL n _ d' a ha
      · cases h
    · split at h
      · split at h
        · refine concatM_ok (fun o ho a ha => ?_) h
          rw [List.mem_iff_getElem?] at ho
          obtain ⟨j, hj⟩ := ho
          rw [List.getElem?_zipWith] at hj
          split at hj
          · cases hj; exact cvD_okL n _ _ a ha
          · cases hj
        · cases h
      · cases h
    · split at h
      · split at h
        · refine concatM_ok (fun o ho a ha => ?_) h
          obtain ⟨d', _, rfl⟩ := List.mem_map.1 ho
          exact cvD_okL n _ d' a ha
        · cases h
      · cases h
    · cases h
section
variable {H : Type} (B : DataW H → Nat) (Bs : List (DataW H) → Nat) (hnil : Bs [] = 0) (hcons : ∀ d r, Bs (d :: r) = B d + Bs r)
include hnil hcons
theorem concatM_bk {f : DataW H → Option (List CV)} : ∀ {l : List (DataW H)} {c : List CV}, (∀ d ∈ l, ∀ a, f d = some a → bkL a ≤ B d) → concatM (l.map f) = some c → bkL c ≤ Bs l
  | [], c, _, h => by simp [concatM] at h; subst h; simp
  | d :: r, c, hf, h => by
    rw [List.map_cons] at h
    obtain ⟨a, b, ha, hb, rfl⟩ := concatM_cons h
    have h1 := hf d (by simp) a ha
    have h2 := concatM_bk (fun d hd => hf d (by simp [hd])) hb
    rw [bkL_append, hcons]; omega
theorem concatM_bkz {F : Field → DataW H → Option (List CV)} : ∀ {fl : List Field} {l : List (DataW H)} {c : List CV}, (∀ f ∈ fl, ∀ d ∈ l, ∀ a, F f d = some a → bkL a ≤ B d) → concatM (List.zipWith F fl l) = some c → bkL c ≤ Bs l
  | [], l, c, _, h => by simp [concatM] at h; subst h; simp
  | f :: fl, [], c, _, h => by simp [concatM] at h; subst h; simp
  | f :: fl, d :: r, c, hf, h => by
    rw [List.zipWith_cons_cons] at h
    obtain ⟨a, b, ha, hb, rfl⟩ := concatM_cons h
    have h1 := hf f (by simp) d (by simp) a ha
    have h2 := concatM_bkz (fun g hg d hd => hf g (by simp [hg]) d (by simp [hd])) hb
    rw [bkL_append, hcons]; omega
/-- The cells of a datum hold no more than the datum, by whatever measure counts its parts. -/
theorem cvD_bk {P : Program} (hlit : ∀ l, 1 ≤ B (.lit l)) (hstr : ∀ l, l.length + 1 ≤ B (.lit (.string l))) (hn : 1 ≤ B .nil) (hsl : ∀ l s, Bs l + 1 ≤ B (.slice l s)) (hag : ∀ l, Bs l ≤ B (.agg l)) : ∀ (n : Nat) (t : TypeId) (d : DataW H) (c : List CV), cvD P n t d = some c → bkL c ≤ B d
  | 0, t, d, c, h => by simp [cvD] at h
  | n + 1, t, d, c, h => by
    have ih := cvD_bk (P := P) hlit hstr hn hsl hag n
    unfold cvD at h
    split at h
    · split at h
      · cases h; simpa using hlit _
      · cases h
    · split at h
      · split at h
        · cases h; simpa using hlit _
        · cases h
      · cases h
    · split at h
      · rename_i l; cases h; have := hstr l; simpa [ByteArray.size] using this
      · cases h
    · split at h
      · cases h; simpa using hn
      · rename_i l s
        rw [Option.map_eq_some_iff] at h
        obtain ⟨c', h, rfl⟩ := h
        have h1 := concatM_bk B Bs hnil hcons (fun d' _ a ha => ih _ d' a ha) h
        have h2 := hsl l s
        simp; omega
      · cases h
    · split at h
      · rename_i l
        split at h
        · have h1 := concatM_bkz B Bs hnil hcons (F := fun f d => cvD P n f.type d) (fun f _ d' _ a ha => ih _ d' a ha) h
          have h2 := hag l
          omega
        · cases h
      · cases h
    · split at h
      · rename_i l
        split at h
        · have h1 := concatM_bk B Bs hnil hcons (fun d' _ a ha => ih _ d' a ha) h
          have h2 := hag l
          omega
        · cases h
      · cases h
    · cases h
end
end Go.Hw
end
section
set_option linter.all false
namespace Go.Dc.Pl
open Go Go.Hw Go.Dc
mutual
theorem nE_bk : ∀ e : Expr, nE e ≤ bkL (Enc.enc e)
  | ⟨a, b, c, d, l⟩ => by rw [nE, enc_Expr]; have := nL_bk l; simp; omega
theorem nL_bk : ∀ l : List Expr, nL l ≤ bkL (encL l)
  | [] => by simp
  | x :: r => by rw [encL_cons, bkL_append, nL_cons]; have := nE_bk x; have := nL_bk r; omega
end
mutual
theorem nS_bk : ∀ s : Stmt, nS s ≤ bkL (Enc.enc s)
  | ⟨a, b, c, d, e, f, g, h, i⟩ => by rw [nS, enc_Stmt]; have := nL_bk g; have := nSL_bk h; have := nSL_bk i; simp; omega
theorem nSL_bk : ∀ l : List Stmt, nSL l ≤ bkL (encL l)
  | [] => by simp
  | x :: r => by rw [encL_cons, bkL_append, nSL_cons]; have := nS_bk x; have := nSL_bk r; omega
end
theorem proc_bk (p : Proc) : nSL p.Body ≤ bkL (Enc.enc p) := by
  rw [enc_Proc]; have := nSL_bk p.Body; simp; omega
theorem sm_of {u : UnitT} {n : Nat} (h : bkL (Enc.enc u) ≤ n) (hn : n ≤ 1048576) : Sm u := by
  rw [enc_UnitT] at h
  have h1 := bkL_lenL (α := Var) (by simp) u.Vars
  have h2 := bkL_lenL (α := ByteArray) (by simp) u.Mutexes
  have h3 := bkL_lenL (α := ByteArray) (by simp) u.Conds
  have h4 := bkL_lenL (α := Proc) (by simp) u.Procs
  have h5 := bkL_lenL (α := Launch) (by simp) u.Threads
  simp at h
  exact ⟨by omega, by omega, by omega, by omega, by omega, fun p hp => by have := bkL_encL hp; have := proc_bk p; omega⟩
end Go.Dc.Pl
end
section
set_option linter.all false
namespace Go.Hw
variable [Globals] {α : Type} [Enc α] [OEnc α]
/-- A row whose element n has the cells cs. -/
def frow (n : Nat) (cs : List AC) (l : List α) : List AC := oencL (l.take n) ++ (cs ++ oencL (l.drop (n + 1)))
theorem frow_of {l : List α} {n : Nat} {x : α} (hx : l[n]? = some x) {cs : List AC} (h : OEnc.oenc x = cs) : oencL l = frow n cs l := by
  subst h; exact oencL_split hx
theorem frow_pre {l : List α} {n : Nat} {x : α} (hx : l[n]? = some x) : (oencL (l.take n)).length = n * Enc.sz α := oencL_pre hx
theorem frow_get {l : List α} {n : Nat} {x : α} (hx : l[n]? = some x) {cs : List AC} {z f i : Nat} (hz : Enc.sz α = z) (hc : cs.length = z) (hf : f < z) (hi : i = n * z + f) : (frow n cs l)[i]? = cs[f]? := by
  subst hz; subst hi
  unfold frow
  rw [List.getElem?_append_right (by rw [frow_pre hx]; omega), frow_pre hx, Nat.add_sub_cancel_left, List.getElem?_append_left (by omega)]
theorem frow_set {l : List α} {n : Nat} {x : α} (hx : l[n]? = some x) {cs : List AC} {z f i : Nat} (hz : Enc.sz α = z) (hc : cs.length = z) (hf : f < z) (hi : i = n * z + f) (v : AC) : (frow n cs l).set i v = frow n (cs.set f v) l := by
  subst hz; subst hi
  unfold frow
  rw [List.set_append_right _ _ (by rw [frow_pre hx]; omega), frow_pre hx, Nat.add_sub_cancel_left, List.set_append_left _ _ (by omega)]
theorem frow_seg {l : List α} {n : Nat} {x : α} (hx : l[n]? = some x) {cs : List AC} {z f m i : Nat} (hz : Enc.sz α = z) (hc : cs.length = z) (hf : f + m ≤ z) (hi : i = n * z + f) : ((frow n cs l).drop i).take m = (cs.drop f).take m := by
  subst hz; subst hi
  unfold frow
  rw [← frow_pre hx, ← List.drop_drop, List.drop_left, List.drop_append_of_le_length (by omega), List.take_append_of_le_length (by simp; omega)]
theorem frow_len {l : List α} {n : Nat} {x : α} (hx : l[n]? = some x) {cs : List AC} {z : Nat} (hz : Enc.sz α = z) (hc : cs.length = z) : (frow n cs l).length = l.length * z := by
  obtain ⟨h, _⟩ := List.getElem?_eq_some_iff.1 hx
  subst hz
  unfold frow
  rw [List.length_append, List.length_append, frow_pre hx, oencL_length, List.length_drop, hc, ← Nat.add_assoc, ← Nat.succ_mul, ← Nat.add_mul]
  congr 1; omega
theorem frow_end {l : List α} {n : Nat} {x y : α} (hx : l[n]? = some x) {cs : List AC} (h : OEnc.oenc y = cs) : frow n cs l = oencL (l.set n y) := by
  subst h
  obtain ⟨h, _⟩ := List.getElem?_eq_some_iff.1 hx
  have e : (l.set n y)[n]? = some y := by rw [List.getElem?_set]; simp [h]
  rw [oencL_split e]
  simp [frow, List.take_set_of_le, List.drop_set_of_lt]
section
variable (n : Nat) (cs : List AC) (l : List α)
theorem frow_map {f : AC → AC} (h1 : ∀ v, f (.p v) = .p v) (h2 : ∀ t, f (.own t) = .own t) : (frow n cs l).map f = frow n (cs.map f) l := by
  unfold frow; rw [List.map_append, List.map_append, oencL_map _ _ h1 h2, oencL_map _ _ h1 h2]
@[simp] theorem frow_ren (x y : Id) : (frow n cs l).map (AC.ren x y) = frow n (cs.map (AC.ren x y)) l := frow_map n cs l (fun v => by simp) fun t => by simp
@[simp] theorem frow_kil (y : Id) : (frow n cs l).map (AC.kil y) = frow n (cs.map (AC.kil y)) l := frow_map n cs l (fun v => by simp) fun t => by simp
@[simp] theorem frow_frz (b : Id) (xs : List CV) : (frow n cs l).map (AC.frz b xs) = frow n (cs.map (AC.frz b xs)) l := frow_map n cs l (fun v => by simp) fun t => by simp
@[simp] theorem frow_unz : (frow n cs l).map AC.unz = frow n (cs.map AC.unz) l := frow_map n cs l (fun v => by simp) fun t => by simp
@[simp] theorem frow_toF (fp : List Id) : (frow n cs l).map (AC.toF fp) = frow n (cs.map (AC.toF fp)) l := frow_map n cs l (fun v => by simp) fun t => by simp
@[simp] theorem frow_back (fp bors : List Id) (post : List (Id × Blk)) (g i : Nat) : (frow n cs l).map (AC.back fp bors post g i) = frow n (cs.map (AC.back fp bors post g i)) l := frow_map n cs l (fun v => by simp) fun t => by simp
end
theorem frow_at {l : List α} {n : Nat} {x : α} (hx : l[n]? = some x) {cs : List AC} {z f i : Nat} (hz : Enc.sz α = z) (hc : cs.length = z) (hf : f < z) (hi : i = n * z + f) (hb : i < (frow n cs l).length) : (frow n cs l)[i]'hb = cs[f]'(by omega) := by
  have h := frow_get hx hz hc hf hi
  rw [List.getElem?_eq_getElem hb, List.getElem?_eq_getElem (by omega)] at h
  exact Option.some.inj h
theorem strB2_u {a b : ByteArray} (h : strB2 a b = true) : ¬ (9223372036854775807 < (a.size : Int) + (b.size : Int)) := by
  simp [strB2] at h; omega
end Go.Hw
end
section
set_option linter.all false
namespace Go.Dc
open Go Go.Hw Go.Proofs
set_option maxRecDepth 100000
def r16_copyExprs_L1 (rF129z : (List Expr) → Option (List Expr)) : List Expr → (List Expr) → Nat → Option (List Expr)
  | [], l71, k72 => some (l71)
  | x96 :: q92, l71, k72 => Option.bind (rF129z x96.Args) (fun y99 => Option.bind (some ([{ x96 with Args := y99 }])) (fun l101 => guardO (limB 64 (l71.length + l101.length)) (Option.bind (some (l71 ++ l101)) (fun l104 => r16_copyExprs_L1 rF129z q92 l104 (k72 + 1)))))

def r16_copyExprs_B (rF129z : (List Expr) → Option (List Expr)) (a0 : List Expr) : Option (List Expr) :=
  Option.bind (some (([] : List Expr))) (fun l1 => Option.bind (α := (List Expr)) (Option.bind (r16_copyExprs_L1 rF129z a0 l1 0) (fun l85 => some (l85))) (fun l52 => some l52))

def r16_copyExprs : Nat → (List Expr) → Option (List Expr)
  | 0 => fun _ => none
  | fuelN + 1 => fun a0 => r16_copyExprs_B (r16_copyExprs fuelN) a0

set_option maxHeartbeats 2000000 in
theorem at_r16_copyExprs_B {rF129z : (List Expr) → Option (List Expr)} (ihrF129z : ∀ (a0 : List Expr) (r : (List Expr)), rF129z a0 = some r → At Tryd.prog 129 [.cell (sC a0)] (.cell (sC r))) {a0 : List Expr} {r : (List Expr)} (hs : r16_copyExprs_B rF129z a0 = some r) : At Tryd.prog 129 [.cell (sC a0)] (.cell (sC r)) := by
  refine at_bound (by kernel_rfl) fun hb => ?_
  have hb1 : LenOk (.sl a0.length (encL a0)) := lkc hb
  refine at_code mixed Tryd.func129 (by kernel_rfl) rfl (by kernel_rfl) rfl fun Q hQ => ?_
  rw [r16_copyExprs_B] at hs
  revert hs; refine lK fun l1 hx2 hs => ?_
  have hx2n : l1.length = 0 := by rw [hx2]; rfl
  refine goR2 hx2 ?_
  revert hs; refine bK fun o54 e53 hs => ?_
  refine awp_cutK (fun (v : (List Expr)) (σ : St) => some (v) = some o54 ∧ σ.env 3 = .cell (.sl (.l 2) 0 5 v.length) ∧ σ.hp (.l 2) = some (.pure (encL v)) ∧ 3 ≤ σ.gen) (by rfl) (fun Q hK55 hX56 => ?_) (fun l52 σ3 hp => ?_)
  · refine goR hx2 ?_
    revert e53; refine bK fun o87 e86 e53 => ?_
    refine awp_loopW (fun (v : (List Expr) × (List Expr) × Nat) (σ : St) => r16_copyExprs_L1 rF129z v.1 v.2.1 v.2.2 = some o87 ∧ v.1 = a0.drop v.2.2 ∧ σ.env 0 = .cell (sC a0) ∧ σ.env 3 = .cell (.sl (.l 6) 0 5 v.2.1.length) ∧ σ.env 4 = iV .i64 ((v.2.2 : Nat) : Int) ∧ σ.hp (.l 6) = some (.pure (encL v.2.1)) ∧ 3 ≤ σ.gen) (fun v => v.1.length) _ (Gh.ren _ (.o 2 0 0) (.l 6) (by simp) rfl rfl) (a0, l1, 0) ⟨e86, by simp, pv hx2, pv hx2, pv hx2, pv hx2, pg⟩ fun v σ6 hp L88 hL89 => ?_
    obtain ⟨q91, l71, k72⟩ := v
    dsimp only at hp hL89
    obtain ⟨e86, hd90, h5_0, h5_3, h5_4, g5_0, n5_g⟩ := hp
    rcases q91 with _ | ⟨x96, q92⟩
    · have hlt93 := drop_end hd90
      rw [r16_copyExprs_L1] at e86; try dsimp only at e86
      have F1 := an h5_0 (an h5_3 (an h5_4 g5_0))
      refine goR F1 ?_
      refine condK_f (by simp [ltI]; omega) ?_
      obtain rfl := sj e86
      try dsimp only at e53
      exact hK55 l71 _ _ (Gh.ren _ (.l 6) (.l 2) (by simp) rfl rfl) ⟨e53, pv F1, pv F1, pg⟩
    · obtain ⟨hx95, hlt93, hd97⟩ := drop_next hd90
      have ew94 := wrap_succ hlt93 (hb1).len
      rw [r16_copyExprs_L1] at e86; try dsimp only at e86
      have F2 := an h5_0 (an h5_3 (an h5_4 (an g5_0 (an hlt93 ew94))))
      refine goR F2 ?_
      refine condK_t (by simp [ltI]; omega) ?_
      have f98 : partCV Tryd.prog 50 (encL a0) (k72 * 5) = some (.agg (eA x96)) := partCV_enc hx95 (f := 0) (by simp)
      have F3 := an F2 f98
      refine goR F3 ?_
      revert e86; refine bK fun y99 hx100 e86 => ?_
      refine cP F3 (ihrF129z _ _ hx100) ?_
      revert e86; refine lK fun l101 hx102 e86 => ?_
      have hx102n : l101.length = 1 := by rw [hx102]; rfl
      obtain ⟨g103, e86⟩ := guardO_some e86
      have g103 := limB_t g103
      obtain ⟨g103a, g103b⟩ := g103
      revert e86; refine lK fun l104 hx105 e86 => ?_
      have hx105n : l104.length = (l71.length + l101.length) := by rw [hx105]; simp
      have hx105e : encL l104 = encL l71 ++ encL l101 := by rw [hx105]; simp
      have F4 := an F3 (an hx102 (an hx105n hx105e))
      refine goR F4 ?_
      exact hL89 (q92, l104, (k72 + 1)) _ _ (Gh.ren _ (.o (σ6.gen + 4) 3 0) (.l 6) (by simp) rfl rfl) ⟨e86, hd97, pv F4, pv F4, pv F4, pv F4, pg⟩ (by simp)
  · obtain ⟨e53, h4_3, g4_0, n4_g⟩ := hp
    obtain rfl := sj e53
    try dsimp only at hs
    have F5 := an h4_3 g4_0
    refine goR F5 ?_
    obtain rfl := sj hs
    exact hQ _ _ (rg F5 (Gh.frz _ (.l 2)))
theorem at_r16_copyExprs : ∀ {fuelN : Nat} {a0 : List Expr} {r : (List Expr)} (hs : r16_copyExprs fuelN a0 = some r), At Tryd.prog 129 [.cell (sC a0)] (.cell (sC r))
  | 0, _, _, hs => by rw [r16_copyExprs] at hs; cases hs
  | n + 1, _, _, hs => by
    rw [r16_copyExprs] at hs
    exact at_r16_copyExprs_B (fun _ _ h => at_r16_copyExprs h) hs
end Go.Dc
end
section
set_option linter.all false
namespace Go.Dc
open Go Go.Hw Go.Proofs
set_option maxRecDepth 100000
def r16_copyStmts_L1 (fuelN : Nat) (rF87z : (List Stmt) → Option (List Stmt)) : List Stmt → (List Stmt) → Nat → Option (List Stmt)
  | [], l87, k88 => some (l87)
  | x116 :: q112, l87, k88 => Option.bind (r16_copyExprs fuelN x116.Exprs) (fun y119 => Option.bind (rF87z x116.Body) (fun y121 => Option.bind (rF87z x116.Else) (fun y123 => Option.bind (some ([{ x116 with Exprs := y119, Body := y121, Else := y123 }])) (fun l125 => guardO (limB 144 (l87.length + l125.length)) (Option.bind (some (l87 ++ l125)) (fun l128 => r16_copyStmts_L1 fuelN rF87z q112 l128 (k88 + 1)))))))

def r16_copyStmts_B (rF87z : (List Stmt) → Option (List Stmt)) (fuelN : Nat) (a0 : List Stmt) : Option (List Stmt) :=
  Option.bind (some (([] : List Stmt))) (fun l1 => Option.bind (α := (List Stmt)) (Option.bind (r16_copyStmts_L1 fuelN rF87z a0 l1 0) (fun l105 => some (l105))) (fun l64 => some l64))

def r16_copyStmts : Nat → (List Stmt) → Option (List Stmt)
  | 0 => fun _ => none
  | fuelN + 1 => fun a0 => r16_copyStmts_B (r16_copyStmts fuelN) fuelN a0

set_option maxHeartbeats 2000000 in
theorem at_r16_copyStmts_B {rF87z : (List Stmt) → Option (List Stmt)} (ihrF87z : ∀ (a0 : List Stmt) (r : (List Stmt)), rF87z a0 = some r → At Tryd.prog 87 [.cell (sC a0)] (.cell (sC r))) {fuelN : Nat} {a0 : List Stmt} {r : (List Stmt)} (hs : r16_copyStmts_B rF87z fuelN a0 = some r) : At Tryd.prog 87 [.cell (sC a0)] (.cell (sC r)) := by
  refine at_bound (by kernel_rfl) fun hb => ?_
  have hb1 : LenOk (.sl a0.length (encL a0)) := lkc hb
  refine at_code mixed Tryd.func87 (by kernel_rfl) rfl (by kernel_rfl) rfl fun Q hQ => ?_
  rw [r16_copyStmts_B] at hs
  revert hs; refine lK fun l1 hx2 hs => ?_
  have hx2n : l1.length = 0 := by rw [hx2]; rfl
  refine goR2 hx2 ?_
  revert hs; refine bK fun o66 e65 hs => ?_
  refine awp_cutK (fun (v : (List Stmt)) (σ : St) => some (v) = some o66 ∧ σ.env 3 = .cell (.sl (.l 2) 0 9 v.length) ∧ σ.hp (.l 2) = some (.pure (encL v)) ∧ 3 ≤ σ.gen) (by rfl) (fun Q hK67 hX68 => ?_) (fun l64 σ3 hp => ?_)
  · refine goR hx2 ?_
    revert e65; refine bK fun o107 e106 e65 => ?_
    refine awp_loopW (fun (v : (List Stmt) × (List Stmt) × Nat) (σ : St) => r16_copyStmts_L1 fuelN rF87z v.1 v.2.1 v.2.2 = some o107 ∧ v.1 = a0.drop v.2.2 ∧ σ.env 0 = .cell (sC a0) ∧ σ.env 3 = .cell (.sl (.l 6) 0 9 v.2.1.length) ∧ σ.env 4 = iV .i64 ((v.2.2 : Nat) : Int) ∧ σ.hp (.l 6) = some (.pure (encL v.2.1)) ∧ 3 ≤ σ.gen) (fun v => v.1.length) _ (Gh.ren _ (.o 2 0 0) (.l 6) (by simp) rfl rfl) (a0, l1, 0) ⟨e106, by simp, pv hx2, pv hx2, pv hx2, pv hx2, pg⟩ fun v σ6 hp L108 hL109 => ?_
    obtain ⟨q111, l87, k88⟩ := v
    dsimp only at hp hL109
    obtain ⟨e106, hd110, h5_0, h5_3, h5_4, g5_0, n5_g⟩ := hp
    rcases q111 with _ | ⟨x116, q112⟩
    · have hlt113 := drop_end hd110
      rw [r16_copyStmts_L1] at e106; try dsimp only at e106
      have F1 := an h5_0 (an h5_3 (an h5_4 g5_0))
      refine goR F1 ?_
      refine condK_f (by simp [ltI]; omega) ?_
      obtain rfl := sj e106
      try dsimp only at e65
      exact hK67 l87 _ _ (Gh.ren _ (.l 6) (.l 2) (by simp) rfl rfl) ⟨e65, pv F1, pv F1, pg⟩
    · obtain ⟨hx115, hlt113, hd117⟩ := drop_next hd110
      have ew114 := wrap_succ hlt113 (hb1).len
      rw [r16_copyStmts_L1] at e106; try dsimp only at e106
      have F2 := an h5_0 (an h5_3 (an h5_4 (an g5_0 (an hlt113 ew114))))
      refine goR F2 ?_
      refine condK_t (by simp [ltI]; omega) ?_
      have f118 : partCV Tryd.prog 67 (encL a0) (k88 * 9) = some (.agg (eA x116)) := partCV_enc hx115 (f := 0) (by simp)
      have F3 := an F2 f118
      refine goR F3 ?_
      revert e106; refine bK fun y119 hx120 e106 => ?_
      refine cP F3 (at_r16_copyExprs hx120) ?_
      refine goR F3 ?_
      revert e106; refine bK fun y121 hx122 e106 => ?_
      refine cP F3 (ihrF87z _ _ hx122) ?_
      refine goR F3 ?_
      revert e106; refine bK fun y123 hx124 e106 => ?_
      refine cP F3 (ihrF87z _ _ hx124) ?_
      revert e106; refine lK fun l125 hx126 e106 => ?_
      have hx126n : l125.length = 1 := by rw [hx126]; rfl
      obtain ⟨g127, e106⟩ := guardO_some e106
      have g127 := limB_t g127
      obtain ⟨g127a, g127b⟩ := g127
      revert e106; refine lK fun l128 hx129 e106 => ?_
      have hx129n : l128.length = (l87.length + l125.length) := by rw [hx129]; simp
      have hx129e : encL l128 = encL l87 ++ encL l125 := by rw [hx129]; simp
      have F4 := an F3 (an hx126 (an hx129n hx129e))
      refine goR F4 ?_
      exact hL109 (q112, l128, (k88 + 1)) _ _ (Gh.ren _ (.o (σ6.gen + 6) 3 0) (.l 6) (by simp) rfl rfl) ⟨e106, hd117, pv F4, pv F4, pv F4, pv F4, pg⟩ (by simp)
  · obtain ⟨e65, h4_3, g4_0, n4_g⟩ := hp
    obtain rfl := sj e65
    try dsimp only at hs
    have F5 := an h4_3 g4_0
    refine goR F5 ?_
    obtain rfl := sj hs
    exact hQ _ _ (rg F5 (Gh.frz _ (.l 2)))
theorem at_r16_copyStmts : ∀ {fuelN : Nat} {a0 : List Stmt} {r : (List Stmt)} (hs : r16_copyStmts fuelN a0 = some r), At Tryd.prog 87 [.cell (sC a0)] (.cell (sC r))
  | 0, _, _, hs => by rw [r16_copyStmts] at hs; cases hs
  | n + 1, _, _, hs => by
    rw [r16_copyStmts] at hs
    exact at_r16_copyStmts_B (fun _ _ h => at_r16_copyStmts h) hs
end Go.Dc
end
section
set_option linter.all false
namespace Go.Dc
open Go Go.Hw Go.Proofs
set_option maxRecDepth 100000
def r16_Clone_L1 (fuelN : Nat) : List Proc → Nat → (List Proc) → Option (List Proc)
  | [], k133, l134 => some (l134)
  | x158 :: q154, k133, l134 => Option.bind (r16_copyStmts fuelN x158.Body) (fun y161 => Option.bind (some ([{ x158 with Body := y161 }])) (fun l163 => guardO (limB 56 (l134.length + l163.length)) (Option.bind (some (l134 ++ l163)) (fun l166 => r16_Clone_L1 fuelN q154 (k133 + 1) l166))))

def r16_Clone (fuelN : Nat) (a0 : UnitT) : Option UnitT :=
  Option.bind (some (([] : List Var))) (fun l21 => guardO (limB 24 (l21.length + a0.Vars.length)) (Option.bind (some (l21 ++ a0.Vars)) (fun l24 => Option.bind (some (([] : List ByteArray))) (fun l26 => guardO (limB 16 (l26.length + a0.Mutexes.length)) (Option.bind (some (l26 ++ a0.Mutexes)) (fun l29 => Option.bind (some (([] : List ByteArray))) (fun l31 => guardO (limB 16 (l31.length + a0.Conds.length)) (Option.bind (some (l31 ++ a0.Conds)) (fun l34 => Option.bind (some (([] : List Launch))) (fun l36 => guardO (limB 24 (l36.length + a0.Threads.length)) (Option.bind (some (l36 ++ a0.Threads)) (fun l39 => Option.bind (α := (List Proc)) (Option.bind (r16_Clone_L1 fuelN a0.Procs 0 []) (fun l147 => some (l147))) (fun l102 => some ({ Vars := l24, Mutexes := l29, Conds := l34, Procs := l102, Threads := l39 } : UnitT))))))))))))))

set_option maxHeartbeats 2000000 in
theorem at_r16_Clone {fuelN : Nat} {a0 : UnitT} {r : UnitT} (hs : r16_Clone fuelN a0 = some r) : At Tryd.prog 41 [.agg (eA a0)] (.agg (eA r)) := by
  refine at_bound (by kernel_rfl) fun hb => ?_
  have hb1 : LenOk (.sl a0.Vars.length (encL a0.Vars)) := lkc hb
  have hb2 : LenOk (.sl a0.Mutexes.length (encL a0.Mutexes)) := lkc hb
  have hb3 : LenOk (.sl a0.Conds.length (encL a0.Conds)) := lkc hb
  have hb4 : LenOk (.sl a0.Procs.length (encL a0.Procs)) := lkc hb
  have hb5 : LenOk (.sl a0.Threads.length (encL a0.Threads)) := lkc hb
  refine at_code mixed Tryd.func41 (by kernel_rfl) rfl (by kernel_rfl) rfl fun Q hQ => ?_
  rw [r16_Clone] at hs
  revert hs; refine lK fun l21 hx22 hs => ?_
  have hx22n : l21.length = 0 := by rw [hx22]; rfl
  obtain ⟨g23, hs⟩ := guardO_some hs
  have g23 := limB_t g23
  obtain ⟨g23a, g23b⟩ := g23
  revert hs; refine lK fun l24 hx25 hs => ?_
  have hx25n : l24.length = (l21.length + a0.Vars.length) := by rw [hx25]; simp
  have hx25e : encL l24 = encL l21 ++ encL a0.Vars := by rw [hx25]; simp
  revert hs; refine lK fun l26 hx27 hs => ?_
  have hx27n : l26.length = 0 := by rw [hx27]; rfl
  obtain ⟨g28, hs⟩ := guardO_some hs
  have g28 := limB_t g28
  obtain ⟨g28a, g28b⟩ := g28
  revert hs; refine lK fun l29 hx30 hs => ?_
  have hx30n : l29.length = (l26.length + a0.Mutexes.length) := by rw [hx30]; simp
  have hx30e : encL l29 = encL l26 ++ encL a0.Mutexes := by rw [hx30]; simp
  revert hs; refine lK fun l31 hx32 hs => ?_
  have hx32n : l31.length = 0 := by rw [hx32]; rfl
  obtain ⟨g33, hs⟩ := guardO_some hs
  have g33 := limB_t g33
  obtain ⟨g33a, g33b⟩ := g33
  revert hs; refine lK fun l34 hx35 hs => ?_
  have hx35n : l34.length = (l31.length + a0.Conds.length) := by rw [hx35]; simp
  have hx35e : encL l34 = encL l31 ++ encL a0.Conds := by rw [hx35]; simp
  revert hs; refine lK fun l36 hx37 hs => ?_
  have hx37n : l36.length = 0 := by rw [hx37]; rfl
  obtain ⟨g38, hs⟩ := guardO_some hs
  have g38 := limB_t g38
  obtain ⟨g38a, g38b⟩ := g38
  revert hs; refine lK fun l39 hx40 hs => ?_
  have hx40n : l39.length = (l36.length + a0.Threads.length) := by rw [hx40]; simp
  have hx40e : encL l39 = encL l36 ++ encL a0.Threads := by rw [hx40]; simp
  have F1 := an hx22 (an hx25n (an hx25e (an hx27 (an hx30n (an hx30e (an hx32 (an hx35n (an hx35e (an hx37 (an hx40n hx40e))))))))))
  refine goD2 F1 ?_
  revert hs; refine bK fun o104 e103 hs => ?_
  refine awp_cutK (fun (v : (List Proc)) (σ : St) => some (v) = some o104 ∧ σ.env 2 = .cell (.ref (.o 1 1 0) 0) ∧ σ.env 3 = .cell (.ref (.o 2 17 0) 0) ∧ σ.hp (.o 1 1 0) = some (.cells [.z, .z, .z, .z, .z]) ∧ σ.hp (.l 12) = some (.pure (encL v)) ∧ σ.hp (.o 2 17 0) = some (.cells [.sl (.o 2 3 0) 0 2 l24.length, .sl (.o 2 7 0) 0 1 l29.length, .sl (.o 2 11 0) 0 1 l34.length, .sl (.l 12) 0 3 v.length, .sl (.o 2 15 0) 0 2 l39.length]) ∧ σ.hp (.o 2 3 0) = some (.pure (encL l24)) ∧ σ.hp (.o 2 7 0) = some (.pure (encL l29)) ∧ σ.hp (.o 2 11 0) = some (.pure (encL l34)) ∧ σ.hp (.o 2 15 0) = some (.pure (encL l39)) ∧ 3 ≤ σ.gen) (by rfl) (fun Q hK105 hX106 => ?_) (fun l102 σ3 hp => ?_)
  · refine goD F1 ?_
    revert e103; refine bK fun o149 e148 e103 => ?_
    refine awp_loopW (fun (v : (List Proc) × Nat × (List Proc)) (σ : St) => r16_Clone_L1 fuelN v.1 v.2.1 v.2.2 = some o149 ∧ v.1 = a0.Procs.drop v.2.1 ∧ σ.env 1 = .cell (.ref (.o 1 0 0) 0) ∧ σ.env 2 = .cell (.ref (.o 1 1 0) 0) ∧ σ.env 3 = .cell (.ref (.o 2 17 0) 0) ∧ σ.env 4 = iV .i64 ((v.2.1 : Nat) : Int) ∧ σ.hp (.o 1 0 0) = some (.cells (eA a0)) ∧ σ.hp (.o 1 1 0) = some (.cells [.z, .z, .z, .z, .z]) ∧ σ.hp (.l 35) = some (.pure (encL v.2.2)) ∧ σ.hp (.o 2 17 0) = some (.cells [.sl (.o 2 3 0) 0 2 l24.length, .sl (.o 2 7 0) 0 1 l29.length, .sl (.o 2 11 0) 0 1 l34.length, .sl (.l 35) 0 3 v.2.2.length, .sl (.o 2 15 0) 0 2 l39.length]) ∧ σ.hp (.o 2 3 0) = some (.pure (encL l24)) ∧ σ.hp (.o 2 7 0) = some (.pure (encL l29)) ∧ σ.hp (.o 2 11 0) = some (.pure (encL l34)) ∧ σ.hp (.o 2 15 0) = some (.pure (encL l39)) ∧ 3 ≤ σ.gen) (fun v => v.1.length) _ (Gh.voidB _ (.l 35) (.o 2 17 0) 3 3 rfl (by simp [F1]; rfl) (by first | rfl | simp) (by simp)) (a0.Procs, 0, []) ⟨e148, by simp, pv F1, pv F1, pv F1, pv F1, pv F1, pv F1, pv F1, pv F1, pv F1, pv F1, pv F1, pv F1, pg⟩ fun v σ6 hp L150 hL151 => ?_
    obtain ⟨q153, k133, l134⟩ := v
    dsimp only at hp hL151
    obtain ⟨e148, hd152, h5_1, h5_2, h5_3, h5_4, g5_0, g5_1, g5_2, g5_3, g5_4, g5_5, g5_6, g5_7, n5_g⟩ := hp
    have n5_0 : ¬ (σ6.gen = 0) := by omega
    have n5_1 : ¬ (σ6.gen = 1) := by omega
    rcases q153 with _ | ⟨x158, q154⟩
    · have hlt155 := drop_end hd152
      rw [r16_Clone_L1] at e148; try dsimp only at e148
      have F2 := an h5_1 (an h5_2 (an h5_3 (an h5_4 (an g5_0 (an g5_1 (an g5_2 (an g5_3 (an g5_4 (an g5_5 (an g5_6 (an g5_7 (an n5_0 n5_1))))))))))))
      refine goR F2 ?_
      refine condK_f (by simp [ltI]; omega) ?_
      obtain rfl := sj e148
      try dsimp only at e103
      exact hK105 l134 _ _ (Gh.ren _ (.l 35) (.l 12) (by simp) rfl rfl) ⟨e103, pv F2, pv F2, pv F2, pv F2, pv F2, pv F2, pv F2, pv F2, pv F2, pg⟩
    · obtain ⟨hx157, hlt155, hd159⟩ := drop_next hd152
      have ew156 := wrap_succ hlt155 (hb4).len
      rw [r16_Clone_L1] at e148; try dsimp only at e148
      have F3 := an h5_1 (an h5_2 (an h5_3 (an h5_4 (an g5_0 (an g5_1 (an g5_2 (an g5_3 (an g5_4 (an g5_5 (an g5_6 (an g5_7 (an n5_0 (an n5_1 (an hlt155 ew156))))))))))))))
      refine goR F3 ?_
      refine condK_t (by simp [ltI]; omega) ?_
      have f160 : partCV Tryd.prog 57 (encL a0.Procs) (k133 * 3) = some (.agg (eA x158)) := partCV_enc hx157 (f := 0) (by simp)
      have F4 := an F3 f160
      refine goR F4 ?_
      revert e148; refine bK fun y161 hx162 e148 => ?_
      refine cP F4 (at_r16_copyStmts hx162) ?_
      revert e148; refine lK fun l163 hx164 e148 => ?_
      have hx164n : l163.length = 1 := by rw [hx164]; rfl
      obtain ⟨g165, e148⟩ := guardO_some e148
      have g165 := limB_t g165
      obtain ⟨g165a, g165b⟩ := g165
      revert e148; refine lK fun l166 hx167 e148 => ?_
      have hx167n : l166.length = (l134.length + l163.length) := by rw [hx167]; simp
      have hx167e : encL l166 = encL l134 ++ encL l163 := by rw [hx167]; simp
      have F5 := an F4 (an hx164 (an hx167n hx167e))
      refine goR F5 ?_
      exact hL151 (q154, (k133 + 1), l166) _ _ (Gh.ren _ (.o (σ6.gen + 4) 4 0) (.l 35) (by simp) rfl rfl) ⟨e148, hd159, pv F5, pv F5, pv F5, pv F5, pv F5, pv F5, pv F5, pv F5, pv F5, pv F5, pv F5, pv F5, pg⟩ (by simp)
  · obtain ⟨e103, h4_2, h4_3, g4_0, g4_1, g4_2, g4_3, g4_4, g4_5, g4_6, n4_g⟩ := hp
    obtain rfl := sj e103
    try dsimp only at hs
    have n4_0 : ¬ (σ3.gen = 0) := by omega
    have n4_1 : ¬ (σ3.gen = 1) := by omega
    have F6 := an h4_2 (an h4_3 (an g4_0 (an g4_1 (an g4_2 (an g4_3 (an g4_4 (an g4_5 (an g4_6 (an n4_0 n4_1)))))))))
    refine goD F6 ?_
    obtain rfl := sj hs
    exact hQ _ _ (rg F6 ((Gh.frz _ (.o 2 3 0)).trans ((Gh.frz _ (.o 2 7 0)).trans ((Gh.frz _ (.o 2 11 0)).trans ((Gh.frz _ (.l 12)).trans (Gh.frz _ (.o 2 15 0)))))))
end Go.Dc
end
section
set_option linter.all false
namespace Go.Dc
open Go Go.Hw Go.Proofs
set_option maxRecDepth 100000

def r16_SameExpr (rF130z : (List Expr) → (List Expr) → Option Bool) (a0 : Expr) (a1 : Expr) : Option Bool :=
  guardO (orB (!(andB (andB (andB (eqI a0.Kind a1.Kind) (eqI a0.N a1.N)) (eqS a0.Name a1.Name)) (eqI a0.Fn a1.Fn))) ((rF130z a0.Args a1.Args).isSome)) (some (andB (andB (andB (andB (eqI a0.Kind a1.Kind) (eqI a0.N a1.N)) (eqS a0.Name a1.Name)) (eqI a0.Fn a1.Fn)) ((rF130z a0.Args a1.Args).getD default)))

set_option maxHeartbeats 2000000 in
theorem at_r16_SameExpr {rF130z : (List Expr) → (List Expr) → Option Bool} (ihrF130z : ∀ (a0 : List Expr) (a1 : List Expr) (r : Bool), rF130z a0 a1 = some r → At Tryd.prog 130 [.cell (sC a0), .cell (sC a1)] (bV r)) {a0 : Expr} {a1 : Expr} {r : Bool} (hs : r16_SameExpr rF130z a0 a1 = some r) : At Tryd.prog 166 [.agg (eA a0), .agg (eA a1)] (bV r) := by
  refine at_bound (by kernel_rfl) fun hb => ?_
  have hb1 : LenOk (.sl a0.Args.length (encL a0.Args)) := lkc hb
  have hb2 : LenOk (.sl a1.Args.length (encL a1.Args)) := lkc hb
  refine at_code mixed Tryd.func166 (by kernel_rfl) rfl (by kernel_rfl) rfl fun Q hQ => ?_
  rw [r16_SameExpr] at hs
  refine goG f0 f0 ?_
  obtain ⟨g1, hs⟩ := guardO_some hs
  refine gsel_call (fun hg => ihrF130z _ _ _ (under_call g1 hg)) (fun hg => by (try simp at hg); (first | simp [hg, id]); try rfl) (fun hg => by (try simp at hg); simp [hg, id]) (by simp) ?_
  refine goG f0 f0 ?_
  obtain rfl := sj hs
  exact hQ _ _ (rg f0 (Gh.refl _))
end Go.Dc
end
section
set_option linter.all false
namespace Go.Dc
open Go Go.Hw Go.Proofs
set_option maxRecDepth 100000
def r16_exprs_L1 (a1 : List Expr) (rF130z : (List Expr) → (List Expr) → Option Bool) : List Expr → Nat → Option (Unit ⊕ Bool)
  | [], k92 => some (.inl ())
  | x122 :: q118, k92 => Option.bind (a1[k92]?) (fun x131 => Option.bind (r16_SameExpr rF130z x122 x131) (fun y134 => cond (!y134) (some (.inr false)) (r16_exprs_L1 a1 rF130z q118 (k92 + 1))))

def r16_exprs_B (rF130z : (List Expr) → (List Expr) → Option Bool) (a0 : List Expr) (a1 : List Expr) : Option Bool :=
  cond (!(eqI ((a0.length : Nat) : Int) ((a1.length : Nat) : Int))) (some false) (Option.bind (α := Unit ⊕ Bool) (Option.bind (r16_exprs_L1 a1 rF130z a0 0) (fun o => match o with | .inl _ => some (.inl ()) | .inr r137 => some (.inr r137))) (fun o => match o with | .inl _ => some true | .inr r138 => some r138))

def r16_exprs : Nat → (List Expr) → (List Expr) → Option Bool
  | 0 => fun _ _ => none
  | fuelN + 1 => fun a0 a1 => r16_exprs_B (r16_exprs fuelN) a0 a1

set_option maxHeartbeats 2000000 in
theorem at_r16_exprs_B {rF130z : (List Expr) → (List Expr) → Option Bool} (ihrF130z : ∀ (a0 : List Expr) (a1 : List Expr) (r : Bool), rF130z a0 a1 = some r → At Tryd.prog 130 [.cell (sC a0), .cell (sC a1)] (bV r)) {a0 : List Expr} {a1 : List Expr} {r : Bool} (hs : r16_exprs_B rF130z a0 a1 = some r) : At Tryd.prog 130 [.cell (sC a0), .cell (sC a1)] (bV r) := by
  refine at_bound (by kernel_rfl) fun hb => ?_
  have hb1 : LenOk (.sl a0.length (encL a0)) := lkc hb
  have hb2 : LenOk (.sl a1.length (encL a1)) := lkc hb
  refine at_code mixed Tryd.func130 (by kernel_rfl) rfl (by kernel_rfl) rfl fun Q hQ => ?_
  rw [r16_exprs_B] at hs
  refine goR f0 ?_
  revert hs; refine cS f0 ?_ ?_ <;> intro h1 hs
  · refine goR f0 ?_
    obtain rfl := sj hs
    exact hQ _ _ (rg f0 (Gh.refl _))
  · refine goR2 f0 ?_
    revert hs; refine bK fun o69 e68 hs => ?_
    refine awp_cutK (fun (v : Unit) (σ : St) => some (.inl v) = some o69 ∧ 3 ≤ σ.gen) (by rfl) (fun Q hK70 hX71 => ?_) (fun v σ3 hp => ?_)
    · refine goR f0 ?_
      revert e68; refine bK fun o113 e112 e68 => ?_
      refine awp_loopW (fun (v : (List Expr) × Nat) (σ : St) => r16_exprs_L1 a1 rF130z v.1 v.2 = some o113 ∧ v.1 = a0.drop v.2 ∧ σ.env 0 = .cell (sC a0) ∧ σ.env 1 = .cell (sC a1) ∧ σ.env 5 = iV .i64 ((v.2 : Nat) : Int) ∧ 3 ≤ σ.gen) (fun v => v.1.length) _ (Gh.refl _) (a0, 0) ⟨e112, by simp, pv f0, pv f0, pv f0, pg⟩ fun v σ6 hp L114 hL115 => ?_
      obtain ⟨q117, k92⟩ := v
      dsimp only at hp hL115
      obtain ⟨e112, hd116, h5_0, h5_1, h5_5, n5_g⟩ := hp
      rcases q117 with _ | ⟨x122, q118⟩
      · have hlt119 := drop_end hd116
        rw [r16_exprs_L1] at e112; try dsimp only at e112
        have F1 := an h5_0 (an h5_1 h5_5)
        refine goR F1 ?_
        refine condK_f (by simp [ltI]; omega) ?_
        obtain rfl := sj e112
        try dsimp only at e68
        exact hK70 () _ _ (Gh.refl _) ⟨e68, pg⟩
      · obtain ⟨hx121, hlt119, hd123⟩ := drop_next hd116
        have ew120 := wrap_succ hlt119 (hb1).len
        rw [r16_exprs_L1] at e112; try dsimp only at e112
        have F2 := an h5_0 (an h5_1 (an h5_5 (an hlt119 ew120)))
        refine goR F2 ?_
        refine condK_t (by simp [ltI]; omega) ?_
        have f130 : partCV Tryd.prog 50 (encL a0) (k92 * 5) = some (.agg (eA x122)) := partCV_enc hx121 (f := 0) (by simp)
        revert e112; refine bK fun x131 hx132 e112 => ?_
        have hx132b := getN_some hx132
        have f133 : partCV Tryd.prog 50 (encL a1) (k92 * 5) = some (.agg (eA x131)) := partCV_enc hx132 (f := 0) (by simp)
        have F3 := an F2 (an f130 f133)
        refine goD F3 ?_
        revert e112; refine bK fun y134 hx135 e112 => ?_
        refine cP F3 (at_r16_SameExpr ihrF130z hx135) ?_
        refine goD F3 ?_
        revert e112; refine cS F3 ?_ ?_ <;> intro h136 e112
        · refine goD F3 ?_
          obtain rfl := sj e112
          try dsimp only at e68
          obtain rfl := sj e68
          try dsimp only at hs
          refine hX71 _ _ (by simp) ?_
          refine goD F3 ?_
          obtain rfl := sj hs
          exact hQ _ _ (rg F3 (Gh.refl _))
        · refine goD F3 ?_
          exact hL115 (q118, (k92 + 1)) _ _ (Gh.refl _) ⟨e112, hd123, pv F3, pv F3, pv F3, pg⟩ (by simp)
    · obtain ⟨e68, n4_g⟩ := hp
      obtain rfl := sj e68
      try dsimp only at hs
      refine goR f0 ?_
      obtain rfl := sj hs
      exact hQ _ _ (rg f0 (Gh.refl _))
theorem at_r16_exprs : ∀ {fuelN : Nat} {a0 : List Expr} {a1 : List Expr} {r : Bool} (hs : r16_exprs fuelN a0 a1 = some r), At Tryd.prog 130 [.cell (sC a0), .cell (sC a1)] (bV r)
  | 0, _, _, _, hs => by rw [r16_exprs] at hs; cases hs
  | n + 1, _, _, _, hs => by
    rw [r16_exprs] at hs
    exact at_r16_exprs_B (fun _ _ _ h => at_r16_exprs h) hs
end Go.Dc
end
section
set_option linter.all false
namespace Go.Dc
open Go Go.Hw Go.Proofs
set_option maxRecDepth 100000
def r16_stmts_L1 (fuelN : Nat) (a1 : List Stmt) (rF88z : (List Stmt) → (List Stmt) → Option Bool) : List Stmt → Nat → Option (Unit ⊕ Bool)
  | [], k88 => some (.inl ())
  | x117 :: q113, k88 => Option.bind (a1[k88]?) (fun x124 => guardO (orB (!(!(orB (orB (orB (orB (orB (!(eqI x117.Kind x124.Kind)) (!(eqS x117.Name x124.Name))) (!(eqS x117.Obj x124.Obj))) (!(eqS x117.Other x124.Other))) (!(eqI x117.Fn x124.Fn))) (!(eqI x117.Order x124.Order))))) ((r16_exprs fuelN x117.Exprs x124.Exprs).isSome)) (guardO (orB (!(!(orB (orB (orB (orB (orB (orB (!(eqI x117.Kind x124.Kind)) (!(eqS x117.Name x124.Name))) (!(eqS x117.Obj x124.Obj))) (!(eqS x117.Other x124.Other))) (!(eqI x117.Fn x124.Fn))) (!(eqI x117.Order x124.Order))) (!((r16_exprs fuelN x117.Exprs x124.Exprs).getD default))))) ((rF88z x117.Body x124.Body).isSome)) (guardO (orB (!(!(orB (orB (orB (orB (orB (orB (orB (!(eqI x117.Kind x124.Kind)) (!(eqS x117.Name x124.Name))) (!(eqS x117.Obj x124.Obj))) (!(eqS x117.Other x124.Other))) (!(eqI x117.Fn x124.Fn))) (!(eqI x117.Order x124.Order))) (!((r16_exprs fuelN x117.Exprs x124.Exprs).getD default))) (!((rF88z x117.Body x124.Body).getD default))))) ((rF88z x117.Else x124.Else).isSome)) (cond (orB (orB (orB (orB (orB (orB (orB (orB (!(eqI x117.Kind x124.Kind)) (!(eqS x117.Name x124.Name))) (!(eqS x117.Obj x124.Obj))) (!(eqS x117.Other x124.Other))) (!(eqI x117.Fn x124.Fn))) (!(eqI x117.Order x124.Order))) (!((r16_exprs fuelN x117.Exprs x124.Exprs).getD default))) (!((rF88z x117.Body x124.Body).getD default))) (!((rF88z x117.Else x124.Else).getD default))) (some (.inr false)) (r16_stmts_L1 fuelN a1 rF88z q113 (k88 + 1))))))

def r16_stmts_B (rF88z : (List Stmt) → (List Stmt) → Option Bool) (fuelN : Nat) (a0 : List Stmt) (a1 : List Stmt) : Option Bool :=
  cond (!(eqI ((a0.length : Nat) : Int) ((a1.length : Nat) : Int))) (some false) (Option.bind (α := Unit ⊕ Bool) (Option.bind (r16_stmts_L1 fuelN a1 rF88z a0 0) (fun o => match o with | .inl _ => some (.inl ()) | .inr r131 => some (.inr r131))) (fun o => match o with | .inl _ => some true | .inr r132 => some r132))

def r16_stmts : Nat → (List Stmt) → (List Stmt) → Option Bool
  | 0 => fun _ _ => none
  | fuelN + 1 => fun a0 a1 => r16_stmts_B (r16_stmts fuelN) fuelN a0 a1

set_option maxHeartbeats 2000000 in
theorem at_r16_stmts_B {rF88z : (List Stmt) → (List Stmt) → Option Bool} (ihrF88z : ∀ (a0 : List Stmt) (a1 : List Stmt) (r : Bool), rF88z a0 a1 = some r → At Tryd.prog 88 [.cell (sC a0), .cell (sC a1)] (bV r)) {fuelN : Nat} {a0 : List Stmt} {a1 : List Stmt} {r : Bool} (hs : r16_stmts_B rF88z fuelN a0 a1 = some r) : At Tryd.prog 88 [.cell (sC a0), .cell (sC a1)] (bV r) := by
  refine at_bound (by kernel_rfl) fun hb => ?_
  have hb1 : LenOk (.sl a0.length (encL a0)) := lkc hb
  have hb2 : LenOk (.sl a1.length (encL a1)) := lkc hb
  refine at_code mixed Tryd.func88 (by kernel_rfl) rfl (by kernel_rfl) rfl fun Q hQ => ?_
  rw [r16_stmts_B] at hs
  refine goR f0 ?_
  revert hs; refine cS f0 ?_ ?_ <;> intro h1 hs
  · refine goR f0 ?_
    obtain rfl := sj hs
    exact hQ _ _ (rg f0 (Gh.refl _))
  · refine goR2 f0 ?_
    revert hs; refine bK fun o66 e65 hs => ?_
    refine awp_cutK (fun (v : Unit) (σ : St) => some (.inl v) = some o66 ∧ 3 ≤ σ.gen) (by rfl) (fun Q hK67 hX68 => ?_) (fun v σ3 hp => ?_)
    · refine goR f0 ?_
      revert e65; refine bK fun o108 e107 e65 => ?_
      refine awp_loopW (fun (v : (List Stmt) × Nat) (σ : St) => r16_stmts_L1 fuelN a1 rF88z v.1 v.2 = some o108 ∧ v.1 = a0.drop v.2 ∧ σ.env 0 = .cell (sC a0) ∧ σ.env 1 = .cell (sC a1) ∧ σ.env 5 = iV .i64 ((v.2 : Nat) : Int) ∧ 3 ≤ σ.gen) (fun v => v.1.length) _ (Gh.refl _) (a0, 0) ⟨e107, by simp, pv f0, pv f0, pv f0, pg⟩ fun v σ6 hp L109 hL110 => ?_
      obtain ⟨q112, k88⟩ := v
      dsimp only at hp hL110
      obtain ⟨e107, hd111, h5_0, h5_1, h5_5, n5_g⟩ := hp
      rcases q112 with _ | ⟨x117, q113⟩
      · have hlt114 := drop_end hd111
        rw [r16_stmts_L1] at e107; try dsimp only at e107
        have F1 := an h5_0 (an h5_1 h5_5)
        refine goR F1 ?_
        refine condK_f (by simp [ltI]; omega) ?_
        obtain rfl := sj e107
        try dsimp only at e65
        exact hK67 () _ _ (Gh.refl _) ⟨e65, pg⟩
      · obtain ⟨hx116, hlt114, hd118⟩ := drop_next hd111
        have ew115 := wrap_succ hlt114 (hb1).len
        rw [r16_stmts_L1] at e107; try dsimp only at e107
        have F2 := an h5_0 (an h5_1 (an h5_5 (an hlt114 ew115)))
        refine goR F2 ?_
        refine condK_t (by simp [ltI]; omega) ?_
        have f123 : partCV Tryd.prog 67 (encL a0) (k88 * 9) = some (.agg (eA x117)) := partCV_enc hx116 (f := 0) (by simp)
        revert e107; refine bK fun x124 hx125 e107 => ?_
        have hx125b := getN_some hx125
        have f126 : partCV Tryd.prog 67 (encL a1) (k88 * 9) = some (.agg (eA x124)) := partCV_enc hx125 (f := 0) (by simp)
        have F3 := an F2 (an f123 f126)
        have F4 := an F3 hx125b
        refine goE F3 F4 ?_
        obtain ⟨g127, e107⟩ := guardO_some e107
        refine gsel_call (fun hg => at_r16_exprs (under_call g127 hg)) (fun hg => by (try simp at hg); (first | simp [hg, F3]); try rfl) (fun hg => by (try simp at hg); simp [hg, F3]) (by simp) ?_
        refine goE F3 F4 ?_
        obtain ⟨g128, e107⟩ := guardO_some e107
        refine gsel_call (fun hg => ihrF88z _ _ _ (under_call g128 hg)) (fun hg => by (try simp at hg); (first | simp [hg, F3]); try rfl) (fun hg => by (try simp at hg); simp [hg, F3]) (by simp) ?_
        refine goE F3 F4 ?_
        obtain ⟨g129, e107⟩ := guardO_some e107
        refine gsel_call (fun hg => ihrF88z _ _ _ (under_call g129 hg)) (fun hg => by (try simp at hg); (first | simp [hg, F3]); try rfl) (fun hg => by (try simp at hg); simp [hg, F3]) (by simp) ?_
        refine goE F3 F4 ?_
        revert e107; refine cS F3 ?_ ?_ <;> intro h130 e107
        · refine goE F3 F4 ?_
          obtain rfl := sj e107
          try dsimp only at e65
          obtain rfl := sj e65
          try dsimp only at hs
          refine hX68 _ _ (by simp) ?_
          refine goE F3 F4 ?_
          obtain rfl := sj hs
          exact hQ _ _ (rg F3 (Gh.refl _))
        · refine goE F3 F4 ?_
          exact hL110 (q113, (k88 + 1)) _ _ (Gh.refl _) ⟨e107, hd118, pv F3, pv F3, pv F3, pg⟩ (by simp)
    · obtain ⟨e65, n4_g⟩ := hp
      obtain rfl := sj e65
      try dsimp only at hs
      refine goR f0 ?_
      obtain rfl := sj hs
      exact hQ _ _ (rg f0 (Gh.refl _))
theorem at_r16_stmts : ∀ {fuelN : Nat} {a0 : List Stmt} {a1 : List Stmt} {r : Bool} (hs : r16_stmts fuelN a0 a1 = some r), At Tryd.prog 88 [.cell (sC a0), .cell (sC a1)] (bV r)
  | 0, _, _, _, hs => by rw [r16_stmts] at hs; cases hs
  | n + 1, _, _, _, hs => by
    rw [r16_stmts] at hs
    exact at_r16_stmts_B (fun _ _ _ h => at_r16_stmts h) hs
end Go.Dc
end
section
set_option linter.all false
namespace Go.Dc
open Go Go.Hw Go.Proofs
set_option maxRecDepth 100000
def r16_Equal_L1 (a1 : UnitT) : List Var → Nat → Option (Unit ⊕ Bool)
  | [], k78 => some (.inl ())
  | x104 :: q100, k78 => Option.bind (a1.Vars[k78]?) (fun x111 => cond (!(andB (eqS x104.Name x111.Name) (andB (eqI x104.Init x111.Init) true))) (some (.inr false)) (r16_Equal_L1 a1 q100 (k78 + 1)))

def r16_Equal_L2 (a1 : UnitT) : List Launch → Nat → Option (Unit ⊕ Bool)
  | [], k190 => some (.inl ())
  | x216 :: q212, k190 => Option.bind (a1.Threads[k190]?) (fun x223 => cond (!(andB (eqS x216.Proc x223.Proc) (andB (eqI x216.Arg x223.Arg) true))) (some (.inr false)) (r16_Equal_L2 a1 q212 (k190 + 1)))

def r16_Equal_L3 (fuelN : Nat) (a1 : UnitT) : List Proc → Nat → Option (Unit ⊕ Bool)
  | [], k342 => some (.inl ())
  | x378 :: q374, k342 => Option.bind (a1.Procs[k342]?) (fun x390 => guardO (orB (!(!(orB (!(eqS x378.Name x390.Name)) (!(eqS x378.Param x390.Param))))) ((r16_stmts fuelN x378.Body x390.Body).isSome)) (cond (orB (orB (!(eqS x378.Name x390.Name)) (!(eqS x378.Param x390.Param))) (!((r16_stmts fuelN x378.Body x390.Body).getD default))) (some (.inr false)) (r16_Equal_L3 fuelN a1 q374 (k342 + 1))))

def r16_Equal (fuelN : Nat) (a0 : UnitT) (a1 : UnitT) : Option Bool :=
  guardO (orB (!(!(orB (orB (!(eqI ((a0.Vars.length : Nat) : Int) ((a1.Vars.length : Nat) : Int))) (!(eqI ((a0.Procs.length : Nat) : Int) ((a1.Procs.length : Nat) : Int)))) (!(eqI ((a0.Threads.length : Nat) : Int) ((a1.Threads.length : Nat) : Int)))))) ((r16_Strings a0.Mutexes a1.Mutexes).isSome)) (guardO (orB (!(!(orB (orB (orB (!(eqI ((a0.Vars.length : Nat) : Int) ((a1.Vars.length : Nat) : Int))) (!(eqI ((a0.Procs.length : Nat) : Int) ((a1.Procs.length : Nat) : Int)))) (!(eqI ((a0.Threads.length : Nat) : Int) ((a1.Threads.length : Nat) : Int)))) (!((r16_Strings a0.Mutexes a1.Mutexes).getD default))))) ((r16_Strings a0.Conds a1.Conds).isSome)) (cond (orB (orB (orB (orB (!(eqI ((a0.Vars.length : Nat) : Int) ((a1.Vars.length : Nat) : Int))) (!(eqI ((a0.Procs.length : Nat) : Int) ((a1.Procs.length : Nat) : Int)))) (!(eqI ((a0.Threads.length : Nat) : Int) ((a1.Threads.length : Nat) : Int)))) (!((r16_Strings a0.Mutexes a1.Mutexes).getD default))) (!((r16_Strings a0.Conds a1.Conds).getD default))) (some false) (Option.bind (α := Unit ⊕ Bool) (Option.bind (r16_Equal_L1 a1 a0.Vars 0) (fun o => match o with | .inl _ => some (.inl ()) | .inr r115 => some (.inr r115))) (fun o => match o with | .inl _ => Option.bind (α := Unit ⊕ Bool) (Option.bind (r16_Equal_L2 a1 a0.Threads 0) (fun o => match o with | .inl _ => some (.inl ()) | .inr r227 => some (.inr r227))) (fun o => match o with | .inl _ => Option.bind (α := Unit ⊕ Bool) (Option.bind (r16_Equal_L3 fuelN a1 a0.Procs 0) (fun o => match o with | .inl _ => some (.inl ()) | .inr r399 => some (.inr r399))) (fun o => match o with | .inl _ => some true | .inr r400 => some r400) | .inr r401 => some r401) | .inr r402 => some r402))))

set_option maxHeartbeats 2000000 in
theorem at_r16_Equal {fuelN : Nat} {a0 : UnitT} {a1 : UnitT} {r : Bool} (hs : r16_Equal fuelN a0 a1 = some r) : At Tryd.prog 42 [.agg (eA a0), .agg (eA a1)] (bV r) := by
  refine at_bound (by kernel_rfl) fun hb => ?_
  have hb1 : LenOk (.sl a0.Vars.length (encL a0.Vars)) := lkc hb
  have hb2 : LenOk (.sl a0.Mutexes.length (encL a0.Mutexes)) := lkc hb
  have hb3 : LenOk (.sl a0.Conds.length (encL a0.Conds)) := lkc hb
  have hb4 : LenOk (.sl a0.Procs.length (encL a0.Procs)) := lkc hb
  have hb5 : LenOk (.sl a0.Threads.length (encL a0.Threads)) := lkc hb
  have hb6 : LenOk (.sl a1.Vars.length (encL a1.Vars)) := lkc hb
  have hb7 : LenOk (.sl a1.Mutexes.length (encL a1.Mutexes)) := lkc hb
  have hb8 : LenOk (.sl a1.Conds.length (encL a1.Conds)) := lkc hb
  have hb9 : LenOk (.sl a1.Procs.length (encL a1.Procs)) := lkc hb
  have hb10 : LenOk (.sl a1.Threads.length (encL a1.Threads)) := lkc hb
  refine at_code mixed Tryd.func42 (by kernel_rfl) rfl (by kernel_rfl) rfl fun Q hQ => ?_
  rw [r16_Equal] at hs
  refine goG f0 f0 ?_
  obtain ⟨g1, hs⟩ := guardO_some hs
  refine gsel_call (fun hg => at_r16_Strings (under_call g1 hg)) (fun hg => by (try simp at hg); (first | simp [hg, id]); try rfl) (fun hg => by (try simp at hg); simp [hg, id]) (by simp) ?_
  refine goG f0 f0 ?_
  obtain ⟨g2, hs⟩ := guardO_some hs
  refine gsel_call (fun hg => at_r16_Strings (under_call g2 hg)) (fun hg => by (try simp at hg); (first | simp [hg, id]); try rfl) (fun hg => by (try simp at hg); simp [hg, id]) (by simp) ?_
  refine goG f0 f0 ?_
  revert hs; refine cS f0 ?_ ?_ <;> intro h3 hs
  · refine goG f0 f0 ?_
    obtain rfl := sj hs
    exact hQ _ _ (rg f0 (Gh.refl _))
  · refine goG2 f0 f0 ?_
    revert hs; refine bK fun o59 e58 hs => ?_
    refine awp_cutK (fun (v : Unit) (σ : St) => some (.inl v) = some o59 ∧ σ.env 2 = .cell (.ref (.o 1 0 0) 0) ∧ σ.env 3 = .cell (.ref (.o 1 1 0) 0) ∧ σ.hp (.o 1 0 0) = some (.cells (eA a0)) ∧ σ.hp (.o 1 1 0) = some (.cells (eA a1)) ∧ 3 ≤ σ.gen) (by rfl) (fun Q hK60 hX61 => ?_) (fun v σ3 hp => ?_)
    · refine goG f0 f0 ?_
      revert e58; refine bK fun o95 e94 e58 => ?_
      refine awp_loopW (fun (v : (List Var) × Nat) (σ : St) => r16_Equal_L1 a1 v.1 v.2 = some o95 ∧ v.1 = a0.Vars.drop v.2 ∧ σ.env 2 = .cell (.ref (.o 1 0 0) 0) ∧ σ.env 3 = .cell (.ref (.o 1 1 0) 0) ∧ σ.env 5 = iV .i64 ((v.2 : Nat) : Int) ∧ σ.hp (.o 1 0 0) = some (.cells (eA a0)) ∧ σ.hp (.o 1 1 0) = some (.cells (eA a1)) ∧ 3 ≤ σ.gen) (fun v => v.1.length) _ (Gh.refl _) (a0.Vars, 0) ⟨e94, by simp, pv f0, pv f0, pv f0, pv f0, pv f0, pg⟩ fun v σ6 hp L96 hL97 => ?_
      obtain ⟨q99, k78⟩ := v
      dsimp only at hp hL97
      obtain ⟨e94, hd98, h5_2, h5_3, h5_5, g5_0, g5_1, n5_g⟩ := hp
      have n5_0 : ¬ (σ6.gen = 0) := by omega
      rcases q99 with _ | ⟨x104, q100⟩
      · have hlt101 := drop_end hd98
        rw [r16_Equal_L1] at e94; try dsimp only at e94
        have F1 := an h5_2 (an h5_3 (an h5_5 (an g5_0 (an g5_1 n5_0))))
        refine goR F1 ?_
        refine condK_f (by simp [ltI]; omega) ?_
        obtain rfl := sj e94
        try dsimp only at e58
        exact hK60 () _ _ (Gh.refl _) ⟨e58, pv F1, pv F1, pv F1, pv F1, pg⟩
      · obtain ⟨hx103, hlt101, hd105⟩ := drop_next hd98
        have ew102 := wrap_succ hlt101 (hb1).len
        rw [r16_Equal_L1] at e94; try dsimp only at e94
        have F2 := an h5_2 (an h5_3 (an h5_5 (an g5_0 (an g5_1 (an n5_0 (an hlt101 ew102))))))
        refine goR F2 ?_
        refine condK_t (by simp [ltI]; omega) ?_
        have f110 : partCV Tryd.prog 69 (encL a0.Vars) (k78 * 2) = some (.agg (eA x104)) := partCV_enc hx103 (f := 0) (by simp)
        revert e94; refine bK fun x111 hx112 e94 => ?_
        have hx112b := getN_some hx112
        have f113 : partCV Tryd.prog 69 (encL a1.Vars) (k78 * 2) = some (.agg (eA x111)) := partCV_enc hx112 (f := 0) (by simp)
        have F3 := an F2 (an f110 f113)
        refine goD F3 ?_
        revert e94; refine cS F3 ?_ ?_ <;> intro h114 e94
        · refine goD F3 ?_
          obtain rfl := sj e94
          try dsimp only at e58
          obtain rfl := sj e58
          try dsimp only at hs
          refine hX61 _ _ (by simp) ?_
          refine goD F3 ?_
          obtain rfl := sj hs
          exact hQ _ _ (rg F3 (Gh.refl _))
        · refine goD F3 ?_
          exact hL97 (q100, (k78 + 1)) _ _ (Gh.refl _) ⟨e94, hd105, pv F3, pv F3, pv F3, pv F3, pv F3, pg⟩ (by simp)
    · obtain ⟨e58, h4_2, h4_3, g4_0, g4_1, n4_g⟩ := hp
      obtain rfl := sj e58
      try dsimp only at hs
      have n4_0 : ¬ (σ3.gen = 0) := by omega
      have F4 := an h4_2 (an h4_3 (an g4_0 (an g4_1 n4_0)))
      refine goG2 F4 F4 ?_
      revert hs; refine bK fun o171 e170 hs => ?_
      refine awp_cutK (fun (v : Unit) (σ : St) => some (.inl v) = some o171 ∧ σ.env 2 = .cell (.ref (.o 1 0 0) 0) ∧ σ.env 3 = .cell (.ref (.o 1 1 0) 0) ∧ σ.hp (.o 1 0 0) = some (.cells (eA a0)) ∧ σ.hp (.o 1 1 0) = some (.cells (eA a1)) ∧ (σ3.gen + 1) ≤ σ.gen) (by rfl) (fun Q hK172 hX173 => ?_) (fun v σ9 hp => ?_)
      · refine goG F4 F4 ?_
        revert e170; refine bK fun o207 e206 e170 => ?_
        refine awp_loopW (fun (v : (List Launch) × Nat) (σ : St) => r16_Equal_L2 a1 v.1 v.2 = some o207 ∧ v.1 = a0.Threads.drop v.2 ∧ σ.env 2 = .cell (.ref (.o 1 0 0) 0) ∧ σ.env 3 = .cell (.ref (.o 1 1 0) 0) ∧ σ.env 6 = iV .i64 ((v.2 : Nat) : Int) ∧ σ.hp (.o 1 0 0) = some (.cells (eA a0)) ∧ σ.hp (.o 1 1 0) = some (.cells (eA a1)) ∧ (σ3.gen + 1) ≤ σ.gen) (fun v => v.1.length) _ (Gh.refl _) (a0.Threads, 0) ⟨e206, by simp, pv F4, pv F4, pv F4, pv F4, pv F4, pg⟩ fun v σ12 hp L208 hL209 => ?_
        obtain ⟨q211, k190⟩ := v
        dsimp only at hp hL209
        obtain ⟨e206, hd210, h11_2, h11_3, h11_6, g11_0, g11_1, n11_g⟩ := hp
        have n11_0 : ¬ (σ12.gen = 0) := by omega
        rcases q211 with _ | ⟨x216, q212⟩
        · have hlt213 := drop_end hd210
          rw [r16_Equal_L2] at e206; try dsimp only at e206
          have F5 := an h11_2 (an h11_3 (an h11_6 (an g11_0 (an g11_1 n11_0))))
          refine goR F5 ?_
          refine condK_f (by simp [ltI]; omega) ?_
          obtain rfl := sj e206
          try dsimp only at e170
          exact hK172 () _ _ (Gh.refl _) ⟨e170, pv F5, pv F5, pv F5, pv F5, pg⟩
        · obtain ⟨hx215, hlt213, hd217⟩ := drop_next hd210
          have ew214 := wrap_succ hlt213 (hb5).len
          rw [r16_Equal_L2] at e206; try dsimp only at e206
          have F6 := an h11_2 (an h11_3 (an h11_6 (an g11_0 (an g11_1 (an n11_0 (an hlt213 ew214))))))
          refine goR F6 ?_
          refine condK_t (by simp [ltI]; omega) ?_
          have f222 : partCV Tryd.prog 108 (encL a0.Threads) (k190 * 2) = some (.agg (eA x216)) := partCV_enc hx215 (f := 0) (by simp)
          revert e206; refine bK fun x223 hx224 e206 => ?_
          have hx224b := getN_some hx224
          have f225 : partCV Tryd.prog 108 (encL a1.Threads) (k190 * 2) = some (.agg (eA x223)) := partCV_enc hx224 (f := 0) (by simp)
          have F7 := an F6 (an f222 f225)
          refine goD F7 ?_
          revert e206; refine cS F7 ?_ ?_ <;> intro h226 e206
          · refine goD F7 ?_
            obtain rfl := sj e206
            try dsimp only at e170
            obtain rfl := sj e170
            try dsimp only at hs
            refine hX173 _ _ (by simp) ?_
            refine goD F7 ?_
            obtain rfl := sj hs
            exact hQ _ _ (rg F7 (Gh.refl _))
          · refine goD F7 ?_
            exact hL209 (q212, (k190 + 1)) _ _ (Gh.refl _) ⟨e206, hd217, pv F7, pv F7, pv F7, pv F7, pv F7, pg⟩ (by simp)
      · obtain ⟨e170, h10_2, h10_3, g10_0, g10_1, n10_g⟩ := hp
        obtain rfl := sj e170
        try dsimp only at hs
        have n10_0 : ¬ (σ9.gen = 0) := by omega
        have F8 := an h10_2 (an h10_3 (an g10_0 (an g10_1 n10_0)))
        refine goG2 F8 F8 ?_
        revert hs; refine bK fun o313 e312 hs => ?_
        refine awp_cutK (fun (v : Unit) (σ : St) => some (.inl v) = some o313 ∧ (σ9.gen + 1) ≤ σ.gen) (by rfl) (fun Q hK314 hX315 => ?_) (fun v σ15 hp => ?_)
        · refine goG F8 F8 ?_
          revert e312; refine bK fun o369 e368 e312 => ?_
          refine awp_loopW (fun (v : (List Proc) × Nat) (σ : St) => r16_Equal_L3 fuelN a1 v.1 v.2 = some o369 ∧ v.1 = a0.Procs.drop v.2 ∧ σ.env 2 = .cell (.ref (.o 1 0 0) 0) ∧ σ.env 3 = .cell (.ref (.o 1 1 0) 0) ∧ σ.env 7 = iV .i64 ((v.2 : Nat) : Int) ∧ σ.hp (.o 1 0 0) = some (.cells (eA a0)) ∧ σ.hp (.o 1 1 0) = some (.cells (eA a1)) ∧ (σ9.gen + 1) ≤ σ.gen) (fun v => v.1.length) _ (Gh.refl _) (a0.Procs, 0) ⟨e368, by simp, pv F8, pv F8, pv F8, pv F8, pv F8, pg⟩ fun v σ18 hp L370 hL371 => ?_
          obtain ⟨q373, k342⟩ := v
          dsimp only at hp hL371
          obtain ⟨e368, hd372, h17_2, h17_3, h17_7, g17_0, g17_1, n17_g⟩ := hp
          have n17_0 : ¬ (σ18.gen = 0) := by omega
          rcases q373 with _ | ⟨x378, q374⟩
          · have hlt375 := drop_end hd372
            rw [r16_Equal_L3] at e368; try dsimp only at e368
            have F9 := an h17_2 (an h17_3 (an h17_7 (an g17_0 (an g17_1 n17_0))))
            refine goR F9 ?_
            refine condK_f (by simp [ltI]; omega) ?_
            obtain rfl := sj e368
            try dsimp only at e312
            exact hK314 () _ _ (Gh.refl _) ⟨e312, pg⟩
          · obtain ⟨hx377, hlt375, hd379⟩ := drop_next hd372
            have ew376 := wrap_succ hlt375 (hb4).len
            rw [r16_Equal_L3] at e368; try dsimp only at e368
            have F10 := an h17_2 (an h17_3 (an h17_7 (an g17_0 (an g17_1 (an n17_0 (an hlt375 ew376))))))
            refine goR F10 ?_
            refine condK_t (by simp [ltI]; omega) ?_
            have f389 : partCV Tryd.prog 9 (encL a0.Procs) (k342 * 3) = some (sV x378.Name) := partCV_enc hx377 (f := 0) (by simp)
            revert e368; refine bK fun x390 hx391 e368 => ?_
            have hx391b := getN_some hx391
            have f392 : partCV Tryd.prog 9 (encL a1.Procs) (k342 * 3) = some (sV x390.Name) := partCV_enc hx391 (f := 0) (by simp)
            have f393 : partCV Tryd.prog 9 (encL a0.Procs) (k342 * 3 + 1) = some (sV x378.Param) := partCV_enc hx377 (f := 1) (by simp)
            have f394 : partCV Tryd.prog 9 (encL a1.Procs) (k342 * 3 + 1) = some (sV x390.Param) := partCV_enc hx391 (f := 1) (by simp)
            have f395 : partCV Tryd.prog 55 (encL a0.Procs) (k342 * 3 + 2) = some (.cell (sC x378.Body)) := partCV_enc hx377 (f := 2) (by simp)
            have f396 : partCV Tryd.prog 55 (encL a1.Procs) (k342 * 3 + 2) = some (.cell (sC x390.Body)) := partCV_enc hx391 (f := 2) (by simp)
            have F11 := an F10 (an f389 (an f392 (an f393 (an f394 (an f395 f396)))))
            have F12 := an F11 hx391b
            refine goE F11 F12 ?_
            obtain ⟨g397, e368⟩ := guardO_some e368
            refine dsel_call (fun hg => at_r16_stmts (under_call g397 hg)) (fun hg => by (try simp at hg); (first | simp [hg, F11]); try rfl) (fun hg => by (try simp at hg); simp [hg, F11]) (by simp) ?_
            refine goE F11 F12 ?_
            revert e368; refine cS F11 ?_ ?_ <;> intro h398 e368
            · refine goE F11 F12 ?_
              obtain rfl := sj e368
              try dsimp only at e312
              obtain rfl := sj e312
              try dsimp only at hs
              refine hX315 _ _ (by simp) ?_
              refine goE F11 F12 ?_
              obtain rfl := sj hs
              exact hQ _ _ (rg F11 (Gh.refl _))
            · refine goE F11 F12 ?_
              exact hL371 (q374, (k342 + 1)) _ _ (Gh.refl _) ⟨e368, hd379, pv F11, pv F11, pv F11, pv F11, pv F11, pg⟩ (by simp)
        · obtain ⟨e312, n16_g⟩ := hp
          obtain rfl := sj e312
          try dsimp only at hs
          refine goG f0 f0 ?_
          obtain rfl := sj hs
          exact hQ _ _ (rg f0 (Gh.refl _))
end Go.Dc
end
