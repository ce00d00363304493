/- Contracts of functions, by their numbers, and the laws that walk them. Conditions: as each states. -/
import Derived.Test.YtihjddokgmjafaaDoorRows
import Derived.LaidMore
import Derived.MakeChecks
import Derived.Test.YtihjddokgmjafaaDoorH3
import Derived.Test.YtihjddokgmjafaaDoorH4
set_option linter.all false
section
set_option linter.all false
namespace Go.Dc
open Go Go.Hw Go.Proofs
set_option maxRecDepth 100000
theorem dec9 {H : Type} {n : Nat} {d : DataW H} {c : List CV} (h : cvD Tryd.prog n 9 d = some c) : ∃ x : ByteArray, True ∧ c = Enc.enc x := by
  obtain ⟨m, rfl⟩ := cvD_string Tryd.underlying9 h
  exact ⟨m, trivial, rfl⟩
theorem dec81 {H : Type} {n : Nat} {d : DataW H} {c : List CV} (h : cvD Tryd.prog n 81 d = some c) : ∃ x : Int, (-9223372036854775808 ≤ x ∧ x ≤ 9223372036854775807) ∧ c = Enc.enc x := by
  obtain ⟨m, hm, rfl⟩ := cvD_int Tryd.underlying81 h
  exact ⟨m, by simpa [IntKind.min, IntKind.max, IntKind.signed, IntKind.bits] using hm, rfl⟩
theorem dec3 {H : Type} {n : Nat} {d : DataW H} {c : List CV} (h : cvD Tryd.prog n 3 d = some c) : ∃ x : Int, (-9223372036854775808 ≤ x ∧ x ≤ 9223372036854775807) ∧ c = Enc.enc x := by
  obtain ⟨m, hm, rfl⟩ := cvD_int Tryd.underlying3 h
  exact ⟨m, by simpa [IntKind.min, IntKind.max, IntKind.signed, IntKind.bits] using hm, rfl⟩
theorem dec47 {H : Type} {n : Nat} {d : DataW H} {c : List CV} (h : cvD Tryd.prog n 47 d = some c) : ∃ x : Int, (-9223372036854775808 ≤ x ∧ x ≤ 9223372036854775807) ∧ c = Enc.enc x := by
  obtain ⟨m, hm, rfl⟩ := cvD_int Tryd.underlying47 h
  exact ⟨m, by simpa [IntKind.min, IntKind.max, IntKind.signed, IntKind.bits] using hm, rfl⟩
theorem dec65 {H : Type} {n : Nat} {d : DataW H} {c : List CV} (h : cvD Tryd.prog n 65 d = some c) : ∃ x : Int, (-9223372036854775808 ≤ x ∧ x ≤ 9223372036854775807) ∧ c = Enc.enc x := by
  obtain ⟨m, hm, rfl⟩ := cvD_int Tryd.underlying65 h
  exact ⟨m, by simpa [IntKind.min, IntKind.max, IntKind.signed, IntKind.bits] using hm, rfl⟩
def OkInst (x : Inst) : Prop := (fun x : Int => -9223372036854775808 ≤ x ∧ x ≤ 9223372036854775807) x.Op ∧ (fun x : Int => -9223372036854775808 ≤ x ∧ x ≤ 9223372036854775807) x.A ∧ (fun x : Int => -9223372036854775808 ≤ x ∧ x ≤ 9223372036854775807) x.B ∧ (fun x : Int => -9223372036854775808 ≤ x ∧ x ≤ 9223372036854775807) x.C ∧ (fun x : Int => -9223372036854775808 ≤ x ∧ x ≤ 9223372036854775807) x.Obj ∧ (fun x : Int => -9223372036854775808 ≤ x ∧ x ≤ 9223372036854775807) x.N ∧ (fun x : Int => -9223372036854775808 ≤ x ∧ x ≤ 9223372036854775807) x.Fn ∧ (fun x : Int => -9223372036854775808 ≤ x ∧ x ≤ 9223372036854775807) x.Order
theorem dec83 {H : Type} {n : Nat} {d : DataW H} {c : List CV} (h : cvD Tryd.prog n 83 d = some c) : ∃ x : Inst, OkInst x ∧ c = Enc.enc x := by
  obtain ⟨m, l, rfl, rfl, hl, h⟩ := cvD_struct Tryd.underlying83 h
  have hl : l.length = 8 := hl
  match l, hl with
  | [d0, d1, d2, d3, d4, d5, d6, d7], _ =>
    simp only [List.zipWith] at h
    obtain ⟨a0, b0, h0, k1, rfl⟩ := concatM_cons h
    obtain ⟨a1, b1, h1, k2, rfl⟩ := concatM_cons k1
    obtain ⟨a2, b2, h2, k3, rfl⟩ := concatM_cons k2
    obtain ⟨a3, b3, h3, k4, rfl⟩ := concatM_cons k3
    obtain ⟨a4, b4, h4, k5, rfl⟩ := concatM_cons k4
    obtain ⟨a5, b5, h5, k6, rfl⟩ := concatM_cons k5
    obtain ⟨a6, b6, h6, k7, rfl⟩ := concatM_cons k6
    obtain ⟨a7, b7, h7, k8, rfl⟩ := concatM_cons k7
    obtain rfl := concatM_nil k8
    obtain ⟨x0, q0, rfl⟩ := dec81 h0
    obtain ⟨x1, q1, rfl⟩ := dec3 h1
    obtain ⟨x2, q2, rfl⟩ := dec3 h2
    obtain ⟨x3, q3, rfl⟩ := dec3 h3
    obtain ⟨x4, q4, rfl⟩ := dec3 h4
    obtain ⟨x5, q5, rfl⟩ := dec3 h5
    obtain ⟨x6, q6, rfl⟩ := dec47 h6
    obtain ⟨x7, q7, rfl⟩ := dec65 h7
    exact ⟨⟨x0, x1, x2, x3, x4, x5, x6, x7⟩, ⟨q0, q1, q2, q3, q4, q5, q6, q7⟩, rfl⟩
theorem dec22 {H : Type} {n : Nat} {d : DataW H} {c : List CV} (h : cvD Tryd.prog n 22 d = some c) : ∃ x : List Inst, (∀ y ∈ x, (OkInst) y) ∧ c = Enc.enc x := by
  obtain ⟨L, hQ, rfl⟩ := cvD_sliceQ (g := Enc.enc) (Q := OkInst) Tryd.underlying22 (fun n d c h => dec83 h) h
  exact ⟨L, hQ, rfl⟩
def OkFunc (x : Func) : Prop := (fun _ : ByteArray => True) x.Name ∧ (fun l : List Inst => ∀ x ∈ l, (OkInst) x) x.Code
theorem dec24 {H : Type} {n : Nat} {d : DataW H} {c : List CV} (h : cvD Tryd.prog n 24 d = some c) : ∃ x : Func, OkFunc x ∧ c = Enc.enc x := by
  obtain ⟨m, l, rfl, rfl, hl, h⟩ := cvD_struct Tryd.underlying24 h
  have hl : l.length = 2 := hl
  match l, hl with
  | [d0, d1], _ =>
    simp only [List.zipWith] at h
    obtain ⟨a0, b0, h0, k1, rfl⟩ := concatM_cons h
    obtain ⟨a1, b1, h1, k2, rfl⟩ := concatM_cons k1
    obtain rfl := concatM_nil k2
    obtain ⟨x0, q0, rfl⟩ := dec9 h0
    obtain ⟨x1, q1, rfl⟩ := dec22 h1
    exact ⟨⟨x0, x1⟩, ⟨q0, q1⟩, rfl⟩
theorem open24 {H : Type} {enc : TypeId × Value → H} {W : World} {sp : Nat → Bool} {held : Bool} {v : Value} {d : DataW H} {p : List MemPlace} {r : Go.Reach} {b0 : Nat} (hv : Value.okWide Tryd.prog W r b0 24 v) (h : DataW.Trod enc Tryd.prog W 0 sp held 24 v d p) :
    ∃ x : Func, OkFunc x ∧ AVRep W m0 (fun _ => False) v (.agg ((Enc.enc x).map .p)) := by
  obtain ⟨cvs, e, hr⟩ := rep_struct (m := 8) Tryd.underlying24 (by kernel_rfl) hv h
  obtain ⟨x, hx, rfl⟩ := dec24 e
  exact ⟨x, hx, hr⟩
def OkVar (x : Var) : Prop := (fun _ : ByteArray => True) x.Name ∧ (fun x : Int => -9223372036854775808 ≤ x ∧ x ≤ 9223372036854775807) x.Init
def OkStart (x : Start) : Prop := (fun x : Int => -9223372036854775808 ≤ x ∧ x ≤ 9223372036854775807) x.Func ∧ (fun x : Int => -9223372036854775808 ≤ x ∧ x ≤ 9223372036854775807) x.Arg
def OkProgram (x : Program) : Prop := (fun l : List Var => ∀ x ∈ l, (OkVar) x) x.Vars ∧ (fun l : List ByteArray => ∀ x ∈ l, (fun _ : ByteArray => True) x) x.Mutexes ∧ (fun l : List ByteArray => ∀ x ∈ l, (fun _ : ByteArray => True) x) x.Conds ∧ (fun l : List Func => ∀ x ∈ l, (OkFunc) x) x.Funcs ∧ (fun l : List Start => ∀ x ∈ l, (OkStart) x) x.Threads
theorem gN2 : Tryd.prog.globalNamed "modelcheck/value.names" = some 2 := by kernel_rfl
theorem gN0 : Tryd.prog.globalNamed "modelcheck/inst.rows" = some 0 := by kernel_rfl
/-- The package variables as the rows lay them. -/
theorem gT2 : (Tryd.prog.globals[2]?).map (·.type) = some 217 := by kernel_rfl
set_option maxRecDepth 100000 in
theorem gC2 : cvD Tryd.prog 6 217 (Go.Proofs.YtihjddokgmjafaaDoor.Rows.laid_modelcheck_value_names (H := Unit)) = some (encL namesTab) := by kernel_rfl
theorem gT0 : (Tryd.prog.globals[0]?).map (·.type) = some 184 := by kernel_rfl
set_option maxRecDepth 100000 in
theorem gC0 : cvD Tryd.prog 6 184 (Go.Proofs.YtihjddokgmjafaaDoor.Rows.laid_modelcheck_inst_rows (H := Unit)) = some (encL rowsTab) := by kernel_rfl
set_option maxRecDepth 100000 in
theorem globs {W : World} (laid : List (String × DataW Unit)) (he : laid = [("modelcheck/value.names", Go.Proofs.YtihjddokgmjafaaDoor.Rows.laid_modelcheck_value_names), ("modelcheck/inst.rows", Go.Proofs.YtihjddokgmjafaaDoor.Rows.laid_modelcheck_inst_rows)])
    (h : laidMetH Tryd.prog laid W) : ∀ g cs, Globals.G g = some cs → AVRep W m0 (fun _ => False) (.pointer (some ⟨g, 0, none⟩)) (.cell (.ep cs 0)) := by
  subst he
  rw [MakeChecks.laidMetH_plain _ _ _ (by kernel_rfl)] at h
  obtain ⟨ps, ⟨g0, t0, cs0, f0, p0, q0, hg0, ht0, hv0, hd0, ⟨g1, t1, cs1, f1, p1, q1, hg1, ht1, hv1, hd1, _, _⟩, _⟩, _, _⟩ := h
  obtain rfl := Option.some.inj (gN2.symm.trans hg0)
  obtain rfl := Option.some.inj (gT2.symm.trans ht0)
  obtain rfl := Option.some.inj (gN0.symm.trans hg1)
  obtain rfl := Option.some.inj (gT0.symm.trans ht1)
  intro g cs hgc
  have hgc : (if g = 0 then some (encL rowsTab) else if g = 2 then some (encL namesTab) else none) = some cs := hgc
  split at hgc
  · rename_i e
    subst e
    cases hgc
    exact rep_global (m := 6) (t := 184) (by kernel_rfl) hd1 gC0 fun j => by simpa using World.var?_cell hg1 hv1 j
  · split at hgc
    · rename_i e
      subst e
      cases hgc
      exact rep_global (m := 6) (t := 217) (by kernel_rfl) hd0 gC2 fun j => by simpa using World.var?_cell hg0 hv0 j
    · cases hgc
end Go.Dc
end
