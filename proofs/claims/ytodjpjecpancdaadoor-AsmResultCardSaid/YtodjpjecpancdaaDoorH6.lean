/- Contracts of functions, by their numbers, and the laws that walk them. Conditions: as each states. -/
import Derived.Test.YtodjpjecpancdaaDoorH4
import Derived.Test.YtodjpjecpancdaaDoorH5
import Derived.Lib.Bytealg
import Derived.KernelRfl
import Derived.Test.YtodjpjecpancdaaDoorRows
import Derived.LaidMore
import Derived.MakeChecks
set_option linter.all false
section
set_option linter.all false
namespace Go.Dc
open Go Go.Hw Go.Proofs
set_option maxRecDepth 100000
def program_Check (fuelN : Nat) (a0 : Program) : Option (Int × Int × Int) :=
 Option.bind (program_checkNames a0) (fun y1 => Option.bind (α := Int × Int × Int) (cond (eqI y1.1 0) (Option.bind (program_checkObjects a0) (fun y15 => some ((y15.1, y15.2.fn, y15.2.inst)))) (some ((y1.1, y1.2.fn, y1.2.inst)))) (fun o => match o with | (i6, i7, i9) => Option.bind (α := Int × Int × Int) (cond (eqI i6 0) (Option.bind (program_checkCode fuelN a0) (fun y28 => some ((y28.1, y28.2.fn, y28.2.inst)))) (some ((i6, i7, i9)))) (fun o => match o with | (i20, i21, i22) => cond (eqI i20 0) (Option.bind (program_checkThreads a0) (fun y31 => cond (!(eqI y31.1 0)) (some (y31.1, y31.2.fn, y31.2.inst)) (some (0, (-1), (-1))))) (cond (!(eqI i20 0)) (some (i20, i21, i22)) (some (0, (-1), (-1)))))))
set_option maxHeartbeats 2000000 in
theorem at_program_Check {fuelN : Nat} {a0 : Program} {r : Int × Int × Int} (hs : program_Check fuelN a0 = some r) : At Tryd.prog 19 [.agg (eA a0)] (.tup [iV .i64 r.1, iV .i64 r.2.1, iV .i64 r.2.2]) := by
 refine at_bound (by kernel_rfl) fun hb => ?_
 have hb1 : LenOk (.sl a0.Vars.length (encL a0.Vars)) := lkc hb
 have hb2 : LenOk (.sl a0.Mutexes.length (encL a0.Mutexes)) := lkc hb
 have hb3 : LenOk (.sl a0.Conds.length (encL a0.Conds)) := lkc hb
 have hb4 : LenOk (.sl a0.Funcs.length (encL a0.Funcs)) := lkc hb
 have hb5 : LenOk (.sl a0.Threads.length (encL a0.Threads)) := lkc hb
 refine at_code mixed Tryd.func19 (by kernel_rfl) rfl (by kernel_rfl) rfl fun Q hQ => ?_
 rw [program_Check] at hs
 refine goR f0 ?_
 revert hs; refine bK fun y1 hx2 hs => ?_
 refine cP f0 (at_program_checkNames hx2) ?_
 refine goR2 f0 ?_
 revert hs; refine bK fun o11 e10 hs => ?_
 refine awp_cutK (fun (v : Int × Int × Int) (σ : St) => some (v) = some o11 /\ σ.env 1 = .cell (.ref (.o 1 0 0) 0) /\ σ.env 5 = iV .i64 v.1 /\ σ.env 6 = .cell (.ref (.o 2 5 0) 0) /\ σ.hp (.o 1 0 0) = some (.cells (eA a0)) /\ σ.hp (.o 2 5 0) = some (.cells [nC v.2.1, nC v.2.2]) /\ 3 <= σ.gen) (by rfl) (fun Q hK12 hX13 => ?_) (fun v σ1 hp => ?_)
 ·refine goR f0 ?_
  revert e10; refine cS f0 ?_ ?_ <;> intro h14 e10
  ·refine goR f0 ?_
   revert e10; refine bK fun y15 hx16 e10 => ?_
   refine cP f0 (at_program_checkObjects hx16) ?_
   refine goR f0 ?_
   exact hK12 (y15.1, y15.2.fn, y15.2.inst) _ _ (Gh.refl _) ⟨e10, pv f0, pv f0, pv f0, pv f0, pv f0, pg⟩
  ·refine goR f0 ?_
   exact hK12 (y1.1, y1.2.fn, y1.2.inst) _ _ (Gh.refl _) ⟨e10, pv f0, pv f0, pv f0, pv f0, pv f0, pg⟩
 ·obtain ⟨i6, i7, i9⟩ := v
  dsimp only at hp
  obtain ⟨e10, h2_1, h2_5, h2_6, g2_0, g2_1, n2_g⟩ := hp
  obtain rfl := sj e10
  try dsimp only at hs
  have n2_0 : ¬ (σ1.gen = 0) := by omega
  have n2_1 : ¬ (σ1.gen = 1) := by omega
  have F1 := an h2_1 (an h2_5 (an h2_6 (an g2_0 (an g2_1 (an n2_0 n2_1)))))
  refine goR2 F1 ?_
  revert hs; refine bK fun o24 e23 hs => ?_
  refine awp_cutK (fun (v : Int × Int × Int) (σ : St) => some (v) = some o24 /\ σ.env 1 = .cell (.ref (.o 1 0 0) 0) /\ σ.env 5 = iV .i64 v.1 /\ σ.env 6 = .cell (.ref (.o 2 5 0) 0) /\ σ.hp (.o 1 0 0) = some (.cells (eA a0)) /\ σ.hp (.o 2 5 0) = some (.cells [nC v.2.1, nC v.2.2]) /\ (σ1.gen + 1) <= σ.gen) (by rfl) (fun Q hK25 hX26 => ?_) (fun v σ3 hp => ?_)
  ·refine goR F1 ?_
   revert e23; refine cS F1 ?_ ?_ <;> intro h27 e23
   ·refine goR F1 ?_
    revert e23; refine bK fun y28 hx29 e23 => ?_
    refine cP F1 (at_program_checkCode hx29) ?_
    refine goR F1 ?_
    exact hK25 (y28.1, y28.2.fn, y28.2.inst) _ _ (Gh.refl _) ⟨e23, pv F1, pv F1, pv F1, pv F1, pv F1, pg⟩
   ·refine goR F1 ?_
    exact hK25 (i6, i7, i9) _ _ (Gh.refl _) ⟨e23, pv F1, pv F1, pv F1, pv F1, pv F1, pg⟩
  ·obtain ⟨i20, i21, i22⟩ := v
   dsimp only at hp
   obtain ⟨e23, h4_1, h4_5, h4_6, g4_0, g4_1, n4_g⟩ := hp
   obtain rfl := sj e23
   try dsimp only at hs
   have n4_0 : ¬ (σ3.gen = 0) := by omega
   have n4_1 : ¬ (σ3.gen = 1) := by omega
   have F2 := an h4_1 (an h4_5 (an h4_6 (an g4_0 (an g4_1 (an n4_0 n4_1)))))
   refine goR F2 ?_
   revert hs; refine cS F2 ?_ ?_ <;> intro h30 hs
   ·refine goR F2 ?_
    revert hs; refine bK fun y31 hx32 hs => ?_
    refine cP F2 (at_program_checkThreads hx32) ?_
    refine goR F2 ?_
    revert hs; refine cS F2 ?_ ?_ <;> intro h33 hs
    ·refine goD F2 ?_
     obtain rfl := sj hs
     exact hQ _ _ (rg F2 (Gh.refl _))
    ·refine goR F2 ?_
     obtain rfl := sj hs
     exact hQ _ _ (rg F2 (Gh.refl _))
   ·refine goR F2 ?_
    revert hs; refine cS F2 ?_ ?_ <;> intro h34 hs
    ·refine goD F2 ?_
     obtain rfl := sj hs
     exact hQ _ _ (rg F2 (Gh.refl _))
    ·refine goR F2 ?_
     obtain rfl := sj hs
     exact hQ _ _ (rg F2 (Gh.refl _))
end Go.Dc
end
section
set_option linter.all false
namespace Go.Dc.Pa
open Go Go.Hw Go.Dc Go.Dc.Pl
set_option maxRecDepth 100000
theorem cond_some {α : Type} (c : Bool) (a b : α) : cond c (some a) (some b) = some (cond c a b) := by cases c <;> rfl
theorem bget_eq {s : ByteArray} {k : Nat} (h : k < s.size) : s[k]? = some (bget s k) := by simp [bget, h]
def badP (c : UInt8) : Bool := andB (andB (!(orB (andB (!(ltI (c.toNat : Int) 97)) (!(ltI 122 (c.toNat : Int)))) (andB (!(ltI (c.toNat : Int) 65)) (!(ltI 90 (c.toNat : Int)))))) (!(eqI (c.toNat : Int) 95))) (orB (ltI (c.toNat : Int) 48) (ltI 57 (c.toNat : Int)))
theorem name_tot (s : ByteArray) : ∃ b, program_ValidName s = some b := by
 rw [program_ValidName]
 simp only [program_letter, Option.isSome_some, Option.getD_some]
 by_cases e : 1 <= s.size /\ s.size <= 16
 ·have h := srchN (L := program_ValidName_L1 s) (fun k => onlyIf (badP (bget s k)) false) (fun _ => rfl) s.size 0 fun q j hj => by
   rw [Nat.zero_add, program_ValidName_L1, bget_eq hj, Option.bind_some, program_letter, Option.bind_some]
   exact step_only _ _ _
  rw [show (orB (ltI ((s.size : Nat) : Int) 1) (ltI 16 ((s.size : Nat) : Int))) = false by simp [orB_d, ltI_d]; omega, h]
  rw [show inB ((0 : Nat) : Int) s.size = true by simp [inB_d]; omega, show lenB s.size = true by rw [lenB_d]; simp; omega]
  generalize first (fun k (_ : Unit) => onlyIf (badP (bget s k)) false) (List.replicate s.size ()) 0 = o
  simp only [Bool.not_false, Bool.not_true, show orB false true = true from rfl, guardO_t, Option.bind_some]
  cases orB false (!orB (andB (!ltI (↑(bget s 0).toNat) 97) (!ltI 122 ↑(bget s 0).toNat)) (andB (!ltI (↑(bget s 0).toNat) 65) (!ltI 90 ↑(bget s 0).toNat)))
  ·cases o with
   | none => exact ⟨_, rfl⟩
   | some b => exact ⟨_, rfl⟩
  ·exact ⟨_, rfl⟩
 ·rw [show (orB (ltI ((s.size : Nat) : Int) 1) (ltI 16 ((s.size : Nat) : Int))) = true by simp [orB_d, ltI_d]; omega]
  exact ⟨_, rfl⟩
theorem contains_tot (l : List ByteArray) (s : ByteArray) : ∃ b, slices_Contains_string l s = some b := by
 have h := srch (L := slices_Index_string_L1 s) (fun k x => onlyIf (eqS s x) (k : Int)) (fun _ => rfl) l 0 fun j x hx q => by rw [slices_Index_string_L1]; exact step_only _ _ _
 rw [slices_Contains_string, slices_Index_string, h]
 cases first (fun k x => onlyIf (eqS s x) (k : Int)) l 0 <;> exact ⟨_, rfl⟩
theorem names_tot1 (a : List ByteArray) : ∀ (l : List ByteArray) (k : Nat), k + l.length <= a.length -> ∃ r, program_names_L1 a l k = some r
 | [], k, _ => ⟨_, rfl⟩
 | x :: q, k, h => by
  simp only [List.length_cons] at h
  obtain ⟨b, hb⟩ := name_tot x
  obtain ⟨c, hc⟩ := contains_tot (subL a 0 (k : Int)) x
  obtain ⟨r, hr⟩ := names_tot1 a q (k + 1) (by omega)
  rw [program_names_L1, hb, Option.bind_some, guardO_tt _ (by rw [slB_d, decide_eq_true_eq]; omega), Option.bind_some, hc, Option.bind_some, hr]
  cases b
  ·exact ⟨_, rfl⟩
  ·cases c <;> exact ⟨_, rfl⟩
theorem names_tot (l : List ByteArray) : ∃ r, program_names l = some r := by
 obtain ⟨r, hr⟩ := names_tot1 l l 0 (by omega)
 rw [program_names, hr]
 cases r <;> exact ⟨_, rfl⟩
theorem own_varNames {p : Program} (h : p.Vars.length <= 1048576) : program_varNames p = some (p.Vars.map Var.Name) := by
 rw [program_varNames, appM (L := program_varNames_L1) (b := 16) (m := 1048576) Var.Name (by decide) (fun _ _ => rfl) (fun x q a k => by rw [program_varNames_L1]; rfl) p.Vars [] 0 (by simp only [List.length_nil]; omega)]; rfl
theorem own_funcNames {p : Program} (h : p.Funcs.length <= 1048576) : program_funcNames p = some (p.Funcs.map Func.Name) := by
 rw [program_funcNames, appM (L := program_funcNames_L1) (b := 16) (m := 1048576) Func.Name (by decide) (fun _ _ => rfl) (fun x q a k => by rw [program_funcNames_L1]; rfl) p.Funcs [] 0 (by simp only [List.length_nil]; omega)]; rfl
theorem checkNames_tot1 : ∀ (l : List (List ByteArray)) (k : Nat), ∃ r, program_checkNames_L1 l k = some r
 | [], k => ⟨_, rfl⟩
 | x :: q, k => by
  obtain ⟨b, hb⟩ := names_tot x
  obtain ⟨r, hr⟩ := checkNames_tot1 q (k + 1)
  rw [program_checkNames_L1, hb, Option.bind_some, hr, cond_some]; exact ⟨_, rfl⟩
theorem checkNames_tot {p : Program} (hp : Small p) : ∃ r, program_checkNames p = some r := by
 rw [program_checkNames, own_varNames hp.vars, Option.bind_some, Option.bind_some, show lenB [p.Vars.map Var.Name, p.Mutexes, p.Conds].length = true from rfl, guardO_t]
 obtain ⟨r, hr⟩ := checkNames_tot1 [p.Vars.map Var.Name, p.Mutexes, p.Conds] 0
 obtain ⟨s, hs⟩ := names_tot (p.Funcs.map Func.Name)
 rw [hr, own_funcNames hp.funs]
 simp only [Option.bind_some, hs]
 cases r <;> exact ⟨_, rfl⟩
theorem checkObjects_tot1 : ∀ (l : List Var) (k : Nat), ∃ r, program_checkObjects_L1 l k = some r
 | [], k => ⟨_, rfl⟩
 | x :: q, k => by
  obtain ⟨r, hr⟩ := checkObjects_tot1 q (k + 1)
  rw [program_checkObjects_L1, program_value, Option.bind_some, hr, cond_some]; exact ⟨_, rfl⟩
theorem checkObjects_tot (p : Program) : ∃ r, program_checkObjects p = some r := by
 obtain ⟨r, hr⟩ := checkObjects_tot1 p.Vars 0
 rw [program_checkObjects, hr]
 cases r <;> simp only [Option.bind_some, cond_some] <;> exact ⟨_, rfl⟩
theorem checkThreads_tot1 (p : Program) : ∀ (l : List Start) (k : Nat), ∃ r, program_checkThreads_L1 p l k = some r
 | [], k => ⟨_, rfl⟩
 | x :: q, k => by
  obtain ⟨r, hr⟩ := checkThreads_tot1 p q (k + 1)
  rw [program_checkThreads_L1, program_value, Option.bind_some, hr, cond_some, cond_some]; exact ⟨_, rfl⟩
theorem checkThreads_tot (p : Program) : ∃ r, program_checkThreads p = some r := by
 obtain ⟨r, hr⟩ := checkThreads_tot1 p p.Threads 0
 rw [program_checkThreads, hr]
 cases r <;> simp only [Option.bind_some, cond_some] <;> exact ⟨_, rfl⟩
theorem orB_t (b : Bool) : orB b true = true := by cases b <;> rfl
theorem inst_L1 (r : InstRow) (y : Arr 7 Int) (fuel : Nat) : ∃ o, inst_Check_L1 r y (fuel + 8) 0 = some o := by
 have h := srchI (L := inst_Check_L1 r y) (List.range 7) (fun k _ => onlyIf (andB (!(r.uses.f k)) (!(eqI (y.f k) 0))) 9) (fun q => by rw [inst_Check_L1]; rfl) (fun q k x hx => by
  have hk := getN_some hx
  rw [List.length_range] at hk
  rw [inst_Check_L1, ltI_d, show decide ((k : Int) < 7) = true by simp; omega, cond_true, show inB (k : Int) 7 = true by simp [inB_d]; omega, guardO_t, guardO_t, Int.toNat_natCast, wrapN (by omega) (by omega)]
  exact step_only _ _ _) (fuel + 8) 0 (by simp) (by simp)
 exact ⟨_, h⟩
theorem inst_L2 (a : Inst) (r : InstRow) (fuel : Nat) : ∃ o, inst_Check_L2 a r (fuel + 8) 0 = some o := by
 have h := srchI (L := inst_Check_L2 a r) (List.range 3) (fun k _ => onlyIf (andB (r.uses.f k) (orB (ltI ((Arr.of 3 [a.A, a.B, a.C] : Arr 3 Int).f k) 0) (!(ltI ((Arr.of 3 [a.A, a.B, a.C] : Arr 3 Int).f k) 8)))) 10) (fun q => by rw [inst_Check_L2]; rfl) (fun q k x hx => by
  have hk := getN_some hx
  rw [List.length_range] at hk
  rw [inst_Check_L2, ltI_d, show decide ((k : Int) < 3) = true by simp; omega, cond_true, show inB (k : Int) 3 = true by simp [inB_d]; omega, show inB (k : Int) 7 = true by simp [inB_d]; omega, guardO_t, guardO_t, Int.toNat_natCast, wrapN (by omega) (by omega)]
  exact step_only _ _ _) (fuel + 8) 0 (by simp) (by simp)
 exact ⟨_, h⟩
theorem vname_tot (n : Int) : ∃ s, value_Name n = some s := by
 rw [value_Name]
 cases h : orB (ltI n 1) (ltI 10 n)
 ·have h2 : 1 <= n /\ n <= 10 := by simp [orB_d, ltI_d] at h; omega
  rw [wrapN (by omega) (by omega), getI, if_pos (by omega), gd_get (show (n - 1).toNat < namesTab.length from by simp only [namesTab, List.length_cons, List.length_nil]; omega)]; exact ⟨_, rfl⟩
 ·exact ⟨_, rfl⟩
theorem inst_tot (fuel : Nat) (x : Inst) : ∃ r, inst_Check (fuel + 8) x = some r := by
 rw [inst_Check, inst_known, Option.bind_some]
 cases h : andB (!(ltI x.Op 1)) (!(ltI 22 x.Op))
 ·exact ⟨_, rfl⟩
 ·have h2 : 1 <= x.Op /\ x.Op <= 22 := by simp [andB_d, ltI_d] at h; omega
  have hr := gd_get (l := rowsTab) (k := (x.Op - 1).toNat) (by simp only [rowsTab, List.length_cons, List.length_nil]; omega)
  obtain ⟨a, ha⟩ := inst_L1 (gd rowsTab (x.Op - 1).toNat) (Arr.of 7 [x.A, x.B, x.C, x.Obj, x.N, x.Fn, x.Order]) fuel
  obtain ⟨b, hb⟩ := inst_L2 x (gd rowsTab (x.Op - 1).toNat) fuel
  obtain ⟨c, hc⟩ := vname_tot x.Fn
  rw [wrapN (by omega) (by omega), getI, if_pos (by omega), hr, Bool.not_true, cond_false, Option.bind_some, inst_values, Option.bind_some, ha, hb, hc]
  cases a with
  | inr a => exact ⟨_, rfl⟩
  | inl a =>
   cases b with
   | inr b => exact ⟨_, rfl⟩
   | inl b =>
    simp only [Option.bind_some, Option.isSome_some, orB_t, guardO_t, cond_some]; exact ⟨_, rfl⟩
theorem objects_tot (p : Program) (op : Int) : ∃ y, program_objects p op = some y := by
 simp only [program_objects, cond_some, Option.bind_some]
 split <;> exact ⟨_, rfl⟩
theorem checkInst_tot (fuel : Nat) (p : Program) (x : Inst) (n : Int) : ∃ y, program_checkInst (fuel + 8) p x n = some y := by
 obtain ⟨r, hr⟩ := inst_tot fuel x
 obtain ⟨y, hy⟩ := objects_tot p x.Op
 rw [program_checkInst, hr, Option.bind_some, hy, Option.bind_some]
 simp only [cond_some]; exact ⟨_, rfl⟩
theorem code_tot1 {fuel : Nat} {p : Program} {y : Int} {k : Nat} {f : Func} (hf : p.Funcs[k]? = some f) {rest : List (ProgramPlace × Inst)} (h : ∃ r, program_checkCode_L1 (fuel + 8) p y rest = some r) : ∀ (q : List Inst) (j : Nat), ∃ r, program_checkCode_L1 (fuel + 8) p y (insC k j q ++ rest) = some r
 | [], j => h
 | x :: q, j => by
  obtain ⟨r, hr⟩ := code_tot1 hf h q (j + 1)
  obtain ⟨c, hc⟩ := checkInst_tot fuel p x ((f.Code.length : Nat) : Int)
  rw [insC, List.cons_append, program_checkCode_L1, getI_nat, hf, Option.bind_some, hc, Option.bind_some, hr, cond_some, cond_some]; exact ⟨_, rfl⟩
theorem code_tot2 {fuel : Nat} {p : Program} {y : Int} : ∀ (l : List Func) (k : Nat), l = p.Funcs.drop k -> ∃ r, program_checkCode_L1 (fuel + 8) p y (insF k l) = some r
 | [], k, _ => ⟨_, rfl⟩
 | f :: l, k, hd => by
  obtain ⟨hf, hk, hr⟩ := drop_next hd
  exact code_tot1 hf (code_tot2 l (k + 1) hr) f.Code 0
theorem checkCode_tot (fuel : Nat) {p : Program} (hp : Small p) : ∃ r, program_checkCode (fuel + 8) p = some r := by
 have hg : (lenB p.Funcs.length && p.Funcs.all fun f => lenB f.Code.length) = true := by
  have := hp.funs
  simp only [Bool.and_eq_true, List.all_eq_true, lenB_d, decide_eq_true_eq]; exact ⟨by omega, fun f hf => by have := hp.codes f hf; omega⟩
 have h := srch (L := slices_IndexFunc_api_Func_program_checkCode_1_L1) (fun k f => onlyIf (ltI 64 ((f.Code.length : Nat) : Int)) (k : Int)) (fun _ => rfl) p.Funcs 0 fun j x hx q => by rw [slices_IndexFunc_api_Func_program_checkCode_1_L1]; exact step_only _ _ _
 have h2 : ∃ y, slices_IndexFunc_api_Func_program_checkCode_1 p.Funcs = some y := by
  rw [slices_IndexFunc_api_Func_program_checkCode_1, h]
  cases first (fun k f => onlyIf (ltI 64 ((f.Code.length : Nat) : Int)) (k : Int)) p.Funcs 0 <;> exact ⟨_, rfl⟩
 obtain ⟨y, hy⟩ := h2
 obtain ⟨r, hr⟩ := code_tot2 (fuel := fuel) (p := p) (y := y) p.Funcs 0 rfl
 rw [program_checkCode, hy, Option.bind_some, program_instructions, Option.bind_some, it_instructions, hg, guardO_t, Option.bind_some, hr, Option.bind_some]
 rcases r with r | r | r
 ·dsimp only; rw [cond_some]; exact ⟨_, rfl⟩
 ·dsimp only; rw [cond_some]; exact ⟨_, rfl⟩
 ·exact ⟨_, rfl⟩
theorem check_tot {p : Program} (hp : Small p) : ∃ r, program_Check 67108864 p = some r := by
 obtain ⟨a, ha⟩ := checkNames_tot hp
 obtain ⟨b, hb⟩ := checkObjects_tot p
 obtain ⟨c, hc⟩ := checkCode_tot 67108856 hp
 obtain ⟨d, hd⟩ := checkThreads_tot p
 rw [program_Check, ha, Option.bind_some, hb, hc, hd]
 simp only [Option.bind_some, cond_some]
 exact ⟨_, rfl⟩
def chk (p : Program) : Int × Int × Int := (program_Check 67108864 p).getD (0, 0, 0)
theorem own_check {p : Program} (hp : Small p) : program_Check 67108864 p = some (chk p) := by
 obtain ⟨r, hr⟩ := check_tot hp
 rw [chk, hr]; rfl
end Go.Dc.Pa
end
section
set_option linter.all false
namespace Go.Dc
open Go Go.Hw Go.Proofs
set_option maxRecDepth 100000
def lex_Scan_1 (a0 : UInt8) : Option Bool :=
 some (!(eqI (a0.toNat : Int) 10))
set_option maxHeartbeats 2000000 in
theorem at_lex_Scan_1 {a0 : UInt8} {r : Bool} (hs : lex_Scan_1 a0 = some r) : At Tryd.prog 22 [iV .u8 (a0.toNat : Int)] (bV r) := by
 refine at_bound (by kernel_rfl) fun hb => ?_
 refine at_code mixed Tryd.func22 (by kernel_rfl) rfl (by kernel_rfl) rfl fun Q hQ => ?_
 rw [lex_Scan_1] at hs
 refine goR f0 ?_
 obtain rfl := sj hs
 exact hQ _ _ (rg f0 (Gh.refl _))
end Go.Dc
end
section
set_option linter.all false
namespace Go.Dc
open Go Go.Hw Go.Proofs
set_option maxRecDepth 100000
def lex_take_lex_Scan_1_L1 (a0 : ByteArray) : Nat -> Int -> Option Int
 | 0, _ => none
 | q44 + 1, i30 => guardO (orB (!(ltI i30 ((a0.size : Nat) : Int))) (inB i30 a0.size)) (cond (ltI i30 ((a0.size : Nat) : Int)) (Option.bind (lex_Scan_1 (bget a0 ((i30).toNat))) (fun y50 => cond y50 (lex_take_lex_Scan_1_L1 a0 q44 (IntKind.i64.wrap (i30 + 1))) (some (i30)))) (some (i30)))
def lex_take_lex_Scan_1 (fuelN : Nat) (a0 : ByteArray) (a1 : Int) : Option Int :=
 Option.bind (α := Int) (Option.bind (lex_take_lex_Scan_1_L1 a0 fuelN a1) (fun i37 => some (i37))) (fun i25 => some i25)
set_option maxHeartbeats 2000000 in
theorem at_lex_take_lex_Scan_1 {fuelN : Nat} {a0 : ByteArray} {a1 : Int} {r : Int} (hs : lex_take_lex_Scan_1 fuelN a0 a1 = some r) : At Tryd.prog 23 [sV a0, iV .i64 a1, .cell (.p (.c (.func (.func 22) #[] #[])))] (iV .i64 r) := by
 refine at_bound (by kernel_rfl) fun hb => ?_
 refine at_code mixed Tryd.func23 (by kernel_rfl) rfl (by kernel_rfl) rfl fun Q hQ => ?_
 rw [lex_take_lex_Scan_1] at hs
 refine goR2 f0 ?_
 revert hs; refine bK fun o27 e26 hs => ?_
 refine awp_cutK (fun (v : Int) (σ : St) => some (v) = some o27 /\ σ.env 1 = iV .i64 v /\ 1 <= σ.gen) (by rfl) (fun Q hK28 hX29 => ?_) (fun i25 σ3 hp => ?_)
 ·refine goR f0 ?_
  revert e26; refine bK fun o39 e38 e26 => ?_
  refine awp_loopW (fun (v : Nat × Int) (σ : St) => lex_take_lex_Scan_1_L1 a0 v.1 v.2 = some o39 /\ σ.env 0 = sV a0 /\ σ.env 1 = iV .i64 v.2 /\ σ.env 2 = .cell (.p (.c (.func (.func 22) #[] #[]))) /\ 1 <= σ.gen) (fun v => v.1) _ (Gh.refl _) (fuelN, a1) ⟨e38, pv f0, pv f0, pv f0, pg⟩ fun v σ6 hp L40 hL41 => ?_
  obtain ⟨q43, i30⟩ := v
  dsimp only at hp hL41
  obtain ⟨e38, h5_0, h5_1, h5_2, n5_g⟩ := hp
  rcases q43 with _ | q44
  ·rw [lex_take_lex_Scan_1_L1] at e38; cases e38
  ·rw [lex_take_lex_Scan_1_L1] at e38; try dsimp only at e38
   obtain ⟨g48, e38⟩ := guardO_some e38
   have g48a : (ltI i30 ((a0.size : Nat) : Int)) = true -> 0 <= i30 := fun hg => (under_byte g48 hg).1
   have g48c : (ltI i30 ((a0.size : Nat) : Int)) = true -> a0[(i30).toNat]? = some (bget a0 ((i30).toNat)) := fun hg => by simpa using (under_byte g48 hg).2.2
   have F1 := an h5_0 (an h5_1 (an h5_2 (an g48a g48c)))
   refine goG F1 F1 ?_
   refine gsel_split (fun h49 => ?_) (fun h49 => ?_)
   ·replace e38 := condT h49 e38
    have F2 := an F1 h49
    refine goG F2 F2 ?_
    revert e38; refine bK fun y50 hx51 e38 => ?_
    refine cP F2 (at_lex_Scan_1 hx51) ?_
    refine goG F2 F2 ?_
    revert e38; refine cS F2 ?_ ?_ <;> intro h52 e38
    ·refine goG F2 F2 ?_
     exact hL41 (q44, IntKind.i64.wrap (i30 + 1)) _ _ (Gh.refl _) ⟨e38, pv F2, pv F2, pv F2, pg⟩ (by omega)
    ·refine goG F2 F2 ?_
     obtain rfl := sj e38
     try dsimp only at e26
     exact hK28 i30 _ _ (Gh.refl _) ⟨e26, pv F2, pg⟩
   ·replace e38 := condF h49 e38
    have F3 := an F1 h49
    refine goG F3 F3 ?_
    obtain rfl := sj e38
    try dsimp only at e26
    exact hK28 i30 _ _ (Gh.refl _) ⟨e26, pv F3, pg⟩
 ·obtain ⟨e26, h4_1, n4_g⟩ := hp
  obtain rfl := sj e26
  try dsimp only at hs
  refine goR h4_1 ?_
  obtain rfl := sj hs
  exact hQ _ _ (rg h4_1 (Gh.refl _))
end Go.Dc
end
section
set_option linter.all false
namespace Go.Dc
open Go Go.Hw Go.Proofs
set_option maxRecDepth 100000
def lex_letter (a0 : UInt8) : Option Bool :=
 some (orB (andB (!(ltI (a0.toNat : Int) 97)) (!(ltI 122 (a0.toNat : Int)))) (andB (!(ltI (a0.toNat : Int) 65)) (!(ltI 90 (a0.toNat : Int)))))
set_option maxHeartbeats 2000000 in
theorem at_lex_letter {a0 : UInt8} {r : Bool} (hs : lex_letter a0 = some r) : At Tryd.prog 35 [iV .u8 (a0.toNat : Int)] (bV r) := by
 refine at_bound (by kernel_rfl) fun hb => ?_
 refine at_code mixed Tryd.func35 (by kernel_rfl) rfl (by kernel_rfl) rfl fun Q hQ => ?_
 rw [lex_letter] at hs
 refine goG f0 f0 ?_
 obtain rfl := sj hs
 exact hQ _ _ (rg f0 (Gh.refl _))
end Go.Dc
end
section
set_option linter.all false
namespace Go.Dc
open Go Go.Hw Go.Proofs
set_option maxRecDepth 100000
def lex_digit (a0 : UInt8) : Option Bool :=
 some (andB (!(ltI (a0.toNat : Int) 48)) (!(ltI 57 (a0.toNat : Int))))
set_option maxHeartbeats 2000000 in
theorem at_lex_digit {a0 : UInt8} {r : Bool} (hs : lex_digit a0 = some r) : At Tryd.prog 37 [iV .u8 (a0.toNat : Int)] (bV r) := by
 refine at_bound (by kernel_rfl) fun hb => ?_
 refine at_code mixed Tryd.func37 (by kernel_rfl) rfl (by kernel_rfl) rfl fun Q hQ => ?_
 rw [lex_digit] at hs
 refine goG f0 f0 ?_
 obtain rfl := sj hs
 exact hQ _ _ (rg f0 (Gh.refl _))
end Go.Dc
end
section
set_option linter.all false
namespace Go.Dc
open Go Go.Hw Go.Proofs
set_option maxRecDepth 100000
def lex_inWord (a0 : UInt8) : Option Bool :=
 Option.bind (lex_letter a0) (fun y1 => guardO (orB (!(!y1)) ((lex_digit a0).isSome)) (some (orB (orB y1 ((lex_digit a0).getD default)) (eqI (a0.toNat : Int) 95))))
set_option maxHeartbeats 2000000 in
theorem at_lex_inWord {a0 : UInt8} {r : Bool} (hs : lex_inWord a0 = some r) : At Tryd.prog 36 [iV .u8 (a0.toNat : Int)] (bV r) := by
 refine at_bound (by kernel_rfl) fun hb => ?_
 refine at_code mixed Tryd.func36 (by kernel_rfl) rfl (by kernel_rfl) rfl fun Q hQ => ?_
 rw [lex_inWord] at hs
 refine goR f0 ?_
 revert hs; refine bK fun y1 hx2 hs => ?_
 refine cP f0 (at_lex_letter hx2) ?_
 refine goG f0 f0 ?_
 obtain ⟨g3, hs⟩ := guardO_some hs
 refine gsel_call (fun hg => at_lex_digit (under_call g3 hg)) (fun hg => by (try simp at hg); (first | simp [hg, id]); try rfl) (fun hg => by (try simp at hg); simp [hg, id]) (by simp) ?_
 refine goG f0 f0 ?_
 obtain rfl := sj hs
 exact hQ _ _ (rg f0 (Gh.refl _))
end Go.Dc
end
section
set_option linter.all false
namespace Go.Dc
open Go Go.Hw Go.Proofs
set_option maxRecDepth 100000
def lex_take_lex_inWord_L1 (a0 : ByteArray) : Nat -> Int -> Option Int
 | 0, _ => none
 | q44 + 1, i30 => guardO (orB (!(ltI i30 ((a0.size : Nat) : Int))) (inB i30 a0.size)) (cond (ltI i30 ((a0.size : Nat) : Int)) (Option.bind (lex_inWord (bget a0 ((i30).toNat))) (fun y50 => cond y50 (lex_take_lex_inWord_L1 a0 q44 (IntKind.i64.wrap (i30 + 1))) (some (i30)))) (some (i30)))
def lex_take_lex_inWord (fuelN : Nat) (a0 : ByteArray) (a1 : Int) : Option Int :=
 Option.bind (α := Int) (Option.bind (lex_take_lex_inWord_L1 a0 fuelN a1) (fun i37 => some (i37))) (fun i25 => some i25)
set_option maxHeartbeats 2000000 in
theorem at_lex_take_lex_inWord {fuelN : Nat} {a0 : ByteArray} {a1 : Int} {r : Int} (hs : lex_take_lex_inWord fuelN a0 a1 = some r) : At Tryd.prog 23 [sV a0, iV .i64 a1, .cell (.p (.c (.func (.func 36) #[] #[])))] (iV .i64 r) := by
 refine at_bound (by kernel_rfl) fun hb => ?_
 refine at_code mixed Tryd.func23 (by kernel_rfl) rfl (by kernel_rfl) rfl fun Q hQ => ?_
 rw [lex_take_lex_inWord] at hs
 refine goR2 f0 ?_
 revert hs; refine bK fun o27 e26 hs => ?_
 refine awp_cutK (fun (v : Int) (σ : St) => some (v) = some o27 /\ σ.env 1 = iV .i64 v /\ 1 <= σ.gen) (by rfl) (fun Q hK28 hX29 => ?_) (fun i25 σ3 hp => ?_)
 ·refine goR f0 ?_
  revert e26; refine bK fun o39 e38 e26 => ?_
  refine awp_loopW (fun (v : Nat × Int) (σ : St) => lex_take_lex_inWord_L1 a0 v.1 v.2 = some o39 /\ σ.env 0 = sV a0 /\ σ.env 1 = iV .i64 v.2 /\ σ.env 2 = .cell (.p (.c (.func (.func 36) #[] #[]))) /\ 1 <= σ.gen) (fun v => v.1) _ (Gh.refl _) (fuelN, a1) ⟨e38, pv f0, pv f0, pv f0, pg⟩ fun v σ6 hp L40 hL41 => ?_
  obtain ⟨q43, i30⟩ := v
  dsimp only at hp hL41
  obtain ⟨e38, h5_0, h5_1, h5_2, n5_g⟩ := hp
  rcases q43 with _ | q44
  ·rw [lex_take_lex_inWord_L1] at e38; cases e38
  ·rw [lex_take_lex_inWord_L1] at e38; try dsimp only at e38
   obtain ⟨g48, e38⟩ := guardO_some e38
   have g48a : (ltI i30 ((a0.size : Nat) : Int)) = true -> 0 <= i30 := fun hg => (under_byte g48 hg).1
   have g48c : (ltI i30 ((a0.size : Nat) : Int)) = true -> a0[(i30).toNat]? = some (bget a0 ((i30).toNat)) := fun hg => by simpa using (under_byte g48 hg).2.2
   have F1 := an h5_0 (an h5_1 (an h5_2 (an g48a g48c)))
   refine goG F1 F1 ?_
   refine gsel_split (fun h49 => ?_) (fun h49 => ?_)
   ·replace e38 := condT h49 e38
    have F2 := an F1 h49
    refine goG F2 F2 ?_
    revert e38; refine bK fun y50 hx51 e38 => ?_
    refine cP F2 (at_lex_inWord hx51) ?_
    refine goG F2 F2 ?_
    revert e38; refine cS F2 ?_ ?_ <;> intro h52 e38
    ·refine goG F2 F2 ?_
     exact hL41 (q44, IntKind.i64.wrap (i30 + 1)) _ _ (Gh.refl _) ⟨e38, pv F2, pv F2, pv F2, pg⟩ (by omega)
    ·refine goG F2 F2 ?_
     obtain rfl := sj e38
     try dsimp only at e26
     exact hK28 i30 _ _ (Gh.refl _) ⟨e26, pv F2, pg⟩
   ·replace e38 := condF h49 e38
    have F3 := an F1 h49
    refine goG F3 F3 ?_
    obtain rfl := sj e38
    try dsimp only at e26
    exact hK28 i30 _ _ (Gh.refl _) ⟨e26, pv F3, pg⟩
 ·obtain ⟨e26, h4_1, n4_g⟩ := hp
  obtain rfl := sj e26
  try dsimp only at hs
  refine goR h4_1 ?_
  obtain rfl := sj hs
  exact hQ _ _ (rg h4_1 (Gh.refl _))
end Go.Dc
end
section
set_option linter.all false
namespace Go.Dc
open Go Go.Hw Go.Proofs
set_option maxRecDepth 100000
def value_notation_L1 (s5 : ByteArray) : Nat -> Nat -> Option (Unit ⊕ Bool)
 | 0, k52 => some (.inl ())
 | q64 + 1, k52 => Option.bind (s5[k52]?) (fun c69 => cond (orB (ltI (c69.toNat : Int) 48) (ltI 57 (c69.toNat : Int))) (some (.inr false)) (value_notation_L1 s5 q64 (k52 + 1)))
def value_notation (a0 : ByteArray) : Option Bool :=
 guardO (orB (!(!(eqS a0 (⟨#[]⟩ : ByteArray)))) (inB ((0 : Nat) : Int) a0.size)) (Option.bind (α := ByteArray ⊕ Bool) (cond (andB (!(eqS a0 (⟨#[]⟩ : ByteArray))) (eqI (((bget a0 0)).toNat : Int) 45)) (guardO (slB 1 (a0.size : Int) a0.size) (cond (eqS (a0.extract 1 a0.size) (⟨#[48]⟩ : ByteArray)) (some (.inr false)) (some (.inl (a0.extract 1 a0.size))))) (some (.inl a0))) (fun o => match o with | .inl s5 => guardO (orB (!(andB (!(eqS s5 (⟨#[]⟩ : ByteArray))) (ltI 1 ((s5.size : Nat) : Int)))) (inB ((0 : Nat) : Int) s5.size)) (cond (orB (eqS s5 (⟨#[]⟩ : ByteArray)) (andB (ltI 1 ((s5.size : Nat) : Int)) (eqI (((bget s5 0)).toNat : Int) 48))) (some false) (Option.bind (α := Unit ⊕ Bool) (guardO (lenB s5.size) (Option.bind (value_notation_L1 s5 s5.size 0) (fun o => match o with | .inl _ => some (.inl ()) | .inr r72 => some (.inr r72)))) (fun o => match o with | .inl _ => some true | .inr r73 => some r73))) | .inr r74 => some r74))
set_option maxHeartbeats 2000000 in
theorem at_value_notation {a0 : ByteArray} {r : Bool} (hs : value_notation a0 = some r) : At Tryd.prog 55 [sV a0] (bV r) := by
 refine at_bound (by kernel_rfl) fun hb => ?_
 refine at_code mixed Tryd.func55 (by kernel_rfl) rfl (by kernel_rfl) rfl fun Q hQ => ?_
 rw [value_notation] at hs
 obtain ⟨g1, hs⟩ := guardO_some hs
 have g1a : (!(eqS a0 (⟨#[]⟩ : ByteArray))) = true -> 0 <= ((0 : Nat) : Int) := fun hg => (under_byte g1 hg).1
 have g1c : (!(eqS a0 (⟨#[]⟩ : ByteArray))) = true -> a0[0]? = some (bget a0 0) := fun hg => by simpa using (under_byte g1 hg).2.2
 have F1 := an g1a g1c
 refine goG2 F1 F1 ?_
 revert hs; refine bK fun o7 e6 hs => ?_
 refine awp_cutK (fun (v : ByteArray) (σ : St) => some (.inl v) = some o7 /\ σ.env 0 = sV v /\ 2 <= σ.gen) (by rfl) (fun Q hK8 hX9 => ?_) (fun s5 σ1 hp => ?_)
 ·refine goG F1 F1 ?_
  revert e6; refine cS F1 ?_ ?_ <;> intro h10 e6
  ·obtain ⟨g11, e6⟩ := guardO_some e6
   obtain ⟨g11a, g11b, g11c⟩ := slB_t g11
   have F2 := an F1 (an g11a (an g11b g11c))
   refine goG F2 F2 ?_
   revert e6; refine cS F2 ?_ ?_ <;> intro h12 e6
   ·refine goG F2 F2 ?_
    obtain rfl := sj e6
    try dsimp only at hs
    refine hX9 _ _ (by simp) ?_
    refine goG F2 F2 ?_
    obtain rfl := sj hs
    exact hQ _ _ (rg F2 (Gh.refl _))
   ·refine goG F2 F2 ?_
    exact hK8 (a0.extract 1 a0.size) _ _ (Gh.refl _) ⟨e6, pv F2, pg⟩
  ·refine goG F1 F1 ?_
   exact hK8 a0 _ _ (Gh.refl _) ⟨e6, pv F1, pg⟩
 ·obtain ⟨e6, h2_0, n2_g⟩ := hp
  obtain rfl := sj e6
  try dsimp only at hs
  obtain ⟨g13, hs⟩ := guardO_some hs
  have g13a : (andB (!(eqS s5 (⟨#[]⟩ : ByteArray))) (ltI 1 ((s5.size : Nat) : Int))) = true -> 0 <= ((0 : Nat) : Int) := fun hg => (under_byte g13 hg).1
  have g13c : (andB (!(eqS s5 (⟨#[]⟩ : ByteArray))) (ltI 1 ((s5.size : Nat) : Int))) = true -> s5[0]? = some (bget s5 0) := fun hg => by simpa using (under_byte g13 hg).2.2
  have F3 := an h2_0 (an g1a (an g1c (an g13a g13c)))
  refine goG F3 F3 ?_
  revert hs; refine cS F3 ?_ ?_ <;> intro h14 hs
  ·refine goG F3 F3 ?_
   obtain rfl := sj hs
   exact hQ _ _ (rg F3 (Gh.refl _))
  ·refine goG2 F3 F3 ?_
   revert hs; refine bK fun o43 e42 hs => ?_
   refine awp_cutK (fun (v : Unit) (σ : St) => some (.inl v) = some o43 /\ (σ1.gen + 2) <= σ.gen) (by rfl) (fun Q hK44 hX45 => ?_) (fun v σ5 hp => ?_)
   ·refine goG F3 F3 ?_
    obtain ⟨hb68, e42⟩ := guardO_some e42
    revert e42; refine bK fun o59 e58 e42 => ?_
    refine awp_loopW (fun (v : Nat × Nat) (σ : St) => value_notation_L1 s5 v.1 v.2 = some o59 /\ v.1 + v.2 = s5.size /\ σ.env 0 = sV s5 /\ σ.env 28 = iV .i64 ((s5.size : Nat) : Int) /\ σ.env 29 = iV .i64 ((v.2 : Nat) : Int) /\ (σ1.gen + 2) <= σ.gen) (fun v => v.1) _ (Gh.refl _) (s5.size, 0) ⟨e58, by first | omega | simp | (simp; omega), pv F3, pv F3, pv F3, pg⟩ fun v σ8 hp L60 hL61 => ?_
    obtain ⟨q63, k52⟩ := v
    dsimp only at hp hL61
    obtain ⟨e58, hd62, h7_0, h7_28, h7_29, n7_g⟩ := hp
    rcases q63 with _ | q64
    ·have hlt65 : ¬ k52 < s5.size := by omega
     rw [value_notation_L1] at e58; try dsimp only at e58
     have F4 := an h7_0 (an h7_28 (an h7_29 (an g1a (an g1c (an g13a g13c)))))
     refine goR F4 ?_
     refine condK_f (by simp [ltI]; omega) ?_
     obtain rfl := sj e58
     try dsimp only at e42
     exact hK44 () _ _ (Gh.refl _) ⟨e42, pg⟩
    ·have hlt65 : k52 < s5.size := by omega
     have ew66 := wrap_succG hlt65 hb68
     rw [value_notation_L1] at e58; try dsimp only at e58
     have F5 := an h7_0 (an h7_28 (an h7_29 (an g1a (an g1c (an g13a (an g13c (an hlt65 ew66)))))))
     refine goR F5 ?_
     refine condK_t (by simp [ltI]; omega) ?_
     revert e58; refine bK fun c69 hx70 e58 => ?_
     have hx70b := getB_some hx70
     have hx70g := getB_eq hx70
     have F6 := an F5 (an hx70 hx70g)
     refine goG F6 F6 ?_
     revert e58; refine cS F6 ?_ ?_ <;> intro h71 e58
     ·refine goG F6 F6 ?_
      obtain rfl := sj e58
      try dsimp only at e42
      obtain rfl := sj e42
      try dsimp only at hs
      refine hX45 _ _ (by simp) ?_
      refine goG F6 F6 ?_
      obtain rfl := sj hs
      exact hQ _ _ (rg F6 (Gh.refl _))
     ·refine goG F6 F6 ?_
      exact hL61 (q64, (k52 + 1)) _ _ (Gh.refl _) ⟨e58, (by first | omega | (simp; omega)), pv F6, pv F6, pv F6, pg⟩ (by omega)
   ·obtain ⟨e42, n6_g⟩ := hp
    obtain rfl := sj e42
    try dsimp only at hs
    have F7 := an F1 (an g13a g13c)
    refine goG F7 F7 ?_
    obtain rfl := sj hs
    exact hQ _ _ (rg F7 (Gh.refl _))
end Go.Dc
end
section
set_option linter.all false
namespace Go.Dc
open Go Go.Hw Go.Proofs
set_option maxRecDepth 100000
def value_Parse_L1 (s8 : ByteArray) : Nat -> Int -> Nat -> Option Int
 | 0, i65, k66 => some (i65)
 | q78 + 1, i65, k66 => Option.bind (s8[k66]?) (fun c83 => value_Parse_L1 s8 q78 (IntKind.i64.wrap (IntKind.i64.wrap (i65 * 10) + IntKind.i64.wrap (IntKind.u8.wrap ((c83.toNat : Int) - 48)))) (k66 + 1))
def value_Parse (a0 : ByteArray) : Option (Int × Int) :=
 Option.bind (value_notation a0) (fun y1 => cond (!y1) (some (0, 16)) (Option.bind (a0[0]?) (fun c4 => Option.bind (α := ByteArray) (cond (eqI (c4.toNat : Int) 45) (guardO (slB 1 (a0.size : Int) a0.size) (some (a0.extract 1 a0.size))) (some (a0))) (fun s8 => cond (ltI 10 ((s8.size : Nat) : Int)) (some (0, 2)) (Option.bind (α := Int) (guardO (lenB s8.size) (Option.bind (value_Parse_L1 s8 s8.size 0 0) (fun i71 => some (i71)))) (fun i48 => cond (eqI (c4.toNat : Int) 45) (cond (orB (ltI (IntKind.i64.wrap (0 - i48)) (-2147483648)) (ltI 2147483647 (IntKind.i64.wrap (0 - i48)))) (some (0, 2)) (some (IntKind.i64.wrap (0 - i48), 0))) (cond (orB (ltI i48 (-2147483648)) (ltI 2147483647 i48)) (some (0, 2)) (some (i48, 0)))))))))
set_option maxHeartbeats 2000000 in
theorem at_value_Parse {a0 : ByteArray} {r : Int × Int} (hs : value_Parse a0 = some r) : At Tryd.prog 38 [sV a0] (.tup [iV .i64 r.1, iV .i64 r.2]) := by
 refine at_bound (by kernel_rfl) fun hb => ?_
 refine at_code mixed Tryd.func38 (by kernel_rfl) rfl (by kernel_rfl) rfl fun Q hQ => ?_
 rw [value_Parse] at hs
 refine goR f0 ?_
 revert hs; refine bK fun y1 hx2 hs => ?_
 refine cP f0 (at_value_notation hx2) ?_
 refine goR f0 ?_
 revert hs; refine cS f0 ?_ ?_ <;> intro h3 hs
 ·refine goR f0 ?_
  obtain rfl := sj hs
  exact hQ _ _ (rg f0 (Gh.refl _))
 ·revert hs; refine bK fun c4 hx5 hs => ?_
  have hx5b := getB_some hx5
  have hx5g := getB_eq hx5
  have F1 := an hx5 hx5g
  refine goR2 F1 ?_
  revert hs; refine bK fun o10 e9 hs => ?_
  refine awp_cutK (fun (v : ByteArray) (σ : St) => some (v) = some o10 /\ σ.env 0 = sV v /\ σ.env 4 = bV (eqI (c4.toNat : Int) 45) /\ 4 <= σ.gen) (by rfl) (fun Q hK11 hX12 => ?_) (fun s8 σ1 hp => ?_)
  ·refine goR F1 ?_
   revert e9; refine cS F1 ?_ ?_ <;> intro h13 e9
   ·obtain ⟨g14, e9⟩ := guardO_some e9
    obtain ⟨g14a, g14b, g14c⟩ := slB_t g14
    have F2 := an F1 (an g14a (an g14b g14c))
    refine goR F2 ?_
    exact hK11 (a0.extract 1 a0.size) _ _ (Gh.refl _) ⟨e9, pv F2, pv F2, pg⟩
   ·refine goR F1 ?_
    exact hK11 a0 _ _ (Gh.refl _) ⟨e9, pv F1, pv F1, pg⟩
  ·obtain ⟨e9, h2_0, h2_4, n2_g⟩ := hp
   obtain rfl := sj e9
   try dsimp only at hs
   have F3 := an h2_0 (an h2_4 (an hx5 hx5g))
   refine goR F3 ?_
   revert hs; refine cS F3 ?_ ?_ <;> intro h15 hs
   ·refine goR F3 ?_
    obtain rfl := sj hs
    exact hQ _ _ (rg F3 (Gh.refl _))
   ·refine goR2 F3 ?_
    revert hs; refine bK fun o50 e49 hs => ?_
    refine awp_cutK (fun (v : Int) (σ : St) => some (v) = some o50 /\ σ.env 4 = bV (eqI (c4.toNat : Int) 45) /\ σ.env 5 = iV .i64 v /\ (σ1.gen + 3) <= σ.gen) (by rfl) (fun Q hK51 hX52 => ?_) (fun i48 σ5 hp => ?_)
    ·refine goR F3 ?_
     obtain ⟨hb82, e49⟩ := guardO_some e49
     revert e49; refine bK fun o73 e72 e49 => ?_
     refine awp_loopW (fun (v : Nat × Int × Nat) (σ : St) => value_Parse_L1 s8 v.1 v.2.1 v.2.2 = some o73 /\ v.1 + v.2.2 = s8.size /\ σ.env 0 = sV s8 /\ σ.env 4 = bV (eqI (c4.toNat : Int) 45) /\ σ.env 5 = iV .i64 v.2.1 /\ σ.env 20 = iV .i64 ((s8.size : Nat) : Int) /\ σ.env 21 = iV .i64 ((v.2.2 : Nat) : Int) /\ (σ1.gen + 3) <= σ.gen) (fun v => v.1) _ (Gh.refl _) (s8.size, 0, 0) ⟨e72, by first | omega | simp | (simp; omega), pv F3, pv F3, pv F3, pv F3, pv F3, pg⟩ fun v σ8 hp L74 hL75 => ?_
     obtain ⟨q77, i65, k66⟩ := v
     dsimp only at hp hL75
     obtain ⟨e72, hd76, h7_0, h7_4, h7_5, h7_20, h7_21, n7_g⟩ := hp
     rcases q77 with _ | q78
     ·have hlt79 : ¬ k66 < s8.size := by omega
      rw [value_Parse_L1] at e72; try dsimp only at e72
      have F4 := an h7_0 (an h7_4 (an h7_5 (an h7_20 (an h7_21 (an hx5 hx5g)))))
      refine goR F4 ?_
      refine condK_f (by simp [ltI]; omega) ?_
      obtain rfl := sj e72
      try dsimp only at e49
      exact hK51 i65 _ _ (Gh.refl _) ⟨e49, pv F4, pv F4, pg⟩
     ·have hlt79 : k66 < s8.size := by omega
      have ew80 := wrap_succG hlt79 hb82
      rw [value_Parse_L1] at e72; try dsimp only at e72
      have F5 := an h7_0 (an h7_4 (an h7_5 (an h7_20 (an h7_21 (an hx5 (an hx5g (an hlt79 ew80)))))))
      refine goR F5 ?_
      refine condK_t (by simp [ltI]; omega) ?_
      revert e72; refine bK fun c83 hx84 e72 => ?_
      have hx84b := getB_some hx84
      have hx84g := getB_eq hx84
      have F6 := an F5 (an hx84 hx84g)
      refine goR F6 ?_
      exact hL75 (q78, IntKind.i64.wrap (IntKind.i64.wrap (i65 * 10) + IntKind.i64.wrap (IntKind.u8.wrap ((c83.toNat : Int) - 48))), (k66 + 1)) _ _ (Gh.refl _) ⟨e72, (by first | omega | (simp; omega)), pv F6, pv F6, pv F6, pv F6, pv F6, pg⟩ (by omega)
    ·obtain ⟨e49, h6_4, h6_5, n6_g⟩ := hp
     obtain rfl := sj e49
     try dsimp only at hs
     have F7 := an h6_4 (an h6_5 (an hx5 hx5g))
     refine goR F7 ?_
     revert hs; refine cS F7 ?_ ?_ <;> intro h85 hs
     ·refine goG F7 F7 ?_
      revert hs; refine cS F7 ?_ ?_ <;> intro h86 hs
      ·refine goG F7 F7 ?_
       obtain rfl := sj hs
       exact hQ _ _ (rg F7 (Gh.refl _))
      ·refine goG F7 F7 ?_
       obtain rfl := sj hs
       exact hQ _ _ (rg F7 (Gh.refl _))
     ·refine goG F7 F7 ?_
      revert hs; refine cS F7 ?_ ?_ <;> intro h87 hs
      ·refine goG F7 F7 ?_
       obtain rfl := sj hs
       exact hQ _ _ (rg F7 (Gh.refl _))
      ·refine goG F7 F7 ?_
       obtain rfl := sj hs
       exact hQ _ _ (rg F7 (Gh.refl _))
end Go.Dc
end
section
set_option linter.all false
namespace Go.Dc
open Go Go.Hw Go.Proofs
set_option maxRecDepth 100000
def internal_stringslite_IndexByte (a0 : ByteArray) (a1 : UInt8) : Option Int := some (Go.Lib.indexByte a0.data.toList a1)
set_option maxHeartbeats 2000000 in
theorem ix_internal_stringslite_IndexByte (s : ByteArray) (c : Int) (w : World) : Calls Tryd.prog 66 #[.string s, .int .u8 c] w fun e w' => e = .returned (.int .i64 (Go.Lib.indexByte s.data.toList c.toNat.toUInt8)) /\ w' = w := by
 go_enter Tryd.func66, Tryd.ntmps66
 go_wp2
 rw [run_callFunc_extern (f := 74) Tryd.func74 (by kernel_rfl) (by kernel_rfl) (by kernel_rfl) (e := Extern.BytealgIndexByte.indexByte) (by kernel_rfl), Go.Lib.run_indexByteString]
 simp only [Result.andThen]
 rw [Oper.upon_value]
 go_wp2
 go_ret
 exact ⟨rfl, rfl⟩
theorem at_internal_stringslite_IndexByte {a0 : ByteArray} {a1 : UInt8} {r : Int} (hs : internal_stringslite_IndexByte a0 a1 = some r) : At Tryd.prog 66 [sV a0, .cell (.p (.c (.int .u8 (a1.toNat : Int))))] (iV .i64 r) := by
 rw [internal_stringslite_IndexByte] at hs
 obtain rfl := Option.some.inj hs
 refine cat_const (us := [.string a0, .int .u8 (a1.toNat : Int)]) ⟨Tryd.f66, by kernel_rfl, by kernel_rfl, by kernel_rfl⟩ fun w => ?_
 have h := ix_internal_stringslite_IndexByte a0 (a1.toNat : Int) w
 simpa using h
end Go.Dc
end
section
set_option linter.all false
namespace Go.Dc
open Go Go.Hw Go.Proofs
set_option maxRecDepth 100000
def strings_IndexByte (a0 : ByteArray) (a1 : UInt8) : Option Int :=
 Option.bind (internal_stringslite_IndexByte a0 a1) (fun y1 => some y1)
set_option maxHeartbeats 2000000 in
theorem at_strings_IndexByte {a0 : ByteArray} {a1 : UInt8} {r : Int} (hs : strings_IndexByte a0 a1 = some r) : At Tryd.prog 56 [sV a0, iV .u8 (a1.toNat : Int)] (iV .i64 r) := by
 refine at_bound (by kernel_rfl) fun hb => ?_
 refine at_code mixed Tryd.func56 (by kernel_rfl) rfl (by kernel_rfl) rfl fun Q hQ => ?_
 rw [strings_IndexByte] at hs
 refine goR f0 ?_
 revert hs; refine bK fun y1 hx2 hs => ?_
 refine cP f0 (at_internal_stringslite_IndexByte hx2) ?_
 refine goR f0 ?_
 obtain rfl := sj hs
 exact hQ _ _ (rg f0 (Gh.refl _))
end Go.Dc
end
section
set_option linter.all false
namespace Go.Dc
open Go Go.Hw Go.Proofs
set_option maxRecDepth 100000
def lex_symbol (a0 : UInt8) : Option Bool :=
 Option.bind (strings_IndexByte (⟨#[40, 41, 123, 125, 44, 59, 61, 58]⟩ : ByteArray) a0) (fun y1 => some (!(ltI y1 0)))
set_option maxHeartbeats 2000000 in
theorem at_lex_symbol {a0 : UInt8} {r : Bool} (hs : lex_symbol a0 = some r) : At Tryd.prog 39 [iV .u8 (a0.toNat : Int)] (bV r) := by
 refine at_bound (by kernel_rfl) fun hb => ?_
 refine at_code mixed Tryd.func39 (by kernel_rfl) rfl (by kernel_rfl) rfl fun Q hQ => ?_
 rw [lex_symbol] at hs
 refine goR f0 ?_
 revert hs; refine bK fun y1 hx2 hs => ?_
 refine cP f0 (at_strings_IndexByte hx2) ?_
 refine goR f0 ?_
 obtain rfl := sj hs
 exact hQ _ _ (rg f0 (Gh.refl _))
end Go.Dc
end
section
set_option linter.all false
namespace Go.Dc
open Go Go.Hw Go.Proofs
set_option maxRecDepth 100000
def lex_token (fuelN : Nat) (a0 : ByteArray) (a1 : Int) : Option (Token × Int) :=
 Option.bind (getS a0 a1) (fun c1 => Option.bind (lex_letter c1) (fun y3 => cond y3 (Option.bind (lex_take_lex_inWord fuelN a0 a1) (fun y6 => guardO (slB a1 y6 a0.size) (some (({ Kind := 1, Text := a0.extract ((a1).toNat) ((y6).toNat), N := 0, At := a1 } : Token), 0)))) (guardO (orB (!(!(eqI (c1.toNat : Int) 45))) ((lex_digit c1).isSome)) (cond (orB (eqI (c1.toNat : Int) 45) ((lex_digit c1).getD default)) (Option.bind (lex_take_lex_inWord fuelN a0 (IntKind.i64.wrap (a1 + 1))) (fun y11 => guardO (slB a1 y11 a0.size) (Option.bind (value_Parse (a0.extract ((a1).toNat) ((y11).toNat))) (fun y14 => cond (!(eqI y14.2 0)) (some (({ Kind := 0, Text := (⟨#[]⟩ : ByteArray), N := 0, At := 0 } : Token), y14.2)) (some (({ Kind := 2, Text := a0.extract ((a1).toNat) ((y11).toNat), N := y14.1, At := a1 } : Token), 0)))))) (Option.bind (lex_symbol c1) (fun y17 => cond y17 (guardO (slB a1 (IntKind.i64.wrap (a1 + 1)) a0.size) (some (({ Kind := 3, Text := a0.extract ((a1).toNat) ((IntKind.i64.wrap (a1 + 1)).toNat), N := 0, At := a1 } : Token), 0))) (cond (eqI (c1.toNat : Int) 10) (some (({ Kind := 4, Text := (⟨#[10]⟩ : ByteArray), N := 0, At := a1 } : Token), 0)) (some (({ Kind := 0, Text := (⟨#[]⟩ : ByteArray), N := 0, At := 0 } : Token), 14)))))))))
set_option maxHeartbeats 2000000 in
theorem at_lex_token {fuelN : Nat} {a0 : ByteArray} {a1 : Int} {r : Token × Int} (hs : lex_token fuelN a0 a1 = some r) : At Tryd.prog 24 [sV a0, iV .i64 a1] (.tup [.agg (eA r.1), iV .i64 r.2]) := by
 refine at_bound (by kernel_rfl) fun hb => ?_
 refine at_code mixed Tryd.func24 (by kernel_rfl) rfl (by kernel_rfl) rfl fun Q hQ => ?_
 rw [lex_token] at hs
 revert hs; refine bK fun c1 hx2 hs => ?_
 obtain ⟨hx2a, hx2b, hx2c, hx2d⟩ := getS_some hx2
 have hx2g := getB_eq hx2d
 have F1 := an hx2d (an hx2a hx2g)
 refine goR F1 ?_
 revert hs; refine bK fun y3 hx4 hs => ?_
 refine cP F1 (at_lex_letter hx4) ?_
 refine goR F1 ?_
 revert hs; refine cS F1 ?_ ?_ <;> intro h5 hs
 ·refine goR F1 ?_
  revert hs; refine bK fun y6 hx7 hs => ?_
  refine cP F1 (at_lex_take_lex_inWord hx7) ?_
  obtain ⟨g8, hs⟩ := guardO_some hs
  obtain ⟨g8a, g8b, g8c⟩ := slB_t g8
  have F2 := an F1 (an g8a (an g8b g8c))
  refine goR F2 ?_
  obtain rfl := sj hs
  exact hQ _ _ (rg F2 (Gh.refl _))
 ·refine goG F1 F1 ?_
  obtain ⟨g9, hs⟩ := guardO_some hs
  refine gsel_call (fun hg => at_lex_digit (under_call g9 hg)) (fun hg => by (try simp at hg); (first | simp [hg, F1]); try rfl) (fun hg => by (try simp at hg); simp [hg, F1]) (by simp) ?_
  refine goG F1 F1 ?_
  revert hs; refine cS F1 ?_ ?_ <;> intro h10 hs
  ·refine goG F1 F1 ?_
   revert hs; refine bK fun y11 hx12 hs => ?_
   refine cP F1 (at_lex_take_lex_inWord hx12) ?_
   obtain ⟨g13, hs⟩ := guardO_some hs
   obtain ⟨g13a, g13b, g13c⟩ := slB_t g13
   have F3 := an F1 (an g13a (an g13b g13c))
   refine goG F3 F3 ?_
   revert hs; refine bK fun y14 hx15 hs => ?_
   refine cP F3 (at_value_Parse hx15) ?_
   refine goG F3 F3 ?_
   revert hs; refine cS F3 ?_ ?_ <;> intro h16 hs
   ·refine goG F3 F3 ?_
    obtain rfl := sj hs
    exact hQ _ _ (rg F3 (Gh.refl _))
   ·refine goG F3 F3 ?_
    obtain rfl := sj hs
    exact hQ _ _ (rg F3 (Gh.refl _))
  ·refine goG F1 F1 ?_
   revert hs; refine bK fun y17 hx18 hs => ?_
   refine cP F1 (at_lex_symbol hx18) ?_
   refine goG F1 F1 ?_
   revert hs; refine cS F1 ?_ ?_ <;> intro h19 hs
   ·obtain ⟨g20, hs⟩ := guardO_some hs
    obtain ⟨g20a, g20b, g20c⟩ := slB_t g20
    have F4 := an F1 (an g20a (an g20b g20c))
    refine goG F4 F4 ?_
    obtain rfl := sj hs
    exact hQ _ _ (rg F4 (Gh.refl _))
   ·refine goG F1 F1 ?_
    revert hs; refine cS F1 ?_ ?_ <;> intro h21 hs
    ·refine goG F1 F1 ?_
     obtain rfl := sj hs
     exact hQ _ _ (rg F1 (Gh.refl _))
    ·refine goG F1 F1 ?_
     obtain rfl := sj hs
     exact hQ _ _ (rg F1 (Gh.refl _))
end Go.Dc
end
section
set_option linter.all false
namespace Go.Dc
open Go Go.Hw Go.Proofs
set_option maxRecDepth 100000
def lex_Scan_L1 (fuelN : Nat) (a0 : ByteArray) : Nat -> (List Token) -> Int -> Option ((List Token) × Int × Int)
 | 0, _, _ => none
 | q209 + 1, l174, i175 => cond (ltI i175 ((a0.size : Nat) : Int)) (Option.bind (getS a0 i175) (fun c214 => Option.bind (α := Bool) (cond (eqI (c214.toNat : Int) 32) (some (eqI (c214.toNat : Int) 32)) (some (eqI (c214.toNat : Int) 9))) (fun b217 => cond b217 (lex_Scan_L1 fuelN a0 q209 l174 (IntKind.i64.wrap (i175 + 1))) (cond (eqI (c214.toNat : Int) 35) (Option.bind (lex_take_lex_Scan_1 fuelN a0 i175) (fun y225 => lex_Scan_L1 fuelN a0 q209 l174 y225)) (Option.bind (lex_token fuelN a0 i175) (fun y227 => cond (!(eqI y227.2 0)) (some (([], y227.2, i175))) (Option.bind (some ([y227.1])) (fun l230 => guardO (limB 40 (l174.length + l230.length)) (Option.bind (some (l174 ++ l230)) (fun l233 => lex_Scan_L1 fuelN a0 q209 l233 (IntKind.i64.wrap (i175 + ((y227.1.Text.size : Nat) : Int))))))))))))) (some ((l174, 0, 0)))
def lex_Scan (fuelN : Nat) (a0 : ByteArray) : Option ((List Token) × Fault) :=
 cond (ltI 16384 ((a0.size : Nat) : Int)) (some ([], ({ Err := 4, At := 0 } : Fault))) (Option.bind (α := (List Token) × Int × Int) (Option.bind (lex_Scan_L1 fuelN a0 fuelN [] 0) (fun o => match o with | (l200, i201, i202) => some ((l200, i201, i202)))) (fun o => match o with | (l115, i116, i117) => some (l115, ({ Err := i116, At := i117 } : Fault))))
set_option maxHeartbeats 2000000 in
theorem at_lex_Scan {fuelN : Nat} {a0 : ByteArray} {r : (List Token) × Fault} (hs : lex_Scan fuelN a0 = some r) : CAt Tryd.prog 11 [sV a0] [] (.ret (.tup [.cell (.sl (.r 0) 0 4 r.1.length), .agg (eA r.2)])) [(.r 0, .pure (encL r.1))] := by
 refine at_bound (by kernel_rfl) fun hb => ?_
 refine at_code mixed Tryd.func11 (by kernel_rfl) rfl (by kernel_rfl) rfl fun Q hQ => ?_
 rw [lex_Scan] at hs
 refine goR f0 ?_
 revert hs; refine cS f0 ?_ ?_ <;> intro h1 hs
 ·refine goR f0 ?_
  obtain rfl := sj hs
  refine hQ _ _ (ret2g _ (Gh.void _ (.r 0) 2 4 rfl (by simp)) (by simp [St.frz, St.pur]; rfl) (by first | rfl | (simp [St.frz, St.pur]; done) | (rw [if_pos (by first | omega | (simp; omega))]; simp [St.frz, St.pur]; first | omega | exact List.take_of_length_le (by simp; omega) | skip)) (pv f0))
 ·refine goR2 f0 ?_
  revert hs; refine bK fun o119 e118 hs => ?_
  refine awp_cutK (fun (v : (List Token) × Int × Int) (σ : St) => some (v) = some o119 /\ σ.env 3 = .cell (.ref (.o 1 1 0) 0) /\ σ.env 4 = .cell (.sl (.l 9) 0 4 v.1.length) /\ σ.env 5 = .cell (.ref (.o 4 0 0) 0) /\ σ.hp (.l 9) = some (.pure (encL v.1)) /\ σ.hp (.o 1 1 0) = some (.cells [nC 0, nC 0]) /\ σ.hp (.o 4 0 0) = some (.cells [nC v.2.1, nC v.2.2]) /\ 6 <= σ.gen) (by rfl) (fun Q hK120 hX121 => ?_) (fun v σ11 hp => ?_)
  ·refine goR f0 ?_
   revert e118; refine bK fun o204 e203 e118 => ?_
   refine awp_loopW (fun (v : Nat × (List Token) × Int) (σ : St) => lex_Scan_L1 fuelN a0 v.1 v.2.1 v.2.2 = some o204 /\ σ.env 0 = sV a0 /\ σ.env 3 = .cell (.ref (.o 1 1 0) 0) /\ σ.env 4 = .cell (.sl (.l 14) 0 4 v.2.1.length) /\ σ.env 5 = .cell (.ref (.o 4 0 0) 0) /\ σ.env 6 = .cell (.p (.c (.func (.func 22) #[] #[]))) /\ σ.env 7 = iV .i64 v.2.2 /\ σ.hp (.l 14) = some (.pure (encL v.2.1)) /\ σ.hp (.o 1 1 0) = some (.cells [nC 0, nC 0]) /\ σ.hp (.o 4 0 0) = some (.cells [nC 0, nC 0]) /\ 6 <= σ.gen) (fun v => v.1) _ (Gh.void _ (.l 14) 4 4 rfl (by simp)) (fuelN, [], 0) ⟨e203, pv f0, pv f0, pv f0, pv f0, pv f0, pv f0, pv f0, pv f0, pv f0, pg⟩ fun v σ20 hp L205 hL206 => ?_
   obtain ⟨q208, l174, i175⟩ := v
   dsimp only at hp hL206
   obtain ⟨e203, h19_0, h19_3, h19_4, h19_5, h19_6, h19_7, g19_0, g19_1, g19_2, n19_g⟩ := hp
   have n19_0 : ¬ (σ20.gen = 0) := by omega
   have n19_1 : ¬ (σ20.gen = 1) := by omega
   have n19_2 : ¬ (σ20.gen = 2) := by omega
   have n19_3 : ¬ (σ20.gen = 3) := by omega
   rcases q208 with _ | q209
   ·rw [lex_Scan_L1] at e203; cases e203
   ·rw [lex_Scan_L1] at e203; try dsimp only at e203
    have F1 := an h19_0 (an h19_3 (an h19_4 (an h19_5 (an h19_6 (an h19_7 (an g19_0 (an g19_1 (an g19_2 (an n19_0 (an n19_1 (an n19_2 n19_3)))))))))))
    refine goR F1 ?_
    revert e203; refine cS F1 ?_ ?_ <;> intro h213 e203
    ·refine goR2 F1 ?_
     refine awp_block ?_
     revert e203; refine bK fun c214 hx215 e203 => ?_
     obtain ⟨hx215a, hx215b, hx215c, hx215d⟩ := getS_some hx215
     have hx215g := getB_eq hx215d
     have F2 := an F1 (an hx215d (an hx215a hx215g))
     refine goR2 F2 ?_
     refine awp_block ?_
     refine goR2 F2 ?_
     revert e203; refine bK fun o219 e218 e203 => ?_
     refine awp_cut0 (fun (v : Bool) (σ : St) => some (v) = some o219 /\ σ.env 0 = sV a0 /\ σ.env 3 = .cell (.ref (.o 1 1 0) 0) /\ σ.env 4 = .cell (.sl (.l 14) 0 4 l174.length) /\ σ.env 5 = .cell (.ref (.o 4 0 0) 0) /\ σ.env 6 = .cell (.p (.c (.func (.func 22) #[] #[]))) /\ σ.env 7 = iV .i64 i175 /\ σ.env 20 = iV .u8 (c214.toNat : Int) /\ σ.env 41 = bV v /\ σ.hp (.l 14) = some (.pure (encL l174)) /\ σ.hp (.o 1 1 0) = some (.cells [nC 0, nC 0]) /\ σ.hp (.o 4 0 0) = some (.cells [nC 0, nC 0]) /\ (σ20.gen + 3) <= σ.gen) (fun Q hK220 hX221 => ?_) (fun b217 σ21 hp => ?_)
     ·refine goR F2 ?_
      revert e218; refine cS F2 ?_ ?_ <;> intro h222 e218
      ·refine goR F2 ?_
       exact hK220 (eqI (c214.toNat : Int) 32) _ ⟨e218, pv F2, pv F2, pv F2, pv F2, pv F2, pv F2, pv F2, pv F2, pv F2, pv F2, pv F2, pg⟩
      ·refine goR F2 ?_
       exact hK220 (eqI (c214.toNat : Int) 9) _ ⟨e218, pv F2, pv F2, pv F2, pv F2, pv F2, pv F2, pv F2, pv F2, pv F2, pv F2, pv F2, pg⟩
     ·obtain ⟨e218, h22_0, h22_3, h22_4, h22_5, h22_6, h22_7, h22_20, h22_41, g22_0, g22_1, g22_2, n22_g⟩ := hp
      obtain rfl := sj e218
      try dsimp only at e203
      have n22_0 : ¬ (σ21.gen = 0) := by omega
      have n22_1 : ¬ (σ21.gen = 1) := by omega
      have n22_2 : ¬ (σ21.gen = 2) := by omega
      have n22_3 : ¬ (σ21.gen = 3) := by omega
      have F3 := an h22_0 (an h22_3 (an h22_4 (an h22_5 (an h22_6 (an h22_7 (an h22_20 (an h22_41 (an g22_0 (an g22_1 (an g22_2 (an n22_0 (an n22_1 (an n22_2 (an n22_3 (an hx215d (an hx215a hx215g))))))))))))))))
      refine goR F3 ?_
      revert e203; refine cS F3 ?_ ?_ <;> intro h223 e203
      ·refine goR F3 ?_
       exact hL206 (q209, l174, IntKind.i64.wrap (i175 + 1)) _ _ (Gh.refl _) ⟨e203, pv F3, pv F3, pv F3, pv F3, pv F3, pv F3, pv F3, pv F3, pv F3, pg⟩ (by omega)
      ·refine goR F3 ?_
       revert e203; refine cS F3 ?_ ?_ <;> intro h224 e203
       ·refine goR F3 ?_
        revert e203; refine bK fun y225 hx226 e203 => ?_
        refine cP F3 (at_lex_take_lex_Scan_1 hx226) ?_
        refine goR F3 ?_
        exact hL206 (q209, l174, y225) _ _ (Gh.refl _) ⟨e203, pv F3, pv F3, pv F3, pv F3, pv F3, pv F3, pv F3, pv F3, pv F3, pg⟩ (by omega)
       ·refine goR F3 ?_
        revert e203; refine bK fun y227 hx228 e203 => ?_
        refine cP F3 (at_lex_token hx228) ?_
        refine goR F3 ?_
        revert e203; refine cS F3 ?_ ?_ <;> intro h229 e203
        ·refine goR F3 ?_
         obtain rfl := sj e203
         try dsimp only at e118
         exact hK120 ([], y227.2, i175) _ _ (Gh.void _ (.l 9) 4 4 rfl (by simp [F3])) ⟨e118, pv F3, pv F3, pv F3, pv F3, pv F3, pv F3, pg⟩
        ·revert e203; refine lK fun l230 hx231 e203 => ?_
         have hx231n : l230.length = 1 := by rw [hx231]; rfl
         obtain ⟨g232, e203⟩ := guardO_some e203
         have g232 := limB_t g232
         obtain ⟨g232a, g232b⟩ := g232
         revert e203; refine lK fun l233 hx234 e203 => ?_
         have hx234n : l233.length = (l174.length + l230.length) := by rw [hx234]; simp
         have hx234e : encL l233 = encL l174 ++ encL l230 := by rw [hx234]; simp
         have F4 := an F3 (an hx231 (an hx234n hx234e))
         refine goR F4 ?_
         exact hL206 (q209, l233, IntKind.i64.wrap (i175 + ((y227.1.Text.size : Nat) : Int))) _ _ (Gh.ren _ (.o (σ21.gen + 4) 3 0) (.l 14) (by simp) rfl rfl) ⟨e203, pv F4, pv F4, pv F4, pv F4, pv F4, pv F4, pv F4, pv F4, pv F4, pg⟩ (by omega)
    ·refine goR F1 ?_
     obtain rfl := sj e203
     try dsimp only at e118
     exact hK120 (l174, 0, 0) _ _ (Gh.ren _ (.l 14) (.l 9) (by simp) rfl rfl) ⟨e118, pv F1, pv F1, pv F1, pv F1, pv F1, pv F1, pg⟩
  ·obtain ⟨l115, i116, i117⟩ := v
   dsimp only at hp
   obtain ⟨e118, h12_3, h12_4, h12_5, g12_0, g12_1, g12_2, n12_g⟩ := hp
   obtain rfl := sj e118
   try dsimp only at hs
   have n12_0 : ¬ (σ11.gen = 0) := by omega
   have n12_1 : ¬ (σ11.gen = 1) := by omega
   have n12_2 : ¬ (σ11.gen = 2) := by omega
   have n12_3 : ¬ (σ11.gen = 3) := by omega
   have F5 := an h12_3 (an h12_4 (an h12_5 (an g12_0 (an g12_1 (an g12_2 (an n12_0 (an n12_1 (an n12_2 n12_3))))))))
   refine goD F5 ?_
   obtain rfl := sj hs
   refine hQ _ _ (ret2g _ (Gh.ren _ (.l 9) (.r 0) (by simp) rfl rfl) (by simp [St.frz, St.pur, F5]; rfl) (by first | rfl | (simp [St.frz, St.pur, F5]; done) | (rw [if_pos (by first | omega | (simp; omega))]; simp [St.frz, St.pur, F5]; first | omega | exact List.take_of_length_le (by simp; omega) | skip)) (pv F5))
end Go.Dc
end
section
set_option linter.all false
namespace Go.Dc.Pa
open Go Go.Hw Go.Dc Go.Dc.Pl
set_option maxRecDepth 100000
abbrev bl (s : ByteArray) : List UInt8 := s.data.toList
abbrev bs (l : List UInt8) : ByteArray := ⟨l.toArray⟩
theorem bl_size (s : ByteArray) : (bl s).length = s.size := by rw [Array.length_toList]; rfl
theorem bs_size (l : List UInt8) : (bs l).size = l.length := by show l.toArray.size = _; simp
theorem bs_bl (s : ByteArray) : bs (bl s) = s := by cases s; simp [bs, bl]
theorem bl_bs (l : List UInt8) : bl (bs l) = l := by simp [bs, bl]
theorem getB_bl (s : ByteArray) (i : Nat) : s[i]? = (bl s)[i]? := by
 by_cases h : i < s.size
 ·rw [getElem?_pos s i h, List.getElem?_eq_getElem (by rw [bl_size]; exact h)]; rfl
 ·rw [getElem?_neg s i h, List.getElem?_eq_none (by rw [bl_size]; omega)]
theorem extract_bl (s : ByteArray) (i j : Nat) : s.extract i j = bs (((bl s).drop i).take (j - i)) := by
 apply ByteArray.ext
 rw [ByteArray.data_extract]
 apply Array.ext'
 rw [Array.toList_extract]
theorem drop_cons {α : Type} {l : List α} {i : Nat} {c : α} {r : List α} (h : l.drop i = c :: r) : l[i]? = some c /\ i < l.length /\ l.drop (i + 1) = r := by
 have hi : i < l.length := by
  rcases Nat.lt_or_ge i l.length with h' | h'
  ·exact h'
  ·rw [List.drop_eq_nil_of_le h'] at h; cases h
 rw [List.drop_eq_getElem_cons hi] at h
 injection h with h1 h2
 exact ⟨by rw [List.getElem?_eq_getElem hi, h1], hi, h2⟩
def takeN (p : UInt8 -> Bool) (l : List UInt8) : Nat := (l.takeWhile p).length
theorem own_take {L : ByteArray -> Nat -> Int -> Option Int} (p : UInt8 -> Bool) {s : ByteArray} (hs : s.size <= 1048576)
  (h1 : ∀ (q k : Nat) c, s[k]? = some c -> L s (q + 1) (k : Int) = if p c = true then L s q (IntKind.i64.wrap ((k : Int) + 1)) else some (k : Int))
  (h0 : ∀ q, L s (q + 1) ((s.size : Nat) : Int) = some ((s.size : Nat) : Int)) : ∀ (q k : Nat), k <= s.size -> s.size < k + q -> L s q (k : Int) = some ((k + takeN p ((bl s).drop k) : Nat) : Int)
 | 0, k, hk, hq => absurd hq (by omega)
 | q + 1, k, hk, hq => by
  cases hd : (bl s).drop k with
  | nil =>
   have := List.drop_eq_nil_iff.1 hd
   rw [bl_size] at this
   obtain rfl : k = s.size := by omega
   rw [h0]; rfl
  | cons c r =>
   obtain ⟨e1, e2, e3⟩ := drop_cons hd
   rw [bl_size] at e2
   rw [h1 q k c (by rw [getB_bl]; exact e1), takeN, List.takeWhile_cons]
   cases hp : p c
   ·simp
   ·rw [if_pos rfl, if_pos rfl, wrapN (by omega) (by omega), List.length_cons]
    have ih := own_take p hs h1 h0 q (k + 1) (by omega) (by omega)
    rw [e3, takeN] at ih
    rw [show (k : Int) + 1 = ((k + 1 : Nat) : Int) from rfl, ih]; congr 2; omega
def letB (c : UInt8) : Bool := orB (andB (!(ltI (c.toNat : Int) 97)) (!(ltI 122 (c.toNat : Int)))) (andB (!(ltI (c.toNat : Int) 65)) (!(ltI 90 (c.toNat : Int))))
def digB (c : UInt8) : Bool := andB (!(ltI (c.toNat : Int) 48)) (!(ltI 57 (c.toNat : Int)))
def wrdB (c : UInt8) : Bool := orB (orB (letB c) (digB c)) (eqI (c.toNat : Int) 95)
def symB (c : UInt8) : Bool := !(ltI (Go.Lib.indexByte [40, 41, 123, 125, 44, 59, 61, 58] c) 0)
def notNl (c : UInt8) : Bool := !(eqI (c.toNat : Int) 10)
theorem own_inWord (c : UInt8) : lex_inWord c = some (wrdB c) := by
 rw [lex_inWord, show lex_letter c = some (letB c) from rfl, show lex_digit c = some (digB c) from rfl]
 simp [Option.isSome_some, Option.getD_some, orB_t, guardO_t, wrdB]
theorem own_takeW {s : ByteArray} (hs : s.size <= 1048576) {k : Nat} (hk : k <= s.size) : lex_take_lex_inWord 67108864 s (k : Int) = some ((k + takeN wrdB ((bl s).drop k) : Nat) : Int) := by
 have h := own_take (L := lex_take_lex_inWord_L1) wrdB hs (fun q k c hc => by
  have hk := getB_some hc
  rw [lex_take_lex_inWord_L1, show ltI (k : Int) ((s.size : Nat) : Int) = true by rw [ltI_d, decide_eq_true_eq]; omega, show inB (k : Int) s.size = true by rw [inB_d, decide_eq_true_eq]; omega, orB_t, guardO_t, cond_true, Int.toNat_natCast, show bget s k = c by rw [bget, hc]; rfl, own_inWord, Option.bind_some]
  cases wrdB c <;> rfl) (fun q => by
  rw [lex_take_lex_inWord_L1, show ltI ((s.size : Nat) : Int) ((s.size : Nat) : Int) = false by rw [ltI_d, decide_eq_false_iff_not]; omega]; rfl) 67108864 k hk (by omega)
 rw [lex_take_lex_inWord, h]; rfl
theorem own_takeC {s : ByteArray} (hs : s.size <= 1048576) {k : Nat} (hk : k <= s.size) : lex_take_lex_Scan_1 67108864 s (k : Int) = some ((k + takeN notNl ((bl s).drop k) : Nat) : Int) := by
 have h := own_take (L := lex_take_lex_Scan_1_L1) notNl hs (fun q k c hc => by
  have hk := getB_some hc
  rw [lex_take_lex_Scan_1_L1, show ltI (k : Int) ((s.size : Nat) : Int) = true by rw [ltI_d, decide_eq_true_eq]; omega, show inB (k : Int) s.size = true by rw [inB_d, decide_eq_true_eq]; omega, orB_t, guardO_t, cond_true, Int.toNat_natCast, show bget s k = c by rw [bget, hc]; rfl, show lex_Scan_1 c = some (notNl c) from rfl, Option.bind_some]
  cases notNl c <;> rfl) (fun q => by
  rw [lex_take_lex_Scan_1_L1, show ltI ((s.size : Nat) : Int) ((s.size : Nat) : Int) = false by rw [ltI_d, decide_eq_false_iff_not]; omega]; rfl) 67108864 k hk (by omega)
 rw [lex_take_lex_Scan_1, h]; rfl
/-- A number's text. -/
theorem nota_tot1 (s : ByteArray) : ∀ (q k : Nat), k + q <= s.size -> ∃ r, value_notation_L1 s q k = some r
 | 0, k, _ => ⟨_, rfl⟩
 | q + 1, k, h => by
  obtain ⟨r, hr⟩ := nota_tot1 s q (k + 1) (by omega)
  rw [value_notation_L1, bget_eq (show k < s.size by omega), Option.bind_some, hr, cond_some]; exact ⟨_, rfl⟩
theorem eqS_iff {a b : ByteArray} : eqS a b = true ↔ a = b := by
 unfold eqS
 rw [ByteArray.toList_eq, ByteArray.toList_eq, beq_iff_eq]
 constructor
 ·intro h; exact ByteArray.ext (Array.ext' h)
 ·intro h; rw [h]
theorem eqS_e {s : ByteArray} (h : eqS s (⟨#[]⟩ : ByteArray) = false) : 0 < s.size := by
 rcases Nat.eq_zero_or_pos s.size with h0 | h0
 ·have : s = ⟨#[]⟩ := ByteArray.ext (Array.ext' (List.length_eq_zero_iff.1 (by rw [bl_size]; exact h0)))
  rw [this] at h; exact absurd h (by decide +kernel)
 ·exact h0
theorem nota_tot2 {s : ByteArray} (hs : s.size <= 1048576) : ∃ b, (guardO (orB (!(andB (!(eqS s (⟨#[]⟩ : ByteArray))) (ltI 1 ((s.size : Nat) : Int)))) (inB ((0 : Nat) : Int) s.size)) (cond (orB (eqS s (⟨#[]⟩ : ByteArray)) (andB (ltI 1 ((s.size : Nat) : Int)) (eqI (((bget s 0)).toNat : Int) 48))) (some false) (Option.bind (α := Unit ⊕ Bool) (guardO (lenB s.size) (Option.bind (value_notation_L1 s s.size 0) (fun o => match o with | .inl _ => some (.inl ()) | .inr r72 => some (.inr r72)))) (fun o => match o with | .inl _ => some true | .inr r73 => some r73)))) = some b := by
 obtain ⟨r, hr⟩ := nota_tot1 s s.size 0 (by omega)
 rw [hr, guardO_tt (c := lenB s.size) _ (by rw [lenB_d, decide_eq_true_eq]; omega)]
 cases he : eqS s (⟨#[]⟩ : ByteArray)
 ·have := eqS_e he
  rw [show inB ((0 : Nat) : Int) s.size = true by rw [inB_d, decide_eq_true_eq]; omega, orB_t, guardO_t]
  rcases r with r | r <;> simp only [Option.bind_some, cond_some] <;> exact ⟨_, rfl⟩
 ·exact ⟨_, rfl⟩
theorem nota_tot {s : ByteArray} (hs : s.size <= 1048576) : ∃ b, value_notation s = some b /\ (b = true -> 0 < s.size) := by
 rw [value_notation]
 cases he : eqS s (⟨#[]⟩ : ByteArray)
 ·have h0 := eqS_e he
  suffices h : ∃ b, value_notation s = some b by obtain ⟨b, hb⟩ := h; rw [value_notation, he] at hb; exact ⟨b, hb, fun _ => h0⟩
  rw [value_notation, he, show inB ((0 : Nat) : Int) s.size = true by rw [inB_d, decide_eq_true_eq]; omega, show slB 1 (s.size : Int) s.size = true by rw [slB_d, decide_eq_true_eq]; omega, orB_t, guardO_t, guardO_t]
  obtain ⟨b1, h1⟩ := nota_tot2 hs
  obtain ⟨b2, h2⟩ := nota_tot2 (s := s.extract 1 s.size) (by rw [extract_bl, bs_size, List.length_take, List.length_drop, bl_size]; omega)
  cases andB (!false) (eqI (((bget s 0)).toNat : Int) 45)
  ·exact ⟨b1, h1⟩
  ·rw [cond_true]
   cases eqS (s.extract 1 s.size) (⟨#[48]⟩ : ByteArray)
   ·exact ⟨b2, h2⟩
   ·exact ⟨_, rfl⟩
 ·rw [eqS_iff] at he; subst he
  exact ⟨false, by decide +kernel, fun h => by cases h⟩
theorem num_tot1 (s : ByteArray) : ∀ (q : Nat) (i : Int) (k : Nat), k + q <= s.size -> ∃ r, value_Parse_L1 s q i k = some r
 | 0, i, k, _ => ⟨_, rfl⟩
 | q + 1, i, k, h => by
  rw [value_Parse_L1, bget_eq (show k < s.size by omega), Option.bind_some]
  exact num_tot1 s q _ (k + 1) (by omega)
theorem num_tot {s : ByteArray} (hs : s.size <= 1048576) : ∃ r, value_Parse s = some r := by
 obtain ⟨b, hb, hb2⟩ := nota_tot hs
 rw [value_Parse, hb, Option.bind_some]
 cases b
 ·exact ⟨_, rfl⟩
 ·have h0 := hb2 rfl
  rw [Bool.not_true, cond_false, bget_eq h0, Option.bind_some, show slB 1 (s.size : Int) s.size = true by rw [slB_d, decide_eq_true_eq]; omega, guardO_t, cond_some, Option.bind_some]
  have hl : (bif eqI ((bget s 0).toNat : Int) 45 then s.extract 1 s.size else s).size <= 1048576 := by
   cases eqI ((bget s 0).toNat : Int) 45
   ·exact hs
   ·rw [cond_true, extract_bl, bs_size, List.length_take, List.length_drop, bl_size]; omega
  generalize (bif eqI ((bget s 0).toNat : Int) 45 then s.extract 1 s.size else s) = u at hl
  obtain ⟨r, hr⟩ := num_tot1 u u.size 0 0 (by omega)
  rw [hr, guardO_tt _ (by rw [lenB_d, decide_eq_true_eq]; omega)]
  simp only [Option.bind_some, cond_some]
  exact ⟨_, rfl⟩
def vp (l : List UInt8) : Int × Int := (value_Parse (bs l)).getD (0, 0)
theorem own_num {l : List UInt8} (hl : l.length <= 1048576) : value_Parse (bs l) = some (vp l) := by
 obtain ⟨r, hr⟩ := num_tot (s := bs l) (by rw [bs_size]; exact hl)
 rw [vp, hr]; rfl
attribute [irreducible] vp
end Go.Dc.Pa
end
section
set_option linter.all false
namespace Go.Dc.Pa
open Go Go.Hw Go.Dc Go.Dc.Pl
set_option maxRecDepth 100000
/-- The token at the head of a text: kind, text, number; or the error. -/
def tokM (c : UInt8) (r : List UInt8) : (Int × List UInt8 × Int) ⊕ Int :=
 if letB c = true then .inl (1, c :: r.takeWhile wrdB, 0)
 else if (orB (eqI (c.toNat : Int) 45) (digB c)) = true then
  (if (vp (c :: r.takeWhile wrdB)).2 = 0 then .inl (2, c :: r.takeWhile wrdB, (vp (c :: r.takeWhile wrdB)).1) else .inr (vp (c :: r.takeWhile wrdB)).2)
 else if symB c = true then .inl (3, [c], 0)
 else if c.toNat = 10 then .inl (4, [10], 0)
 else .inr 14
theorem tokM_len {c : UInt8} {r : List UInt8} {x : Int × List UInt8 × Int} (h : tokM c r = .inl x) : 1 <= x.2.1.length /\ x.2.1.length <= r.length + 1 := by
 have hw : (r.takeWhile wrdB).length <= r.length := (List.takeWhile_prefix wrdB).length_le
 rw [tokM] at h
 repeat' split at h
 all_goals first | (injection h with h; subst h; simp only [List.length_cons, List.length_nil]; omega) | cases h
theorem take_takeWhile {p : UInt8 -> Bool} (l : List UInt8) : l.take (takeN p l) = l.takeWhile p := by
 rw [takeN]
 exact (List.prefix_iff_eq_take.1 (List.takeWhile_prefix p)).symm
theorem own_token {s : ByteArray} (hs : s.size <= 1048576) {k : Nat} {c : UInt8} {r : List UInt8} (hd : (bl s).drop k = c :: r) :
  lex_token 67108864 s (k : Int) = some (match tokM c r with | .inl x => (⟨x.1, bs x.2.1, x.2.2, (k : Int)⟩, 0) | .inr e => (⟨0, bs [], 0, 0⟩, e)) := by
 obtain ⟨e1, e2, e3⟩ := drop_cons hd
 rw [bl_size] at e2
 have hg : getS s (k : Int) = some c := by rw [getS, if_pos (by omega), Int.toNat_natCast, getB_bl]; exact e1
 have hlen : r.length + 1 + k = s.size := by have := congrArg List.length hd; rw [List.length_drop, bl_size, List.length_cons] at this; omega
 have hw : takeN wrdB r <= r.length := (List.takeWhile_prefix wrdB).length_le
 have hx : ∀ n, n <= r.length -> s.extract k (k + (n + 1)) = bs (c :: r.take n) := fun n hn => by
  rw [extract_bl, hd, show k + (n + 1) - k = n + 1 by omega, List.take_succ_cons]
 have hx0 : s.extract k (k + 1) = bs [c] := by have := hx 0 (by omega); simpa using this
 rw [lex_token, hg, Option.bind_some, show lex_letter c = some (letB c) from rfl, Option.bind_some, tokM]
 cases hl : letB c
 ·simp only [cond_false, Bool.false_eq_true, if_false]
  rw [show lex_digit c = some (digB c) from rfl]
  simp only [Option.isSome_some, Option.getD_some, orB_t, guardO_t]
  cases hn : orB (eqI (c.toNat : Int) 45) (digB c)
  ·simp only [cond_false, Bool.false_eq_true, if_false]
   rw [show lex_symbol c = some (symB c) from rfl, Option.bind_some]
   cases hy : symB c
   ·simp only [cond_false, Bool.false_eq_true, if_false, eqI_d]
    by_cases h10 : c.toNat = 10
    ·rw [if_pos h10, show (c.toNat : Int) = 10 by omega]; rfl
    ·rw [if_neg h10, decide_eq_false (by omega)]; rfl
   ·simp only [cond_true, if_true]
    rw [wrapN (by omega) (by omega), guardO_tt _ (by rw [slB_d, decide_eq_true_eq]; omega), show ((k : Int) + 1).toNat = k + 1 by omega, Int.toNat_natCast, hx0]
  ·simp only [cond_true, if_true]
   rw [wrapN (by omega) (by omega), show (k : Int) + 1 = ((k + 1 : Nat) : Int) from rfl, own_takeW hs (by omega), Option.bind_some, e3, guardO_tt _ (by rw [slB_d, decide_eq_true_eq]; omega), Int.toNat_natCast, Int.toNat_natCast, show k + 1 + takeN wrdB r = k + (takeN wrdB r + 1) by omega, hx _ hw, take_takeWhile, own_num (by simp only [List.length_cons]; rw [takeN] at hw; omega), Option.bind_some, eqI_d]
   generalize vp (c :: r.takeWhile wrdB) = v
   by_cases hv : v.2 = 0
   ·rw [if_pos hv, decide_eq_true hv]; rfl
   ·rw [if_neg hv, decide_eq_false hv]; rfl
 ·simp only [cond_true, if_true]
  have hwc : wrdB c = true := by rw [wrdB, hl]; rfl
  rw [own_takeW hs (by omega), Option.bind_some, hd, takeN, List.takeWhile_cons, if_pos hwc, List.length_cons, <- takeN, guardO_tt _ (by rw [slB_d, decide_eq_true_eq]; omega), Int.toNat_natCast, Int.toNat_natCast, hx _ hw, take_takeWhile]
/-- A step of the lexer: bytes that are skipped, a token, an error. -/
inductive Lx | skip (k : Nat) | tok (x : Int × List UInt8 × Int) | bad (e : Int)
def stepL (c : UInt8) (r : List UInt8) : Lx :=
 if c.toNat = 32 \/ c.toNat = 9 then .skip 0
 else if c.toNat = 35 then .skip (takeN notNl r)
 else match tokM c r with | .inr e => .bad e | .inl x => .tok x
def putT (t : Token) : List Token ⊕ (Int × Int) -> List Token ⊕ (Int × Int)
 | .inl ts => .inl (t :: ts)
 | .inr e => .inr e
/-- The tokens of a text. -/
def lexM : Nat -> List UInt8 -> Int -> List Token ⊕ (Int × Int)
 | 0, _, _ => .inl []
 | n + 1, l, a => match l with
  | [] => .inl []
  | c :: r => match stepL c r with
   | .skip k => lexM n (r.drop k) (a + ((k + 1 : Nat) : Int))
   | .bad e => .inr (e, a)
   | .tok x => putT ⟨x.1, bs x.2.1, x.2.2, a⟩ (lexM n ((c :: r).drop x.2.1.length) (a + ((x.2.1.length : Nat) : Int)))
theorem lexM_nil (n : Nat) (a : Int) : lexM n [] a = .inl [] := by cases n <;> rfl
theorem lexM_cons (n : Nat) (c : UInt8) (r : List UInt8) (a : Int) : lexM (n + 1) (c :: r) a = match stepL c r with
   | .skip k => lexM n (r.drop k) (a + ((k + 1 : Nat) : Int))
   | .bad e => .inr (e, a)
   | .tok x => putT ⟨x.1, bs x.2.1, x.2.2, a⟩ (lexM n ((c :: r).drop x.2.1.length) (a + ((x.2.1.length : Nat) : Int))) := rfl
def outS (acc : List Token) (o : List Token ⊕ (Int × Int)) : List Token × Int × Int := match o with
 | .inl ts => (acc ++ ts, 0, 0)
 | .inr (e, a) => ([], e, a)
theorem tokM_ne {c : UInt8} {r : List UInt8} {e : Int} (h : tokM c r = .inr e) : e ≠ 0 := by
 rw [tokM] at h
 repeat' split at h
 all_goals first | (injection h with h; subst h; first | assumption | decide) | cases h
theorem own_scan1 {F : Nat} (hF : F = 67108864) {s : ByteArray} (hs : s.size <= 1048576) : ∀ (n q k : Nat) (acc : List Token), k <= s.size -> s.size <= k + n -> s.size < k + q -> acc.length <= k ->
  lex_Scan_L1 F s q acc (k : Int) = some (outS acc (lexM n ((bl s).drop k) (k : Int)))
 | n, 0, k, acc, hk, _, hq, _ => absurd hq (by omega)
 | n, q + 1, k, acc, hk, hn, hq, ha => by
  cases hd : (bl s).drop k with
  | nil =>
   have := List.drop_eq_nil_iff.1 hd
   rw [bl_size] at this
   obtain rfl : k = s.size := by omega
   rw [lex_Scan_L1, show ltI ((s.size : Nat) : Int) ((s.size : Nat) : Int) = false by rw [ltI_d, decide_eq_false_iff_not]; omega]
   rw [lexM_nil]; simp [outS]
  | cons c r =>
   obtain ⟨e1, e2, e3⟩ := drop_cons hd
   rw [bl_size] at e2
   have hlen : r.length + 1 + k = s.size := by have := congrArg List.length hd; rw [List.length_drop, bl_size, List.length_cons] at this; omega
   obtain ⟨n, rfl⟩ : ∃ m, n = m + 1 := ⟨n - 1, by omega⟩
   have hg : getS s (k : Int) = some c := by rw [getS, if_pos (by omega), Int.toNat_natCast, getB_bl]; exact e1
   rw [lex_Scan_L1, lexM_cons, stepL, show ltI (k : Int) ((s.size : Nat) : Int) = true by rw [ltI_d, decide_eq_true_eq]; omega, cond_true, hg, Option.bind_some]
   simp only [eqI_d, cond_some, Option.bind_some]
   by_cases hb : c.toNat = 32 \/ c.toNat = 9
   ·rw [if_pos hb, show (bif decide ((c.toNat : Int) = 32) then decide ((c.toNat : Int) = 32) else decide ((c.toNat : Int) = 9)) = true by
     rcases hb with h | h <;> simp [h], cond_true, wrapN (by omega) (by omega)]
    have ih := own_scan1 hF hs n q (k + 1) acc (by omega) (by omega) (by omega) (by omega)
    rw [e3] at ih
    rw [show (k : Int) + 1 = ((k + 1 : Nat) : Int) from rfl, ih]; rfl
   ·rw [if_neg hb, show (bif decide ((c.toNat : Int) = 32) then decide ((c.toNat : Int) = 32) else decide ((c.toNat : Int) = 9)) = false by
     simp only [cond_eq_ite]; have : ¬ ((c.toNat : Int) = 32) := by omega
     have : ¬ ((c.toNat : Int) = 9) := by omega
     simp [*], cond_false]
    by_cases hc : c.toNat = 35
    ·have hnl : notNl c = true := by simp [notNl, eqI_d]; omega
     have hw : takeN notNl r <= r.length := (List.takeWhile_prefix notNl).length_le
     rw [if_pos hc, show decide ((c.toNat : Int) = 35) = true by simp; omega, cond_true, show lex_take_lex_Scan_1 F s (k : Int) = _ from by subst hF; exact own_takeC hs (by omega), Option.bind_some, hd, takeN, List.takeWhile_cons, if_pos hnl, List.length_cons, <- takeN]
     have ih := own_scan1 hF hs n q (k + (takeN notNl r + 1)) acc (by omega) (by omega) (by omega) (by omega)
     rw [ih, <- List.drop_drop, hd, List.drop_succ_cons]
     rfl
    ·rw [if_neg hc, show decide ((c.toNat : Int) = 35) = false by simp; omega, cond_false, show lex_token F s (k : Int) = _ from by subst hF; exact own_token hs hd, Option.bind_some]
     cases ht : tokM c r with
     | inr e =>
      have := tokM_ne ht
      rw [show decide (e = 0) = false by simpa using this]; rfl
     | inl x =>
      obtain ⟨l1, l2⟩ := tokM_len ht
      dsimp only
      rw [decide_eq_true rfl, Bool.not_true, cond_false, List.length_singleton, limB_le (by omega) (by omega), guardO_t, bs_size, wrapN (by omega) (by omega)]
      have ih := own_scan1 hF hs n q (k + x.2.1.length) (acc ++ [⟨x.1, bs x.2.1, x.2.2, (k : Int)⟩]) (by omega) (by omega) (by omega) (by rw [List.length_append, List.length_singleton]; omega)
      rw [<- List.drop_drop, hd] at ih
      rw [show (k : Int) + ((x.2.1.length : Nat) : Int) = ((k + x.2.1.length : Nat) : Int) from rfl, ih]
      rcases lexM n ((c :: r).drop x.2.1.length) ((k + x.2.1.length : Nat) : Int) with ts | ⟨e, a⟩
      ·simp [outS, putT]
      ·rfl
def scanM (s : ByteArray) : List Token × Fault := if 16384 < s.size then ([], ⟨4, 0⟩) else match lexM s.size (bl s) 0 with
 | .inl ts => (ts, ⟨0, 0⟩)
 | .inr (e, a) => ([], ⟨e, a⟩)
theorem own_scan {F : Nat} (hF : F = 67108864) (s : ByteArray) : lex_Scan F s = some (scanM s) := by
 rw [lex_Scan, scanM, ltI_d]
 by_cases h : 16384 < s.size
 ·rw [if_pos h, decide_eq_true (by omega)]; rfl
 ·rw [if_neg h, decide_eq_false (by omega), cond_false]
  have := own_scan1 hF (s := s) (by omega) s.size F 0 [] (by omega) (by omega) (by omega) (by simp)
  rw [Int.natCast_zero, List.drop_zero] at this
  rw [this]
  rcases lexM s.size (bl s) 0 with ts | ⟨e, a⟩ <;> rfl
theorem stepL_tok {c : UInt8} {r : List UInt8} {x : Int × List UInt8 × Int} (h : stepL c r = .tok x) : tokM c r = .inl x /\ ¬ (c.toNat = 32 \/ c.toNat = 9) /\ c.toNat ≠ 35 := by
 rw [stepL] at h
 repeat' split at h
 all_goals first | (injection h with h; subst h; exact ⟨by assumption, by assumption, by assumption⟩) | cases h
theorem lex_len : ∀ (n : Nat) (l : List UInt8) (a : Int) {ts : List Token}, lexM n l a = .inl ts -> ts.length <= l.length
 | 0, _, _, ts, h => by injection h with h; subst h; simp
 | n + 1, [], _, ts, h => by injection h with h; subst h; simp
 | n + 1, c :: r, a, ts, h => by
  rw [lexM_cons] at h
  split at h
  ·have := lex_len n _ _ h; simp only [List.length_cons, List.length_drop] at this ⊢; omega
  ·cases h
  ·rename_i x hx
   obtain ⟨l1, l2⟩ := tokM_len (stepL_tok hx).1
   cases h' : lexM n ((c :: r).drop x.2.1.length) (a + ((x.2.1.length : Nat) : Int)) with
   | inl ts' =>
    have := lex_len n _ _ h'
    rw [h'] at h
    injection h with h; subst h
    simp only [List.length_cons, List.length_drop] at this ⊢; omega
   | inr e => rw [h'] at h; cases h
end Go.Dc.Pa
end
section
set_option linter.all false
namespace Go.Dc
open Go Go.Hw Go.Proofs
set_option maxRecDepth 100000
def asm_parser_check (fuelN : Nat) (a0_2 : List Var) (a0_3 : List ByteArray) (a0_4 : List ByteArray) (a0_5 : List Func) (a0_6 : List Start) (a0_8 : List Int) (a0_9 : List (List Int)) : Option (Fault ⊕ Unit) :=
 Option.bind (program_Check fuelN ({ Vars := a0_2, Mutexes := a0_3, Conds := a0_4, Funcs := a0_5, Threads := a0_6 } : Program)) (fun y1 => cond (eqI y1.1 0) (some (.inr ())) (cond (!(ltI y1.2.1 0)) (cond (andB (ltI y1.2.1 ((a0_9.length : Nat) : Int)) (!(ltI y1.2.2 0))) (Option.bind (getI a0_9 y1.2.1) (fun x6 => cond (ltI y1.2.2 ((x6.length : Nat) : Int)) (Option.bind (some (a0_9.set ((y1.2.1).toNat) x6)) (fun l11 => Option.bind (getI l11 y1.2.1) (fun x13 => Option.bind (getI x13 y1.2.2) (fun x16 => Option.bind (asm_fail y1.1 x16) (fun y19 => some (.inl y19)))))) (Option.bind (some (a0_9.set ((y1.2.1).toNat) x6)) (fun l22 => cond (ltI y1.2.1 ((a0_8.length : Nat) : Int)) (Option.bind (getI a0_8 y1.2.1) (fun x25 => Option.bind (asm_fail y1.1 x25) (fun y28 => some (.inl y28)))) (Option.bind (asm_fail y1.1 0) (fun y30 => some (.inl y30))))))) (cond (ltI y1.2.1 ((a0_8.length : Nat) : Int)) (Option.bind (getI a0_8 y1.2.1) (fun x33 => Option.bind (asm_fail y1.1 x33) (fun y36 => some (.inl y36)))) (Option.bind (asm_fail y1.1 0) (fun y38 => some (.inl y38))))) (Option.bind (asm_fail y1.1 0) (fun y40 => some (.inl y40)))))
set_option maxHeartbeats 2000000 in
theorem at_asm_parser_check {fuelN : Nat} {c0_0 : FC} {c0_1 : FC} {c0_7 : FC} {a0_2 : List Var} {a0_3 : List ByteArray} {a0_4 : List ByteArray} {a0_5 : List Func} {a0_6 : List Start} {a0_8 : List Int} {a0_9 : List (List Int)} {r : Fault ⊕ Unit} (hs : asm_parser_check fuelN a0_2 a0_3 a0_4 a0_5 a0_6 a0_8 a0_9 = some r) : CAt Tryd.prog 16 [.cell (.ref (.a 0) 0)] [.cells [c0_0.ac, c0_1.ac, .own (.sp 2 a0_2.length (encL a0_2)), .own (.sp 1 a0_3.length (encL a0_3)), .own (.sp 1 a0_4.length (encL a0_4)), .own (.sl 2 a0_5.length (otL a0_5)), .own (.sp 2 a0_6.length (encL a0_6)), c0_7.ac, .own (.sp 1 a0_8.length (encL a0_8)), .own (.sl 1 a0_9.length (otL a0_9))]] (panO panV (fun (r : Unit) => .tup []) r) (panP (fun (r : Unit) => [(.a 0, .cells [c0_0.ac, c0_1.ac, .own (.sp 2 a0_2.length (encL a0_2)), .own (.sp 1 a0_3.length (encL a0_3)), .own (.sp 1 a0_4.length (encL a0_4)), .own (.sl 2 a0_5.length (otL a0_5)), .own (.sp 2 a0_6.length (encL a0_6)), c0_7.ac, .own (.sp 1 a0_8.length (encL a0_8)), .own (.sl 1 a0_9.length (otL a0_9))])]) r) := by
 refine at_bound (by kernel_rfl) fun hb => ?_
 refine at_code mixed Tryd.func16 (by kernel_rfl) rfl (by kernel_rfl) rfl fun Q hQ => ?_
 rw [asm_parser_check] at hs
 refine goR f0 ?_
 revert hs; refine bK fun y1 hx2 hs => ?_
 refine cA f0 (at_program_Check hx2) ?_
 refine goR f0 ?_
 revert hs; refine cS f0 ?_ ?_ <;> intro h3 hs
 ·refine goR f0 ?_
  obtain rfl := sj hs
  refine hQ _ _ (ret2g _ ((Gh.close _ (.a 0) 2).trans ((Gh.close _ (.a 0) 3).trans ((Gh.close _ (.a 0) 4).trans ((Gh.close _ (.a 0) 5).trans (Gh.close _ (.a 0) 6))))) (by simp [St.frz, St.pur]; rfl) (by first | rfl | (simp [St.frz, St.pur]; done) | (rw [if_pos (by first | omega | (simp; omega))]; simp [St.frz, St.pur]; first | omega | exact List.take_of_length_le (by simp; omega) | skip)) (pv f0))
 ·refine goG f0 f0 ?_
  refine gsel_split (fun h4 => ?_) (fun h4 => ?_)
  ·replace hs := condT h4 hs
   simp only [Bool.not_eq_true', Bool.not_eq_false', Bool.not_not] at h4
   refine goG h4 h4 ?_
   refine gsel_split (fun h5 => ?_) (fun h5 => ?_)
   ·replace hs := condT h5 hs
    revert hs; refine bK fun x6 hx7 hs => ?_
    obtain ⟨hx7a, hx7b, hx7c, hx7d⟩ := getI_some hx7
    have f8a : (oencL a0_9)[(y1.2.1).toNat]? = some (.own (.sp 1 x6.length (encL x6))) := oencL_get1 hx7d (by first | rfl | (simp; done) | (simp; rfl))
    have f8b : ((oencL a0_9).drop ((y1.2.1).toNat)).take 1 = [.own (.sp 1 x6.length (encL x6))] := oencL_seg1 hx7d (by first | rfl | (simp; done) | (simp; rfl))
    have f8l : (y1.2.1).toNat < (oencL a0_9).length := (List.getElem?_eq_some_iff.1 f8a).1
    have f8c := fun c => (set_seg f8l c).1
    have f8d := fun c => (set_seg f8l c).2
    have F1 := an h4 (an h5 (an f8a (an f8b (an f8c f8d))))
    have F2 := an F1 (an hx7a hx7b)
    refine goG F1 F2 ?_
    revert hs; refine cS F1 ?_ ?_ <;> intro h9 hs
    ·revert hs; refine lK fun l11 hx12 hs => ?_
     have f10 : (oencL a0_9).set ((y1.2.1).toNat) (.own (.sp 1 x6.length (encL x6))) = oencL l11 := by rw [hx12]; exact oencL_set1 hx7d (by first | rfl | (simp; done) | (simp; rfl))
     have f10n : l11.length = a0_9.length := by rw [hx12]; simp
     have f10t : (encL x6).take (x6.length * 1) = encL x6 := encL_takeN _ (by simp)
     have f10u : x6.length = x6.length -> (encL x6).take (x6.length * 1) = encL x6 := fun h => by rw [<- h]; exact encL_takeN _ (by simp)
     have f10v : x6.length = x6.length -> (oencL a0_9).set ((y1.2.1).toNat) (.own (.sp 1 x6.length (encL x6))) = oencL l11 := fun h => by rw [<- h]; exact f10
     have f10w : ∀ n : Nat, n = l11.length -> (encL l11).take n = encL l11 := fun n h => by rw [h]; exact encL_take1 _ (by simp)
     have f10x : ∀ n : Nat, n = l11.length -> (oencL l11).take n = oencL l11 := fun n h => by rw [h]; exact oencL_take1 _ (by simp)
     have F3 := an F1 (an f10 (an f10n (an f10t (an f10u (an f10v (an f10w f10x))))))
     have F4 := an F3 (an hx7a hx7b)
     repeat (first | simp [F3] | with_reducible first | refine And.intro (by omega) ?_ | refine optF_if (by omega) ?_ | refine gsel_pure (by with_unfolding_all rfl) _ (fun hg => by (try simp at hg); first | (simp [hg, F4]; rfl) | (simp [F3]; simp only [if_pos hg]; simp [F3]; rfl)) ?_)
     refine awp_gh (by rfl) (Gh.close _ (.o 3 7 9) ((y1.2.1).toNat)) ?_
     try simp only [St.frz, St.pur]
     revert hs; refine bK fun x13 hx14 hs => ?_
     obtain ⟨hx14a, hx14b, hx14c, hx14d⟩ := getI_some hx14
     have f15a : (oencL l11)[(y1.2.1).toNat]? = some (.own (.sp 1 x13.length (encL x13))) := oencL_get1 hx14d (by first | rfl | (simp; done) | (simp; rfl))
     have f15b : ((oencL l11).drop ((y1.2.1).toNat)).take 1 = [.own (.sp 1 x13.length (encL x13))] := oencL_seg1 hx14d (by first | rfl | (simp; done) | (simp; rfl))
     have f15l : (y1.2.1).toNat < (oencL l11).length := (List.getElem?_eq_some_iff.1 f15a).1
     have f15c := fun c => (set_seg f15l c).1
     have f15d := fun c => (set_seg f15l c).2
     revert hs; refine bK fun x16 hx17 hs => ?_
     obtain ⟨hx17a, hx17b, hx17c, hx17d⟩ := getI_some hx17
     have f18 : partCV Tryd.prog 3 (encL x13) ((y1.2.2).toNat) = some (iV .i64 x16) := partCV_enc1 hx17d (by simp)
     have F5 := an F3 (an f15a (an f15b (an f15c (an f15d f18))))
     refine goR F5 ?_
     revert hs; refine bK fun y19 hx20 hs => ?_
     refine cX F5 (at_asm_fail hx20) [] (fun v => ?_)
     obtain rfl := sj hs
     exact hQ _ _ retPan
    ·revert hs; refine lK fun l22 hx23 hs => ?_
     have f21 : (oencL a0_9).set ((y1.2.1).toNat) (.own (.sp 1 x6.length (encL x6))) = oencL l22 := by rw [hx23]; exact oencL_set1 hx7d (by first | rfl | (simp; done) | (simp; rfl))
     have f21n : l22.length = a0_9.length := by rw [hx23]; simp
     have f21t : (encL x6).take (x6.length * 1) = encL x6 := encL_takeN _ (by simp)
     have f21u : x6.length = x6.length -> (encL x6).take (x6.length * 1) = encL x6 := fun h => by rw [<- h]; exact encL_takeN _ (by simp)
     have f21v : x6.length = x6.length -> (oencL a0_9).set ((y1.2.1).toNat) (.own (.sp 1 x6.length (encL x6))) = oencL l22 := fun h => by rw [<- h]; exact f21
     have f21w : ∀ n : Nat, n = l22.length -> (encL l22).take n = encL l22 := fun n h => by rw [h]; exact encL_take1 _ (by simp)
     have f21x : ∀ n : Nat, n = l22.length -> (oencL l22).take n = oencL l22 := fun n h => by rw [h]; exact oencL_take1 _ (by simp)
     have F6 := an F1 (an f21 (an f21n (an f21t (an f21u (an f21v (an f21w f21x))))))
     have F7 := an F6 (an hx7a hx7b)
     repeat (first | simp [F6] | with_reducible first | refine And.intro (by omega) ?_ | refine optF_if (by omega) ?_ | refine gsel_pure (by with_unfolding_all rfl) _ (fun hg => by (try simp at hg); first | (simp [hg, F7]; rfl) | (simp [F6]; simp only [if_pos hg]; simp [F6]; rfl)) ?_)
     refine awp_gh (by rfl) (Gh.close _ (.o 3 7 9) ((y1.2.1).toNat)) ?_
     try simp only [St.frz, St.pur]
     refine goG F6 F7 ?_
     revert hs; refine cS F6 ?_ ?_ <;> intro h24 hs
     ·revert hs; refine bK fun x25 hx26 hs => ?_
      obtain ⟨hx26a, hx26b, hx26c, hx26d⟩ := getI_some hx26
      have f27 : partCV Tryd.prog 3 (encL a0_8) ((y1.2.1).toNat) = some (iV .i64 x25) := partCV_enc1 hx26d (by simp)
      have F8 := an F6 f27
      have F9 := an F8 (an hx7a (an hx7b (an hx26a hx26b)))
      refine goG F8 F9 ?_
      revert hs; refine bK fun y28 hx29 hs => ?_
      refine cX F8 (at_asm_fail hx29) [] (fun v => ?_)
      obtain rfl := sj hs
      exact hQ _ _ retPan
     ·refine goG F6 F7 ?_
      revert hs; refine bK fun y30 hx31 hs => ?_
      refine cX F6 (at_asm_fail hx31) [] (fun v => ?_)
      obtain rfl := sj hs
      exact hQ _ _ retPan
   ·replace hs := condF h5 hs
    have F10 := an h4 h5
    refine goG F10 F10 ?_
    revert hs; refine cS F10 ?_ ?_ <;> intro h32 hs
    ·revert hs; refine bK fun x33 hx34 hs => ?_
     obtain ⟨hx34a, hx34b, hx34c, hx34d⟩ := getI_some hx34
     have f35 : partCV Tryd.prog 3 (encL a0_8) ((y1.2.1).toNat) = some (iV .i64 x33) := partCV_enc1 hx34d (by simp)
     have F11 := an F10 f35
     have F12 := an F11 (an hx34a hx34b)
     refine goG F11 F12 ?_
     revert hs; refine bK fun y36 hx37 hs => ?_
     refine cX F11 (at_asm_fail hx37) [] (fun v => ?_)
     obtain rfl := sj hs
     exact hQ _ _ retPan
    ·refine goG F10 F10 ?_
     revert hs; refine bK fun y38 hx39 hs => ?_
     refine cX F10 (at_asm_fail hx39) [] (fun v => ?_)
     obtain rfl := sj hs
     exact hQ _ _ retPan
  ·replace hs := condF h4 hs
   simp only [Bool.not_eq_true', Bool.not_eq_false', Bool.not_not] at h4
   refine goG h4 h4 ?_
   revert hs; refine bK fun y40 hx41 hs => ?_
   refine cX h4 (at_asm_fail hx41) [] (fun v => ?_)
   obtain rfl := sj hs
   exact hQ _ _ retPan
end Go.Dc
end
section
set_option linter.all false
namespace Go.Dc
open Go Go.Hw Go.Proofs
set_option maxRecDepth 100000
set_option maxHeartbeats 2000000 in
theorem at_asm_caught (e : Fault) : At Tryd.prog 13 [.cell (.p (.c (panV e)))] (.agg (eA e)) := by
 refine at_code mixed Tryd.func13 (by kernel_rfl) rfl (by kernel_rfl) rfl fun Q hQ => ?_
 refine goR f0 ?_
 exact hQ _ _ (rg f0 (Gh.refl _))
set_option maxHeartbeats 2000000 in
theorem dat12n (A B : List AC) : DAt Tryd.prog 12 none [.cell (.ref (.a 0) 0), .cell (.ref (.a 1) 0)] [.cells A, .cells B] [(.a 0, .cells A), (.a 1, .cells B)] := by
 refine dat_codeQ mixed Tryd.func12 (by kernel_rfl) rfl (by decide) (by decide) (by decide) (by kernel_rfl) rfl rfl fun Q hQ => ?_
 refine goR f0 ?_
 exact hQ _ _ ⟨_, Gh.refl _, _, rfl, rfl, by simp⟩
set_option maxHeartbeats 2000000 in
theorem dat20n (A B : List AC) : DAt Tryd.prog 20 none [.cell (.ref (.a 0) 0), .cell (.ref (.a 1) 0)] [.cells A, .cells B] [(.a 0, .cells A), (.a 1, .cells B)] := by
 refine dat_codeQ mixed Tryd.func20 (by kernel_rfl) rfl (by decide) (by decide) (by decide) (by kernel_rfl) rfl rfl fun Q hQ => ?_
 refine goR f0 ?_
 exact hQ _ _ ⟨_, Gh.refl _, _, rfl, rfl, by simp⟩
set_option maxHeartbeats 2000000 in
theorem dat12s (e : Fault) (a0 a1 a2 a3 a4 b0 b1 : AC) : DAt Tryd.prog 12 (some (panV e)) [.cell (.ref (.a 0) 0), .cell (.ref (.a 1) 0)] [.cells [a0, a1, a2, a3, a4], .cells [b0, b1]] [(.a 0, .cells [.z, .z, .z, .z, .z]), (.a 1, .cells (eA e))] := by
 refine dat_codeQ mixed Tryd.func12 (by kernel_rfl) rfl (by decide) (by decide) (by decide) (by kernel_rfl) rfl rfl fun Q hQ => ?_
 refine goR f0 ?_
 refine cP f0 (at_asm_caught e) ?_
 refine goR f0 ?_
 exact hQ _ _ ⟨_, Gh.refl _, _, rfl, rfl, by simp⟩
set_option maxHeartbeats 2000000 in
theorem dat20s (e : Fault) (a0 a1 a2 a3 a4 a5 a6 a7 b0 b1 : AC) : DAt Tryd.prog 20 (some (panV e)) [.cell (.ref (.a 0) 0), .cell (.ref (.a 1) 0)] [.cells [a0, a1, a2, a3, a4, a5, a6, a7], .cells [b0, b1]] [(.a 0, .cells [.p (.c (.int .i64 0)), .p (.c (.int .i64 0)), .p (.c (.int .i64 0)), .p (.c (.int .i64 0)), .p (.c (.int .i64 0)), .p (.c (.int .i64 0)), .p (.c (.int .i64 0)), .p (.c (.int .i64 0))]), (.a 1, .cells (eA e))] := by
 refine dat_codeQ mixed Tryd.func20 (by kernel_rfl) rfl (by decide) (by decide) (by decide) (by kernel_rfl) rfl rfl fun Q hQ => ?_
 refine goR f0 ?_
 refine cP f0 (at_asm_caught e) ?_
 refine goR f0 ?_
 exact hQ _ _ ⟨_, Gh.refl _, _, rfl, rfl, by simp⟩
end Go.Dc
end
section
set_option linter.all false
namespace Go.Dc
open Go Go.Hw Go.Proofs
set_option maxRecDepth 100000
def asm_Parse (fuelN : Nat) (a0 : ByteArray) : Option (Program × Fault) :=
 Option.bind (lex_Scan fuelN a0) (fun y1 => cond (!(eqI y1.2.Err 0)) (some (({ Vars := [], Mutexes := [], Conds := [], Funcs := [], Threads := [] } : Program), y1.2)) (Option.bind (asm_parser_text fuelN ({ tokens := y1.1, end_ := ((a0.size : Nat) : Int), p := ({ Vars := ([] : List Var), Mutexes := ([] : List ByteArray), Conds := ([] : List ByteArray), Funcs := ([] : List Func), Threads := ([] : List Start) } : Program), names := ([] : List AsmName), funcs := ([] : List Int), insts := ([] : List (List Int)) } : AsmParser)) (fun y4 => (match y4 with | .inl e6 => some (({ Vars := [], Mutexes := [], Conds := [], Funcs := [], Threads := [] } : Program), e6) | .inr y7 => Option.bind (asm_parser_link y7.p.Vars y7.p.Mutexes y7.p.Conds y7.p.Funcs y7.p.Threads y7.names) (fun y8 => (match y8 with | .inl e10 => some (({ Vars := [], Mutexes := [], Conds := [], Funcs := [], Threads := [] } : Program), e10) | .inr y11 => Option.bind (asm_parser_check fuelN y11.1 y11.2.1 y11.2.2.1 y11.2.2.2.1 y11.2.2.2.2 y7.funcs y7.insts) (fun y12 => (match y12 with | .inl e14 => some (({ Vars := [], Mutexes := [], Conds := [], Funcs := [], Threads := [] } : Program), e14) | .inr y15 => some (({ Vars := y11.1, Mutexes := y11.2.1, Conds := y11.2.2.1, Funcs := y11.2.2.2.1, Threads := y11.2.2.2.2 } : Program), ({ Err := 0, At := 0 } : Fault))))))))))
set_option maxHeartbeats 2000000 in
theorem at_asm_Parse {fuelN : Nat} {a0 : ByteArray} {r : Program × Fault} (hs : asm_Parse fuelN a0 = some r) : At Tryd.prog 6 [sV a0] (.tup [.agg (eA r.1), .agg (eA r.2)]) := by
 refine at_bound (by kernel_rfl) fun hb => ?_
 refine at_codeD mixed Tryd.func6 (by kernel_rfl) rfl (by kernel_rfl) rfl rfl fun Q hQ => ?_
 rw [asm_Parse] at hs
 refine goR f0 ?_
 refine awpD_next (by rfl) (by kernel_rfl) ?_
 refine goR f0 ?_
 refine awpD_next (by rfl) (by kernel_rfl) ?_
 refine goR f0 ?_
 revert hs; refine bK fun y1 hx2 hs => ?_
 refine cA f0 (at_lex_Scan hx2) ?_
 refine goR f0 ?_
 refine awpD_next (by rfl) (by kernel_rfl) ?_
 refine goR f0 ?_
 revert hs; refine cS f0 ?_ ?_ <;> intro h3 hs
 ·refine goD f0 ?_
  obtain rfl := sj hs
  exact hQ _ _ (rg f0 (Gh.unz _))
 ·refine goR f0 ?_
  refine awpD_defer (by rfl) (by rfl) (by kernel_rfl) (by kernel_rfl) ?_
  refine goR f0 ?_
  refine kD_intro (g := 12) (caps := [.inl (.o 1 0 0), .inl (.o 1 1 0)]) (by simp <;> rfl) fun Q hQ => ?_
  refine goN f0 ?_
  refine awp_reg ?_
  refine goN f0 ?_
  refine awp_gh (by rfl) ((Gh.frz _ (.o 2 1 0)).trans ((Gh.own0 _ (.o 5 4 0) 2 (.sp 2 0 []) rfl).trans ((Gh.own0 _ (.o 5 4 0) 3 (.sp 1 0 []) rfl).trans ((Gh.own0 _ (.o 5 4 0) 4 (.sp 1 0 []) rfl).trans ((Gh.own0 _ (.o 5 4 0) 5 (.sl 2 0 []) rfl).trans ((Gh.own0 _ (.o 5 4 0) 6 (.sp 2 0 []) rfl).trans ((Gh.own0 _ (.o 5 4 0) 7 (.sp 7 0 []) rfl).trans ((Gh.own0 _ (.o 5 4 0) 8 (.sp 1 0 []) rfl).trans (Gh.own0 _ (.o 5 4 0) 9 (.sl 1 0 []) rfl))))))))) ?_
  try simp only [St.frz, St.pur]
  refine goR f0 ?_
  revert hs; refine bK fun y4 hx5 hs => ?_
  rcases y4 with e6 | y7
  ·try dsimp only at hs
   refine cXd f0 (at_asm_parser_text hx5) [.o 5 4 0] ?_
   refine goR f0 ?_
   obtain rfl := sj hs
   refine hQ _ _ (pD (Gh.refl _) [.inl (.o 1 0 0), .inl (.o 1 1 0)] [.o 1 0 0, .o 1 1 0] (dat12s e6 .z .z .z .z .z (nC y1.2.Err) (nC y1.2.At)) (Gh.unz _) (by simp [St.frz, St.pur] <;> rfl) (by simp [St.frz, St.pur] <;> rfl) (by simp [St.frz, St.pur] <;> rfl) (by simp) (by simp [St.frz, St.pur]; rfl) (by simp [St.frz, St.pur]; rfl) (by first | rfl | (simp [St.frz, St.pur]; done) | (simp [St.frz, St.pur]; rfl)) (pv f0))
  ·try dsimp only at hs
   refine cB f0 (at_asm_parser_text hx5) [.o 5 4 0] ?_
   refine goR f0 ?_
   revert hs; refine bK fun y8 hx9 hs => ?_
   rcases y8 with e10 | y11
   ·try dsimp only at hs
    refine cXd f0 (at_asm_parser_link (c0_0 := ⟨AC.toF [.o 5 4 0] (sC y7.tokens), by simp⟩) (c0_1 := ⟨AC.toF [.o 5 4 0] (nC y7.end_), by simp⟩) (c0_8 := ⟨AC.toF [.o 5 4 0] (.own (.sp 1 y7.funcs.length (encL y7.funcs))), by simp⟩) (c0_9 := ⟨AC.toF [.o 5 4 0] (.own (.sl 1 y7.insts.length (otL y7.insts))), by simp⟩) hx9) [.o 5 4 0] ?_
    refine goR f0 ?_
    obtain rfl := sj hs
    refine hQ _ _ (pD (Gh.refl _) [.inl (.o 1 0 0), .inl (.o 1 1 0)] [.o 1 0 0, .o 1 1 0] (dat12s e10 .z .z .z .z .z (nC y1.2.Err) (nC y1.2.At)) (Gh.unz _) (by simp [St.frz, St.pur] <;> rfl) (by simp [St.frz, St.pur] <;> rfl) (by simp [St.frz, St.pur] <;> rfl) (by simp) (by simp [St.frz, St.pur]; rfl) (by simp [St.frz, St.pur]; rfl) (by first | rfl | (simp [St.frz, St.pur]; done) | (simp [St.frz, St.pur]; rfl)) (pv f0))
   ·try dsimp only at hs
    refine cB f0 (at_asm_parser_link (c0_0 := ⟨AC.toF [.o 5 4 0] (sC y7.tokens), by simp⟩) (c0_1 := ⟨AC.toF [.o 5 4 0] (nC y7.end_), by simp⟩) (c0_8 := ⟨AC.toF [.o 5 4 0] (.own (.sp 1 y7.funcs.length (encL y7.funcs))), by simp⟩) (c0_9 := ⟨AC.toF [.o 5 4 0] (.own (.sl 1 y7.insts.length (otL y7.insts))), by simp⟩) hx9) [.o 5 4 0] ?_
    refine goR f0 ?_
    revert hs; refine bK fun y12 hx13 hs => ?_
    rcases y12 with e14 | y15
    ·try dsimp only at hs
     refine cXd f0 (at_asm_parser_check (c0_0 := ⟨AC.toF [.o 5 4 0] (sC y7.tokens), by simp⟩) (c0_1 := ⟨AC.toF [.o 5 4 0] (nC y7.end_), by simp⟩) (c0_7 := ⟨AC.toF [.o 5 4 0] (.own (.sp 7 y7.names.length (encL y7.names))), by simp⟩) hx13) [.o 5 4 0] ?_
     refine goR f0 ?_
     obtain rfl := sj hs
     refine hQ _ _ (pD (Gh.refl _) [.inl (.o 1 0 0), .inl (.o 1 1 0)] [.o 1 0 0, .o 1 1 0] (dat12s e14 .z .z .z .z .z (nC y1.2.Err) (nC y1.2.At)) (Gh.unz _) (by simp [St.frz, St.pur] <;> rfl) (by simp [St.frz, St.pur] <;> rfl) (by simp [St.frz, St.pur] <;> rfl) (by simp) (by simp [St.frz, St.pur]; rfl) (by simp [St.frz, St.pur]; rfl) (by first | rfl | (simp [St.frz, St.pur]; done) | (simp [St.frz, St.pur]; rfl)) (pv f0))
    ·try dsimp only at hs
     refine cB f0 (at_asm_parser_check (c0_0 := ⟨AC.toF [.o 5 4 0] (sC y7.tokens), by simp⟩) (c0_1 := ⟨AC.toF [.o 5 4 0] (nC y7.end_), by simp⟩) (c0_7 := ⟨AC.toF [.o 5 4 0] (.own (.sp 7 y7.names.length (encL y7.names))), by simp⟩) hx13) [.o 5 4 0] ?_
     refine goR f0 ?_
     obtain rfl := sj hs
     refine hQ _ _ (rD ((Gh.frz _ (.o 9 3 2)).trans ((Gh.frz _ (.o 9 3 3)).trans ((Gh.frz _ (.o 9 3 4)).trans ((Gh.frz _ (.o 9 3 5)).trans (Gh.frz _ (.o 9 3 6)))))) [.inl (.o 1 0 0), .inl (.o 1 1 0)] [.o 1 0 0, .o 1 1 0] (dat12n [sC y11.1, sC y11.2.1, sC y11.2.2.1, sC y11.2.2.2.1, sC y11.2.2.2.2] [nC 0, nC 0]) (Gh.refl _) (by simp [St.frz, St.pur] <;> rfl) (by simp [St.frz, St.pur] <;> rfl) (by simp [St.frz, St.pur] <;> rfl) (by simp) (by simp [St.frz, St.pur]; rfl) (by simp [St.frz, St.pur]; rfl) (by first | rfl | (simp [St.frz, St.pur]; done) | (simp [St.frz, St.pur]; rfl)) (pv f0))
end Go.Dc
end
section
set_option linter.all false
namespace Go.Dc.Pa
open Go Go.Hw Go.Dc Go.Dc.Pl
set_option maxRecDepth 100000
def placeM (funcs : List Int) (insts : List (List Int)) (f i : Int) : Int :=
 if 0 <= f then (if f < insts.length /\ 0 <= i /\ i < (gd insts f.toNat).length then gd (gd insts f.toNat) i.toNat else if f < funcs.length then gd funcs f.toNat else 0) else 0
def checkM (p : Program) (funcs : List Int) (insts : List (List Int)) : Option Fault := if (chk p).1 = 0 then none else some ⟨(chk p).1, placeM funcs insts (chk p).2.1 (chk p).2.2⟩
theorem getI_gd {α : Type} [Inhabited α] {l : List α} {i : Int} (h : 0 <= i) (h2 : i < l.length) : getI l i = some (gd l i.toNat) := by
 rw [getI, if_pos h]; exact gd_get (by omega)
theorem set_same {α : Type} [Inhabited α] {l : List α} {k : Nat} : l.set k (gd l k) = l := by
 rcases Nat.lt_or_ge k l.length with h | h
 ·have := gd_get h
  apply List.ext_getElem?
  intro j
  rw [List.getElem?_set]
  split
  ·rename_i e; subst e; first | exact this.symm | (rw [if_pos h]; exact this.symm)
  ·rfl
 ·exact List.set_eq_of_length_le h
theorem own_checkM {p : Program} (hp : Small p) (funcs : List Int) (insts : List (List Int)) : asm_parser_check 67108864 p.Vars p.Mutexes p.Conds p.Funcs p.Threads funcs insts = some (match checkM p funcs insts with | some e => .inl e | none => .inr ()) := by
 rw [asm_parser_check, show ({ Vars := p.Vars, Mutexes := p.Mutexes, Conds := p.Conds, Funcs := p.Funcs, Threads := p.Threads } : Program) = p from rfl, own_check hp, Option.bind_some, checkM, eqI_d]
 generalize chk p = r
 obtain ⟨e, f, i⟩ := r
 dsimp only
 by_cases he : e = 0
 ·rw [if_pos he, decide_eq_true he]; rfl
 ·rw [if_neg he, decide_eq_false he, cond_false, placeM]
  simp only [asm_fail, Option.bind_some, ltI_d, andB_d]
  by_cases hf : 0 <= f
  ·rw [if_pos hf, decide_eq_false (by omega), Bool.not_false, cond_true]
   by_cases h1 : f < insts.length /\ 0 <= i
   ·rw [decide_eq_true h1.1, decide_eq_false (show ¬ i < 0 by omega), Bool.not_false, Bool.and_true, cond_true, getI_gd hf h1.1, Option.bind_some, set_same, getI_gd hf h1.1]
    by_cases h2 : i < (gd insts f.toNat).length
    ·rw [if_pos ⟨h1.1, h1.2, h2⟩, decide_eq_true (by omega), cond_true, Option.bind_some, getI_gd h1.2 h2]; rfl
    ·rw [if_neg (by omega), decide_eq_false (by omega), cond_false]
     by_cases h3 : f < funcs.length
     ·rw [if_pos h3, decide_eq_true (by omega), cond_true, getI_gd hf h3]; rfl
     ·rw [if_neg h3, decide_eq_false (by omega), cond_false]
   ·rw [if_neg (by omega), show (decide (f < (insts.length : Int)) && !(decide (i < 0))) = false by rw [Bool.and_eq_false_iff]; simp only [decide_eq_false_iff_not, Bool.not_eq_false', decide_eq_true_eq]; omega, cond_false]
    by_cases h3 : f < funcs.length
    ·rw [if_pos h3, decide_eq_true (by omega), cond_true, getI_gd hf h3]; rfl
    ·rw [if_neg h3, decide_eq_false (by omega), cond_false]
  ·rw [if_neg hf, decide_eq_true (by omega)]; rfl
def zeroP : Program := { Vars := [], Mutexes := [], Conds := [], Funcs := [], Threads := [] }
def x0 (ts : List Token) (e : Int) : AsmParser := { tokens := ts, end_ := e, p := zeroP, names := [], funcs := [], insts := [] }
def runM (ts : List Token) (e : Int) : Fault ⊕ Program := match textM (x0 ts e) with
 | .inl f => .inl f
 | .inr y => match linkM y.names y.p with
  | .inl f => .inl f
  | .inr q => match checkM q y.funcs y.insts with
   | some f => .inl f
   | none => .inr q
def parseM (s : ByteArray) : Program × Fault := if (scanM s).2.Err = 0 then (match runM (scanM s).1 ((s.size : Nat) : Int) with | .inl f => (zeroP, f) | .inr p => (p, ⟨0, 0⟩)) else (zeroP, (scanM s).2)
theorem inv0 {ts : List Token} (e : Int) (h : ts.length <= 1048576) : Inv false (x0 ts e) := by
 refine ⟨?_, ?_, ?_, ?_, ?_, ?_, rfl, rfl, (fun f h => by cases h), (fun k h => by cases h), (fun n h => by cases h), (fun h => by cases h)⟩
 all_goals simp only [x0, zeroP, List.length_nil, capN]; omega
theorem scan_len (s : ByteArray) : (scanM s).1.length <= 16384 := by
 rw [scanM]
 split
 ·simp
 ·split
  ·rename_i ts h
   have := lex_len _ _ _ h
   rw [bl_size] at this; dsimp only; omega
  ·simp
theorem own_parse (s : ByteArray) : asm_Parse 67108864 s = some (parseM s) := by
 rw [asm_Parse, own_scan rfl, Option.bind_some, parseM, eqI_d]
 have hl := scan_len s
 generalize scanM s = r at hl
 by_cases he : r.2.Err = 0
 ·rw [if_pos he, decide_eq_true he, Bool.not_true, cond_false, runM]
  have hi := inv0 (ts := r.1) ((s.size : Nat) : Int) (by omega)
  rw [show ({ tokens := r.1, end_ := ((s.size : Nat) : Int), p := ({ Vars := ([] : List Var), Mutexes := ([] : List ByteArray), Conds := ([] : List ByteArray), Funcs := ([] : List Func), Threads := ([] : List Start) } : Program), names := ([] : List AsmName), funcs := ([] : List Int), insts := ([] : List (List Int)) } : AsmParser) = x0 r.1 ((s.size : Nat) : Int) from rfl, own_text hi, Option.bind_some]
  cases ht : textM (x0 r.1 ((s.size : Nat) : Int)) with
  | inl f => rfl
  | inr y =>
   have hy := (text_inv hi ht).1
   dsimp only
   rw [own_link hy, Option.bind_some]
   cases hk : linkM y.names y.p with
   | inl f => rfl
   | inr q =>
    obtain ⟨s1, s2, s3, s4, s5, s6⟩ := link_shape _ _ _ hy.small hy.nok hk
    dsimp only
    rw [own_checkM (small_of hy.small s1 s2 s3 s4 s5 s6), Option.bind_some]
    cases checkM q y.funcs y.insts <;> rfl
 ·rw [if_neg he, decide_eq_false he]; rfl
end Go.Dc.Pa
end
section
set_option linter.all false
namespace Go.Dc.Pa
open Go Go.Hw Go.Dc Go.Dc.Pl
set_option maxRecDepth 100000
inductive F2 {α β : Type} (R : α -> β -> Prop) : List α -> List β -> Prop
 | nil : F2 R [] []
 | cons {a b l r} : R a b -> F2 R l r -> F2 R (a :: l) (b :: r)
theorem F2.len {α β : Type} {R : α -> β -> Prop} {l : List α} {r : List β} (h : F2 R l r) : l.length = r.length := by
 induction h with
 | nil => rfl
 | cons _ _ ih => simp [ih]
theorem F2.app {α β : Type} {R : α -> β -> Prop} {l : List α} {r : List β} {a : α} {b : β} (h : F2 R l r) (hab : R a b) : F2 R (l ++ [a]) (r ++ [b]) := by
 induction h with
 | nil => exact .cons hab .nil
 | cons h1 _ ih => exact .cons h1 ih
theorem F2.gd {α β : Type} [Inhabited α] [Inhabited β] {R : α -> β -> Prop} {l : List α} {r : List β} (h : F2 R l r) : ∀ {k : Nat}, k < l.length -> R (gd l k) (gd r k) := by
 induction h with
 | nil => intro k hk; simp at hk
 | cons h1 _ ih =>
  intro k hk
  cases k with
  | zero => exact h1
  | succ k => exact ih (by simpa using hk)
theorem F2.set {α β : Type} {R : α -> β -> Prop} {l : List α} {r : List β} {a : α} {b : β} (h : F2 R l r) (hab : R a b) : ∀ (k : Nat), F2 R (l.set k a) (r.set k b) := by
 induction h with
 | nil => intro k; exact .nil
 | cons h1 h2 ih =>
  intro k
  cases k with
  | zero => exact .cons hab h2
  | succ k => exact .cons h1 (ih k)
theorem n15 : (15 : Int) ≠ 0 := by decide
theorem n14 : (14 : Int) ≠ 0 := by decide
theorem n8 : (8 : Int) ≠ 0 := by decide
theorem n5 : (5 : Int) ≠ 0 := by decide
section
variable (A : Int -> Int -> Prop) (e e' : Int) (X : List Token)
def tokR (t t' : Token) : Prop := t'.Kind = t.Kind /\ t'.Text = t.Text /\ t'.N = t.N /\ A t.At t'.At
def fltR (f f' : Fault) : Prop := f'.Err = f.Err /\ A f.At f'.At /\ f.Err ≠ 0
def namR (n n' : AsmName) : Prop := tokR A n.token n'.token /\ n'.kind = n.kind /\ n'.fn = n.fn /\ n'.at_ = n.at_
inductive Rel : List Token -> List Token -> Prop
 | nil : (X = [] /\ A e e') \/ (∃ l x, X = l :: x /\ l.Kind = 4 /\ A e l.At) -> Rel [] X
 | tok {t t' r r'} : t.Kind ≠ 4 -> tokR A t t' -> Rel r r' -> Rel (t :: r) (t' :: r')
 | line {l l' ls r r'} : l.Kind = 4 -> l'.Kind = 4 -> A l.At l'.At -> (∀ x ∈ ls, x.Kind = 4) -> Rel r r' -> Rel (l :: r) (l' :: (ls ++ r'))
def LRel (ts ts' : List Token) : Prop := (∃ ls r', ts' = ls ++ r' /\ (∀ x ∈ ls, x.Kind = 4) /\ Rel A e e' X ts r') \/ (ts = [] /\ ∃ l, X = l :: ts' /\ l.Kind = 4)
def SR {α β : Type} (P : α -> β -> Prop) : Fault ⊕ α -> Fault ⊕ β -> Prop
 | .inl f, .inl f' => fltR A f f'
 | .inr a, .inr b => P a b
 | _, _ => False
structure StR (x x' : AsmParser) : Prop where
 p : x'.p = x.p
 names : F2 (namR A) x.names x'.names
 funcs : F2 A x.funcs x'.funcs
 insts : F2 (F2 A) x.insts x'.insts
 end1 : x.end_ = e
 end2 : x'.end_ = e'
variable {A e e' X}
theorem nxt_sim {k : Int} {ts ts' : List Token} (h : Rel A e e' X ts ts') : SR A (fun a b => tokR A a.1 b.1 /\ Rel A e e' X a.2 b.2) (nxt e k ts) (nxt e' k ts') := by
 cases h with
 | nil h =>
  rcases h with ⟨rfl, h⟩ | ⟨l, x, rfl, h4, h⟩
  ·exact ⟨rfl, h, n15⟩
  ·rw [nxt, nxt, if_pos h4]; exact ⟨rfl, h, n15⟩
 | tok h4 ht hr =>
  rename_i t t' r r'
  rw [nxt, nxt, ht.1, if_neg h4, if_neg h4]
  split
  ·exact ⟨ht, hr⟩
  ·exact ⟨rfl, ht.2.2.2, n14⟩
 | line h1 h2 h3 h4 hr => rw [nxt, nxt, if_pos h1, if_pos h2]; exact ⟨rfl, h3, n15⟩
theorem close_sim {ts ts' : List Token} (h : Rel A e e' X ts ts') : SR A (LRel A e e' X) (closeM ts) (closeM ts') := by
 cases h with
 | nil h =>
  have hh := h
  rcases h with ⟨rfl, h⟩ | ⟨l, x, rfl, h4, h⟩
  ·exact .inl ⟨[], [], rfl, (fun x h => by cases h), .nil hh⟩
  ·rw [closeM, closeM, if_pos h4]; exact .inr ⟨rfl, l, rfl, h4⟩
 | tok h4 ht hr => rw [closeM, closeM, ht.1, if_neg h4, if_neg h4]; exact ⟨rfl, ht.2.2.2, n14⟩
 | line h1 h2 h3 h4 hr => rw [closeM, closeM, if_pos h1, if_pos h2]; exact .inl ⟨_, _, rfl, h4, hr⟩
theorem SR.cases {α β : Type} {P : α -> β -> Prop} {a : Fault ⊕ α} {b : Fault ⊕ β} (h : SR A P a b) : (∃ f f', a = .inl f /\ b = .inl f' /\ fltR A f f') \/ (∃ x y, a = .inr x /\ b = .inr y /\ P x y) := by
 cases a <;> cases b
 ·exact .inl ⟨_, _, rfl, rfl, h⟩
 ·exact h.elim
 ·exact h.elim
 ·exact .inr ⟨_, _, rfl, rfl, h⟩
theorem wordM_sim {g : ByteArray -> Option Int} {c : Int} (hc : c ≠ 0) {ts ts' : List Token} (h : Rel A e e' X ts ts') : SR A (fun a b => b.1 = a.1 /\ Rel A e e' X a.2 b.2) (wordM g c e ts) (wordM g c e' ts') := by
 rw [wordM, wordM]
 rcases (nxt_sim (k := 1) h).cases with ⟨f, f', e1, e2, h1⟩ | ⟨⟨t, r⟩, ⟨t', r'⟩, e1, e2, h1, h2⟩
 ·rw [e1, e2]; exact h1
 ·rw [e1, e2]
  dsimp only at h1 h2 ⊢
  rw [h1.2.1]
  cases g t.Text with
  | none => exact ⟨rfl, h1.2.2.2, hc⟩
  | some n => exact ⟨rfl, h2⟩
theorem objM_sim {kind : ByteArray} {fn at_ : Int} {ts ts' : List Token} {ns ns' : List AsmName} (h : Rel A e e' X ts ts') (hn : F2 (namR A) ns ns') : SR A (fun a b => Rel A e e' X a.1 b.1 /\ F2 (namR A) a.2 b.2) (objM e kind fn at_ ts ns) (objM e' kind fn at_ ts' ns') := by
 rw [objM, objM]
 rcases (nxt_sim (k := 1) h).cases with ⟨f, f', e1, e2, h1⟩ | ⟨⟨t, r⟩, ⟨t', r'⟩, e1, e2, h1, h2⟩
 ·rw [e1, e2]; exact h1
 ·rw [e1, e2]
  exact ⟨h2, hn.app ⟨h1, rfl, rfl, rfl⟩⟩
def psR (A : Int -> Int -> Prop) (e e' : Int) (X : List Token) (a b : PS) : Prop := b.1 = a.1 /\ Rel A e e' X a.2.1 b.2.1 /\ F2 (namR A) a.2.2 b.2.2
theorem stepO_sim {fn at_ : Int} (o : Opd) {s s' : PS} (h : psR A e e' X s s') : SR A (psR A e e' X) (stepO e fn at_ o s) (stepO e' fn at_ o s') := by
 obtain ⟨i, ts, ns⟩ := s
 obtain ⟨i', ts', ns'⟩ := s'
 obtain ⟨hi, ht, hn⟩ := h
 dsimp only at hi ht hn
 subst hi
 cases o with
 | N =>
  rw [stepO, stepO]
  rcases (nxt_sim (k := 2) ht).cases with ⟨f, f', e1, e2, h1⟩ | ⟨⟨t, r⟩, ⟨t', r'⟩, e1, e2, h1, h2⟩
  ·rw [e1, e2]; exact h1
  ·rw [e1, e2]; exact ⟨by dsimp only; rw [h1.2.2.1], h2, hn⟩
 | obj k =>
  rw [stepO, stepO]
  rcases (objM_sim (kind := k) (fn := fn) (at_ := at_) ht hn).cases with ⟨f, f', e1, e2, h1⟩ | ⟨⟨t, r⟩, ⟨t', r'⟩, e1, e2, h1, h2⟩
  ·rw [e1, e2]; exact h1
  ·rw [e1, e2]; exact ⟨rfl, h1, h2⟩
 | F =>
  rw [stepO, stepO]
  rcases (wordM_sim (g := vName) (c := 8) (by decide) ht).cases with ⟨f, f', e1, e2, h1⟩ | ⟨⟨t, r⟩, ⟨t', r'⟩, e1, e2, h1, h2⟩
  ·rw [e1, e2]; exact h1
  ·rw [e1, e2]; exact ⟨by dsimp only at h1 ⊢; rw [h1], h2, hn⟩
 | R =>
  rw [stepO, stepO]
  rcases (wordM_sim (g := oName) (c := 13) (by decide) ht).cases with ⟨f, f', e1, e2, h1⟩ | ⟨⟨t, r⟩, ⟨t', r'⟩, e1, e2, h1, h2⟩
  ·rw [e1, e2]; exact h1
  ·rw [e1, e2]; exact ⟨by dsimp only at h1 ⊢; rw [h1], h2, hn⟩
 | _ =>
  rw [stepO, stepO]
  rcases (wordM_sim (g := regN) (c := 10) (by decide) ht).cases with ⟨f, f', e1, e2, h1⟩ | ⟨⟨t, r⟩, ⟨t', r'⟩, e1, e2, h1, h2⟩
  ·rw [e1, e2]; exact h1
  ·rw [e1, e2]; exact ⟨by dsimp only at h1 ⊢; rw [h1], h2, hn⟩
theorem runO_sim {fn at_ : Int} : ∀ (l : List Opd) {s s' : PS}, psR A e e' X s s' -> SR A (psR A e e' X) (runO e fn at_ l s) (runO e' fn at_ l s')
 | [], s, s', h => h
 | o :: l, s, s', h => by
  rw [runO, runO]
  rcases (stepO_sim (fn := fn) (at_ := at_) o h).cases with ⟨f, f', e1, e2, h1⟩ | ⟨t, t', e1, e2, h1⟩
  ·rw [e1, e2]; exact h1
  ·rw [e1, e2]; exact runO_sim l h1
def lnR (A : Int -> Int -> Prop) (e e' : Int) (X : List Token) (a b : Bool × AsmParser) : Prop := b.1 = a.1 /\ StR A e e' a.2 b.2 /\ LRel A e e' X a.2.tokens b.2.tokens
theorem body_sim {x x' : AsmParser} {t t' : Token} {r r' : List Token} (h : StR A e e' x x') (hx : Inv true x) (ht : tokR A t t') (hr : Rel A e e' X r r') : SR A (lnR A e e' X) (bodyM x t r) (bodyM x' t' r') := by
 obtain ⟨h1, h2, h3, h4, h5, h6⟩ := h
 rw [bodyM, bodyM, ht.1, ht.2.1, h1, h5, h6]
 by_cases hk : t.Kind = 1
 ·rw [if_pos hk, if_pos hk]
  cases mName t.Text with
  | none =>
   dsimp only
   split
   ·rcases (close_sim hr).cases with ⟨f, f', e1, e2, g⟩ | ⟨a, b, e1, e2, g⟩
    ·rw [e1, e2]; exact g
    ·rw [e1, e2]; exact ⟨rfl, ⟨rfl, h2, h3, h4, rfl, rfl⟩, g⟩
   ·exact ⟨rfl, ht.2.2.2, n8⟩
  | some op =>
   dsimp only
   rcases (runO_sim (opsOf op) (fn := ((x.p.Funcs.length - 1 : Nat) : Int)) (at_ := (((gd x.p.Funcs (x.p.Funcs.length - 1)).Code.length : Nat) : Int)) (s := (⟨op, 0, 0, 0, 0, 0, 0, 0⟩, r, x.names)) (s' := (⟨op, 0, 0, 0, 0, 0, 0, 0⟩, r', x'.names)) ⟨rfl, hr, h2⟩).cases with ⟨f, f', e1, e2, g⟩ | ⟨⟨i, r1, n1⟩, ⟨i', r1', n1'⟩, e1, e2, g1, g2, g3⟩
   ·rw [instM, instM, e1, e2]; exact g
   ·rw [instM, instM, e1, e2]
    dsimp only at g1 g2 g3 ⊢
    subst g1
    rcases (close_sim g2).cases with ⟨f, f', e1, e2, g⟩ | ⟨a, b, e1, e2, g⟩
    ·rw [e1, e2]; exact g
    ·rw [e1, e2]
     exact ⟨rfl, ⟨rfl, g3, h3, h4.set ((h4.gd (by have := hx.inside rfl; rw [hx.insts]; omega)).app ht.2.2.2) _, rfl, rfl⟩, g⟩
 ·rw [if_neg hk, if_neg hk]; exact ⟨rfl, ht.2.2.2, n14⟩
theorem decl_sim {x x' : AsmParser} {t t' : Token} {r r' : List Token} (h : StR A e e' x x') (ht : tokR A t t') (hr : Rel A e e' X r r') : SR A (lnR A e e' X) (declM x t r) (declM x' t' r') := by
 obtain ⟨h1, h2, h3, h4, h5, h6⟩ := h
 rw [declM, declM, ht.1, ht.2.1, h1, h5, h6]
 by_cases hk : t.Kind = 1
 ·have hk' : ¬ (t.Kind ≠ 1) := fun h => h hk
  rw [if_neg hk', if_neg hk']
  by_cases hkVar : eqS t.Text kVar = true
  ·rw [if_pos hkVar, if_pos hkVar]
   rcases (nxt_sim (k := 1) hr).cases with ⟨f, f', e1, e2, g⟩ | ⟨⟨n, r1⟩, ⟨n', r1'⟩, e1, e2, g1, g2⟩
   ·rw [e1, e2]; exact g
   ·rw [e1, e2]
    dsimp only at g1 g2 ⊢
    rcases (nxt_sim (k := 2) g2).cases with ⟨f, f', e1, e2, g⟩ | ⟨⟨v, r2⟩, ⟨v', r2'⟩, e1, e2, g3, g4⟩
    ·rw [e1, e2]; exact g
    ·rw [e1, e2]
     dsimp only at g3 g4 ⊢
     rcases (close_sim g4).cases with ⟨f, f', e1, e2, g⟩ | ⟨a, b, e1, e2, g⟩
     ·rw [e1, e2]; exact g
     ·rw [e1, e2]; exact ⟨rfl, ⟨by dsimp only; rw [g1.2.1, g3.2.2.1], h2, h3, h4, rfl, rfl⟩, g⟩
  rw [if_neg hkVar, if_neg hkVar]
  by_cases hkMutex : eqS t.Text kMutex = true
  ·rw [if_pos hkMutex, if_pos hkMutex]
   rcases (nxt_sim (k := 1) hr).cases with ⟨f, f', e1, e2, g⟩ | ⟨⟨n, r1⟩, ⟨n', r1'⟩, e1, e2, g1, g2⟩
   ·rw [e1, e2]; exact g
   ·rw [e1, e2]
    dsimp only at g1 g2 ⊢
    rcases (close_sim g2).cases with ⟨f, f', e1, e2, g⟩ | ⟨a, b, e1, e2, g⟩
    ·rw [e1, e2]; exact g
    ·rw [e1, e2]; exact ⟨rfl, ⟨by dsimp only; rw [g1.2.1], h2, h3, h4, rfl, rfl⟩, g⟩
  rw [if_neg hkMutex, if_neg hkMutex]
  by_cases hkCond : eqS t.Text kCond = true
  ·rw [if_pos hkCond, if_pos hkCond]
   rcases (nxt_sim (k := 1) hr).cases with ⟨f, f', e1, e2, g⟩ | ⟨⟨n, r1⟩, ⟨n', r1'⟩, e1, e2, g1, g2⟩
   ·rw [e1, e2]; exact g
   ·rw [e1, e2]
    dsimp only at g1 g2 ⊢
    rcases (close_sim g2).cases with ⟨f, f', e1, e2, g⟩ | ⟨a, b, e1, e2, g⟩
    ·rw [e1, e2]; exact g
    ·rw [e1, e2]; exact ⟨rfl, ⟨by dsimp only; rw [g1.2.1], h2, h3, h4, rfl, rfl⟩, g⟩
  rw [if_neg hkCond, if_neg hkCond]
  by_cases hkFunc : eqS t.Text kFunc = true
  ·rw [if_pos hkFunc, if_pos hkFunc]
   rcases (nxt_sim (k := 1) hr).cases with ⟨f, f', e1, e2, g⟩ | ⟨⟨n, r1⟩, ⟨n', r1'⟩, e1, e2, g1, g2⟩
   ·rw [e1, e2]; exact g
   ·rw [e1, e2]
    dsimp only at g1 g2 ⊢
    rcases (close_sim g2).cases with ⟨f, f', e1, e2, g⟩ | ⟨a, b, e1, e2, g⟩
    ·rw [e1, e2]; exact g
    ·rw [e1, e2]; exact ⟨rfl, ⟨by dsimp only; rw [g1.2.1], h2, h3.app ht.2.2.2, h4.app .nil, rfl, rfl⟩, g⟩
  rw [if_neg hkFunc, if_neg hkFunc]
  by_cases hkThread : eqS t.Text kThread = true
  ·rw [if_pos hkThread, if_pos hkThread]
   rcases (objM_sim (kind := kThread) (fn := ((x.p.Threads.length : Nat) : Int)) (at_ := 0) hr h2).cases with ⟨f, f', e1, e2, g⟩ | ⟨⟨r1, n1⟩, ⟨r1', n1'⟩, e1, e2, g1, g2⟩
   ·rw [e1, e2]; exact g
   ·rw [e1, e2]
    dsimp only at g1 g2 ⊢
    rcases (nxt_sim (k := 2) g1).cases with ⟨f, f', e1, e2, g⟩ | ⟨⟨v, r2⟩, ⟨v', r2'⟩, e1, e2, g3, g4⟩
    ·rw [e1, e2]; exact g
    ·rw [e1, e2]
     dsimp only at g3 g4 ⊢
     rcases (close_sim g4).cases with ⟨f, f', e1, e2, g⟩ | ⟨a, b, e1, e2, g⟩
     ·rw [e1, e2]; exact g
     ·rw [e1, e2]; exact ⟨rfl, ⟨by dsimp only; rw [g3.2.2.1], g2, h3, h4, rfl, rfl⟩, g⟩
  rw [if_neg hkThread, if_neg hkThread]
  exact ⟨rfl, ht.2.2.2, n14⟩
 ·rw [if_pos hk, if_pos hk]; exact ⟨rfl, ht.2.2.2, n14⟩
theorem line_len {b b' : Bool} {x y : AsmParser} {t : Token} {r : List Token} (h : lineM b x t r = .inr (b', y)) : y.tokens.length <= r.length := by
 cases b
 ·change declM x t r = .inr (b', y) at h
  rw [declM] at h
  split at h
  ·cases h
  split at h
  ·split at h
   ·cases h
   ·rename_i hn1
    split at h
    ·cases h
    ·rename_i hn2
     split at h
     ·cases h
     ·rename_i r3 hc
      injection h with h; injection h with e1 e2; subst e1 e2
      have hc := closeM_ok hc; have hn1 := congrArg List.length (nxt_ok hn1).1; have hn2 := congrArg List.length (nxt_ok hn2).1
      simp only [List.length_cons] at hn1 hn2
      dsimp only; omega
  split at h
  ·split at h
   ·cases h
   ·rename_i hn1
    split at h
    ·cases h
    ·rename_i r3 hc
     injection h with h; injection h with e1 e2; subst e1 e2
     have hc := closeM_ok hc; have hn1 := congrArg List.length (nxt_ok hn1).1
     simp only [List.length_cons] at hn1
     dsimp only; omega
  split at h
  ·split at h
   ·cases h
   ·rename_i hn1
    split at h
    ·cases h
    ·rename_i r3 hc
     injection h with h; injection h with e1 e2; subst e1 e2
     have hc := closeM_ok hc; have hn1 := congrArg List.length (nxt_ok hn1).1
     simp only [List.length_cons] at hn1
     dsimp only; omega
  split at h
  ·split at h
   ·cases h
   ·rename_i hn1
    split at h
    ·cases h
    ·rename_i r3 hc
     injection h with h; injection h with e1 e2; subst e1 e2
     have hc := closeM_ok hc; have hn1 := congrArg List.length (nxt_ok hn1).1
     simp only [List.length_cons] at hn1
     dsimp only; omega
  split at h
  ·split at h
   ·cases h
   ·rename_i hn1
    split at h
    ·cases h
    ·rename_i hn2
     split at h
     ·cases h
     ·rename_i r3 hc
      injection h with h; injection h with e1 e2; subst e1 e2
      obtain ⟨u, e1, e2⟩ := objM_ok hn1
      have hc := closeM_ok hc; have hn1 := congrArg List.length e1; have hn2 := congrArg List.length (nxt_ok hn2).1
      simp only [List.length_cons] at hn1 hn2
      dsimp only; omega
  ·cases h
 ·change bodyM x t r = .inr (b', y) at h
  rw [bodyM] at h
  split at h
  ·split at h
   ·rename_i op hop
    dsimp only at h
    split at h
    ·cases h
    ·rename_i i r1 n1 hr
     split at h
     ·cases h
     ·rename_i r2 hc
      injection h with h; injection h with h1 h2; subst h1 h2
      have hc := closeM_ok hc
      obtain ⟨a, b, c⟩ := runO_ok (opsOf_ok op) hr
      dsimp only; omega
   ·split at h
    ·split at h
     ·cases h
     ·rename_i r2 hc
      injection h with h; injection h with h1 h2; subst h1 h2
      exact closeM_ok hc
    ·cases h
  ·cases h
theorem loop_skip : ∀ (ls : List Token) (n : Nat) (b : Bool) (x : AsmParser) (r : List Token), (∀ t ∈ ls, t.Kind = 4) -> x.tokens = ls ++ r -> x.tokens.length <= n -> ∃ m, r.length <= m /\ loopM n b x = loopM m b { x with tokens := r }
 | [], n, b, x, r, _, ht, hn => ⟨n, by rw [ht] at hn; exact hn, by rw [show ({ x with tokens := r } : AsmParser) = x by rw [show r = x.tokens from ht.symm]]⟩
 | l :: ls, n, b, x, r, hl, ht, hn => by
  obtain ⟨n, rfl⟩ : ∃ k, n = k + 1 := ⟨n - 1, by rw [ht] at hn; simp only [List.length_append, List.length_cons] at hn; omega⟩
  obtain ⟨m, h1, h2⟩ := loop_skip ls n b { x with tokens := ls ++ r } r (fun t h => hl t (by simp [h])) rfl (by rw [ht] at hn; simp only [List.length_append, List.length_cons] at hn ⊢; omega)
  refine ⟨m, h1, ?_⟩
  rw [<- h2, loopM, ht, List.cons_append]
  dsimp only
  rw [if_pos (hl l (by simp))]
theorem loop_sim : ∀ (n : Nat) (b : Bool) (x x' : AsmParser) (n' : Nat), Inv b x -> StR A e e' x x' -> LRel A e e' X x.tokens x'.tokens -> x.tokens.length <= n -> x'.tokens.length <= n' ->
  (∃ f f', loopM n b x = .inl f /\ loopM n' b x' = .inl f' /\ fltR A f f') \/
  (∃ b1 y y' m, loopM n b x = .inr (b1, y) /\ loopM n' b x' = loopM m b1 y' /\ StR A e e' y y' /\ y'.tokens = X.tail /\ X.tail.length <= m)
 | n, b, x, x', n', hi, hs, ht, hn, hn' => by
  have base : x.tokens = [] -> (∃ b1 y y' m, loopM n b x = .inr (b1, y) /\ loopM n' b x' = loopM m b1 y' /\ StR A e e' y y' /\ y'.tokens = X.tail /\ X.tail.length <= m) := fun h0 => by
   have hx : loopM n b x = .inr (b, x) := by cases n <;> simp [loopM, h0]
   have hst : ∀ r, StR A e e' x { x' with tokens := r } := fun r => ⟨hs.p, hs.names, hs.funcs, hs.insts, hs.end1, hs.end2⟩
   rcases ht with ⟨ls, r', e1, e2, e3⟩ | ⟨_, l, e1, e2⟩
   ·rw [h0] at e3
    have e4 : r' = X /\ (X = [] \/ ∃ l x, X = l :: x /\ l.Kind = 4) := by
     cases e3 with
     | nil h => exact ⟨rfl, h.elim (fun h => .inl h.1) fun ⟨l, x, a, b, _⟩ => .inr ⟨l, x, a, b⟩⟩
    obtain ⟨rfl, e4⟩ := e4
    rcases e4 with rfl | ⟨l, y, rfl, h4⟩
    ·obtain ⟨m, m1, m2⟩ := loop_skip ls n' b x' [] e2 e1 hn'
     exact ⟨b, x, _, m, hx, m2, hst _, rfl, m1⟩
    ·obtain ⟨m, m1, m2⟩ := loop_skip (ls ++ [l]) n' b x' y (fun t ht => by
      rcases List.mem_append.1 ht with h | h
      ·exact e2 t h
      ·rw [List.mem_singleton] at h; subst h; exact h4) (by rw [e1, List.append_assoc]; rfl) hn'
     exact ⟨b, x, _, m, hx, m2, hst _, rfl, m1⟩
   ·refine ⟨b, x, x', n', hx, rfl, hs, ?_, ?_⟩
    ·rw [e1]; rfl
    ·rw [e1]; exact hn'
  cases n with
  | zero => exact .inr (base (List.length_eq_zero_iff.1 (by omega)))
  | succ n =>
   cases htk : x.tokens with
   | nil => exact .inr (base htk)
   | cons t r =>
    have hl : x.tokens.length = r.length + 1 := by rw [htk]; rfl
    obtain ⟨ls, r0, e1, e2, e3⟩ : ∃ ls r', x'.tokens = ls ++ r' /\ (∀ x ∈ ls, x.Kind = 4) /\ Rel A e e' X x.tokens r' := by
     rcases ht with h | ⟨h0, _⟩
     ·exact h
     ·rw [htk] at h0; cases h0
    rw [htk] at e3
    obtain ⟨m, m1, m2⟩ := loop_skip ls n' b x' r0 e2 e1 hn'
    rw [m2, loopM, htk]
    dsimp only
    cases e3 with
    | line g1 g2 g3 g4 g5 =>
     rename_i l' ls' r'
     rw [if_pos g1]
     obtain ⟨m, rfl⟩ : ∃ k, m = k + 1 := ⟨m - 1, by simp only [List.length_cons] at m1; omega⟩
     rw [loopM]
     dsimp only
     rw [if_pos g2]
     exact loop_sim n b { x with tokens := r } { x' with tokens := ls' ++ r' } m (hi.less (by omega)) ⟨hs.p, hs.names, hs.funcs, hs.insts, hs.end1, hs.end2⟩ (.inl ⟨_, _, rfl, g4, g5⟩) (by dsimp only; omega) (by dsimp only; simp only [List.length_cons] at m1; omega)
    | tok g1 g2 g3 =>
     rename_i t' r'
     rw [if_neg g1]
     obtain ⟨m, rfl⟩ : ∃ k, m = k + 1 := ⟨m - 1, by simp only [List.length_cons] at m1; omega⟩
     rw [loopM]
     dsimp only
     rw [g2.1, if_neg g1]
     have hs' : StR A e e' x { x' with tokens := t' :: r' } := ⟨hs.p, hs.names, hs.funcs, hs.insts, hs.end1, hs.end2⟩
     have hsim : SR A (lnR A e e' X) (lineM b x t r) (lineM b { x' with tokens := t' :: r' } t' r') := by
      cases b
      ·exact decl_sim hs' g2 g3
      ·exact body_sim hs' hi g2 g3
     rcases hsim.cases with ⟨f, f', q1, q2, q3⟩ | ⟨⟨b1, y⟩, ⟨b2, y'⟩, q1, q2, q3, q4, q5⟩
     ·rw [q1, q2]; exact .inl ⟨f, f', rfl, rfl, q3⟩
     ·rw [q1, q2]
      dsimp only at q3 q4 q5 ⊢
      subst q3
      obtain ⟨i1, i2, i3⟩ := line_inv hi htk q1
      have j2 : y'.tokens.length <= r'.length := by
       cases b2 <;> exact line_len q2
      exact loop_sim n b2 y y' m i1 q4 q5 (by omega) (by simp only [List.length_cons] at m1; omega)
end
end Go.Dc.Pa
end
section
set_option linter.all false
namespace Go.Dc.Pa
open Go Go.Hw Go.Dc Go.Dc.Pl
set_option maxRecDepth 100000
section
variable {A : Int -> Int -> Prop} {e e' : Int} {X : List Token}
theorem link_sim {ns ns' : List AsmName} (h : F2 (namR A) ns ns') : ∀ (p : Program), SR A Eq (linkM ns p) (linkM ns' p) := by
 induction h with
 | nil => intro p; exact (rfl : p = p)
 | cons h1 _ ih =>
  rename_i n n' l r _
  intro p
  obtain ⟨⟨_, ht, _, ha⟩, hk, hf, hat⟩ := h1
  rw [linkM, linkM, hk, ht]
  cases findM p n.kind n.token.Text with
  | none => exact ⟨rfl, ha, n5⟩
  | some v =>
   dsimp only
   rw [show putM p n' v = putM p n v by simp only [putM, hk, hf, hat]]
   exact ih _
theorem place_sim (h0 : A 0 0) {funcs funcs' : List Int} {insts insts' : List (List Int)} (h1 : F2 A funcs funcs') (h2 : F2 (F2 A) insts insts') (f i : Int) : A (placeM funcs insts f i) (placeM funcs' insts' f i) := by
 rw [placeM, placeM, <- h1.len, <- h2.len]
 by_cases hf : 0 <= f
 ·rw [if_pos hf, if_pos hf]
  have hB : A (if f < funcs.length then gd funcs f.toNat else 0) (if f < funcs.length then gd funcs' f.toNat else 0) := by
   by_cases h : f < funcs.length
   ·rw [if_pos h, if_pos h]; exact h1.gd (by omega)
   ·rw [if_neg h, if_neg h]; exact h0
  by_cases hn : f.toNat < insts.length
  ·have h3 := h2.gd hn
   rw [<- h3.len]
   by_cases h : f < insts.length /\ 0 <= i /\ i < (gd insts f.toNat).length
   ·rw [if_pos h, if_pos h]; exact h3.gd (by omega)
   ·rw [if_neg h, if_neg h]; exact hB
  ·have n1 : ∀ z : Int, ¬ (f < insts.length /\ 0 <= i /\ i < z) := fun z => by omega
   rw [if_neg (n1 _), if_neg (n1 ((gd insts' f.toNat).length : Int))]; exact hB
 ·rw [if_neg hf, if_neg hf]; exact h0
theorem str0 (ts ts' : List Token) : StR A e e' (x0 ts e) (x0 ts' e') := ⟨rfl, .nil, .nil, .nil, rfl, rfl⟩
theorem run_sim (h0 : A 0 0) (he : A e e') {ts ts' : List Token} (hl : ts.length <= 1048576) (h : LRel A e e' [] ts ts') : SR A Eq (runM ts e) (runM ts' e') := by
 rw [runM, runM, textM, textM]
 rcases loop_sim (A := A) (e := e) (e' := e') (X := []) (x0 ts e).tokens.length false (x0 ts e) (x0 ts' e') (x0 ts' e').tokens.length (inv0 e hl) (str0 ts ts') h (Nat.le_refl _) (Nat.le_refl _) with ⟨f, f', q1, q2, q3⟩ | ⟨b, y, y', m, q1, q2, q3, q4, q5⟩
 ·rw [q1, q2]; exact q3
 ·have hy : loopM m b y' = .inr (b, y') := by
   cases m with
   | zero => rfl
   | succ m => rw [loopM, q4]; rfl
  rw [q1, q2, hy]
  dsimp only
  cases b
  ·simp only [Bool.false_eq_true, if_false]
   rw [q3.p]
   rcases (link_sim q3.names y.p).cases with ⟨f, f', e1, e2, g⟩ | ⟨p, q, e1, e2, rfl⟩
   ·rw [e1, e2]; exact g
   ·rw [e1, e2]
    dsimp only
    rw [checkM, checkM]
    by_cases hc : (chk p).1 = 0
    ·rw [if_pos hc, if_pos hc]; exact (rfl : p = p)
    ·rw [if_neg hc, if_neg hc]; exact ⟨rfl, place_sim h0 q3.funcs q3.insts _ _, hc⟩
  ·simp only [if_true]
   rw [q3.end1, q3.end2]; exact ⟨rfl, he, n15⟩
theorem run_ok {ts : List Token} {q : Program} (h : runM ts e = .inr q) : (∃ y, loopM ts.length false (x0 ts e) = .inr (false, y)) /\ (chk q).1 = 0 := by
 rw [runM, textM] at h
 split at h
 ·cases h
 ·rename_i y ht
  split at h
  ·cases h
  ·split at h
   ·cases h
   ·rename_i hc
    injection h with h; subst h
    constructor
    ·split at ht
     ·cases ht
     ·rename_i b z hz
      split at ht
      ·cases ht
      ·rename_i hb
       obtain rfl : b = false := by simpa using hb
       injection ht with ht; subst ht; exact ⟨_, hz⟩
    ·rw [checkM] at hc
     split at hc
     ·assumption
     ·cases hc
end
def anyA : Int -> Int -> Prop := fun _ _ => True
/-- A text that was taken whole, followed by more lines. -/
theorem run_more {e e' : Int} {ts ts' : List Token} {q : Program} {l : Token} {Y : List Token} (hl : ts.length <= 1048576) (h4 : l.Kind = 4) (h : Rel anyA e e' (l :: Y) ts ts') (hr : runM ts e = .inr q) :
  ∃ m y', loopM ts'.length false (x0 ts' e') = loopM m false y' /\ y'.tokens = Y /\ Y.length <= m /\ y'.end_ = e' := by
 obtain ⟨⟨y0, h0⟩, _⟩ := run_ok hr
 rcases loop_sim (A := anyA) (e := e) (e' := e') (X := l :: Y) ts.length false (x0 ts e) (x0 ts' e') ts'.length (inv0 e hl) (str0 ts ts') (.inl ⟨[], ts', rfl, (fun x h => by cases h), h⟩) (Nat.le_refl _) (Nat.le_refl _) with ⟨f, f', q1, q2, q3⟩ | ⟨b, y, y', m, q1, q2, q3, q4, q5⟩
 ·rw [h0] at q1; cases q1
 ·rw [h0] at q1; injection q1 with q1; injection q1 with e1 e2; subst e1
  exact ⟨m, y', q2, q4, q5, q3.end2⟩
theorem run_sym {e e' : Int} {ts ts' : List Token} {q : Program} {l t : Token} (hl : ts.length <= 1048576) (h4 : l.Kind = 4) (ht : t.Kind = 3) (h : Rel anyA e e' [l, t] ts ts') (hr : runM ts e = .inr q) : runM ts' e' = .inl ⟨14, t.At⟩ := by
 obtain ⟨m, y, h1, h2, h3, h5⟩ := run_more hl h4 h hr
 obtain ⟨m, rfl⟩ : ∃ k, m = k + 1 := ⟨m - 1, by simp only [List.length_cons] at h3; omega⟩
 rw [runM, textM, show (x0 ts' e').tokens.length = ts'.length from rfl, h1, loopM, h2]
 dsimp only
 rw [if_neg (by omega), lineM, if_neg (by simp), declM, if_pos (by omega)]
def kUnf : ByteArray := ⟨#[117, 110, 102, 105, 110, 105, 115, 104, 101, 100]⟩
def kStop : ByteArray := ⟨#[115, 116, 111, 112]⟩
theorem stop_op : (match mName kStop with | some op => (opsOf op).isEmpty | none => false) = true := by kernel_rfl
theorem fnK : eqS kFunc kVar = false /\ eqS kFunc kMutex = false /\ eqS kFunc kCond = false /\ eqS kFunc kFunc = true := ⟨by kernel_rfl, by kernel_rfl, by kernel_rfl, by kernel_rfl⟩
theorem run_unf {e e' : Int} {ts ts' : List Token} {q : Program} {l t1 t2 t3 t4 t5 : Token} (hl : ts.length <= 1048576) (h4 : l.Kind = 4) (k1 : t1.Kind = 1 /\ t1.Text = kFunc) (k2 : t2.Kind = 1) (k3 : t3.Kind = 4) (k4 : t4.Kind = 1 /\ t4.Text = kStop) (k5 : t5.Kind = 4)
  (h : Rel anyA e e' [l, t1, t2, t3, t4, t5] ts ts') (hr : runM ts e = .inr q) : runM ts' e' = .inl ⟨15, e'⟩ := by
 obtain ⟨m, y, h1, h2, h3, h5⟩ := run_more hl h4 h hr
 obtain ⟨m, rfl⟩ : ∃ k, m = k + 5 := ⟨m - 5, by simp only [List.length_cons] at h3; omega⟩
 obtain ⟨f1, f2, f3, f4⟩ := fnK
 rw [runM, textM, show (x0 ts' e').tokens.length = ts'.length from rfl, h1, loopM, h2]
 dsimp only
 rw [if_neg (by rw [k1.1]; decide), lineM, if_neg (by simp), declM, if_neg (by rw [k1.1]; decide), k1.2, f1, f2, f3, f4]
 simp only [Bool.false_eq_true, if_false, if_true, nxt, k2, closeM, k3, Int.reduceEq]
 rw [loopM]
 dsimp only
 rw [if_neg (by rw [k4.1]; decide), lineM, if_pos rfl, bodyM, if_pos k4.1, k4.2]
 have hs := stop_op
 cases hm : mName kStop with
 | none => rw [hm] at hs; cases hs
 | some op =>
  rw [hm] at hs
  have ho : opsOf op = [] := List.isEmpty_iff.1 hs
  simp only [instM, ho, runO, closeM, k5, if_true]
  rw [loopM]
  dsimp only
  simp only [if_true, h5]
theorem eqS_refl (a : ByteArray) : eqS a a = true := by simp [eqS]
end Go.Dc.Pa
end
section
set_option linter.all false
namespace Go.Dc.Pa
open Go Go.Hw Go.Dc Go.Dc.Pl
set_option maxRecDepth 100000
theorem lexM_fuel : ∀ (n m : Nat) (l : List UInt8) (a : Int), l.length <= n -> l.length <= m -> lexM n l a = lexM m l a
 | 0, m, l, a, h1, h2 => by rw [List.length_eq_zero_iff.1 (Nat.le_zero.1 h1), lexM_nil, lexM_nil]
 | n + 1, 0, l, a, h1, h2 => by rw [List.length_eq_zero_iff.1 (Nat.le_zero.1 h2), lexM_nil, lexM_nil]
 | n + 1, m + 1, [], a, h1, h2 => rfl
 | n + 1, m + 1, c :: r, a, h1, h2 => by
  simp only [List.length_cons] at h1 h2
  rw [lexM_cons, lexM_cons]
  cases hs : stepL c r with
  | skip k => exact lexM_fuel n m _ _ (by rw [List.length_drop]; omega) (by rw [List.length_drop]; omega)
  | bad e => rfl
  | tok x =>
   obtain ⟨l1, l2⟩ := tokM_len (stepL_tok hs).1
   dsimp only
   rw [lexM_fuel n m _ _ (by rw [List.length_drop, List.length_cons]; omega) (by rw [List.length_drop, List.length_cons]; omega)]
def lexF (l : List UInt8) (a : Int) : List Token ⊕ (Int × Int) := lexM l.length l a
theorem lexF_nil (a : Int) : lexF [] a = .inl [] := rfl
theorem lexF_cons (c : UInt8) (r : List UInt8) (a : Int) : lexF (c :: r) a = match stepL c r with
   | .skip k => lexF (r.drop k) (a + ((k + 1 : Nat) : Int))
   | .bad e => .inr (e, a)
   | .tok x => putT ⟨x.1, bs x.2.1, x.2.2, a⟩ (lexF ((c :: r).drop x.2.1.length) (a + ((x.2.1.length : Nat) : Int))) := by
 rw [lexF, List.length_cons, lexM_cons]
 cases hs : stepL c r with
 | skip k => exact lexM_fuel _ _ _ _ (by rw [List.length_drop]; omega) (Nat.le_refl _)
 | bad e => rfl
 | tok x =>
  obtain ⟨l1, l2⟩ := tokM_len (stepL_tok hs).1
  dsimp only
  rw [lexF, lexM_fuel _ _ _ _ (by rw [List.length_drop, List.length_cons]; omega) (Nat.le_refl _)]
theorem takeWhile_stop {α : Type} {p : α -> Bool} {x : α} (h : p x = false) (q : List α) : ∀ (r : List α), (r ++ x :: q).takeWhile p = r.takeWhile p
 | [] => by simp [h]
 | y :: r => by rw [List.cons_append, List.takeWhile_cons, List.takeWhile_cons, takeWhile_stop h q r]
theorem wrd10 : wrdB 10 = false := by kernel_rfl
theorem nl10 : notNl 10 = false := by kernel_rfl
theorem step10 (q : List UInt8) : stepL 10 q = .tok (4, [10], 0) := by
 simp only [stepL, tokM, show letB 10 = false by kernel_rfl, show orB (eqI ((10 : UInt8).toNat : Int) 45) (digB 10) = false by kernel_rfl, show symB 10 = false by kernel_rfl, Bool.false_eq_true, if_false]
 rfl
theorem step32 (q : List UInt8) : stepL 32 q = .skip 0 := rfl
theorem step_app (c : UInt8) (r q : List UInt8) : stepL c (r ++ 10 :: q) = stepL c r := by
 rw [stepL, stepL, takeN, takeWhile_stop nl10, <- takeN, tokM, takeWhile_stop wrd10]; rfl
theorem step_len {c : UInt8} {r : List UInt8} {k : Nat} (h : stepL c r = .skip k) : k <= r.length := by
 rw [stepL] at h
 repeat' split at h
 all_goals first | (injection h with h; subst h; first | omega | exact (List.takeWhile_prefix notNl).length_le) | cases h
def putsT (ts : List Token) (o : List Token ⊕ (Int × Int)) : List Token ⊕ (Int × Int) := match o with | .inl l => .inl (ts ++ l) | .inr e => .inr e
theorem lexF_app : ∀ (n : Nat) (l q : List UInt8) (a : Int) {ts : List Token}, l.length <= n -> lexF l a = .inl ts -> lexF (l ++ 10 :: q) a = putsT ts (lexF (10 :: q) (a + ((l.length : Nat) : Int)))
 | n, [], q, a, ts, _, h => by
  injection h with h; subst h
  rw [List.nil_append, List.length_nil, Int.natCast_zero, Int.add_zero]
  cases lexF (10 :: q) a <;> rfl
 | 0, c :: r, q, a, ts, hn, h => by simp at hn
 | n + 1, c :: r, q, a, ts, hn, h => by
  simp only [List.length_cons] at hn
  rw [lexF_cons] at h
  rw [List.cons_append, lexF_cons, step_app]
  cases hs : stepL c r with
  | skip k =>
   have hk := step_len hs
   rw [hs] at h
   dsimp only at h ⊢
   rw [List.drop_append_of_le_length hk, lexF_app n _ q _ (by rw [List.length_drop]; omega) h, List.length_drop, List.length_cons]
   congr 2; omega
  | bad e => rw [hs] at h; cases h
  | tok x =>
   obtain ⟨l1, l2⟩ := tokM_len (stepL_tok hs).1
   rw [hs] at h
   dsimp only at h ⊢
   cases h' : lexF ((c :: r).drop x.2.1.length) (a + ((x.2.1.length : Nat) : Int)) with
   | inr e => rw [h'] at h; cases h
   | inl ts' =>
    rw [h'] at h
    injection h with h; subst h
    rw [<- List.cons_append, List.drop_append_of_le_length (by simp only [List.length_cons]; omega), lexF_app n _ q _ (by rw [List.length_drop, List.length_cons]; omega) h']
    rw [List.length_drop, List.length_cons, show a + ((x.2.1.length : Nat) : Int) + ((r.length + 1 - x.2.1.length : Nat) : Int) = a + ((r.length + 1 : Nat) : Int) by omega]
    cases lexF (10 :: q) (a + ((r.length + 1 : Nat) : Int)) <;> rfl
/-- Where a text's tokens are. -/
theorem lexF_at {lo hi : Int} : ∀ (n : Nat) (l : List UInt8) (a : Int), l.length <= n -> lo <= a -> a + ((l.length : Nat) : Int) <= hi ->
  match lexF l a with | .inl ts => ∀ t ∈ ts, lo <= t.At /\ t.At <= hi | .inr e => lo <= e.2 /\ e.2 <= hi
 | n, [], a, _, _, _ => by rw [lexF_nil]; intro t h; cases h
 | 0, c :: r, a, hn, _, _ => by simp at hn
 | n + 1, c :: r, a, hn, h1, h2 => by
  simp only [List.length_cons] at hn h2
  rw [lexF_cons]
  cases hs : stepL c r with
  | skip k => exact lexF_at n _ _ (by rw [List.length_drop]; omega) (by omega) (by have := step_len hs; rw [List.length_drop]; omega)
  | bad e => exact ⟨h1, by dsimp only; omega⟩
  | tok x =>
   obtain ⟨l1, l2⟩ := tokM_len (stepL_tok hs).1
   have ih := lexF_at (lo := lo) (hi := hi) n ((c :: r).drop x.2.1.length) (a + ((x.2.1.length : Nat) : Int)) (by rw [List.length_drop, List.length_cons]; omega) (by omega) (by rw [List.length_drop, List.length_cons]; omega)
   dsimp only
   cases h' : lexF ((c :: r).drop x.2.1.length) (a + ((x.2.1.length : Nat) : Int)) with
   | inr e => rw [h'] at ih; exact ih
   | inl ts =>
    rw [h'] at ih
    intro t ht
    rcases List.mem_cons.1 ht with h | h
    ·subst h; exact ⟨h1, by dsimp only; omega⟩
    ·exact ih t h
/-- More blanks, comments, lines. -/
def sp (c : UInt8) : List UInt8 := if c.toNat = 32 then [32, 9, 32] else if c.toNat = 10 then [32, 35, 32, 101, 110, 100, 10, 10, 9] else [c]
def spd (l : List UInt8) : List UInt8 := l.flatMap sp ++ [32]
theorem u8_eq {c d : UInt8} (h : c.toNat = d.toNat) : c = d := UInt8.toNat_inj.1 h
def lnT (a : Int) : Token := ⟨4, bs [10], 0, a⟩
theorem lexF_10 (q : List UInt8) (a : Int) : lexF (10 :: q) a = putT (lnT a) (lexF q (a + 1)) := by rw [lexF_cons, step10]; rfl
theorem lexF_32 (q : List UInt8) (a : Int) : lexF (32 :: q) a = lexF q (a + 1) := by rw [lexF_cons, step32]; rfl
/-- Scans that are alike. -/
def scR (e e' : Int) : List Token ⊕ (Int × Int) -> List Token ⊕ (Int × Int) -> Prop
 | .inl ts, .inl ts' => Rel anyA e e' [] ts ts'
 | .inr x, .inr x' => x.1 = x'.1
 | _, _ => False
end Go.Dc.Pa
end
section
set_option linter.all false
namespace Go.Dc
open Go Go.Hw Go.Proofs
set_option maxRecDepth 100000
def asm_parser_single_L1 : Nat -> Nat -> (List Token) -> (List AsmName) -> Option ((List Token) × (List AsmName))
 | 0, k97, l98, l99 => some ((l98, l99))
 | q117 + 1, k97, l98, l99 => Option.bind (l98[k97]?) (fun x122 => cond (eqI x122.Kind 4) (Option.bind (some (l98.set k97 ({ x122 with Kind := 3 }))) (fun l126 => asm_parser_single_L1 q117 (k97 + 1) l126 l99)) (asm_parser_single_L1 q117 (k97 + 1) l98 l99))
def asm_parser_single_L2 (a1 : Program) : List AsmName -> Nat -> Int -> Int -> Option ((Int × Int) ⊕ Fault)
 | [], k228, i229, i230 => some (.inl (i229, i230))
 | x253 :: q249, k228, i229, i230 => Option.bind (asm_name_resolve x253 a1) (fun y257 => (match y257 with | .inl e259 => some (.inr e259) | .inr y260 => cond (eqS x253.kind (⟨#[111, 102, 32, 119, 97, 105, 116]⟩ : ByteArray)) (asm_parser_single_L2 a1 q249 (k228 + 1) i229 y260) (asm_parser_single_L2 a1 q249 (k228 + 1) y260 i230)))
def asm_parser_single (fuelN : Nat) (a0_0 : List Token) (a0_1 : Int) (a0_7 : List AsmName) (a1 : Program) : Option (Fault ⊕ (Inst × (List Token) × (List AsmName))) :=
 cond (eqI ((a0_0.length : Nat) : Int) 0) (Option.bind (asm_fail 15 a0_1) (fun y2 => some (.inl y2))) (Option.bind (a0_0[0]?) (fun x4 => cond (!(eqI x4.Kind 1)) (Option.bind (asm_fail 14 x4.At) (fun y8 => some (.inl y8))) (Option.bind (inst_ByMnemonic fuelN x4.Text) (fun y10 => cond (!y10.2) (Option.bind (asm_fail 8 x4.At) (fun y13 => some (.inl y13))) (Option.bind (α := (List Token) × (List AsmName)) (guardO (lenB a0_0.length) (Option.bind (asm_parser_single_L1 a0_0.length 0 a0_0 a0_7) (fun o => match o with | (l109, l110) => some ((l109, l110))))) (fun o => match o with | (l69, l70) => guardO (slB (1 : Int) (l69.length : Int) l69.length) (Option.bind (some (subL l69 (1 : Int) (l69.length : Int))) (fun l130 => Option.bind (asm_parser_instruction fuelN l130 a0_1 l70 y10.1 0 0) (fun y133 => (match y133 with | .inl e135 => some (.inl e135) | .inr y136 => cond (ltI 0 ((y136.2.1.length : Nat) : Int)) (Option.bind (y136.2.1[0]?) (fun x138 => Option.bind (asm_fail 14 x138.At) (fun y141 => some (.inl y141)))) (Option.bind (α := (Int × Int) ⊕ Fault) (guardO (lenB y136.2.2.length) (Option.bind (asm_parser_single_L2 a1 y136.2.2 0 y136.1.Obj y136.1.N) (fun o => match o with | .inl (i241, i242) => some (.inl (i241, i242)) | .inr e262 => some (.inr e262)))) (fun o => match o with | .inl (i200, i201) => some (.inr (({ Op := y136.1.Op, A := y136.1.A, B := y136.1.B, C := y136.1.C, Obj := i200, N := i201, Fn := y136.1.Fn, Order := y136.1.Order } : Inst), y136.2.1, y136.2.2)) | .inr e263 => some (.inl e263)))))))))))))
set_option maxHeartbeats 2000000 in
theorem at_asm_parser_single {fuelN : Nat} {c0_2 : FC} {c0_3 : FC} {c0_4 : FC} {c0_5 : FC} {c0_6 : FC} {c0_8 : FC} {c0_9 : FC} {a0_0 : List Token} {a0_1 : Int} {a0_7 : List AsmName} {a1 : Program} {r : Fault ⊕ (Inst × (List Token) × (List AsmName))} (hs : asm_parser_single fuelN a0_0 a0_1 a0_7 a1 = some r) : CAt Tryd.prog 21 [.cell (.ref (.a 0) 0), .agg (eA a1)] [.cells [.own (.sp 4 a0_0.length (encL a0_0)), nC a0_1, c0_2.ac, c0_3.ac, c0_4.ac, c0_5.ac, c0_6.ac, .own (.sp 7 a0_7.length (encL a0_7)), c0_8.ac, c0_9.ac]] (panO panV (fun (r : Inst × (List Token) × (List AsmName)) => .agg (eA r.1)) r) (panP (fun (r : Inst × (List Token) × (List AsmName)) => [(.a 0, .cells [sC r.2.1, nC a0_1, c0_2.ac, c0_3.ac, c0_4.ac, c0_5.ac, c0_6.ac, .own (.sp 7 r.2.2.length (encL r.2.2)), c0_8.ac, c0_9.ac])]) r) := by
 refine at_bound (by kernel_rfl) fun hb => ?_
 have hb1 : LenOk (.sl a1.Vars.length (encL a1.Vars)) := lkc hb
 have hb2 : LenOk (.sl a1.Mutexes.length (encL a1.Mutexes)) := lkc hb
 have hb3 : LenOk (.sl a1.Conds.length (encL a1.Conds)) := lkc hb
 have hb4 : LenOk (.sl a1.Funcs.length (encL a1.Funcs)) := lkc hb
 have hb5 : LenOk (.sl a1.Threads.length (encL a1.Threads)) := lkc hb
 refine at_code mixed Tryd.func21 (by kernel_rfl) rfl (by kernel_rfl) rfl fun Q hQ => ?_
 rw [asm_parser_single] at hs
 refine goR f0 ?_
 revert hs; refine cS f0 ?_ ?_ <;> intro h1 hs
 ·refine goR f0 ?_
  revert hs; refine bK fun y2 hx3 hs => ?_
  refine cX f0 (at_asm_fail hx3) [] (fun v => ?_)
  obtain rfl := sj hs
  exact hQ _ _ retPan
 ·revert hs; refine bK fun x4 hx5 hs => ?_
  have hx5b := getN_some hx5
  have f6 : partCV Tryd.prog 71 (encL a0_0) (0 * 4) = some (.agg (eA x4)) := partCV_enc hx5 (f := 0) (by simp)
  refine goR f6 ?_
  revert hs; refine cS f6 ?_ ?_ <;> intro h7 hs
  ·refine goR f6 ?_
   revert hs; refine bK fun y8 hx9 hs => ?_
   refine cX f6 (at_asm_fail hx9) [] (fun v => ?_)
   obtain rfl := sj hs
   exact hQ _ _ retPan
  ·refine goR f6 ?_
   revert hs; refine bK fun y10 hx11 hs => ?_
   refine cP f6 (at_inst_ByMnemonic hx11) ?_
   refine goR f6 ?_
   revert hs; refine cS f6 ?_ ?_ <;> intro h12 hs
   ·refine goR f6 ?_
    revert hs; refine bK fun y13 hx14 hs => ?_
    refine cX f6 (at_asm_fail hx14) [] (fun v => ?_)
    obtain rfl := sj hs
    exact hQ _ _ retPan
   ·refine goR2 f6 ?_
    revert hs; refine bK fun o72 e71 hs => ?_
    refine awp_cutK (fun (v : (List Token) × (List AsmName)) (σ : St) => some (v) = some o72 /\ σ.env 0 = .cell (.ref (.a 0) 0) /\ σ.env 3 = .cell (.ref (.o 1 0 0) 0) /\ σ.env 4 = .cell (.ref (.o 1 1 0) 0) /\ σ.env 6 = iV .i64 y10.1 /\ σ.hp (.l 3) = some (.pure (encL v.1)) /\ σ.hp (.a 0) = some (.cells [.sl (.l 3) 0 4 v.1.length, nC a0_1, c0_2.ac, c0_3.ac, c0_4.ac, c0_5.ac, c0_6.ac, .own (.sp 7 v.2.length (encL v.2)), c0_8.ac, c0_9.ac]) /\ σ.hp (.o 1 0 0) = some (.cells (eA a1)) /\ σ.hp (.o 1 1 0) = some (.cells [nC 0, nC 0, nC 0, nC 0, nC 0, nC 0, nC 0, nC 0]) /\ 7 <= σ.gen) (by rfl) (fun Q hK73 hX74 => ?_) (fun v σ3 hp => ?_)
    ·refine goR f6 ?_
     obtain ⟨hb121, e71⟩ := guardO_some e71
     revert e71; refine bK fun o112 e111 e71 => ?_
     refine awp_loopW (fun (v : Nat × Nat × (List Token) × (List AsmName)) (σ : St) => asm_parser_single_L1 v.1 v.2.1 v.2.2.1 v.2.2.2 = some o112 /\ v.1 + v.2.1 = a0_0.length /\ σ.env 0 = .cell (.ref (.a 0) 0) /\ σ.env 3 = .cell (.ref (.o 1 0 0) 0) /\ σ.env 4 = .cell (.ref (.o 1 1 0) 0) /\ σ.env 6 = iV .i64 y10.1 /\ σ.env 51 = iV .i64 ((a0_0.length : Nat) : Int) /\ σ.env 52 = iV .i64 ((v.2.1 : Nat) : Int) /\ σ.hp (.l 8) = some (.pure (encL v.2.2.1)) /\ σ.hp (.a 0) = some (.cells [.sl (.l 8) 0 4 v.2.2.1.length, nC a0_1, c0_2.ac, c0_3.ac, c0_4.ac, c0_5.ac, c0_6.ac, .own (.sp 7 v.2.2.2.length (encL v.2.2.2)), c0_8.ac, c0_9.ac]) /\ σ.hp (.o 1 0 0) = some (.cells (eA a1)) /\ σ.hp (.o 1 1 0) = some (.cells [nC 0, nC 0, nC 0, nC 0, nC 0, nC 0, nC 0, nC 0]) /\ 7 <= σ.gen) (fun v => v.1) _ (Gh.ren _ (.o 2 3 0) (.l 8) (by simp) rfl rfl) (a0_0.length, 0, a0_0, a0_7) ⟨e111, by first | omega | simp | (simp; omega), pv f6, pv f6, pv f6, pv f6, pv f6, pv f6, pv f6, pv f6, pv f6, pv f6, pg⟩ fun v σ6 hp L113 hL114 => ?_
     obtain ⟨q116, k97, l98, l99⟩ := v
     dsimp only at hp hL114
     obtain ⟨e111, hd115, h5_0, h5_3, h5_4, h5_6, h5_51, h5_52, g5_0, g5_1, g5_2, g5_3, n5_g⟩ := hp
     have n5_0 : ¬ (σ6.gen = 0) := by omega
     rcases q116 with _ | q117
     ·have hlt118 : ¬ k97 < a0_0.length := by omega
      rw [asm_parser_single_L1] at e111; try dsimp only at e111
      have F1 := an h5_0 (an h5_3 (an h5_4 (an h5_6 (an h5_51 (an h5_52 (an g5_0 (an g5_1 (an g5_2 (an g5_3 (an n5_0 f6))))))))))
      refine goR F1 ?_
      refine condK_f (by simp [ltI]; omega) ?_
      obtain rfl := sj e111
      try dsimp only at e71
      exact hK73 (l98, l99) _ _ (Gh.ren _ (.l 8) (.l 3) (by simp) rfl rfl) ⟨e71, pv F1, pv F1, pv F1, pv F1, pv F1, pv F1, pv F1, pv F1, pg⟩
     ·have hlt118 : k97 < a0_0.length := by omega
      have ew119 := wrap_succG hlt118 hb121
      rw [asm_parser_single_L1] at e111; try dsimp only at e111
      have F2 := an h5_0 (an h5_3 (an h5_4 (an h5_6 (an h5_51 (an h5_52 (an g5_0 (an g5_1 (an g5_2 (an g5_3 (an n5_0 (an f6 (an hlt118 ew119))))))))))))
      refine goR F2 ?_
      refine condK_t (by simp [ltI]; omega) ?_
      revert e111; refine bK fun x122 hx123 e111 => ?_
      have hx123b := getN_some hx123
      have f124 : partCV Tryd.prog 69 (encL l98) (k97 * 4) = some (iV .i64 x122.Kind) := partCV_enc hx123 (f := 0) (by simp)
      have F3 := an F2 f124
      refine goR F3 ?_
      revert e111; refine cS F3 ?_ ?_ <;> intro h125 e111
      ·revert e111; refine lK fun l126 hx127 e111 => ?_
       have f128 : setRun (encL l98) (k97 * 4) [.c (.int .i64 3)] = encL l126 := hx127 ▸ setRun_enc hx123 (f := 0) (by simp) (by simp [setRun])
       simp only [setRun] at f128
       have f128n : l126.length = l98.length := by rw [hx127]; simp
       have f128w : ∀ n : Nat, n = l126.length -> (encL l126).take (n * 4) = encL l126 := fun n h => by rw [h]; exact encL_takeN _ (by simp)
       have F4 := an F3 (an f128 (an f128n f128w))
       refine goR F4 ?_
       exact hL114 (q117, (k97 + 1), l126, l99) _ _ (Gh.refl _) ⟨e111, (by first | omega | (simp; omega)), pv F4, pv F4, pv F4, pv F4, pv F4, pv F4, pv F4, pv F4, pv F4, pv F4, pg⟩ (by omega)
      ·refine goR F3 ?_
       exact hL114 (q117, (k97 + 1), l98, l99) _ _ (Gh.refl _) ⟨e111, (by first | omega | (simp; omega)), pv F3, pv F3, pv F3, pv F3, pv F3, pv F3, pv F3, pv F3, pv F3, pv F3, pg⟩ (by omega)
    ·obtain ⟨l69, l70⟩ := v
     dsimp only at hp
     obtain ⟨e71, h4_0, h4_3, h4_4, h4_6, g4_0, g4_1, g4_2, g4_3, n4_g⟩ := hp
     obtain rfl := sj e71
     try dsimp only at hs
     have n4_0 : ¬ (σ3.gen = 0) := by omega
     have F5 := an h4_0 (an h4_3 (an h4_4 (an h4_6 (an g4_0 (an g4_1 (an g4_2 (an g4_3 (an n4_0 f6))))))))
     refine goN F5 ?_
     refine awp_gh (by rfl) (Gh.frz _ (.l 3)) ?_
     try simp only [St.frz, St.pur]
     obtain ⟨g129, hs⟩ := guardO_some hs
     obtain ⟨g129a, g129b, g129c⟩ := slB_t g129
     revert hs; refine lK fun l130 hx131 hs => ?_
     have f132n : l130.length = ((l69.length : Int) - (1 : Int)).toNat := by rw [hx131]; exact subL_len ⟨g129a, g129b, g129c⟩
     have f132e : ((encL l69).drop (((1 : Int) : Int).toNat * 4)).take (((l69.length : Int) - (1 : Int)).toNat * 4) = encL l130 := by rw [hx131]; exact subL_enc (α := Token)
     try simp at f132n
     try simp at f132e
     have F6 := an F5 (an g129a (an g129b (an g129c (an f132n f132e))))
     refine goR F6 ?_
     revert hs; refine bK fun y133 hx134 hs => ?_
     rcases y133 with e135 | y136
     ·try dsimp only at hs
      refine cX F6 (at_asm_parser_instruction (c0_2 := (c0_2.toF [.a 0])) (c0_3 := (c0_3.toF [.a 0])) (c0_4 := (c0_4.toF [.a 0])) (c0_5 := (c0_5.toF [.a 0])) (c0_6 := (c0_6.toF [.a 0])) (c0_8 := (c0_8.toF [.a 0])) (c0_9 := (c0_9.toF [.a 0])) hx134) [.a 0] (fun v => ?_)
      obtain rfl := sj hs
      exact hQ _ _ retPan
     ·try dsimp only at hs
      refine cB F6 (at_asm_parser_instruction (c0_2 := (c0_2.toF [.a 0])) (c0_3 := (c0_3.toF [.a 0])) (c0_4 := (c0_4.toF [.a 0])) (c0_5 := (c0_5.toF [.a 0])) (c0_6 := (c0_6.toF [.a 0])) (c0_8 := (c0_8.toF [.a 0])) (c0_9 := (c0_9.toF [.a 0])) hx134) [.a 0] ?_
      refine goR F6 ?_
      revert hs; refine cS F6 ?_ ?_ <;> intro h137 hs
      ·revert hs; refine bK fun x138 hx139 hs => ?_
       have hx139b := getN_some hx139
       have f140 : partCV Tryd.prog 3 (encL y136.2.1) (0 * 4 + 3) = some (iV .i64 x138.At) := partCV_enc hx139 (f := 3) (by simp)
       have F7 := an F6 f140
       refine goR F7 ?_
       revert hs; refine bK fun y141 hx142 hs => ?_
       refine cX F7 (at_asm_fail hx142) [] (fun v => ?_)
       obtain rfl := sj hs
       exact hQ _ _ retPan
      ·refine goR2 F6 ?_
       revert hs; refine bK fun o203 e202 hs => ?_
       refine awp_cutK (fun (v : Int × Int) (σ : St) => some (.inl v) = some o203 /\ σ.env 4 = .cell (.ref (.o 1 1 0) 0) /\ σ.env 9 = .cell (.ref (.o (σ3.gen + 2) 3 0) 0) /\ σ.hp (.a 0) = some (.cells [sC y136.2.1, nC a0_1, c0_2.ac, c0_3.ac, c0_4.ac, c0_5.ac, c0_6.ac, .sl (.o (σ3.gen + 4) 3 7) 0 7 y136.2.2.length, c0_8.ac, c0_9.ac]) /\ σ.hp (.o (σ3.gen + 4) 3 7) = some (.pure (encL y136.2.2)) /\ σ.hp (.o 1 1 0) = some (.cells [nC 0, nC 0, nC 0, nC 0, nC 0, nC 0, nC 0, nC 0]) /\ σ.hp (.o (σ3.gen + 2) 3 0) = some (.cells [nC y136.1.Op, nC y136.1.A, nC y136.1.B, nC y136.1.C, nC v.1, nC v.2, nC y136.1.Fn, nC y136.1.Order]) /\ (σ3.gen + 4) <= σ.gen) (by rfl) (fun Q hK204 hX205 => ?_) (fun v σ9 hp => ?_)
       ·refine goR F6 ?_
        obtain ⟨hb254, e202⟩ := guardO_some e202
        revert e202; refine bK fun o244 e243 e202 => ?_
        refine awp_loopW (fun (v : (List AsmName) × Nat × Int × Int) (σ : St) => asm_parser_single_L2 a1 v.1 v.2.1 v.2.2.1 v.2.2.2 = some o244 /\ v.1 = y136.2.2.drop v.2.1 /\ σ.env 3 = .cell (.ref (.o 1 0 0) 0) /\ σ.env 4 = .cell (.ref (.o 1 1 0) 0) /\ σ.env 9 = .cell (.ref (.o (σ3.gen + 2) 3 0) 0) /\ σ.env 100 = .cell (.sl (.o (σ3.gen + 4) 3 7) 0 7 y136.2.2.length) /\ σ.env 101 = iV .i64 ((y136.2.2.length : Nat) : Int) /\ σ.env 102 = iV .i64 ((v.2.1 : Nat) : Int) /\ σ.hp (.o (σ3.gen + 4) 3 7) = some (.pure (encL y136.2.2)) /\ σ.hp (.a 0) = some (.cells [sC y136.2.1, nC a0_1, c0_2.ac, c0_3.ac, c0_4.ac, c0_5.ac, c0_6.ac, .sl (.o (σ3.gen + 4) 3 7) 0 7 y136.2.2.length, c0_8.ac, c0_9.ac]) /\ σ.hp (.o 1 0 0) = some (.cells (eA a1)) /\ σ.hp (.o 1 1 0) = some (.cells [nC 0, nC 0, nC 0, nC 0, nC 0, nC 0, nC 0, nC 0]) /\ σ.hp (.o (σ3.gen + 2) 3 0) = some (.cells [nC y136.1.Op, nC y136.1.A, nC y136.1.B, nC y136.1.C, nC v.2.2.1, nC v.2.2.2, nC y136.1.Fn, nC y136.1.Order]) /\ (σ3.gen + 4) <= σ.gen) (fun v => v.1.length) _ (Gh.refl _) (y136.2.2, 0, y136.1.Obj, y136.1.N) ⟨e243, by simp, pv F6, pv F6, pv F6, pv F6, pv F6, pv F6, pv F6, pv F6, pv F6, pv F6, pv F6, pg⟩ fun v σ12 hp L245 hL246 => ?_
        obtain ⟨q248, k228, i229, i230⟩ := v
        dsimp only at hp hL246
        obtain ⟨e243, hd247, h11_3, h11_4, h11_9, h11_100, h11_101, h11_102, g11_0, g11_1, g11_2, g11_3, g11_4, n11_g⟩ := hp
        have n11_0 : ¬ (σ12.gen = 0) := by omega
        have n11_σ3gen_0 : ¬ (σ12.gen = σ3.gen) := by omega
        have n11_σ3gen_0' : ¬ (σ3.gen = σ12.gen) := by omega
        have n11_σ3gen_1 : ¬ (σ12.gen = σ3.gen + 1) := by omega
        have n11_σ3gen_1' : ¬ (σ3.gen + 1 = σ12.gen) := by omega
        have n11_σ3gen_2 : ¬ (σ12.gen = σ3.gen + 2) := by omega
        have n11_σ3gen_2' : ¬ (σ3.gen + 2 = σ12.gen) := by omega
        have n11_σ3gen_3 : ¬ (σ12.gen = σ3.gen + 3) := by omega
        have n11_σ3gen_3' : ¬ (σ3.gen + 3 = σ12.gen) := by omega
        have n11_σ3gen_a : ∀ j, ¬ (σ12.gen + j = σ3.gen) := fun j => by omega
        have n11_σ3gen_a' : ∀ j, ¬ (σ3.gen = σ12.gen + j) := fun j => by omega
        rcases q248 with _ | ⟨x253, q249⟩
        ·have hlt250 := drop_end hd247
         rw [asm_parser_single_L2] at e243; try dsimp only at e243
         have F8 := an h11_3 (an h11_4 (an h11_9 (an h11_100 (an h11_101 (an h11_102 (an g11_0 (an g11_1 (an g11_2 (an g11_3 (an g11_4 (an n11_0 (an n11_σ3gen_0 (an n11_σ3gen_0' (an n11_σ3gen_1 (an n11_σ3gen_1' (an n11_σ3gen_2 (an n11_σ3gen_2' (an n11_σ3gen_3 (an n11_σ3gen_3' (an n11_σ3gen_a (an n11_σ3gen_a' f6)))))))))))))))))))))
         refine goR F8 ?_
         refine condK_f (by simp [ltI]; omega) ?_
         obtain rfl := sj e243
         try dsimp only at e202
         exact hK204 (i229, i230) _ _ (Gh.refl _) ⟨e202, pv F8, pv F8, pv F8, pv F8, pv F8, pv F8, pg⟩
        ·obtain ⟨hx252, hlt250, hd255⟩ := drop_next hd247
         have ew251 := wrap_succG hlt250 hb254
         rw [asm_parser_single_L2] at e243; try dsimp only at e243
         have F9 := an h11_3 (an h11_4 (an h11_9 (an h11_100 (an h11_101 (an h11_102 (an g11_0 (an g11_1 (an g11_2 (an g11_3 (an g11_4 (an n11_0 (an n11_σ3gen_0 (an n11_σ3gen_0' (an n11_σ3gen_1 (an n11_σ3gen_1' (an n11_σ3gen_2 (an n11_σ3gen_2' (an n11_σ3gen_3 (an n11_σ3gen_3' (an n11_σ3gen_a (an n11_σ3gen_a' (an f6 (an hlt250 ew251)))))))))))))))))))))))
         refine goR F9 ?_
         refine condK_t (by simp [ltI]; omega) ?_
         have f256 : partCV Tryd.prog 77 (encL y136.2.2) (k228 * 7) = some (.agg (eA x253)) := partCV_enc hx252 (f := 0) (by simp)
         have F10 := an F9 f256
         refine goR F10 ?_
         revert e243; refine bK fun y257 hx258 e243 => ?_
         rcases y257 with e259 | y260
         ·try dsimp only at e243
          refine cX F10 (at_asm_name_resolve hx258) [] (fun v => ?_)
          obtain rfl := sj e243
          try dsimp only at e202
          obtain rfl := sj e202
          try dsimp only at hs
          refine hX205 _ _ (by simp) ?_
          obtain rfl := sj hs
          exact hQ _ _ retPan
         ·try dsimp only at e243
          refine cP F10 (at_asm_name_resolve hx258) ?_
          refine goR F10 ?_
          revert e243; refine cS F10 ?_ ?_ <;> intro h261 e243
          ·refine goR F10 ?_
           exact hL246 (q249, (k228 + 1), i229, y260) _ _ (Gh.refl _) ⟨e243, hd255, pv F10, pv F10, pv F10, pv F10, pv F10, pv F10, pv F10, pv F10, pv F10, pv F10, pv F10, pg⟩ (by simp)
          ·refine goR F10 ?_
           exact hL246 (q249, (k228 + 1), y260, i230) _ _ (Gh.refl _) ⟨e243, hd255, pv F10, pv F10, pv F10, pv F10, pv F10, pv F10, pv F10, pv F10, pv F10, pv F10, pv F10, pg⟩ (by simp)
       ·obtain ⟨i200, i201⟩ := v
        dsimp only at hp
        obtain ⟨e202, h10_4, h10_9, g10_0, g10_1, g10_2, g10_3, n10_g⟩ := hp
        obtain rfl := sj e202
        try dsimp only at hs
        have n10_0 : ¬ (σ9.gen = 0) := by omega
        have n10_σ3gen_0 : ¬ (σ9.gen = σ3.gen) := by omega
        have n10_σ3gen_0' : ¬ (σ3.gen = σ9.gen) := by omega
        have n10_σ3gen_1 : ¬ (σ9.gen = σ3.gen + 1) := by omega
        have n10_σ3gen_1' : ¬ (σ3.gen + 1 = σ9.gen) := by omega
        have n10_σ3gen_2 : ¬ (σ9.gen = σ3.gen + 2) := by omega
        have n10_σ3gen_2' : ¬ (σ3.gen + 2 = σ9.gen) := by omega
        have n10_σ3gen_3 : ¬ (σ9.gen = σ3.gen + 3) := by omega
        have n10_σ3gen_3' : ¬ (σ3.gen + 3 = σ9.gen) := by omega
        have n10_σ3gen_a : ∀ j, ¬ (σ9.gen + j = σ3.gen) := fun j => by omega
        have n10_σ3gen_a' : ∀ j, ¬ (σ3.gen = σ9.gen + j) := fun j => by omega
        have F11 := an h10_4 (an h10_9 (an g10_0 (an g10_1 (an g10_2 (an g10_3 (an n10_0 (an n10_σ3gen_0 (an n10_σ3gen_0' (an n10_σ3gen_1 (an n10_σ3gen_1' (an n10_σ3gen_2 (an n10_σ3gen_2' (an n10_σ3gen_3 (an n10_σ3gen_3' (an n10_σ3gen_a (an n10_σ3gen_a' f6))))))))))))))))
        refine goR F11 ?_
        obtain rfl := sj hs
        refine hQ _ _ (ret2g _ (Gh.close _ (.a 0) 7) (by simp [St.frz, St.pur, F11]; rfl) (by first | rfl | (simp [St.frz, St.pur, F11]; done) | (rw [if_pos (by first | omega | (simp; omega))]; simp [St.frz, St.pur, F11]; first | omega | exact List.take_of_length_le (by simp; omega) | skip)) (pv F11))
end Go.Dc
end
section
set_option linter.all false
namespace Go.Dc
open Go Go.Hw Go.Proofs
set_option maxRecDepth 100000
def asm_Instruction (fuelN : Nat) (a0 : Program) (a1 : ByteArray) : Option (Inst × Fault) :=
 Option.bind (program_Check fuelN a0) (fun y1 => cond (!(eqI y1.1 0)) (some (({ Op := 0, A := 0, B := 0, C := 0, Obj := 0, N := 0, Fn := 0, Order := 0 } : Inst), ({ Err := y1.1, At := 0 } : Fault))) (Option.bind (lex_Scan fuelN a1) (fun y4 => cond (!(eqI y4.2.Err 0)) (some (({ Op := 0, A := 0, B := 0, C := 0, Obj := 0, N := 0, Fn := 0, Order := 0 } : Inst), y4.2)) (Option.bind (asm_parser_single fuelN y4.1 ((a1.size : Nat) : Int) ([] : List AsmName) a0) (fun y7 => (match y7 with | .inl e9 => some (({ Op := 0, A := 0, B := 0, C := 0, Obj := 0, N := 0, Fn := 0, Order := 0 } : Inst), e9) | .inr y10 => some (y10.1, ({ Err := 0, At := 0 } : Fault))))))))
set_option maxHeartbeats 2000000 in
theorem at_asm_Instruction {fuelN : Nat} {a0 : Program} {a1 : ByteArray} {r : Inst × Fault} (hs : asm_Instruction fuelN a0 a1 = some r) : At Tryd.prog 10 [.agg (eA a0), sV a1] (.tup [.agg (eA r.1), .agg (eA r.2)]) := by
 refine at_bound (by kernel_rfl) fun hb => ?_
 have hb1 : LenOk (.sl a0.Vars.length (encL a0.Vars)) := lkc hb
 have hb2 : LenOk (.sl a0.Mutexes.length (encL a0.Mutexes)) := lkc hb
 have hb3 : LenOk (.sl a0.Conds.length (encL a0.Conds)) := lkc hb
 have hb4 : LenOk (.sl a0.Funcs.length (encL a0.Funcs)) := lkc hb
 have hb5 : LenOk (.sl a0.Threads.length (encL a0.Threads)) := lkc hb
 refine at_codeD mixed Tryd.func10 (by kernel_rfl) rfl (by kernel_rfl) rfl rfl fun Q hQ => ?_
 rw [asm_Instruction] at hs
 refine goR f0 ?_
 refine awpD_next (by rfl) (by kernel_rfl) ?_
 refine goR f0 ?_
 refine awpD_next (by rfl) (by kernel_rfl) ?_
 refine goR f0 ?_
 revert hs; refine bK fun y1 hx2 hs => ?_
 refine cP f0 (at_program_Check hx2) ?_
 refine goR f0 ?_
 revert hs; refine cS f0 ?_ ?_ <;> intro h3 hs
 ·refine goR f0 ?_
  obtain rfl := sj hs
  exact hQ _ _ (rg f0 (Gh.refl _))
 ·refine goR f0 ?_
  refine awpD_next (by rfl) (by kernel_rfl) ?_
  refine goR f0 ?_
  revert hs; refine bK fun y4 hx5 hs => ?_
  refine cA f0 (at_lex_Scan hx5) ?_
  refine goR f0 ?_
  refine awpD_next (by rfl) (by kernel_rfl) ?_
  refine goR f0 ?_
  revert hs; refine cS f0 ?_ ?_ <;> intro h6 hs
  ·refine goD f0 ?_
   obtain rfl := sj hs
   exact hQ _ _ (rg f0 (Gh.refl _))
  ·refine goR f0 ?_
   refine awpD_defer (by rfl) (by rfl) (by kernel_rfl) (by kernel_rfl) ?_
   refine goR f0 ?_
   refine kD_intro (g := 20) (caps := [.inl (.o 1 1 0), .inl (.o 1 2 0)]) (by simp <;> rfl) fun Q hQ => ?_
   refine goN f0 ?_
   refine awp_reg ?_
   refine goN f0 ?_
   refine awp_gh (by rfl) ((Gh.close _ (.o 7 4 0) 0).trans ((Gh.own0 _ (.o 7 4 0) 2 (.sp 2 0 []) rfl).trans ((Gh.own0 _ (.o 7 4 0) 3 (.sp 1 0 []) rfl).trans ((Gh.own0 _ (.o 7 4 0) 4 (.sp 1 0 []) rfl).trans ((Gh.own0 _ (.o 7 4 0) 5 (.sl 2 0 []) rfl).trans ((Gh.own0 _ (.o 7 4 0) 6 (.sp 2 0 []) rfl).trans ((Gh.own0 _ (.o 7 4 0) 7 (.sp 7 0 []) rfl).trans ((Gh.own0 _ (.o 7 4 0) 8 (.sp 1 0 []) rfl).trans (Gh.own0 _ (.o 7 4 0) 9 (.sl 1 0 []) rfl))))))))) ?_
   try simp only [St.frz, St.pur]
   refine goR f0 ?_
   revert hs; refine bK fun y7 hx8 hs => ?_
   rcases y7 with e9 | y10
   ·try dsimp only at hs
    refine cXd f0 (at_asm_parser_single (c0_2 := ⟨AC.toF [.o 7 4 0] (.own (.sp 2 ([] : List Var).length (encL ([] : List Var)))), by simp⟩) (c0_3 := ⟨AC.toF [.o 7 4 0] (.own (.sp 1 ([] : List ByteArray).length (encL ([] : List ByteArray)))), by simp⟩) (c0_4 := ⟨AC.toF [.o 7 4 0] (.own (.sp 1 ([] : List ByteArray).length (encL ([] : List ByteArray)))), by simp⟩) (c0_5 := ⟨AC.toF [.o 7 4 0] (.own (.sl 2 ([] : List Func).length (otL ([] : List Func)))), by simp⟩) (c0_6 := ⟨AC.toF [.o 7 4 0] (.own (.sp 2 ([] : List Start).length (encL ([] : List Start)))), by simp⟩) (c0_8 := ⟨AC.toF [.o 7 4 0] (.own (.sp 1 ([] : List Int).length (encL ([] : List Int)))), by simp⟩) (c0_9 := ⟨AC.toF [.o 7 4 0] (.own (.sl 1 ([] : List (List Int)).length (otL ([] : List (List Int))))), by simp⟩) hx8) [.o 7 4 0] ?_
    refine goR f0 ?_
    obtain rfl := sj hs
    refine hQ _ _ (pD (Gh.refl _) [.inl (.o 1 1 0), .inl (.o 1 2 0)] [.o 1 1 0, .o 1 2 0] (dat20s e9 (nC 0) (nC 0) (nC 0) (nC 0) (nC 0) (nC 0) (nC 0) (nC 0) (nC y4.2.Err) (nC y4.2.At)) (Gh.unz _) (by simp [St.frz, St.pur] <;> rfl) (by simp [St.frz, St.pur] <;> rfl) (by simp [St.frz, St.pur] <;> rfl) (by simp) (by simp [St.frz, St.pur]; rfl) (by simp [St.frz, St.pur]; rfl) (by first | rfl | (simp [St.frz, St.pur]; done) | (simp [St.frz, St.pur]; rfl)) (pv f0))
   ·try dsimp only at hs
    refine cB f0 (at_asm_parser_single (c0_2 := ⟨AC.toF [.o 7 4 0] (.own (.sp 2 ([] : List Var).length (encL ([] : List Var)))), by simp⟩) (c0_3 := ⟨AC.toF [.o 7 4 0] (.own (.sp 1 ([] : List ByteArray).length (encL ([] : List ByteArray)))), by simp⟩) (c0_4 := ⟨AC.toF [.o 7 4 0] (.own (.sp 1 ([] : List ByteArray).length (encL ([] : List ByteArray)))), by simp⟩) (c0_5 := ⟨AC.toF [.o 7 4 0] (.own (.sl 2 ([] : List Func).length (otL ([] : List Func)))), by simp⟩) (c0_6 := ⟨AC.toF [.o 7 4 0] (.own (.sp 2 ([] : List Start).length (encL ([] : List Start)))), by simp⟩) (c0_8 := ⟨AC.toF [.o 7 4 0] (.own (.sp 1 ([] : List Int).length (encL ([] : List Int)))), by simp⟩) (c0_9 := ⟨AC.toF [.o 7 4 0] (.own (.sl 1 ([] : List (List Int)).length (otL ([] : List (List Int))))), by simp⟩) hx8) [.o 7 4 0] ?_
    refine goR f0 ?_
    obtain rfl := sj hs
    refine hQ _ _ (rD (Gh.refl _) [.inl (.o 1 1 0), .inl (.o 1 2 0)] [.o 1 1 0, .o 1 2 0] (dat20n (eA y10.1) [nC 0, nC 0]) (Gh.refl _) (by simp [St.frz, St.pur] <;> rfl) (by simp [St.frz, St.pur] <;> rfl) (by simp [St.frz, St.pur] <;> rfl) (by simp) (by simp [St.frz, St.pur]; rfl) (by simp [St.frz, St.pur]; rfl) (by first | rfl | (simp [St.frz, St.pur]; done) | (simp [St.frz, St.pur]; rfl)) (pv f0))
end Go.Dc
end
section
set_option linter.all false
namespace Go.Dc
open Go Go.Hw Go.Proofs
set_option maxRecDepth 100000
def r08_same_L1 (a1 : List ByteArray) : List ByteArray -> Nat -> Option (Unit ⊕ Bool)
 | [], k76 => some (.inl ())
 | x102 :: q98, k76 => Option.bind (a1[k76]?) (fun x109 => cond (!(eqS x102 x109)) (some (.inr false)) (r08_same_L1 a1 q98 (k76 + 1)))
def r08_same (a0 : List ByteArray) (a1 : List ByteArray) : Option Bool :=
 cond (!(eqI ((a0.length : Nat) : Int) ((a1.length : Nat) : Int))) (some false) (Option.bind (α := Unit ⊕ Bool) (Option.bind (r08_same_L1 a1 a0 0) (fun o => match o with | .inl _ => some (.inl ()) | .inr r113 => some (.inr r113))) (fun o => match o with | .inl _ => some true | .inr r114 => some r114))
set_option maxHeartbeats 2000000 in
theorem at_r08_same {a0 : List ByteArray} {a1 : List ByteArray} {r : Bool} (hs : r08_same a0 a1 = some r) : At Tryd.prog 17 [.cell (sC a0), .cell (sC a1)] (bV r) := by
 refine at_bound (by kernel_rfl) fun hb => ?_
 have hb1 : LenOk (.sl a0.length (encL a0)) := lkc hb
 have hb2 : LenOk (.sl a1.length (encL a1)) := lkc hb
 refine at_code mixed Tryd.func17 (by kernel_rfl) rfl (by kernel_rfl) rfl fun Q hQ => ?_
 rw [r08_same] at hs
 refine goR f0 ?_
 revert hs; refine cS f0 ?_ ?_ <;> intro h1 hs
 ·refine goR f0 ?_
  obtain rfl := sj hs
  exact hQ _ _ (rg f0 (Gh.refl _))
 ·refine goR2 f0 ?_
  revert hs; refine bK fun o57 e56 hs => ?_
  refine awp_cutK (fun (v : Unit) (σ : St) => some (.inl v) = some o57 /\ 3 <= σ.gen) (by rfl) (fun Q hK58 hX59 => ?_) (fun v σ3 hp => ?_)
  ·refine goR f0 ?_
   revert e56; refine bK fun o93 e92 e56 => ?_
   refine awp_loopW (fun (v : (List ByteArray) × Nat) (σ : St) => r08_same_L1 a1 v.1 v.2 = some o93 /\ v.1 = a0.drop v.2 /\ σ.env 0 = .cell (sC a0) /\ σ.env 1 = .cell (sC a1) /\ σ.env 5 = iV .i64 ((v.2 : Nat) : Int) /\ 3 <= σ.gen) (fun v => v.1.length) _ (Gh.refl _) (a0, 0) ⟨e92, by simp, pv f0, pv f0, pv f0, pg⟩ fun v σ6 hp L94 hL95 => ?_
   obtain ⟨q97, k76⟩ := v
   dsimp only at hp hL95
   obtain ⟨e92, hd96, h5_0, h5_1, h5_5, n5_g⟩ := hp
   rcases q97 with _ | ⟨x102, q98⟩
   ·have hlt99 := drop_end hd96
    rw [r08_same_L1] at e92; try dsimp only at e92
    have F1 := an h5_0 (an h5_1 h5_5)
    refine goR F1 ?_
    refine condK_f (by simp [ltI]; omega) ?_
    obtain rfl := sj e92
    try dsimp only at e56
    exact hK58 () _ _ (Gh.refl _) ⟨e56, pg⟩
   ·obtain ⟨hx101, hlt99, hd103⟩ := drop_next hd96
    have ew100 := wrap_succ hlt99 (hb1).len
    rw [r08_same_L1] at e92; try dsimp only at e92
    have F2 := an h5_0 (an h5_1 (an h5_5 (an hlt99 ew100)))
    refine goR F2 ?_
    refine condK_t (by simp [ltI]; omega) ?_
    have f108 : partCV Tryd.prog 9 (encL a0) (k76) = some (sV x102) := partCV_enc1 hx101 (by simp)
    revert e92; refine bK fun x109 hx110 e92 => ?_
    have hx110b := getN_some hx110
    have f111 : partCV Tryd.prog 9 (encL a1) (k76) = some (sV x109) := partCV_enc1 hx110 (by simp)
    have F3 := an F2 (an f108 f111)
    refine goD F3 ?_
    revert e92; refine cS F3 ?_ ?_ <;> intro h112 e92
    ·refine goD F3 ?_
     obtain rfl := sj e92
     try dsimp only at e56
     obtain rfl := sj e56
     try dsimp only at hs
     refine hX59 _ _ (by simp) ?_
     refine goD F3 ?_
     obtain rfl := sj hs
     exact hQ _ _ (rg F3 (Gh.refl _))
    ·refine goD F3 ?_
     exact hL95 (q98, (k76 + 1)) _ _ (Gh.refl _) ⟨e92, hd103, pv F3, pv F3, pv F3, pg⟩ (by simp)
  ·obtain ⟨e56, n4_g⟩ := hp
   obtain rfl := sj e56
   try dsimp only at hs
   refine goR f0 ?_
   obtain rfl := sj hs
   exact hQ _ _ (rg f0 (Gh.refl _))
end Go.Dc
end
section
set_option linter.all false
namespace Go.Dc
open Go Go.Hw Go.Proofs
set_option maxRecDepth 100000
def r08_function_L1 (a1 : Func) : List Inst -> Nat -> Option (Unit ⊕ Bool)
 | [], k76 => some (.inl ())
 | x102 :: q98, k76 => Option.bind (a1.Code[k76]?) (fun x109 => cond (!(andB (eqI x102.Op x109.Op) (andB (eqI x102.A x109.A) (andB (eqI x102.B x109.B) (andB (eqI x102.C x109.C) (andB (eqI x102.Obj x109.Obj) (andB (eqI x102.N x109.N) (andB (eqI x102.Fn x109.Fn) (andB (eqI x102.Order x109.Order) true))))))))) (some (.inr false)) (r08_function_L1 a1 q98 (k76 + 1)))
def r08_function (a0 : Func) (a1 : Func) : Option Bool :=
 cond (orB (!(eqS a0.Name a1.Name)) (!(eqI ((a0.Code.length : Nat) : Int) ((a1.Code.length : Nat) : Int)))) (some false) (Option.bind (α := Unit ⊕ Bool) (Option.bind (r08_function_L1 a1 a0.Code 0) (fun o => match o with | .inl _ => some (.inl ()) | .inr r113 => some (.inr r113))) (fun o => match o with | .inl _ => some true | .inr r114 => some r114))
set_option maxHeartbeats 2000000 in
theorem at_r08_function {a0 : Func} {a1 : Func} {r : Bool} (hs : r08_function a0 a1 = some r) : At Tryd.prog 18 [.agg (eA a0), .agg (eA a1)] (bV r) := by
 refine at_bound (by kernel_rfl) fun hb => ?_
 have hb1 : LenOk (.sl a0.Code.length (encL a0.Code)) := lkc hb
 have hb2 : LenOk (.sl a1.Code.length (encL a1.Code)) := lkc hb
 refine at_code mixed Tryd.func18 (by kernel_rfl) rfl (by kernel_rfl) rfl fun Q hQ => ?_
 rw [r08_function] at hs
 refine goG f0 f0 ?_
 revert hs; refine cS f0 ?_ ?_ <;> intro h1 hs
 ·refine goG f0 f0 ?_
  obtain rfl := sj hs
  exact hQ _ _ (rg f0 (Gh.refl _))
 ·refine goG2 f0 f0 ?_
  revert hs; refine bK fun o57 e56 hs => ?_
  refine awp_cutK (fun (v : Unit) (σ : St) => some (.inl v) = some o57 /\ 3 <= σ.gen) (by rfl) (fun Q hK58 hX59 => ?_) (fun v σ3 hp => ?_)
  ·refine goG f0 f0 ?_
   revert e56; refine bK fun o93 e92 e56 => ?_
   refine awp_loopW (fun (v : (List Inst) × Nat) (σ : St) => r08_function_L1 a1 v.1 v.2 = some o93 /\ v.1 = a0.Code.drop v.2 /\ σ.env 2 = .cell (.ref (.o 1 0 0) 0) /\ σ.env 3 = .cell (.ref (.o 1 1 0) 0) /\ σ.env 5 = iV .i64 ((v.2 : Nat) : Int) /\ σ.hp (.o 1 0 0) = some (.cells (eA a0)) /\ σ.hp (.o 1 1 0) = some (.cells (eA a1)) /\ 3 <= σ.gen) (fun v => v.1.length) _ (Gh.refl _) (a0.Code, 0) ⟨e92, by simp, pv f0, pv f0, pv f0, pv f0, pv f0, pg⟩ fun v σ6 hp L94 hL95 => ?_
   obtain ⟨q97, k76⟩ := v
   dsimp only at hp hL95
   obtain ⟨e92, hd96, h5_2, h5_3, h5_5, g5_0, g5_1, n5_g⟩ := hp
   have n5_0 : ¬ (σ6.gen = 0) := by omega
   rcases q97 with _ | ⟨x102, q98⟩
   ·have hlt99 := drop_end hd96
    rw [r08_function_L1] at e92; try dsimp only at e92
    have F1 := an h5_2 (an h5_3 (an h5_5 (an g5_0 (an g5_1 n5_0))))
    refine goR F1 ?_
    refine condK_f (by simp [ltI]; omega) ?_
    obtain rfl := sj e92
    try dsimp only at e56
    exact hK58 () _ _ (Gh.refl _) ⟨e56, pg⟩
   ·obtain ⟨hx101, hlt99, hd103⟩ := drop_next hd96
    have ew100 := wrap_succ hlt99 (hb1).len
    rw [r08_function_L1] at e92; try dsimp only at e92
    have F2 := an h5_2 (an h5_3 (an h5_5 (an g5_0 (an g5_1 (an n5_0 (an hlt99 ew100))))))
    refine goR F2 ?_
    refine condK_t (by simp [ltI]; omega) ?_
    have f108 : partCV Tryd.prog 42 (encL a0.Code) (k76 * 8) = some (.agg (eA x102)) := partCV_enc hx101 (f := 0) (by simp)
    revert e92; refine bK fun x109 hx110 e92 => ?_
    have hx110b := getN_some hx110
    have f111 : partCV Tryd.prog 42 (encL a1.Code) (k76 * 8) = some (.agg (eA x109)) := partCV_enc hx110 (f := 0) (by simp)
    have F3 := an F2 (an f108 f111)
    refine goD F3 ?_
    revert e92; refine cS F3 ?_ ?_ <;> intro h112 e92
    ·refine goD F3 ?_
     obtain rfl := sj e92
     try dsimp only at e56
     obtain rfl := sj e56
     try dsimp only at hs
     refine hX59 _ _ (by simp) ?_
     refine goD F3 ?_
     obtain rfl := sj hs
     exact hQ _ _ (rg F3 (Gh.refl _))
    ·refine goD F3 ?_
     exact hL95 (q98, (k76 + 1)) _ _ (Gh.refl _) ⟨e92, hd103, pv F3, pv F3, pv F3, pv F3, pv F3, pg⟩ (by simp)
  ·obtain ⟨e56, n4_g⟩ := hp
   obtain rfl := sj e56
   try dsimp only at hs
   refine goG f0 f0 ?_
   obtain rfl := sj hs
   exact hQ _ _ (rg f0 (Gh.refl _))
end Go.Dc
end
section
set_option linter.all false
namespace Go.Dc
open Go Go.Hw Go.Proofs
set_option maxRecDepth 100000
def r08_Equal_L1 (a1 : Program) : List Var -> Nat -> Option (Unit ⊕ Bool)
 | [], k78 => some (.inl ())
 | x104 :: q100, k78 => Option.bind (a1.Vars[k78]?) (fun x111 => cond (!(andB (eqS x104.Name x111.Name) (andB (eqI x104.Init x111.Init) true))) (some (.inr false)) (r08_Equal_L1 a1 q100 (k78 + 1)))
def r08_Equal_L2 (a1 : Program) : List Func -> Nat -> Option (Unit ⊕ Bool)
 | [], k206 => some (.inl ())
 | x236 :: q232, k206 => Option.bind (a1.Funcs[k206]?) (fun x245 => Option.bind (r08_function x236 x245) (fun y248 => cond (!y248) (some (.inr false)) (r08_Equal_L2 a1 q232 (k206 + 1))))
def r08_Equal_L3 (a1 : Program) : List Start -> Nat -> Option (Unit ⊕ Bool)
 | [], k326 => some (.inl ())
 | x352 :: q348, k326 => Option.bind (a1.Threads[k326]?) (fun x359 => cond (!(andB (eqI x352.Func x359.Func) (andB (eqI x352.Arg x359.Arg) true))) (some (.inr false)) (r08_Equal_L3 a1 q348 (k326 + 1)))
def r08_Equal (a0 : Program) (a1 : Program) : Option Bool :=
 guardO (orB (!(eqI ((a0.Vars.length : Nat) : Int) ((a1.Vars.length : Nat) : Int))) ((r08_same a0.Mutexes a1.Mutexes).isSome)) (guardO (orB (!(!(orB (!(eqI ((a0.Vars.length : Nat) : Int) ((a1.Vars.length : Nat) : Int))) (!((r08_same a0.Mutexes a1.Mutexes).getD default))))) ((r08_same a0.Conds a1.Conds).isSome)) (cond (orB (orB (orB (orB (!(eqI ((a0.Vars.length : Nat) : Int) ((a1.Vars.length : Nat) : Int))) (!((r08_same a0.Mutexes a1.Mutexes).getD default))) (!((r08_same a0.Conds a1.Conds).getD default))) (!(eqI ((a0.Funcs.length : Nat) : Int) ((a1.Funcs.length : Nat) : Int)))) (!(eqI ((a0.Threads.length : Nat) : Int) ((a1.Threads.length : Nat) : Int)))) (some false) (Option.bind (α := Unit ⊕ Bool) (Option.bind (r08_Equal_L1 a1 a0.Vars 0) (fun o => match o with | .inl _ => some (.inl ()) | .inr r115 => some (.inr r115))) (fun o => match o with | .inl _ => Option.bind (α := Unit ⊕ Bool) (Option.bind (r08_Equal_L2 a1 a0.Funcs 0) (fun o => match o with | .inl _ => some (.inl ()) | .inr r251 => some (.inr r251))) (fun o => match o with | .inl _ => Option.bind (α := Unit ⊕ Bool) (Option.bind (r08_Equal_L3 a1 a0.Threads 0) (fun o => match o with | .inl _ => some (.inl ()) | .inr r363 => some (.inr r363))) (fun o => match o with | .inl _ => some true | .inr r364 => some r364) | .inr r365 => some r365) | .inr r366 => some r366))))
set_option maxHeartbeats 2000000 in
theorem at_r08_Equal {a0 : Program} {a1 : Program} {r : Bool} (hs : r08_Equal a0 a1 = some r) : At Tryd.prog 8 [.agg (eA a0), .agg (eA a1)] (bV r) := by
 refine at_bound (by kernel_rfl) fun hb => ?_
 have hb1 : LenOk (.sl a0.Vars.length (encL a0.Vars)) := lkc hb
 have hb2 : LenOk (.sl a0.Mutexes.length (encL a0.Mutexes)) := lkc hb
 have hb3 : LenOk (.sl a0.Conds.length (encL a0.Conds)) := lkc hb
 have hb4 : LenOk (.sl a0.Funcs.length (encL a0.Funcs)) := lkc hb
 have hb5 : LenOk (.sl a0.Threads.length (encL a0.Threads)) := lkc hb
 have hb6 : LenOk (.sl a1.Vars.length (encL a1.Vars)) := lkc hb
 have hb7 : LenOk (.sl a1.Mutexes.length (encL a1.Mutexes)) := lkc hb
 have hb8 : LenOk (.sl a1.Conds.length (encL a1.Conds)) := lkc hb
 have hb9 : LenOk (.sl a1.Funcs.length (encL a1.Funcs)) := lkc hb
 have hb10 : LenOk (.sl a1.Threads.length (encL a1.Threads)) := lkc hb
 refine at_code mixed Tryd.func8 (by kernel_rfl) rfl (by kernel_rfl) rfl fun Q hQ => ?_
 rw [r08_Equal] at hs
 refine goG f0 f0 ?_
 obtain ⟨g1, hs⟩ := guardO_some hs
 refine gsel_call (fun hg => at_r08_same (under_call g1 hg)) (fun hg => by (try simp at hg); (first | simp [hg, id]); try rfl) (fun hg => by (try simp at hg); simp [hg, id]) (by simp) ?_
 refine goG f0 f0 ?_
 obtain ⟨g2, hs⟩ := guardO_some hs
 refine gsel_call (fun hg => at_r08_same (under_call g2 hg)) (fun hg => by (try simp at hg); (first | simp [hg, id]); try rfl) (fun hg => by (try simp at hg); simp [hg, id]) (by simp) ?_
 refine goG f0 f0 ?_
 revert hs; refine cS f0 ?_ ?_ <;> intro h3 hs
 ·refine goG f0 f0 ?_
  obtain rfl := sj hs
  exact hQ _ _ (rg f0 (Gh.refl _))
 ·refine goG2 f0 f0 ?_
  revert hs; refine bK fun o59 e58 hs => ?_
  refine awp_cutK (fun (v : Unit) (σ : St) => some (.inl v) = some o59 /\ σ.env 2 = .cell (.ref (.o 1 0 0) 0) /\ σ.env 3 = .cell (.ref (.o 1 1 0) 0) /\ σ.hp (.o 1 0 0) = some (.cells (eA a0)) /\ σ.hp (.o 1 1 0) = some (.cells (eA a1)) /\ 3 <= σ.gen) (by rfl) (fun Q hK60 hX61 => ?_) (fun v σ3 hp => ?_)
  ·refine goG f0 f0 ?_
   revert e58; refine bK fun o95 e94 e58 => ?_
   refine awp_loopW (fun (v : (List Var) × Nat) (σ : St) => r08_Equal_L1 a1 v.1 v.2 = some o95 /\ v.1 = a0.Vars.drop v.2 /\ σ.env 2 = .cell (.ref (.o 1 0 0) 0) /\ σ.env 3 = .cell (.ref (.o 1 1 0) 0) /\ σ.env 5 = iV .i64 ((v.2 : Nat) : Int) /\ σ.hp (.o 1 0 0) = some (.cells (eA a0)) /\ σ.hp (.o 1 1 0) = some (.cells (eA a1)) /\ 3 <= σ.gen) (fun v => v.1.length) _ (Gh.refl _) (a0.Vars, 0) ⟨e94, by simp, pv f0, pv f0, pv f0, pv f0, pv f0, pg⟩ fun v σ6 hp L96 hL97 => ?_
   obtain ⟨q99, k78⟩ := v
   dsimp only at hp hL97
   obtain ⟨e94, hd98, h5_2, h5_3, h5_5, g5_0, g5_1, n5_g⟩ := hp
   have n5_0 : ¬ (σ6.gen = 0) := by omega
   rcases q99 with _ | ⟨x104, q100⟩
   ·have hlt101 := drop_end hd98
    rw [r08_Equal_L1] at e94; try dsimp only at e94
    have F1 := an h5_2 (an h5_3 (an h5_5 (an g5_0 (an g5_1 n5_0))))
    refine goR F1 ?_
    refine condK_f (by simp [ltI]; omega) ?_
    obtain rfl := sj e94
    try dsimp only at e58
    exact hK60 () _ _ (Gh.refl _) ⟨e58, pv F1, pv F1, pv F1, pv F1, pg⟩
   ·obtain ⟨hx103, hlt101, hd105⟩ := drop_next hd98
    have ew102 := wrap_succ hlt101 (hb1).len
    rw [r08_Equal_L1] at e94; try dsimp only at e94
    have F2 := an h5_2 (an h5_3 (an h5_5 (an g5_0 (an g5_1 (an n5_0 (an hlt101 ew102))))))
    refine goR F2 ?_
    refine condK_t (by simp [ltI]; omega) ?_
    have f110 : partCV Tryd.prog 46 (encL a0.Vars) (k78 * 2) = some (.agg (eA x104)) := partCV_enc hx103 (f := 0) (by simp)
    revert e94; refine bK fun x111 hx112 e94 => ?_
    have hx112b := getN_some hx112
    have f113 : partCV Tryd.prog 46 (encL a1.Vars) (k78 * 2) = some (.agg (eA x111)) := partCV_enc hx112 (f := 0) (by simp)
    have F3 := an F2 (an f110 f113)
    refine goD F3 ?_
    revert e94; refine cS F3 ?_ ?_ <;> intro h114 e94
    ·refine goD F3 ?_
     obtain rfl := sj e94
     try dsimp only at e58
     obtain rfl := sj e58
     try dsimp only at hs
     refine hX61 _ _ (by simp) ?_
     refine goD F3 ?_
     obtain rfl := sj hs
     exact hQ _ _ (rg F3 (Gh.refl _))
    ·refine goD F3 ?_
     exact hL97 (q100, (k78 + 1)) _ _ (Gh.refl _) ⟨e94, hd105, pv F3, pv F3, pv F3, pv F3, pv F3, pg⟩ (by simp)
  ·obtain ⟨e58, h4_2, h4_3, g4_0, g4_1, n4_g⟩ := hp
   obtain rfl := sj e58
   try dsimp only at hs
   have n4_0 : ¬ (σ3.gen = 0) := by omega
   have F4 := an h4_2 (an h4_3 (an g4_0 (an g4_1 n4_0)))
   refine goG2 F4 F4 ?_
   revert hs; refine bK fun o183 e182 hs => ?_
   refine awp_cutK (fun (v : Unit) (σ : St) => some (.inl v) = some o183 /\ σ.env 2 = .cell (.ref (.o 1 0 0) 0) /\ σ.env 3 = .cell (.ref (.o 1 1 0) 0) /\ σ.hp (.o 1 0 0) = some (.cells (eA a0)) /\ σ.hp (.o 1 1 0) = some (.cells (eA a1)) /\ (σ3.gen + 1) <= σ.gen) (by rfl) (fun Q hK184 hX185 => ?_) (fun v σ9 hp => ?_)
   ·refine goG F4 F4 ?_
    revert e182; refine bK fun o227 e226 e182 => ?_
    refine awp_loopW (fun (v : (List Func) × Nat) (σ : St) => r08_Equal_L2 a1 v.1 v.2 = some o227 /\ v.1 = a0.Funcs.drop v.2 /\ σ.env 2 = .cell (.ref (.o 1 0 0) 0) /\ σ.env 3 = .cell (.ref (.o 1 1 0) 0) /\ σ.env 6 = iV .i64 ((v.2 : Nat) : Int) /\ σ.hp (.o 1 0 0) = some (.cells (eA a0)) /\ σ.hp (.o 1 1 0) = some (.cells (eA a1)) /\ (σ3.gen + 1) <= σ.gen) (fun v => v.1.length) _ (Gh.refl _) (a0.Funcs, 0) ⟨e226, by simp, pv F4, pv F4, pv F4, pv F4, pv F4, pg⟩ fun v σ12 hp L228 hL229 => ?_
    obtain ⟨q231, k206⟩ := v
    dsimp only at hp hL229
    obtain ⟨e226, hd230, h11_2, h11_3, h11_6, g11_0, g11_1, n11_g⟩ := hp
    have n11_0 : ¬ (σ12.gen = 0) := by omega
    rcases q231 with _ | ⟨x236, q232⟩
    ·have hlt233 := drop_end hd230
     rw [r08_Equal_L2] at e226; try dsimp only at e226
     have F5 := an h11_2 (an h11_3 (an h11_6 (an g11_0 (an g11_1 n11_0))))
     refine goR F5 ?_
     refine condK_f (by simp [ltI]; omega) ?_
     obtain rfl := sj e226
     try dsimp only at e182
     exact hK184 () _ _ (Gh.refl _) ⟨e182, pv F5, pv F5, pv F5, pv F5, pg⟩
    ·obtain ⟨hx235, hlt233, hd237⟩ := drop_next hd230
     have ew234 := wrap_succ hlt233 (hb4).len
     rw [r08_Equal_L2] at e226; try dsimp only at e226
     have F6 := an h11_2 (an h11_3 (an h11_6 (an g11_0 (an g11_1 (an n11_0 (an hlt233 ew234))))))
     refine goR F6 ?_
     refine condK_t (by simp [ltI]; omega) ?_
     have f244 : partCV Tryd.prog 49 (encL a0.Funcs) (k206 * 2) = some (.agg (eA x236)) := partCV_enc hx235 (f := 0) (by simp)
     revert e226; refine bK fun x245 hx246 e226 => ?_
     have hx246b := getN_some hx246
     have f247 : partCV Tryd.prog 49 (encL a1.Funcs) (k206 * 2) = some (.agg (eA x245)) := partCV_enc hx246 (f := 0) (by simp)
     have F7 := an F6 (an f244 f247)
     refine goD F7 ?_
     revert e226; refine bK fun y248 hx249 e226 => ?_
     refine cP F7 (at_r08_function hx249) ?_
     refine goD F7 ?_
     revert e226; refine cS F7 ?_ ?_ <;> intro h250 e226
     ·refine goD F7 ?_
      obtain rfl := sj e226
      try dsimp only at e182
      obtain rfl := sj e182
      try dsimp only at hs
      refine hX185 _ _ (by simp) ?_
      refine goD F7 ?_
      obtain rfl := sj hs
      exact hQ _ _ (rg F7 (Gh.refl _))
     ·refine goD F7 ?_
      exact hL229 (q232, (k206 + 1)) _ _ (Gh.refl _) ⟨e226, hd237, pv F7, pv F7, pv F7, pv F7, pv F7, pg⟩ (by simp)
   ·obtain ⟨e182, h10_2, h10_3, g10_0, g10_1, n10_g⟩ := hp
    obtain rfl := sj e182
    try dsimp only at hs
    have n10_0 : ¬ (σ9.gen = 0) := by omega
    have F8 := an h10_2 (an h10_3 (an g10_0 (an g10_1 n10_0)))
    refine goG2 F8 F8 ?_
    revert hs; refine bK fun o307 e306 hs => ?_
    refine awp_cutK (fun (v : Unit) (σ : St) => some (.inl v) = some o307 /\ (σ9.gen + 1) <= σ.gen) (by rfl) (fun Q hK308 hX309 => ?_) (fun v σ15 hp => ?_)
    ·refine goG F8 F8 ?_
     revert e306; refine bK fun o343 e342 e306 => ?_
     refine awp_loopW (fun (v : (List Start) × Nat) (σ : St) => r08_Equal_L3 a1 v.1 v.2 = some o343 /\ v.1 = a0.Threads.drop v.2 /\ σ.env 2 = .cell (.ref (.o 1 0 0) 0) /\ σ.env 3 = .cell (.ref (.o 1 1 0) 0) /\ σ.env 7 = iV .i64 ((v.2 : Nat) : Int) /\ σ.hp (.o 1 0 0) = some (.cells (eA a0)) /\ σ.hp (.o 1 1 0) = some (.cells (eA a1)) /\ (σ9.gen + 1) <= σ.gen) (fun v => v.1.length) _ (Gh.refl _) (a0.Threads, 0) ⟨e342, by simp, pv F8, pv F8, pv F8, pv F8, pv F8, pg⟩ fun v σ18 hp L344 hL345 => ?_
     obtain ⟨q347, k326⟩ := v
     dsimp only at hp hL345
     obtain ⟨e342, hd346, h17_2, h17_3, h17_7, g17_0, g17_1, n17_g⟩ := hp
     have n17_0 : ¬ (σ18.gen = 0) := by omega
     rcases q347 with _ | ⟨x352, q348⟩
     ·have hlt349 := drop_end hd346
      rw [r08_Equal_L3] at e342; try dsimp only at e342
      have F9 := an h17_2 (an h17_3 (an h17_7 (an g17_0 (an g17_1 n17_0))))
      refine goR F9 ?_
      refine condK_f (by simp [ltI]; omega) ?_
      obtain rfl := sj e342
      try dsimp only at e306
      exact hK308 () _ _ (Gh.refl _) ⟨e306, pg⟩
     ·obtain ⟨hx351, hlt349, hd353⟩ := drop_next hd346
      have ew350 := wrap_succ hlt349 (hb5).len
      rw [r08_Equal_L3] at e342; try dsimp only at e342
      have F10 := an h17_2 (an h17_3 (an h17_7 (an g17_0 (an g17_1 (an n17_0 (an hlt349 ew350))))))
      refine goR F10 ?_
      refine condK_t (by simp [ltI]; omega) ?_
      have f358 : partCV Tryd.prog 51 (encL a0.Threads) (k326 * 2) = some (.agg (eA x352)) := partCV_enc hx351 (f := 0) (by simp)
      revert e342; refine bK fun x359 hx360 e342 => ?_
      have hx360b := getN_some hx360
      have f361 : partCV Tryd.prog 51 (encL a1.Threads) (k326 * 2) = some (.agg (eA x359)) := partCV_enc hx360 (f := 0) (by simp)
      have F11 := an F10 (an f358 f361)
      refine goD F11 ?_
      revert e342; refine cS F11 ?_ ?_ <;> intro h362 e342
      ·refine goD F11 ?_
       obtain rfl := sj e342
       try dsimp only at e306
       obtain rfl := sj e306
       try dsimp only at hs
       refine hX309 _ _ (by simp) ?_
       refine goD F11 ?_
       obtain rfl := sj hs
       exact hQ _ _ (rg F11 (Gh.refl _))
      ·refine goD F11 ?_
       exact hL345 (q348, (k326 + 1)) _ _ (Gh.refl _) ⟨e342, hd353, pv F11, pv F11, pv F11, pv F11, pv F11, pg⟩ (by simp)
    ·obtain ⟨e306, n16_g⟩ := hp
     obtain rfl := sj e306
     try dsimp only at hs
     refine goG f0 f0 ?_
     obtain rfl := sj hs
     exact hQ _ _ (rg f0 (Gh.refl _))
end Go.Dc
end
section
set_option linter.all false
namespace Go.Dc
open Go Go.Hw Go.Proofs
set_option maxRecDepth 100000
def law10_awake (fuelN : Nat)  : Option Bool :=
 Option.bind (asm_Parse fuelN (⟨#[118, 97, 114, 32, 120, 32, 48, 10, 102, 117, 110, 99, 32, 102, 10, 108, 111, 97, 100, 32, 114, 49, 32, 120, 32, 114, 101, 108, 97, 99, 113, 10, 101, 110, 100, 10, 116, 104, 114, 101, 97, 100, 32, 102, 32, 51]⟩ : ByteArray)) (fun y1 => Option.bind (asm_Parse fuelN (⟨#[102, 117, 110, 99, 32, 102]⟩ : ByteArray)) (fun y3 => Option.bind (asm_Instruction fuelN y1.1 (⟨#[99, 111, 112, 121, 32, 114, 49, 32, 114, 56]⟩ : ByteArray)) (fun y5 => Option.bind (asm_Instruction fuelN y1.1 (⟨#[115, 116, 111, 114, 101, 32, 120, 32, 114, 50, 32, 112, 108, 97, 105, 110]⟩ : ByteArray)) (fun y7 => Option.bind (some ([({ Name := (⟨#[120]⟩ : ByteArray), Init := 0 } : Var)])) (fun l9 => Option.bind (some ([({ Op := 8, A := 1, B := 0, C := 0, Obj := 0, N := 0, Fn := 0, Order := 2 } : Inst)])) (fun l11 => Option.bind (some ([({ Name := (⟨#[102]⟩ : ByteArray), Code := l11 } : Func)])) (fun l13 => Option.bind (some ([({ Func := 0, Arg := 3 } : Start)])) (fun l15 => cond (andB (eqI y1.2.Err 0) (andB (eqI y1.2.At 0) true)) (Option.bind (r08_Equal y1.1 ({ Vars := l9, Mutexes := [], Conds := [], Funcs := l13, Threads := l15 } : Program)) (fun y18 => some (andB (andB (andB (andB y18 (andB (eqI y3.2.Err 15) (andB (eqI y3.2.At 6) true))) (andB (eqI y5.2.Err 10) (andB (eqI y5.2.At 8) true))) (andB (eqI y7.2.Err 0) (andB (eqI y7.2.At 0) true))) (andB (eqI y7.1.Op 9) (andB (eqI y7.1.A 0) (andB (eqI y7.1.B 2) (andB (eqI y7.1.C 0) (andB (eqI y7.1.Obj 0) (andB (eqI y7.1.N 0) (andB (eqI y7.1.Fn 0) (andB (eqI y7.1.Order 0) true))))))))))) (some false)))))))))
set_option maxHeartbeats 2000000 in
theorem at_law10_awake {fuelN : Nat}  {r : Bool} (hs : law10_awake fuelN = some r) : At Tryd.prog 5 [] (bV r) := by
 refine at_bound (by kernel_rfl) fun hb => ?_
 refine at_code mixed Tryd.func5 (by kernel_rfl) rfl (by kernel_rfl) rfl fun Q hQ => ?_
 rw [law10_awake] at hs
 refine goR f0 ?_
 revert hs; refine bK fun y1 hx2 hs => ?_
 refine cP f0 (at_asm_Parse hx2) ?_
 refine goR f0 ?_
 revert hs; refine bK fun y3 hx4 hs => ?_
 refine cP f0 (at_asm_Parse hx4) ?_
 refine goR f0 ?_
 revert hs; refine bK fun y5 hx6 hs => ?_
 refine cP f0 (at_asm_Instruction hx6) ?_
 refine goR f0 ?_
 revert hs; refine bK fun y7 hx8 hs => ?_
 refine cP f0 (at_asm_Instruction hx8) ?_
 revert hs; refine lK fun l9 hx10 hs => ?_
 have hx10n : l9.length = 1 := by rw [hx10]; rfl
 revert hs; refine lK fun l11 hx12 hs => ?_
 have hx12n : l11.length = 1 := by rw [hx12]; rfl
 revert hs; refine lK fun l13 hx14 hs => ?_
 have hx14n : l13.length = 1 := by rw [hx14]; rfl
 revert hs; refine lK fun l15 hx16 hs => ?_
 have hx16n : l15.length = 1 := by rw [hx16]; rfl
 have F1 := an hx10 (an hx12 (an hx14 hx16))
 refine goN F1 ?_
 refine awp_reg ?_
 refine goN F1 ?_
 refine awp_gh (by rfl) ((Gh.frz _ (.o 6 3 0)).trans (Gh.pur _ (.o 6 5 0))) ?_
 try simp only [St.frz, St.pur]
 refine goG F1 F1 ?_
 refine gsel_split (fun h17 => ?_) (fun h17 => ?_)
 ·replace hs := condT h17 hs
  have F2 := an F1 h17
  refine goG F2 F2 ?_
  revert hs; refine bK fun y18 hx19 hs => ?_
  refine cA F2 (at_unz (args := [.agg (eA y1.1), .agg [sC l9, .z, .z, sC l13, sC l15]]) (by simp) (at_r08_Equal hx19)) ?_
  refine goG F2 F2 ?_
  obtain rfl := sj hs
  exact hQ _ _ (rg F2 (Gh.refl _))
 ·replace hs := condF h17 hs
  have F3 := an F1 h17
  refine goG F3 F3 ?_
  obtain rfl := sj hs
  exact hQ _ _ (rg F3 (Gh.refl _))
end Go.Dc
end
section
set_option linter.all false
namespace Go.Dc.Pa
open Go Go.Hw Go.Dc
set_option maxRecDepth 100000
theorem awake_t : law10_awake 67108864 = some true := by kernel_rfl
end Go.Dc.Pa
end
section
set_option linter.all false
namespace Go.Dc
open Go Go.Hw Go.Proofs
set_option maxRecDepth 100000
def law10_spaced_L1 (a0 : ByteArray) : Nat -> ByteArray -> Nat -> Option ByteArray
 | 0, s62, k63 => some (s62)
 | q81 + 1, s62, k63 => Option.bind (a0[k63]?) (fun c86 => cond (eqI (c86.toNat : Int) 32) (guardO (strB2 s62 (⟨#[32, 9, 32]⟩ : ByteArray)) (law10_spaced_L1 a0 q81 (s62 ++ (⟨#[32, 9, 32]⟩ : ByteArray)) (k63 + 1))) (cond (eqI (c86.toNat : Int) 10) (guardO (strB2 s62 (⟨#[32, 35, 32, 101, 110, 100, 10, 10, 9]⟩ : ByteArray)) (law10_spaced_L1 a0 q81 (s62 ++ (⟨#[32, 35, 32, 101, 110, 100, 10, 10, 9]⟩ : ByteArray)) (k63 + 1))) (guardO (slB ((k63 : Nat) : Int) (((k63 + 1) : Nat) : Int) a0.size) (guardO (strB2 s62 (a0.extract k63 (k63 + 1))) (law10_spaced_L1 a0 q81 (s62 ++ (a0.extract k63 (k63 + 1))) (k63 + 1))))))
def law10_spaced (a0 : ByteArray) : Option ByteArray :=
 Option.bind (α := ByteArray) (guardO (lenB a0.size) (Option.bind (law10_spaced_L1 a0 a0.size (⟨#[]⟩ : ByteArray) 0) (fun s74 => some (s74)))) (fun s45 => guardO (strB2 (⟨#[10, 35, 32, 98, 101, 103, 105, 110, 10]⟩ : ByteArray) s45) (guardO (strB2 ((⟨#[10, 35, 32, 98, 101, 103, 105, 110, 10]⟩ : ByteArray) ++ s45) (⟨#[32]⟩ : ByteArray)) (some (((⟨#[10, 35, 32, 98, 101, 103, 105, 110, 10]⟩ : ByteArray) ++ s45) ++ (⟨#[32]⟩ : ByteArray)))))
end Go.Dc
end
section
set_option linter.all false
namespace Go.Dc
open Go Go.Hw Go.Proofs
set_option maxRecDepth 100000
def law10_AsmSpacing (fuelN : Nat) (a0 : ByteArray) : Option Bool :=
 cond (ltI 1500 ((a0.size : Nat) : Int)) (Option.bind (law10_awake fuelN) (fun y2 => some y2)) (Option.bind (asm_Parse fuelN a0) (fun y4 => Option.bind (law10_spaced a0) (fun y6 => Option.bind (asm_Parse fuelN y6) (fun y8 => Option.bind (law10_awake fuelN) (fun y10 => guardO (orB (!y10) ((r08_Equal y4.1 y8.1).isSome)) (some (andB (andB y10 ((r08_Equal y4.1 y8.1).getD default)) (eqI y4.2.Err y8.2.Err))))))))
end Go.Dc
end
section
set_option linter.all false
namespace Go.Dc
open Go Go.Hw Go.Proofs
set_option maxRecDepth 100000
def program_Valid (fuelN : Nat) (a0 : Program) : Option Bool :=
 Option.bind (program_Check fuelN a0) (fun y1 => some (eqI y1.1 0))
set_option maxHeartbeats 2000000 in
theorem at_program_Valid {fuelN : Nat} {a0 : Program} {r : Bool} (hs : program_Valid fuelN a0 = some r) : At Tryd.prog 9 [.agg (eA a0)] (bV r) := by
 refine at_bound (by kernel_rfl) fun hb => ?_
 have hb1 : LenOk (.sl a0.Vars.length (encL a0.Vars)) := lkc hb
 have hb2 : LenOk (.sl a0.Mutexes.length (encL a0.Mutexes)) := lkc hb
 have hb3 : LenOk (.sl a0.Conds.length (encL a0.Conds)) := lkc hb
 have hb4 : LenOk (.sl a0.Funcs.length (encL a0.Funcs)) := lkc hb
 have hb5 : LenOk (.sl a0.Threads.length (encL a0.Threads)) := lkc hb
 refine at_code mixed Tryd.func9 (by kernel_rfl) rfl (by kernel_rfl) rfl fun Q hQ => ?_
 rw [program_Valid] at hs
 refine goR f0 ?_
 revert hs; refine bK fun y1 hx2 hs => ?_
 refine cP f0 (at_program_Check hx2) ?_
 refine goR f0 ?_
 obtain rfl := sj hs
 exact hQ _ _ (rg f0 (Gh.refl _))
end Go.Dc
end
section
set_option linter.all false
namespace Go.Dc
open Go Go.Hw Go.Proofs
set_option maxRecDepth 100000
def law10_AsmResult (fuelN : Nat) (a0 : ByteArray) : Option Bool :=
 cond (ltI 2000 ((a0.size : Nat) : Int)) (Option.bind (law10_awake fuelN) (fun y2 => some y2)) (Option.bind (asm_Parse fuelN a0) (fun y4 => cond (!(eqI y4.2.Err 0)) (Option.bind (law10_awake fuelN) (fun y7 => guardO (orB (!(andB (andB y7 (!(ltI y4.2.At 0))) (!(ltI ((a0.size : Nat) : Int) y4.2.At)))) ((r08_Equal y4.1 ({ Vars := [], Mutexes := [], Conds := [], Funcs := [], Threads := [] } : Program)).isSome)) (some (andB (andB (andB y7 (!(ltI y4.2.At 0))) (!(ltI ((a0.size : Nat) : Int) y4.2.At))) ((r08_Equal y4.1 ({ Vars := [], Mutexes := [], Conds := [], Funcs := [], Threads := [] } : Program)).getD default))))) (guardO (strB2 a0 (⟨#[10, 59]⟩ : ByteArray)) (Option.bind (asm_Parse fuelN (a0 ++ (⟨#[10, 59]⟩ : ByteArray))) (fun y11 => guardO (strB2 a0 (⟨#[10, 102, 117, 110, 99, 32, 117, 110, 102, 105, 110, 105, 115, 104, 101, 100, 10, 115, 116, 111, 112, 10]⟩ : ByteArray)) (Option.bind (asm_Parse fuelN (a0 ++ (⟨#[10, 102, 117, 110, 99, 32, 117, 110, 102, 105, 110, 105, 115, 104, 101, 100, 10, 115, 116, 111, 112, 10]⟩ : ByteArray))) (fun y14 => Option.bind (law10_awake fuelN) (fun y16 => guardO (orB (!y16) ((program_Valid fuelN y4.1).isSome)) (some (andB (andB (andB (andB y16 ((program_Valid fuelN y4.1).getD default)) (eqI y4.2.At 0)) (andB (eqI y11.2.Err 14) (andB (eqI y11.2.At (IntKind.i64.wrap (((a0.size : Nat) : Int) + 1))) true))) (andB (eqI y14.2.Err 15) (andB (eqI y14.2.At (IntKind.i64.wrap (((a0.size : Nat) : Int) + 22))) true))))))))))))
set_option maxHeartbeats 2000000 in
theorem at_law10_AsmResult {fuelN : Nat} {a0 : ByteArray} {r : Bool} (hs : law10_AsmResult fuelN a0 = some r) : At Tryd.prog 4 [sV a0] (bV r) := by
 refine at_bound (by kernel_rfl) fun hb => ?_
 refine at_code mixed Tryd.func4 (by kernel_rfl) rfl (by kernel_rfl) rfl fun Q hQ => ?_
 rw [law10_AsmResult] at hs
 refine goR f0 ?_
 revert hs; refine cS f0 ?_ ?_ <;> intro h1 hs
 ·refine goR f0 ?_
  revert hs; refine bK fun y2 hx3 hs => ?_
  refine cP f0 (at_law10_awake hx3) ?_
  refine goR f0 ?_
  obtain rfl := sj hs
  exact hQ _ _ (rg f0 (Gh.refl _))
 ·refine goR f0 ?_
  revert hs; refine bK fun y4 hx5 hs => ?_
  refine cP f0 (at_asm_Parse hx5) ?_
  refine goR f0 ?_
  revert hs; refine cS f0 ?_ ?_ <;> intro h6 hs
  ·refine goR f0 ?_
   revert hs; refine bK fun y7 hx8 hs => ?_
   refine cP f0 (at_law10_awake hx8) ?_
   refine goG f0 f0 ?_
   obtain ⟨g9, hs⟩ := guardO_some hs
   refine gsel_call (fun hg => at_unz (args := [.agg (eA y4.1), .agg [.z, .z, .z, .z, .z]]) (by simp) (at_r08_Equal (under_call g9 hg))) (fun hg => by (try simp at hg); (first | simp [hg, id]); try rfl) (fun hg => by (try simp at hg); simp [hg, id]) (by simp) ?_
   refine goG f0 f0 ?_
   obtain rfl := sj hs
   exact hQ _ _ (rg f0 (Gh.refl _))
  ·obtain ⟨g10, hs⟩ := guardO_some hs
   have g10 := strB2_u g10
   have g10s := g10
   try simp only [ByteArray.size_append, ByteArray.size_extract, Int.natCast_add] at g10s
   have F1 := an g10 g10s
   refine goR F1 ?_
   revert hs; refine bK fun y11 hx12 hs => ?_
   refine cP F1 (at_asm_Parse hx12) ?_
   obtain ⟨g13, hs⟩ := guardO_some hs
   have g13 := strB2_u g13
   have g13s := g13
   try simp only [ByteArray.size_append, ByteArray.size_extract, Int.natCast_add] at g13s
   have F2 := an F1 (an g13 g13s)
   refine goR F2 ?_
   revert hs; refine bK fun y14 hx15 hs => ?_
   refine cP F2 (at_asm_Parse hx15) ?_
   refine goR F2 ?_
   revert hs; refine bK fun y16 hx17 hs => ?_
   refine cP F2 (at_law10_awake hx17) ?_
   refine goG F2 F2 ?_
   obtain ⟨g18, hs⟩ := guardO_some hs
   refine gsel_call (fun hg => at_program_Valid (under_call g18 hg)) (fun hg => by (try simp at hg); (first | simp [hg, F2]); try rfl) (fun hg => by (try simp at hg); simp [hg, F2]) (by simp) ?_
   refine goG F2 F2 ?_
   obtain rfl := sj hs
   exact hQ _ _ (rg F2 (Gh.refl _))
end Go.Dc
end
section
set_option linter.all false
namespace Go.Dc.Pa
open Go Go.Hw Go.Dc Go.Dc.Pl
set_option maxRecDepth 100000
theorem first_noneF {α β : Type} : ∀ (l : List α) (k : Nat), first (fun _ _ => (none : Option β)) l k = none
 | [], _ => rfl
 | x :: q, k => by rw [first_cons]; exact first_noneF q _
theorem same_str (l : List ByteArray) : r08_same l l = some true := by
 have h := srch (L := r08_same_L1 l) (fun _ _ => none) (fun _ => rfl) l 0 fun j x hx q => by
  rw [Nat.zero_add, r08_same_L1, hx, Option.bind_some, eqS_refl]; rfl
 rw [r08_same, h, show eqI ((l.length : Nat) : Int) ((l.length : Nat) : Int) = true by simp [eqI], first_noneF]; rfl
theorem same_fun (f : Func) : r08_function f f = some true := by
 have h := srch (L := r08_function_L1 f) (fun _ _ => none) (fun _ => rfl) f.Code 0 fun j x hx q => by
  rw [Nat.zero_add, r08_function_L1, hx, Option.bind_some]; simp [eqI, andB]
 rw [r08_function, h, show eqI ((f.Code.length : Nat) : Int) ((f.Code.length : Nat) : Int) = true by simp [eqI], eqS_refl, first_noneF]; rfl
theorem equal_refl (p : Program) : r08_Equal p p = some true := by
 have h1 := srch (L := r08_Equal_L1 p) (fun _ _ => none) (fun _ => rfl) p.Vars 0 fun j x hx q => by
  rw [Nat.zero_add, r08_Equal_L1, hx, Option.bind_some]; simp [eqI, andB, eqS]
 have h2 := srch (L := r08_Equal_L2 p) (fun _ _ => none) (fun _ => rfl) p.Funcs 0 fun j x hx q => by
  rw [Nat.zero_add, r08_Equal_L2, hx, Option.bind_some, same_fun]; rfl
 have h3 := srch (L := r08_Equal_L3 p) (fun _ _ => none) (fun _ => rfl) p.Threads 0 fun j x hx q => by
  rw [Nat.zero_add, r08_Equal_L3, hx, Option.bind_some]; simp [eqI, andB]
 have he : ∀ n : Nat, eqI (n : Int) (n : Int) = true := fun n => by simp [eqI]
 rw [r08_Equal, h1, h2, h3, same_str, same_str, he, he, he, first_noneF, first_noneF, first_noneF]; rfl
theorem bs_app (l r : List UInt8) : bs l ++ bs r = bs (l ++ r) := by
 apply ByteArray.ext; apply Array.ext'; simp [bs]
def beg : List UInt8 := [10, 35, 32, 98, 101, 103, 105, 110, 10]
theorem scan_lexF {s : ByteArray} (hs : s.size <= 16384) : scanM s = match lexF (bl s) 0 with | .inl ts => (ts, ⟨0, 0⟩) | .inr (e, a) => ([], ⟨e, a⟩) := by
 rw [scanM, if_neg (by omega), lexF, bl_size] <;> rfl
theorem lexF_ne : ∀ (n : Nat) (l : List UInt8) (a : Int) {x : Int × Int}, l.length <= n -> lexF l a = .inr x -> x.1 ≠ 0
 | n, [], a, x, _, h => by cases h
 | 0, c :: r, a, x, hn, _ => by simp at hn
 | n + 1, c :: r, a, x, hn, h => by
  simp only [List.length_cons] at hn
  rw [lexF_cons] at h
  cases hs : stepL c r with
  | skip k => rw [hs] at h; exact lexF_ne n _ _ (by rw [List.length_drop]; omega) h
  | bad e =>
   rw [hs] at h; injection h with h; subst h
   rw [stepL] at hs
   repeat' split at hs
   all_goals first | (injection hs with hs; subst hs; exact tokM_ne (by assumption)) | cases hs
  | tok y =>
   obtain ⟨l1, l2⟩ := tokM_len (stepL_tok hs).1
   rw [hs] at h
   dsimp only at h
   cases h' : lexF ((c :: r).drop y.2.1.length) (a + ((y.2.1.length : Nat) : Int)) with
   | inl ts => rw [h'] at h; cases h
   | inr z => rw [h'] at h; injection h with h; subst h; exact lexF_ne n _ _ (by rw [List.length_drop, List.length_cons]; omega) h'
theorem lexF_len {l : List UInt8} {a : Int} {ts : List Token} (h : lexF l a = .inl ts) : ts.length <= l.length := lex_len _ _ _ h
theorem parse_bad {s : ByteArray} (hs : s.size <= 16384) {e a : Int} (h : lexF (bl s) 0 = .inr (e, a)) : parseM s = (zeroP, ⟨e, a⟩) := by
 have hne : e ≠ 0 := lexF_ne _ _ _ (Nat.le_refl _) h
 have h2 : scanM s = ([], ⟨e, a⟩) := by rw [scan_lexF hs, h]
 rw [parseM, h2, if_neg hne]
theorem parse_good {s : ByteArray} (hs : s.size <= 16384) {ts : List Token} (h : lexF (bl s) 0 = .inl ts) : parseM s = match runM ts ((s.size : Nat) : Int) with | .inl f => (zeroP, f) | .inr p => (p, ⟨0, 0⟩) := by
 have h2 : scanM s = (ts, ⟨0, 0⟩) := by rw [scan_lexF hs, h]
 rw [parseM, h2, if_pos rfl] <;> rfl
/-- A text's tokens are like themselves, each at its place. -/
def inA (n : Int) : Int -> Int -> Prop := fun a _ => 0 <= a /\ a <= n
theorem rel_self {n e : Int} (he : 0 <= e /\ e <= n) : ∀ (ts : List Token), (∀ t ∈ ts, 0 <= t.At /\ t.At <= n) -> Rel (inA n) e e [] ts ts
 | [], _ => Rel.nil (.inl ⟨rfl, he⟩)
 | t :: r, h => by
  have ih := rel_self he r fun t ht => h t (by simp [ht])
  by_cases h4 : t.Kind = 4
  ·exact Rel.line (ls := []) h4 h4 (h t (by simp)) (fun x h => by cases h) ih
  ·exact Rel.tok h4 ⟨rfl, rfl, rfl, h t (by simp)⟩ ih
theorem rel_more {e e' : Int} {l : Token} {Y : List Token} (h4 : l.Kind = 4) : ∀ (ts : List Token), Rel anyA e e' (l :: Y) ts (ts ++ l :: Y)
 | [] => Rel.nil (.inr ⟨l, Y, rfl, h4, trivial⟩)
 | t :: r => by
  have ih := rel_more h4 r (e := e) (e' := e') (Y := Y)
  by_cases h4 : t.Kind = 4
  ·exact Rel.line (ls := []) h4 h4 trivial (fun x h => by cases h) ih
  ·exact Rel.tok h4 ⟨rfl, rfl, rfl, trivial⟩ ih
def semi : List UInt8 := [59]
def unf : List UInt8 := [102, 117, 110, 99, 32, 117, 110, 102, 105, 110, 105, 115, 104, 101, 100, 10, 115, 116, 111, 112, 10]
theorem step59 : stepL 59 [] = .tok (3, [59], 0) := by
 simp only [stepL, tokM, show letB 59 = false by kernel_rfl, show orB (eqI ((59 : UInt8).toNat : Int) 45) (digB 59) = false by kernel_rfl, show symB 59 = true by kernel_rfl, Bool.false_eq_true, if_false, if_true]
 rfl
theorem lex_semi (a : Int) : lexF semi a = .inl [⟨3, bs [59], 0, a⟩] := by
 rw [semi, lexF_cons, step59]; rfl
theorem lex_word (c : UInt8) (r : List UInt8) (a : Int) (h : letB c = true) (h2 : c.toNat ≠ 35) : lexF (c :: r) a = putT ⟨1, bs (c :: r.takeWhile wrdB), 0, a⟩ (lexF (r.drop (r.takeWhile wrdB).length) (a + (((r.takeWhile wrdB).length + 1 : Nat) : Int))) := by
 have hb : ¬ (c.toNat = 32 \/ c.toNat = 9) := by
  rintro (e | e)
  ·rw [u8_eq (d := 32) e] at h; exact absurd h (by decide +kernel)
  ·rw [u8_eq (d := 9) e] at h; exact absurd h (by decide +kernel)
 have hs : stepL c r = .tok (1, c :: r.takeWhile wrdB, 0) := by rw [stepL, if_neg hb, if_neg h2, tokM, if_pos h]
 rw [lexF_cons, hs]; rfl
theorem lex_unf (a : Int) : ∃ a1 a2 a3 a4, lexF unf a = .inl [⟨1, kFunc, 0, a⟩, ⟨1, kUnf, 0, a1⟩, lnT a2, ⟨1, kStop, 0, a3⟩, lnT a4] := by
 rw [unf, lex_word _ _ _ (by kernel_rfl) (by decide)]
 rw [show List.takeWhile wrdB [117, 110, 99, 32, 117, 110, 102, 105, 110, 105, 115, 104, 101, 100, 10, 115, 116, 111, 112, 10] = [117, 110, 99] by kernel_rfl]
 rw [show List.drop [(117 : UInt8), 110, 99].length [117, 110, 99, 32, 117, 110, 102, 105, 110, 105, 115, 104, 101, 100, 10, 115, 116, 111, 112, 10] = (32 : UInt8) :: 117 :: [110, 102, 105, 110, 105, 115, 104, 101, 100, 10, 115, 116, 111, 112, 10] from rfl, lexF_32, lex_word _ _ _ (by kernel_rfl) (by decide)]
 rw [show List.takeWhile wrdB [110, 102, 105, 110, 105, 115, 104, 101, 100, 10, 115, 116, 111, 112, 10] = [110, 102, 105, 110, 105, 115, 104, 101, 100] by kernel_rfl]
 rw [show List.drop [(110 : UInt8), 102, 105, 110, 105, 115, 104, 101, 100].length [110, 102, 105, 110, 105, 115, 104, 101, 100, 10, 115, 116, 111, 112, 10] = (10 : UInt8) :: 115 :: [116, 111, 112, 10] from rfl, lexF_10, lex_word _ _ _ (by kernel_rfl) (by decide)]
 rw [show List.takeWhile wrdB [116, 111, 112, 10] = [116, 111, 112] by kernel_rfl]
 rw [show List.drop [(116 : UInt8), 111, 112].length [116, 111, 112, 10] = [(10 : UInt8)] from rfl, lexF_10, lexF_nil]
 exact ⟨_, _, _, _, rfl⟩
theorem valid_ok {p : Program} (hp : Small p) (h : (chk p).1 = 0) : program_Valid 67108864 p = some true := by
 rw [program_Valid, own_check hp, Option.bind_some, h]; rfl
theorem run_small {ts : List Token} {e : Int} {q : Program} (hl : ts.length <= 1048576) (h : runM ts e = .inr q) : Small q := by
 rw [runM] at h
 split at h
 ·cases h
 ·rename_i y ht
  have hy := (text_inv (inv0 e hl) ht).1
  split at h
  ·cases h
  ·rename_i q' hk
   split at h
   ·cases h
   ·injection h with h; subst h
    obtain ⟨s1, s2, s3, s4, s5, s6⟩ := link_shape _ _ _ hy.small hy.nok hk
    exact small_of hy.small s1 s2 s3 s4 s5 s6
theorem law_result (s : ByteArray) : law10_AsmResult 67108864 s = some true := by
 rw [law10_AsmResult, awake_t, ltI_d]
 rcases Nat.lt_or_ge 2000 s.size with h | h
 ·rw [decide_eq_true (by omega)]; rfl
 rw [decide_eq_false (by omega), cond_false, own_parse, Option.bind_some]
 have hat := lexF_at (lo := 0) (hi := ((s.size : Nat) : Int)) (bl s).length (bl s) 0 (Nat.le_refl _) (by omega) (by rw [bl_size]; omega)
 have bad : ∀ f : Fault, parseM s = (zeroP, f) -> f.Err ≠ 0 -> 0 <= f.At /\ f.At <= ((s.size : Nat) : Int) -> _ := fun f e1 e2 e3 => show (cond (!(eqI (parseM s).2.Err 0)) (Option.bind (some true) (fun y7 => guardO (orB (!(andB (andB y7 (!(ltI (parseM s).2.At 0))) (!(ltI ((s.size : Nat) : Int) (parseM s).2.At)))) ((r08_Equal (parseM s).1 ({ Vars := [], Mutexes := [], Conds := [], Funcs := [], Threads := [] } : Program)).isSome)) (some (andB (andB (andB y7 (!(ltI (parseM s).2.At 0))) (!(ltI ((s.size : Nat) : Int) (parseM s).2.At))) ((r08_Equal (parseM s).1 ({ Vars := [], Mutexes := [], Conds := [], Funcs := [], Threads := [] } : Program)).getD default))))) none) = some true by
  rw [e1, show ({ Vars := [], Mutexes := [], Conds := [], Funcs := [], Threads := [] } : Program) = zeroP from rfl, equal_refl, eqI_d, decide_eq_false e2]
  simp [ltI_d, andB_d, orB, e3.1, e3.2, show ¬ f.At < 0 by omega, show ¬ ((s.size : Nat) : Int) < f.At by omega]
 cases h1 : lexF (bl s) 0 with
 | inr x =>
  rw [h1] at hat
  obtain ⟨e, a⟩ := x
  have hp := parse_bad (by omega) h1
  have hne : e ≠ 0 := lexF_ne _ _ _ (Nat.le_refl _) h1
  have hb := bad ⟨e, a⟩ hp hne hat
  rw [hp, eqI_d, decide_eq_false hne, Bool.not_false, cond_true] at hb ⊢
  exact hb
 | inl ts =>
  rw [h1] at hat
  have hlen := lexF_len h1
  rw [bl_size] at hlen
  have hp := parse_good (by omega) h1
  have hr := run_sim (A := inA ((s.size : Nat) : Int)) (e := ((s.size : Nat) : Int)) (e' := ((s.size : Nat) : Int)) ⟨by omega, by omega⟩ ⟨by omega, by omega⟩ (ts := ts) (ts' := ts) (by omega) (.inl ⟨[], ts, rfl, (fun x h => by cases h), rel_self ⟨by omega, by omega⟩ ts hat⟩)
  rcases hr.cases with ⟨f, f', q1, q2, q3⟩ | ⟨p, q, q1, q2, q3⟩
  ·rw [q1] at hp
   have hb := bad f hp q3.2.2 q3.2.1
   rw [hp, eqI_d, decide_eq_false q3.2.2, Bool.not_false, cond_true] at hb ⊢
   exact hb
  ·rw [q1] at hp
   have hst : ∀ x : List UInt8, x.length <= 64 -> strB2 s (bs x) = true := fun x hx => by rw [strB2, decide_eq_true_eq, bs_size x]; omega
   have hl10 : ∀ x, bl (s ++ bs (10 :: x)) = bl s ++ 10 :: x := fun x => by
    conv => lhs; rw [<- bs_bl s]
    rw [bs_app, bl_bs]
   have hsz : ∀ x, (s ++ bs (10 :: x)).size = s.size + (x.length + 1) := fun x => by
    rw [<- bl_size, hl10, List.length_append, bl_size, List.length_cons]
   have g1 : parseM (s ++ bs (10 :: semi)) = (zeroP, ⟨14, ((s.size : Nat) : Int) + 1⟩) := by
    have := lexF_app _ (bl s) semi 0 (Nat.le_refl _) h1
    rw [lexF_10, lex_semi, Int.zero_add, bl_size] at this
    rw [parse_good (by rw [hsz]; simp only [semi, List.length_cons, List.length_nil]; omega) (by rw [hl10]; exact this), run_sym (l := lnT ((s.size : Nat) : Int)) (t := ⟨3, bs [59], 0, ((s.size : Nat) : Int) + 1⟩) (by omega) rfl rfl (rel_more rfl ts) q1]
   have g2 : parseM (s ++ bs (10 :: unf)) = (zeroP, ⟨15, ((s.size : Nat) : Int) + 22⟩) := by
    have := lexF_app _ (bl s) unf 0 (Nat.le_refl _) h1
    obtain ⟨a1, a2, a3, a4, hu⟩ := lex_unf (((s.size : Nat) : Int) + 1)
    rw [lexF_10, Int.zero_add, bl_size, hu] at this
    rw [parse_good (by rw [hsz]; simp only [unf, List.length_cons, List.length_nil]; omega) (by rw [hl10]; exact this), run_unf (l := lnT ((s.size : Nat) : Int)) (by omega) rfl ⟨rfl, rfl⟩ rfl rfl ⟨rfl, rfl⟩ rfl (rel_more rfl ts) q1, hsz]
    simp only [unf, List.length_cons, List.length_nil]
    congr 2
   rw [hp, show eqI ((p, (⟨0, 0⟩ : Fault)).2.Err) 0 = true from rfl, Bool.not_true, cond_false, show (⟨#[10, 59]⟩ : ByteArray) = bs (10 :: semi) from rfl,
    show (⟨#[10, 102, 117, 110, 99, 32, 117, 110, 102, 105, 110, 105, 115, 104, 101, 100, 10, 115, 116, 111, 112, 10]⟩ : ByteArray) = bs (10 :: unf) from rfl, guardO_tt _ (hst _ (by decide)), own_parse, g1, Option.bind_some, guardO_tt _ (hst _ (by decide)), own_parse, g2, Option.bind_some, Option.bind_some,
    valid_ok (run_small (by omega) q1) (run_ok q1).2, wrapN (by omega) (by omega), wrapN (by omega) (by omega)]
   simp [eqI_d, andB_d, orB]
end Go.Dc.Pa
end
section
set_option linter.all false
namespace Go.Hw
variable [Globals]
section
variable {H : Type} {enc : TypeId × Value -> H} {P : Program} {w : World} {sp : Nat -> Bool} {held : Bool}
end
end Go.Hw
end
section
set_option linter.all false
namespace Go.Dc
open Go Go.Hw Go.Proofs
set_option maxRecDepth 100000
theorem gN1 : Tryd.prog.globalNamed "modelcheck/value.names" = some 1 := by kernel_rfl
theorem gN0 : Tryd.prog.globalNamed "modelcheck/inst.rows" = some 0 := by kernel_rfl
theorem gN2 : Tryd.prog.globalNamed "modelcheck/inst.orders" = some 2 := by kernel_rfl
/-- The package variables as the rows lay them. -/
theorem gT1 : (Tryd.prog.globals[1]?).map (·.type) = some 129 := by kernel_rfl
set_option maxRecDepth 100000 in
theorem gC1 : cvD Tryd.prog 6 129 (Go.Proofs.YtodjpjecpancdaaDoor.Rows.laid_modelcheck_value_names (H := Unit)) = some (encL namesTab) := by kernel_rfl
theorem gT0 : (Tryd.prog.globals[0]?).map (·.type) = some 107 := by kernel_rfl
set_option maxRecDepth 100000 in
theorem gC0 : cvD Tryd.prog 6 107 (Go.Proofs.YtodjpjecpancdaaDoor.Rows.laid_modelcheck_inst_rows (H := Unit)) = some (encL rowsTab) := by kernel_rfl
theorem gT2 : (Tryd.prog.globals[2]?).map (·.type) = some 130 := by kernel_rfl
set_option maxRecDepth 100000 in
theorem gC2 : cvD Tryd.prog 6 130 (Go.Proofs.YtodjpjecpancdaaDoor.Rows.laid_modelcheck_inst_orders (H := Unit)) = some (encL ordersTab) := by kernel_rfl
set_option maxRecDepth 100000 in
theorem globs {W : World} (laid : List (String × DataW Unit)) (he : laid = [("modelcheck/value.names", Go.Proofs.YtodjpjecpancdaaDoor.Rows.laid_modelcheck_value_names), ("modelcheck/inst.rows", Go.Proofs.YtodjpjecpancdaaDoor.Rows.laid_modelcheck_inst_rows), ("modelcheck/inst.orders", Go.Proofs.YtodjpjecpancdaaDoor.Rows.laid_modelcheck_inst_orders)])
  (h : laidMetH Tryd.prog laid W) : ∀ g cs, Globals.G g = some cs -> AVRep W m0 (fun _ => False) (.pointer (some ⟨g, 0, none⟩)) (.cell (.ep cs 0)) := by
 subst he
 rw [MakeChecks.laidMetH_plain _ _ _ (by kernel_rfl)] at h
 obtain ⟨ps, ⟨g0, t0, cs0, f0, p0, q0, hg0, ht0, hv0, hd0, ⟨g1, t1, cs1, f1, p1, q1, hg1, ht1, hv1, hd1, ⟨g2, t2, cs2, f2, p2, q2, hg2, ht2, hv2, hd2, _, _⟩, _⟩, _⟩, _, _⟩ := h
 obtain rfl := Option.some.inj (gN1.symm.trans hg0)
 obtain rfl := Option.some.inj (gT1.symm.trans ht0)
 obtain rfl := Option.some.inj (gN0.symm.trans hg1)
 obtain rfl := Option.some.inj (gT0.symm.trans ht1)
 obtain rfl := Option.some.inj (gN2.symm.trans hg2)
 obtain rfl := Option.some.inj (gT2.symm.trans ht2)
 intro g cs hgc
 have hgc : (if g = 0 then some (encL rowsTab) else if g = 1 then some (encL namesTab) else if g = 2 then some (encL ordersTab) else none) = some cs := hgc
 split at hgc
 ·rename_i e
  subst e
  cases hgc
  exact rep_global (m := 6) (t := 107) (by kernel_rfl) hd1 gC0 fun j => by simpa using World.var?_cell hg1 hv1 j
 ·split at hgc
  ·rename_i e
   subst e
   cases hgc
   exact rep_global (m := 6) (t := 129) (by kernel_rfl) hd0 gC1 fun j => by simpa using World.var?_cell hg0 hv0 j
  ·split at hgc
   ·rename_i e
    subst e
    cases hgc
    exact rep_global (m := 6) (t := 130) (by kernel_rfl) hd2 gC2 fun j => by simpa using World.var?_cell hg2 hv2 j
   ·cases hgc
end Go.Dc
end
