/- Contracts of functions, by their numbers, and the laws that walk them. Conditions: as each states. -/
import Derived.Test.YtihjddokgmjafaaDoorH4
set_option linter.all false
section
set_option linter.all false
namespace Go.Dc
open Go Go.Hw Go.Proofs
set_option maxRecDepth 100000
def ast_Count_L1 : List (Int × Stmt) → Int → Option Int
  | [], i9 => some (i9)
  | y5 :: q19, i9 => ast_Count_L1 q19 (IntKind.i64.wrap (i9 + 1))

def ast_Count (a0 : List Stmt) : Option Int :=
  Option.bind (ast_stmts a0 1) (fun y1 => Option.bind (it_stmts y1.1 y1.2) (fun xs3 => Option.bind (ast_Count_L1 xs3 0) (fun i11 => some i11)))

set_option maxHeartbeats 2000000 in
theorem at_ast_Count {a0 : List Stmt} {r : Int} (hs : ast_Count a0 = some r) : At Tryd.prog 38 [.cell (sC a0)] (iV .i64 r) := by
  refine at_bound (by kernel_rfl) fun hb => ?_
  have hb1 : LenOk (.sl a0.length (encL a0)) := lkc hb
  refine at_code mixed Tryd.func38 (by kernel_rfl) rfl (by kernel_rfl) rfl fun Q hQ => ?_
  rw [ast_Count] at hs
  refine goR f0 ?_
  revert hs; refine bK fun y1 hx2 hs => ?_
  refine cP f0 (at_ast_stmts hx2) ?_
  refine goR f0 ?_
  revert hs; refine bK fun xs3 hx4 hs => ?_
  revert hs; refine bK fun o13 e12 hs => ?_
  refine awp_range (gf := 124) (cs := [.bx [.sl y1.1.length (encL y1.1)], .bx [.c (.int .i64 y1.2)]]) (xs3.map (fun (y : Int × Stmt) => ([.cell (.c (.int .i64 y.1)), .agg [.c (.int .i64 y.2.Kind), .c (.string y.2.Name), .c (.string y.2.Obj), .c (.string y.2.Other), .c (.int .i64 y.2.Fn), .c (.int .i64 y.2.Order), .sl y.2.Exprs.length (encL y.2.Exprs), .sl y.2.Body.length (encL y.2.Body), .sl y.2.Else.length (encL y.2.Else)]] : List EV))) (fun (k14 : Nat) (hp15 : Go.Hw.Id → Option Blk) (gen16 : Nat) => ∃ v : Int, ast_Count_L1 (xs3.drop k14) v = some o13 ∧ hp15 (.o 2 0 0) = some (.cells [nC v]) ∧ 3 ≤ gen16) _ (Gh.refl _) (pv f0) (seq_stmtsA hx4) (fun x hx => by obtain ⟨y, _, rfl⟩ := List.mem_map.1 hx; rfl) ⟨0, e12, pv f0, pg⟩ (fun k14 x hp15 gen16 hx hI => ?_) (fun hp15 gen16 hI => ?_)
  · obtain ⟨i9, e12, g1_0, n1_g⟩ := hI
    try dsimp only at e12 g1_0 n1_g
    obtain ⟨y5, hy17, rfl⟩ := map_get hx
    rw [drop_at hy17, ast_Count_L1] at e12; try dsimp only at e12
    have n1_0 : ¬ (gen16 = 0) := by omega
    have n1_1 : ¬ (gen16 = 1) := by omega
    have F1 := an g1_0 (an n1_0 n1_1)
    refine goR F1 ?_
    refine rPost_gh (Gh.refl _) ⟨IntKind.i64.wrap (i9 + 1), e12, pv F1, pg⟩
  · obtain ⟨i9, e12, g1_0, n1_g⟩ := hI
    try dsimp only at e12 g1_0 n1_g
    rw [show xs3.drop (xs3.map (fun (y : Int × Stmt) => ([.cell (.c (.int .i64 y.1)), .agg [.c (.int .i64 y.2.Kind), .c (.string y.2.Name), .c (.string y.2.Obj), .c (.string y.2.Other), .c (.int .i64 y.2.Fn), .c (.int .i64 y.2.Order), .sl y.2.Exprs.length (encL y.2.Exprs), .sl y.2.Body.length (encL y.2.Body), .sl y.2.Else.length (encL y.2.Else)]] : List EV))).length = [] by simp, ast_Count_L1] at e12; try dsimp only at e12
    have n1_0 : ¬ (gen16 = 0) := by omega
    have n1_1 : ¬ (gen16 = 1) := by omega
    obtain rfl := sj e12
    try dsimp only at hs
    have F2 := an g1_0 (an n1_0 n1_1)
    refine goR F2 ?_
    obtain rfl := sj hs
    exact hQ _ _ (rg F2 (Gh.refl _))
end Go.Dc
end
section
set_option linter.all false
namespace Go.Dc
open Go Go.Hw Go.Proofs
set_option maxRecDepth 100000
def r16_Count_L1 (rF39z : (List Stmt) → Option Int) : List Stmt → Int → Nat → Option Int
  | [], i131, k132 => some (i131)
  | x162 :: q158, i131, k132 => Option.bind (rF39z x162.Body) (fun y171 => Option.bind (rF39z x162.Else) (fun y174 => r16_Count_L1 rF39z q158 (IntKind.i64.wrap (IntKind.i64.wrap (IntKind.i64.wrap (i131 + 1) + y171) + y174)) (k132 + 1)))

def r16_Count_B (rF39z : (List Stmt) → Option Int) (a0 : List Stmt) : Option Int :=
  Option.bind (α := Int) (Option.bind (r16_Count_L1 rF39z a0 0 0) (fun i151 => some (i151))) (fun i86 => some i86)

def r16_Count : Nat → (List Stmt) → Option Int
  | 0 => fun _ => none
  | fuelN + 1 => fun a0 => r16_Count_B (r16_Count fuelN) a0

set_option maxHeartbeats 2000000 in
theorem at_r16_Count_B {rF39z : (List Stmt) → Option Int} (ihrF39z : ∀ (a0 : List Stmt) (r : Int), rF39z a0 = some r → At Tryd.prog 39 [.cell (sC a0)] (iV .i64 r)) {a0 : List Stmt} {r : Int} (hs : r16_Count_B rF39z a0 = some r) : At Tryd.prog 39 [.cell (sC a0)] (iV .i64 r) := by
  refine at_bound (by kernel_rfl) fun hb => ?_
  have hb1 : LenOk (.sl a0.length (encL a0)) := lkc hb
  refine at_code mixed Tryd.func39 (by kernel_rfl) rfl (by kernel_rfl) rfl fun Q hQ => ?_
  rw [r16_Count_B] at hs
  refine goR2 f0 ?_
  revert hs; refine bK fun o88 e87 hs => ?_
  refine awp_cutK (fun (v : Int) (σ : St) => some (v) = some o88 ∧ σ.env 3 = iV .i64 v ∧ 3 ≤ σ.gen) (by rfl) (fun Q hK89 hX90 => ?_) (fun i86 σ3 hp => ?_)
  · refine goR f0 ?_
    revert e87; refine bK fun o153 e152 e87 => ?_
    refine awp_loopW (fun (v : (List Stmt) × Int × Nat) (σ : St) => r16_Count_L1 rF39z v.1 v.2.1 v.2.2 = some o153 ∧ v.1 = a0.drop v.2.2 ∧ σ.env 0 = .cell (sC a0) ∧ σ.env 3 = iV .i64 v.2.1 ∧ σ.env 4 = iV .i64 ((v.2.2 : Nat) : Int) ∧ 3 ≤ σ.gen) (fun v => v.1.length) _ (Gh.refl _) (a0, 0, 0) ⟨e152, by simp, pv f0, pv f0, pv f0, pg⟩ fun v σ6 hp L154 hL155 => ?_
    obtain ⟨q157, i131, k132⟩ := v
    dsimp only at hp hL155
    obtain ⟨e152, hd156, h5_0, h5_3, h5_4, n5_g⟩ := hp
    rcases q157 with _ | ⟨x162, q158⟩
    · have hlt159 := drop_end hd156
      rw [r16_Count_L1] at e152; try dsimp only at e152
      have F1 := an h5_0 (an h5_3 h5_4)
      refine goR F1 ?_
      refine condK_f (by simp [ltI]; omega) ?_
      obtain rfl := sj e152
      try dsimp only at e87
      exact hK89 i131 _ _ (Gh.refl _) ⟨e87, pv F1, pg⟩
    · obtain ⟨hx161, hlt159, hd163⟩ := drop_next hd156
      have ew160 := wrap_succ hlt159 (hb1).len
      rw [r16_Count_L1] at e152; try dsimp only at e152
      have F2 := an h5_0 (an h5_3 (an h5_4 (an hlt159 ew160)))
      refine goR F2 ?_
      refine condK_t (by simp [ltI]; omega) ?_
      have f170 : partCV Tryd.prog 55 (encL a0) (k132 * 9 + 7) = some (.cell (sC x162.Body)) := partCV_enc hx161 (f := 7) (by simp)
      have F3 := an F2 f170
      refine goD F3 ?_
      revert e152; refine bK fun y171 hx172 e152 => ?_
      refine cP F3 (ihrF39z _ _ hx172) ?_
      have f173 : partCV Tryd.prog 55 (encL a0) (k132 * 9 + 8) = some (.cell (sC x162.Else)) := partCV_enc hx161 (f := 8) (by simp)
      have F4 := an F3 f173
      refine goD F4 ?_
      revert e152; refine bK fun y174 hx175 e152 => ?_
      refine cP F4 (ihrF39z _ _ hx175) ?_
      refine goD F4 ?_
      exact hL155 (q158, IntKind.i64.wrap (IntKind.i64.wrap (IntKind.i64.wrap (i131 + 1) + y171) + y174), (k132 + 1)) _ _ (Gh.refl _) ⟨e152, hd163, pv F4, pv F4, pv F4, pg⟩ (by simp)
  · obtain ⟨e87, h4_3, n4_g⟩ := hp
    obtain rfl := sj e87
    try dsimp only at hs
    refine goR h4_3 ?_
    obtain rfl := sj hs
    exact hQ _ _ (rg h4_3 (Gh.refl _))
theorem at_r16_Count : ∀ {fuelN : Nat} {a0 : List Stmt} {r : Int} (hs : r16_Count fuelN a0 = some r), At Tryd.prog 39 [.cell (sC a0)] (iV .i64 r)
  | 0, _, _, hs => by rw [r16_Count] at hs; cases hs
  | n + 1, _, _, hs => by
    rw [r16_Count] at hs
    exact at_r16_Count_B (fun _ _ h => at_r16_Count h) hs
end Go.Dc
end
section
set_option linter.all false
namespace Go.Dc
open Go Go.Hw Go.Proofs
set_option maxRecDepth 100000
def r16_size_L1 (fuelN : Nat) (a0 : List Stmt) (a1 : Int) (rF65z : (List Stmt) → Int → Option Int) : Nat → Int → Int → Option Int
  | 0, _, _ => none
  | q151 + 1, i118, i119 => cond (andB (ltI i119 ((a0.length : Nat) : Int)) (ltI 0 a1)) (Option.bind (getI a0 i119) (fun x167 => Option.bind (r16_nodes fuelN x167.Exprs 40) (fun y170 => Option.bind (rF65z x167.Body (IntKind.i64.wrap (a1 - 1))) (fun y173 => Option.bind (rF65z x167.Else (IntKind.i64.wrap (a1 - 1))) (fun y176 => r16_size_L1 fuelN a0 a1 rF65z q151 (IntKind.i64.wrap (IntKind.i64.wrap (IntKind.i64.wrap (i118 + y170) + y173) + y176)) (IntKind.i64.wrap (i119 + 1))))))) (some (i118))

def r16_size_B (rF65z : (List Stmt) → Int → Option Int) (fuelN : Nat) (a0 : List Stmt) (a1 : Int) : Option Int :=
  Option.bind (α := Int) (Option.bind (r16_size_L1 fuelN a0 a1 rF65z fuelN ((a0.length : Nat) : Int) 0) (fun i144 => some (i144))) (fun i87 => cond (andB (eqI a1 0) (ltI 0 i87)) (some 1000000) (some i87))

def r16_size : Nat → (List Stmt) → Int → Option Int
  | 0 => fun _ _ => none
  | fuelN + 1 => fun a0 a1 => r16_size_B (r16_size fuelN) fuelN a0 a1

set_option maxHeartbeats 2000000 in
theorem at_r16_size_B {rF65z : (List Stmt) → Int → Option Int} (ihrF65z : ∀ (a0 : List Stmt) (a1 : Int) (r : Int), rF65z a0 a1 = some r → At Tryd.prog 65 [.cell (sC a0), iV .i64 a1] (iV .i64 r)) {fuelN : Nat} {a0 : List Stmt} {a1 : Int} {r : Int} (hs : r16_size_B rF65z fuelN a0 a1 = some r) : At Tryd.prog 65 [.cell (sC a0), iV .i64 a1] (iV .i64 r) := by
  refine at_bound (by kernel_rfl) fun hb => ?_
  have hb1 : LenOk (.sl a0.length (encL a0)) := lkc hb
  refine at_code mixed Tryd.func65 (by kernel_rfl) rfl (by kernel_rfl) rfl fun Q hQ => ?_
  rw [r16_size_B] at hs
  refine goR2 f0 ?_
  revert hs; refine bK fun o89 e88 hs => ?_
  refine awp_cutK (fun (v : Int) (σ : St) => some (v) = some o89 ∧ σ.env 1 = iV .i64 a1 ∧ σ.env 5 = iV .i64 v ∧ 3 ≤ σ.gen) (by rfl) (fun Q hK90 hX91 => ?_) (fun i87 σ3 hp => ?_)
  · refine goR f0 ?_
    revert e88; refine bK fun o146 e145 e88 => ?_
    refine awp_loopW (fun (v : Nat × Int × Int) (σ : St) => r16_size_L1 fuelN a0 a1 rF65z v.1 v.2.1 v.2.2 = some o146 ∧ σ.env 0 = .cell (sC a0) ∧ σ.env 1 = iV .i64 a1 ∧ σ.env 5 = iV .i64 v.2.1 ∧ σ.env 6 = iV .i64 v.2.2 ∧ 3 ≤ σ.gen) (fun v => v.1) _ (Gh.refl _) (fuelN, ((a0.length : Nat) : Int), 0) ⟨e145, pv f0, pv f0, pv f0, pv f0, pg⟩ fun v σ6 hp L147 hL148 => ?_
    obtain ⟨q150, i118, i119⟩ := v
    dsimp only at hp hL148
    obtain ⟨e145, h5_0, h5_1, h5_5, h5_6, n5_g⟩ := hp
    rcases q150 with _ | q151
    · rw [r16_size_L1] at e145; cases e145
    · rw [r16_size_L1] at e145; try dsimp only at e145
      have F1 := an h5_0 (an h5_1 (an h5_5 h5_6))
      refine goG F1 F1 ?_
      revert e145; refine cS F1 ?_ ?_ <;> intro h155 e145
      · revert e145; refine bK fun x167 hx168 e145 => ?_
        obtain ⟨hx168a, hx168b, hx168c, hx168d⟩ := getI_some hx168
        have f169 : partCV Tryd.prog 48 (encL a0) (((i119).toNat) * 9 + 6) = some (.cell (sC x167.Exprs)) := partCV_enc hx168d (f := 6) (by simp)
        have F2 := an F1 f169
        have F3 := an F2 (an hx168a hx168b)
        refine goE F2 F3 ?_
        revert e145; refine bK fun y170 hx171 e145 => ?_
        refine cP F2 (at_r16_nodes hx171) ?_
        have f172 : partCV Tryd.prog 55 (encL a0) (((i119).toNat) * 9 + 7) = some (.cell (sC x167.Body)) := partCV_enc hx168d (f := 7) (by simp)
        have F4 := an F2 f172
        have F5 := an F4 (an hx168a hx168b)
        refine goE F4 F5 ?_
        revert e145; refine bK fun y173 hx174 e145 => ?_
        refine cP F4 (ihrF65z _ _ _ hx174) ?_
        have f175 : partCV Tryd.prog 55 (encL a0) (((i119).toNat) * 9 + 8) = some (.cell (sC x167.Else)) := partCV_enc hx168d (f := 8) (by simp)
        have F6 := an F4 f175
        have F7 := an F6 (an hx168a hx168b)
        refine goE F6 F7 ?_
        revert e145; refine bK fun y176 hx177 e145 => ?_
        refine cP F6 (ihrF65z _ _ _ hx177) ?_
        refine goE F6 F7 ?_
        exact hL148 (q151, IntKind.i64.wrap (IntKind.i64.wrap (IntKind.i64.wrap (i118 + y170) + y173) + y176), IntKind.i64.wrap (i119 + 1)) _ _ (Gh.refl _) ⟨e145, pv F6, pv F6, pv F6, pv F6, pg⟩ (by omega)
      · refine goG F1 F1 ?_
        obtain rfl := sj e145
        try dsimp only at e88
        exact hK90 i118 _ _ (Gh.refl _) ⟨e88, pv F1, pv F1, pg⟩
  · obtain ⟨e88, h4_1, h4_5, n4_g⟩ := hp
    obtain rfl := sj e88
    try dsimp only at hs
    have F8 := an h4_1 h4_5
    refine goG F8 F8 ?_
    revert hs; refine cS F8 ?_ ?_ <;> intro h178 hs
    · refine goG F8 F8 ?_
      obtain rfl := sj hs
      exact hQ _ _ (rg F8 (Gh.refl _))
    · refine goG F8 F8 ?_
      obtain rfl := sj hs
      exact hQ _ _ (rg F8 (Gh.refl _))
theorem at_r16_size : ∀ {fuelN : Nat} {a0 : List Stmt} {a1 : Int} {r : Int} (hs : r16_size fuelN a0 a1 = some r), At Tryd.prog 65 [.cell (sC a0), iV .i64 a1] (iV .i64 r)
  | 0, _, _, _, hs => by rw [r16_size] at hs; cases hs
  | n + 1, _, _, _, hs => by
    rw [r16_size] at hs
    exact at_r16_size_B (fun _ _ _ h => at_r16_size h) hs
end Go.Dc
end
section
set_option linter.all false
namespace Go.Dc
open Go Go.Hw Go.Proofs
set_option maxRecDepth 100000
def r16_Few_L1 (fuelN : Nat) (a0 : UnitT) : Nat → Int → Int → Option Int
  | 0, _, _ => none
  | q66 + 1, i50, i51 => cond (andB (ltI i51 ((a0.Procs.length : Nat) : Int)) (ltI i51 100)) (Option.bind (getI a0.Procs i51) (fun x71 => Option.bind (r16_size fuelN x71.Body 40) (fun y74 => r16_Few_L1 fuelN a0 q66 (IntKind.i64.wrap (i50 + y74)) (IntKind.i64.wrap (i51 + 1))))) (some (i50))

def r16_Few (fuelN : Nat) (a0 : UnitT) : Option Bool :=
  Option.bind (α := Int) (Option.bind (r16_Few_L1 fuelN a0 fuelN (IntKind.i64.wrap (IntKind.i64.wrap (IntKind.i64.wrap (IntKind.i64.wrap (((a0.Vars.length : Nat) : Int) + ((a0.Mutexes.length : Nat) : Int)) + ((a0.Conds.length : Nat) : Int)) + ((a0.Threads.length : Nat) : Int)) + ((a0.Procs.length : Nat) : Int))) 0) (fun i59 => some (i59))) (fun i36 => some (andB (!(ltI 2000 i36)) (!(ltI 100 ((a0.Procs.length : Nat) : Int)))))

set_option maxHeartbeats 2000000 in
theorem at_r16_Few {fuelN : Nat} {a0 : UnitT} {r : Bool} (hs : r16_Few fuelN a0 = some r) : At Tryd.prog 26 [.agg (eA a0)] (bV r) := by
  refine at_bound (by kernel_rfl) fun hb => ?_
  have hb1 : LenOk (.sl a0.Vars.length (encL a0.Vars)) := lkc hb
  have hb2 : LenOk (.sl a0.Mutexes.length (encL a0.Mutexes)) := lkc hb
  have hb3 : LenOk (.sl a0.Conds.length (encL a0.Conds)) := lkc hb
  have hb4 : LenOk (.sl a0.Procs.length (encL a0.Procs)) := lkc hb
  have hb5 : LenOk (.sl a0.Threads.length (encL a0.Threads)) := lkc hb
  refine at_code mixed Tryd.func26 (by kernel_rfl) rfl (by kernel_rfl) rfl fun Q hQ => ?_
  rw [r16_Few] at hs
  refine goR2 f0 ?_
  revert hs; refine bK fun o38 e37 hs => ?_
  refine awp_cutK (fun (v : Int) (σ : St) => some (v) = some o38 ∧ σ.env 1 = .cell (.ref (.o 1 0 0) 0) ∧ σ.env 3 = iV .i64 v ∧ σ.hp (.o 1 0 0) = some (.cells (eA a0)) ∧ 3 ≤ σ.gen) (by rfl) (fun Q hK39 hX40 => ?_) (fun i36 σ3 hp => ?_)
  · refine goR f0 ?_
    revert e37; refine bK fun o61 e60 e37 => ?_
    refine awp_loopW (fun (v : Nat × Int × Int) (σ : St) => r16_Few_L1 fuelN a0 v.1 v.2.1 v.2.2 = some o61 ∧ σ.env 1 = .cell (.ref (.o 1 0 0) 0) ∧ σ.env 3 = iV .i64 v.2.1 ∧ σ.env 4 = iV .i64 v.2.2 ∧ σ.hp (.o 1 0 0) = some (.cells (eA a0)) ∧ 3 ≤ σ.gen) (fun v => v.1) _ (Gh.refl _) (fuelN, IntKind.i64.wrap (IntKind.i64.wrap (IntKind.i64.wrap (IntKind.i64.wrap (((a0.Vars.length : Nat) : Int) + ((a0.Mutexes.length : Nat) : Int)) + ((a0.Conds.length : Nat) : Int)) + ((a0.Threads.length : Nat) : Int)) + ((a0.Procs.length : Nat) : Int)), 0) ⟨e60, pv f0, pv f0, pv f0, pv f0, pg⟩ fun v σ6 hp L62 hL63 => ?_
    obtain ⟨q65, i50, i51⟩ := v
    dsimp only at hp hL63
    obtain ⟨e60, h5_1, h5_3, h5_4, g5_0, n5_g⟩ := hp
    have n5_0 : ¬ (σ6.gen = 0) := by omega
    rcases q65 with _ | q66
    · rw [r16_Few_L1] at e60; cases e60
    · rw [r16_Few_L1] at e60; try dsimp only at e60
      have F1 := an h5_1 (an h5_3 (an h5_4 (an g5_0 n5_0)))
      refine goG F1 F1 ?_
      revert e60; refine cS F1 ?_ ?_ <;> intro h70 e60
      · revert e60; refine bK fun x71 hx72 e60 => ?_
        obtain ⟨hx72a, hx72b, hx72c, hx72d⟩ := getI_some hx72
        have f73 : partCV Tryd.prog 55 (encL a0.Procs) (((i51).toNat) * 3 + 2) = some (.cell (sC x71.Body)) := partCV_enc hx72d (f := 2) (by simp)
        have F2 := an F1 f73
        have F3 := an F2 (an hx72a hx72b)
        refine goG F2 F3 ?_
        revert e60; refine bK fun y74 hx75 e60 => ?_
        refine cP F2 (at_r16_size hx75) ?_
        refine goG F2 F3 ?_
        exact hL63 (q66, IntKind.i64.wrap (i50 + y74), IntKind.i64.wrap (i51 + 1)) _ _ (Gh.refl _) ⟨e60, pv F2, pv F2, pv F2, pv F2, pg⟩ (by omega)
      · refine goG F1 F1 ?_
        obtain rfl := sj e60
        try dsimp only at e37
        exact hK39 i50 _ _ (Gh.refl _) ⟨e37, pv F1, pv F1, pv F1, pg⟩
  · obtain ⟨e37, h4_1, h4_3, g4_0, n4_g⟩ := hp
    obtain rfl := sj e37
    try dsimp only at hs
    have n4_0 : ¬ (σ3.gen = 0) := by omega
    have F4 := an h4_1 (an h4_3 (an g4_0 n4_0))
    refine goG F4 F4 ?_
    obtain rfl := sj hs
    exact hQ _ _ (rg F4 (Gh.refl _))
end Go.Dc
end
section
set_option linter.all false
namespace Go.Dc.Pl
open Go Go.Hw Go.Dc
mutual
def nS : Stmt → Nat
  | ⟨_, _, _, _, _, _, x, b, e⟩ => nL x + nSL b + nSL e + 1
def nSL : List Stmt → Nat
  | [] => 0
  | x :: r => nS x + nSL r
end
mutual
def cS : Stmt → Nat
  | ⟨_, _, _, _, _, _, _, b, e⟩ => cSL b + cSL e + 1
def cSL : List Stmt → Nat
  | [] => 0
  | x :: r => cS x + cSL r
end
mutual
/-- The statements in the order of their numbers, with their levels. -/
def flS (n : Int) : Stmt → List (Int × Stmt)
  | ⟨a, b, c, d, e, f, g, h, i⟩ => (n, ⟨a, b, c, d, e, f, g, h, i⟩) :: (flL (n + 1) h ++ flL (n + 1) i)
def flL (n : Int) : List Stmt → List (Int × Stmt)
  | [] => []
  | x :: r => flS n x ++ flL n r
end
theorem nS_eq (s : Stmt) : nS s = nL s.Exprs + nSL s.Body + nSL s.Else + 1 := by cases s; rw [nS]
theorem cS_eq (s : Stmt) : cS s = cSL s.Body + cSL s.Else + 1 := by cases s; rw [cS]
theorem flS_eq (n : Int) (s : Stmt) : flS n s = (n, s) :: (flL (n + 1) s.Body ++ flL (n + 1) s.Else) := by cases s; rw [flS]
@[simp] theorem nSL_nil : nSL [] = 0 := by rw [nSL]
@[simp] theorem nSL_cons (x : Stmt) (r : List Stmt) : nSL (x :: r) = nS x + nSL r := by rw [nSL]
@[simp] theorem cSL_nil : cSL [] = 0 := by rw [cSL]
@[simp] theorem cSL_cons (x : Stmt) (r : List Stmt) : cSL (x :: r) = cS x + cSL r := by rw [cSL]
@[simp] theorem flL_nil (n : Int) : flL n [] = [] := by rw [flL]
@[simp] theorem flL_cons (n : Int) (x : Stmt) (r : List Stmt) : flL n (x :: r) = flS n x ++ flL n r := by rw [flL]
theorem nS_pos (s : Stmt) : 1 ≤ nS s := by rw [nS_eq]; omega
theorem nSL_len : ∀ l : List Stmt, l.length ≤ nSL l
  | [] => by simp
  | x :: r => by have := nSL_len r; have := nS_pos x; simp; omega
theorem nSL_mem : ∀ {l : List Stmt} {x : Stmt}, x ∈ l → nS x ≤ nSL l
  | y :: r, x, h => by
    rcases List.mem_cons.1 h with rfl | h
    · simp
    · have := nSL_mem h; simp; omega
mutual
theorem fl_lenS : ∀ (s : Stmt) (n : Int), (flS n s).length = cS s
  | ⟨a, b, c, d, e, f, g, h, i⟩, n => by rw [flS, cS, List.length_cons, List.length_append, fl_lenL h, fl_lenL i]
theorem fl_lenL : ∀ (l : List Stmt) (n : Int), (flL n l).length = cSL l
  | [], n => by simp
  | x :: r, n => by rw [flL_cons, cSL_cons, List.length_append, fl_lenS x, fl_lenL r]
end
mutual
theorem c_leS : ∀ s : Stmt, cS s ≤ nS s
  | ⟨a, b, c, d, e, f, g, h, i⟩ => by rw [cS, nS]; have := c_leL h; have := c_leL i; omega
theorem c_leL : ∀ l : List Stmt, cSL l ≤ nSL l
  | [] => by simp
  | x :: r => by have := c_leS x; have := c_leL r; simp; omega
end
mutual
theorem fl_memS : ∀ (s : Stmt) (n : Int) (y : Int × Stmt), y ∈ flS n s → nS y.2 ≤ nS s
  | ⟨a, b, c, d, e, f, g, h, i⟩, n, y, hy => by
    rw [flS] at hy
    rcases List.mem_cons.1 hy with rfl | hy
    · exact Nat.le_refl _
    · rw [nS]
      rcases List.mem_append.1 hy with hy | hy
      · have := fl_memL h _ y hy; omega
      · have := fl_memL i _ y hy; omega
theorem fl_memL : ∀ (l : List Stmt) (n : Int) (y : Int × Stmt), y ∈ flL n l → nS y.2 ≤ nSL l
  | [], n, y, hy => by simp at hy
  | x :: r, n, y, hy => by
    rw [flL_cons] at hy
    rw [nSL_cons]
    rcases List.mem_append.1 hy with hy | hy
    · have := fl_memS x _ y hy; omega
    · have := fl_memL r _ y hy; omega
end
mutual
theorem itS_eq' : ∀ (s : Stmt) (n : Int), 0 ≤ n → n + nS s ≤ 4194304 → itS s n = some (flS n s)
  | ⟨a, b, c, d, e, f, g, h, i⟩, n, h0, hn => by
    rw [nS] at hn
    have h1 := nSL_len h; have h2 := nSL_len i
    rw [itS, flS, wrap_s (by omega) (by omega), itL_eq' h (n + 1) (by omega) (by omega), itL_eq' i (n + 1) (by omega) (by omega),
      show lenB h.length = true by rw [lenB_d]; simp; omega, show lenB i.length = true by rw [lenB_d]; simp; omega]
    rfl
theorem itL_eq' : ∀ (l : List Stmt) (n : Int), 0 ≤ n → n + nSL l ≤ 4194304 → itL l n = some (flL n l)
  | [], n, _, _ => by rw [itL]; simp
  | x :: r, n, h0, hn => by
    rw [nSL_cons] at hn
    rw [itL, itS_eq' x n h0 (by omega), itL_eq' r n h0 (by omega), flL_cons]; rfl
end
theorem its_eq {l : List Stmt} (h : nSL l ≤ 2097152) : it_stmts l 1 = some (flL 1 l) := by
  have := nSL_len l
  rw [it_stmts, show lenB l.length = true by rw [lenB_d]; simp; omega, guardO_t, itL_eq' l 1 (by omega) (by omega)]
theorem count_L : ∀ (xs : List (Int × Stmt)) (i : Nat), i + xs.length ≤ 4194304 → ast_Count_L1 xs (i : Int) = some ((i + xs.length : Nat) : Int)
  | [], i, _ => by rw [ast_Count_L1]; simp
  | x :: r, i, h => by
    rw [List.length_cons] at h
    rw [ast_Count_L1, wrapS (by omega), count_L r (i + 1) (by omega), List.length_cons]; congr 2; omega
theorem own_count {l : List Stmt} (h : nSL l ≤ 2097152) : ast_Count l = some (cSL l : Int) := by
  have := count_L (flL 1 l) 0 (by rw [fl_lenL]; have := c_leL l; omega)
  rw [show ((0 : Nat) : Int) = 0 from rfl, fl_lenL, Nat.zero_add] at this
  rw [ast_Count, ast_stmts, Option.bind_some, its_eq h, Option.bind_some, this]; rfl
theorem ref_count : ∀ (N : Nat) (l : List Stmt), nSL l < N → nSL l ≤ 2097152 → r16_Count N l = some (cSL l : Int)
  | 0, l, h, _ => absurd h (by omega)
  | N + 1, l, h, hb => by
    have key : ∀ (r : List Stmt) (i k : Nat), i + nSL r ≤ 4194304 → nSL r ≤ nSL l → r16_Count_L1 (r16_Count N) r (i : Int) k = some ((i + cSL r : Nat) : Int) := by
      intro r
      induction r with
      | nil => intro i k _ _; rw [r16_Count_L1]; simp
      | cons x r ih =>
        intro i k hi hr
        rw [nSL_cons] at hi hr
        have h1 := nS_eq x
        have hc := c_leS x
        have c1 := c_leL x.Body; have c2 := c_leL x.Else
        rw [r16_Count_L1, ref_count N x.Body (by omega) (by omega), Option.bind_some, ref_count N x.Else (by omega) (by omega), Option.bind_some, wrapS (by omega),
          wrap_s (n := ((i + 1 : Nat) : Int) + (cSL x.Body : Int)) (by omega) (by omega), wrap_s (n := ((i + 1 : Nat) : Int) + (cSL x.Body : Int) + (cSL x.Else : Int)) (by omega) (by omega), show ((i + 1 : Nat) : Int) + (cSL x.Body : Int) + (cSL x.Else : Int) = ((i + 1 + cSL x.Body + cSL x.Else : Nat) : Int) by omega, ih _ _ (by omega) (by omega), cSL_cons, cS_eq]
        congr 2; omega
    rw [show r16_Count (N + 1) l = r16_Count_B (r16_Count N) l from rfl, r16_Count_B]
    have := key l 0 0 (by omega) (Nat.le_refl _)
    rw [show ((0 : Nat) : Int) = 0 from rfl, Nat.zero_add] at this
    rw [this]; rfl
/-! Local variables. -/
def addN (a : List ByteArray) (s : Stmt) : List ByteArray := if asg s.Kind = true ∧ isIn a s.Name = false then a ++ [s.Name] else a
def addL (a : List ByteArray) (xs : List (Int × Stmt)) : List ByteArray := xs.foldl (fun a y => addN a y.2) a
@[simp] theorem addL_nil (a : List ByteArray) : addL a [] = a := rfl
@[simp] theorem addL_cons (a : List ByteArray) (x : Int × Stmt) (r : List (Int × Stmt)) : addL a (x :: r) = addL (addN a x.2) r := rfl
theorem addL_append (a : List ByteArray) (x y : List (Int × Stmt)) : addL a (x ++ y) = addL (addL a x) y := by simp [addL]
theorem addN_len (a : List ByteArray) (s : Stmt) : a.length ≤ (addN a s).length ∧ (addN a s).length ≤ a.length + 1 := by unfold addN; split <;> simp
theorem addL_len : ∀ (xs : List (Int × Stmt)) (a : List ByteArray), (addL a xs).length ≤ a.length + xs.length
  | [], a => by simp
  | x :: r, a => by have := addL_len r (addN a x.2); have := (addN_len a x.2).2; simp; omega
theorem lim16 {n : Nat} (h : n ≤ 8388608) : limB 16 n = true := by simp [limB]; omega
theorem locals_L : ∀ (xs : List (Int × Stmt)) (a : List ByteArray), a.length + xs.length ≤ 4194304 → ast_Locals_L1 xs a = some (addL a xs)
  | [], a, _ => by rw [ast_Locals_L1]; rfl
  | x :: r, a, h => by
    rw [List.length_cons] at h
    have h2 := (addN_len a x.2).2
    have ih := locals_L r (addN a x.2) (by omega)
    rw [ast_Locals_L1, assigns_eq, Option.bind_some, contains_eq, Option.bind_some, addL_cons]
    cases hA : asg x.2.Kind with
    | false => rw [show addN a x.2 = a by simp [addN, hA]] at ih ⊢; exact ih
    | true =>
      cases hI : isIn a x.2.Name with
      | true => rw [show addN a x.2 = a by simp [addN, hI]] at ih ⊢; exact ih
      | false =>
        rw [show addN a x.2 = a ++ [x.2.Name] by simp [addN, hA, hI]] at ih ⊢
        simp only [Bool.not_false, cond_true, Option.bind_some, List.length_singleton]
        rw [lim16 (by omega), guardO_t]; exact ih
def par (p : Proc) : List ByteArray := if eqS p.Param emp = true then [] else [p.Param]
def locP (p : Proc) : List ByteArray := addL (par p) (flL 1 p.Body)
theorem par_len (p : Proc) : (par p).length ≤ 1 := by unfold par; split <;> simp
theorem own_locals {p : Proc} (h : nSL p.Body ≤ 2097152) : ast_Locals p = some (locP p) := by
  have hl := locals_L (flL 1 p.Body) (par p) (by rw [fl_lenL]; have := c_leL p.Body; have := par_len p; omega)
  rw [ast_Locals, show (⟨#[]⟩ : ByteArray) = emp from rfl, locP, ← hl]
  have hp : (bif !eqS p.Param emp then (some [p.Param]).bind fun l13 => guardO (limB 16 l13.length) ((some l13).bind fun l16 => some l16) else some []) = some (par p) := by
    unfold par; cases eqS p.Param emp with
    | true => rfl
    | false => rfl
  rw [hp, Option.bind_some, ast_stmts, Option.bind_some, its_eq h, Option.bind_some]
  cases ast_Locals_L1 (flL 1 p.Body) (par p) <;> rfl
theorem ref_names : ∀ (N : Nat) (l : List Stmt) (a : List ByteArray) (n : Int), nSL l < N → a.length + nSL l ≤ 4194304 → r16_names N a l = some (addL a (flL n l))
  | 0, l, a, n, h, _ => absurd h (by omega)
  | N + 1, l, a, n, h, hb => by
    have key : ∀ (r : List Stmt) (a : List ByteArray) (k : Nat), a.length + nSL r ≤ 4194304 → nSL r ≤ nSL l → r16_names_L1 (r16_names N) r a k = some (addL a (flL n r)) := by
      intro r
      induction r with
      | nil => intro a k _ _; rw [r16_names_L1]; simp
      | cons x r ih =>
        intro a k hi hr
        rw [nSL_cons] at hi hr
        have h1 := nS_eq x
        have rest : ∀ b : List ByteArray, b.length ≤ a.length + 1 → (Option.bind (r16_names N b x.Body) fun y => Option.bind (r16_names N y x.Else) fun z => r16_names_L1 (r16_names N) r z (k + 1)) = some (addL (addL (addL b (flL (n + 1) x.Body)) (flL (n + 1) x.Else)) (flL n r)) := by
          intro b hb2
          have e1 := addL_len (flL (n + 1) x.Body) b
          have e2 := addL_len (flL (n + 1) x.Else) (addL b (flL (n + 1) x.Body))
          rw [fl_lenL] at e1 e2
          have c1 := c_leL x.Body; have c2 := c_leL x.Else
          rw [ref_names N x.Body b (n + 1) (by omega) (by omega), Option.bind_some, ref_names N x.Else _ (n + 1) (by omega) (by omega), Option.bind_some, ih _ _ (by omega) (by omega)]
        rw [flL_cons, flS_eq, List.cons_append, addL_cons, addL_append, addL_append]
        rw [r16_names_L1, in_eq, show r16_known x.Kind = some (okK x.Kind) by
          simp only [r16_known, andB_d, ltI_d, okK, ← decide_not, ← Bool.decide_and]; congr 2; apply propext; omega, Option.bind_some]
        cases hK : okK x.Kind with
        | false =>
          have hA : asg x.Kind = false := by simp [okK, asg] at hK ⊢; omega
          rw [show addN a x = a by simp [addN, hA]]
          exact rest a (by omega)
        | true =>
          rw [(tab hK).N]
          cases hA : asg x.Kind with
          | false => rw [show addN a x = a by simp [addN, hA]]; exact rest a (by omega)
          | true =>
            cases hI : isIn a x.Name with
            | true => rw [show addN a x = a by simp [addN, hI]]; exact rest a (by omega)
            | false =>
              rw [show addN a x = a ++ [x.Name] by simp [addN, hA, hI]]
              have := rest (a ++ [x.Name]) (by simp)
              simp only [Option.isSome_some, Option.getD_some, orB_d, Bool.or_true, guardO_t, andB_d, Bool.and_true, Bool.not_false, cond_true, Option.bind_some, List.length_singleton]
              rw [lim16 (by omega), guardO_t]; exact this
    rw [show r16_names (N + 1) a l = r16_names_B (r16_names N) a l from rfl, r16_names_B, key l a 0 hb (Nat.le_refl _)]; rfl
theorem ref_locals {N : Nat} {p : Proc} (h : nSL p.Body < N) (hb : nSL p.Body ≤ 2097152) : r16_Locals N p = some (locP p) := by
  rw [r16_Locals, Option.bind_some, show (⟨#[]⟩ : ByteArray) = emp from rfl, locP, par]
  cases eqS p.Param emp with
  | true =>
    rw [Bool.not_true, cond_false, if_pos rfl, ref_names N p.Body [] 1 h (by simp; omega)]; rfl
  | false =>
    rw [Bool.not_false, cond_true, if_neg (by simp), Option.bind_some]
    simp only [List.length_nil, List.length_singleton, Nat.zero_add, List.nil_append]
    rw [lim16 (by omega), guardO_t, Option.bind_some, ref_names N p.Body [p.Param] 1 h (by simp; omega)]; rfl
/-! The count of nodes of a unit ends. -/
theorem size_some : ∀ (N : Nat) (l : List Stmt) (d : Int), nSL l + 2 < N → nSL l ≤ 1048576 → ∃ r, r16_size N l d = some r
  | 0, l, d, h, _ => absurd h (by omega)
  | N + 1, l, d, h, hb => by
    rw [show r16_size (N + 1) l d = r16_size_B (r16_size N) N l d from rfl, r16_size_B]
    have hlen := nSL_len l
    have key : ∀ (q i : Nat) (a : Int), i ≤ l.length → l.length < i + q → ∃ r, r16_size_L1 N l d (r16_size N) q a (i : Int) = some r := by
      intro q
      induction q with
      | zero => intro i a hi hq; exact absurd hq (by omega)
      | succ q ih =>
        intro i a hi hq
        rw [r16_size_L1]
        cases hc : andB (ltI (i : Int) ((l.length : Nat) : Int)) (ltI 0 d) with
        | false => exact ⟨_, rfl⟩
        | true =>
          have hi' : i < l.length := by simp [andB_d, ltI_d] at hc; omega
          rw [cond_true, getI_nat, List.getElem?_eq_getElem hi', Option.bind_some]
          have hm := nSL_mem (List.getElem_mem hi')
          have h1 := nS_eq l[i]
          obtain ⟨x, hx⟩ := nodes_some N l[i].Exprs 40 (by omega) (by omega)
          obtain ⟨y, hy⟩ := size_some N l[i].Body (IntKind.i64.wrap (d - 1)) (by omega) (by omega)
          obtain ⟨z, hz⟩ := size_some N l[i].Else (IntKind.i64.wrap (d - 1)) (by omega) (by omega)
          rw [hx, Option.bind_some, hy, Option.bind_some, hz, Option.bind_some, wrapS (n := i) (by omega)]
          exact ih (i + 1) _ hi' (by omega)
    obtain ⟨r, hr⟩ := key N 0 ((l.length : Nat) : Int) (by omega) (by omega)
    rw [show ((0 : Nat) : Int) = 0 from rfl] at hr
    rw [hr]
    simp only [Option.bind_some]
    cases andB (eqI d 0) (ltI 0 r)
    · exact ⟨r, rfl⟩
    · exact ⟨_, rfl⟩
/-- A unit of bounded size. -/
structure Sm (u : UnitT) : Prop where
  vars : u.Vars.length ≤ 1048576
  mutexes : u.Mutexes.length ≤ 1048576
  conds : u.Conds.length ≤ 1048576
  procs : u.Procs.length ≤ 1048576
  threads : u.Threads.length ≤ 1048576
  body : ∀ p ∈ u.Procs, nSL p.Body ≤ 1048576
theorem few_some {N : Nat} {u : UnitT} (h : Sm u) (hN : 1048580 ≤ N) : ∃ b, r16_Few N u = some b := by
  have key : ∀ (q i : Nat) (a : Int), i ≤ u.Procs.length → u.Procs.length < i + q → ∃ r, r16_Few_L1 N u q a (i : Int) = some r := by
    intro q
    induction q with
    | zero => intro i a hi hq; exact absurd hq (by omega)
    | succ q ih =>
      intro i a hi hq
      rw [r16_Few_L1]
      cases hc : andB (ltI (i : Int) ((u.Procs.length : Nat) : Int)) (ltI (i : Int) 100) with
      | false => exact ⟨_, rfl⟩
      | true =>
        have hi' : i < u.Procs.length := by simp [andB_d, ltI_d] at hc; omega
        have hm := h.body _ (List.getElem_mem hi')
        obtain ⟨x, hx⟩ := size_some N u.Procs[i].Body 40 (by omega) hm
        have hp := h.procs
        rw [cond_true, getI_nat, List.getElem?_eq_getElem hi', Option.bind_some, hx, Option.bind_some, wrapS (n := i) (by omega)]
        exact ih (i + 1) _ hi' (by omega)
  rw [r16_Few]
  obtain ⟨r, hr⟩ := key N 0 (IntKind.i64.wrap (IntKind.i64.wrap (IntKind.i64.wrap (IntKind.i64.wrap (((u.Vars.length : Nat) : Int) + ((u.Mutexes.length : Nat) : Int)) + ((u.Conds.length : Nat) : Int)) + ((u.Threads.length : Nat) : Int)) + ((u.Procs.length : Nat) : Int))) (by omega) (by have := h.procs; omega)
  rw [show ((0 : Nat) : Int) = 0 from rfl] at hr
  rw [hr]; exact ⟨_, rfl⟩
end Go.Dc.Pl
end
section
set_option linter.all false
namespace Go.Dc
open Go Go.Hw Go.Proofs
set_option maxRecDepth 100000
def ast_objects_L1 : List Var → Nat → (List ByteArray) → Option (List ByteArray)
  | [], k81, l82 => some (l82)
  | x104 :: q100, k81, l82 => Option.bind (some ([x104.Name])) (fun l107 => guardO (limB 16 (l82.length + l107.length)) (Option.bind (some (l82 ++ l107)) (fun l110 => ast_objects_L1 q100 (k81 + 1) l110)))

def ast_objects_L2 : List Proc → Nat → (List ByteArray) → Option (List ByteArray)
  | [], k192, l193 => some (l193)
  | x215 :: q211, k192, l193 => Option.bind (some ([x215.Name])) (fun l218 => guardO (limB 16 (l193.length + l218.length)) (Option.bind (some (l193 ++ l218)) (fun l221 => ast_objects_L2 q211 (k192 + 1) l221)))

def ast_objects (a0 : UnitT) : Option (Arr 5 (List ByteArray)) :=
  Option.bind (α := (List ByteArray)) (Option.bind (ast_objects_L1 a0.Vars 0 []) (fun l93 => some (l93))) (fun l54 => Option.bind (α := (List ByteArray)) (Option.bind (ast_objects_L2 a0.Procs 0 []) (fun l204 => some (l204))) (fun l165 => some (Arr.of 5 [[], l54, a0.Mutexes, a0.Conds, l165])))

set_option maxHeartbeats 2000000 in
theorem at_ast_objects {a0 : UnitT} {r : (Arr 5 (List ByteArray))} (hs : ast_objects a0 = some r) : At Tryd.prog 68 [.agg (eA a0)] (.agg [sC (r.f 0), sC (r.f 1), sC (r.f 2), sC (r.f 3), sC (r.f 4)]) := by
  refine at_bound (by kernel_rfl) fun hb => ?_
  have hb1 : LenOk (.sl a0.Vars.length (encL a0.Vars)) := lkc hb
  have hb2 : LenOk (.sl a0.Mutexes.length (encL a0.Mutexes)) := lkc hb
  have hb3 : LenOk (.sl a0.Conds.length (encL a0.Conds)) := lkc hb
  have hb4 : LenOk (.sl a0.Procs.length (encL a0.Procs)) := lkc hb
  have hb5 : LenOk (.sl a0.Threads.length (encL a0.Threads)) := lkc hb
  refine at_code mixed Tryd.func68 (by kernel_rfl) rfl (by kernel_rfl) rfl fun Q hQ => ?_
  rw [ast_objects] at hs
  refine goR2 f0 ?_
  revert hs; refine bK fun o56 e55 hs => ?_
  refine awp_cutK (fun (v : (List ByteArray)) (σ : St) => some (v) = some o56 ∧ σ.env 1 = .cell (.ref (.o 1 0 0) 0) ∧ σ.env 2 = .cell (.ref (.o 1 1 0) 0) ∧ σ.env 3 = .cell (.ref (.o 2 0 0) 0) ∧ σ.hp (.o 1 0 0) = some (.cells (eA a0)) ∧ σ.hp (.o 1 1 0) = some (.cells [.z, .z, .z, .z, .z]) ∧ σ.hp (.l 1) = some (.pure (encL v)) ∧ σ.hp (.o 2 0 0) = some (.cells [.z, .sl (.l 1) 0 1 v.length, .z, .z, .z]) ∧ 3 ≤ σ.gen) (by rfl) (fun Q hK57 hX58 => ?_) (fun l54 σ3 hp => ?_)
  · refine goR f0 ?_
    revert e55; refine bK fun o95 e94 e55 => ?_
    refine awp_loopW (fun (v : (List Var) × Nat × (List ByteArray)) (σ : St) => ast_objects_L1 v.1 v.2.1 v.2.2 = some o95 ∧ v.1 = a0.Vars.drop v.2.1 ∧ σ.env 1 = .cell (.ref (.o 1 0 0) 0) ∧ σ.env 2 = .cell (.ref (.o 1 1 0) 0) ∧ σ.env 3 = .cell (.ref (.o 2 0 0) 0) ∧ σ.env 9 = .cell (sC a0.Vars) ∧ σ.env 10 = iV .i64 ((a0.Vars.length : Nat) : Int) ∧ σ.env 11 = iV .i64 ((v.2.1 : Nat) : Int) ∧ σ.hp (.o 1 0 0) = some (.cells (eA a0)) ∧ σ.hp (.o 1 1 0) = some (.cells [.z, .z, .z, .z, .z]) ∧ σ.hp (.l 4) = some (.pure (encL v.2.2)) ∧ σ.hp (.o 2 0 0) = some (.cells [.z, .sl (.l 4) 0 1 v.2.2.length, .z, .z, .z]) ∧ 3 ≤ σ.gen) (fun v => v.1.length) _ (Gh.voidB _ (.l 4) (.o 2 0 0) 1 1 rfl (by simp; rfl) (by first | rfl | simp) (by simp)) (a0.Vars, 0, []) ⟨e94, by simp, pv f0, pv f0, pv f0, pv f0, pv f0, pv f0, pv f0, pv f0, pv f0, pv f0, pg⟩ fun v σ6 hp L96 hL97 => ?_
    obtain ⟨q99, k81, l82⟩ := v
    dsimp only at hp hL97
    obtain ⟨e94, hd98, h5_1, h5_2, h5_3, h5_9, h5_10, h5_11, g5_0, g5_1, g5_2, g5_3, n5_g⟩ := hp
    have n5_0 : ¬ (σ6.gen = 0) := by omega
    have n5_1 : ¬ (σ6.gen = 1) := by omega
    rcases q99 with _ | ⟨x104, q100⟩
    · have hlt101 := drop_end hd98
      rw [ast_objects_L1] at e94; try dsimp only at e94
      have F1 := an h5_1 (an h5_2 (an h5_3 (an h5_9 (an h5_10 (an h5_11 (an g5_0 (an g5_1 (an g5_2 (an g5_3 (an n5_0 n5_1))))))))))
      refine goR F1 ?_
      refine condK_f (by simp [ltI]; omega) ?_
      obtain rfl := sj e94
      try dsimp only at e55
      exact hK57 l82 _ _ (Gh.ren _ (.l 4) (.l 1) (by simp) rfl rfl) ⟨e55, pv F1, pv F1, pv F1, pv F1, pv F1, pv F1, pv F1, pg⟩
    · obtain ⟨hx103, hlt101, hd105⟩ := drop_next hd98
      have ew102 := wrap_succ hlt101 (hb1).len
      rw [ast_objects_L1] at e94; try dsimp only at e94
      have F2 := an h5_1 (an h5_2 (an h5_3 (an h5_9 (an h5_10 (an h5_11 (an g5_0 (an g5_1 (an g5_2 (an g5_3 (an n5_0 (an n5_1 (an hlt101 ew102))))))))))))
      refine goR F2 ?_
      refine condK_t (by simp [ltI]; omega) ?_
      have f106 : partCV Tryd.prog 69 (encL a0.Vars) (k81 * 2) = some (.agg (eA x104)) := partCV_enc hx103 (f := 0) (by simp)
      revert e94; refine lK fun l107 hx108 e94 => ?_
      have hx108n : l107.length = 1 := by rw [hx108]; rfl
      obtain ⟨g109, e94⟩ := guardO_some e94
      have g109 := limB_t g109
      obtain ⟨g109a, g109b⟩ := g109
      revert e94; refine lK fun l110 hx111 e94 => ?_
      have hx111n : l110.length = (l82.length + l107.length) := by rw [hx111]; simp
      have hx111e : encL l110 = encL l82 ++ encL l107 := by rw [hx111]; simp
      have F3 := an F2 (an f106 (an hx108 (an hx111n hx111e)))
      refine goR F3 ?_
      exact hL97 (q100, (k81 + 1), l110) _ _ (Gh.ren _ (.o (σ6.gen + 3) 5 0) (.l 4) (by simp) rfl rfl) ⟨e94, hd105, pv F3, pv F3, pv F3, pv F3, pv F3, pv F3, pv F3, pv F3, pv F3, pv F3, pg⟩ (by simp)
  · obtain ⟨e55, h4_1, h4_2, h4_3, g4_0, g4_1, g4_2, g4_3, n4_g⟩ := hp
    obtain rfl := sj e55
    try dsimp only at hs
    have n4_0 : ¬ (σ3.gen = 0) := by omega
    have n4_1 : ¬ (σ3.gen = 1) := by omega
    have F4 := an h4_1 (an h4_2 (an h4_3 (an g4_0 (an g4_1 (an g4_2 (an g4_3 (an n4_0 n4_1)))))))
    refine goD2 F4 ?_
    revert hs; refine bK fun o167 e166 hs => ?_
    refine awp_cutK (fun (v : (List ByteArray)) (σ : St) => some (v) = some o167 ∧ σ.env 2 = .cell (.ref (.o 1 1 0) 0) ∧ σ.env 3 = .cell (.ref (.o 2 0 0) 0) ∧ σ.hp (.o 1 1 0) = some (.cells [.z, .z, .z, .z, .z]) ∧ σ.hp (.l 9) = some (.pure (encL v)) ∧ σ.hp (.o 2 0 0) = some (.cells [.z, .sl (.l 1) 0 1 l54.length, sC a0.Mutexes, sC a0.Conds, .sl (.l 9) 0 1 v.length]) ∧ σ.hp (.l 1) = some (.pure (encL l54)) ∧ (σ3.gen + 2) ≤ σ.gen) (by rfl) (fun Q hK168 hX169 => ?_) (fun l165 σ9 hp => ?_)
    · refine goD F4 ?_
      revert e166; refine bK fun o206 e205 e166 => ?_
      refine awp_loopW (fun (v : (List Proc) × Nat × (List ByteArray)) (σ : St) => ast_objects_L2 v.1 v.2.1 v.2.2 = some o206 ∧ v.1 = a0.Procs.drop v.2.1 ∧ σ.env 2 = .cell (.ref (.o 1 1 0) 0) ∧ σ.env 3 = .cell (.ref (.o 2 0 0) 0) ∧ σ.env 30 = .cell (sC a0.Procs) ∧ σ.env 31 = iV .i64 ((a0.Procs.length : Nat) : Int) ∧ σ.env 32 = iV .i64 ((v.2.1 : Nat) : Int) ∧ σ.hp (.o 1 1 0) = some (.cells [.z, .z, .z, .z, .z]) ∧ σ.hp (.l 17) = some (.pure (encL v.2.2)) ∧ σ.hp (.o 2 0 0) = some (.cells [.z, .sl (.l 1) 0 1 l54.length, sC a0.Mutexes, sC a0.Conds, .sl (.l 17) 0 1 v.2.2.length]) ∧ σ.hp (.l 1) = some (.pure (encL l54)) ∧ (σ3.gen + 2) ≤ σ.gen) (fun v => v.1.length) _ (Gh.voidB _ (.l 17) (.o 2 0 0) 4 1 rfl (by simp [F4]; rfl) (by first | rfl | simp) (by simp)) (a0.Procs, 0, []) ⟨e205, by simp, pv F4, pv F4, pv F4, pv F4, pv F4, pv F4, pv F4, pv F4, pv F4, pg⟩ fun v σ12 hp L207 hL208 => ?_
      obtain ⟨q210, k192, l193⟩ := v
      dsimp only at hp hL208
      obtain ⟨e205, hd209, h11_2, h11_3, h11_30, h11_31, h11_32, g11_0, g11_1, g11_2, g11_3, n11_g⟩ := hp
      have n11_0 : ¬ (σ12.gen = 0) := by omega
      have n11_1 : ¬ (σ12.gen = 1) := by omega
      rcases q210 with _ | ⟨x215, q211⟩
      · have hlt212 := drop_end hd209
        rw [ast_objects_L2] at e205; try dsimp only at e205
        have F5 := an h11_2 (an h11_3 (an h11_30 (an h11_31 (an h11_32 (an g11_0 (an g11_1 (an g11_2 (an g11_3 (an n11_0 n11_1)))))))))
        refine goR F5 ?_
        refine condK_f (by simp [ltI]; omega) ?_
        obtain rfl := sj e205
        try dsimp only at e166
        exact hK168 l193 _ _ (Gh.ren _ (.l 17) (.l 9) (by simp) rfl rfl) ⟨e166, pv F5, pv F5, pv F5, pv F5, pv F5, pv F5, pg⟩
      · obtain ⟨hx214, hlt212, hd216⟩ := drop_next hd209
        have ew213 := wrap_succ hlt212 (hb4).len
        rw [ast_objects_L2] at e205; try dsimp only at e205
        have F6 := an h11_2 (an h11_3 (an h11_30 (an h11_31 (an h11_32 (an g11_0 (an g11_1 (an g11_2 (an g11_3 (an n11_0 (an n11_1 (an hlt212 ew213)))))))))))
        refine goR F6 ?_
        refine condK_t (by simp [ltI]; omega) ?_
        have f217 : partCV Tryd.prog 57 (encL a0.Procs) (k192 * 3) = some (.agg (eA x215)) := partCV_enc hx214 (f := 0) (by simp)
        revert e205; refine lK fun l218 hx219 e205 => ?_
        have hx219n : l218.length = 1 := by rw [hx219]; rfl
        obtain ⟨g220, e205⟩ := guardO_some e205
        have g220 := limB_t g220
        obtain ⟨g220a, g220b⟩ := g220
        revert e205; refine lK fun l221 hx222 e205 => ?_
        have hx222n : l221.length = (l193.length + l218.length) := by rw [hx222]; simp
        have hx222e : encL l221 = encL l193 ++ encL l218 := by rw [hx222]; simp
        have F7 := an F6 (an f217 (an hx219 (an hx222n hx222e)))
        refine goR F7 ?_
        exact hL208 (q211, (k192 + 1), l221) _ _ (Gh.ren _ (.o (σ12.gen + 3) 5 0) (.l 17) (by simp) rfl rfl) ⟨e205, hd216, pv F7, pv F7, pv F7, pv F7, pv F7, pv F7, pv F7, pv F7, pv F7, pg⟩ (by simp)
    · obtain ⟨e166, h10_2, h10_3, g10_0, g10_1, g10_2, g10_3, n10_g⟩ := hp
      obtain rfl := sj e166
      try dsimp only at hs
      have n10_0 : ¬ (σ9.gen = 0) := by omega
      have n10_1 : ¬ (σ9.gen = 1) := by omega
      have F8 := an h10_2 (an h10_3 (an g10_0 (an g10_1 (an g10_2 (an g10_3 (an n10_0 n10_1))))))
      refine goD F8 ?_
      obtain rfl := sj hs
      exact hQ _ _ (rg F8 ((Gh.frz _ (.l 1)).trans ((Gh.frz _ (.l 9)).trans (Gh.unz _))))
end Go.Dc
end
section
set_option linter.all false
namespace Go.Dc
open Go Go.Hw Go.Proofs
set_option maxRecDepth 100000
def ast_names_L1 (a0 : List ByteArray) : List ByteArray → Nat → Option (Unit ⊕ (Int × Int))
  | [], k77 => some (.inl ())
  | x103 :: q99, k77 => Option.bind (ast_validName x103) (fun y106 => cond (!y106) (some (.inr (6, ((k77 : Nat) : Int)))) (guardO (slB 0 ((k77 : Nat) : Int) a0.length) (Option.bind (some (subL a0 0 ((k77 : Nat) : Int))) (fun l110 => Option.bind (slices_Contains_string l110 x103) (fun y113 => cond y113 (some (.inr (7, ((k77 : Nat) : Int)))) (ast_names_L1 a0 q99 (k77 + 1)))))))

def ast_names (a0 : List ByteArray) : Option (Int × Int) :=
  Option.bind (α := Unit ⊕ (Int × Int)) (Option.bind (ast_names_L1 a0 a0 0) (fun o => match o with | .inl _ => some (.inl ()) | .inr r116 => some (.inr r116))) (fun o => match o with | .inl _ => some (0, (-1)) | .inr r117 => some r117)

set_option maxHeartbeats 2000000 in
theorem at_ast_names {a0 : List ByteArray} {r : Int × Int} (hs : ast_names a0 = some r) : At Tryd.prog 118 [.cell (sC a0)] (.tup [iV .i64 r.1, iV .i64 r.2]) := by
  refine at_bound (by kernel_rfl) fun hb => ?_
  have hb1 : LenOk (.sl a0.length (encL a0)) := lkc hb
  refine at_code mixed Tryd.func118 (by kernel_rfl) rfl (by kernel_rfl) rfl fun Q hQ => ?_
  rw [ast_names] at hs
  refine goR2 f0 ?_
  revert hs; refine bK fun o58 e57 hs => ?_
  refine awp_cutK (fun (v : Unit) (σ : St) => some (.inl v) = some o58 ∧ 2 ≤ σ.gen) (by rfl) (fun Q hK59 hX60 => ?_) (fun v σ3 hp => ?_)
  · refine goR f0 ?_
    revert e57; refine bK fun o94 e93 e57 => ?_
    refine awp_loopW (fun (v : (List ByteArray) × Nat) (σ : St) => ast_names_L1 a0 v.1 v.2 = some o94 ∧ v.1 = a0.drop v.2 ∧ σ.env 0 = .cell (sC a0) ∧ σ.env 6 = .cell (sC a0) ∧ σ.env 7 = iV .i64 ((a0.length : Nat) : Int) ∧ σ.env 8 = iV .i64 ((v.2 : Nat) : Int) ∧ 2 ≤ σ.gen) (fun v => v.1.length) _ (Gh.refl _) (a0, 0) ⟨e93, by simp, pv f0, pv f0, pv f0, pv f0, pg⟩ fun v σ6 hp L95 hL96 => ?_
    obtain ⟨q98, k77⟩ := v
    dsimp only at hp hL96
    obtain ⟨e93, hd97, h5_0, h5_6, h5_7, h5_8, n5_g⟩ := hp
    rcases q98 with _ | ⟨x103, q99⟩
    · have hlt100 := drop_end hd97
      rw [ast_names_L1] at e93; try dsimp only at e93
      have F1 := an h5_0 (an h5_6 (an h5_7 h5_8))
      refine goR F1 ?_
      refine condK_f (by simp [ltI]; omega) ?_
      obtain rfl := sj e93
      try dsimp only at e57
      exact hK59 () _ _ (Gh.refl _) ⟨e57, pg⟩
    · obtain ⟨hx102, hlt100, hd104⟩ := drop_next hd97
      have ew101 := wrap_succ hlt100 (hb1).len
      rw [ast_names_L1] at e93; try dsimp only at e93
      have F2 := an h5_0 (an h5_6 (an h5_7 (an h5_8 (an hlt100 ew101))))
      refine goR F2 ?_
      refine condK_t (by simp [ltI]; omega) ?_
      have f105 : partCV Tryd.prog 9 (encL a0) (k77) = some (sV x103) := partCV_enc1 hx102 (by simp)
      have F3 := an F2 f105
      refine goR F3 ?_
      revert e93; refine bK fun y106 hx107 e93 => ?_
      refine cP F3 (at_ast_validName hx107) ?_
      refine goR F3 ?_
      revert e93; refine cS F3 ?_ ?_ <;> intro h108 e93
      · refine goR F3 ?_
        obtain rfl := sj e93
        try dsimp only at e57
        obtain rfl := sj e57
        try dsimp only at hs
        refine hX60 _ _ (by simp) ?_
        refine goR F3 ?_
        obtain rfl := sj hs
        exact hQ _ _ (rg F3 (Gh.refl _))
      · obtain ⟨g109, e93⟩ := guardO_some e93
        obtain ⟨g109a, g109b, g109c⟩ := slB_t g109
        revert e93; refine lK fun l110 hx111 e93 => ?_
        have f112n : l110.length = (((k77 : Nat) : Int) - 0).toNat := by rw [hx111]; exact subL_len ⟨g109a, g109b, g109c⟩
        have f112e : ((encL a0).drop ((0 : Int).toNat * 1)).take ((((k77 : Nat) : Int) - 0).toNat * 1) = encL l110 := by rw [hx111]; exact subL_enc (α := ByteArray)
        try simp at f112n
        try simp at f112e
        have f112o : LenOk (.sl l110.length (encL l110)) := by rw [hx111]; exact subL_ok hb1
        have F4 := an F3 (an g109a (an g109b (an g109c (an f112n f112e))))
        refine goR F4 ?_
        revert e93; refine bK fun y113 hx114 e93 => ?_
        refine cP F4 (at_slices_Contains_string hx114) ?_
        refine goR F4 ?_
        revert e93; refine cS F4 ?_ ?_ <;> intro h115 e93
        · refine goR F4 ?_
          obtain rfl := sj e93
          try dsimp only at e57
          obtain rfl := sj e57
          try dsimp only at hs
          refine hX60 _ _ (by simp) ?_
          refine goR F4 ?_
          obtain rfl := sj hs
          exact hQ _ _ (rg F4 (Gh.refl _))
        · refine goR F4 ?_
          exact hL96 (q99, (k77 + 1)) _ _ (Gh.refl _) ⟨e93, hd104, pv F4, pv F4, pv F4, pv F4, pg⟩ (by simp)
  · obtain ⟨e57, n4_g⟩ := hp
    obtain rfl := sj e57
    try dsimp only at hs
    refine goR f0 ?_
    obtain rfl := sj hs
    exact hQ _ _ (rg f0 (Gh.refl _))
end Go.Dc
end
section
set_option linter.all false
namespace Go.Dc
open Go Go.Hw Go.Proofs
set_option maxRecDepth 100000
def ast_head_L1 (a1 : Arr 5 (List ByteArray)) : Nat → Int → Option (Unit ⊕ (Int × Int))
  | 0, _ => none
  | q65 + 1, i50 => cond (!(ltI 4 i50)) (guardO (inB i50 5) (Option.bind (ast_names (a1.f ((i50).toNat))) (fun y72 => cond (!(eqI y72.1 0)) (cond (eqI i50 4) (some (.inr (y72.1, y72.2))) (some (.inr (y72.1, (-1))))) (ast_head_L1 a1 q65 (IntKind.i64.wrap (i50 + 1)))))) (some (.inl ()))

def ast_head_L2 : List Var → Nat → Option (Unit ⊕ (Int × Int))
  | [], k118 => some (.inl ())
  | x135 :: q131, k118 => cond (orB (ltI x135.Init (-2147483648)) (ltI 2147483647 x135.Init)) (some (.inr (2, (-1)))) (ast_head_L2 q131 (k118 + 1))

def ast_head (fuelN : Nat) (a0 : UnitT) (a1 : Arr 5 (List ByteArray)) : Option (Int × Int) :=
  Option.bind (α := Unit ⊕ (Int × Int)) (Option.bind (ast_head_L1 a1 fuelN 1) (fun o => match o with | .inl _ => some (.inl ()) | .inr r76 => some (.inr r76))) (fun o => match o with | .inl _ => cond (orB (orB (orB (ltI 8 ((a0.Vars.length : Nat) : Int)) (ltI 4 ((a0.Mutexes.length : Nat) : Int))) (ltI 4 ((a0.Conds.length : Nat) : Int))) (ltI 8 ((a0.Procs.length : Nat) : Int))) (some (4, (-1))) (Option.bind (α := Unit ⊕ (Int × Int)) (Option.bind (ast_head_L2 a0.Vars 0) (fun o => match o with | .inl _ => some (.inl ()) | .inr r139 => some (.inr r139))) (fun o => match o with | .inl _ => some (0, (-1)) | .inr r140 => some r140)) | .inr r141 => some r141)

set_option maxHeartbeats 2000000 in
theorem at_ast_head {fuelN : Nat} {a0 : UnitT} {a1 : Arr 5 (List ByteArray)} {r : Int × Int} (hs : ast_head fuelN a0 a1 = some r) : At Tryd.prog 69 [.agg (eA a0), .agg [sC (a1.f 0), sC (a1.f 1), sC (a1.f 2), sC (a1.f 3), sC (a1.f 4)]] (.tup [iV .i64 r.1, iV .i64 r.2]) := by
  refine at_bound (by kernel_rfl) fun hb => ?_
  have hb1 : LenOk (.sl a0.Vars.length (encL a0.Vars)) := lkc hb
  have hb2 : LenOk (.sl a0.Mutexes.length (encL a0.Mutexes)) := lkc hb
  have hb3 : LenOk (.sl a0.Conds.length (encL a0.Conds)) := lkc hb
  have hb4 : LenOk (.sl a0.Procs.length (encL a0.Procs)) := lkc hb
  have hb5 : LenOk (.sl a0.Threads.length (encL a0.Threads)) := lkc hb
  have hb6 : LenOk (.sl (a1.f 0).length (encL (a1.f 0))) := lkc hb
  have hb7 : LenOk (.sl (a1.f 1).length (encL (a1.f 1))) := lkc hb
  have hb8 : LenOk (.sl (a1.f 2).length (encL (a1.f 2))) := lkc hb
  have hb9 : LenOk (.sl (a1.f 3).length (encL (a1.f 3))) := lkc hb
  have hb10 : LenOk (.sl (a1.f 4).length (encL (a1.f 4))) := lkc hb
  refine at_code mixed Tryd.func69 (by kernel_rfl) rfl (by kernel_rfl) rfl fun Q hQ => ?_
  rw [ast_head] at hs
  refine goR2 f0 ?_
  revert hs; refine bK fun o38 e37 hs => ?_
  refine awp_cutK (fun (v : Unit) (σ : St) => some (.inl v) = some o38 ∧ σ.env 2 = .cell (.ref (.o 1 0 0) 0) ∧ σ.hp (.o 1 0 0) = some (.cells (eA a0)) ∧ 2 ≤ σ.gen) (by rfl) (fun Q hK39 hX40 => ?_) (fun v σ3 hp => ?_)
  · refine goR f0 ?_
    revert e37; refine bK fun o60 e59 e37 => ?_
    refine awp_loopW (fun (v : Nat × Int) (σ : St) => ast_head_L1 a1 v.1 v.2 = some o60 ∧ σ.env 2 = .cell (.ref (.o 1 0 0) 0) ∧ σ.env 3 = .cell (.ref (.o 1 1 0) 0) ∧ σ.env 6 = iV .i64 v.2 ∧ σ.hp (.o 1 0 0) = some (.cells (eA a0)) ∧ σ.hp (.o 1 1 0) = some (.cells [sC (a1.f 0), sC (a1.f 1), sC (a1.f 2), sC (a1.f 3), sC (a1.f 4)]) ∧ 2 ≤ σ.gen) (fun v => v.1) _ (Gh.refl _) (fuelN, 1) ⟨e59, pv f0, pv f0, pv f0, pv f0, pv f0, pg⟩ fun v σ6 hp L61 hL62 => ?_
    obtain ⟨q64, i50⟩ := v
    dsimp only at hp hL62
    obtain ⟨e59, h5_2, h5_3, h5_6, g5_0, g5_1, n5_g⟩ := hp
    have n5_0 : ¬ (σ6.gen = 0) := by omega
    rcases q64 with _ | q65
    · rw [ast_head_L1] at e59; cases e59
    · rw [ast_head_L1] at e59; try dsimp only at e59
      have F1 := an h5_2 (an h5_3 (an h5_6 (an g5_0 (an g5_1 n5_0))))
      refine goR F1 ?_
      revert e59; refine cS F1 ?_ ?_ <;> intro h69 e59
      · obtain ⟨g70, e59⟩ := guardO_some e59
        have g70a : 0 ≤ i50 := (inB_t g70).1
        have g70b : i50 < 5 := (inB_t g70).2.1
        have g70n : (i50).toNat < 5 :=  by simpa using (inB_t g70).2.2
        have f71 : ([sC (a1.f 0), sC (a1.f 1), sC (a1.f 2), sC (a1.f 3), sC (a1.f 4)] : List AC)[(i50).toNat]? = some (sC (a1.f ((i50).toNat))) := arr_read (n := 5) (fun j => (sC (a1.f j) : AC)) g70n
        have f71t := take_one f71
        have f71g := get_of f71
        have F2 := an F1 (an g70a (an g70b (an g70n (an f71 (an f71t f71g)))))
        refine goR F2 ?_
        revert e59; refine bK fun y72 hx73 e59 => ?_
        refine cP F2 (at_ast_names hx73) ?_
        refine goR F2 ?_
        revert e59; refine cS F2 ?_ ?_ <;> intro h74 e59
        · refine goR F2 ?_
          revert e59; refine cS F2 ?_ ?_ <;> intro h75 e59
          · refine goR F2 ?_
            obtain rfl := sj e59
            try dsimp only at e37
            obtain rfl := sj e37
            try dsimp only at hs
            refine hX40 _ _ (by simp) ?_
            refine goR F2 ?_
            obtain rfl := sj hs
            exact hQ _ _ (rg F2 (Gh.refl _))
          · refine goR F2 ?_
            obtain rfl := sj e59
            try dsimp only at e37
            obtain rfl := sj e37
            try dsimp only at hs
            refine hX40 _ _ (by simp) ?_
            refine goR F2 ?_
            obtain rfl := sj hs
            exact hQ _ _ (rg F2 (Gh.refl _))
        · refine goR F2 ?_
          exact hL62 (q65, IntKind.i64.wrap (i50 + 1)) _ _ (Gh.refl _) ⟨e59, pv F2, pv F2, pv F2, pv F2, pv F2, pg⟩ (by omega)
      · refine goR F1 ?_
        obtain rfl := sj e59
        try dsimp only at e37
        exact hK39 () _ _ (Gh.refl _) ⟨e37, pv F1, pv F1, pg⟩
  · obtain ⟨e37, h4_2, g4_0, n4_g⟩ := hp
    obtain rfl := sj e37
    try dsimp only at hs
    have n4_0 : ¬ (σ3.gen = 0) := by omega
    have F3 := an h4_2 (an g4_0 n4_0)
    refine goG F3 F3 ?_
    revert hs; refine cS F3 ?_ ?_ <;> intro h77 hs
    · refine goG F3 F3 ?_
      obtain rfl := sj hs
      exact hQ _ _ (rg F3 (Gh.refl _))
    · refine goG2 F3 F3 ?_
      revert hs; refine bK fun o108 e107 hs => ?_
      refine awp_cutK (fun (v : Unit) (σ : St) => some (.inl v) = some o108 ∧ (σ3.gen + 2) ≤ σ.gen) (by rfl) (fun Q hK109 hX110 => ?_) (fun v σ9 hp => ?_)
      · refine goG F3 F3 ?_
        revert e107; refine bK fun o126 e125 e107 => ?_
        refine awp_loopW (fun (v : (List Var) × Nat) (σ : St) => ast_head_L2 v.1 v.2 = some o126 ∧ v.1 = a0.Vars.drop v.2 ∧ σ.env 52 = .cell (sC a0.Vars) ∧ σ.env 53 = iV .i64 ((a0.Vars.length : Nat) : Int) ∧ σ.env 54 = iV .i64 ((v.2 : Nat) : Int) ∧ (σ3.gen + 2) ≤ σ.gen) (fun v => v.1.length) _ (Gh.refl _) (a0.Vars, 0) ⟨e125, by simp, pv F3, pv F3, pv F3, pg⟩ fun v σ12 hp L127 hL128 => ?_
        obtain ⟨q130, k118⟩ := v
        dsimp only at hp hL128
        obtain ⟨e125, hd129, h11_52, h11_53, h11_54, n11_g⟩ := hp
        rcases q130 with _ | ⟨x135, q131⟩
        · have hlt132 := drop_end hd129
          rw [ast_head_L2] at e125; try dsimp only at e125
          have F4 := an h11_52 (an h11_53 h11_54)
          refine goR F4 ?_
          refine condK_f (by simp [ltI]; omega) ?_
          obtain rfl := sj e125
          try dsimp only at e107
          exact hK109 () _ _ (Gh.refl _) ⟨e107, pg⟩
        · obtain ⟨hx134, hlt132, hd136⟩ := drop_next hd129
          have ew133 := wrap_succ hlt132 (hb1).len
          rw [ast_head_L2] at e125; try dsimp only at e125
          have F5 := an h11_52 (an h11_53 (an h11_54 (an hlt132 ew133)))
          refine goR F5 ?_
          refine condK_t (by simp [ltI]; omega) ?_
          have f137 : partCV Tryd.prog 69 (encL a0.Vars) (k118 * 2) = some (.agg (eA x135)) := partCV_enc hx134 (f := 0) (by simp)
          have F6 := an F5 f137
          refine goG F6 F6 ?_
          revert e125; refine cS F6 ?_ ?_ <;> intro h138 e125
          · refine goG F6 F6 ?_
            obtain rfl := sj e125
            try dsimp only at e107
            obtain rfl := sj e107
            try dsimp only at hs
            refine hX110 _ _ (by simp) ?_
            refine goG F6 F6 ?_
            obtain rfl := sj hs
            exact hQ _ _ (rg F6 (Gh.refl _))
          · refine goG F6 F6 ?_
            exact hL128 (q131, (k118 + 1)) _ _ (Gh.refl _) ⟨e125, hd136, pv F6, pv F6, pv F6, pg⟩ (by simp)
      · obtain ⟨e107, n10_g⟩ := hp
        obtain rfl := sj e107
        try dsimp only at hs
        refine goG f0 f0 ?_
        obtain rfl := sj hs
        exact hQ _ _ (rg f0 (Gh.refl _))
end Go.Dc
end
section
set_option linter.all false
namespace Go.Dc
open Go Go.Hw Go.Proofs
set_option maxRecDepth 100000
def ast_proc_L1 (fuelN : Nat) (a1 : Arr 5 (List ByteArray)) (y6 : (List ByteArray)) : List (Int × Stmt) → Int → Option (Int ⊕ (Int × Int))
  | [], i30 => some (.inl i30)
  | y20 :: q43, i30 => Option.bind (ast_checker_stmt fuelN ({ objects := a1, locals := y6 } : AstChecker) y20.1 y20.2) (fun y44 => cond (!(eqI y44 0)) (some (.inr (y44, i30))) (ast_proc_L1 fuelN a1 y6 q43 (IntKind.i64.wrap (i30 + 1))))

def ast_proc (fuelN : Nat) (a0 : Proc) (a1 : Arr 5 (List ByteArray)) : Option (Int × Int) :=
  guardO (orB (!(!(eqS a0.Param (⟨#[]⟩ : ByteArray)))) ((ast_validName a0.Param).isSome)) (cond (andB (!(eqS a0.Param (⟨#[]⟩ : ByteArray))) (!((ast_validName a0.Param).getD default))) (some (6, (-1))) (Option.bind (ast_Count a0.Body) (fun y3 => cond (ltI 128 y3) (some (4, (-1))) (Option.bind (ast_Locals a0) (fun y6 => Option.bind (α := Int) (cond (!(eqS a0.Param (⟨#[]⟩ : ByteArray))) (some (IntKind.i64.wrap (((y6.length : Nat) : Int) - 1))) (some (((y6.length : Nat) : Int)))) (fun i9 => cond (ltI 4 i9) (some (4, (-1))) (Option.bind (ast_stmts a0.Body 1) (fun y16 => Option.bind (it_stmts y16.1 y16.2) (fun xs18 => Option.bind (ast_proc_L1 fuelN a1 y6 xs18 0) (fun o => match o with | .inl i35 => some (0, (-1)) | .inr r47 => some r47))))))))))

set_option maxHeartbeats 2000000 in
theorem at_ast_proc {fuelN : Nat} {a0 : Proc} {a1 : Arr 5 (List ByteArray)} {r : Int × Int} (hs : ast_proc fuelN a0 a1 = some r) : At Tryd.prog 70 [.agg (eA a0), .agg [sC (a1.f 0), sC (a1.f 1), sC (a1.f 2), sC (a1.f 3), sC (a1.f 4)]] (.tup [iV .i64 r.1, iV .i64 r.2]) := by
  refine at_bound (by kernel_rfl) fun hb => ?_
  have hb1 : LenOk (.sl a0.Body.length (encL a0.Body)) := lkc hb
  have hb2 : LenOk (.sl (a1.f 0).length (encL (a1.f 0))) := lkc hb
  have hb3 : LenOk (.sl (a1.f 1).length (encL (a1.f 1))) := lkc hb
  have hb4 : LenOk (.sl (a1.f 2).length (encL (a1.f 2))) := lkc hb
  have hb5 : LenOk (.sl (a1.f 3).length (encL (a1.f 3))) := lkc hb
  have hb6 : LenOk (.sl (a1.f 4).length (encL (a1.f 4))) := lkc hb
  refine at_code mixed Tryd.func70 (by kernel_rfl) rfl (by kernel_rfl) rfl fun Q hQ => ?_
  rw [ast_proc] at hs
  refine goG f0 f0 ?_
  obtain ⟨g1, hs⟩ := guardO_some hs
  refine gsel_call (fun hg => at_ast_validName (under_call g1 hg)) (fun hg => by (try simp at hg); (first | simp [hg, id]); try rfl) (fun hg => by (try simp at hg); simp [hg, id]) (by simp) ?_
  refine goG f0 f0 ?_
  revert hs; refine cS f0 ?_ ?_ <;> intro h2 hs
  · refine goG f0 f0 ?_
    obtain rfl := sj hs
    exact hQ _ _ (rg f0 (Gh.refl _))
  · refine goG f0 f0 ?_
    revert hs; refine bK fun y3 hx4 hs => ?_
    refine cP f0 (at_ast_Count hx4) ?_
    refine goG f0 f0 ?_
    revert hs; refine cS f0 ?_ ?_ <;> intro h5 hs
    · refine goG f0 f0 ?_
      obtain rfl := sj hs
      exact hQ _ _ (rg f0 (Gh.refl _))
    · refine goG f0 f0 ?_
      revert hs; refine bK fun y6 hx7 hs => ?_
      refine cP f0 (at_ast_Locals hx7) ?_
      refine goG2 f0 f0 ?_
      revert hs; refine bK fun o11 e10 hs => ?_
      refine awp_cutK (fun (v : Int) (σ : St) => some (v) = some o11 ∧ σ.env 2 = .cell (.ref (.o 1 0 0) 0) ∧ σ.env 3 = .cell (.ref (.o 1 1 0) 0) ∧ σ.env 4 = .cell (.ref (.o 1 2 0) 0) ∧ σ.env 5 = .cell (.ref (.o 1 3 0) 0) ∧ σ.env 6 = .cell (sC y6) ∧ σ.env 7 = iV .i64 v ∧ σ.hp (.o 1 0 0) = some (.cells (eA a0)) ∧ σ.hp (.o 1 1 0) = some (.cells [sC (a1.f 0), sC (a1.f 1), sC (a1.f 2), sC (a1.f 3), sC (a1.f 4)]) ∧ σ.hp (.o 1 2 0) = some (.cells [nC 0]) ∧ σ.hp (.o 1 3 0) = some (.cells [nC 0]) ∧ 6 ≤ σ.gen) (by rfl) (fun Q hK12 hX13 => ?_) (fun i9 σ1 hp => ?_)
      · refine goG f0 f0 ?_
        revert e10; refine cS f0 ?_ ?_ <;> intro h14 e10
        · refine goG f0 f0 ?_
          exact hK12 (IntKind.i64.wrap (((y6.length : Nat) : Int) - 1)) _ _ (Gh.refl _) ⟨e10, pv f0, pv f0, pv f0, pv f0, pv f0, pv f0, pv f0, pv f0, pv f0, pv f0, pg⟩
        · refine goG f0 f0 ?_
          exact hK12 ((y6.length : Nat) : Int) _ _ (Gh.refl _) ⟨e10, pv f0, pv f0, pv f0, pv f0, pv f0, pv f0, pv f0, pv f0, pv f0, pv f0, pg⟩
      · obtain ⟨e10, h2_2, h2_3, h2_4, h2_5, h2_6, h2_7, g2_0, g2_1, g2_2, g2_3, n2_g⟩ := hp
        obtain rfl := sj e10
        try dsimp only at hs
        have n2_0 : ¬ (σ1.gen = 0) := by omega
        have F1 := an h2_2 (an h2_3 (an h2_4 (an h2_5 (an h2_6 (an h2_7 (an g2_0 (an g2_1 (an g2_2 (an g2_3 n2_0)))))))))
        refine goG F1 F1 ?_
        revert hs; refine cS F1 ?_ ?_ <;> intro h15 hs
        · refine goG F1 F1 ?_
          obtain rfl := sj hs
          exact hQ _ _ (rg F1 (Gh.refl _))
        · refine goG F1 F1 ?_
          revert hs; refine bK fun y16 hx17 hs => ?_
          refine cP F1 (at_ast_stmts hx17) ?_
          refine goG F1 F1 ?_
          revert hs; refine bK fun xs18 hx19 hs => ?_
          revert hs; refine bK fun o37 e36 hs => ?_
          refine awp_range (gf := 124) (cs := [.bx [.sl y16.1.length (encL y16.1)], .bx [.c (.int .i64 y16.2)]]) (xs18.map (fun (y : Int × Stmt) => ([.cell (.c (.int .i64 y.1)), .agg [.c (.int .i64 y.2.Kind), .c (.string y.2.Name), .c (.string y.2.Obj), .c (.string y.2.Other), .c (.int .i64 y.2.Fn), .c (.int .i64 y.2.Order), .sl y.2.Exprs.length (encL y.2.Exprs), .sl y.2.Body.length (encL y.2.Body), .sl y.2.Else.length (encL y.2.Else)]] : List EV))) (fun (k38 : Nat) (hp39 : Go.Hw.Id → Option Blk) (gen40 : Nat) => ∃ v : Int, ast_proc_L1 fuelN a1 y6 (xs18.drop k38) v = some o37 ∧ hp39 (.o 1 2 0) = some (.cells [nC 0]) ∧ hp39 (.o 1 3 0) = some (.cells [nC 0]) ∧ hp39 (.o (σ1.gen + 2) 4 0) = some (.cells [.ref (.o (σ1.gen + 2) 3 0) 0]) ∧ hp39 (.o (σ1.gen + 3) 0 0) = some (.cells [nC v]) ∧ hp39 (.o (σ1.gen + 2) 3 0) = some (.cells [sC (a1.f 0), sC (a1.f 1), sC (a1.f 2), sC (a1.f 3), sC (a1.f 4), sC y6]) ∧ (σ1.gen + 4) ≤ gen40) _ (Gh.refl _) (pv F1) (seq_stmtsA hx19) (fun x hx => by obtain ⟨y, _, rfl⟩ := List.mem_map.1 hx; rfl) ⟨0, e36, pv F1, pv F1, pv F1, pv F1, pv F1, pg⟩ (fun k38 x hp39 gen40 hx hI => ?_) (fun hp39 gen40 hI => ?_)
          · obtain ⟨i30, e36, g3_0, g3_1, g3_2, g3_3, g3_4, n3_g⟩ := hI
            try dsimp only at e36 g3_0 g3_1 g3_2 g3_3 g3_4 n3_g
            obtain ⟨y20, hy41, rfl⟩ := map_get hx
            rw [drop_at hy41, ast_proc_L1] at e36; try dsimp only at e36
            have n3_0 : ¬ (gen40 = 0) := by omega
            have n3_σ1gen_0 : ¬ (gen40 = σ1.gen) := by omega
            have n3_σ1gen_0' : ¬ (σ1.gen = gen40) := by omega
            have n3_σ1gen_1 : ¬ (gen40 = σ1.gen + 1) := by omega
            have n3_σ1gen_1' : ¬ (σ1.gen + 1 = gen40) := by omega
            have n3_σ1gen_2 : ¬ (gen40 = σ1.gen + 2) := by omega
            have n3_σ1gen_2' : ¬ (σ1.gen + 2 = gen40) := by omega
            have n3_σ1gen_3 : ¬ (gen40 = σ1.gen + 3) := by omega
            have n3_σ1gen_3' : ¬ (σ1.gen + 3 = gen40) := by omega
            have n3_σ1gen_a : ∀ j, ¬ (gen40 + j = σ1.gen) := fun j => by omega
            have n3_σ1gen_a' : ∀ j, ¬ (σ1.gen = gen40 + j) := fun j => by omega
            have F2 := an h2_2 (an h2_3 (an h2_4 (an h2_5 (an h2_6 (an h2_7 (an n2_0 (an g3_0 (an g3_1 (an g3_2 (an g3_3 (an g3_4 (an n3_0 (an n3_σ1gen_0 (an n3_σ1gen_0' (an n3_σ1gen_1 (an n3_σ1gen_1' (an n3_σ1gen_2 (an n3_σ1gen_2' (an n3_σ1gen_3 (an n3_σ1gen_3' (an n3_σ1gen_a n3_σ1gen_a')))))))))))))))))))))
            refine goG F2 F2 ?_
            revert e36; refine bK fun y44 hx45 e36 => ?_
            refine cA F2 (at_ast_checker_stmt hx45) ?_
            refine goG F2 F2 ?_
            revert e36; refine cS F2 ?_ ?_ <;> intro h46 e36
            · refine goE F2 F2 ?_
              obtain rfl := sj e36
              try dsimp only at hs
              refine rPost_ret ?_
              refine goE F2 F2 ?_
              obtain rfl := sj hs
              exact hQ _ _ (rg F2 (Gh.refl _))
            · refine goG F2 F2 ?_
              refine rPost_gh (Gh.refl _) ⟨IntKind.i64.wrap (i30 + 1), e36, pv F2, pv F2, pv F2, pv F2, pv F2, pg⟩
          · obtain ⟨i30, e36, g3_0, g3_1, g3_2, g3_3, g3_4, n3_g⟩ := hI
            try dsimp only at e36 g3_0 g3_1 g3_2 g3_3 g3_4 n3_g
            rw [show xs18.drop (xs18.map (fun (y : Int × Stmt) => ([.cell (.c (.int .i64 y.1)), .agg [.c (.int .i64 y.2.Kind), .c (.string y.2.Name), .c (.string y.2.Obj), .c (.string y.2.Other), .c (.int .i64 y.2.Fn), .c (.int .i64 y.2.Order), .sl y.2.Exprs.length (encL y.2.Exprs), .sl y.2.Body.length (encL y.2.Body), .sl y.2.Else.length (encL y.2.Else)]] : List EV))).length = [] by simp, ast_proc_L1] at e36; try dsimp only at e36
            have n3_0 : ¬ (gen40 = 0) := by omega
            have n3_σ1gen_0 : ¬ (gen40 = σ1.gen) := by omega
            have n3_σ1gen_0' : ¬ (σ1.gen = gen40) := by omega
            have n3_σ1gen_1 : ¬ (gen40 = σ1.gen + 1) := by omega
            have n3_σ1gen_1' : ¬ (σ1.gen + 1 = gen40) := by omega
            have n3_σ1gen_2 : ¬ (gen40 = σ1.gen + 2) := by omega
            have n3_σ1gen_2' : ¬ (σ1.gen + 2 = gen40) := by omega
            have n3_σ1gen_3 : ¬ (gen40 = σ1.gen + 3) := by omega
            have n3_σ1gen_3' : ¬ (σ1.gen + 3 = gen40) := by omega
            have n3_σ1gen_a : ∀ j, ¬ (gen40 + j = σ1.gen) := fun j => by omega
            have n3_σ1gen_a' : ∀ j, ¬ (σ1.gen = gen40 + j) := fun j => by omega
            obtain rfl := sj e36
            try dsimp only at hs
            have F3 := an h2_2 (an h2_3 (an h2_4 (an h2_5 (an h2_6 (an h2_7 (an n2_0 (an g3_0 (an g3_1 (an g3_2 (an g3_3 (an g3_4 (an n3_0 (an n3_σ1gen_0 (an n3_σ1gen_0' (an n3_σ1gen_1 (an n3_σ1gen_1' (an n3_σ1gen_2 (an n3_σ1gen_2' (an n3_σ1gen_3 (an n3_σ1gen_3' (an n3_σ1gen_a n3_σ1gen_a')))))))))))))))))))))
            refine goG F3 F3 ?_
            obtain rfl := sj hs
            exact hQ _ _ (rg F3 (Gh.refl _))
end Go.Dc
end
section
set_option linter.all false
namespace Go.Dc
open Go Go.Hw Go.Proofs
set_option maxRecDepth 100000
def ast_Check_L1 (fuelN : Nat) (y1 : (Arr 5 (List ByteArray))) : List Proc → Nat → Option (Unit ⊕ (Int × Int × Int))
  | [], k54 => some (.inl ())
  | x73 :: q69, k54 => Option.bind (ast_proc fuelN x73 y1) (fun y76 => cond (!(eqI y76.1 0)) (some (.inr (y76.1, ((k54 : Nat) : Int), y76.2))) (ast_Check_L1 fuelN y1 q69 (k54 + 1)))

def ast_Check_L2 (y1 : (Arr 5 (List ByteArray))) : List Launch → Nat → Option (Unit ⊕ (Int × Int × Int))
  | [], k133 => some (.inl ())
  | x153 :: q149, k133 => Option.bind (slices_Contains_string (y1.f 4) x153.Proc) (fun y156 => cond (!y156) (some (.inr (11, (-1), (-1)))) (cond (orB (ltI x153.Arg (-2147483648)) (ltI 2147483647 x153.Arg)) (some (.inr (2, (-1), (-1)))) (ast_Check_L2 y1 q149 (k133 + 1))))

def ast_Check (fuelN : Nat) (a0 : UnitT) : Option (Int × Int × Int) :=
  Option.bind (ast_objects a0) (fun y1 => Option.bind (ast_head fuelN a0 y1) (fun y3 => cond (!(eqI y3.1 0)) (some (y3.1, y3.2, (-1))) (Option.bind (α := Unit ⊕ (Int × Int × Int)) (Option.bind (ast_Check_L1 fuelN y1 a0.Procs 0) (fun o => match o with | .inl _ => some (.inl ()) | .inr r79 => some (.inr r79))) (fun o => match o with | .inl _ => cond (orB (ltI ((a0.Threads.length : Nat) : Int) 1) (ltI 8 ((a0.Threads.length : Nat) : Int))) (some (4, (-1), (-1))) (Option.bind (α := Unit ⊕ (Int × Int × Int)) (Option.bind (ast_Check_L2 y1 a0.Threads 0) (fun o => match o with | .inl _ => some (.inl ()) | .inr r160 => some (.inr r160))) (fun o => match o with | .inl _ => some (0, (-1), (-1)) | .inr r161 => some r161)) | .inr r162 => some r162))))

set_option maxHeartbeats 2000000 in
theorem at_ast_Check {fuelN : Nat} {a0 : UnitT} {r : Int × Int × Int} (hs : ast_Check fuelN a0 = some r) : At Tryd.prog 28 [.agg (eA a0)] (.tup [iV .i64 r.1, iV .i64 r.2.1, iV .i64 r.2.2]) := by
  refine at_bound (by kernel_rfl) fun hb => ?_
  have hb1 : LenOk (.sl a0.Vars.length (encL a0.Vars)) := lkc hb
  have hb2 : LenOk (.sl a0.Mutexes.length (encL a0.Mutexes)) := lkc hb
  have hb3 : LenOk (.sl a0.Conds.length (encL a0.Conds)) := lkc hb
  have hb4 : LenOk (.sl a0.Procs.length (encL a0.Procs)) := lkc hb
  have hb5 : LenOk (.sl a0.Threads.length (encL a0.Threads)) := lkc hb
  refine at_code mixed Tryd.func28 (by kernel_rfl) rfl (by kernel_rfl) rfl fun Q hQ => ?_
  rw [ast_Check] at hs
  refine goR f0 ?_
  revert hs; refine bK fun y1 hx2 hs => ?_
  refine cP f0 (at_ast_objects hx2) ?_
  refine goR f0 ?_
  revert hs; refine bK fun y3 hx4 hs => ?_
  refine cP f0 (at_ast_head hx4) ?_
  refine goR f0 ?_
  revert hs; refine cS f0 ?_ ?_ <;> intro h5 hs
  · refine goR f0 ?_
    obtain rfl := sj hs
    exact hQ _ _ (rg f0 (Gh.refl _))
  · refine goR2 f0 ?_
    revert hs; refine bK fun o42 e41 hs => ?_
    refine awp_cutK (fun (v : Unit) (σ : St) => some (.inl v) = some o42 ∧ σ.env 1 = .cell (.ref (.o 1 0 0) 0) ∧ σ.env 5 = .cell (.ref (.o 2 2 0) 0) ∧ σ.hp (.o 1 0 0) = some (.cells (eA a0)) ∧ σ.hp (.o 2 2 0) = some (.cells [sC (y1.f 0), sC (y1.f 1), sC (y1.f 2), sC (y1.f 3), sC (y1.f 4)]) ∧ 5 ≤ σ.gen) (by rfl) (fun Q hK43 hX44 => ?_) (fun v σ3 hp => ?_)
    · refine goR f0 ?_
      revert e41; refine bK fun o64 e63 e41 => ?_
      refine awp_loopW (fun (v : (List Proc) × Nat) (σ : St) => ast_Check_L1 fuelN y1 v.1 v.2 = some o64 ∧ v.1 = a0.Procs.drop v.2 ∧ σ.env 1 = .cell (.ref (.o 1 0 0) 0) ∧ σ.env 5 = .cell (.ref (.o 2 2 0) 0) ∧ σ.env 27 = .cell (sC a0.Procs) ∧ σ.env 28 = iV .i64 ((a0.Procs.length : Nat) : Int) ∧ σ.env 29 = iV .i64 ((v.2 : Nat) : Int) ∧ σ.hp (.o 1 0 0) = some (.cells (eA a0)) ∧ σ.hp (.o 2 2 0) = some (.cells [sC (y1.f 0), sC (y1.f 1), sC (y1.f 2), sC (y1.f 3), sC (y1.f 4)]) ∧ 5 ≤ σ.gen) (fun v => v.1.length) _ (Gh.refl _) (a0.Procs, 0) ⟨e63, by simp, pv f0, pv f0, pv f0, pv f0, pv f0, pv f0, pv f0, pg⟩ fun v σ6 hp L65 hL66 => ?_
      obtain ⟨q68, k54⟩ := v
      dsimp only at hp hL66
      obtain ⟨e63, hd67, h5_1, h5_5, h5_27, h5_28, h5_29, g5_0, g5_1, n5_g⟩ := hp
      have n5_0 : ¬ (σ6.gen = 0) := by omega
      have n5_1 : ¬ (σ6.gen = 1) := by omega
      rcases q68 with _ | ⟨x73, q69⟩
      · have hlt70 := drop_end hd67
        rw [ast_Check_L1] at e63; try dsimp only at e63
        have F1 := an h5_1 (an h5_5 (an h5_27 (an h5_28 (an h5_29 (an g5_0 (an g5_1 (an n5_0 n5_1)))))))
        refine goR F1 ?_
        refine condK_f (by simp [ltI]; omega) ?_
        obtain rfl := sj e63
        try dsimp only at e41
        exact hK43 () _ _ (Gh.refl _) ⟨e41, pv F1, pv F1, pv F1, pv F1, pg⟩
      · obtain ⟨hx72, hlt70, hd74⟩ := drop_next hd67
        have ew71 := wrap_succ hlt70 (hb4).len
        rw [ast_Check_L1] at e63; try dsimp only at e63
        have F2 := an h5_1 (an h5_5 (an h5_27 (an h5_28 (an h5_29 (an g5_0 (an g5_1 (an n5_0 (an n5_1 (an hlt70 ew71)))))))))
        refine goR F2 ?_
        refine condK_t (by simp [ltI]; omega) ?_
        have f75 : partCV Tryd.prog 57 (encL a0.Procs) (k54 * 3) = some (.agg (eA x73)) := partCV_enc hx72 (f := 0) (by simp)
        have F3 := an F2 f75
        refine goR F3 ?_
        revert e63; refine bK fun y76 hx77 e63 => ?_
        refine cP F3 (at_ast_proc hx77) ?_
        refine goR F3 ?_
        revert e63; refine cS F3 ?_ ?_ <;> intro h78 e63
        · refine goR F3 ?_
          obtain rfl := sj e63
          try dsimp only at e41
          obtain rfl := sj e41
          try dsimp only at hs
          refine hX44 _ _ (by simp) ?_
          refine goR F3 ?_
          obtain rfl := sj hs
          exact hQ _ _ (rg F3 (Gh.refl _))
        · refine goR F3 ?_
          exact hL66 (q69, (k54 + 1)) _ _ (Gh.refl _) ⟨e63, hd74, pv F3, pv F3, pv F3, pv F3, pv F3, pv F3, pv F3, pg⟩ (by simp)
    · obtain ⟨e41, h4_1, h4_5, g4_0, g4_1, n4_g⟩ := hp
      obtain rfl := sj e41
      try dsimp only at hs
      have n4_0 : ¬ (σ3.gen = 0) := by omega
      have n4_1 : ¬ (σ3.gen = 1) := by omega
      have F4 := an h4_1 (an h4_5 (an g4_0 (an g4_1 (an n4_0 n4_1))))
      refine goG F4 F4 ?_
      revert hs; refine cS F4 ?_ ?_ <;> intro h80 hs
      · refine goG F4 F4 ?_
        obtain rfl := sj hs
        exact hQ _ _ (rg F4 (Gh.refl _))
      · refine goG2 F4 F4 ?_
        revert hs; refine bK fun o120 e119 hs => ?_
        refine awp_cutK (fun (v : Unit) (σ : St) => some (.inl v) = some o120 ∧ (σ3.gen + 2) ≤ σ.gen) (by rfl) (fun Q hK121 hX122 => ?_) (fun v σ9 hp => ?_)
        · refine goG F4 F4 ?_
          revert e119; refine bK fun o144 e143 e119 => ?_
          refine awp_loopW (fun (v : (List Launch) × Nat) (σ : St) => ast_Check_L2 y1 v.1 v.2 = some o144 ∧ v.1 = a0.Threads.drop v.2 ∧ σ.env 5 = .cell (.ref (.o 2 2 0) 0) ∧ σ.env 57 = .cell (sC a0.Threads) ∧ σ.env 58 = iV .i64 ((a0.Threads.length : Nat) : Int) ∧ σ.env 59 = iV .i64 ((v.2 : Nat) : Int) ∧ σ.hp (.o 2 2 0) = some (.cells [sC (y1.f 0), sC (y1.f 1), sC (y1.f 2), sC (y1.f 3), sC (y1.f 4)]) ∧ (σ3.gen + 2) ≤ σ.gen) (fun v => v.1.length) _ (Gh.refl _) (a0.Threads, 0) ⟨e143, by simp, pv F4, pv F4, pv F4, pv F4, pv F4, pg⟩ fun v σ12 hp L145 hL146 => ?_
          obtain ⟨q148, k133⟩ := v
          dsimp only at hp hL146
          obtain ⟨e143, hd147, h11_5, h11_57, h11_58, h11_59, g11_0, n11_g⟩ := hp
          have n11_0 : ¬ (σ12.gen = 0) := by omega
          have n11_1 : ¬ (σ12.gen = 1) := by omega
          rcases q148 with _ | ⟨x153, q149⟩
          · have hlt150 := drop_end hd147
            rw [ast_Check_L2] at e143; try dsimp only at e143
            have F5 := an h11_5 (an h11_57 (an h11_58 (an h11_59 (an g11_0 (an n11_0 n11_1)))))
            refine goR F5 ?_
            refine condK_f (by simp [ltI]; omega) ?_
            obtain rfl := sj e143
            try dsimp only at e119
            exact hK121 () _ _ (Gh.refl _) ⟨e119, pg⟩
          · obtain ⟨hx152, hlt150, hd154⟩ := drop_next hd147
            have ew151 := wrap_succ hlt150 (hb5).len
            rw [ast_Check_L2] at e143; try dsimp only at e143
            have F6 := an h11_5 (an h11_57 (an h11_58 (an h11_59 (an g11_0 (an n11_0 (an n11_1 (an hlt150 ew151)))))))
            refine goR F6 ?_
            refine condK_t (by simp [ltI]; omega) ?_
            have f155 : partCV Tryd.prog 108 (encL a0.Threads) (k133 * 2) = some (.agg (eA x153)) := partCV_enc hx152 (f := 0) (by simp)
            have F7 := an F6 f155
            refine goR F7 ?_
            revert e143; refine bK fun y156 hx157 e143 => ?_
            refine cP F7 (at_slices_Contains_string hx157) ?_
            refine goR F7 ?_
            revert e143; refine cS F7 ?_ ?_ <;> intro h158 e143
            · refine goR F7 ?_
              obtain rfl := sj e143
              try dsimp only at e119
              obtain rfl := sj e119
              try dsimp only at hs
              refine hX122 _ _ (by simp) ?_
              refine goR F7 ?_
              obtain rfl := sj hs
              exact hQ _ _ (rg F7 (Gh.refl _))
            · refine goG F7 F7 ?_
              revert e143; refine cS F7 ?_ ?_ <;> intro h159 e143
              · refine goG F7 F7 ?_
                obtain rfl := sj e143
                try dsimp only at e119
                obtain rfl := sj e119
                try dsimp only at hs
                refine hX122 _ _ (by simp) ?_
                refine goG F7 F7 ?_
                obtain rfl := sj hs
                exact hQ _ _ (rg F7 (Gh.refl _))
              · refine goG F7 F7 ?_
                exact hL146 (q149, (k133 + 1)) _ _ (Gh.refl _) ⟨e143, hd154, pv F7, pv F7, pv F7, pv F7, pv F7, pg⟩ (by simp)
        · obtain ⟨e119, n10_g⟩ := hp
          obtain rfl := sj e119
          try dsimp only at hs
          refine goG f0 f0 ?_
          obtain rfl := sj hs
          exact hQ _ _ (rg f0 (Gh.refl _))
end Go.Dc
end
section
set_option linter.all false
namespace Go.Dc
open Go Go.Hw Go.Proofs
set_option maxRecDepth 100000
def r16_list_L1 (a0 : List ByteArray) : List ByteArray → Nat → Option (Unit ⊕ (Int × Int))
  | [], k101 => some (.inl ())
  | x133 :: q129, k101 => Option.bind (r16_Name x133) (fun y136 => cond (!y136) (some (.inr (6, ((k101 : Nat) : Int)))) (guardO (slB 0 ((k101 : Nat) : Int) a0.length) (Option.bind (some (subL a0 0 ((k101 : Nat) : Int))) (fun l146 => Option.bind (r16_in l146 x133) (fun y149 => cond y149 (some (.inr (7, ((k101 : Nat) : Int)))) (r16_list_L1 a0 q129 (k101 + 1)))))))

def r16_list (a0 : List ByteArray) : Option (Int × Int) :=
  Option.bind (α := Unit ⊕ (Int × Int)) (Option.bind (r16_list_L1 a0 a0 0) (fun o => match o with | .inl _ => some (.inl ()) | .inr r152 => some (.inr r152))) (fun o => match o with | .inl _ => some (0, (-1)) | .inr r153 => some r153)

set_option maxHeartbeats 2000000 in
theorem at_r16_list {a0 : List ByteArray} {r : Int × Int} (hs : r16_list a0 = some r) : At Tryd.prog 72 [.cell (sC a0)] (.tup [iV .i64 r.1, iV .i64 r.2]) := by
  refine at_bound (by kernel_rfl) fun hb => ?_
  have hb1 : LenOk (.sl a0.length (encL a0)) := lkc hb
  refine at_code mixed Tryd.func72 (by kernel_rfl) rfl (by kernel_rfl) rfl fun Q hQ => ?_
  rw [r16_list] at hs
  refine goR2 f0 ?_
  revert hs; refine bK fun o76 e75 hs => ?_
  refine awp_cutK (fun (v : Unit) (σ : St) => some (.inl v) = some o76 ∧ 2 ≤ σ.gen) (by rfl) (fun Q hK77 hX78 => ?_) (fun v σ3 hp => ?_)
  · refine goR f0 ?_
    revert e75; refine bK fun o124 e123 e75 => ?_
    refine awp_loopW (fun (v : (List ByteArray) × Nat) (σ : St) => r16_list_L1 a0 v.1 v.2 = some o124 ∧ v.1 = a0.drop v.2 ∧ σ.env 0 = .cell (sC a0) ∧ σ.env 4 = iV .i64 ((v.2 : Nat) : Int) ∧ 2 ≤ σ.gen) (fun v => v.1.length) _ (Gh.refl _) (a0, 0) ⟨e123, by simp, pv f0, pv f0, pg⟩ fun v σ6 hp L125 hL126 => ?_
    obtain ⟨q128, k101⟩ := v
    dsimp only at hp hL126
    obtain ⟨e123, hd127, h5_0, h5_4, n5_g⟩ := hp
    rcases q128 with _ | ⟨x133, q129⟩
    · have hlt130 := drop_end hd127
      rw [r16_list_L1] at e123; try dsimp only at e123
      have F1 := an h5_0 h5_4
      refine goR F1 ?_
      refine condK_f (by simp [ltI]; omega) ?_
      obtain rfl := sj e123
      try dsimp only at e75
      exact hK77 () _ _ (Gh.refl _) ⟨e75, pg⟩
    · obtain ⟨hx132, hlt130, hd134⟩ := drop_next hd127
      have ew131 := wrap_succ hlt130 (hb1).len
      rw [r16_list_L1] at e123; try dsimp only at e123
      have F2 := an h5_0 (an h5_4 (an hlt130 ew131))
      refine goR F2 ?_
      refine condK_t (by simp [ltI]; omega) ?_
      have f135 : partCV Tryd.prog 9 (encL a0) (k101) = some (sV x133) := partCV_enc1 hx132 (by simp)
      have F3 := an F2 f135
      refine goR F3 ?_
      revert e123; refine bK fun y136 hx137 e123 => ?_
      refine cP F3 (at_r16_Name hx137) ?_
      refine goR F3 ?_
      revert e123; refine cS F3 ?_ ?_ <;> intro h138 e123
      · refine goR F3 ?_
        obtain rfl := sj e123
        try dsimp only at e75
        obtain rfl := sj e75
        try dsimp only at hs
        refine hX78 _ _ (by simp) ?_
        refine goR F3 ?_
        obtain rfl := sj hs
        exact hQ _ _ (rg F3 (Gh.refl _))
      · obtain ⟨g145, e123⟩ := guardO_some e123
        obtain ⟨g145a, g145b, g145c⟩ := slB_t g145
        revert e123; refine lK fun l146 hx147 e123 => ?_
        have f148n : l146.length = (((k101 : Nat) : Int) - 0).toNat := by rw [hx147]; exact subL_len ⟨g145a, g145b, g145c⟩
        have f148e : ((encL a0).drop ((0 : Int).toNat * 1)).take ((((k101 : Nat) : Int) - 0).toNat * 1) = encL l146 := by rw [hx147]; exact subL_enc (α := ByteArray)
        try simp at f148n
        try simp at f148e
        have f148o : LenOk (.sl l146.length (encL l146)) := by rw [hx147]; exact subL_ok hb1
        have F4 := an F3 (an g145a (an g145b (an g145c (an f148n f148e))))
        refine goD F4 ?_
        revert e123; refine bK fun y149 hx150 e123 => ?_
        refine cP F4 (at_r16_in hx150) ?_
        refine goD F4 ?_
        revert e123; refine cS F4 ?_ ?_ <;> intro h151 e123
        · refine goD F4 ?_
          obtain rfl := sj e123
          try dsimp only at e75
          obtain rfl := sj e75
          try dsimp only at hs
          refine hX78 _ _ (by simp) ?_
          refine goD F4 ?_
          obtain rfl := sj hs
          exact hQ _ _ (rg F4 (Gh.refl _))
        · refine goD F4 ?_
          exact hL126 (q129, (k101 + 1)) _ _ (Gh.refl _) ⟨e123, hd134, pv F4, pv F4, pg⟩ (by simp)
  · obtain ⟨e75, n4_g⟩ := hp
    obtain rfl := sj e75
    try dsimp only at hs
    refine goR f0 ?_
    obtain rfl := sj hs
    exact hQ _ _ (rg f0 (Gh.refl _))
end Go.Dc
end
section
set_option linter.all false
namespace Go.Dc
open Go Go.Hw Go.Proofs
set_option maxRecDepth 100000
def r16_C_block_L1 (fuelN : Nat) (a2 : Int) (rF123z : R16C → (List Stmt) → Int → Option (Int × R16C)) : List Stmt → Nat → (List ByteArray) → (List Var) → (List ByteArray) → (List ByteArray) → (List Proc) → (List Launch) → (List ByteArray) → (List ByteArray) → Int → Option (((List ByteArray) × (List Var) × (List ByteArray) × (List ByteArray) × (List Proc) × (List Launch) × (List ByteArray) × (List ByteArray) × Int) ⊕ (Int × R16C))
  | [], k142, l143, l144, l145, l146, l147, l148, l149, l150, i151 => some (.inl (l143, l144, l145, l146, l147, l148, l149, l150, i151))
  | x187 :: q183, k142, l143, l144, l145, l146, l147, l148, l149, l150, i151 => Option.bind (r16_C_statement fuelN ({ Vars := l143, U := ({ Vars := l144, Mutexes := l145, Conds := l146, Procs := l147, Threads := l148 } : UnitT), Procs := l149, Locals := l150, At := i151 } : R16C) x187 a2) (fun y190 => cond (!(eqI y190 0)) (some (.inr (y190, ({ Vars := l143, U := ({ Vars := l144, Mutexes := l145, Conds := l146, Procs := l147, Threads := l148 } : UnitT), Procs := l149, Locals := l150, At := i151 } : R16C)))) (Option.bind (rF123z ({ Vars := l143, U := ({ Vars := l144, Mutexes := l145, Conds := l146, Procs := l147, Threads := l148 } : UnitT), Procs := l149, Locals := l150, At := IntKind.i64.wrap (i151 + 1) } : R16C) x187.Body (IntKind.i64.wrap (a2 + 1))) (fun y194 => cond (!(eqI y194.1 0)) (some (.inr (y194.1, y194.2))) (Option.bind (rF123z y194.2 x187.Else (IntKind.i64.wrap (a2 + 1))) (fun y198 => cond (!(eqI y198.1 0)) (some (.inr (y198.1, y198.2))) (r16_C_block_L1 fuelN a2 rF123z q183 (k142 + 1) y198.2.Vars y198.2.U.Vars y198.2.U.Mutexes y198.2.U.Conds y198.2.U.Procs y198.2.U.Threads y198.2.Procs y198.2.Locals y198.2.At))))))

def r16_C_block_B (rF123z : R16C → (List Stmt) → Int → Option (Int × R16C)) (fuelN : Nat) (a0 : R16C) (a1 : List Stmt) (a2 : Int) : Option (Int × R16C) :=
  Option.bind (α := ((List ByteArray) × (List Var) × (List ByteArray) × (List ByteArray) × (List Proc) × (List Launch) × (List ByteArray) × (List ByteArray) × Int) ⊕ (Int × R16C)) (Option.bind (r16_C_block_L1 fuelN a2 rF123z a1 0 a0.Vars a0.U.Vars a0.U.Mutexes a0.U.Conds a0.U.Procs a0.U.Threads a0.Procs a0.Locals a0.At) (fun o => match o with | .inl (l168, l169, l170, l171, l172, l173, l174, l175, i176) => some (.inl (l168, l169, l170, l171, l172, l173, l174, l175, i176)) | .inr r201 => some (.inr r201))) (fun o => match o with | .inl (l95, l96, l97, l98, l99, l100, l101, l102, i103) => some (0, ({ Vars := l95, U := ({ Vars := l96, Mutexes := l97, Conds := l98, Procs := l99, Threads := l100 } : UnitT), Procs := l101, Locals := l102, At := i103 } : R16C)) | .inr r202 => some r202)

def r16_C_block : Nat → R16C → (List Stmt) → Int → Option (Int × R16C)
  | 0 => fun _ _ _ => none
  | fuelN + 1 => fun a0 a1 a2 => r16_C_block_B (r16_C_block fuelN) fuelN a0 a1 a2

set_option maxHeartbeats 2000000 in
theorem at_r16_C_block_B {rF123z : R16C → (List Stmt) → Int → Option (Int × R16C)} (ihrF123z : ∀ (a0 : R16C) (a1 : List Stmt) (a2 : Int) (r : Int × R16C), rF123z a0 a1 a2 = some r → CAt Tryd.prog 123 [.cell (.ref (.a 0) 0), .cell (sC a1), iV .i64 a2] [.cells (eA a0)] (.ret (iV .i64 r.1)) [(.a 0, .cells (eA r.2))]) {fuelN : Nat} {a0 : R16C} {a1 : List Stmt} {a2 : Int} {r : Int × R16C} (hs : r16_C_block_B rF123z fuelN a0 a1 a2 = some r) : CAt Tryd.prog 123 [.cell (.ref (.a 0) 0), .cell (sC a1), iV .i64 a2] [.cells (eA a0)] (.ret (iV .i64 r.1)) [(.a 0, .cells (eA r.2))] := by
  refine at_bound (by kernel_rfl) fun hb => ?_
  have hb1 : LenOk (.sl a1.length (encL a1)) := lkc hb
  refine at_code mixed Tryd.func123 (by kernel_rfl) rfl (by kernel_rfl) rfl fun Q hQ => ?_
  rw [r16_C_block_B] at hs
  refine goR2 f0 ?_
  revert hs; refine bK fun o105 e104 hs => ?_
  refine awp_cutK (fun (v : (List ByteArray) × (List Var) × (List ByteArray) × (List ByteArray) × (List Proc) × (List Launch) × (List ByteArray) × (List ByteArray) × Int) (σ : St) => some (.inl v) = some o105 ∧ σ.hp (.a 0) = some (.cells [sC v.1, sC v.2.1, sC v.2.2.1, sC v.2.2.2.1, sC v.2.2.2.2.1, sC v.2.2.2.2.2.1, sC v.2.2.2.2.2.2.1, sC v.2.2.2.2.2.2.2.1, nC v.2.2.2.2.2.2.2.2]) ∧ 2 ≤ σ.gen) (by rfl) (fun Q hK106 hX107 => ?_) (fun v σ3 hp => ?_)
  · refine goR f0 ?_
    revert e104; refine bK fun o178 e177 e104 => ?_
    refine awp_loopW (fun (v : (List Stmt) × Nat × (List ByteArray) × (List Var) × (List ByteArray) × (List ByteArray) × (List Proc) × (List Launch) × (List ByteArray) × (List ByteArray) × Int) (σ : St) => r16_C_block_L1 fuelN a2 rF123z v.1 v.2.1 v.2.2.1 v.2.2.2.1 v.2.2.2.2.1 v.2.2.2.2.2.1 v.2.2.2.2.2.2.1 v.2.2.2.2.2.2.2.1 v.2.2.2.2.2.2.2.2.1 v.2.2.2.2.2.2.2.2.2.1 v.2.2.2.2.2.2.2.2.2.2 = some o178 ∧ v.1 = a1.drop v.2.1 ∧ σ.env 0 = .cell (.ref (.a 0) 0) ∧ σ.env 1 = .cell (sC a1) ∧ σ.env 2 = iV .i64 a2 ∧ σ.env 7 = iV .i64 ((v.2.1 : Nat) : Int) ∧ σ.hp (.a 0) = some (.cells [sC v.2.2.1, sC v.2.2.2.1, sC v.2.2.2.2.1, sC v.2.2.2.2.2.1, sC v.2.2.2.2.2.2.1, sC v.2.2.2.2.2.2.2.1, sC v.2.2.2.2.2.2.2.2.1, sC v.2.2.2.2.2.2.2.2.2.1, nC v.2.2.2.2.2.2.2.2.2.2]) ∧ 2 ≤ σ.gen) (fun v => v.1.length) _ (Gh.refl _) (a1, 0, a0.Vars, a0.U.Vars, a0.U.Mutexes, a0.U.Conds, a0.U.Procs, a0.U.Threads, a0.Procs, a0.Locals, a0.At) ⟨e177, by simp, pv f0, pv f0, pv f0, pv f0, pv f0, pg⟩ fun v σ6 hp L179 hL180 => ?_
    obtain ⟨q182, k142, l143, l144, l145, l146, l147, l148, l149, l150, i151⟩ := v
    dsimp only at hp hL180
    obtain ⟨e177, hd181, h5_0, h5_1, h5_2, h5_7, g5_0, n5_g⟩ := hp
    rcases q182 with _ | ⟨x187, q183⟩
    · have hlt184 := drop_end hd181
      rw [r16_C_block_L1] at e177; try dsimp only at e177
      have F1 := an h5_0 (an h5_1 (an h5_2 (an h5_7 g5_0)))
      refine goR F1 ?_
      refine condK_f (by simp [ltI]; omega) ?_
      obtain rfl := sj e177
      try dsimp only at e104
      exact hK106 (l143, l144, l145, l146, l147, l148, l149, l150, i151) _ _ (Gh.refl _) ⟨e104, pv F1, pg⟩
    · obtain ⟨hx186, hlt184, hd188⟩ := drop_next hd181
      have ew185 := wrap_succ hlt184 (hb1).len
      rw [r16_C_block_L1] at e177; try dsimp only at e177
      have F2 := an h5_0 (an h5_1 (an h5_2 (an h5_7 (an g5_0 (an hlt184 ew185)))))
      refine goR F2 ?_
      refine condK_t (by simp [ltI]; omega) ?_
      have f189 : partCV Tryd.prog 67 (encL a1) (k142 * 9) = some (.agg (eA x187)) := partCV_enc hx186 (f := 0) (by simp)
      have F3 := an F2 f189
      refine goR F3 ?_
      revert e177; refine bK fun y190 hx191 e177 => ?_
      refine cA F3 (at_r16_C_statement hx191) ?_
      refine goR F3 ?_
      revert e177; refine cS F3 ?_ ?_ <;> intro h192 e177
      · refine goR F3 ?_
        obtain rfl := sj e177
        try dsimp only at e104
        obtain rfl := sj e104
        try dsimp only at hs
        refine hX107 _ _ (by simp) ?_
        refine goR F3 ?_
        obtain rfl := sj hs
        refine hQ _ _ (ret2g _ (Gh.refl _) (by simp [St.frz, St.pur, F3]; rfl) (by first | rfl | (simp [St.frz, St.pur, F3]; done) | (rw [if_pos (by first | omega | (simp; omega))]; simp [St.frz, St.pur, F3]; first | omega | exact List.take_of_length_le (by simp; omega) | skip)) (pv F3))
      · have f193 : partCV Tryd.prog 55 (encL a1) (k142 * 9 + 7) = some (.cell (sC x187.Body)) := partCV_enc hx186 (f := 7) (by simp)
        have F4 := an F3 f193
        refine goR F4 ?_
        revert e177; refine bK fun y194 hx195 e177 => ?_
        refine cB F4 (ihrF123z _ _ _ _ hx195) [.a 0] ?_
        refine goR F4 ?_
        revert e177; refine cS F4 ?_ ?_ <;> intro h196 e177
        · refine goR F4 ?_
          obtain rfl := sj e177
          try dsimp only at e104
          obtain rfl := sj e104
          try dsimp only at hs
          refine hX107 _ _ (by simp) ?_
          refine goR F4 ?_
          obtain rfl := sj hs
          refine hQ _ _ (ret2g _ (Gh.refl _) (by simp [St.frz, St.pur, F4]; rfl) (by first | rfl | (simp [St.frz, St.pur, F4]; done) | (rw [if_pos (by first | omega | (simp; omega))]; simp [St.frz, St.pur, F4]; first | omega | exact List.take_of_length_le (by simp; omega) | skip)) (pv F4))
        · have f197 : partCV Tryd.prog 55 (encL a1) (k142 * 9 + 8) = some (.cell (sC x187.Else)) := partCV_enc hx186 (f := 8) (by simp)
          have F5 := an F4 f197
          refine goR F5 ?_
          revert e177; refine bK fun y198 hx199 e177 => ?_
          refine cB F5 (ihrF123z _ _ _ _ hx199) [.a 0] ?_
          refine goR F5 ?_
          revert e177; refine cS F5 ?_ ?_ <;> intro h200 e177
          · refine goR F5 ?_
            obtain rfl := sj e177
            try dsimp only at e104
            obtain rfl := sj e104
            try dsimp only at hs
            refine hX107 _ _ (by simp) ?_
            refine goR F5 ?_
            obtain rfl := sj hs
            refine hQ _ _ (ret2g _ (Gh.refl _) (by simp [St.frz, St.pur, F5]; rfl) (by first | rfl | (simp [St.frz, St.pur, F5]; done) | (rw [if_pos (by first | omega | (simp; omega))]; simp [St.frz, St.pur, F5]; first | omega | exact List.take_of_length_le (by simp; omega) | skip)) (pv F5))
          · refine goR F5 ?_
            exact hL180 (q183, (k142 + 1), y198.2.Vars, y198.2.U.Vars, y198.2.U.Mutexes, y198.2.U.Conds, y198.2.U.Procs, y198.2.U.Threads, y198.2.Procs, y198.2.Locals, y198.2.At) _ _ (Gh.refl _) ⟨e177, hd188, pv F5, pv F5, pv F5, pv F5, pv F5, pg⟩ (by simp)
  · obtain ⟨l95, l96, l97, l98, l99, l100, l101, l102, i103⟩ := v
    dsimp only at hp
    obtain ⟨e104, g4_0, n4_g⟩ := hp
    obtain rfl := sj e104
    try dsimp only at hs
    refine goR g4_0 ?_
    obtain rfl := sj hs
    refine hQ _ _ (ret2g _ (Gh.refl _) (by simp [St.frz, St.pur, g4_0]; rfl) (by first | rfl | (simp [St.frz, St.pur, g4_0]; done) | (rw [if_pos (by first | omega | (simp; omega))]; simp [St.frz, St.pur, g4_0]; first | omega | exact List.take_of_length_le (by simp; omega) | skip)) (pv g4_0))
theorem at_r16_C_block : ∀ {fuelN : Nat} {a0 : R16C} {a1 : List Stmt} {a2 : Int} {r : Int × R16C} (hs : r16_C_block fuelN a0 a1 a2 = some r), CAt Tryd.prog 123 [.cell (.ref (.a 0) 0), .cell (sC a1), iV .i64 a2] [.cells (eA a0)] (.ret (iV .i64 r.1)) [(.a 0, .cells (eA r.2))]
  | 0, _, _, _, _, hs => by rw [r16_C_block] at hs; cases hs
  | n + 1, _, _, _, _, hs => by
    rw [r16_C_block] at hs
    exact at_r16_C_block_B (fun _ _ _ _ h => at_r16_C_block h) hs
end Go.Dc
end
section
set_option linter.all false
namespace Go.Dc
open Go Go.Hw Go.Proofs
set_option maxRecDepth 100000

def r16_C_proc (fuelN : Nat) (a0 : R16C) (a1 : Proc) : Option (Int × Int × R16C) :=
  guardO (orB (!(!(eqS a1.Param (⟨#[]⟩ : ByteArray)))) ((r16_Name a1.Param).isSome)) (cond (andB (!(eqS a1.Param (⟨#[]⟩ : ByteArray))) (!((r16_Name a1.Param).getD default))) (some (6, (-1), a0)) (Option.bind (r16_Count fuelN a1.Body) (fun y3 => cond (ltI 128 y3) (some (4, (-1), a0)) (Option.bind (r16_Locals fuelN a1) (fun y6 => Option.bind (α := Int) (cond (!(eqS a1.Param (⟨#[]⟩ : ByteArray))) (some (IntKind.i64.wrap (4 + 1))) (some (4))) (fun i9 => cond (ltI i9 ((y6.length : Nat) : Int)) (some (4, (-1), { a0 with Locals := y6, At := 0 })) (Option.bind (r16_C_block fuelN ({ a0 with Locals := y6, At := 0 }) a1.Body 1) (fun y16 => cond (!(eqI y16.1 0)) (some (y16.1, y16.2.At, y16.2)) (some (0, (-1), y16.2))))))))))

set_option maxHeartbeats 2000000 in
theorem at_r16_C_proc {fuelN : Nat} {a0 : R16C} {a1 : Proc} {r : Int × Int × R16C} (hs : r16_C_proc fuelN a0 a1 = some r) : CAt Tryd.prog 74 [.cell (.ref (.a 0) 0), .agg (eA a1)] [.cells (eA a0)] (.ret (.tup [iV .i64 r.1, iV .i64 r.2.1])) [(.a 0, .cells (eA r.2.2))] := by
  refine at_bound (by kernel_rfl) fun hb => ?_
  have hb1 : LenOk (.sl a1.Body.length (encL a1.Body)) := lkc hb
  refine at_code mixed Tryd.func74 (by kernel_rfl) rfl (by kernel_rfl) rfl fun Q hQ => ?_
  rw [r16_C_proc] at hs
  refine goG f0 f0 ?_
  obtain ⟨g1, hs⟩ := guardO_some hs
  refine gsel_call (fun hg => at_r16_Name (under_call g1 hg)) (fun hg => by (try simp at hg); (first | simp [hg, id]); try rfl) (fun hg => by (try simp at hg); simp [hg, id]) (by simp) ?_
  refine goG f0 f0 ?_
  revert hs; refine cS f0 ?_ ?_ <;> intro h2 hs
  · refine goG f0 f0 ?_
    obtain rfl := sj hs
    refine hQ _ _ (ret2g _ (Gh.refl _) (by simp [St.frz, St.pur]; rfl) (by first | rfl | (simp [St.frz, St.pur]; done) | (rw [if_pos (by first | omega | (simp; omega))]; simp [St.frz, St.pur]; first | omega | exact List.take_of_length_le (by simp; omega) | skip)) (pv f0))
  · refine goG f0 f0 ?_
    revert hs; refine bK fun y3 hx4 hs => ?_
    refine cP f0 (at_r16_Count hx4) ?_
    refine goG f0 f0 ?_
    revert hs; refine cS f0 ?_ ?_ <;> intro h5 hs
    · refine goG f0 f0 ?_
      obtain rfl := sj hs
      refine hQ _ _ (ret2g _ (Gh.refl _) (by simp [St.frz, St.pur]; rfl) (by first | rfl | (simp [St.frz, St.pur]; done) | (rw [if_pos (by first | omega | (simp; omega))]; simp [St.frz, St.pur]; first | omega | exact List.take_of_length_le (by simp; omega) | skip)) (pv f0))
    · refine goG f0 f0 ?_
      revert hs; refine bK fun y6 hx7 hs => ?_
      refine cP f0 (at_r16_Locals hx7) ?_
      refine goG2 f0 f0 ?_
      revert hs; refine bK fun o11 e10 hs => ?_
      refine awp_cutK (fun (v : Int) (σ : St) => some (v) = some o11 ∧ σ.env 0 = .cell (.ref (.a 0) 0) ∧ σ.env 3 = .cell (.ref (.o 1 0 0) 0) ∧ σ.env 6 = iV .i64 v ∧ σ.hp (.a 0) = some (.cells [sC a0.Vars, sC a0.U.Vars, sC a0.U.Mutexes, sC a0.U.Conds, sC a0.U.Procs, sC a0.U.Threads, sC a0.Procs, sC y6, nC 0]) ∧ σ.hp (.o 1 0 0) = some (.cells (eA a1)) ∧ 7 ≤ σ.gen) (by rfl) (fun Q hK12 hX13 => ?_) (fun i9 σ1 hp => ?_)
      · refine goG f0 f0 ?_
        revert e10; refine cS f0 ?_ ?_ <;> intro h14 e10
        · refine goG f0 f0 ?_
          exact hK12 (IntKind.i64.wrap (4 + 1)) _ _ (Gh.refl _) ⟨e10, pv f0, pv f0, pv f0, pv f0, pv f0, pg⟩
        · refine goG f0 f0 ?_
          exact hK12 4 _ _ (Gh.refl _) ⟨e10, pv f0, pv f0, pv f0, pv f0, pv f0, pg⟩
      · obtain ⟨e10, h2_0, h2_3, h2_6, g2_0, g2_1, n2_g⟩ := hp
        obtain rfl := sj e10
        try dsimp only at hs
        have n2_0 : ¬ (σ1.gen = 0) := by omega
        have F1 := an h2_0 (an h2_3 (an h2_6 (an g2_0 (an g2_1 n2_0))))
        refine goG F1 F1 ?_
        revert hs; refine cS F1 ?_ ?_ <;> intro h15 hs
        · refine goG F1 F1 ?_
          obtain rfl := sj hs
          refine hQ _ _ (ret2g _ (Gh.refl _) (by simp [St.frz, St.pur, F1]; rfl) (by first | rfl | (simp [St.frz, St.pur, F1]; done) | (rw [if_pos (by first | omega | (simp; omega))]; simp [St.frz, St.pur, F1]; first | omega | exact List.take_of_length_le (by simp; omega) | skip)) (pv F1))
        · refine goG F1 F1 ?_
          revert hs; refine bK fun y16 hx17 hs => ?_
          refine cB F1 (at_r16_C_block hx17) [.a 0] ?_
          refine goG F1 F1 ?_
          revert hs; refine cS F1 ?_ ?_ <;> intro h18 hs
          · refine goE F1 F1 ?_
            obtain rfl := sj hs
            refine hQ _ _ (ret2g _ (Gh.refl _) (by simp [St.frz, St.pur, F1]; rfl) (by first | rfl | (simp [St.frz, St.pur, F1]; done) | (rw [if_pos (by first | omega | (simp; omega))]; simp [St.frz, St.pur, F1]; first | omega | exact List.take_of_length_le (by simp; omega) | skip)) (pv F1))
          · refine goG F1 F1 ?_
            obtain rfl := sj hs
            refine hQ _ _ (ret2g _ (Gh.refl _) (by simp [St.frz, St.pur, F1]; rfl) (by first | rfl | (simp [St.frz, St.pur, F1]; done) | (rw [if_pos (by first | omega | (simp; omega))]; simp [St.frz, St.pur, F1]; first | omega | exact List.take_of_length_le (by simp; omega) | skip)) (pv F1))
end Go.Dc
end
section
set_option linter.all false
namespace Go.Dc
open Go Go.Hw Go.Proofs
set_option maxRecDepth 100000
def r16_Check_L1 : List Var → Nat → (List ByteArray) → Option (List ByteArray)
  | [], k127, l128 => some (l128)
  | x158 :: q154, k127, l128 => Option.bind (some ([x158.Name])) (fun l167 => guardO (limB 16 (l128.length + l167.length)) (Option.bind (some (l128 ++ l167)) (fun l170 => r16_Check_L1 q154 (k127 + 1) l170)))

def r16_Check_L2 : List Proc → Nat → (List ByteArray) → Option (List ByteArray)
  | [], k298, l299 => some (l299)
  | x329 :: q325, k298, l299 => Option.bind (some ([x329.Name])) (fun l338 => guardO (limB 16 (l299.length + l338.length)) (Option.bind (some (l299 ++ l338)) (fun l341 => r16_Check_L2 q325 (k298 + 1) l341)))

def r16_Check_L3 : List (List ByteArray) → Nat → Option (Unit ⊕ (Int × Int × Int))
  | [], k400 => some (.inl ())
  | x420 :: q416, k400 => Option.bind (r16_list x420) (fun y424 => cond (andB (!(eqI y424.1 0)) (eqI ((k400 : Nat) : Int) 3)) (some (.inr (y424.1, y424.2, (-1)))) (cond (!(eqI y424.1 0)) (some (.inr (y424.1, (-1), (-1)))) (r16_Check_L3 q416 (k400 + 1))))

def r16_Check_L4 : List Var → Nat → Option (Unit ⊕ (Int × Int × Int))
  | [], k478 => some (.inl ())
  | x497 :: q493, k478 => Option.bind (r16_value x497.Init) (fun y500 => cond (!y500) (some (.inr (2, (-1), (-1)))) (r16_Check_L4 q493 (k478 + 1)))

def r16_Check_L5 (fuelN : Nat) : List Proc → Nat → (List ByteArray) → (List Var) → (List ByteArray) → (List ByteArray) → (List Proc) → (List Launch) → (List ByteArray) → (List ByteArray) → Int → Option (((List ByteArray) × (List Var) × (List ByteArray) × (List ByteArray) × (List Proc) × (List Launch) × (List ByteArray) × (List ByteArray) × Int) ⊕ (Int × Int × Int))
  | [], k639, l640, l641, l642, l643, l644, l645, l646, l647, i648 => some (.inl (l640, l641, l642, l643, l644, l645, l646, l647, i648))
  | x676 :: q672, k639, l640, l641, l642, l643, l644, l645, l646, l647, i648 => Option.bind (r16_C_proc fuelN ({ Vars := l640, U := ({ Vars := l641, Mutexes := l642, Conds := l643, Procs := l644, Threads := l645 } : UnitT), Procs := l646, Locals := l647, At := i648 } : R16C) x676) (fun y679 => cond (!(eqI y679.1 0)) (some (.inr (y679.1, ((k639 : Nat) : Int), y679.2.1))) (r16_Check_L5 fuelN q672 (k639 + 1) y679.2.2.Vars y679.2.2.U.Vars y679.2.2.U.Mutexes y679.2.2.U.Conds y679.2.2.U.Procs y679.2.2.U.Threads y679.2.2.Procs y679.2.2.Locals y679.2.2.At))

def r16_Check_L6 (l593 : List ByteArray) : List Launch → Nat → Option (Unit ⊕ (Int × Int × Int))
  | [], k766 => some (.inl ())
  | x794 :: q790, k766 => Option.bind (r16_in l593 x794.Proc) (fun y800 => cond (!y800) (some (.inr (11, (-1), (-1)))) (Option.bind (r16_value x794.Arg) (fun y804 => cond (!y804) (some (.inr (2, (-1), (-1)))) (r16_Check_L6 l593 q790 (k766 + 1)))))

def r16_Check (fuelN : Nat) (a0 : UnitT) : Option (Int × Int × Int) :=
  Option.bind (α := (List ByteArray)) (Option.bind (r16_Check_L1 a0.Vars 0 []) (fun l147 => some (l147))) (fun l84 => Option.bind (α := (List ByteArray)) (Option.bind (r16_Check_L2 a0.Procs 0 []) (fun l318 => some (l318))) (fun l255 => Option.bind (some ([l84, a0.Mutexes, a0.Conds, l255])) (fun l345 => Option.bind (α := Unit ⊕ (Int × Int × Int)) (guardO (lenB l345.length) (Option.bind (r16_Check_L3 l345 0) (fun o => match o with | .inl _ => some (.inl ()) | .inr r428 => some (.inr r428)))) (fun o => match o with | .inl _ => cond (orB (orB (orB (ltI 8 ((a0.Vars.length : Nat) : Int)) (ltI 4 ((a0.Mutexes.length : Nat) : Int))) (ltI 4 ((a0.Conds.length : Nat) : Int))) (ltI 8 ((a0.Procs.length : Nat) : Int))) (some (4, (-1), (-1))) (Option.bind (α := Unit ⊕ (Int × Int × Int)) (Option.bind (r16_Check_L4 a0.Vars 0) (fun o => match o with | .inl _ => some (.inl ()) | .inr r503 => some (.inr r503))) (fun o => match o with | .inl _ => Option.bind (α := ((List ByteArray) × (List Var) × (List ByteArray) × (List ByteArray) × (List Proc) × (List Launch) × (List ByteArray) × (List ByteArray) × Int) ⊕ (Int × Int × Int)) (Option.bind (r16_Check_L5 fuelN a0.Procs 0 l84 a0.Vars a0.Mutexes a0.Conds a0.Procs a0.Threads l255 [] 0) (fun o => match o with | .inl (l657, l658, l659, l660, l661, l662, l663, l664, i665) => some (.inl (l657, l658, l659, l660, l661, l662, l663, l664, i665)) | .inr r682 => some (.inr r682))) (fun o => match o with | .inl (l587, l588, l589, l590, l591, l592, l593, l594, i595) => cond (orB (ltI ((a0.Threads.length : Nat) : Int) 1) (ltI 8 ((a0.Threads.length : Nat) : Int))) (some (4, (-1), (-1))) (Option.bind (α := Unit ⊕ (Int × Int × Int)) (Option.bind (r16_Check_L6 l593 a0.Threads 0) (fun o => match o with | .inl _ => some (.inl ()) | .inr r807 => some (.inr r807))) (fun o => match o with | .inl _ => some (0, (-1), (-1)) | .inr r808 => some r808)) | .inr r809 => some r809) | .inr r810 => some r810)) | .inr r811 => some r811))))

set_option maxHeartbeats 2000000 in
theorem at_r16_Check {fuelN : Nat} {a0 : UnitT} {r : Int × Int × Int} (hs : r16_Check fuelN a0 = some r) : At Tryd.prog 29 [.agg (eA a0)] (.tup [iV .i64 r.1, iV .i64 r.2.1, iV .i64 r.2.2]) := by
  refine at_bound (by kernel_rfl) fun hb => ?_
  have hb1 : LenOk (.sl a0.Vars.length (encL a0.Vars)) := lkc hb
  have hb2 : LenOk (.sl a0.Mutexes.length (encL a0.Mutexes)) := lkc hb
  have hb3 : LenOk (.sl a0.Conds.length (encL a0.Conds)) := lkc hb
  have hb4 : LenOk (.sl a0.Procs.length (encL a0.Procs)) := lkc hb
  have hb5 : LenOk (.sl a0.Threads.length (encL a0.Threads)) := lkc hb
  refine at_code mixed Tryd.func29 (by kernel_rfl) rfl (by kernel_rfl) rfl fun Q hQ => ?_
  rw [r16_Check] at hs
  refine goR2 f0 ?_
  revert hs; refine bK fun o86 e85 hs => ?_
  refine awp_cutK (fun (v : (List ByteArray)) (σ : St) => some (v) = some o86 ∧ σ.env 1 = .cell (.ref (.o 1 0 0) 0) ∧ σ.env 5 = .cell (.ref (.o 2 2 0) 0) ∧ σ.hp (.o 1 0 0) = some (.cells (eA a0)) ∧ σ.hp (.l 1) = some (.pure (encL v)) ∧ σ.hp (.o 2 2 0) = some (.cells [.sl (.l 1) 0 1 v.length, sC a0.Vars, sC a0.Mutexes, sC a0.Conds, sC a0.Procs, sC a0.Threads, .z, .z, nC 0]) ∧ 3 ≤ σ.gen) (by rfl) (fun Q hK87 hX88 => ?_) (fun l84 σ3 hp => ?_)
  · refine goR f0 ?_
    revert e85; refine bK fun o149 e148 e85 => ?_
    refine awp_loopW (fun (v : (List Var) × Nat × (List ByteArray)) (σ : St) => r16_Check_L1 v.1 v.2.1 v.2.2 = some o149 ∧ v.1 = a0.Vars.drop v.2.1 ∧ σ.env 1 = .cell (.ref (.o 1 0 0) 0) ∧ σ.env 5 = .cell (.ref (.o 2 2 0) 0) ∧ σ.env 6 = iV .i64 ((v.2.1 : Nat) : Int) ∧ σ.hp (.o 1 0 0) = some (.cells (eA a0)) ∧ σ.hp (.l 4) = some (.pure (encL v.2.2)) ∧ σ.hp (.o 2 2 0) = some (.cells [.sl (.l 4) 0 1 v.2.2.length, sC a0.Vars, sC a0.Mutexes, sC a0.Conds, sC a0.Procs, sC a0.Threads, .z, .z, nC 0]) ∧ 3 ≤ σ.gen) (fun v => v.1.length) _ (Gh.voidB _ (.l 4) (.o 2 2 0) 0 1 rfl (by simp; rfl) (by first | rfl | simp) (by simp)) (a0.Vars, 0, []) ⟨e148, by simp, pv f0, pv f0, pv f0, pv f0, pv f0, pv f0, pg⟩ fun v σ6 hp L150 hL151 => ?_
    obtain ⟨q153, k127, l128⟩ := v
    dsimp only at hp hL151
    obtain ⟨e148, hd152, h5_1, h5_5, h5_6, g5_0, g5_1, g5_2, n5_g⟩ := hp
    have n5_0 : ¬ (σ6.gen = 0) := by omega
    have n5_1 : ¬ (σ6.gen = 1) := by omega
    rcases q153 with _ | ⟨x158, q154⟩
    · have hlt155 := drop_end hd152
      rw [r16_Check_L1] at e148; try dsimp only at e148
      have F1 := an h5_1 (an h5_5 (an h5_6 (an g5_0 (an g5_1 (an g5_2 (an n5_0 n5_1))))))
      refine goR F1 ?_
      refine condK_f (by simp [ltI]; omega) ?_
      obtain rfl := sj e148
      try dsimp only at e85
      exact hK87 l128 _ _ (Gh.ren _ (.l 4) (.l 1) (by simp) rfl rfl) ⟨e85, pv F1, pv F1, pv F1, pv F1, pv F1, pg⟩
    · obtain ⟨hx157, hlt155, hd159⟩ := drop_next hd152
      have ew156 := wrap_succ hlt155 (hb1).len
      rw [r16_Check_L1] at e148; try dsimp only at e148
      have F2 := an h5_1 (an h5_5 (an h5_6 (an g5_0 (an g5_1 (an g5_2 (an n5_0 (an n5_1 (an hlt155 ew156))))))))
      refine goR F2 ?_
      refine condK_t (by simp [ltI]; omega) ?_
      have f166 : partCV Tryd.prog 9 (encL a0.Vars) (k127 * 2) = some (sV x158.Name) := partCV_enc hx157 (f := 0) (by simp)
      revert e148; refine lK fun l167 hx168 e148 => ?_
      have hx168n : l167.length = 1 := by rw [hx168]; rfl
      obtain ⟨g169, e148⟩ := guardO_some e148
      have g169 := limB_t g169
      obtain ⟨g169a, g169b⟩ := g169
      revert e148; refine lK fun l170 hx171 e148 => ?_
      have hx171n : l170.length = (l128.length + l167.length) := by rw [hx171]; simp
      have hx171e : encL l170 = encL l128 ++ encL l167 := by rw [hx171]; simp
      have F3 := an F2 (an f166 (an hx168 (an hx171n hx171e)))
      refine goD F3 ?_
      exact hL151 (q154, (k127 + 1), l170) _ _ (Gh.ren _ (.o (σ6.gen + 2) 12 0) (.l 4) (by simp) rfl rfl) ⟨e148, hd159, pv F3, pv F3, pv F3, pv F3, pv F3, pv F3, pg⟩ (by simp)
  · obtain ⟨e85, h4_1, h4_5, g4_0, g4_1, g4_2, n4_g⟩ := hp
    obtain rfl := sj e85
    try dsimp only at hs
    have n4_0 : ¬ (σ3.gen = 0) := by omega
    have n4_1 : ¬ (σ3.gen = 1) := by omega
    have F4 := an h4_1 (an h4_5 (an g4_0 (an g4_1 (an g4_2 (an n4_0 n4_1)))))
    refine goR2 F4 ?_
    revert hs; refine bK fun o257 e256 hs => ?_
    refine awp_cutK (fun (v : (List ByteArray)) (σ : St) => some (v) = some o257 ∧ σ.env 1 = .cell (.ref (.o 1 0 0) 0) ∧ σ.env 5 = .cell (.ref (.o 2 2 0) 0) ∧ σ.hp (.o 1 0 0) = some (.cells (eA a0)) ∧ σ.hp (.l 9) = some (.pure (encL v)) ∧ σ.hp (.o 2 2 0) = some (.cells [.sl (.l 1) 0 1 l84.length, sC a0.Vars, sC a0.Mutexes, sC a0.Conds, sC a0.Procs, sC a0.Threads, .sl (.l 9) 0 1 v.length, .z, nC 0]) ∧ σ.hp (.l 1) = some (.pure (encL l84)) ∧ (σ3.gen + 1) ≤ σ.gen) (by rfl) (fun Q hK258 hX259 => ?_) (fun l255 σ9 hp => ?_)
    · refine goR F4 ?_
      revert e256; refine bK fun o320 e319 e256 => ?_
      refine awp_loopW (fun (v : (List Proc) × Nat × (List ByteArray)) (σ : St) => r16_Check_L2 v.1 v.2.1 v.2.2 = some o320 ∧ v.1 = a0.Procs.drop v.2.1 ∧ σ.env 1 = .cell (.ref (.o 1 0 0) 0) ∧ σ.env 5 = .cell (.ref (.o 2 2 0) 0) ∧ σ.env 7 = iV .i64 ((v.2.1 : Nat) : Int) ∧ σ.hp (.o 1 0 0) = some (.cells (eA a0)) ∧ σ.hp (.l 17) = some (.pure (encL v.2.2)) ∧ σ.hp (.o 2 2 0) = some (.cells [.sl (.l 1) 0 1 l84.length, sC a0.Vars, sC a0.Mutexes, sC a0.Conds, sC a0.Procs, sC a0.Threads, .sl (.l 17) 0 1 v.2.2.length, .z, nC 0]) ∧ σ.hp (.l 1) = some (.pure (encL l84)) ∧ (σ3.gen + 1) ≤ σ.gen) (fun v => v.1.length) _ (Gh.voidB _ (.l 17) (.o 2 2 0) 6 1 rfl (by simp [F4]; rfl) (by first | rfl | simp) (by simp)) (a0.Procs, 0, []) ⟨e319, by simp, pv F4, pv F4, pv F4, pv F4, pv F4, pv F4, pv F4, pg⟩ fun v σ12 hp L321 hL322 => ?_
      obtain ⟨q324, k298, l299⟩ := v
      dsimp only at hp hL322
      obtain ⟨e319, hd323, h11_1, h11_5, h11_7, g11_0, g11_1, g11_2, g11_3, n11_g⟩ := hp
      have n11_0 : ¬ (σ12.gen = 0) := by omega
      have n11_1 : ¬ (σ12.gen = 1) := by omega
      rcases q324 with _ | ⟨x329, q325⟩
      · have hlt326 := drop_end hd323
        rw [r16_Check_L2] at e319; try dsimp only at e319
        have F5 := an h11_1 (an h11_5 (an h11_7 (an g11_0 (an g11_1 (an g11_2 (an g11_3 (an n11_0 n11_1)))))))
        refine goR F5 ?_
        refine condK_f (by simp [ltI]; omega) ?_
        obtain rfl := sj e319
        try dsimp only at e256
        exact hK258 l299 _ _ (Gh.ren _ (.l 17) (.l 9) (by simp) rfl rfl) ⟨e256, pv F5, pv F5, pv F5, pv F5, pv F5, pv F5, pg⟩
      · obtain ⟨hx328, hlt326, hd330⟩ := drop_next hd323
        have ew327 := wrap_succ hlt326 (hb4).len
        rw [r16_Check_L2] at e319; try dsimp only at e319
        have F6 := an h11_1 (an h11_5 (an h11_7 (an g11_0 (an g11_1 (an g11_2 (an g11_3 (an n11_0 (an n11_1 (an hlt326 ew327)))))))))
        refine goR F6 ?_
        refine condK_t (by simp [ltI]; omega) ?_
        have f337 : partCV Tryd.prog 9 (encL a0.Procs) (k298 * 3) = some (sV x329.Name) := partCV_enc hx328 (f := 0) (by simp)
        revert e319; refine lK fun l338 hx339 e319 => ?_
        have hx339n : l338.length = 1 := by rw [hx339]; rfl
        obtain ⟨g340, e319⟩ := guardO_some e319
        have g340 := limB_t g340
        obtain ⟨g340a, g340b⟩ := g340
        revert e319; refine lK fun l341 hx342 e319 => ?_
        have hx342n : l341.length = (l299.length + l338.length) := by rw [hx342]; simp
        have hx342e : encL l341 = encL l299 ++ encL l338 := by rw [hx342]; simp
        have F7 := an F6 (an f337 (an hx339 (an hx342n hx342e)))
        refine goD F7 ?_
        exact hL322 (q325, (k298 + 1), l341) _ _ (Gh.ren _ (.o (σ12.gen + 2) 12 0) (.l 17) (by simp) rfl rfl) ⟨e319, hd330, pv F7, pv F7, pv F7, pv F7, pv F7, pv F7, pv F7, pg⟩ (by simp)
    · obtain ⟨e256, h10_1, h10_5, g10_0, g10_1, g10_2, g10_3, n10_g⟩ := hp
      obtain rfl := sj e256
      try dsimp only at hs
      have n10_0 : ¬ (σ9.gen = 0) := by omega
      have n10_1 : ¬ (σ9.gen = 1) := by omega
      revert hs; refine lK fun l345 hx346 hs => ?_
      have hx346n : l345.length = 4 := by rw [hx346]; rfl
      have F8 := an h10_1 (an h10_5 (an g10_0 (an g10_1 (an g10_2 (an g10_3 (an n10_0 (an n10_1 hx346)))))))
      refine goN F8 ?_
      refine awp_draw ?_
      refine goN F8 ?_
      refine awp_gh (by rfl) ((Gh.frz _ (.l 1)).trans ((Gh.frz _ (.l 9)).trans (Gh.pur _ (.o (σ9.gen + 1) 12 0)))) ?_
      try simp only [St.frz, St.pur]
      refine goR2 F8 ?_
      revert hs; refine bK fun o387 e386 hs => ?_
      refine awp_cutK (fun (v : Unit) (σ : St) => some (.inl v) = some o387 ∧ σ.env 1 = .cell (.ref (.o 1 0 0) 0) ∧ σ.env 5 = .cell (.ref (.o 2 2 0) 0) ∧ σ.hp (.o 1 0 0) = some (.cells (eA a0)) ∧ σ.hp (.o 2 2 0) = some (.cells [sC l84, sC a0.Vars, sC a0.Mutexes, sC a0.Conds, sC a0.Procs, sC a0.Threads, sC l255, .z, nC 0]) ∧ (σ9.gen + 2) ≤ σ.gen) (by rfl) (fun Q hK388 hX389 => ?_) (fun v σ15 hp => ?_)
      · refine goR F8 ?_
        obtain ⟨hb421, e386⟩ := guardO_some e386
        revert e386; refine bK fun o411 e410 e386 => ?_
        refine awp_loopW (fun (v : (List (List ByteArray)) × Nat) (σ : St) => r16_Check_L3 v.1 v.2 = some o411 ∧ v.1 = l345.drop v.2 ∧ σ.env 1 = .cell (.ref (.o 1 0 0) 0) ∧ σ.env 5 = .cell (.ref (.o 2 2 0) 0) ∧ σ.env 8 = .cell (.sl (.o (σ9.gen + 1) 12 0) 0 1 l345.length) ∧ σ.env 9 = iV .i64 ((v.2 : Nat) : Int) ∧ σ.hp (.o (σ9.gen + 1) 12 0) = some (.pure (encL l345)) ∧ σ.hp (.o 1 0 0) = some (.cells (eA a0)) ∧ σ.hp (.o 2 2 0) = some (.cells [sC l84, sC a0.Vars, sC a0.Mutexes, sC a0.Conds, sC a0.Procs, sC a0.Threads, sC l255, .z, nC 0]) ∧ (σ9.gen + 2) ≤ σ.gen) (fun v => v.1.length) _ (Gh.refl _) (l345, 0) ⟨e410, by simp, pv F8, pv F8, pv F8, pv F8, pv F8, pv F8, pv F8, pg⟩ fun v σ18 hp L412 hL413 => ?_
        obtain ⟨q415, k400⟩ := v
        dsimp only at hp hL413
        obtain ⟨e410, hd414, h17_1, h17_5, h17_8, h17_9, g17_0, g17_1, g17_2, n17_g⟩ := hp
        have n17_0 : ¬ (σ18.gen = 0) := by omega
        have n17_1 : ¬ (σ18.gen = 1) := by omega
        have n17_σ9gen_0 : ¬ (σ18.gen = σ9.gen) := by omega
        have n17_σ9gen_0' : ¬ (σ9.gen = σ18.gen) := by omega
        have n17_σ9gen_1 : ¬ (σ18.gen = σ9.gen + 1) := by omega
        have n17_σ9gen_1' : ¬ (σ9.gen + 1 = σ18.gen) := by omega
        have n17_σ9gen_a : ∀ j, ¬ (σ18.gen + j = σ9.gen) := fun j => by omega
        have n17_σ9gen_a' : ∀ j, ¬ (σ9.gen = σ18.gen + j) := fun j => by omega
        rcases q415 with _ | ⟨x420, q416⟩
        · have hlt417 := drop_end hd414
          rw [r16_Check_L3] at e410; try dsimp only at e410
          have F9 := an h17_1 (an h17_5 (an h17_8 (an h17_9 (an g17_0 (an g17_1 (an g17_2 (an n17_0 (an n17_1 (an n17_σ9gen_0 (an n17_σ9gen_0' (an n17_σ9gen_1 (an n17_σ9gen_1' (an n17_σ9gen_a n17_σ9gen_a')))))))))))))
          refine goR F9 ?_
          refine condK_f (by simp [ltI]; omega) ?_
          obtain rfl := sj e410
          try dsimp only at e386
          exact hK388 () _ _ (Gh.refl _) ⟨e386, pv F9, pv F9, pv F9, pv F9, pg⟩
        · obtain ⟨hx419, hlt417, hd422⟩ := drop_next hd414
          have ew418 := wrap_succG hlt417 hb421
          rw [r16_Check_L3] at e410; try dsimp only at e410
          have F10 := an h17_1 (an h17_5 (an h17_8 (an h17_9 (an g17_0 (an g17_1 (an g17_2 (an n17_0 (an n17_1 (an n17_σ9gen_0 (an n17_σ9gen_0' (an n17_σ9gen_1 (an n17_σ9gen_1' (an n17_σ9gen_a (an n17_σ9gen_a' (an hlt417 ew418)))))))))))))))
          refine goR F10 ?_
          refine condK_t (by simp [ltI]; omega) ?_
          have f423 : partCV Tryd.prog 38 (encL l345) (k400) = some (.cell (sC x420)) := partCV_enc1 hx419 (by simp)
          have F11 := an F10 f423
          refine goR F11 ?_
          revert e410; refine bK fun y424 hx425 e410 => ?_
          refine cP F11 (at_r16_list hx425) ?_
          refine goG F11 F11 ?_
          revert e410; refine cS F11 ?_ ?_ <;> intro h426 e410
          · refine goG F11 F11 ?_
            obtain rfl := sj e410
            try dsimp only at e386
            obtain rfl := sj e386
            try dsimp only at hs
            refine hX389 _ _ (by simp) ?_
            refine goG F11 F11 ?_
            obtain rfl := sj hs
            exact hQ _ _ (rg F11 (Gh.refl _))
          · refine goG F11 F11 ?_
            revert e410; refine cS F11 ?_ ?_ <;> intro h427 e410
            · refine goG F11 F11 ?_
              obtain rfl := sj e410
              try dsimp only at e386
              obtain rfl := sj e386
              try dsimp only at hs
              refine hX389 _ _ (by simp) ?_
              refine goG F11 F11 ?_
              obtain rfl := sj hs
              exact hQ _ _ (rg F11 (Gh.refl _))
            · refine goG F11 F11 ?_
              exact hL413 (q416, (k400 + 1)) _ _ (Gh.refl _) ⟨e410, hd422, pv F11, pv F11, pv F11, pv F11, pv F11, pv F11, pv F11, pg⟩ (by simp)
      · obtain ⟨e386, h16_1, h16_5, g16_0, g16_1, n16_g⟩ := hp
        obtain rfl := sj e386
        try dsimp only at hs
        have n16_0 : ¬ (σ15.gen = 0) := by omega
        have n16_1 : ¬ (σ15.gen = 1) := by omega
        have F12 := an h16_1 (an h16_5 (an g16_0 (an g16_1 (an n16_0 n16_1))))
        refine goG F12 F12 ?_
        revert hs; refine cS F12 ?_ ?_ <;> intro h429 hs
        · refine goG F12 F12 ?_
          obtain rfl := sj hs
          exact hQ _ _ (rg F12 (Gh.refl _))
        · refine goG2 F12 F12 ?_
          revert hs; refine bK fun o466 e465 hs => ?_
          refine awp_cutK (fun (v : Unit) (σ : St) => some (.inl v) = some o466 ∧ σ.env 1 = .cell (.ref (.o 1 0 0) 0) ∧ σ.env 5 = .cell (.ref (.o 2 2 0) 0) ∧ σ.hp (.o 1 0 0) = some (.cells (eA a0)) ∧ σ.hp (.o 2 2 0) = some (.cells [sC l84, sC a0.Vars, sC a0.Mutexes, sC a0.Conds, sC a0.Procs, sC a0.Threads, sC l255, .z, nC 0]) ∧ (σ15.gen + 2) ≤ σ.gen) (by rfl) (fun Q hK467 hX468 => ?_) (fun v σ21 hp => ?_)
          · refine goG F12 F12 ?_
            revert e465; refine bK fun o488 e487 e465 => ?_
            refine awp_loopW (fun (v : (List Var) × Nat) (σ : St) => r16_Check_L4 v.1 v.2 = some o488 ∧ v.1 = a0.Vars.drop v.2 ∧ σ.env 1 = .cell (.ref (.o 1 0 0) 0) ∧ σ.env 5 = .cell (.ref (.o 2 2 0) 0) ∧ σ.env 12 = iV .i64 ((v.2 : Nat) : Int) ∧ σ.hp (.o 1 0 0) = some (.cells (eA a0)) ∧ σ.hp (.o 2 2 0) = some (.cells [sC l84, sC a0.Vars, sC a0.Mutexes, sC a0.Conds, sC a0.Procs, sC a0.Threads, sC l255, .z, nC 0]) ∧ (σ15.gen + 2) ≤ σ.gen) (fun v => v.1.length) _ (Gh.refl _) (a0.Vars, 0) ⟨e487, by simp, pv F12, pv F12, pv F12, pv F12, pv F12, pg⟩ fun v σ24 hp L489 hL490 => ?_
            obtain ⟨q492, k478⟩ := v
            dsimp only at hp hL490
            obtain ⟨e487, hd491, h23_1, h23_5, h23_12, g23_0, g23_1, n23_g⟩ := hp
            have n23_0 : ¬ (σ24.gen = 0) := by omega
            have n23_1 : ¬ (σ24.gen = 1) := by omega
            rcases q492 with _ | ⟨x497, q493⟩
            · have hlt494 := drop_end hd491
              rw [r16_Check_L4] at e487; try dsimp only at e487
              have F13 := an h23_1 (an h23_5 (an h23_12 (an g23_0 (an g23_1 (an n23_0 n23_1)))))
              refine goR F13 ?_
              refine condK_f (by simp [ltI]; omega) ?_
              obtain rfl := sj e487
              try dsimp only at e465
              exact hK467 () _ _ (Gh.refl _) ⟨e465, pv F13, pv F13, pv F13, pv F13, pg⟩
            · obtain ⟨hx496, hlt494, hd498⟩ := drop_next hd491
              have ew495 := wrap_succ hlt494 (hb1).len
              rw [r16_Check_L4] at e487; try dsimp only at e487
              have F14 := an h23_1 (an h23_5 (an h23_12 (an g23_0 (an g23_1 (an n23_0 (an n23_1 (an hlt494 ew495)))))))
              refine goR F14 ?_
              refine condK_t (by simp [ltI]; omega) ?_
              have f499 : partCV Tryd.prog 3 (encL a0.Vars) (k478 * 2 + 1) = some (iV .i64 x497.Init) := partCV_enc hx496 (f := 1) (by simp)
              have F15 := an F14 f499
              refine goR F15 ?_
              revert e487; refine bK fun y500 hx501 e487 => ?_
              refine cP F15 (at_r16_value hx501) ?_
              refine goR F15 ?_
              revert e487; refine cS F15 ?_ ?_ <;> intro h502 e487
              · refine goR F15 ?_
                obtain rfl := sj e487
                try dsimp only at e465
                obtain rfl := sj e465
                try dsimp only at hs
                refine hX468 _ _ (by simp) ?_
                refine goR F15 ?_
                obtain rfl := sj hs
                exact hQ _ _ (rg F15 (Gh.refl _))
              · refine goR F15 ?_
                exact hL490 (q493, (k478 + 1)) _ _ (Gh.refl _) ⟨e487, hd498, pv F15, pv F15, pv F15, pv F15, pv F15, pg⟩ (by simp)
          · obtain ⟨e465, h22_1, h22_5, g22_0, g22_1, n22_g⟩ := hp
            obtain rfl := sj e465
            try dsimp only at hs
            have n22_0 : ¬ (σ21.gen = 0) := by omega
            have n22_1 : ¬ (σ21.gen = 1) := by omega
            have F16 := an h22_1 (an h22_5 (an g22_0 (an g22_1 (an n22_0 n22_1))))
            refine goG2 F16 F16 ?_
            revert hs; refine bK fun o597 e596 hs => ?_
            refine awp_cutK (fun (v : (List ByteArray) × (List Var) × (List ByteArray) × (List ByteArray) × (List Proc) × (List Launch) × (List ByteArray) × (List ByteArray) × Int) (σ : St) => some (.inl v) = some o597 ∧ σ.env 1 = .cell (.ref (.o 1 0 0) 0) ∧ σ.env 5 = .cell (.ref (.o 2 2 0) 0) ∧ σ.hp (.o 1 0 0) = some (.cells (eA a0)) ∧ σ.hp (.o 2 2 0) = some (.cells [sC v.1, sC v.2.1, sC v.2.2.1, sC v.2.2.2.1, sC v.2.2.2.2.1, sC v.2.2.2.2.2.1, sC v.2.2.2.2.2.2.1, sC v.2.2.2.2.2.2.2.1, nC v.2.2.2.2.2.2.2.2]) ∧ (σ21.gen + 1) ≤ σ.gen) (by rfl) (fun Q hK598 hX599 => ?_) (fun v σ27 hp => ?_)
            · refine goG F16 F16 ?_
              revert e596; refine bK fun o667 e666 e596 => ?_
              refine awp_loopW (fun (v : (List Proc) × Nat × (List ByteArray) × (List Var) × (List ByteArray) × (List ByteArray) × (List Proc) × (List Launch) × (List ByteArray) × (List ByteArray) × Int) (σ : St) => r16_Check_L5 fuelN v.1 v.2.1 v.2.2.1 v.2.2.2.1 v.2.2.2.2.1 v.2.2.2.2.2.1 v.2.2.2.2.2.2.1 v.2.2.2.2.2.2.2.1 v.2.2.2.2.2.2.2.2.1 v.2.2.2.2.2.2.2.2.2.1 v.2.2.2.2.2.2.2.2.2.2 = some o667 ∧ v.1 = a0.Procs.drop v.2.1 ∧ σ.env 1 = .cell (.ref (.o 1 0 0) 0) ∧ σ.env 5 = .cell (.ref (.o 2 2 0) 0) ∧ σ.env 13 = iV .i64 ((v.2.1 : Nat) : Int) ∧ σ.hp (.o 1 0 0) = some (.cells (eA a0)) ∧ σ.hp (.o 2 2 0) = some (.cells [sC v.2.2.1, sC v.2.2.2.1, sC v.2.2.2.2.1, sC v.2.2.2.2.2.1, sC v.2.2.2.2.2.2.1, sC v.2.2.2.2.2.2.2.1, sC v.2.2.2.2.2.2.2.2.1, sC v.2.2.2.2.2.2.2.2.2.1, nC v.2.2.2.2.2.2.2.2.2.2]) ∧ (σ21.gen + 1) ≤ σ.gen) (fun v => v.1.length) _ (Gh.unz _) (a0.Procs, 0, l84, a0.Vars, a0.Mutexes, a0.Conds, a0.Procs, a0.Threads, l255, [], 0) ⟨e666, by simp, pv F16, pv F16, pv F16, pv F16, pv F16, pg⟩ fun v σ30 hp L668 hL669 => ?_
              obtain ⟨q671, k639, l640, l641, l642, l643, l644, l645, l646, l647, i648⟩ := v
              dsimp only at hp hL669
              obtain ⟨e666, hd670, h29_1, h29_5, h29_13, g29_0, g29_1, n29_g⟩ := hp
              have n29_0 : ¬ (σ30.gen = 0) := by omega
              have n29_1 : ¬ (σ30.gen = 1) := by omega
              rcases q671 with _ | ⟨x676, q672⟩
              · have hlt673 := drop_end hd670
                rw [r16_Check_L5] at e666; try dsimp only at e666
                have F17 := an h29_1 (an h29_5 (an h29_13 (an g29_0 (an g29_1 (an n29_0 n29_1)))))
                refine goR F17 ?_
                refine condK_f (by simp [ltI]; omega) ?_
                obtain rfl := sj e666
                try dsimp only at e596
                exact hK598 (l640, l641, l642, l643, l644, l645, l646, l647, i648) _ _ (Gh.refl _) ⟨e596, pv F17, pv F17, pv F17, pv F17, pg⟩
              · obtain ⟨hx675, hlt673, hd677⟩ := drop_next hd670
                have ew674 := wrap_succ hlt673 (hb4).len
                rw [r16_Check_L5] at e666; try dsimp only at e666
                have F18 := an h29_1 (an h29_5 (an h29_13 (an g29_0 (an g29_1 (an n29_0 (an n29_1 (an hlt673 ew674)))))))
                refine goR F18 ?_
                refine condK_t (by simp [ltI]; omega) ?_
                have f678 : partCV Tryd.prog 57 (encL a0.Procs) (k639 * 3) = some (.agg (eA x676)) := partCV_enc hx675 (f := 0) (by simp)
                have F19 := an F18 f678
                refine goR F19 ?_
                revert e666; refine bK fun y679 hx680 e666 => ?_
                refine cB F19 (at_r16_C_proc hx680) [.o 2 2 0] ?_
                refine goR F19 ?_
                revert e666; refine cS F19 ?_ ?_ <;> intro h681 e666
                · refine goR F19 ?_
                  obtain rfl := sj e666
                  try dsimp only at e596
                  obtain rfl := sj e596
                  try dsimp only at hs
                  refine hX599 _ _ (by simp) ?_
                  refine goR F19 ?_
                  obtain rfl := sj hs
                  exact hQ _ _ (rg F19 (Gh.refl _))
                · refine goR F19 ?_
                  exact hL669 (q672, (k639 + 1), y679.2.2.Vars, y679.2.2.U.Vars, y679.2.2.U.Mutexes, y679.2.2.U.Conds, y679.2.2.U.Procs, y679.2.2.U.Threads, y679.2.2.Procs, y679.2.2.Locals, y679.2.2.At) _ _ (Gh.refl _) ⟨e666, hd677, pv F19, pv F19, pv F19, pv F19, pv F19, pg⟩ (by simp)
            · obtain ⟨l587, l588, l589, l590, l591, l592, l593, l594, i595⟩ := v
              dsimp only at hp
              obtain ⟨e596, h28_1, h28_5, g28_0, g28_1, n28_g⟩ := hp
              obtain rfl := sj e596
              try dsimp only at hs
              have n28_0 : ¬ (σ27.gen = 0) := by omega
              have n28_1 : ¬ (σ27.gen = 1) := by omega
              have F20 := an h28_1 (an h28_5 (an g28_0 (an g28_1 (an n28_0 n28_1))))
              refine goG F20 F20 ?_
              revert hs; refine cS F20 ?_ ?_ <;> intro h683 hs
              · refine goG F20 F20 ?_
                obtain rfl := sj hs
                exact hQ _ _ (rg F20 (Gh.refl _))
              · refine goG2 F20 F20 ?_
                revert hs; refine bK fun o745 e744 hs => ?_
                refine awp_cutK (fun (v : Unit) (σ : St) => some (.inl v) = some o745 ∧ (σ27.gen + 2) ≤ σ.gen) (by rfl) (fun Q hK746 hX747 => ?_) (fun v σ33 hp => ?_)
                · refine goG F20 F20 ?_
                  revert e744; refine bK fun o785 e784 e744 => ?_
                  refine awp_loopW (fun (v : (List Launch) × Nat) (σ : St) => r16_Check_L6 l593 v.1 v.2 = some o785 ∧ v.1 = a0.Threads.drop v.2 ∧ σ.env 1 = .cell (.ref (.o 1 0 0) 0) ∧ σ.env 5 = .cell (.ref (.o 2 2 0) 0) ∧ σ.env 16 = iV .i64 ((v.2 : Nat) : Int) ∧ σ.hp (.o 1 0 0) = some (.cells (eA a0)) ∧ σ.hp (.o 2 2 0) = some (.cells [sC l587, sC l588, sC l589, sC l590, sC l591, sC l592, sC l593, sC l594, nC i595]) ∧ (σ27.gen + 2) ≤ σ.gen) (fun v => v.1.length) _ (Gh.refl _) (a0.Threads, 0) ⟨e784, by simp, pv F20, pv F20, pv F20, pv F20, pv F20, pg⟩ fun v σ36 hp L786 hL787 => ?_
                  obtain ⟨q789, k766⟩ := v
                  dsimp only at hp hL787
                  obtain ⟨e784, hd788, h35_1, h35_5, h35_16, g35_0, g35_1, n35_g⟩ := hp
                  have n35_0 : ¬ (σ36.gen = 0) := by omega
                  have n35_1 : ¬ (σ36.gen = 1) := by omega
                  rcases q789 with _ | ⟨x794, q790⟩
                  · have hlt791 := drop_end hd788
                    rw [r16_Check_L6] at e784; try dsimp only at e784
                    have F21 := an h35_1 (an h35_5 (an h35_16 (an g35_0 (an g35_1 (an n35_0 n35_1)))))
                    refine goR F21 ?_
                    refine condK_f (by simp [ltI]; omega) ?_
                    obtain rfl := sj e784
                    try dsimp only at e744
                    exact hK746 () _ _ (Gh.refl _) ⟨e744, pg⟩
                  · obtain ⟨hx793, hlt791, hd795⟩ := drop_next hd788
                    have ew792 := wrap_succ hlt791 (hb5).len
                    rw [r16_Check_L6] at e784; try dsimp only at e784
                    have F22 := an h35_1 (an h35_5 (an h35_16 (an g35_0 (an g35_1 (an n35_0 (an n35_1 (an hlt791 ew792)))))))
                    refine goR F22 ?_
                    refine condK_t (by simp [ltI]; omega) ?_
                    have f799 : partCV Tryd.prog 9 (encL a0.Threads) (k766 * 2) = some (sV x794.Proc) := partCV_enc hx793 (f := 0) (by simp)
                    have F23 := an F22 f799
                    refine goD F23 ?_
                    revert e784; refine bK fun y800 hx801 e784 => ?_
                    refine cP F23 (at_r16_in hx801) ?_
                    refine goD F23 ?_
                    revert e784; refine cS F23 ?_ ?_ <;> intro h802 e784
                    · refine goD F23 ?_
                      obtain rfl := sj e784
                      try dsimp only at e744
                      obtain rfl := sj e744
                      try dsimp only at hs
                      refine hX747 _ _ (by simp) ?_
                      refine goD F23 ?_
                      obtain rfl := sj hs
                      exact hQ _ _ (rg F23 (Gh.refl _))
                    · have f803 : partCV Tryd.prog 3 (encL a0.Threads) (k766 * 2 + 1) = some (iV .i64 x794.Arg) := partCV_enc hx793 (f := 1) (by simp)
                      have F24 := an F23 f803
                      refine goD F24 ?_
                      revert e784; refine bK fun y804 hx805 e784 => ?_
                      refine cP F24 (at_r16_value hx805) ?_
                      refine goD F24 ?_
                      revert e784; refine cS F24 ?_ ?_ <;> intro h806 e784
                      · refine goD F24 ?_
                        obtain rfl := sj e784
                        try dsimp only at e744
                        obtain rfl := sj e744
                        try dsimp only at hs
                        refine hX747 _ _ (by simp) ?_
                        refine goD F24 ?_
                        obtain rfl := sj hs
                        exact hQ _ _ (rg F24 (Gh.refl _))
                      · refine goD F24 ?_
                        exact hL787 (q790, (k766 + 1)) _ _ (Gh.refl _) ⟨e784, hd795, pv F24, pv F24, pv F24, pv F24, pv F24, pg⟩ (by simp)
                · obtain ⟨e744, n34_g⟩ := hp
                  obtain rfl := sj e744
                  try dsimp only at hs
                  refine goG f0 f0 ?_
                  obtain rfl := sj hs
                  exact hQ _ _ (rg f0 (Gh.refl _))
end Go.Dc
end
section
set_option linter.all false
namespace Go.Dc.Pl
open Go Go.Hw Go.Dc
theorem first_append {α β : Type} (f : Nat → α → Option β) : ∀ (x y : List α) (k : Nat), first f (x ++ y) k = match first f x k with | some r => some r | none => first f y (k + x.length)
  | [], y, k => by simp
  | a :: x, y, k => by
    rw [List.cons_append, first_cons, first_cons, first_append f x y (k + 1)]
    cases f k a with
    | some r => rfl
    | none => rw [show k + 1 + x.length = k + (a :: x).length by simp; omega]
/-! Names. -/
def nmW (l : List ByteArray) (k : Nat) (x : ByteArray) : Option (Int × Int) := if okWord x = false then some (6, (k : Int)) else onlyIf (isIn (l.take k) x) (7, (k : Int))
def badW (l : List ByteArray) : Option (Int × Int) := first (nmW l) l 0
theorem own_names (l : List ByteArray) : ast_names l = some ((badW l).getD (0, -1)) := by
  have h := srch (L := ast_names_L1 l) (nmW l) (fun _ => rfl) l 0 fun j x hx q => by
    have hj := getN_some hx
    rw [Nat.zero_add, ast_names_L1, own_word, Option.bind_some, nmW]
    cases okWord x
    · rfl
    · rw [show slB 0 ((j : Nat) : Int) l.length = true by simp [slB]; omega, guardO_t, Option.bind_some, contains_eq, Option.bind_some, show subL l 0 (j : Int) = l.take j by simp [subL], if_neg (by simp), Bool.not_true, cond_false]
      exact step_only _ _ _
  rw [ast_names, h, badW]
  cases first (nmW l) l 0 <;> rfl
theorem ref_list (l : List ByteArray) : r16_list l = some ((badW l).getD (0, -1)) := by
  have h := srch (L := r16_list_L1 l) (nmW l) (fun _ => rfl) l 0 fun j x hx q => by
    have hj := getN_some hx
    rw [Nat.zero_add, r16_list_L1, ref_word, Option.bind_some, nmW]
    cases okWord x
    · rfl
    · rw [show slB 0 ((j : Nat) : Int) l.length = true by simp [slB]; omega, guardO_t, Option.bind_some, in_eq, Option.bind_some, show subL l 0 (j : Int) = l.take j by simp [subL], if_neg (by simp), Bool.not_true, cond_false]
      exact step_only _ _ _
  rw [r16_list, h, badW]
  cases first (nmW l) l 0 <;> rfl
theorem badW_ne {l : List ByteArray} {r : Int × Int} (h : badW l = some r) : r.1 = 6 ∨ r.1 = 7 := by
  obtain ⟨j, x, _, e⟩ := first_some h
  unfold nmW at e
  split at e
  · cases e; exact .inl rfl
  · cases hb : isIn (l.take (0 + j)) x with
    | true => rw [hb] at e; cases e; exact .inr rfl
    | false => rw [hb] at e; cases e
def vnm (u : UnitT) : List ByteArray := u.Vars.map (·.Name)
def pnm (u : UnitT) : List ByteArray := u.Procs.map (·.Name)
def objs (u : UnitT) : Arr 5 (List ByteArray) := Arr.of 5 [[], vnm u, u.Mutexes, u.Conds, pnm u]
theorem lim16' : limB 16 4194304 = true := by simp [limB]
section
variable {u : UnitT} (h : Sm u)
include h
theorem own_objects : ast_objects u = some (objs u) := by
  have e1 := appM (L := fun l a k => ast_objects_L1 l k a) (b := 16) (m := 4194304) (fun v : Var => v.Name) lim16' (fun a k => rfl) (fun x q a k => rfl) u.Vars [] 0 (by have := h.vars; simp; omega)
  have e2 := appM (L := fun l a k => ast_objects_L2 l k a) (b := 16) (m := 4194304) (fun v : Proc => v.Name) lim16' (fun a k => rfl) (fun x q a k => rfl) u.Procs [] 0 (by have := h.procs; simp; omega)
  simp only [List.nil_append] at e1 e2
  rw [ast_objects, e1, e2]; rfl
theorem ref_vars : r16_Check_L1 u.Vars 0 [] = some (vnm u) := by
  have e1 := appM (L := fun l a k => r16_Check_L1 l k a) (b := 16) (m := 4194304) (fun v : Var => v.Name) lim16' (fun a k => rfl) (fun x q a k => rfl) u.Vars [] 0 (by have := h.vars; simp; omega)
  simpa [vnm] using e1
theorem ref_procs : r16_Check_L2 u.Procs 0 [] = some (pnm u) := by
  have e1 := appM (L := fun l a k => r16_Check_L2 l k a) (b := 16) (m := 4194304) (fun v : Proc => v.Name) lim16' (fun a k => rfl) (fun x q a k => rfl) u.Procs [] 0 (by have := h.procs; simp; omega)
  simpa [pnm] using e1
end
/-- The first error of the declarations. -/
def manyU (u : UnitT) : Bool := decide (8 < u.Vars.length ∨ 4 < u.Mutexes.length ∨ 4 < u.Conds.length ∨ 8 < u.Procs.length)
def headE (u : UnitT) : Option (Int × Int) :=
  match badW (vnm u), badW u.Mutexes, badW u.Conds, badW (pnm u) with
  | some r, _, _, _ => some (r.1, -1)
  | none, some r, _, _ => some (r.1, -1)
  | none, none, some r, _ => some (r.1, -1)
  | none, none, none, some r => some r
  | none, none, none, none => if manyU u = true then some (4, -1) else onlyIf (u.Vars.any fun v => outV v.Init) (2, -1)
theorem headE_ne {u : UnitT} {r : Int × Int} (h : headE u = some r) : r.1 ≠ 0 := by
  have key : ∀ {l : List ByteArray} {q : Int × Int}, badW l = some q → q.1 ≠ 0 := fun e => by rcases badW_ne e with e | e <;> rw [e] <;> decide
  unfold headE at h
  cases h1 : badW (vnm u) with
  | some q => rw [h1] at h; obtain rfl := Option.some.inj h; exact key (q := q) h1
  | none =>
    rw [h1] at h
    cases h2 : badW u.Mutexes with
    | some q => rw [h2] at h; obtain rfl := Option.some.inj h; exact key (q := q) h2
    | none =>
      rw [h2] at h
      cases h3 : badW u.Conds with
      | some q => rw [h3] at h; obtain rfl := Option.some.inj h; exact key (q := q) h3
      | none =>
        rw [h3] at h
        cases h4 : badW (pnm u) with
        | some q => rw [h4] at h; obtain rfl := Option.some.inj h; exact key h4
        | none =>
          rw [h4] at h
          simp only at h
          split at h
          · cases h; simp
          · cases hb : (u.Vars.any fun v => outV v.Init) with
            | true => rw [hb] at h; cases h; simp
            | false => rw [hb] at h; cases h
theorem many_eq (u : UnitT) : orB (orB (orB (ltI 8 ((u.Vars.length : Nat) : Int)) (ltI 4 ((u.Mutexes.length : Nat) : Int))) (ltI 4 ((u.Conds.length : Nat) : Int))) (ltI 8 ((u.Procs.length : Nat) : Int)) = manyU u := by
  simp only [orB_d, ltI_d, manyU, ← Bool.decide_or]; congr 1; apply propext; omega
theorem own_head {N : Nat} (u : UnitT) (hN : 5 ≤ N) : ast_head N u (objs u) = some ((headE u).getD (0, -1)) := by
  obtain ⟨n, rfl⟩ : ∃ n, N = n + 5 := ⟨N - 5, by omega⟩
  have hv := srch (L := ast_head_L2) (fun _ (x : Var) => onlyIf (outV x.Init) (2, -1)) (fun _ => rfl) u.Vars 0 fun j x hx q => by rw [ast_head_L2]; exact step_only _ _ _
  rw [first_onlyC] at hv
  have w1 : IntKind.i64.wrap ((1 : Int) + 1) = 2 := by decide
  have w2 : IntKind.i64.wrap ((2 : Int) + 1) = 3 := by decide
  have w3 : IntKind.i64.wrap ((3 : Int) + 1) = 4 := by decide
  have w4 : IntKind.i64.wrap ((4 : Int) + 1) = 5 := by decide
  have o1 : (objs u).f (1 : Int).toNat = vnm u := rfl
  have o2 : (objs u).f (2 : Int).toNat = u.Mutexes := rfl
  have o3 : (objs u).f (3 : Int).toNat = u.Conds := rfl
  have o4 : (objs u).f (4 : Int).toNat = pnm u := rfl
  have step : ∀ (r : Int × Int), (r.1 = 6 ∨ r.1 = 7) → eqI r.1 0 = false := fun r h => by rw [eqI_d]; rcases h with h | h <;> rw [h] <;> rfl
  rw [ast_head, many_eq, hv, headE]
  cases h1 : badW (vnm u) with
  | some r =>
    rw [ast_head_L1, o1, own_names, h1]
    simp [ltI_d, inB_d, step r (badW_ne h1), eqI_d 1 4]
  | none =>
    rw [ast_head_L1, o1, own_names, h1, w1]
    cases h2 : badW u.Mutexes with
    | some r =>
      rw [ast_head_L1, o2, own_names, h2]
      simp [ltI_d, inB_d, step r (badW_ne h2), eqI_d 2 4, eqI_d (0 : Int) 0]
    | none =>
      rw [ast_head_L1, o2, own_names, h2, w2]
      cases h3 : badW u.Conds with
      | some r =>
        rw [ast_head_L1, o3, own_names, h3]
        simp [ltI_d, inB_d, step r (badW_ne h3), eqI_d 3 4, eqI_d (0 : Int) 0]
      | none =>
        rw [ast_head_L1, o3, own_names, h3, w3]
        cases h4 : badW (pnm u) with
        | some r =>
          rw [ast_head_L1, o4, own_names, h4]
          simp [ltI_d, inB_d, step r (badW_ne h4), eqI_d 4 4, eqI_d (0 : Int) 0]
        | none =>
          rw [ast_head_L1, o4, own_names, h4, w4, ast_head_L1]
          simp [ltI_d, inB_d, eqI_d (0 : Int) 0]
          cases manyU u with
          | true => simp
          | false => cases (u.Vars.any fun v => outV v.Init) <;> simp
/-! Procedures. -/
def fe (o : Arr 5 (List ByteArray)) (ls : List ByteArray) (k : Nat) (y : Int × Stmt) : Option (Int × Int) := if stE o ls y.1 y.2 = 0 then none else some (stE o ls y.1 y.2, (k : Int))
def procE (o : Arr 5 (List ByteArray)) (p : Proc) : Int × Int :=
  if eqS p.Param emp = false ∧ okWord p.Param = false then (6, -1) else if 128 < cSL p.Body then (4, -1) else if 4 + (par p).length < (locP p).length then (4, -1) else (first (fe o (locP p)) (flL 1 p.Body) 0).getD (0, -1)
theorem own_proc_L {N : Nat} {o : Arr 5 (List ByteArray)} {ls : List ByteArray} : ∀ (xs : List (Int × Stmt)) (i : Nat), (∀ y ∈ xs, nL y.2.Exprs ≤ N ∧ nL y.2.Exprs ≤ 1048576) → i + xs.length ≤ 4194304 →
    ast_proc_L1 N o ls xs (i : Int) = some (match first (fe o ls) xs i with | none => .inl ((i + xs.length : Nat) : Int) | some r => .inr r)
  | [], i, _, _ => by rw [ast_proc_L1]; simp
  | y :: r, i, h, hi => by
    rw [List.length_cons] at hi
    obtain ⟨a, b⟩ := h y (by simp)
    rw [ast_proc_L1, own_stmt a b, Option.bind_some, first_cons, wrapS (by omega), own_proc_L r (i + 1) (fun z hz => h z (by simp [hz])) (by omega), eqI_d, fe]
    by_cases e : stE o ls y.1 y.2 = 0
    · simp only [e, if_true, decide_true, Bool.not_true, cond_false, List.length_cons]
      rw [show i + 1 + r.length = i + (r.length + 1) by omega]
    · simp [e]
theorem flat_ok {l : List Stmt} {n : Int} {N : Nat} (h : nSL l ≤ 1048576) (hN : 1048576 ≤ N) : ∀ y ∈ flL n l, nL y.2.Exprs ≤ N ∧ nL y.2.Exprs ≤ 1048576 := fun y hy => by
  have := fl_memL l n y hy
  have := nS_eq y.2
  omega
theorem own_proc {N : Nat} {p : Proc} (o : Arr 5 (List ByteArray)) (h : nSL p.Body ≤ 1048576) (hN : 1048576 ≤ N) : ast_proc N p o = some (procE o p) := by
  have hl := own_proc_L (o := o) (ls := locP p) (flL 1 p.Body) 0 (flat_ok (N := N) h hN) (by rw [fl_lenL]; have := c_leL p.Body; omega)
  rw [show ((0 : Nat) : Int) = 0 from rfl] at hl
  have hc := c_leL p.Body
  have hlen : (locP p).length ≤ 1 + 1048576 := by
    have := addL_len (flL 1 p.Body) (par p); rw [fl_lenL] at this; have := par_len p; unfold locP; omega
  rw [ast_proc, own_word, own_count (by omega), own_locals (by omega), show (⟨#[]⟩ : ByteArray) = emp from rfl, procE]
  simp only [Option.isSome_some, Option.getD_some, orB_d, Bool.or_true, guardO_t, andB_d, Option.bind_some, ast_stmts, its_eq (show nSL p.Body ≤ 2097152 by omega), hl]
  have hw : ∀ x : Int, -1 ≤ x → x ≤ 4194304 → IntKind.i64.wrap x = x := fun x h1 h2 => wrap_s (by omega) (by omega)
  rw [hw _ (by omega) (by omega)]
  by_cases h128 : 128 < cSL p.Body
  · have h128' : ltI 128 (cSL p.Body : Int) = true := by rw [ltI_d]; exact decide_eq_true (by omega)
    rw [h128', if_pos h128]
    cases eqS p.Param emp <;> cases okWord p.Param <;> rfl
  · have h128' : ltI 128 (cSL p.Body : Int) = false := by rw [ltI_d]; exact decide_eq_false (by omega)
    rw [h128', if_neg h128, cond_false]
    unfold par
    cases eqS p.Param emp with
    | true =>
      simp only [if_true, List.length_nil]
      by_cases e4 : 4 + 0 < (locP p).length
      · have e4' : ltI 4 ((locP p).length : Int) = true := by rw [ltI_d]; exact decide_eq_true (by omega)
        rw [if_pos e4]; simp [e4']
      · have e4' : ltI 4 ((locP p).length : Int) = false := by rw [ltI_d]; exact decide_eq_false (by omega)
        rw [if_neg e4]; simp [e4']
        cases first (fe o (locP p)) (flL 1 p.Body) 0 <;> rfl
    | false =>
      cases okWord p.Param with
      | false => simp
      | true =>
        simp only [Bool.false_eq_true, if_false, List.length_singleton]
        by_cases e4 : 4 + 1 < (locP p).length
        · have e4' : ltI 4 (((locP p).length : Int) - 1) = true := by rw [ltI_d]; exact decide_eq_true (by omega)
          rw [if_pos e4]; simp [e4']
        · have e4' : ltI 4 (((locP p).length : Int) - 1) = false := by rw [ltI_d]; exact decide_eq_false (by omega)
          rw [if_neg e4]; simp [e4']
          cases first (fe o (locP p)) (flL 1 p.Body) 0 <;> rfl
/-! The reference's blocks. -/
def afterB (o : Arr 5 (List ByteArray)) (c : R16C) (xs : List (Int × Stmt)) (a : Nat) : Int × R16C := match first (fe o c.Locals) xs a with
  | none => (0, { c with At := ((a + xs.length : Nat) : Int) })
  | some r => (r.1, { c with At := r.2 })
theorem fe_ne {o : Arr 5 (List ByteArray)} {ls : List ByteArray} {xs : List (Int × Stmt)} {a : Nat} {r : Int × Int} (h : first (fe o ls) xs a = some r) : r.1 ≠ 0 := by
  obtain ⟨j, x, _, e⟩ := first_some h
  unfold fe at e
  split at e
  · cases e
  · rename_i hne; cases e; exact hne
def Fit (o : Arr 5 (List ByteArray)) (c : R16C) : Prop := o.f 1 = c.Vars ∧ o.f 2 = c.U.Mutexes ∧ o.f 3 = c.U.Conds ∧ o.f 4 = c.Procs
theorem ref_block (o : Arr 5 (List ByteArray)) : ∀ (N : Nat) (l : List Stmt) (c : R16C) (a : Nat) (lvl : Int), Fit o c → c.At = (a : Int) → nSL l + 1048576 < N → nSL l ≤ 1048576 → 0 ≤ lvl → lvl + nSL l ≤ 4194304 → a + nSL l ≤ 4194304 →
    r16_C_block N c l lvl = some (afterB o c (flL lvl l) a)
  | 0, l, c, a, lvl, hf, ha, h, hb, hv, hlv, hab => absurd h (by omega)
  | N + 1, l, c, a, lvl, hf, ha, h, hb, hv, hlv, hab => by
    have key : ∀ (r : List Stmt) (k a : Nat) (c : R16C), Fit o c → c.At = (a : Int) → a + nSL r ≤ 4194304 → nSL r ≤ nSL l →
        r16_C_block_L1 N lvl (r16_C_block N) r k c.Vars c.U.Vars c.U.Mutexes c.U.Conds c.U.Procs c.U.Threads c.Procs c.Locals c.At =
          some (match first (fe o c.Locals) (flL lvl r) a with | none => .inl (c.Vars, c.U.Vars, c.U.Mutexes, c.U.Conds, c.U.Procs, c.U.Threads, c.Procs, c.Locals, ((a + cSL r : Nat) : Int)) | some z => .inr (z.1, { c with At := z.2 })) := by
      intro r
      induction r with
      | nil => intro k a c hf ha _ _; rw [r16_C_block_L1]; simp [ha]
      | cons x r ih =>
        intro k a c hf ha hi hr
        rw [nSL_cons] at hi hr
        have h1 := nS_eq x
        have hc := c_leS x; have hcb := c_leL x.Body; have hce := c_leL x.Else; have hcx := cS_eq x
        have hst := ref_stmt (N := N) (s := x) (by omega) (by omega) (c := c) hf.1 hf.2.1 hf.2.2.1 hf.2.2.2 lvl
        rw [r16_C_block_L1, flL_cons, flS_eq, List.cons_append, first_cons]
        rw [show ({ Vars := c.Vars, U := ({ Vars := c.U.Vars, Mutexes := c.U.Mutexes, Conds := c.U.Conds, Procs := c.U.Procs, Threads := c.U.Threads } : UnitT), Procs := c.Procs, Locals := c.Locals, At := c.At } : R16C) = c from rfl, hst, Option.bind_some, eqI_d]
        by_cases e : stE o c.Locals lvl x = 0
        · have e1 : fe o c.Locals a (lvl, x) = none := by simp [fe, e]
          rw [e1]
          simp only [e, decide_true, Bool.not_true, cond_false]
          rw [ha, wrapS (by omega), wrap_s (n := lvl + 1) (by omega) (by omega)]
          rw [show ({ Vars := c.Vars, U := ({ Vars := c.U.Vars, Mutexes := c.U.Mutexes, Conds := c.U.Conds, Procs := c.U.Procs, Threads := c.U.Threads } : UnitT), Procs := c.Procs, Locals := c.Locals, At := ((a + 1 : Nat) : Int) } : R16C) = { c with At := ((a + 1 : Nat) : Int) } from rfl]
          rw [ref_block o N x.Body { c with At := ((a + 1 : Nat) : Int) } (a + 1) (lvl + 1) hf rfl (by omega) (by omega) (by omega) (by omega) (by omega), Option.bind_some]
          rw [List.append_assoc, first_append, first_append, afterB]
          cases hB : first (fe o c.Locals) (flL (lvl + 1) x.Body) (a + 1) with
          | some z =>
            have := fe_ne hB
            simp [eqI_d, this, hB]
          | none =>
            simp only [hB, eqI_d, decide_true, Bool.not_true, cond_false, fl_lenL]
            rw [ref_block o N x.Else { c with At := ((a + 1 + cSL x.Body : Nat) : Int) } (a + 1 + cSL x.Body) (lvl + 1) hf rfl (by omega) (by omega) (by omega) (by omega) (by omega), Option.bind_some, afterB]
            cases hE : first (fe o c.Locals) (flL (lvl + 1) x.Else) (a + 1 + cSL x.Body) with
            | some z =>
              have := fe_ne hE
              simp [this]
            | none =>
              simp only [decide_true, Bool.not_true, cond_false, fl_lenL]
              have := ih (k + 1) (a + 1 + cSL x.Body + cSL x.Else) { c with At := ((a + 1 + cSL x.Body + cSL x.Else : Nat) : Int) } hf rfl (by omega) (by omega)
              simp only at this
              rw [this, cSL_cons, cS_eq]
              rw [show a + 1 + cSL x.Body + cSL x.Else + cSL r = a + (cSL x.Body + cSL x.Else + 1 + cSL r) by omega]
        · have e1 : fe o c.Locals a (lvl, x) = some (stE o c.Locals lvl x, (a : Int)) := by simp [fe, e]
          rw [e1]
          simp [e, ha]
    rw [show r16_C_block (N + 1) c l lvl = r16_C_block_B (r16_C_block N) N c l lvl from rfl, r16_C_block_B, key l 0 a c hf ha hab (Nat.le_refl _), afterB]
    cases first (fe o c.Locals) (flL lvl l) a with
    | none => rw [fl_lenL]; rfl
    | some z => rfl
theorem ref_proc {N : Nat} {p : Proc} {o : Arr 5 (List ByteArray)} {c : R16C} (hf : Fit o c) (h : nSL p.Body ≤ 1048576) (hN : 2097154 ≤ N) : ∃ c', r16_C_proc N c p = some ((procE o p).1, (procE o p).2, c') ∧ ((procE o p).1 = 0 → Fit o c' ∧ c'.U = c.U ∧ c'.Procs = c.Procs ∧ c'.Vars = c.Vars) := by
  have hc := c_leL p.Body
  have hb := ref_block o N p.Body { c with Locals := locP p, At := 0 } 0 1 hf rfl (by omega) h (by omega) (by omega) (by omega)
  rw [r16_C_proc, ref_word, ref_count N p.Body (by omega) (by omega), ref_locals (by omega) (by omega), show (⟨#[]⟩ : ByteArray) = emp from rfl, procE]
  simp only [Option.isSome_some, Option.getD_some, orB_d, Bool.or_true, guardO_t, andB_d, Option.bind_some, hb]
  have w : IntKind.i64.wrap ((4 : Int) + 1) = 5 := by decide
  rw [w]
  by_cases h6 : eqS p.Param emp = false ∧ okWord p.Param = false
  · rw [if_pos h6, h6.1, h6.2]; exact ⟨c, rfl, fun h => by cases h⟩
  rw [if_neg h6, show (!eqS p.Param emp && !okWord p.Param) = false by revert h6; cases eqS p.Param emp <;> cases okWord p.Param <;> simp, cond_false]
  by_cases h128 : 128 < cSL p.Body
  · have h128' : ltI 128 (cSL p.Body : Int) = true := by rw [ltI_d]; exact decide_eq_true (by omega)
    rw [h128', if_pos h128]; exact ⟨c, rfl, fun h => by cases h⟩
  · have h128' : ltI 128 (cSL p.Body : Int) = false := by rw [ltI_d]; exact decide_eq_false (by omega)
    rw [h128', if_neg h128, cond_false]
    have hm : (bif !eqS p.Param emp then some (5 : Int) else some 4) = some ((4 + (par p).length : Nat) : Int) := by unfold par; cases eqS p.Param emp <;> rfl
    rw [hm, Option.bind_some]
    by_cases e4 : 4 + (par p).length < (locP p).length
    · have e4' : ltI ((4 + (par p).length : Nat) : Int) ((locP p).length : Int) = true := by rw [ltI_d]; exact decide_eq_true (by omega)
      rw [e4', if_pos e4]; exact ⟨_, rfl, fun h => by cases h⟩
    · have e4' : ltI ((4 + (par p).length : Nat) : Int) ((locP p).length : Int) = false := by rw [ltI_d]; exact decide_eq_false (by omega)
      rw [e4', if_neg e4, cond_false, afterB]
      cases hF : first (fe o (locP p)) (flL 1 p.Body) 0 with
      | none => refine ⟨_, rfl, fun _ => ⟨hf, rfl, rfl, rfl⟩⟩
      | some z =>
        have hne := fe_ne hF
        refine ⟨{ c with Locals := locP p, At := z.2 }, ?_, fun h => absurd h hne⟩
        simp [eqI_d, hne]
/-! The unit. -/
def pe (o : Arr 5 (List ByteArray)) (k : Nat) (p : Proc) : Option (Int × Int × Int) := if (procE o p).1 = 0 then none else some ((procE o p).1, (k : Int), (procE o p).2)
def thE (ps : List ByteArray) (t : Launch) : Option (Int × Int × Int) := if isIn ps t.Proc = false then some (11, -1, -1) else onlyIf (outV t.Arg) (2, -1, -1)
def checkU (u : UnitT) : Int × Int × Int :=
  match headE u with
  | some r => (r.1, r.2, -1)
  | none => match first (pe (objs u)) u.Procs 0 with
    | some r => r
    | none => if u.Threads.length < 1 ∨ 8 < u.Threads.length then (4, -1, -1) else (first (fun _ t => thE (pnm u) t) u.Threads 0).getD (0, -1, -1)
theorem own_check {N : Nat} {u : UnitT} (h : Sm u) (hN : 1048580 ≤ N) : ast_Check N u = some (checkU u) := by
  have hp := srch (L := ast_Check_L1 N (objs u)) (pe (objs u)) (fun _ => rfl) u.Procs 0 fun j x hx q => by
    rw [Nat.zero_add, ast_Check_L1, own_proc (objs u) (h.body x (List.mem_of_getElem? hx)) (by omega), Option.bind_some, pe, eqI_d]
    by_cases e : (procE (objs u) x).1 = 0 <;> simp [e]
  have ht := srch (L := ast_Check_L2 (objs u)) (fun _ t => thE (pnm u) t) (fun _ => rfl) u.Threads 0 fun j x hx q => by
    rw [ast_Check_L2, contains_eq, Option.bind_some, thE, show (objs u).f 4 = pnm u from rfl, outV]
    cases isIn (pnm u) x.Proc
    · rfl
    · rw [if_neg (by simp), Bool.not_true, cond_false]; exact step_only _ _ _
  rw [ast_Check, own_objects h, Option.bind_some, own_head u (by omega), Option.bind_some, hp, ht, checkU]
  cases hh : headE u with
  | some r => simp [eqI_d, headE_ne hh]
  | none =>
    simp only [Option.getD_none, eqI_d, decide_true, Bool.not_true, cond_false]
    cases first (pe (objs u)) u.Procs 0 with
    | some r => rfl
    | none =>
      simp only [toS_none, Option.bind_some]
      have hc : orB (ltI ((u.Threads.length : Nat) : Int) 1) (ltI 8 ((u.Threads.length : Nat) : Int)) = decide (u.Threads.length < 1 ∨ 8 < u.Threads.length) := by
        simp only [orB_d, ltI_d, ← Bool.decide_or]; congr 1; apply propext; omega
      rw [hc]
      by_cases e : u.Threads.length < 1 ∨ 8 < u.Threads.length
      · rw [if_pos e, decide_eq_true e]; rfl
      · rw [if_neg e, decide_eq_false e]
        cases first (fun _ t => thE (pnm u) t) u.Threads 0 <;> rfl
theorem ref_check {N : Nat} {u : UnitT} (h : Sm u) (hN : 2097154 ≤ N) : r16_Check N u = some (checkU u) := by
  have hv := srch (L := r16_Check_L4) (fun _ (x : Var) => onlyIf (outV x.Init) ((2 : Int), (-1 : Int), (-1 : Int))) (fun _ => rfl) u.Vars 0 fun j x hx q => by
    rw [r16_Check_L4, show r16_value x.Init = some (!outV x.Init) by rw [r16_value, outV]; simp [andB_d, orB_d, Bool.not_or], Option.bind_some, Bool.not_not]; exact step_only _ _ _
  rw [first_onlyC] at hv
  have ht := srch (L := r16_Check_L6 (pnm u)) (fun _ t => thE (pnm u) t) (fun _ => rfl) u.Threads 0 fun j x hx q => by
    rw [r16_Check_L6, in_eq, Option.bind_some, thE, show r16_value x.Arg = some (!outV x.Arg) by rw [r16_value, outV]; simp [andB_d, orB_d, Bool.not_or], Option.bind_some, Bool.not_not]
    cases isIn (pnm u) x.Proc
    · rfl
    · rw [if_neg (by simp), Bool.not_true, cond_false]; exact step_only _ _ _
  have hp : ∀ (l : List Proc) (k : Nat) (c : R16C), (∀ p ∈ l, nSL p.Body ≤ 1048576) → Fit (objs u) c → c.U = u → c.Procs = pnm u → c.Vars = vnm u →
      ∃ z, r16_Check_L5 N l k c.Vars c.U.Vars c.U.Mutexes c.U.Conds c.U.Procs c.U.Threads c.Procs c.Locals c.At = some (match first (pe (objs u)) l k with | some r => .inr r | none => .inl (vnm u, u.Vars, u.Mutexes, u.Conds, u.Procs, u.Threads, pnm u, z)) := by
    intro l
    induction l with
    | nil => intro k c _ hf hu hq hvv; rw [r16_Check_L5, hu, hq, hvv]; exact ⟨_, rfl⟩
    | cons x l ih =>
      intro k c hb hf hu hq hvv
      obtain ⟨c', e1, e2⟩ := ref_proc hf (hb x (by simp)) hN
      rw [r16_Check_L5, show ({ Vars := c.Vars, U := ({ Vars := c.U.Vars, Mutexes := c.U.Mutexes, Conds := c.U.Conds, Procs := c.U.Procs, Threads := c.U.Threads } : UnitT), Procs := c.Procs, Locals := c.Locals, At := c.At } : R16C) = c from rfl, e1, Option.bind_some, first_cons, pe, eqI_d]
      by_cases e : (procE (objs u) x).1 = 0
      · obtain ⟨f1, f2, f3, f4⟩ := e2 e
        obtain ⟨z, hz⟩ := ih (k + 1) c' (fun p hp => hb p (by simp [hp])) f1 (f2.trans hu) (f3.trans hq) (f4.trans hvv)
        refine ⟨z, ?_⟩
        simp only [e, decide_true, Bool.not_true, cond_false, if_true]
        rw [hz]
      · refine ⟨default, ?_⟩
        simp [e]
  obtain ⟨z, hz⟩ := hp u.Procs 0 { Vars := vnm u, U := u, Procs := pnm u, Locals := [], At := 0 } h.body ⟨rfl, rfl, rfl, rfl⟩ rfl rfl rfl
  simp only at hz
  have step : ∀ (r : Int × Int), (r.1 = 6 ∨ r.1 = 7) → eqI r.1 0 = false := fun r h => by rw [eqI_d]; rcases h with h | h <;> rw [h] <;> rfl
  rw [r16_Check, ref_vars h, ref_procs h, many_eq, hv, checkU, headE]
  simp only [Option.bind_some, hz, List.length_cons, List.length_nil, r16_Check_L3, ref_list]
  rw [show lenB (0 + 1 + 1 + 1 + 1) = true from rfl, guardO_t]
  cases h1 : badW (vnm u) with
  | some r => simp [step r (badW_ne h1), andB_d, eqI_d 0 3]
  | none =>
    simp only [Option.getD_none, eqI_d (0 : Int) 0, decide_true, Bool.not_true, andB_d, Bool.false_and, cond_false]
    cases h2 : badW u.Mutexes with
    | some r => simp [step r (badW_ne h2), andB_d, eqI_d 1 3]
    | none =>
      simp only [Option.getD_none, eqI_d (0 : Int) 0, decide_true, Bool.not_true, andB_d, Bool.false_and, cond_false]
      cases h3 : badW u.Conds with
      | some r => simp [step r (badW_ne h3), andB_d, eqI_d 2 3]
      | none =>
        simp only [Option.getD_none, eqI_d (0 : Int) 0, decide_true, Bool.not_true, andB_d, Bool.false_and, cond_false]
        cases h4 : badW (pnm u) with
        | some r => simp [step r (badW_ne h4), andB_d, eqI_d 3 3]
        | none =>
          simp only [Option.getD_none, eqI_d (0 : Int) 0, decide_true, Bool.not_true, andB_d, Bool.false_and, cond_false, Option.bind_some]
          cases manyU u with
          | true => rfl
          | false =>
            simp only [cond_false, Bool.false_eq_true, if_false]
            cases (u.Vars.any fun v => outV v.Init) with
            | true => rfl
            | false =>
              simp only [onlyIf_f, toS_none, Option.bind_some]
              cases first (pe (objs u)) u.Procs 0 with
              | some r => rfl
              | none =>
                simp only [Option.bind_some, ht]
                have hc : orB (ltI ((u.Threads.length : Nat) : Int) 1) (ltI 8 ((u.Threads.length : Nat) : Int)) = decide (u.Threads.length < 1 ∨ 8 < u.Threads.length) := by
                  simp only [orB_d, ltI_d, ← Bool.decide_or]; congr 1; apply propext; omega
                rw [hc]
                by_cases e : u.Threads.length < 1 ∨ 8 < u.Threads.length
                · rw [if_pos e, decide_eq_true e]; rfl
                · rw [if_neg e, decide_eq_false e, cond_false]
                  cases first (fun _ t => thE (pnm u) t) u.Threads 0 <;> rfl
end Go.Dc.Pl
end
section
set_option linter.all false
namespace Go.Dc
open Go Go.Hw Go.Proofs
set_option maxRecDepth 100000
def r16_Strings_L1 (a1 : List ByteArray) : List ByteArray → Nat → Option (Unit ⊕ Bool)
  | [], k76 => some (.inl ())
  | x102 :: q98, k76 => Option.bind (a1[k76]?) (fun x109 => cond (!(eqS x102 x109)) (some (.inr false)) (r16_Strings_L1 a1 q98 (k76 + 1)))

def r16_Strings (a0 : List ByteArray) (a1 : List ByteArray) : Option Bool :=
  cond (!(eqI ((a0.length : Nat) : Int) ((a1.length : Nat) : Int))) (some false) (Option.bind (α := Unit ⊕ Bool) (Option.bind (r16_Strings_L1 a1 a0 0) (fun o => match o with | .inl _ => some (.inl ()) | .inr r113 => some (.inr r113))) (fun o => match o with | .inl _ => some true | .inr r114 => some r114))

set_option maxHeartbeats 2000000 in
theorem at_r16_Strings {a0 : List ByteArray} {a1 : List ByteArray} {r : Bool} (hs : r16_Strings a0 a1 = some r) : At Tryd.prog 35 [.cell (sC a0), .cell (sC a1)] (bV r) := by
  refine at_bound (by kernel_rfl) fun hb => ?_
  have hb1 : LenOk (.sl a0.length (encL a0)) := lkc hb
  have hb2 : LenOk (.sl a1.length (encL a1)) := lkc hb
  refine at_code mixed Tryd.func35 (by kernel_rfl) rfl (by kernel_rfl) rfl fun Q hQ => ?_
  rw [r16_Strings] at hs
  refine goR f0 ?_
  revert hs; refine cS f0 ?_ ?_ <;> intro h1 hs
  · refine goR f0 ?_
    obtain rfl := sj hs
    exact hQ _ _ (rg f0 (Gh.refl _))
  · refine goR2 f0 ?_
    revert hs; refine bK fun o57 e56 hs => ?_
    refine awp_cutK (fun (v : Unit) (σ : St) => some (.inl v) = some o57 ∧ 3 ≤ σ.gen) (by rfl) (fun Q hK58 hX59 => ?_) (fun v σ3 hp => ?_)
    · refine goR f0 ?_
      revert e56; refine bK fun o93 e92 e56 => ?_
      refine awp_loopW (fun (v : (List ByteArray) × Nat) (σ : St) => r16_Strings_L1 a1 v.1 v.2 = some o93 ∧ v.1 = a0.drop v.2 ∧ σ.env 0 = .cell (sC a0) ∧ σ.env 1 = .cell (sC a1) ∧ σ.env 5 = iV .i64 ((v.2 : Nat) : Int) ∧ 3 ≤ σ.gen) (fun v => v.1.length) _ (Gh.refl _) (a0, 0) ⟨e92, by simp, pv f0, pv f0, pv f0, pg⟩ fun v σ6 hp L94 hL95 => ?_
      obtain ⟨q97, k76⟩ := v
      dsimp only at hp hL95
      obtain ⟨e92, hd96, h5_0, h5_1, h5_5, n5_g⟩ := hp
      rcases q97 with _ | ⟨x102, q98⟩
      · have hlt99 := drop_end hd96
        rw [r16_Strings_L1] at e92; try dsimp only at e92
        have F1 := an h5_0 (an h5_1 h5_5)
        refine goR F1 ?_
        refine condK_f (by simp [ltI]; omega) ?_
        obtain rfl := sj e92
        try dsimp only at e56
        exact hK58 () _ _ (Gh.refl _) ⟨e56, pg⟩
      · obtain ⟨hx101, hlt99, hd103⟩ := drop_next hd96
        have ew100 := wrap_succ hlt99 (hb1).len
        rw [r16_Strings_L1] at e92; try dsimp only at e92
        have F2 := an h5_0 (an h5_1 (an h5_5 (an hlt99 ew100)))
        refine goR F2 ?_
        refine condK_t (by simp [ltI]; omega) ?_
        have f108 : partCV Tryd.prog 9 (encL a0) (k76) = some (sV x102) := partCV_enc1 hx101 (by simp)
        revert e92; refine bK fun x109 hx110 e92 => ?_
        have hx110b := getN_some hx110
        have f111 : partCV Tryd.prog 9 (encL a1) (k76) = some (sV x109) := partCV_enc1 hx110 (by simp)
        have F3 := an F2 (an f108 f111)
        refine goD F3 ?_
        revert e92; refine cS F3 ?_ ?_ <;> intro h112 e92
        · refine goD F3 ?_
          obtain rfl := sj e92
          try dsimp only at e56
          obtain rfl := sj e56
          try dsimp only at hs
          refine hX59 _ _ (by simp) ?_
          refine goD F3 ?_
          obtain rfl := sj hs
          exact hQ _ _ (rg F3 (Gh.refl _))
        · refine goD F3 ?_
          exact hL95 (q98, (k76 + 1)) _ _ (Gh.refl _) ⟨e92, hd103, pv F3, pv F3, pv F3, pg⟩ (by simp)
    · obtain ⟨e56, n4_g⟩ := hp
      obtain rfl := sj e56
      try dsimp only at hs
      refine goR f0 ?_
      obtain rfl := sj hs
      exact hQ _ _ (rg f0 (Gh.refl _))
end Go.Dc
end
section
set_option linter.all false
namespace Go.Dc
open Go Go.Hw Go.Proofs
set_option maxRecDepth 100000
def slices_Clone_api_Var (a0 : List Var) : Option (List Var) := guardO (limB 24 a0.length) (some a0)

set_option maxHeartbeats 2000000 in
theorem at_slices_Clone_api_Var {a0 r : List Var} (hs : slices_Clone_api_Var a0 = some r) : CAt Tryd.prog 82 [.cell (sC a0)] [] (.ret (.cell (.sl (.r 0) 0 2 r.length))) [(.r 0, .pure (encL r))] := by
  rw [slices_Clone_api_Var] at hs
  obtain ⟨g1, hs⟩ := guardO_some hs
  obtain rfl := Option.some.inj hs
  obtain ⟨g1a, g1b⟩ := limB_t g1
  refine at_code mixed Tryd.func82 (by kernel_rfl) rfl (by kernel_rfl) rfl fun Q hQ => ?_
  repeat (first | simp | with_reducible first | refine awp_reg ?_ | refine And.intro (by omega) ?_ | refine optF_if (by omega) ?_)
  unfold nilK
  simp only [Tryd.underlying37]
  refine ⟨fun h => ?_, ?_⟩
  · have h0 := encL_nil_of (by simp) h
    subst h0
    repeat (first | simp | with_reducible first | refine awp_reg ?_ | refine And.intro (by omega) ?_ | refine optF_if (by omega) ?_)
    refine hQ _ _ (ret2g _ (Gh.void _ (.r 0) 2 2 rfl (by simp)) (by simp [St.void, St.kil]; rfl) (by first | rfl | simp) (by simp [St.void, St.kil]))
  · repeat (first | simp | with_reducible first | refine awp_reg ?_ | refine And.intro (by omega) ?_ | refine optF_if (by omega) ?_)
    refine hQ _ _ (ret2g _ (Gh.ren _ (.o 3 2 0) (.r 0) (by simp) rfl rfl) (by simp; rfl) (by first | rfl | simp) (by simp))
end Go.Dc
end
section
set_option linter.all false
namespace Go.Dc
open Go Go.Hw Go.Proofs
set_option maxRecDepth 100000
def slices_Clone_string (a0 : List ByteArray) : Option (List ByteArray) := guardO (limB 16 a0.length) (some a0)

set_option maxHeartbeats 2000000 in
theorem at_slices_Clone_string {a0 r : List ByteArray} (hs : slices_Clone_string a0 = some r) : CAt Tryd.prog 83 [.cell (sC a0)] [] (.ret (.cell (.sl (.r 0) 0 1 r.length))) [(.r 0, .pure (encL r))] := by
  rw [slices_Clone_string] at hs
  obtain ⟨g1, hs⟩ := guardO_some hs
  obtain rfl := Option.some.inj hs
  obtain ⟨g1a, g1b⟩ := limB_t g1
  refine at_code mixed Tryd.func83 (by kernel_rfl) rfl (by kernel_rfl) rfl fun Q hQ => ?_
  repeat (first | simp | with_reducible first | refine awp_reg ?_ | refine And.intro (by omega) ?_ | refine optF_if (by omega) ?_)
  unfold nilK
  simp only [Tryd.underlying38]
  refine ⟨fun h => ?_, ?_⟩
  · have h0 := encL_nil_of (by simp) h
    subst h0
    repeat (first | simp | with_reducible first | refine awp_reg ?_ | refine And.intro (by omega) ?_ | refine optF_if (by omega) ?_)
    refine hQ _ _ (ret2g _ (Gh.void _ (.r 0) 2 1 rfl (by simp)) (by simp [St.void, St.kil]; rfl) (by first | rfl | simp) (by simp [St.void, St.kil]))
  · repeat (first | simp | with_reducible first | refine awp_reg ?_ | refine And.intro (by omega) ?_ | refine optF_if (by omega) ?_)
    refine hQ _ _ (ret2g _ (Gh.ren _ (.o 3 2 0) (.r 0) (by simp) rfl rfl) (by simp; rfl) (by first | rfl | simp) (by simp))
end Go.Dc
end
section
set_option linter.all false
namespace Go.Dc
open Go Go.Hw Go.Proofs
set_option maxRecDepth 100000
def slices_Clone_api_Proc (a0 : List Proc) : Option (List Proc) := guardO (limB 56 a0.length) (some a0)

set_option maxHeartbeats 2000000 in
theorem at_slices_Clone_api_Proc {a0 r : List Proc} (hs : slices_Clone_api_Proc a0 = some r) : CAt Tryd.prog 84 [.cell (sC a0)] [] (.ret (.cell (.sl (.r 0) 0 3 r.length))) [(.r 0, .pure (encL r))] := by
  rw [slices_Clone_api_Proc] at hs
  obtain ⟨g1, hs⟩ := guardO_some hs
  obtain rfl := Option.some.inj hs
  obtain ⟨g1a, g1b⟩ := limB_t g1
  refine at_code mixed Tryd.func84 (by kernel_rfl) rfl (by kernel_rfl) rfl fun Q hQ => ?_
  repeat (first | simp | with_reducible first | refine awp_reg ?_ | refine And.intro (by omega) ?_ | refine optF_if (by omega) ?_)
  unfold nilK
  simp only [Tryd.underlying39]
  refine ⟨fun h => ?_, ?_⟩
  · have h0 := encL_nil_of (by simp) h
    subst h0
    repeat (first | simp | with_reducible first | refine awp_reg ?_ | refine And.intro (by omega) ?_ | refine optF_if (by omega) ?_)
    refine hQ _ _ (ret2g _ (Gh.void _ (.r 0) 2 3 rfl (by simp)) (by simp [St.void, St.kil]; rfl) (by first | rfl | simp) (by simp [St.void, St.kil]))
  · repeat (first | simp | with_reducible first | refine awp_reg ?_ | refine And.intro (by omega) ?_ | refine optF_if (by omega) ?_)
    refine hQ _ _ (ret2g _ (Gh.ren _ (.o 3 2 0) (.r 0) (by simp) rfl rfl) (by simp; rfl) (by first | rfl | simp) (by simp))
end Go.Dc
end
section
set_option linter.all false
namespace Go.Dc
open Go Go.Hw Go.Proofs
set_option maxRecDepth 100000
def slices_Clone_api_Launch (a0 : List Launch) : Option (List Launch) := guardO (limB 24 a0.length) (some a0)

set_option maxHeartbeats 2000000 in
theorem at_slices_Clone_api_Launch {a0 r : List Launch} (hs : slices_Clone_api_Launch a0 = some r) : CAt Tryd.prog 85 [.cell (sC a0)] [] (.ret (.cell (.sl (.r 0) 0 2 r.length))) [(.r 0, .pure (encL r))] := by
  rw [slices_Clone_api_Launch] at hs
  obtain ⟨g1, hs⟩ := guardO_some hs
  obtain rfl := Option.some.inj hs
  obtain ⟨g1a, g1b⟩ := limB_t g1
  refine at_code mixed Tryd.func85 (by kernel_rfl) rfl (by kernel_rfl) rfl fun Q hQ => ?_
  repeat (first | simp | with_reducible first | refine awp_reg ?_ | refine And.intro (by omega) ?_ | refine optF_if (by omega) ?_)
  unfold nilK
  simp only [Tryd.underlying40]
  refine ⟨fun h => ?_, ?_⟩
  · have h0 := encL_nil_of (by simp) h
    subst h0
    repeat (first | simp | with_reducible first | refine awp_reg ?_ | refine And.intro (by omega) ?_ | refine optF_if (by omega) ?_)
    refine hQ _ _ (ret2g _ (Gh.void _ (.r 0) 2 2 rfl (by simp)) (by simp [St.void, St.kil]; rfl) (by first | rfl | simp) (by simp [St.void, St.kil]))
  · repeat (first | simp | with_reducible first | refine awp_reg ?_ | refine And.intro (by omega) ?_ | refine optF_if (by omega) ?_)
    refine hQ _ _ (ret2g _ (Gh.ren _ (.o 3 2 0) (.r 0) (by simp) rfl rfl) (by simp; rfl) (by first | rfl | simp) (by simp))
end Go.Dc
end
section
set_option linter.all false
namespace Go.Dc
open Go Go.Hw Go.Proofs
set_option maxRecDepth 100000
def slices_Clone_api_Stmt (a0 : List Stmt) : Option (List Stmt) := guardO (limB 144 a0.length) (some a0)

set_option maxHeartbeats 2000000 in
theorem at_slices_Clone_api_Stmt {a0 r : List Stmt} (hs : slices_Clone_api_Stmt a0 = some r) : CAt Tryd.prog 127 [.cell (sC a0)] [] (.ret (.cell (.sl (.r 0) 0 9 r.length))) [(.r 0, .pure (encL r))] := by
  rw [slices_Clone_api_Stmt] at hs
  obtain ⟨g1, hs⟩ := guardO_some hs
  obtain rfl := Option.some.inj hs
  obtain ⟨g1a, g1b⟩ := limB_t g1
  refine at_code mixed Tryd.func127 (by kernel_rfl) rfl (by kernel_rfl) rfl fun Q hQ => ?_
  repeat (first | simp | with_reducible first | refine awp_reg ?_ | refine And.intro (by omega) ?_ | refine optF_if (by omega) ?_)
  unfold nilK
  simp only [Tryd.underlying55]
  refine ⟨fun h => ?_, ?_⟩
  · have h0 := encL_nil_of (by simp) h
    subst h0
    repeat (first | simp | with_reducible first | refine awp_reg ?_ | refine And.intro (by omega) ?_ | refine optF_if (by omega) ?_)
    refine hQ _ _ (ret2g _ (Gh.void _ (.r 0) 2 9 rfl (by simp)) (by simp [St.void, St.kil]; rfl) (by first | rfl | simp) (by simp [St.void, St.kil]))
  · repeat (first | simp | with_reducible first | refine awp_reg ?_ | refine And.intro (by omega) ?_ | refine optF_if (by omega) ?_)
    refine hQ _ _ (ret2g _ (Gh.ren _ (.o 3 2 0) (.r 0) (by simp) rfl rfl) (by simp; rfl) (by first | rfl | simp) (by simp))
end Go.Dc
end
section
set_option linter.all false
namespace Go.Dc
open Go Go.Hw Go.Proofs
set_option maxRecDepth 100000
def slices_Clone_api_Expr (a0 : List Expr) : Option (List Expr) := guardO (limB 64 a0.length) (some a0)

set_option maxHeartbeats 2000000 in
theorem at_slices_Clone_api_Expr {a0 r : List Expr} (hs : slices_Clone_api_Expr a0 = some r) : CAt Tryd.prog 165 [.cell (sC a0)] [] (.ret (.cell (.sl (.r 0) 0 5 r.length))) [(.r 0, .pure (encL r))] := by
  rw [slices_Clone_api_Expr] at hs
  obtain ⟨g1, hs⟩ := guardO_some hs
  obtain rfl := Option.some.inj hs
  obtain ⟨g1a, g1b⟩ := limB_t g1
  refine at_code mixed Tryd.func165 (by kernel_rfl) rfl (by kernel_rfl) rfl fun Q hQ => ?_
  repeat (first | simp | with_reducible first | refine awp_reg ?_ | refine And.intro (by omega) ?_ | refine optF_if (by omega) ?_)
  unfold nilK
  simp only [Tryd.underlying48]
  refine ⟨fun h => ?_, ?_⟩
  · have h0 := encL_nil_of (by simp) h
    subst h0
    repeat (first | simp | with_reducible first | refine awp_reg ?_ | refine And.intro (by omega) ?_ | refine optF_if (by omega) ?_)
    refine hQ _ _ (ret2g _ (Gh.void _ (.r 0) 2 5 rfl (by simp)) (by simp [St.void, St.kil]; rfl) (by first | rfl | simp) (by simp [St.void, St.kil]))
  · repeat (first | simp | with_reducible first | refine awp_reg ?_ | refine And.intro (by omega) ?_ | refine optF_if (by omega) ?_)
    refine hQ _ _ (ret2g _ (Gh.ren _ (.o 3 2 0) (.r 0) (by simp) rfl rfl) (by simp; rfl) (by first | rfl | simp) (by simp))
end Go.Dc
end
section
set_option linter.all false
namespace Go.Dc
open Go Go.Hw Go.Proofs
set_option maxRecDepth 100000
def ast_exprs_L1 (rF128z : (List Expr) → Option (List Expr)) : Nat → (List Expr) → Nat → Option (List Expr)
  | 0, l85, k86 => guardO (decide (l85.length ≤ k86)) (some (l85))
  | q105 + 1, l85, k86 => Option.bind (l85[k86]?) (fun x111 => Option.bind (rF128z x111.Args) (fun y114 => Option.bind (some (l85.set k86 ({ x111 with Args := y114 }))) (fun l118 => ast_exprs_L1 rF128z q105 l118 (k86 + 1))))

def ast_exprs_B (rF128z : (List Expr) → Option (List Expr)) (a0 : List Expr) : Option (List Expr) :=
  Option.bind (slices_Clone_api_Expr a0) (fun y1 => Option.bind (α := (List Expr)) (guardO (lenB y1.length) (Option.bind (ast_exprs_L1 rF128z y1.length y1 0) (fun l98 => some (l98)))) (fun l59 => some l59))

def ast_exprs : Nat → (List Expr) → Option (List Expr)
  | 0 => fun _ => none
  | fuelN + 1 => fun a0 => ast_exprs_B (ast_exprs fuelN) a0

set_option maxHeartbeats 2000000 in
theorem at_ast_exprs_B {rF128z : (List Expr) → Option (List Expr)} (ihrF128z : ∀ (a0 : List Expr) (r : (List Expr)), rF128z a0 = some r → CAt Tryd.prog 128 [.cell (sC a0)] [] (.ret (.cell (.sl (.r 0) 0 5 r.length))) [(.r 0, .cells (oencL r))]) {a0 : List Expr} {r : (List Expr)} (hs : ast_exprs_B rF128z a0 = some r) : CAt Tryd.prog 128 [.cell (sC a0)] [] (.ret (.cell (.sl (.r 0) 0 5 r.length))) [(.r 0, .cells (oencL r))] := by
  refine at_bound (by kernel_rfl) fun hb => ?_
  have hb1 : LenOk (.sl a0.length (encL a0)) := lkc hb
  refine at_code mixed Tryd.func128 (by kernel_rfl) rfl (by kernel_rfl) rfl fun Q hQ => ?_
  rw [ast_exprs_B] at hs
  refine goR f0 ?_
  revert hs; refine bK fun y1 hx2 hs => ?_
  refine cA f0 (at_slices_Clone_api_Expr hx2) ?_
  refine goR2 f0 ?_
  revert hs; refine bK fun o61 e60 hs => ?_
  refine awp_cutK (fun (v : (List Expr)) (σ : St) => some (v) = some o61 ∧ σ.env 3 = .cell (.sl (.l 3) 0 5 v.length) ∧ σ.hp (.l 3) = some (.cells (oencL v)) ∧ 3 ≤ σ.gen) (by rfl) (fun Q hK62 hX63 => ?_) (fun l59 σ3 hp => ?_)
  · refine goR f0 ?_
    obtain ⟨hb109, e60⟩ := guardO_some e60
    revert e60; refine bK fun o100 e99 e60 => ?_
    refine awp_loopW (fun (v : Nat × (List Expr) × Nat) (σ : St) => ast_exprs_L1 rF128z v.1 v.2.1 v.2.2 = some o100 ∧ v.1 + v.2.2 = y1.length ∧ σ.env 3 = .cell (.sl (.l 8) 0 5 v.2.1.length) ∧ σ.env 8 = iV .i64 ((y1.length : Nat) : Int) ∧ σ.env 9 = iV .i64 ((v.2.2 : Nat) : Int) ∧ σ.hp (.l 8) = some (.cells (mixL v.2.2 v.2.1)) ∧ 3 ≤ σ.gen) (fun v => v.1) _ ((Gh.cel _ (.o 2 1 0)).trans (Gh.ren _ (.o 2 1 0) (.l 8) (by simp) rfl rfl)) (y1.length, y1, 0) ⟨e99, by first | omega | simp | (simp; omega), pv f0, pv f0, pv f0, pv f0, pg⟩ fun v σ6 hp L101 hL102 => ?_
    obtain ⟨q104, l85, k86⟩ := v
    dsimp only at hp hL102
    obtain ⟨e99, hd103, h5_3, h5_8, h5_9, g5_0, n5_g⟩ := hp
    rcases q104 with _ | q105
    · have hlt106 : ¬ k86 < y1.length := by omega
      rw [ast_exprs_L1] at e99; try dsimp only at e99
      have F1 := an h5_3 (an h5_8 (an h5_9 g5_0))
      refine goR F1 ?_
      refine condK_f (by simp [ltI]; omega) ?_
      obtain ⟨g110, e99⟩ := guardO_some e99
      have g110 := mixL_full (of_decide_eq_true g110)
      obtain rfl := sj e99
      try dsimp only at e60
      have F2 := an F1 g110
      exact hK62 l85 _ _ (Gh.ren _ (.l 8) (.l 3) (by simp) rfl rfl) ⟨e60, pv F2, pv F2, pg⟩
    · have hlt106 : k86 < y1.length := by omega
      have ew107 := wrap_succG hlt106 hb109
      rw [ast_exprs_L1] at e99; try dsimp only at e99
      have F3 := an h5_3 (an h5_8 (an h5_9 (an g5_0 (an hlt106 ew107))))
      refine goR F3 ?_
      refine condK_t (by simp [ltI]; omega) ?_
      revert e99; refine bK fun x111 hx112 e99 => ?_
      have hx112b := getN_some hx112
      have f113 : (mixL k86 l85)[k86 * 5 + 4]? = some (sC x111.Args) := mixL_get hx112 (Nat.le_refl _) (f := 4) (by first | rfl | (simp; done) | (simp; rfl))
      have f113t := take_one f113
      have F4 := an F3 (an f113 f113t)
      refine goR F4 ?_
      revert e99; refine bK fun y114 hx115 e99 => ?_
      refine cA F4 (ihrF128z _ _ hx115) ?_
      have f116l : k86 * 5 + 4 < (mixL k86 l85).length := by rw [mixL_length]; have := getN_some hx112; simp; omega
      have f116c := fun c => (set_seg f116l c).1
      have f116d := fun c => (set_seg f116l c).2
      revert e99; refine lK fun l118 hx119 e99 => ?_
      have f117 : (mixL k86 l85).set (k86 * 5 + 4) (.own (.sl 5 y114.length (otL y114))) = mixL (k86 + 1) l118 := by rw [hx119]; exact mixL_set hx112 (f := 4) (by simp) (by first | rfl | (simp; done) | (simp [partL]; done) | (simp [partL]; rfl))
      have f117n : l118.length = l85.length := by rw [hx119]; simp
      have F5 := an F4 (an f116c (an f116d (an f117 f117n)))
      refine goN F5 ?_
      refine awp_gh (by rfl) (Gh.close _ (.l 8) (k86 * 5 + 4)) ?_
      try simp only [St.frz, St.pur]
      refine goR F5 ?_
      exact hL102 (q105, l118, (k86 + 1)) _ _ (Gh.refl _) ⟨e99, (by first | omega | (simp; omega)), pv F5, pv F5, pv F5, pv F5, pg⟩ (by omega)
  · obtain ⟨e60, h4_3, g4_0, n4_g⟩ := hp
    obtain rfl := sj e60
    try dsimp only at hs
    have F6 := an h4_3 g4_0
    refine goR F6 ?_
    obtain rfl := sj hs
    refine hQ _ _ (ret2g _ (Gh.ren _ (.l 3) (.r 0) (by simp) rfl rfl) (by simp [St.frz, St.pur, F6]; rfl) (by first | rfl | (simp [St.frz, St.pur, F6]; done) | (rw [if_pos (by first | omega | (simp; omega))]; simp [St.frz, St.pur, F6]; first | omega | exact List.take_of_length_le (by simp; omega) | skip)) (pv F6))
theorem at_ast_exprs : ∀ {fuelN : Nat} {a0 : List Expr} {r : (List Expr)} (hs : ast_exprs fuelN a0 = some r), CAt Tryd.prog 128 [.cell (sC a0)] [] (.ret (.cell (.sl (.r 0) 0 5 r.length))) [(.r 0, .cells (oencL r))]
  | 0, _, _, hs => by rw [ast_exprs] at hs; cases hs
  | n + 1, _, _, hs => by
    rw [ast_exprs] at hs
    exact at_ast_exprs_B (fun _ _ h => at_ast_exprs h) hs
end Go.Dc
end
section
set_option linter.all false
namespace Go.Dc
open Go Go.Hw Go.Proofs
set_option maxRecDepth 100000
def ast_block_L1 (fuelN : Nat) (rF86z : (List Stmt) → Option (List Stmt)) : Nat → (List Stmt) → Nat → Option (List Stmt)
  | 0, l157, k158 => guardO (decide (l157.length ≤ k158)) (some (l157))
  | q195 + 1, l157, k158 => Option.bind (l157[k158]?) (fun x201 => Option.bind (ast_exprs fuelN x201.Exprs) (fun y204 => Option.bind (some (l157.set k158 ({ x201 with Exprs := y204 }))) (fun l208 => Option.bind (l208[k158]?) (fun x210 => Option.bind (rF86z x210.Body) (fun y213 => Option.bind (some (l208.set k158 ({ x210 with Body := y213 }))) (fun l217 => Option.bind (l217[k158]?) (fun x219 => Option.bind (rF86z x219.Else) (fun y222 => Option.bind (some (l217.set k158 ({ x219 with Else := y222 }))) (fun l226 => ast_block_L1 fuelN rF86z q195 l226 (k158 + 1))))))))))

def ast_block_B (rF86z : (List Stmt) → Option (List Stmt)) (fuelN : Nat) (a0 : List Stmt) : Option (List Stmt) :=
  Option.bind (slices_Clone_api_Stmt a0) (fun y1 => Option.bind (α := (List Stmt)) (guardO (lenB y1.length) (Option.bind (ast_block_L1 fuelN rF86z y1.length y1 0) (fun l188 => some (l188)))) (fun l113 => some l113))

def ast_block : Nat → (List Stmt) → Option (List Stmt)
  | 0 => fun _ => none
  | fuelN + 1 => fun a0 => ast_block_B (ast_block fuelN) fuelN a0

set_option maxHeartbeats 2000000 in
theorem at_ast_block_B {rF86z : (List Stmt) → Option (List Stmt)} (ihrF86z : ∀ (a0 : List Stmt) (r : (List Stmt)), rF86z a0 = some r → CAt Tryd.prog 86 [.cell (sC a0)] [] (.ret (.cell (.sl (.r 0) 0 9 r.length))) [(.r 0, .cells (oencL r))]) {fuelN : Nat} {a0 : List Stmt} {r : (List Stmt)} (hs : ast_block_B rF86z fuelN a0 = some r) : CAt Tryd.prog 86 [.cell (sC a0)] [] (.ret (.cell (.sl (.r 0) 0 9 r.length))) [(.r 0, .cells (oencL r))] := by
  refine at_bound (by kernel_rfl) fun hb => ?_
  have hb1 : LenOk (.sl a0.length (encL a0)) := lkc hb
  refine at_code mixed Tryd.func86 (by kernel_rfl) rfl (by kernel_rfl) rfl fun Q hQ => ?_
  rw [ast_block_B] at hs
  refine goR f0 ?_
  revert hs; refine bK fun y1 hx2 hs => ?_
  refine cA f0 (at_slices_Clone_api_Stmt hx2) ?_
  refine goR2 f0 ?_
  revert hs; refine bK fun o115 e114 hs => ?_
  refine awp_cutK (fun (v : (List Stmt)) (σ : St) => some (v) = some o115 ∧ σ.env 3 = .cell (.sl (.l 3) 0 9 v.length) ∧ σ.hp (.l 3) = some (.cells (oencL v)) ∧ 3 ≤ σ.gen) (by rfl) (fun Q hK116 hX117 => ?_) (fun l113 σ3 hp => ?_)
  · refine goR f0 ?_
    obtain ⟨hb199, e114⟩ := guardO_some e114
    revert e114; refine bK fun o190 e189 e114 => ?_
    refine awp_loopW (fun (v : Nat × (List Stmt) × Nat) (σ : St) => ast_block_L1 fuelN rF86z v.1 v.2.1 v.2.2 = some o190 ∧ v.1 + v.2.2 = y1.length ∧ σ.env 3 = .cell (.sl (.l 8) 0 9 v.2.1.length) ∧ σ.env 8 = iV .i64 ((y1.length : Nat) : Int) ∧ σ.env 9 = iV .i64 ((v.2.2 : Nat) : Int) ∧ σ.hp (.l 8) = some (.cells (mixL v.2.2 v.2.1)) ∧ 3 ≤ σ.gen) (fun v => v.1) _ ((Gh.cel _ (.o 2 1 0)).trans (Gh.ren _ (.o 2 1 0) (.l 8) (by simp) rfl rfl)) (y1.length, y1, 0) ⟨e189, by first | omega | simp | (simp; omega), pv f0, pv f0, pv f0, pv f0, pg⟩ fun v σ6 hp L191 hL192 => ?_
    obtain ⟨q194, l157, k158⟩ := v
    dsimp only at hp hL192
    obtain ⟨e189, hd193, h5_3, h5_8, h5_9, g5_0, n5_g⟩ := hp
    rcases q194 with _ | q195
    · have hlt196 : ¬ k158 < y1.length := by omega
      rw [ast_block_L1] at e189; try dsimp only at e189
      have F1 := an h5_3 (an h5_8 (an h5_9 g5_0))
      refine goR F1 ?_
      refine condK_f (by simp [ltI]; omega) ?_
      obtain ⟨g200, e189⟩ := guardO_some e189
      have g200 := mixL_full (of_decide_eq_true g200)
      obtain rfl := sj e189
      try dsimp only at e114
      have F2 := an F1 g200
      exact hK116 l157 _ _ (Gh.ren _ (.l 8) (.l 3) (by simp) rfl rfl) ⟨e114, pv F2, pv F2, pg⟩
    · have hlt196 : k158 < y1.length := by omega
      have ew197 := wrap_succG hlt196 hb199
      rw [ast_block_L1] at e189; try dsimp only at e189
      have F3 := an h5_3 (an h5_8 (an h5_9 (an g5_0 (an hlt196 ew197))))
      refine goR F3 ?_
      refine condK_t (by simp [ltI]; omega) ?_
      revert e189; refine bK fun x201 hx202 e189 => ?_
      have hx202b := getN_some hx202
      have f203 : (mixL k158 l157)[k158 * 9 + 6]? = some (sC x201.Exprs) := mixL_get hx202 (Nat.le_refl _) (f := 6) (by first | rfl | (simp; done) | (simp; rfl))
      have f203t := take_one f203
      have F4 := an F3 (an f203 f203t)
      refine goR F4 ?_
      revert e189; refine bK fun y204 hx205 e189 => ?_
      refine cA F4 (at_ast_exprs hx205) ?_
      have f206l : k158 * 9 + 6 < (mixL k158 l157).length := by rw [mixL_length]; have := getN_some hx202; simp; omega
      have f206c := fun c => (set_seg f206l c).1
      have f206d := fun c => (set_seg f206l c).2
      revert e189; refine lK fun l208 hx209 e189 => ?_
      have f207 : (mixL k158 l157).set (k158 * 9 + 6) (.own (.sl 5 y204.length (otL y204))) = mixP k158 7 l208 := by rw [hx209, mixP_zero hx202]; exact mixP_set hx202 (f := 6) (by simp) (by first | rfl | (simp; done) | (simp [partL]; done) | (simp [partL]; rfl))
      have f207n : l208.length = l157.length := by rw [hx209]; simp
      have F5 := an F4 (an f206c (an f206d (an f207 f207n)))
      refine goN F5 ?_
      refine awp_gh (by rfl) (Gh.close _ (.l 8) (k158 * 9 + 6)) ?_
      try simp only [St.frz, St.pur]
      revert e189; refine bK fun x210 hx211 e189 => ?_
      have hx211b := getN_some hx211
      have f212 : (mixP k158 7 l208)[k158 * 9 + 7]? = some (sC x210.Body) := mixP_get hx211 (f := 7) (by simp) (by first | rfl | (simp [partL]; done) | (simp [partL]; rfl))
      have f212t := take_one f212
      have F6 := an F5 (an f212 f212t)
      refine goR F6 ?_
      revert e189; refine bK fun y213 hx214 e189 => ?_
      refine cA F6 (ihrF86z _ _ hx214) ?_
      have f215l : k158 * 9 + 7 < (mixP k158 7 l208).length := by rw [mixP_len hx211]; have := getN_some hx211; simp; omega
      have f215c := fun c => (set_seg f215l c).1
      have f215d := fun c => (set_seg f215l c).2
      revert e189; refine lK fun l217 hx218 e189 => ?_
      have f216 : (mixP k158 7 l208).set (k158 * 9 + 7) (.own (.sl 9 y213.length (otL y213))) = mixP k158 8 l217 := by rw [hx218]; exact mixP_set hx211 (f := 7) (by simp) (by first | rfl | (simp; done) | (simp [partL]; done) | (simp [partL]; rfl))
      have f216n : l217.length = l208.length := by rw [hx218]; simp
      have F7 := an F6 (an f215c (an f215d (an f216 f216n)))
      refine goN F7 ?_
      refine awp_gh (by rfl) (Gh.close _ (.l 8) (k158 * 9 + 7)) ?_
      try simp only [St.frz, St.pur]
      revert e189; refine bK fun x219 hx220 e189 => ?_
      have hx220b := getN_some hx220
      have f221 : (mixP k158 8 l217)[k158 * 9 + 8]? = some (sC x219.Else) := mixP_get hx220 (f := 8) (by simp) (by first | rfl | (simp [partL]; done) | (simp [partL]; rfl))
      have f221t := take_one f221
      have F8 := an F7 (an f221 f221t)
      refine goR F8 ?_
      revert e189; refine bK fun y222 hx223 e189 => ?_
      refine cA F8 (ihrF86z _ _ hx223) ?_
      have f224l : k158 * 9 + 8 < (mixP k158 8 l217).length := by rw [mixP_len hx220]; have := getN_some hx220; simp; omega
      have f224c := fun c => (set_seg f224l c).1
      have f224d := fun c => (set_seg f224l c).2
      revert e189; refine lK fun l226 hx227 e189 => ?_
      have f225 : (mixP k158 8 l217).set (k158 * 9 + 8) (.own (.sl 9 y222.length (otL y222))) = mixL (k158 + 1) l226 := by rw [hx227]; exact mixP_fin hx220 (f := 8) (by simp) (by first | rfl | (simp; done) | (simp [partL]; done) | (simp [partL]; rfl))
      have f225n : l226.length = l217.length := by rw [hx227]; simp
      have F9 := an F8 (an f224c (an f224d (an f225 f225n)))
      refine goN F9 ?_
      refine awp_gh (by rfl) (Gh.close _ (.l 8) (k158 * 9 + 8)) ?_
      try simp only [St.frz, St.pur]
      refine goR F9 ?_
      exact hL192 (q195, l226, (k158 + 1)) _ _ (Gh.refl _) ⟨e189, (by first | omega | (simp; omega)), pv F9, pv F9, pv F9, pv F9, pg⟩ (by omega)
  · obtain ⟨e114, h4_3, g4_0, n4_g⟩ := hp
    obtain rfl := sj e114
    try dsimp only at hs
    have F10 := an h4_3 g4_0
    refine goR F10 ?_
    obtain rfl := sj hs
    refine hQ _ _ (ret2g _ (Gh.ren _ (.l 3) (.r 0) (by simp) rfl rfl) (by simp [St.frz, St.pur, F10]; rfl) (by first | rfl | (simp [St.frz, St.pur, F10]; done) | (rw [if_pos (by first | omega | (simp; omega))]; simp [St.frz, St.pur, F10]; first | omega | exact List.take_of_length_le (by simp; omega) | skip)) (pv F10))
theorem at_ast_block : ∀ {fuelN : Nat} {a0 : List Stmt} {r : (List Stmt)} (hs : ast_block fuelN a0 = some r), CAt Tryd.prog 86 [.cell (sC a0)] [] (.ret (.cell (.sl (.r 0) 0 9 r.length))) [(.r 0, .cells (oencL r))]
  | 0, _, _, hs => by rw [ast_block] at hs; cases hs
  | n + 1, _, _, hs => by
    rw [ast_block] at hs
    exact at_ast_block_B (fun _ _ h => at_ast_block h) hs
end Go.Dc
end
section
set_option linter.all false
namespace Go.Dc
open Go Go.Hw Go.Proofs
set_option maxRecDepth 100000
def ast_Clone_L1 (fuelN : Nat) : Nat → Nat → (List Proc) → Option (List Proc)
  | 0, k127, l128 => guardO (decide (l128.length ≤ k127)) (some (l128))
  | q153 + 1, k127, l128 => Option.bind (l128[k127]?) (fun x165 => Option.bind (ast_block fuelN x165.Body) (fun y168 => Option.bind (some (l128.set k127 ({ x165 with Body := y168 }))) (fun l172 => ast_Clone_L1 fuelN q153 (k127 + 1) l172)))

def ast_Clone (fuelN : Nat) (a0 : UnitT) : Option UnitT :=
  Option.bind (slices_Clone_api_Var a0.Vars) (fun y11 => Option.bind (slices_Clone_string a0.Mutexes) (fun y13 => Option.bind (slices_Clone_string a0.Conds) (fun y15 => Option.bind (slices_Clone_api_Proc a0.Procs) (fun y17 => Option.bind (slices_Clone_api_Launch a0.Threads) (fun y19 => Option.bind (α := (List Proc)) (guardO (lenB y17.length) (Option.bind (ast_Clone_L1 fuelN y17.length 0 y17) (fun l146 => some (l146)))) (fun l95 => some ({ Vars := y11, Mutexes := y13, Conds := y15, Procs := l95, Threads := y19 } : UnitT)))))))

set_option maxHeartbeats 2000000 in
theorem at_ast_Clone {fuelN : Nat} {a0 : UnitT} {r : UnitT} (hs : ast_Clone fuelN a0 = some r) : CAt Tryd.prog 40 [.agg (eA a0)] [] (.ret (.agg [.sl (.r 0) 0 2 r.Vars.length, .sl (.r 1) 0 1 r.Mutexes.length, .sl (.r 2) 0 1 r.Conds.length, .sl (.r 3) 0 3 r.Procs.length, .sl (.r 4) 0 2 r.Threads.length])) [(.r 0, .pure (encL r.Vars)), (.r 1, .pure (encL r.Mutexes)), (.r 2, .pure (encL r.Conds)), (.r 3, .cells (oencL r.Procs)), (.r 4, .pure (encL r.Threads))] := by
  refine at_bound (by kernel_rfl) fun hb => ?_
  have hb1 : LenOk (.sl a0.Vars.length (encL a0.Vars)) := lkc hb
  have hb2 : LenOk (.sl a0.Mutexes.length (encL a0.Mutexes)) := lkc hb
  have hb3 : LenOk (.sl a0.Conds.length (encL a0.Conds)) := lkc hb
  have hb4 : LenOk (.sl a0.Procs.length (encL a0.Procs)) := lkc hb
  have hb5 : LenOk (.sl a0.Threads.length (encL a0.Threads)) := lkc hb
  refine at_code mixed Tryd.func40 (by kernel_rfl) rfl (by kernel_rfl) rfl fun Q hQ => ?_
  rw [ast_Clone] at hs
  refine goD f0 ?_
  revert hs; refine bK fun y11 hx12 hs => ?_
  refine cA f0 (at_slices_Clone_api_Var hx12) ?_
  refine goD f0 ?_
  revert hs; refine bK fun y13 hx14 hs => ?_
  refine cA f0 (at_slices_Clone_string hx14) ?_
  refine goD f0 ?_
  revert hs; refine bK fun y15 hx16 hs => ?_
  refine cA f0 (at_slices_Clone_string hx16) ?_
  refine goD f0 ?_
  revert hs; refine bK fun y17 hx18 hs => ?_
  refine cA f0 (at_slices_Clone_api_Proc hx18) ?_
  refine goD f0 ?_
  revert hs; refine bK fun y19 hx20 hs => ?_
  refine cA f0 (at_slices_Clone_api_Launch hx20) ?_
  refine goD2 f0 ?_
  revert hs; refine bK fun o97 e96 hs => ?_
  refine awp_cutK (fun (v : (List Proc)) (σ : St) => some (v) = some o97 ∧ σ.env 2 = .cell (.ref (.o 1 1 0) 0) ∧ σ.env 3 = .cell (.ref (.o 2 16 0) 0) ∧ σ.hp (.o 1 1 0) = some (.cells [.z, .z, .z, .z, .z]) ∧ σ.hp (.l 14) = some (.cells (oencL v)) ∧ σ.hp (.o 2 16 0) = some (.cells [.sl (.o 2 2 0) 0 2 y11.length, .sl (.o 2 5 0) 0 1 y13.length, .sl (.o 2 8 0) 0 1 y15.length, .sl (.l 14) 0 3 v.length, .sl (.o 2 14 0) 0 2 y19.length]) ∧ σ.hp (.o 2 2 0) = some (.pure (encL y11)) ∧ σ.hp (.o 2 5 0) = some (.pure (encL y13)) ∧ σ.hp (.o 2 8 0) = some (.pure (encL y15)) ∧ σ.hp (.o 2 14 0) = some (.pure (encL y19)) ∧ 3 ≤ σ.gen) (by rfl) (fun Q hK98 hX99 => ?_) (fun l95 σ3 hp => ?_)
  · refine goD f0 ?_
    obtain ⟨hb157, e96⟩ := guardO_some e96
    revert e96; refine bK fun o148 e147 e96 => ?_
    refine awp_loopW (fun (v : Nat × Nat × (List Proc)) (σ : St) => ast_Clone_L1 fuelN v.1 v.2.1 v.2.2 = some o148 ∧ v.1 + v.2.1 = y17.length ∧ σ.env 2 = .cell (.ref (.o 1 1 0) 0) ∧ σ.env 3 = .cell (.ref (.o 2 16 0) 0) ∧ σ.env 23 = iV .i64 ((y17.length : Nat) : Int) ∧ σ.env 24 = iV .i64 ((v.2.1 : Nat) : Int) ∧ σ.hp (.o 1 1 0) = some (.cells [.z, .z, .z, .z, .z]) ∧ σ.hp (.l 39) = some (.cells (mixL v.2.1 v.2.2)) ∧ σ.hp (.o 2 16 0) = some (.cells [.sl (.o 2 2 0) 0 2 y11.length, .sl (.o 2 5 0) 0 1 y13.length, .sl (.o 2 8 0) 0 1 y15.length, .sl (.l 39) 0 3 v.2.2.length, .sl (.o 2 14 0) 0 2 y19.length]) ∧ σ.hp (.o 2 2 0) = some (.pure (encL y11)) ∧ σ.hp (.o 2 5 0) = some (.pure (encL y13)) ∧ σ.hp (.o 2 8 0) = some (.pure (encL y15)) ∧ σ.hp (.o 2 14 0) = some (.pure (encL y19)) ∧ 3 ≤ σ.gen) (fun v => v.1) _ ((Gh.cel _ (.o 2 11 0)).trans (Gh.ren _ (.o 2 11 0) (.l 39) (by simp) rfl rfl)) (y17.length, 0, y17) ⟨e147, by first | omega | simp | (simp; omega), pv f0, pv f0, pv f0, pv f0, pv f0, pv f0, pv f0, pv f0, pv f0, pv f0, pv f0, pg⟩ fun v σ6 hp L149 hL150 => ?_
    obtain ⟨q152, k127, l128⟩ := v
    dsimp only at hp hL150
    obtain ⟨e147, hd151, h5_2, h5_3, h5_23, h5_24, g5_0, g5_1, g5_2, g5_3, g5_4, g5_5, g5_6, n5_g⟩ := hp
    have n5_0 : ¬ (σ6.gen = 0) := by omega
    have n5_1 : ¬ (σ6.gen = 1) := by omega
    rcases q152 with _ | q153
    · have hlt154 : ¬ k127 < y17.length := by omega
      rw [ast_Clone_L1] at e147; try dsimp only at e147
      have F1 := an h5_2 (an h5_3 (an h5_23 (an h5_24 (an g5_0 (an g5_1 (an g5_2 (an g5_3 (an g5_4 (an g5_5 (an g5_6 (an n5_0 n5_1)))))))))))
      refine goR F1 ?_
      refine condK_f (by simp [ltI]; omega) ?_
      obtain ⟨g158, e147⟩ := guardO_some e147
      have g158 := mixL_full (of_decide_eq_true g158)
      obtain rfl := sj e147
      try dsimp only at e96
      have F2 := an F1 g158
      exact hK98 l128 _ _ (Gh.ren _ (.l 39) (.l 14) (by simp) rfl rfl) ⟨e96, pv F2, pv F2, pv F2, pv F2, pv F2, pv F2, pv F2, pv F2, pv F2, pg⟩
    · have hlt154 : k127 < y17.length := by omega
      have ew155 := wrap_succG hlt154 hb157
      rw [ast_Clone_L1] at e147; try dsimp only at e147
      have F3 := an h5_2 (an h5_3 (an h5_23 (an h5_24 (an g5_0 (an g5_1 (an g5_2 (an g5_3 (an g5_4 (an g5_5 (an g5_6 (an n5_0 (an n5_1 (an hlt154 ew155)))))))))))))
      refine goR F3 ?_
      refine condK_t (by simp [ltI]; omega) ?_
      revert e147; refine bK fun x165 hx166 e147 => ?_
      have hx166b := getN_some hx166
      have f167 : (mixL k127 l128)[k127 * 3 + 2]? = some (sC x165.Body) := mixL_get hx166 (Nat.le_refl _) (f := 2) (by first | rfl | (simp; done) | (simp; rfl))
      have f167t := take_one f167
      have F4 := an F3 (an f167 f167t)
      refine goD F4 ?_
      revert e147; refine bK fun y168 hx169 e147 => ?_
      refine cA F4 (at_ast_block hx169) ?_
      have f170l : k127 * 3 + 2 < (mixL k127 l128).length := by rw [mixL_length]; have := getN_some hx166; simp; omega
      have f170c := fun c => (set_seg f170l c).1
      have f170d := fun c => (set_seg f170l c).2
      revert e147; refine lK fun l172 hx173 e147 => ?_
      have f171 : (mixL k127 l128).set (k127 * 3 + 2) (.own (.sl 9 y168.length (otL y168))) = mixL (k127 + 1) l172 := by rw [hx173]; exact mixL_set hx166 (f := 2) (by simp) (by first | rfl | (simp; done) | (simp [partL]; done) | (simp [partL]; rfl))
      have f171n : l172.length = l128.length := by rw [hx173]; simp
      have F5 := an F4 (an f170c (an f170d (an f171 f171n)))
      refine goN F5 ?_
      refine awp_gh (by rfl) (Gh.close _ (.l 39) (k127 * 3 + 2)) ?_
      try simp only [St.frz, St.pur]
      refine goR F5 ?_
      exact hL150 (q153, (k127 + 1), l172) _ _ (Gh.refl _) ⟨e147, (by first | omega | (simp; omega)), pv F5, pv F5, pv F5, pv F5, pv F5, pv F5, pv F5, pv F5, pv F5, pv F5, pv F5, pg⟩ (by omega)
  · obtain ⟨e96, h4_2, h4_3, g4_0, g4_1, g4_2, g4_3, g4_4, g4_5, g4_6, n4_g⟩ := hp
    obtain rfl := sj e96
    try dsimp only at hs
    have n4_0 : ¬ (σ3.gen = 0) := by omega
    have n4_1 : ¬ (σ3.gen = 1) := by omega
    have F6 := an h4_2 (an h4_3 (an g4_0 (an g4_1 (an g4_2 (an g4_3 (an g4_4 (an g4_5 (an g4_6 (an n4_0 n4_1)))))))))
    refine goD F6 ?_
    obtain rfl := sj hs
    refine hQ _ _ (ret2g _ ((Gh.ren _ (.o 2 2 0) (.r 0) (by simp) rfl rfl).trans ((Gh.ren _ (.o 2 5 0) (.r 1) (by simp) rfl rfl).trans ((Gh.ren _ (.o 2 8 0) (.r 2) (by simp) rfl rfl).trans ((Gh.ren _ (.l 14) (.r 3) (by simp) rfl rfl).trans (Gh.ren _ (.o 2 14 0) (.r 4) (by simp) rfl rfl))))) (by simp [St.frz, St.pur, F6]; rfl) (by first | rfl | (simp [St.frz, St.pur, F6]; done) | (rw [if_pos (by first | omega | (simp; omega))]; simp [St.frz, St.pur, F6]; first | omega | exact List.take_of_length_le (by simp; omega) | skip)) (pv F6))
end Go.Dc
end
section
set_option linter.all false
namespace Go.Dc
open Go Go.Hw Go.Proofs
set_option maxRecDepth 100000

def ast_sameExpr_1 (rF135z : Expr → Expr → Option Bool) (a0 : Expr) (a1 : Expr) : Option Bool :=
  Option.bind (rF135z a0 a1) (fun y1 => some y1)

set_option maxHeartbeats 2000000 in
theorem at_ast_sameExpr_1 {rF135z : Expr → Expr → Option Bool} (ihrF135z : ∀ (a0 : Expr) (a1 : Expr) (r : Bool), rF135z a0 a1 = some r → At Tryd.prog 135 [.agg (eA a0), .agg (eA a1)] (bV r)) {a0 : Expr} {a1 : Expr} {r : Bool} (hs : ast_sameExpr_1 rF135z a0 a1 = some r) : At Tryd.prog 167 [.agg (eA a0), .agg (eA a1)] (bV r) := by
  refine at_bound (by kernel_rfl) fun hb => ?_
  have hb1 : LenOk (.sl a0.Args.length (encL a0.Args)) := lkc hb
  have hb2 : LenOk (.sl a1.Args.length (encL a1.Args)) := lkc hb
  refine at_code mixed Tryd.func167 (by kernel_rfl) rfl (by kernel_rfl) rfl fun Q hQ => ?_
  rw [ast_sameExpr_1] at hs
  refine goR f0 ?_
  revert hs; refine bK fun y1 hx2 hs => ?_
  refine cP f0 (ihrF135z _ _ _ hx2) ?_
  refine goR f0 ?_
  obtain rfl := sj hs
  exact hQ _ _ (rg f0 (Gh.refl _))
end Go.Dc
end
section
set_option linter.all false
namespace Go.Dc
open Go Go.Hw Go.Proofs
set_option maxRecDepth 100000
def slices_EqualFunc_api_Expr_ast_sameExpr_1_L1 (a1 : List Expr) (rF135z : Expr → Expr → Option Bool) : List Expr → Nat → Option (Unit ⊕ Bool)
  | [], k62 => some (.inl ())
  | x84 :: q80, k62 => Option.bind (a1[k62]?) (fun x87 => Option.bind (ast_sameExpr_1 rF135z x84 x87) (fun y90 => cond (!y90) (some (.inr false)) (slices_EqualFunc_api_Expr_ast_sameExpr_1_L1 a1 rF135z q80 (k62 + 1))))

def slices_EqualFunc_api_Expr_ast_sameExpr_1 (rF135z : Expr → Expr → Option Bool) (a0 : List Expr) (a1 : List Expr) : Option Bool :=
  cond (!(eqI ((a0.length : Nat) : Int) ((a1.length : Nat) : Int))) (some false) (Option.bind (α := Unit ⊕ Bool) (Option.bind (slices_EqualFunc_api_Expr_ast_sameExpr_1_L1 a1 rF135z a0 0) (fun o => match o with | .inl _ => some (.inl ()) | .inr r93 => some (.inr r93))) (fun o => match o with | .inl _ => some true | .inr r94 => some r94))

set_option maxHeartbeats 2000000 in
theorem at_slices_EqualFunc_api_Expr_ast_sameExpr_1 {rF135z : Expr → Expr → Option Bool} (ihrF135z : ∀ (a0 : Expr) (a1 : Expr) (r : Bool), rF135z a0 a1 = some r → At Tryd.prog 135 [.agg (eA a0), .agg (eA a1)] (bV r)) {a0 : List Expr} {a1 : List Expr} {r : Bool} (hs : slices_EqualFunc_api_Expr_ast_sameExpr_1 rF135z a0 a1 = some r) : At Tryd.prog 133 [.cell (sC a0), .cell (sC a1), .cell (.p (.c (.func (.func 167) #[] #[])))] (bV r) := by
  refine at_bound (by kernel_rfl) fun hb => ?_
  have hb1 : LenOk (.sl a0.length (encL a0)) := lkc hb
  have hb2 : LenOk (.sl a1.length (encL a1)) := lkc hb
  refine at_code mixed Tryd.func133 (by kernel_rfl) rfl (by kernel_rfl) rfl fun Q hQ => ?_
  rw [slices_EqualFunc_api_Expr_ast_sameExpr_1] at hs
  refine goR f0 ?_
  revert hs; refine cS f0 ?_ ?_ <;> intro h1 hs
  · refine goR f0 ?_
    obtain rfl := sj hs
    exact hQ _ _ (rg f0 (Gh.refl _))
  · refine goR2 f0 ?_
    revert hs; refine bK fun o47 e46 hs => ?_
    refine awp_cutK (fun (v : Unit) (σ : St) => some (.inl v) = some o47 ∧ 3 ≤ σ.gen) (by rfl) (fun Q hK48 hX49 => ?_) (fun v σ3 hp => ?_)
    · refine goR f0 ?_
      revert e46; refine bK fun o75 e74 e46 => ?_
      refine awp_loopW (fun (v : (List Expr) × Nat) (σ : St) => slices_EqualFunc_api_Expr_ast_sameExpr_1_L1 a1 rF135z v.1 v.2 = some o75 ∧ v.1 = a0.drop v.2 ∧ σ.env 1 = .cell (sC a1) ∧ σ.env 2 = .cell (.p (.c (.func (.func 167) #[] #[]))) ∧ σ.env 15 = .cell (sC a0) ∧ σ.env 16 = iV .i64 ((a0.length : Nat) : Int) ∧ σ.env 17 = iV .i64 ((v.2 : Nat) : Int) ∧ 3 ≤ σ.gen) (fun v => v.1.length) _ (Gh.refl _) (a0, 0) ⟨e74, by simp, pv f0, pv f0, pv f0, pv f0, pv f0, pg⟩ fun v σ6 hp L76 hL77 => ?_
      obtain ⟨q79, k62⟩ := v
      dsimp only at hp hL77
      obtain ⟨e74, hd78, h5_1, h5_2, h5_15, h5_16, h5_17, n5_g⟩ := hp
      rcases q79 with _ | ⟨x84, q80⟩
      · have hlt81 := drop_end hd78
        rw [slices_EqualFunc_api_Expr_ast_sameExpr_1_L1] at e74; try dsimp only at e74
        have F1 := an h5_1 (an h5_2 (an h5_15 (an h5_16 h5_17)))
        refine goR F1 ?_
        refine condK_f (by simp [ltI]; omega) ?_
        obtain rfl := sj e74
        try dsimp only at e46
        exact hK48 () _ _ (Gh.refl _) ⟨e46, pg⟩
      · obtain ⟨hx83, hlt81, hd85⟩ := drop_next hd78
        have ew82 := wrap_succ hlt81 (hb1).len
        rw [slices_EqualFunc_api_Expr_ast_sameExpr_1_L1] at e74; try dsimp only at e74
        have F2 := an h5_1 (an h5_2 (an h5_15 (an h5_16 (an h5_17 (an hlt81 ew82)))))
        refine goR F2 ?_
        refine condK_t (by simp [ltI]; omega) ?_
        have f86 : partCV Tryd.prog 50 (encL a0) (k62 * 5) = some (.agg (eA x84)) := partCV_enc hx83 (f := 0) (by simp)
        revert e74; refine bK fun x87 hx88 e74 => ?_
        have hx88b := getN_some hx88
        have f89 : partCV Tryd.prog 50 (encL a1) (k62 * 5) = some (.agg (eA x87)) := partCV_enc hx88 (f := 0) (by simp)
        have F3 := an F2 (an f86 f89)
        refine goR F3 ?_
        revert e74; refine bK fun y90 hx91 e74 => ?_
        refine cP F3 (at_ast_sameExpr_1 ihrF135z hx91) ?_
        refine goR F3 ?_
        revert e74; refine cS F3 ?_ ?_ <;> intro h92 e74
        · refine goR F3 ?_
          obtain rfl := sj e74
          try dsimp only at e46
          obtain rfl := sj e46
          try dsimp only at hs
          refine hX49 _ _ (by simp) ?_
          refine goR F3 ?_
          obtain rfl := sj hs
          exact hQ _ _ (rg F3 (Gh.refl _))
        · refine goR F3 ?_
          exact hL77 (q80, (k62 + 1)) _ _ (Gh.refl _) ⟨e74, hd85, pv F3, pv F3, pv F3, pv F3, pv F3, pg⟩ (by simp)
    · obtain ⟨e46, n4_g⟩ := hp
      obtain rfl := sj e46
      try dsimp only at hs
      refine goR f0 ?_
      obtain rfl := sj hs
      exact hQ _ _ (rg f0 (Gh.refl _))
end Go.Dc
end
section
set_option linter.all false
namespace Go.Dc
open Go Go.Hw Go.Proofs
set_option maxRecDepth 100000

def ast_sameExpr_B (rF135z : Expr → Expr → Option Bool) (a0 : Expr) (a1 : Expr) : Option Bool :=
  guardO (orB (!(andB (andB (andB (eqI a0.Kind a1.Kind) (eqI a0.N a1.N)) (eqS a0.Name a1.Name)) (eqI a0.Fn a1.Fn))) ((slices_EqualFunc_api_Expr_ast_sameExpr_1 rF135z a0.Args a1.Args).isSome)) (some (andB (andB (andB (andB (eqI a0.Kind a1.Kind) (eqI a0.N a1.N)) (eqS a0.Name a1.Name)) (eqI a0.Fn a1.Fn)) ((slices_EqualFunc_api_Expr_ast_sameExpr_1 rF135z a0.Args a1.Args).getD default)))

def ast_sameExpr : Nat → Expr → Expr → Option Bool
  | 0 => fun _ _ => none
  | fuelN + 1 => fun a0 a1 => ast_sameExpr_B (ast_sameExpr fuelN) a0 a1

set_option maxHeartbeats 2000000 in
theorem at_ast_sameExpr_B {rF135z : Expr → Expr → Option Bool} (ihrF135z : ∀ (a0 : Expr) (a1 : Expr) (r : Bool), rF135z a0 a1 = some r → At Tryd.prog 135 [.agg (eA a0), .agg (eA a1)] (bV r)) {a0 : Expr} {a1 : Expr} {r : Bool} (hs : ast_sameExpr_B rF135z a0 a1 = some r) : At Tryd.prog 135 [.agg (eA a0), .agg (eA a1)] (bV r) := by
  refine at_bound (by kernel_rfl) fun hb => ?_
  have hb1 : LenOk (.sl a0.Args.length (encL a0.Args)) := lkc hb
  have hb2 : LenOk (.sl a1.Args.length (encL a1.Args)) := lkc hb
  refine at_code mixed Tryd.func135 (by kernel_rfl) rfl (by kernel_rfl) rfl fun Q hQ => ?_
  rw [ast_sameExpr_B] at hs
  refine goG f0 f0 ?_
  obtain ⟨g1, hs⟩ := guardO_some hs
  refine gsel_call (fun hg => at_slices_EqualFunc_api_Expr_ast_sameExpr_1 ihrF135z (under_call g1 hg)) (fun hg => by (try simp at hg); (first | simp [hg, id]); try rfl) (fun hg => by (try simp at hg); simp [hg, id]) (by simp) ?_
  refine goG f0 f0 ?_
  obtain rfl := sj hs
  exact hQ _ _ (rg f0 (Gh.refl _))
theorem at_ast_sameExpr : ∀ {fuelN : Nat} {a0 : Expr} {a1 : Expr} {r : Bool} (hs : ast_sameExpr fuelN a0 a1 = some r), At Tryd.prog 135 [.agg (eA a0), .agg (eA a1)] (bV r)
  | 0, _, _, _, hs => by rw [ast_sameExpr] at hs; cases hs
  | n + 1, _, _, _, hs => by
    rw [ast_sameExpr] at hs
    exact at_ast_sameExpr_B (fun _ _ _ h => at_ast_sameExpr h) hs
end Go.Dc
end
section
set_option linter.all false
namespace Go.Dc
open Go Go.Hw Go.Proofs
set_option maxRecDepth 100000

def ast_sameStmt_2 (fuelN : Nat) (a0 : Expr) (a1 : Expr) : Option Bool :=
  Option.bind (ast_sameExpr fuelN a0 a1) (fun y1 => some y1)

set_option maxHeartbeats 2000000 in
theorem at_ast_sameStmt_2 {fuelN : Nat} {a0 : Expr} {a1 : Expr} {r : Bool} (hs : ast_sameStmt_2 fuelN a0 a1 = some r) : At Tryd.prog 134 [.agg (eA a0), .agg (eA a1)] (bV r) := by
  refine at_bound (by kernel_rfl) fun hb => ?_
  have hb1 : LenOk (.sl a0.Args.length (encL a0.Args)) := lkc hb
  have hb2 : LenOk (.sl a1.Args.length (encL a1.Args)) := lkc hb
  refine at_code mixed Tryd.func134 (by kernel_rfl) rfl (by kernel_rfl) rfl fun Q hQ => ?_
  rw [ast_sameStmt_2] at hs
  refine goR f0 ?_
  revert hs; refine bK fun y1 hx2 hs => ?_
  refine cP f0 (at_ast_sameExpr hx2) ?_
  refine goR f0 ?_
  obtain rfl := sj hs
  exact hQ _ _ (rg f0 (Gh.refl _))
end Go.Dc
end
section
set_option linter.all false
namespace Go.Dc
open Go Go.Hw Go.Proofs
set_option maxRecDepth 100000
def slices_EqualFunc_api_Expr_ast_sameStmt_2_L1 (fuelN : Nat) (a1 : List Expr) : List Expr → Nat → Option (Unit ⊕ Bool)
  | [], k62 => some (.inl ())
  | x84 :: q80, k62 => Option.bind (a1[k62]?) (fun x87 => Option.bind (ast_sameStmt_2 fuelN x84 x87) (fun y90 => cond (!y90) (some (.inr false)) (slices_EqualFunc_api_Expr_ast_sameStmt_2_L1 fuelN a1 q80 (k62 + 1))))

def slices_EqualFunc_api_Expr_ast_sameStmt_2 (fuelN : Nat) (a0 : List Expr) (a1 : List Expr) : Option Bool :=
  cond (!(eqI ((a0.length : Nat) : Int) ((a1.length : Nat) : Int))) (some false) (Option.bind (α := Unit ⊕ Bool) (Option.bind (slices_EqualFunc_api_Expr_ast_sameStmt_2_L1 fuelN a1 a0 0) (fun o => match o with | .inl _ => some (.inl ()) | .inr r93 => some (.inr r93))) (fun o => match o with | .inl _ => some true | .inr r94 => some r94))

set_option maxHeartbeats 2000000 in
theorem at_slices_EqualFunc_api_Expr_ast_sameStmt_2 {fuelN : Nat} {a0 : List Expr} {a1 : List Expr} {r : Bool} (hs : slices_EqualFunc_api_Expr_ast_sameStmt_2 fuelN a0 a1 = some r) : At Tryd.prog 133 [.cell (sC a0), .cell (sC a1), .cell (.p (.c (.func (.func 134) #[] #[])))] (bV r) := by
  refine at_bound (by kernel_rfl) fun hb => ?_
  have hb1 : LenOk (.sl a0.length (encL a0)) := lkc hb
  have hb2 : LenOk (.sl a1.length (encL a1)) := lkc hb
  refine at_code mixed Tryd.func133 (by kernel_rfl) rfl (by kernel_rfl) rfl fun Q hQ => ?_
  rw [slices_EqualFunc_api_Expr_ast_sameStmt_2] at hs
  refine goR f0 ?_
  revert hs; refine cS f0 ?_ ?_ <;> intro h1 hs
  · refine goR f0 ?_
    obtain rfl := sj hs
    exact hQ _ _ (rg f0 (Gh.refl _))
  · refine goR2 f0 ?_
    revert hs; refine bK fun o47 e46 hs => ?_
    refine awp_cutK (fun (v : Unit) (σ : St) => some (.inl v) = some o47 ∧ 3 ≤ σ.gen) (by rfl) (fun Q hK48 hX49 => ?_) (fun v σ3 hp => ?_)
    · refine goR f0 ?_
      revert e46; refine bK fun o75 e74 e46 => ?_
      refine awp_loopW (fun (v : (List Expr) × Nat) (σ : St) => slices_EqualFunc_api_Expr_ast_sameStmt_2_L1 fuelN a1 v.1 v.2 = some o75 ∧ v.1 = a0.drop v.2 ∧ σ.env 1 = .cell (sC a1) ∧ σ.env 2 = .cell (.p (.c (.func (.func 134) #[] #[]))) ∧ σ.env 15 = .cell (sC a0) ∧ σ.env 16 = iV .i64 ((a0.length : Nat) : Int) ∧ σ.env 17 = iV .i64 ((v.2 : Nat) : Int) ∧ 3 ≤ σ.gen) (fun v => v.1.length) _ (Gh.refl _) (a0, 0) ⟨e74, by simp, pv f0, pv f0, pv f0, pv f0, pv f0, pg⟩ fun v σ6 hp L76 hL77 => ?_
      obtain ⟨q79, k62⟩ := v
      dsimp only at hp hL77
      obtain ⟨e74, hd78, h5_1, h5_2, h5_15, h5_16, h5_17, n5_g⟩ := hp
      rcases q79 with _ | ⟨x84, q80⟩
      · have hlt81 := drop_end hd78
        rw [slices_EqualFunc_api_Expr_ast_sameStmt_2_L1] at e74; try dsimp only at e74
        have F1 := an h5_1 (an h5_2 (an h5_15 (an h5_16 h5_17)))
        refine goR F1 ?_
        refine condK_f (by simp [ltI]; omega) ?_
        obtain rfl := sj e74
        try dsimp only at e46
        exact hK48 () _ _ (Gh.refl _) ⟨e46, pg⟩
      · obtain ⟨hx83, hlt81, hd85⟩ := drop_next hd78
        have ew82 := wrap_succ hlt81 (hb1).len
        rw [slices_EqualFunc_api_Expr_ast_sameStmt_2_L1] at e74; try dsimp only at e74
        have F2 := an h5_1 (an h5_2 (an h5_15 (an h5_16 (an h5_17 (an hlt81 ew82)))))
        refine goR F2 ?_
        refine condK_t (by simp [ltI]; omega) ?_
        have f86 : partCV Tryd.prog 50 (encL a0) (k62 * 5) = some (.agg (eA x84)) := partCV_enc hx83 (f := 0) (by simp)
        revert e74; refine bK fun x87 hx88 e74 => ?_
        have hx88b := getN_some hx88
        have f89 : partCV Tryd.prog 50 (encL a1) (k62 * 5) = some (.agg (eA x87)) := partCV_enc hx88 (f := 0) (by simp)
        have F3 := an F2 (an f86 f89)
        refine goR F3 ?_
        revert e74; refine bK fun y90 hx91 e74 => ?_
        refine cP F3 (at_ast_sameStmt_2 hx91) ?_
        refine goR F3 ?_
        revert e74; refine cS F3 ?_ ?_ <;> intro h92 e74
        · refine goR F3 ?_
          obtain rfl := sj e74
          try dsimp only at e46
          obtain rfl := sj e46
          try dsimp only at hs
          refine hX49 _ _ (by simp) ?_
          refine goR F3 ?_
          obtain rfl := sj hs
          exact hQ _ _ (rg F3 (Gh.refl _))
        · refine goR F3 ?_
          exact hL77 (q80, (k62 + 1)) _ _ (Gh.refl _) ⟨e74, hd85, pv F3, pv F3, pv F3, pv F3, pv F3, pg⟩ (by simp)
    · obtain ⟨e46, n4_g⟩ := hp
      obtain rfl := sj e46
      try dsimp only at hs
      refine goR f0 ?_
      obtain rfl := sj hs
      exact hQ _ _ (rg f0 (Gh.refl _))
end Go.Dc
end
section
set_option linter.all false
namespace Go.Dc
open Go Go.Hw Go.Proofs
set_option maxRecDepth 100000

def ast_sameStmt_1_1 (rF93z : Stmt → Stmt → Option Bool) (a0 : Stmt) (a1 : Stmt) : Option Bool :=
  Option.bind (rF93z a0 a1) (fun y1 => some y1)

set_option maxHeartbeats 2000000 in
theorem at_ast_sameStmt_1_1 {rF93z : Stmt → Stmt → Option Bool} (ihrF93z : ∀ (a0 : Stmt) (a1 : Stmt) (r : Bool), rF93z a0 a1 = some r → At Tryd.prog 93 [.agg (eA a0), .agg (eA a1)] (bV r)) {a0 : Stmt} {a1 : Stmt} {r : Bool} (hs : ast_sameStmt_1_1 rF93z a0 a1 = some r) : At Tryd.prog 132 [.agg (eA a0), .agg (eA a1)] (bV r) := by
  refine at_bound (by kernel_rfl) fun hb => ?_
  have hb1 : LenOk (.sl a0.Exprs.length (encL a0.Exprs)) := lkc hb
  have hb2 : LenOk (.sl a0.Body.length (encL a0.Body)) := lkc hb
  have hb3 : LenOk (.sl a0.Else.length (encL a0.Else)) := lkc hb
  have hb4 : LenOk (.sl a1.Exprs.length (encL a1.Exprs)) := lkc hb
  have hb5 : LenOk (.sl a1.Body.length (encL a1.Body)) := lkc hb
  have hb6 : LenOk (.sl a1.Else.length (encL a1.Else)) := lkc hb
  refine at_code mixed Tryd.func132 (by kernel_rfl) rfl (by kernel_rfl) rfl fun Q hQ => ?_
  rw [ast_sameStmt_1_1] at hs
  refine goR f0 ?_
  revert hs; refine bK fun y1 hx2 hs => ?_
  refine cP f0 (ihrF93z _ _ _ hx2) ?_
  refine goR f0 ?_
  obtain rfl := sj hs
  exact hQ _ _ (rg f0 (Gh.refl _))
end Go.Dc
end
section
set_option linter.all false
namespace Go.Dc
open Go Go.Hw Go.Proofs
set_option maxRecDepth 100000
def slices_EqualFunc_api_Stmt_ast_sameStmt_1_1_L1 (a1 : List Stmt) (rF93z : Stmt → Stmt → Option Bool) : List Stmt → Nat → Option (Unit ⊕ Bool)
  | [], k62 => some (.inl ())
  | x84 :: q80, k62 => Option.bind (a1[k62]?) (fun x87 => Option.bind (ast_sameStmt_1_1 rF93z x84 x87) (fun y90 => cond (!y90) (some (.inr false)) (slices_EqualFunc_api_Stmt_ast_sameStmt_1_1_L1 a1 rF93z q80 (k62 + 1))))

def slices_EqualFunc_api_Stmt_ast_sameStmt_1_1 (rF93z : Stmt → Stmt → Option Bool) (a0 : List Stmt) (a1 : List Stmt) : Option Bool :=
  cond (!(eqI ((a0.length : Nat) : Int) ((a1.length : Nat) : Int))) (some false) (Option.bind (α := Unit ⊕ Bool) (Option.bind (slices_EqualFunc_api_Stmt_ast_sameStmt_1_1_L1 a1 rF93z a0 0) (fun o => match o with | .inl _ => some (.inl ()) | .inr r93 => some (.inr r93))) (fun o => match o with | .inl _ => some true | .inr r94 => some r94))

set_option maxHeartbeats 2000000 in
theorem at_slices_EqualFunc_api_Stmt_ast_sameStmt_1_1 {rF93z : Stmt → Stmt → Option Bool} (ihrF93z : ∀ (a0 : Stmt) (a1 : Stmt) (r : Bool), rF93z a0 a1 = some r → At Tryd.prog 93 [.agg (eA a0), .agg (eA a1)] (bV r)) {a0 : List Stmt} {a1 : List Stmt} {r : Bool} (hs : slices_EqualFunc_api_Stmt_ast_sameStmt_1_1 rF93z a0 a1 = some r) : At Tryd.prog 91 [.cell (sC a0), .cell (sC a1), .cell (.p (.c (.func (.func 132) #[] #[])))] (bV r) := by
  refine at_bound (by kernel_rfl) fun hb => ?_
  have hb1 : LenOk (.sl a0.length (encL a0)) := lkc hb
  have hb2 : LenOk (.sl a1.length (encL a1)) := lkc hb
  refine at_code mixed Tryd.func91 (by kernel_rfl) rfl (by kernel_rfl) rfl fun Q hQ => ?_
  rw [slices_EqualFunc_api_Stmt_ast_sameStmt_1_1] at hs
  refine goR f0 ?_
  revert hs; refine cS f0 ?_ ?_ <;> intro h1 hs
  · refine goR f0 ?_
    obtain rfl := sj hs
    exact hQ _ _ (rg f0 (Gh.refl _))
  · refine goR2 f0 ?_
    revert hs; refine bK fun o47 e46 hs => ?_
    refine awp_cutK (fun (v : Unit) (σ : St) => some (.inl v) = some o47 ∧ 3 ≤ σ.gen) (by rfl) (fun Q hK48 hX49 => ?_) (fun v σ3 hp => ?_)
    · refine goR f0 ?_
      revert e46; refine bK fun o75 e74 e46 => ?_
      refine awp_loopW (fun (v : (List Stmt) × Nat) (σ : St) => slices_EqualFunc_api_Stmt_ast_sameStmt_1_1_L1 a1 rF93z v.1 v.2 = some o75 ∧ v.1 = a0.drop v.2 ∧ σ.env 1 = .cell (sC a1) ∧ σ.env 2 = .cell (.p (.c (.func (.func 132) #[] #[]))) ∧ σ.env 15 = .cell (sC a0) ∧ σ.env 16 = iV .i64 ((a0.length : Nat) : Int) ∧ σ.env 17 = iV .i64 ((v.2 : Nat) : Int) ∧ 3 ≤ σ.gen) (fun v => v.1.length) _ (Gh.refl _) (a0, 0) ⟨e74, by simp, pv f0, pv f0, pv f0, pv f0, pv f0, pg⟩ fun v σ6 hp L76 hL77 => ?_
      obtain ⟨q79, k62⟩ := v
      dsimp only at hp hL77
      obtain ⟨e74, hd78, h5_1, h5_2, h5_15, h5_16, h5_17, n5_g⟩ := hp
      rcases q79 with _ | ⟨x84, q80⟩
      · have hlt81 := drop_end hd78
        rw [slices_EqualFunc_api_Stmt_ast_sameStmt_1_1_L1] at e74; try dsimp only at e74
        have F1 := an h5_1 (an h5_2 (an h5_15 (an h5_16 h5_17)))
        refine goR F1 ?_
        refine condK_f (by simp [ltI]; omega) ?_
        obtain rfl := sj e74
        try dsimp only at e46
        exact hK48 () _ _ (Gh.refl _) ⟨e46, pg⟩
      · obtain ⟨hx83, hlt81, hd85⟩ := drop_next hd78
        have ew82 := wrap_succ hlt81 (hb1).len
        rw [slices_EqualFunc_api_Stmt_ast_sameStmt_1_1_L1] at e74; try dsimp only at e74
        have F2 := an h5_1 (an h5_2 (an h5_15 (an h5_16 (an h5_17 (an hlt81 ew82)))))
        refine goR F2 ?_
        refine condK_t (by simp [ltI]; omega) ?_
        have f86 : partCV Tryd.prog 67 (encL a0) (k62 * 9) = some (.agg (eA x84)) := partCV_enc hx83 (f := 0) (by simp)
        revert e74; refine bK fun x87 hx88 e74 => ?_
        have hx88b := getN_some hx88
        have f89 : partCV Tryd.prog 67 (encL a1) (k62 * 9) = some (.agg (eA x87)) := partCV_enc hx88 (f := 0) (by simp)
        have F3 := an F2 (an f86 f89)
        refine goR F3 ?_
        revert e74; refine bK fun y90 hx91 e74 => ?_
        refine cP F3 (at_ast_sameStmt_1_1 ihrF93z hx91) ?_
        refine goR F3 ?_
        revert e74; refine cS F3 ?_ ?_ <;> intro h92 e74
        · refine goR F3 ?_
          obtain rfl := sj e74
          try dsimp only at e46
          obtain rfl := sj e46
          try dsimp only at hs
          refine hX49 _ _ (by simp) ?_
          refine goR F3 ?_
          obtain rfl := sj hs
          exact hQ _ _ (rg F3 (Gh.refl _))
        · refine goR F3 ?_
          exact hL77 (q80, (k62 + 1)) _ _ (Gh.refl _) ⟨e74, hd85, pv F3, pv F3, pv F3, pv F3, pv F3, pg⟩ (by simp)
    · obtain ⟨e46, n4_g⟩ := hp
      obtain rfl := sj e46
      try dsimp only at hs
      refine goR f0 ?_
      obtain rfl := sj hs
      exact hQ _ _ (rg f0 (Gh.refl _))
end Go.Dc
end
section
set_option linter.all false
namespace Go.Dc
open Go Go.Hw Go.Proofs
set_option maxRecDepth 100000

def ast_sameStmt_1 (rF93z : Stmt → Stmt → Option Bool) (a0 : List Stmt) (a1 : List Stmt) : Option Bool :=
  Option.bind (slices_EqualFunc_api_Stmt_ast_sameStmt_1_1 rF93z a0 a1) (fun y1 => some y1)

set_option maxHeartbeats 2000000 in
theorem at_ast_sameStmt_1 {rF93z : Stmt → Stmt → Option Bool} (ihrF93z : ∀ (a0 : Stmt) (a1 : Stmt) (r : Bool), rF93z a0 a1 = some r → At Tryd.prog 93 [.agg (eA a0), .agg (eA a1)] (bV r)) {a0 : List Stmt} {a1 : List Stmt} {r : Bool} (hs : ast_sameStmt_1 rF93z a0 a1 = some r) : At Tryd.prog 131 [.cell (sC a0), .cell (sC a1)] (bV r) := by
  refine at_bound (by kernel_rfl) fun hb => ?_
  have hb1 : LenOk (.sl a0.length (encL a0)) := lkc hb
  have hb2 : LenOk (.sl a1.length (encL a1)) := lkc hb
  refine at_code mixed Tryd.func131 (by kernel_rfl) rfl (by kernel_rfl) rfl fun Q hQ => ?_
  rw [ast_sameStmt_1] at hs
  refine goR f0 ?_
  revert hs; refine bK fun y1 hx2 hs => ?_
  refine cP f0 (at_slices_EqualFunc_api_Stmt_ast_sameStmt_1_1 ihrF93z hx2) ?_
  refine goR f0 ?_
  obtain rfl := sj hs
  exact hQ _ _ (rg f0 (Gh.refl _))
end Go.Dc
end
section
set_option linter.all false
namespace Go.Dc
open Go Go.Hw Go.Proofs
set_option maxRecDepth 100000

def ast_sameStmt_B (rF93z : Stmt → Stmt → Option Bool) (fuelN : Nat) (a0 : Stmt) (a1 : Stmt) : Option Bool :=
  cond (orB (orB (orB (orB (orB (!(eqI a0.Kind a1.Kind)) (!(eqS a0.Name a1.Name))) (!(eqS a0.Obj a1.Obj))) (!(eqS a0.Other a1.Other))) (!(eqI a0.Fn a1.Fn))) (!(eqI a0.Order a1.Order))) (some false) (Option.bind (slices_EqualFunc_api_Expr_ast_sameStmt_2 fuelN a0.Exprs a1.Exprs) (fun y2 => cond y2 (Option.bind (ast_sameStmt_1 rF93z a0.Body a1.Body) (fun y5 => cond y5 (Option.bind (ast_sameStmt_1 rF93z a0.Else a1.Else) (fun y8 => some y8)) (some false))) (some false)))

def ast_sameStmt : Nat → Stmt → Stmt → Option Bool
  | 0 => fun _ _ => none
  | fuelN + 1 => fun a0 a1 => ast_sameStmt_B (ast_sameStmt fuelN) fuelN a0 a1

set_option maxHeartbeats 2000000 in
theorem at_ast_sameStmt_B {rF93z : Stmt → Stmt → Option Bool} (ihrF93z : ∀ (a0 : Stmt) (a1 : Stmt) (r : Bool), rF93z a0 a1 = some r → At Tryd.prog 93 [.agg (eA a0), .agg (eA a1)] (bV r)) {fuelN : Nat} {a0 : Stmt} {a1 : Stmt} {r : Bool} (hs : ast_sameStmt_B rF93z fuelN a0 a1 = some r) : At Tryd.prog 93 [.agg (eA a0), .agg (eA a1)] (bV r) := by
  refine at_bound (by kernel_rfl) fun hb => ?_
  have hb1 : LenOk (.sl a0.Exprs.length (encL a0.Exprs)) := lkc hb
  have hb2 : LenOk (.sl a0.Body.length (encL a0.Body)) := lkc hb
  have hb3 : LenOk (.sl a0.Else.length (encL a0.Else)) := lkc hb
  have hb4 : LenOk (.sl a1.Exprs.length (encL a1.Exprs)) := lkc hb
  have hb5 : LenOk (.sl a1.Body.length (encL a1.Body)) := lkc hb
  have hb6 : LenOk (.sl a1.Else.length (encL a1.Else)) := lkc hb
  refine at_code mixed Tryd.func93 (by kernel_rfl) rfl (by kernel_rfl) rfl fun Q hQ => ?_
  rw [ast_sameStmt_B] at hs
  refine goG f0 f0 ?_
  revert hs; refine cS f0 ?_ ?_ <;> intro h1 hs
  · refine goG f0 f0 ?_
    obtain rfl := sj hs
    exact hQ _ _ (rg f0 (Gh.refl _))
  · refine goG f0 f0 ?_
    revert hs; refine bK fun y2 hx3 hs => ?_
    refine cP f0 (at_slices_EqualFunc_api_Expr_ast_sameStmt_2 hx3) ?_
    refine goG f0 f0 ?_
    refine gsel_split (fun h4 => ?_) (fun h4 => ?_)
    · replace hs := condT h4 hs
      refine goG h4 h4 ?_
      revert hs; refine bK fun y5 hx6 hs => ?_
      refine cP h4 (at_ast_sameStmt_1 ihrF93z hx6) ?_
      refine goG h4 h4 ?_
      refine gsel_split (fun h7 => ?_) (fun h7 => ?_)
      · replace hs := condT h7 hs
        have F1 := an h4 h7
        refine goG F1 F1 ?_
        revert hs; refine bK fun y8 hx9 hs => ?_
        refine cP F1 (at_ast_sameStmt_1 ihrF93z hx9) ?_
        refine goG F1 F1 ?_
        obtain rfl := sj hs
        exact hQ _ _ (rg F1 (Gh.refl _))
      · replace hs := condF h7 hs
        have F2 := an h4 h7
        refine goG F2 F2 ?_
        obtain rfl := sj hs
        exact hQ _ _ (rg F2 (Gh.refl _))
    · replace hs := condF h4 hs
      refine goG h4 h4 ?_
      obtain rfl := sj hs
      exact hQ _ _ (rg h4 (Gh.refl _))
theorem at_ast_sameStmt : ∀ {fuelN : Nat} {a0 : Stmt} {a1 : Stmt} {r : Bool} (hs : ast_sameStmt fuelN a0 a1 = some r), At Tryd.prog 93 [.agg (eA a0), .agg (eA a1)] (bV r)
  | 0, _, _, _, hs => by rw [ast_sameStmt] at hs; cases hs
  | n + 1, _, _, _, hs => by
    rw [ast_sameStmt] at hs
    exact at_ast_sameStmt_B (fun _ _ _ h => at_ast_sameStmt h) hs
end Go.Dc
end
section
set_option linter.all false
namespace Go.Dc
open Go Go.Hw Go.Proofs
set_option maxRecDepth 100000

def ast_Equal_1_1 (fuelN : Nat) (a0 : Stmt) (a1 : Stmt) : Option Bool :=
  Option.bind (ast_sameStmt fuelN a0 a1) (fun y1 => some y1)

set_option maxHeartbeats 2000000 in
theorem at_ast_Equal_1_1 {fuelN : Nat} {a0 : Stmt} {a1 : Stmt} {r : Bool} (hs : ast_Equal_1_1 fuelN a0 a1 = some r) : At Tryd.prog 92 [.agg (eA a0), .agg (eA a1)] (bV r) := by
  refine at_bound (by kernel_rfl) fun hb => ?_
  have hb1 : LenOk (.sl a0.Exprs.length (encL a0.Exprs)) := lkc hb
  have hb2 : LenOk (.sl a0.Body.length (encL a0.Body)) := lkc hb
  have hb3 : LenOk (.sl a0.Else.length (encL a0.Else)) := lkc hb
  have hb4 : LenOk (.sl a1.Exprs.length (encL a1.Exprs)) := lkc hb
  have hb5 : LenOk (.sl a1.Body.length (encL a1.Body)) := lkc hb
  have hb6 : LenOk (.sl a1.Else.length (encL a1.Else)) := lkc hb
  refine at_code mixed Tryd.func92 (by kernel_rfl) rfl (by kernel_rfl) rfl fun Q hQ => ?_
  rw [ast_Equal_1_1] at hs
  refine goR f0 ?_
  revert hs; refine bK fun y1 hx2 hs => ?_
  refine cP f0 (at_ast_sameStmt hx2) ?_
  refine goR f0 ?_
  obtain rfl := sj hs
  exact hQ _ _ (rg f0 (Gh.refl _))
end Go.Dc
end
section
set_option linter.all false
namespace Go.Dc
open Go Go.Hw Go.Proofs
set_option maxRecDepth 100000
def slices_EqualFunc_api_Stmt_ast_Equal_1_1_L1 (fuelN : Nat) (a1 : List Stmt) : List Stmt → Nat → Option (Unit ⊕ Bool)
  | [], k62 => some (.inl ())
  | x84 :: q80, k62 => Option.bind (a1[k62]?) (fun x87 => Option.bind (ast_Equal_1_1 fuelN x84 x87) (fun y90 => cond (!y90) (some (.inr false)) (slices_EqualFunc_api_Stmt_ast_Equal_1_1_L1 fuelN a1 q80 (k62 + 1))))

def slices_EqualFunc_api_Stmt_ast_Equal_1_1 (fuelN : Nat) (a0 : List Stmt) (a1 : List Stmt) : Option Bool :=
  cond (!(eqI ((a0.length : Nat) : Int) ((a1.length : Nat) : Int))) (some false) (Option.bind (α := Unit ⊕ Bool) (Option.bind (slices_EqualFunc_api_Stmt_ast_Equal_1_1_L1 fuelN a1 a0 0) (fun o => match o with | .inl _ => some (.inl ()) | .inr r93 => some (.inr r93))) (fun o => match o with | .inl _ => some true | .inr r94 => some r94))

set_option maxHeartbeats 2000000 in
theorem at_slices_EqualFunc_api_Stmt_ast_Equal_1_1 {fuelN : Nat} {a0 : List Stmt} {a1 : List Stmt} {r : Bool} (hs : slices_EqualFunc_api_Stmt_ast_Equal_1_1 fuelN a0 a1 = some r) : At Tryd.prog 91 [.cell (sC a0), .cell (sC a1), .cell (.p (.c (.func (.func 92) #[] #[])))] (bV r) := by
  refine at_bound (by kernel_rfl) fun hb => ?_
  have hb1 : LenOk (.sl a0.length (encL a0)) := lkc hb
  have hb2 : LenOk (.sl a1.length (encL a1)) := lkc hb
  refine at_code mixed Tryd.func91 (by kernel_rfl) rfl (by kernel_rfl) rfl fun Q hQ => ?_
  rw [slices_EqualFunc_api_Stmt_ast_Equal_1_1] at hs
  refine goR f0 ?_
  revert hs; refine cS f0 ?_ ?_ <;> intro h1 hs
  · refine goR f0 ?_
    obtain rfl := sj hs
    exact hQ _ _ (rg f0 (Gh.refl _))
  · refine goR2 f0 ?_
    revert hs; refine bK fun o47 e46 hs => ?_
    refine awp_cutK (fun (v : Unit) (σ : St) => some (.inl v) = some o47 ∧ 3 ≤ σ.gen) (by rfl) (fun Q hK48 hX49 => ?_) (fun v σ3 hp => ?_)
    · refine goR f0 ?_
      revert e46; refine bK fun o75 e74 e46 => ?_
      refine awp_loopW (fun (v : (List Stmt) × Nat) (σ : St) => slices_EqualFunc_api_Stmt_ast_Equal_1_1_L1 fuelN a1 v.1 v.2 = some o75 ∧ v.1 = a0.drop v.2 ∧ σ.env 1 = .cell (sC a1) ∧ σ.env 2 = .cell (.p (.c (.func (.func 92) #[] #[]))) ∧ σ.env 15 = .cell (sC a0) ∧ σ.env 16 = iV .i64 ((a0.length : Nat) : Int) ∧ σ.env 17 = iV .i64 ((v.2 : Nat) : Int) ∧ 3 ≤ σ.gen) (fun v => v.1.length) _ (Gh.refl _) (a0, 0) ⟨e74, by simp, pv f0, pv f0, pv f0, pv f0, pv f0, pg⟩ fun v σ6 hp L76 hL77 => ?_
      obtain ⟨q79, k62⟩ := v
      dsimp only at hp hL77
      obtain ⟨e74, hd78, h5_1, h5_2, h5_15, h5_16, h5_17, n5_g⟩ := hp
      rcases q79 with _ | ⟨x84, q80⟩
      · have hlt81 := drop_end hd78
        rw [slices_EqualFunc_api_Stmt_ast_Equal_1_1_L1] at e74; try dsimp only at e74
        have F1 := an h5_1 (an h5_2 (an h5_15 (an h5_16 h5_17)))
        refine goR F1 ?_
        refine condK_f (by simp [ltI]; omega) ?_
        obtain rfl := sj e74
        try dsimp only at e46
        exact hK48 () _ _ (Gh.refl _) ⟨e46, pg⟩
      · obtain ⟨hx83, hlt81, hd85⟩ := drop_next hd78
        have ew82 := wrap_succ hlt81 (hb1).len
        rw [slices_EqualFunc_api_Stmt_ast_Equal_1_1_L1] at e74; try dsimp only at e74
        have F2 := an h5_1 (an h5_2 (an h5_15 (an h5_16 (an h5_17 (an hlt81 ew82)))))
        refine goR F2 ?_
        refine condK_t (by simp [ltI]; omega) ?_
        have f86 : partCV Tryd.prog 67 (encL a0) (k62 * 9) = some (.agg (eA x84)) := partCV_enc hx83 (f := 0) (by simp)
        revert e74; refine bK fun x87 hx88 e74 => ?_
        have hx88b := getN_some hx88
        have f89 : partCV Tryd.prog 67 (encL a1) (k62 * 9) = some (.agg (eA x87)) := partCV_enc hx88 (f := 0) (by simp)
        have F3 := an F2 (an f86 f89)
        refine goR F3 ?_
        revert e74; refine bK fun y90 hx91 e74 => ?_
        refine cP F3 (at_ast_Equal_1_1 hx91) ?_
        refine goR F3 ?_
        revert e74; refine cS F3 ?_ ?_ <;> intro h92 e74
        · refine goR F3 ?_
          obtain rfl := sj e74
          try dsimp only at e46
          obtain rfl := sj e46
          try dsimp only at hs
          refine hX49 _ _ (by simp) ?_
          refine goR F3 ?_
          obtain rfl := sj hs
          exact hQ _ _ (rg F3 (Gh.refl _))
        · refine goR F3 ?_
          exact hL77 (q80, (k62 + 1)) _ _ (Gh.refl _) ⟨e74, hd85, pv F3, pv F3, pv F3, pv F3, pv F3, pg⟩ (by simp)
    · obtain ⟨e46, n4_g⟩ := hp
      obtain rfl := sj e46
      try dsimp only at hs
      refine goR f0 ?_
      obtain rfl := sj hs
      exact hQ _ _ (rg f0 (Gh.refl _))
end Go.Dc
end
section
set_option linter.all false
namespace Go.Dc
open Go Go.Hw Go.Proofs
set_option maxRecDepth 100000

def ast_Equal_1 (fuelN : Nat) (a0 : Proc) (a1 : Proc) : Option Bool :=
  guardO (orB (!(andB (eqS a0.Name a1.Name) (eqS a0.Param a1.Param))) ((slices_EqualFunc_api_Stmt_ast_Equal_1_1 fuelN a0.Body a1.Body).isSome)) (some (andB (andB (eqS a0.Name a1.Name) (eqS a0.Param a1.Param)) ((slices_EqualFunc_api_Stmt_ast_Equal_1_1 fuelN a0.Body a1.Body).getD default)))

set_option maxHeartbeats 2000000 in
theorem at_ast_Equal_1 {fuelN : Nat} {a0 : Proc} {a1 : Proc} {r : Bool} (hs : ast_Equal_1 fuelN a0 a1 = some r) : At Tryd.prog 90 [.agg (eA a0), .agg (eA a1)] (bV r) := by
  refine at_bound (by kernel_rfl) fun hb => ?_
  have hb1 : LenOk (.sl a0.Body.length (encL a0.Body)) := lkc hb
  have hb2 : LenOk (.sl a1.Body.length (encL a1.Body)) := lkc hb
  refine at_code mixed Tryd.func90 (by kernel_rfl) rfl (by kernel_rfl) rfl fun Q hQ => ?_
  rw [ast_Equal_1] at hs
  refine goG f0 f0 ?_
  obtain ⟨g1, hs⟩ := guardO_some hs
  refine gsel_call (fun hg => at_slices_EqualFunc_api_Stmt_ast_Equal_1_1 (under_call g1 hg)) (fun hg => by (try simp at hg); (first | simp [hg, id]); try rfl) (fun hg => by (try simp at hg); simp [hg, id]) (by simp) ?_
  refine goG f0 f0 ?_
  obtain rfl := sj hs
  exact hQ _ _ (rg f0 (Gh.refl _))
end Go.Dc
end
section
set_option linter.all false
namespace Go.Dc
open Go Go.Hw Go.Proofs
set_option maxRecDepth 100000
def slices_EqualFunc_api_Proc_ast_Equal_1_L1 (fuelN : Nat) (a1 : List Proc) : List Proc → Nat → Option (Unit ⊕ Bool)
  | [], k62 => some (.inl ())
  | x84 :: q80, k62 => Option.bind (a1[k62]?) (fun x87 => Option.bind (ast_Equal_1 fuelN x84 x87) (fun y90 => cond (!y90) (some (.inr false)) (slices_EqualFunc_api_Proc_ast_Equal_1_L1 fuelN a1 q80 (k62 + 1))))

def slices_EqualFunc_api_Proc_ast_Equal_1 (fuelN : Nat) (a0 : List Proc) (a1 : List Proc) : Option Bool :=
  cond (!(eqI ((a0.length : Nat) : Int) ((a1.length : Nat) : Int))) (some false) (Option.bind (α := Unit ⊕ Bool) (Option.bind (slices_EqualFunc_api_Proc_ast_Equal_1_L1 fuelN a1 a0 0) (fun o => match o with | .inl _ => some (.inl ()) | .inr r93 => some (.inr r93))) (fun o => match o with | .inl _ => some true | .inr r94 => some r94))

set_option maxHeartbeats 2000000 in
theorem at_slices_EqualFunc_api_Proc_ast_Equal_1 {fuelN : Nat} {a0 : List Proc} {a1 : List Proc} {r : Bool} (hs : slices_EqualFunc_api_Proc_ast_Equal_1 fuelN a0 a1 = some r) : At Tryd.prog 89 [.cell (sC a0), .cell (sC a1), .cell (.p (.c (.func (.func 90) #[] #[])))] (bV r) := by
  refine at_bound (by kernel_rfl) fun hb => ?_
  have hb1 : LenOk (.sl a0.length (encL a0)) := lkc hb
  have hb2 : LenOk (.sl a1.length (encL a1)) := lkc hb
  refine at_code mixed Tryd.func89 (by kernel_rfl) rfl (by kernel_rfl) rfl fun Q hQ => ?_
  rw [slices_EqualFunc_api_Proc_ast_Equal_1] at hs
  refine goR f0 ?_
  revert hs; refine cS f0 ?_ ?_ <;> intro h1 hs
  · refine goR f0 ?_
    obtain rfl := sj hs
    exact hQ _ _ (rg f0 (Gh.refl _))
  · refine goR2 f0 ?_
    revert hs; refine bK fun o47 e46 hs => ?_
    refine awp_cutK (fun (v : Unit) (σ : St) => some (.inl v) = some o47 ∧ 3 ≤ σ.gen) (by rfl) (fun Q hK48 hX49 => ?_) (fun v σ3 hp => ?_)
    · refine goR f0 ?_
      revert e46; refine bK fun o75 e74 e46 => ?_
      refine awp_loopW (fun (v : (List Proc) × Nat) (σ : St) => slices_EqualFunc_api_Proc_ast_Equal_1_L1 fuelN a1 v.1 v.2 = some o75 ∧ v.1 = a0.drop v.2 ∧ σ.env 1 = .cell (sC a1) ∧ σ.env 2 = .cell (.p (.c (.func (.func 90) #[] #[]))) ∧ σ.env 15 = .cell (sC a0) ∧ σ.env 16 = iV .i64 ((a0.length : Nat) : Int) ∧ σ.env 17 = iV .i64 ((v.2 : Nat) : Int) ∧ 3 ≤ σ.gen) (fun v => v.1.length) _ (Gh.refl _) (a0, 0) ⟨e74, by simp, pv f0, pv f0, pv f0, pv f0, pv f0, pg⟩ fun v σ6 hp L76 hL77 => ?_
      obtain ⟨q79, k62⟩ := v
      dsimp only at hp hL77
      obtain ⟨e74, hd78, h5_1, h5_2, h5_15, h5_16, h5_17, n5_g⟩ := hp
      rcases q79 with _ | ⟨x84, q80⟩
      · have hlt81 := drop_end hd78
        rw [slices_EqualFunc_api_Proc_ast_Equal_1_L1] at e74; try dsimp only at e74
        have F1 := an h5_1 (an h5_2 (an h5_15 (an h5_16 h5_17)))
        refine goR F1 ?_
        refine condK_f (by simp [ltI]; omega) ?_
        obtain rfl := sj e74
        try dsimp only at e46
        exact hK48 () _ _ (Gh.refl _) ⟨e46, pg⟩
      · obtain ⟨hx83, hlt81, hd85⟩ := drop_next hd78
        have ew82 := wrap_succ hlt81 (hb1).len
        rw [slices_EqualFunc_api_Proc_ast_Equal_1_L1] at e74; try dsimp only at e74
        have F2 := an h5_1 (an h5_2 (an h5_15 (an h5_16 (an h5_17 (an hlt81 ew82)))))
        refine goR F2 ?_
        refine condK_t (by simp [ltI]; omega) ?_
        have f86 : partCV Tryd.prog 57 (encL a0) (k62 * 3) = some (.agg (eA x84)) := partCV_enc hx83 (f := 0) (by simp)
        revert e74; refine bK fun x87 hx88 e74 => ?_
        have hx88b := getN_some hx88
        have f89 : partCV Tryd.prog 57 (encL a1) (k62 * 3) = some (.agg (eA x87)) := partCV_enc hx88 (f := 0) (by simp)
        have F3 := an F2 (an f86 f89)
        refine goR F3 ?_
        revert e74; refine bK fun y90 hx91 e74 => ?_
        refine cP F3 (at_ast_Equal_1 hx91) ?_
        refine goR F3 ?_
        revert e74; refine cS F3 ?_ ?_ <;> intro h92 e74
        · refine goR F3 ?_
          obtain rfl := sj e74
          try dsimp only at e46
          obtain rfl := sj e46
          try dsimp only at hs
          refine hX49 _ _ (by simp) ?_
          refine goR F3 ?_
          obtain rfl := sj hs
          exact hQ _ _ (rg F3 (Gh.refl _))
        · refine goR F3 ?_
          exact hL77 (q80, (k62 + 1)) _ _ (Gh.refl _) ⟨e74, hd85, pv F3, pv F3, pv F3, pv F3, pv F3, pg⟩ (by simp)
    · obtain ⟨e46, n4_g⟩ := hp
      obtain rfl := sj e46
      try dsimp only at hs
      refine goR f0 ?_
      obtain rfl := sj hs
      exact hQ _ _ (rg f0 (Gh.refl _))
end Go.Dc
end
section
set_option linter.all false
namespace Go.Dc
open Go Go.Hw Go.Proofs
set_option maxRecDepth 100000
def slices_Equal_api_Var_L1 (a1 : List Var) : List Var → Nat → Option (Unit ⊕ Bool)
  | [], k76 => some (.inl ())
  | x102 :: q98, k76 => Option.bind (a1[k76]?) (fun x109 => cond (!(andB (eqS x102.Name x109.Name) (andB (eqI x102.Init x109.Init) true))) (some (.inr false)) (slices_Equal_api_Var_L1 a1 q98 (k76 + 1)))

def slices_Equal_api_Var (a0 : List Var) (a1 : List Var) : Option Bool :=
  cond (!(eqI ((a0.length : Nat) : Int) ((a1.length : Nat) : Int))) (some false) (Option.bind (α := Unit ⊕ Bool) (Option.bind (slices_Equal_api_Var_L1 a1 a0 0) (fun o => match o with | .inl _ => some (.inl ()) | .inr r113 => some (.inr r113))) (fun o => match o with | .inl _ => some true | .inr r114 => some r114))

set_option maxHeartbeats 2000000 in
theorem at_slices_Equal_api_Var {a0 : List Var} {a1 : List Var} {r : Bool} (hs : slices_Equal_api_Var a0 a1 = some r) : At Tryd.prog 94 [.cell (sC a0), .cell (sC a1)] (bV r) := by
  refine at_bound (by kernel_rfl) fun hb => ?_
  have hb1 : LenOk (.sl a0.length (encL a0)) := lkc hb
  have hb2 : LenOk (.sl a1.length (encL a1)) := lkc hb
  refine at_code mixed Tryd.func94 (by kernel_rfl) rfl (by kernel_rfl) rfl fun Q hQ => ?_
  rw [slices_Equal_api_Var] at hs
  refine goR f0 ?_
  revert hs; refine cS f0 ?_ ?_ <;> intro h1 hs
  · refine goR f0 ?_
    obtain rfl := sj hs
    exact hQ _ _ (rg f0 (Gh.refl _))
  · refine goR2 f0 ?_
    revert hs; refine bK fun o57 e56 hs => ?_
    refine awp_cutK (fun (v : Unit) (σ : St) => some (.inl v) = some o57 ∧ 3 ≤ σ.gen) (by rfl) (fun Q hK58 hX59 => ?_) (fun v σ3 hp => ?_)
    · refine goR f0 ?_
      revert e56; refine bK fun o93 e92 e56 => ?_
      refine awp_loopW (fun (v : (List Var) × Nat) (σ : St) => slices_Equal_api_Var_L1 a1 v.1 v.2 = some o93 ∧ v.1 = a0.drop v.2 ∧ σ.env 0 = .cell (sC a0) ∧ σ.env 1 = .cell (sC a1) ∧ σ.env 12 = iV .i64 ((a0.length : Nat) : Int) ∧ σ.env 13 = iV .i64 ((v.2 : Nat) : Int) ∧ 3 ≤ σ.gen) (fun v => v.1.length) _ (Gh.refl _) (a0, 0) ⟨e92, by simp, pv f0, pv f0, pv f0, pv f0, pg⟩ fun v σ6 hp L94 hL95 => ?_
      obtain ⟨q97, k76⟩ := v
      dsimp only at hp hL95
      obtain ⟨e92, hd96, h5_0, h5_1, h5_12, h5_13, n5_g⟩ := hp
      rcases q97 with _ | ⟨x102, q98⟩
      · have hlt99 := drop_end hd96
        rw [slices_Equal_api_Var_L1] at e92; try dsimp only at e92
        have F1 := an h5_0 (an h5_1 (an h5_12 h5_13))
        refine goR F1 ?_
        refine condK_f (by simp [ltI]; omega) ?_
        obtain rfl := sj e92
        try dsimp only at e56
        exact hK58 () _ _ (Gh.refl _) ⟨e56, pg⟩
      · obtain ⟨hx101, hlt99, hd103⟩ := drop_next hd96
        have ew100 := wrap_succ hlt99 (hb1).len
        rw [slices_Equal_api_Var_L1] at e92; try dsimp only at e92
        have F2 := an h5_0 (an h5_1 (an h5_12 (an h5_13 (an hlt99 ew100))))
        refine goR F2 ?_
        refine condK_t (by simp [ltI]; omega) ?_
        have f108 : partCV Tryd.prog 69 (encL a0) (k76 * 2) = some (.agg (eA x102)) := partCV_enc hx101 (f := 0) (by simp)
        revert e92; refine bK fun x109 hx110 e92 => ?_
        have hx110b := getN_some hx110
        have f111 : partCV Tryd.prog 69 (encL a1) (k76 * 2) = some (.agg (eA x109)) := partCV_enc hx110 (f := 0) (by simp)
        have F3 := an F2 (an f108 f111)
        refine goD F3 ?_
        revert e92; refine cS F3 ?_ ?_ <;> intro h112 e92
        · refine goD F3 ?_
          obtain rfl := sj e92
          try dsimp only at e56
          obtain rfl := sj e56
          try dsimp only at hs
          refine hX59 _ _ (by simp) ?_
          refine goD F3 ?_
          obtain rfl := sj hs
          exact hQ _ _ (rg F3 (Gh.refl _))
        · refine goD F3 ?_
          exact hL95 (q98, (k76 + 1)) _ _ (Gh.refl _) ⟨e92, hd103, pv F3, pv F3, pv F3, pv F3, pg⟩ (by simp)
    · obtain ⟨e56, n4_g⟩ := hp
      obtain rfl := sj e56
      try dsimp only at hs
      refine goR f0 ?_
      obtain rfl := sj hs
      exact hQ _ _ (rg f0 (Gh.refl _))
end Go.Dc
end
section
set_option linter.all false
namespace Go.Dc
open Go Go.Hw Go.Proofs
set_option maxRecDepth 100000
def slices_Equal_string_L1 (a1 : List ByteArray) : List ByteArray → Nat → Option (Unit ⊕ Bool)
  | [], k76 => some (.inl ())
  | x102 :: q98, k76 => Option.bind (a1[k76]?) (fun x109 => cond (!(eqS x102 x109)) (some (.inr false)) (slices_Equal_string_L1 a1 q98 (k76 + 1)))

def slices_Equal_string (a0 : List ByteArray) (a1 : List ByteArray) : Option Bool :=
  cond (!(eqI ((a0.length : Nat) : Int) ((a1.length : Nat) : Int))) (some false) (Option.bind (α := Unit ⊕ Bool) (Option.bind (slices_Equal_string_L1 a1 a0 0) (fun o => match o with | .inl _ => some (.inl ()) | .inr r113 => some (.inr r113))) (fun o => match o with | .inl _ => some true | .inr r114 => some r114))

set_option maxHeartbeats 2000000 in
theorem at_slices_Equal_string {a0 : List ByteArray} {a1 : List ByteArray} {r : Bool} (hs : slices_Equal_string a0 a1 = some r) : At Tryd.prog 95 [.cell (sC a0), .cell (sC a1)] (bV r) := by
  refine at_bound (by kernel_rfl) fun hb => ?_
  have hb1 : LenOk (.sl a0.length (encL a0)) := lkc hb
  have hb2 : LenOk (.sl a1.length (encL a1)) := lkc hb
  refine at_code mixed Tryd.func95 (by kernel_rfl) rfl (by kernel_rfl) rfl fun Q hQ => ?_
  rw [slices_Equal_string] at hs
  refine goR f0 ?_
  revert hs; refine cS f0 ?_ ?_ <;> intro h1 hs
  · refine goR f0 ?_
    obtain rfl := sj hs
    exact hQ _ _ (rg f0 (Gh.refl _))
  · refine goR2 f0 ?_
    revert hs; refine bK fun o57 e56 hs => ?_
    refine awp_cutK (fun (v : Unit) (σ : St) => some (.inl v) = some o57 ∧ 3 ≤ σ.gen) (by rfl) (fun Q hK58 hX59 => ?_) (fun v σ3 hp => ?_)
    · refine goR f0 ?_
      revert e56; refine bK fun o93 e92 e56 => ?_
      refine awp_loopW (fun (v : (List ByteArray) × Nat) (σ : St) => slices_Equal_string_L1 a1 v.1 v.2 = some o93 ∧ v.1 = a0.drop v.2 ∧ σ.env 0 = .cell (sC a0) ∧ σ.env 1 = .cell (sC a1) ∧ σ.env 12 = iV .i64 ((a0.length : Nat) : Int) ∧ σ.env 13 = iV .i64 ((v.2 : Nat) : Int) ∧ 3 ≤ σ.gen) (fun v => v.1.length) _ (Gh.refl _) (a0, 0) ⟨e92, by simp, pv f0, pv f0, pv f0, pv f0, pg⟩ fun v σ6 hp L94 hL95 => ?_
      obtain ⟨q97, k76⟩ := v
      dsimp only at hp hL95
      obtain ⟨e92, hd96, h5_0, h5_1, h5_12, h5_13, n5_g⟩ := hp
      rcases q97 with _ | ⟨x102, q98⟩
      · have hlt99 := drop_end hd96
        rw [slices_Equal_string_L1] at e92; try dsimp only at e92
        have F1 := an h5_0 (an h5_1 (an h5_12 h5_13))
        refine goR F1 ?_
        refine condK_f (by simp [ltI]; omega) ?_
        obtain rfl := sj e92
        try dsimp only at e56
        exact hK58 () _ _ (Gh.refl _) ⟨e56, pg⟩
      · obtain ⟨hx101, hlt99, hd103⟩ := drop_next hd96
        have ew100 := wrap_succ hlt99 (hb1).len
        rw [slices_Equal_string_L1] at e92; try dsimp only at e92
        have F2 := an h5_0 (an h5_1 (an h5_12 (an h5_13 (an hlt99 ew100))))
        refine goR F2 ?_
        refine condK_t (by simp [ltI]; omega) ?_
        have f108 : partCV Tryd.prog 9 (encL a0) (k76) = some (sV x102) := partCV_enc1 hx101 (by simp)
        revert e92; refine bK fun x109 hx110 e92 => ?_
        have hx110b := getN_some hx110
        have f111 : partCV Tryd.prog 9 (encL a1) (k76) = some (sV x109) := partCV_enc1 hx110 (by simp)
        have F3 := an F2 (an f108 f111)
        refine goD F3 ?_
        revert e92; refine cS F3 ?_ ?_ <;> intro h112 e92
        · refine goD F3 ?_
          obtain rfl := sj e92
          try dsimp only at e56
          obtain rfl := sj e56
          try dsimp only at hs
          refine hX59 _ _ (by simp) ?_
          refine goD F3 ?_
          obtain rfl := sj hs
          exact hQ _ _ (rg F3 (Gh.refl _))
        · refine goD F3 ?_
          exact hL95 (q98, (k76 + 1)) _ _ (Gh.refl _) ⟨e92, hd103, pv F3, pv F3, pv F3, pv F3, pg⟩ (by simp)
    · obtain ⟨e56, n4_g⟩ := hp
      obtain rfl := sj e56
      try dsimp only at hs
      refine goR f0 ?_
      obtain rfl := sj hs
      exact hQ _ _ (rg f0 (Gh.refl _))
end Go.Dc
end
section
set_option linter.all false
namespace Go.Dc
open Go Go.Hw Go.Proofs
set_option maxRecDepth 100000
def slices_Equal_api_Launch_L1 (a1 : List Launch) : List Launch → Nat → Option (Unit ⊕ Bool)
  | [], k76 => some (.inl ())
  | x102 :: q98, k76 => Option.bind (a1[k76]?) (fun x109 => cond (!(andB (eqS x102.Proc x109.Proc) (andB (eqI x102.Arg x109.Arg) true))) (some (.inr false)) (slices_Equal_api_Launch_L1 a1 q98 (k76 + 1)))

def slices_Equal_api_Launch (a0 : List Launch) (a1 : List Launch) : Option Bool :=
  cond (!(eqI ((a0.length : Nat) : Int) ((a1.length : Nat) : Int))) (some false) (Option.bind (α := Unit ⊕ Bool) (Option.bind (slices_Equal_api_Launch_L1 a1 a0 0) (fun o => match o with | .inl _ => some (.inl ()) | .inr r113 => some (.inr r113))) (fun o => match o with | .inl _ => some true | .inr r114 => some r114))

set_option maxHeartbeats 2000000 in
theorem at_slices_Equal_api_Launch {a0 : List Launch} {a1 : List Launch} {r : Bool} (hs : slices_Equal_api_Launch a0 a1 = some r) : At Tryd.prog 96 [.cell (sC a0), .cell (sC a1)] (bV r) := by
  refine at_bound (by kernel_rfl) fun hb => ?_
  have hb1 : LenOk (.sl a0.length (encL a0)) := lkc hb
  have hb2 : LenOk (.sl a1.length (encL a1)) := lkc hb
  refine at_code mixed Tryd.func96 (by kernel_rfl) rfl (by kernel_rfl) rfl fun Q hQ => ?_
  rw [slices_Equal_api_Launch] at hs
  refine goR f0 ?_
  revert hs; refine cS f0 ?_ ?_ <;> intro h1 hs
  · refine goR f0 ?_
    obtain rfl := sj hs
    exact hQ _ _ (rg f0 (Gh.refl _))
  · refine goR2 f0 ?_
    revert hs; refine bK fun o57 e56 hs => ?_
    refine awp_cutK (fun (v : Unit) (σ : St) => some (.inl v) = some o57 ∧ 3 ≤ σ.gen) (by rfl) (fun Q hK58 hX59 => ?_) (fun v σ3 hp => ?_)
    · refine goR f0 ?_
      revert e56; refine bK fun o93 e92 e56 => ?_
      refine awp_loopW (fun (v : (List Launch) × Nat) (σ : St) => slices_Equal_api_Launch_L1 a1 v.1 v.2 = some o93 ∧ v.1 = a0.drop v.2 ∧ σ.env 0 = .cell (sC a0) ∧ σ.env 1 = .cell (sC a1) ∧ σ.env 12 = iV .i64 ((a0.length : Nat) : Int) ∧ σ.env 13 = iV .i64 ((v.2 : Nat) : Int) ∧ 3 ≤ σ.gen) (fun v => v.1.length) _ (Gh.refl _) (a0, 0) ⟨e92, by simp, pv f0, pv f0, pv f0, pv f0, pg⟩ fun v σ6 hp L94 hL95 => ?_
      obtain ⟨q97, k76⟩ := v
      dsimp only at hp hL95
      obtain ⟨e92, hd96, h5_0, h5_1, h5_12, h5_13, n5_g⟩ := hp
      rcases q97 with _ | ⟨x102, q98⟩
      · have hlt99 := drop_end hd96
        rw [slices_Equal_api_Launch_L1] at e92; try dsimp only at e92
        have F1 := an h5_0 (an h5_1 (an h5_12 h5_13))
        refine goR F1 ?_
        refine condK_f (by simp [ltI]; omega) ?_
        obtain rfl := sj e92
        try dsimp only at e56
        exact hK58 () _ _ (Gh.refl _) ⟨e56, pg⟩
      · obtain ⟨hx101, hlt99, hd103⟩ := drop_next hd96
        have ew100 := wrap_succ hlt99 (hb1).len
        rw [slices_Equal_api_Launch_L1] at e92; try dsimp only at e92
        have F2 := an h5_0 (an h5_1 (an h5_12 (an h5_13 (an hlt99 ew100))))
        refine goR F2 ?_
        refine condK_t (by simp [ltI]; omega) ?_
        have f108 : partCV Tryd.prog 108 (encL a0) (k76 * 2) = some (.agg (eA x102)) := partCV_enc hx101 (f := 0) (by simp)
        revert e92; refine bK fun x109 hx110 e92 => ?_
        have hx110b := getN_some hx110
        have f111 : partCV Tryd.prog 108 (encL a1) (k76 * 2) = some (.agg (eA x109)) := partCV_enc hx110 (f := 0) (by simp)
        have F3 := an F2 (an f108 f111)
        refine goD F3 ?_
        revert e92; refine cS F3 ?_ ?_ <;> intro h112 e92
        · refine goD F3 ?_
          obtain rfl := sj e92
          try dsimp only at e56
          obtain rfl := sj e56
          try dsimp only at hs
          refine hX59 _ _ (by simp) ?_
          refine goD F3 ?_
          obtain rfl := sj hs
          exact hQ _ _ (rg F3 (Gh.refl _))
        · refine goD F3 ?_
          exact hL95 (q98, (k76 + 1)) _ _ (Gh.refl _) ⟨e92, hd103, pv F3, pv F3, pv F3, pv F3, pg⟩ (by simp)
    · obtain ⟨e56, n4_g⟩ := hp
      obtain rfl := sj e56
      try dsimp only at hs
      refine goR f0 ?_
      obtain rfl := sj hs
      exact hQ _ _ (rg f0 (Gh.refl _))
end Go.Dc
end
section
set_option linter.all false
namespace Go.Dc
open Go Go.Hw Go.Proofs
set_option maxRecDepth 100000

def ast_Equal (fuelN : Nat) (a0 : UnitT) (a1 : UnitT) : Option Bool :=
  Option.bind (slices_EqualFunc_api_Proc_ast_Equal_1 fuelN a0.Procs a1.Procs) (fun y1 => guardO (orB (!y1) ((slices_Equal_api_Var a0.Vars a1.Vars).isSome)) (guardO (orB (!(andB y1 ((slices_Equal_api_Var a0.Vars a1.Vars).getD default))) ((slices_Equal_string a0.Mutexes a1.Mutexes).isSome)) (guardO (orB (!(andB (andB y1 ((slices_Equal_api_Var a0.Vars a1.Vars).getD default)) ((slices_Equal_string a0.Mutexes a1.Mutexes).getD default))) ((slices_Equal_string a0.Conds a1.Conds).isSome)) (guardO (orB (!(andB (andB (andB y1 ((slices_Equal_api_Var a0.Vars a1.Vars).getD default)) ((slices_Equal_string a0.Mutexes a1.Mutexes).getD default)) ((slices_Equal_string a0.Conds a1.Conds).getD default))) ((slices_Equal_api_Launch a0.Threads a1.Threads).isSome)) (some (andB (andB (andB (andB y1 ((slices_Equal_api_Var a0.Vars a1.Vars).getD default)) ((slices_Equal_string a0.Mutexes a1.Mutexes).getD default)) ((slices_Equal_string a0.Conds a1.Conds).getD default)) ((slices_Equal_api_Launch a0.Threads a1.Threads).getD default)))))))

set_option maxHeartbeats 2000000 in
theorem at_ast_Equal {fuelN : Nat} {a0 : UnitT} {a1 : UnitT} {r : Bool} (hs : ast_Equal fuelN a0 a1 = some r) : At Tryd.prog 43 [.agg (eA a0), .agg (eA a1)] (bV r) := by
  refine at_bound (by kernel_rfl) fun hb => ?_
  have hb1 : LenOk (.sl a0.Vars.length (encL a0.Vars)) := lkc hb
  have hb2 : LenOk (.sl a0.Mutexes.length (encL a0.Mutexes)) := lkc hb
  have hb3 : LenOk (.sl a0.Conds.length (encL a0.Conds)) := lkc hb
  have hb4 : LenOk (.sl a0.Procs.length (encL a0.Procs)) := lkc hb
  have hb5 : LenOk (.sl a0.Threads.length (encL a0.Threads)) := lkc hb
  have hb6 : LenOk (.sl a1.Vars.length (encL a1.Vars)) := lkc hb
  have hb7 : LenOk (.sl a1.Mutexes.length (encL a1.Mutexes)) := lkc hb
  have hb8 : LenOk (.sl a1.Conds.length (encL a1.Conds)) := lkc hb
  have hb9 : LenOk (.sl a1.Procs.length (encL a1.Procs)) := lkc hb
  have hb10 : LenOk (.sl a1.Threads.length (encL a1.Threads)) := lkc hb
  refine at_code mixed Tryd.func43 (by kernel_rfl) rfl (by kernel_rfl) rfl fun Q hQ => ?_
  rw [ast_Equal] at hs
  refine goR f0 ?_
  revert hs; refine bK fun y1 hx2 hs => ?_
  refine cP f0 (at_slices_EqualFunc_api_Proc_ast_Equal_1 hx2) ?_
  refine goG f0 f0 ?_
  obtain ⟨g3, hs⟩ := guardO_some hs
  refine gsel_call (fun hg => at_slices_Equal_api_Var (under_call g3 hg)) (fun hg => by (try simp at hg); (first | simp [hg, id]); try rfl) (fun hg => by (try simp at hg); simp [hg, id]) (by simp) ?_
  refine goG f0 f0 ?_
  obtain ⟨g4, hs⟩ := guardO_some hs
  refine gsel_call (fun hg => at_slices_Equal_string (under_call g4 hg)) (fun hg => by (try simp at hg); (first | simp [hg, id]); try rfl) (fun hg => by (try simp at hg); simp [hg, id]) (by simp) ?_
  refine goG f0 f0 ?_
  obtain ⟨g5, hs⟩ := guardO_some hs
  refine gsel_call (fun hg => at_slices_Equal_string (under_call g5 hg)) (fun hg => by (try simp at hg); (first | simp [hg, id]); try rfl) (fun hg => by (try simp at hg); simp [hg, id]) (by simp) ?_
  refine goG f0 f0 ?_
  obtain ⟨g6, hs⟩ := guardO_some hs
  refine gsel_call (fun hg => at_slices_Equal_api_Launch (under_call g6 hg)) (fun hg => by (try simp at hg); (first | simp [hg, id]); try rfl) (fun hg => by (try simp at hg); simp [hg, id]) (by simp) ?_
  refine goG f0 f0 ?_
  obtain rfl := sj hs
  exact hQ _ _ (rg f0 (Gh.refl _))
end Go.Dc
end
section
set_option linter.all false
namespace Go.Dc
open Go Go.Hw Go.Proofs
set_option maxRecDepth 100000

def law16_local (a0 : ByteArray) : Option Expr :=
  some ({ Kind := 2, N := 0, Name := a0, Fn := 0, Args := [] } : Expr)

set_option maxHeartbeats 2000000 in
theorem at_law16_local {a0 : ByteArray} {r : Expr} (hs : law16_local a0 = some r) : At Tryd.prog 66 [sV a0] (.agg (eA r)) := by
  refine at_bound (by kernel_rfl) fun hb => ?_
  refine at_code mixed Tryd.func66 (by kernel_rfl) rfl (by kernel_rfl) rfl fun Q hQ => ?_
  rw [law16_local] at hs
  refine goR f0 ?_
  obtain rfl := sj hs
  exact hQ _ _ (rg f0 (Gh.unz _))
end Go.Dc
end
section
set_option linter.all false
namespace Go.Dc
open Go Go.Hw Go.Proofs
set_option maxRecDepth 100000

def law16_sum (a0 : Expr) (a1 : Expr) : Option Expr :=
  Option.bind (some ([a0, a1])) (fun l1 => some ({ Kind := 3, N := 0, Name := (⟨#[]⟩ : ByteArray), Fn := 1, Args := l1 } : Expr))

set_option maxHeartbeats 2000000 in
theorem at_law16_sum {a0 : Expr} {a1 : Expr} {r : Expr} (hs : law16_sum a0 a1 = some r) : At Tryd.prog 67 [.agg (eA a0), .agg (eA a1)] (.agg (eA r)) := by
  refine at_bound (by kernel_rfl) fun hb => ?_
  have hb1 : LenOk (.sl a0.Args.length (encL a0.Args)) := lkc hb
  have hb2 : LenOk (.sl a1.Args.length (encL a1.Args)) := lkc hb
  refine at_code mixed Tryd.func67 (by kernel_rfl) rfl (by kernel_rfl) rfl fun Q hQ => ?_
  rw [law16_sum] at hs
  revert hs; refine lK fun l1 hx2 hs => ?_
  have hx2n : l1.length = 2 := by rw [hx2]; rfl
  refine goR hx2 ?_
  obtain rfl := sj hs
  exact hQ _ _ (rg hx2 (Gh.frz _ (.o 2 2 0)))
end Go.Dc
end
