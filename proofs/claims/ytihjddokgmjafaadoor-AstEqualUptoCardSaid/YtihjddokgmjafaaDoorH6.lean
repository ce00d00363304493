/- Contracts of functions, by their numbers, and the laws that walk them. Conditions: as each states. -/
import Derived.Test.YtihjddokgmjafaaDoorH4
import Derived.Test.YtihjddokgmjafaaDoorH5
import Derived.Test.YtihjddokgmjafaaDoorRows
import Derived.LaidMore
import Derived.MakeChecks
set_option linter.all false
section
set_option linter.all false
namespace Go.Dc
open Go Go.Hw Go.Proofs
set_option maxRecDepth 100000
def law16_AstEqual_L3 : Nat → Int → (List Expr) → Option (List Expr)
  | 0, _, _ => none
  | q76453 + 1, i76427, l76428 => cond (ltI i76427 ((l76428.length : Nat) : Int)) (Option.bind (getI l76428 i76427) (fun x76464 => Option.bind (some (l76428.set ((i76427).toNat) ({ x76464 with N := IntKind.i64.wrap (x76464.N + 1) }))) (fun l76471 => law16_AstEqual_L3 q76453 (IntKind.i64.wrap (i76427 + 1)) l76471))) (some (l76428))

def law16_AstEqual_L4 (i62754 : Int) (i74732 : Int) (l76204 : List Proc) (l76348 : List Expr) (x76206 : Proc) (x76212 : Stmt) : Nat → Int → (List Stmt) → Option (List Proc)
  | 0, _, _ => none
  | q76633 + 1, i76595, l76596 => cond (ltI i76595 ((l76596.length : Nat) : Int)) (Option.bind (getI l76596 i76595) (fun x76645 => guardO (strB2 x76645.Name (⟨#[120]⟩ : ByteArray)) (Option.bind (some (l76596.set ((i76595).toNat) ({ x76645 with Name := x76645.Name ++ (⟨#[120]⟩ : ByteArray) }))) (fun l76653 => law16_AstEqual_L4 i62754 i74732 l76204 l76348 x76206 x76212 q76633 (IntKind.i64.wrap (i76595 + 1)) l76653)))) (Option.bind (some (x76206.Body.set ((i74732).toNat) ({ x76212 with Kind := IntKind.i64.wrap (x76212.Kind + 1), Exprs := l76348, Body := l76596 }))) (fun l76659 => Option.bind (some (l76204.set ((i62754).toNat) ({ x76206 with Body := l76659 }))) (fun l76663 => some (l76663))))

def law16_AstEqual_L2 (fuelN : Nat) (i62754 : Int) : Nat → Int → (List Proc) → Option (List Proc)
  | 0, _, _ => none
  | q75723 + 1, i74732, l74733 => Option.bind (getI l74733 i62754) (fun x75727 => cond (ltI i74732 ((x75727.Body.length : Nat) : Int)) (Option.bind (α := (List Proc)) (Option.bind (some (l74733.set ((i62754).toNat) x75727)) (fun l76204 => Option.bind (getI l76204 i62754) (fun x76206 => Option.bind (getI x76206.Body i74732) (fun x76212 => Option.bind (α := (List Expr)) (Option.bind (law16_AstEqual_L3 fuelN 0 x76212.Exprs) (fun l76446 => some (l76446))) (fun l76348 => Option.bind (law16_AstEqual_L4 i62754 i74732 l76204 l76348 x76206 x76212 fuelN 0 x76212.Body) (fun l76626 => some (l76626))))))) (fun l76197 => law16_AstEqual_L2 fuelN i62754 q75723 (IntKind.i64.wrap (i74732 + 1)) l76197)) (Option.bind (some (l74733.set ((i62754).toNat) x75727)) (fun l76667 => some (l76667))))

def law16_AstEqual_L1 (fuelN : Nat) : Nat → Int → (List Proc) → Option (List Proc)
  | 0, _, _ => none
  | q68853 + 1, i62754, l62755 => cond (ltI i62754 ((l62755.length : Nat) : Int)) (Option.bind (α := (List Proc)) (Option.bind (law16_AstEqual_L2 fuelN i62754 fuelN 0 l62755) (fun l75716 => some (l75716))) (fun l72761 => law16_AstEqual_L1 fuelN q68853 (IntKind.i64.wrap (i62754 + 1)) l72761)) (some (l62755))

def law16_AstEqual_L5 : Nat → Int → (List Var) → Option Unit
  | 0, _, _ => none
  | q76880 + 1, i76856, l76857 => cond (ltI i76856 ((l76857.length : Nat) : Int)) (Option.bind (getI l76857 i76856) (fun x76892 => guardO (strB2 x76892.Name (⟨#[120]⟩ : ByteArray)) (Option.bind (some (l76857.set ((i76856).toNat) ({ x76892 with Name := x76892.Name ++ (⟨#[120]⟩ : ByteArray) }))) (fun l76896 => law16_AstEqual_L5 q76880 (IntKind.i64.wrap (i76856 + 1)) l76896)))) (some (()))

def law16_AstEqual (fuelN : Nat) (a0 : UnitT) (a1 : UnitT) : Option Bool :=
  Option.bind (r16_Few fuelN a0) (fun y1 => guardO (orB (!y1) ((r16_Few fuelN a1).isSome)) (cond (orB (!y1) (!((r16_Few fuelN a1).getD default))) (Option.bind (law16_awake fuelN) (fun y5 => some y5)) (Option.bind (ast_Clone fuelN a0) (fun y11 => Option.bind (r16_Clone fuelN a0) (fun y13 => Option.bind (r16_Equal fuelN y11 a0) (fun y19 => guardO (orB (!y19) ((ast_Equal fuelN a0 a1).isSome)) (guardO (orB (!y19) ((r16_Equal fuelN a0 a1).isSome)) (cond (orB (!y19) (!(eqB ((ast_Equal fuelN a0 a1).getD default) ((r16_Equal fuelN a0 a1).getD default)))) (some false) (Option.bind (α := (List Proc)) (Option.bind (law16_AstEqual_L1 fuelN fuelN 0 y11.Procs) (fun l68846 => some (l68846))) (fun l38344 => Option.bind (α := Unit) (Option.bind (law16_AstEqual_L5 fuelN 0 y11.Vars) (fun _ => some (()))) (fun _ => Option.bind (law16_awake fuelN) (fun y76899 => guardO (orB (!y76899) ((r16_Equal fuelN a0 y13).isSome)) (some (andB y76899 ((r16_Equal fuelN a0 y13).getD default)))))))))))))))

set_option maxHeartbeats 2000000 in
theorem at_law16_AstEqual {fuelN : Nat} {a0 : UnitT} {a1 : UnitT} {r : Bool} (hs : law16_AstEqual fuelN a0 a1 = some r) : At Tryd.prog 10 [.agg (eA a0), .agg (eA a1)] (bV r) := by
  refine at_bound (by kernel_rfl) fun hb => ?_
  have hb1 : LenOk (.sl a0.Vars.length (encL a0.Vars)) := lkc hb
  have hb2 : LenOk (.sl a0.Mutexes.length (encL a0.Mutexes)) := lkc hb
  have hb3 : LenOk (.sl a0.Conds.length (encL a0.Conds)) := lkc hb
  have hb4 : LenOk (.sl a0.Procs.length (encL a0.Procs)) := lkc hb
  have hb5 : LenOk (.sl a0.Threads.length (encL a0.Threads)) := lkc hb
  have hb6 : LenOk (.sl a1.Vars.length (encL a1.Vars)) := lkc hb
  have hb7 : LenOk (.sl a1.Mutexes.length (encL a1.Mutexes)) := lkc hb
  have hb8 : LenOk (.sl a1.Conds.length (encL a1.Conds)) := lkc hb
  have hb9 : LenOk (.sl a1.Procs.length (encL a1.Procs)) := lkc hb
  have hb10 : LenOk (.sl a1.Threads.length (encL a1.Threads)) := lkc hb
  refine at_code mixed Tryd.func10 (by kernel_rfl) rfl (by kernel_rfl) rfl fun Q hQ => ?_
  rw [law16_AstEqual] at hs
  refine goR f0 ?_
  revert hs; refine bK fun y1 hx2 hs => ?_
  refine cP f0 (at_r16_Few hx2) ?_
  refine goG f0 f0 ?_
  obtain ⟨g3, hs⟩ := guardO_some hs
  refine gsel_call (fun hg => at_r16_Few (under_call g3 hg)) (fun hg => by (try simp at hg); (first | simp [hg, id]); try rfl) (fun hg => by (try simp at hg); simp [hg, id]) (by simp) ?_
  refine goG f0 f0 ?_
  revert hs; refine cS f0 ?_ ?_ <;> intro h4 hs
  · refine goG f0 f0 ?_
    revert hs; refine bK fun y5 hx6 hs => ?_
    refine cP f0 (at_law16_awake hx6) ?_
    refine goG f0 f0 ?_
    obtain rfl := sj hs
    exact hQ _ _ (rg f0 (Gh.refl _))
  · refine goE f0 f0 ?_
    revert hs; refine bK fun y11 hx12 hs => ?_
    refine cA f0 (at_ast_Clone hx12) ?_
    refine goE f0 f0 ?_
    revert hs; refine bK fun y13 hx14 hs => ?_
    refine cP f0 (at_r16_Clone hx14) ?_
    refine goE f0 f0 ?_
    revert hs; refine bK fun y19 hx20 hs => ?_
    refine cA f0 (at_r16_Equal hx20) ?_
    refine goE f0 f0 ?_
    obtain ⟨g21, hs⟩ := guardO_some hs
    refine dsel_call (fun hg => at_ast_Equal (under_call g21 hg)) (fun hg => by (try simp at hg); (first | simp [hg, id]); try rfl) (fun hg => by (try simp at hg); simp [hg, id]) (by simp) ?_
    refine goE f0 f0 ?_
    obtain ⟨g22, hs⟩ := guardO_some hs
    refine dsel_call (fun hg => at_r16_Equal (under_call g22 hg)) (fun hg => by (try simp at hg); (first | simp [hg, id]); try rfl) (fun hg => by (try simp at hg); simp [hg, id]) (by simp) ?_
    refine goE f0 f0 ?_
    revert hs; refine cS f0 ?_ ?_ <;> intro h23 hs
    · refine goE f0 f0 ?_
      obtain rfl := sj hs
      exact hQ _ _ (rg f0 (Gh.refl _))
    · refine goE2 f0 f0 ?_
      revert hs; refine bK fun o38346 e38345 hs => ?_
      refine awp_cutK (fun (v : (List Proc)) (σ : St) => some (v) = some o38346 ∧ σ.env 2 = .cell (.ref (.o 1 0 0) 0) ∧ σ.env 5 = .cell (.ref (.o 3 4 0) 0) ∧ σ.env 6 = .cell (.ref (.o 3 5 0) 0) ∧ σ.hp (.o 1 0 0) = some (.cells (eA a0)) ∧ σ.hp (.l 6562) = some (.cells (oencL v)) ∧ σ.hp (.o 3 4 0) = some (.cells [.sl (.o 3 1 0) 0 2 y11.Vars.length, .sl (.o 3 1 1) 0 1 y11.Mutexes.length, .sl (.o 3 1 2) 0 1 y11.Conds.length, .sl (.l 6562) 0 3 v.length, .sl (.o 3 1 4) 0 2 y11.Threads.length]) ∧ σ.hp (.o 3 1 0) = some (.pure (encL y11.Vars)) ∧ σ.hp (.o 3 1 1) = some (.pure (encL y11.Mutexes)) ∧ σ.hp (.o 3 1 2) = some (.pure (encL y11.Conds)) ∧ σ.hp (.o 3 1 4) = some (.pure (encL y11.Threads)) ∧ σ.hp (.o 3 5 0) = some (.cells (eA y13)) ∧ 5 ≤ σ.gen) (by rfl) (fun Q hK38347 hX38348 => ?_) (fun l38344 σ717 hp => ?_)
      · refine goE f0 f0 ?_
        revert e38345; refine bK fun o68848 e68847 e38345 => ?_
        refine awp_loopW (fun (v : Nat × Int × (List Proc)) (σ : St) => law16_AstEqual_L1 fuelN v.1 v.2.1 v.2.2 = some o68848 ∧ σ.env 2 = .cell (.ref (.o 1 0 0) 0) ∧ σ.env 5 = .cell (.ref (.o 3 4 0) 0) ∧ σ.env 6 = .cell (.ref (.o 3 5 0) 0) ∧ σ.env 7 = iV .i64 v.2.1 ∧ σ.hp (.o 1 0 0) = some (.cells (eA a0)) ∧ σ.hp (.l 16953) = some (.cells (oencL v.2.2)) ∧ σ.hp (.o 3 4 0) = some (.cells [.sl (.o 3 1 0) 0 2 y11.Vars.length, .sl (.o 3 1 1) 0 1 y11.Mutexes.length, .sl (.o 3 1 2) 0 1 y11.Conds.length, .sl (.l 16953) 0 3 v.2.2.length, .sl (.o 3 1 4) 0 2 y11.Threads.length]) ∧ σ.hp (.o 3 1 0) = some (.pure (encL y11.Vars)) ∧ σ.hp (.o 3 1 1) = some (.pure (encL y11.Mutexes)) ∧ σ.hp (.o 3 1 2) = some (.pure (encL y11.Conds)) ∧ σ.hp (.o 3 1 4) = some (.pure (encL y11.Threads)) ∧ σ.hp (.o 3 5 0) = some (.cells (eA y13)) ∧ 5 ≤ σ.gen) (fun v => v.1) _ (Gh.ren _ (.o 3 1 3) (.l 16953) (by simp) rfl rfl) (fuelN, 0, y11.Procs) ⟨e68847, pv f0, pv f0, pv f0, pv f0, pv f0, pv f0, pv f0, pv f0, pv f0, pv f0, pv f0, pv f0, pg⟩ fun v σ1284 hp L68849 hL68850 => ?_
        obtain ⟨q68852, i62754, l62755⟩ := v
        dsimp only at hp hL68850
        obtain ⟨e68847, h1283_2, h1283_5, h1283_6, h1283_7, g1283_0, g1283_1, g1283_2, g1283_3, g1283_4, g1283_5, g1283_6, g1283_7, n1283_g⟩ := hp
        have n1283_0 : ¬ (σ1284.gen = 0) := by omega
        have n1283_1 : ¬ (σ1284.gen = 1) := by omega
        have n1283_2 : ¬ (σ1284.gen = 2) := by omega
        rcases q68852 with _ | q68853
        · rw [law16_AstEqual_L1] at e68847; cases e68847
        · rw [law16_AstEqual_L1] at e68847; try dsimp only at e68847
          have F1 := an h1283_2 (an h1283_5 (an h1283_6 (an h1283_7 (an g1283_0 (an g1283_1 (an g1283_2 (an g1283_3 (an g1283_4 (an g1283_5 (an g1283_6 (an g1283_7 (an n1283_0 (an n1283_1 n1283_2)))))))))))))
          refine goR F1 ?_
          revert e68847; refine cS F1 ?_ ?_ <;> intro h68857 e68847
          · refine goR2 F1 ?_
            revert e68847; refine bK fun o72763 e72762 e68847 => ?_
            refine awp_cutK (fun (v : (List Proc)) (σ : St) => some (v) = some o72763 ∧ σ.env 2 = .cell (.ref (.o 1 0 0) 0) ∧ σ.env 5 = .cell (.ref (.o 3 4 0) 0) ∧ σ.env 6 = .cell (.ref (.o 3 5 0) 0) ∧ σ.env 7 = iV .i64 i62754 ∧ σ.hp (.o 1 0 0) = some (.cells (eA a0)) ∧ σ.hp (.l 19144) = some (.cells (oencL v)) ∧ σ.hp (.o 3 4 0) = some (.cells [.sl (.o 3 1 0) 0 2 y11.Vars.length, .sl (.o 3 1 1) 0 1 y11.Mutexes.length, .sl (.o 3 1 2) 0 1 y11.Conds.length, .sl (.l 19144) 0 3 v.length, .sl (.o 3 1 4) 0 2 y11.Threads.length]) ∧ σ.hp (.o 3 1 0) = some (.pure (encL y11.Vars)) ∧ σ.hp (.o 3 1 1) = some (.pure (encL y11.Mutexes)) ∧ σ.hp (.o 3 1 2) = some (.pure (encL y11.Conds)) ∧ σ.hp (.o 3 1 4) = some (.pure (encL y11.Threads)) ∧ σ.hp (.o 3 5 0) = some (.cells (eA y13)) ∧ (σ1284.gen + 1) ≤ σ.gen) (by rfl) (fun Q hK72764 hX72765 => ?_) (fun l72761 σ1359 hp => ?_)
            · refine goR F1 ?_
              revert e72762; refine bK fun o75718 e75717 e72762 => ?_
              refine awp_loopW (fun (v : Nat × Int × (List Proc)) (σ : St) => law16_AstEqual_L2 fuelN i62754 v.1 v.2.1 v.2.2 = some o75718 ∧ σ.env 2 = .cell (.ref (.o 1 0 0) 0) ∧ σ.env 5 = .cell (.ref (.o 3 4 0) 0) ∧ σ.env 6 = .cell (.ref (.o 3 5 0) 0) ∧ σ.env 7 = iV .i64 i62754 ∧ σ.env 8 = iV .i64 v.2.1 ∧ σ.hp (.o 1 0 0) = some (.cells (eA a0)) ∧ σ.hp (.l 20237) = some (.cells (oencL v.2.2)) ∧ σ.hp (.o 3 4 0) = some (.cells [.sl (.o 3 1 0) 0 2 y11.Vars.length, .sl (.o 3 1 1) 0 1 y11.Mutexes.length, .sl (.o 3 1 2) 0 1 y11.Conds.length, .sl (.l 20237) 0 3 v.2.2.length, .sl (.o 3 1 4) 0 2 y11.Threads.length]) ∧ σ.hp (.o 3 1 0) = some (.pure (encL y11.Vars)) ∧ σ.hp (.o 3 1 1) = some (.pure (encL y11.Mutexes)) ∧ σ.hp (.o 3 1 2) = some (.pure (encL y11.Conds)) ∧ σ.hp (.o 3 1 4) = some (.pure (encL y11.Threads)) ∧ σ.hp (.o 3 5 0) = some (.cells (eA y13)) ∧ (σ1284.gen + 2) ≤ σ.gen) (fun v => v.1) _ (Gh.ren _ (.l 16953) (.l 20237) (by simp) rfl rfl) (fuelN, 0, l62755) ⟨e75717, pv F1, pv F1, pv F1, pv F1, pv F1, pv F1, pv F1, pv F1, pv F1, pv F1, pv F1, pv F1, pv F1, pg⟩ fun v σ1416 hp L75719 hL75720 => ?_
              obtain ⟨q75722, i74732, l74733⟩ := v
              dsimp only at hp hL75720
              obtain ⟨e75717, h1415_2, h1415_5, h1415_6, h1415_7, h1415_8, g1415_0, g1415_1, g1415_2, g1415_3, g1415_4, g1415_5, g1415_6, g1415_7, n1415_g⟩ := hp
              have n1415_0 : ¬ (σ1416.gen = 0) := by omega
              have n1415_1 : ¬ (σ1416.gen = 1) := by omega
              have n1415_2 : ¬ (σ1416.gen = 2) := by omega
              rcases q75722 with _ | q75723
              · rw [law16_AstEqual_L2] at e75717; cases e75717
              · rw [law16_AstEqual_L2] at e75717; try dsimp only at e75717
                revert e75717; refine bK fun x75727 hx75728 e75717 => ?_
                obtain ⟨hx75728a, hx75728b, hx75728c, hx75728d⟩ := getI_some hx75728
                have f75729 : oencL l74733 = frow ((i62754).toNat) [tC x75727.Name, tC x75727.Param, .own (.sl 9 x75727.Body.length (otL x75727.Body))] l74733 := frow_of hx75728d (by simp)
                have f75730 : ∀ cs : List AC, cs.length = 3 → (frow ((i62754).toNat) cs l74733)[((i62754).toNat) * 3 + 2]? = cs[2]? := fun cs h => frow_get hx75728d (z := 3) rfl h (by decide) (by first | rfl | omega)
                have f75730s : ∀ (cs : List AC) (v : AC), cs.length = 3 → (frow ((i62754).toNat) cs l74733).set (((i62754).toNat) * 3 + 2) v = frow ((i62754).toNat) (cs.set 2 v) l74733 := fun cs v h => frow_set hx75728d (z := 3) rfl h (by decide) (by first | rfl | omega) v
                have f75730g : ∀ (cs : List AC) (h : cs.length = 3) (hb : ((i62754).toNat) * 3 + 2 < (frow ((i62754).toNat) cs l74733).length), (frow ((i62754).toNat) cs l74733)[((i62754).toNat) * 3 + 2]'hb = cs[2]'(by omega) := fun cs h hb => frow_at hx75728d (z := 3) rfl h (by decide) (by first | rfl | omega) hb
                have f75731 : ∀ cs : List AC, cs.length = 3 → ((frow ((i62754).toNat) cs l74733).drop (((i62754).toNat) * 3 + 2)).take 1 = (cs.drop 2).take 1 := fun cs h => frow_seg hx75728d (z := 3) rfl h (by decide) (by first | rfl | omega)
                have f75732 : ∀ cs : List AC, cs.length = 3 → (frow ((i62754).toNat) cs l74733).length = l74733.length * 3 := fun cs h => frow_len hx75728d rfl h
                have f75732b : (i62754).toNat < l74733.length := getN_some hx75728d
                have F2 := an h1415_2 (an h1415_5 (an h1415_6 (an h1415_7 (an h1415_8 (an g1415_0 (an g1415_1 (an g1415_2 (an g1415_3 (an g1415_4 (an g1415_5 (an g1415_6 (an g1415_7 (an n1415_0 (an n1415_1 (an n1415_2 (an f75729 (an f75730 (an f75730s (an f75730g (an f75731 (an f75732 f75732b)))))))))))))))))))))
                refine goR F2 ?_
                revert e75717; refine cS F2 ?_ ?_ <;> intro h75733 e75717
                · refine goR2 F2 ?_
                  revert e75717; refine bK fun o76199 e76198 e75717 => ?_
                  refine awp_cutK (fun (v : (List Proc)) (σ : St) => some (v) = some o76199 ∧ σ.env 2 = .cell (.ref (.o 1 0 0) 0) ∧ σ.env 5 = .cell (.ref (.o 3 4 0) 0) ∧ σ.env 6 = .cell (.ref (.o 3 5 0) 0) ∧ σ.env 7 = iV .i64 i62754 ∧ σ.env 8 = iV .i64 i74732 ∧ σ.hp (.o 1 0 0) = some (.cells (eA a0)) ∧ σ.hp (.l 20237) = some (.cells (oencL v)) ∧ σ.hp (.o 3 4 0) = some (.cells [.sl (.o 3 1 0) 0 2 y11.Vars.length, .sl (.o 3 1 1) 0 1 y11.Mutexes.length, .sl (.o 3 1 2) 0 1 y11.Conds.length, .sl (.l 20237) 0 3 v.length, .sl (.o 3 1 4) 0 2 y11.Threads.length]) ∧ σ.hp (.o 3 1 0) = some (.pure (encL y11.Vars)) ∧ σ.hp (.o 3 1 1) = some (.pure (encL y11.Mutexes)) ∧ σ.hp (.o 3 1 2) = some (.pure (encL y11.Conds)) ∧ σ.hp (.o 3 1 4) = some (.pure (encL y11.Threads)) ∧ σ.hp (.o 3 5 0) = some (.cells (eA y13)) ∧ (σ1416.gen + 1) ≤ σ.gen) (by rfl) (fun Q hK76200 hX76201 => ?_) (fun l76197 σ1425 hp => ?_)
                  · refine goR2 F2 ?_
                    refine awp_block ?_
                    have f76202 : ∀ m : Nat, m = x75727.Body.length → (oencL x75727.Body).take (m * 9) = oencL x75727.Body := fun m h => by rw [h]; exact oencL_takeN _ (by simp)
                    revert e76198; refine lK fun l76204 hx76205 e76198 => ?_
                    have f76203 : ∀ (m2 : Nat), m2 = x75727.Body.length → frow ((i62754).toNat) [tC x75727.Name, tC x75727.Param, .own (.sl 9 m2 (otL x75727.Body))] l74733 = oencL l76204 := fun m2 h2 => by subst h2; rw [hx76205]; exact frow_end hx75728d (by simp)
                    have f76203n : l76204.length = l74733.length := by rw [hx76205]; simp
                    have f76203w : ∀ n : Nat, n = l76204.length → (encL l76204).take (n * 3) = encL l76204 := fun n h => by rw [h]; exact encL_takeN _ (by simp)
                    have F3 := an F2 (an f76202 (an f76203 (an f76203n f76203w)))
                    refine goN F3 ?_
                    refine awp_gh (by rfl) (Gh.close _ (.l 20237) (((i62754).toNat) * 3 + 2)) ?_
                    try simp only [St.frz, St.pur]
                    revert e76198; refine bK fun x76206 hx76207 e76198 => ?_
                    obtain ⟨hx76207a, hx76207b, hx76207c, hx76207d⟩ := getI_some hx76207
                    have f76208 : oencL l76204 = frow ((i62754).toNat) [tC x76206.Name, tC x76206.Param, .own (.sl 9 x76206.Body.length (otL x76206.Body))] l76204 := frow_of hx76207d (by simp)
                    have f76209 : ∀ cs : List AC, cs.length = 3 → (frow ((i62754).toNat) cs l76204)[((i62754).toNat) * 3 + 2]? = cs[2]? := fun cs h => frow_get hx76207d (z := 3) rfl h (by decide) (by first | rfl | omega)
                    have f76209s : ∀ (cs : List AC) (v : AC), cs.length = 3 → (frow ((i62754).toNat) cs l76204).set (((i62754).toNat) * 3 + 2) v = frow ((i62754).toNat) (cs.set 2 v) l76204 := fun cs v h => frow_set hx76207d (z := 3) rfl h (by decide) (by first | rfl | omega) v
                    have f76209g : ∀ (cs : List AC) (h : cs.length = 3) (hb : ((i62754).toNat) * 3 + 2 < (frow ((i62754).toNat) cs l76204).length), (frow ((i62754).toNat) cs l76204)[((i62754).toNat) * 3 + 2]'hb = cs[2]'(by omega) := fun cs h hb => frow_at hx76207d (z := 3) rfl h (by decide) (by first | rfl | omega) hb
                    have f76210 : ∀ cs : List AC, cs.length = 3 → ((frow ((i62754).toNat) cs l76204).drop (((i62754).toNat) * 3 + 2)).take 1 = (cs.drop 2).take 1 := fun cs h => frow_seg hx76207d (z := 3) rfl h (by decide) (by first | rfl | omega)
                    have f76211 : ∀ cs : List AC, cs.length = 3 → (frow ((i62754).toNat) cs l76204).length = l76204.length * 3 := fun cs h => frow_len hx76207d rfl h
                    have f76211b : (i62754).toNat < l76204.length := getN_some hx76207d
                    revert e76198; refine bK fun x76212 hx76213 e76198 => ?_
                    obtain ⟨hx76213a, hx76213b, hx76213c, hx76213d⟩ := getI_some hx76213
                    have f76214 : oencL x76206.Body = frow ((i74732).toNat) [nC x76212.Kind, tC x76212.Name, tC x76212.Obj, tC x76212.Other, nC x76212.Fn, nC x76212.Order, .own (.sl 5 x76212.Exprs.length (otL x76212.Exprs)), .own (.sl 9 x76212.Body.length (otL x76212.Body)), .own (.sl 9 x76212.Else.length (otL x76212.Else))] x76206.Body := frow_of hx76213d (by simp)
                    have f76215 : ∀ cs : List AC, cs.length = 9 → (frow ((i74732).toNat) cs x76206.Body)[((i74732).toNat) * 9]? = cs[0]? := fun cs h => frow_get hx76213d (z := 9) rfl h (by decide) (by first | rfl | omega)
                    have f76215s : ∀ (cs : List AC) (v : AC), cs.length = 9 → (frow ((i74732).toNat) cs x76206.Body).set (((i74732).toNat) * 9) v = frow ((i74732).toNat) (cs.set 0 v) x76206.Body := fun cs v h => frow_set hx76213d (z := 9) rfl h (by decide) (by first | rfl | omega) v
                    have f76215g : ∀ (cs : List AC) (h : cs.length = 9) (hb : ((i74732).toNat) * 9 < (frow ((i74732).toNat) cs x76206.Body).length), (frow ((i74732).toNat) cs x76206.Body)[((i74732).toNat) * 9]'hb = cs[0]'(by omega) := fun cs h hb => frow_at hx76213d (z := 9) rfl h (by decide) (by first | rfl | omega) hb
                    have f76216 : ∀ cs : List AC, cs.length = 9 → (frow ((i74732).toNat) cs x76206.Body)[((i74732).toNat) * 9 + 1]? = cs[1]? := fun cs h => frow_get hx76213d (z := 9) rfl h (by decide) (by first | rfl | omega)
                    have f76216s : ∀ (cs : List AC) (v : AC), cs.length = 9 → (frow ((i74732).toNat) cs x76206.Body).set (((i74732).toNat) * 9 + 1) v = frow ((i74732).toNat) (cs.set 1 v) x76206.Body := fun cs v h => frow_set hx76213d (z := 9) rfl h (by decide) (by first | rfl | omega) v
                    have f76216g : ∀ (cs : List AC) (h : cs.length = 9) (hb : ((i74732).toNat) * 9 + 1 < (frow ((i74732).toNat) cs x76206.Body).length), (frow ((i74732).toNat) cs x76206.Body)[((i74732).toNat) * 9 + 1]'hb = cs[1]'(by omega) := fun cs h hb => frow_at hx76213d (z := 9) rfl h (by decide) (by first | rfl | omega) hb
                    have f76217 : ∀ cs : List AC, cs.length = 9 → (frow ((i74732).toNat) cs x76206.Body)[((i74732).toNat) * 9 + 2]? = cs[2]? := fun cs h => frow_get hx76213d (z := 9) rfl h (by decide) (by first | rfl | omega)
                    have f76217s : ∀ (cs : List AC) (v : AC), cs.length = 9 → (frow ((i74732).toNat) cs x76206.Body).set (((i74732).toNat) * 9 + 2) v = frow ((i74732).toNat) (cs.set 2 v) x76206.Body := fun cs v h => frow_set hx76213d (z := 9) rfl h (by decide) (by first | rfl | omega) v
                    have f76217g : ∀ (cs : List AC) (h : cs.length = 9) (hb : ((i74732).toNat) * 9 + 2 < (frow ((i74732).toNat) cs x76206.Body).length), (frow ((i74732).toNat) cs x76206.Body)[((i74732).toNat) * 9 + 2]'hb = cs[2]'(by omega) := fun cs h hb => frow_at hx76213d (z := 9) rfl h (by decide) (by first | rfl | omega) hb
                    have f76218 : ∀ cs : List AC, cs.length = 9 → (frow ((i74732).toNat) cs x76206.Body)[((i74732).toNat) * 9 + 3]? = cs[3]? := fun cs h => frow_get hx76213d (z := 9) rfl h (by decide) (by first | rfl | omega)
                    have f76218s : ∀ (cs : List AC) (v : AC), cs.length = 9 → (frow ((i74732).toNat) cs x76206.Body).set (((i74732).toNat) * 9 + 3) v = frow ((i74732).toNat) (cs.set 3 v) x76206.Body := fun cs v h => frow_set hx76213d (z := 9) rfl h (by decide) (by first | rfl | omega) v
                    have f76218g : ∀ (cs : List AC) (h : cs.length = 9) (hb : ((i74732).toNat) * 9 + 3 < (frow ((i74732).toNat) cs x76206.Body).length), (frow ((i74732).toNat) cs x76206.Body)[((i74732).toNat) * 9 + 3]'hb = cs[3]'(by omega) := fun cs h hb => frow_at hx76213d (z := 9) rfl h (by decide) (by first | rfl | omega) hb
                    have f76219 : ∀ cs : List AC, cs.length = 9 → (frow ((i74732).toNat) cs x76206.Body)[((i74732).toNat) * 9 + 4]? = cs[4]? := fun cs h => frow_get hx76213d (z := 9) rfl h (by decide) (by first | rfl | omega)
                    have f76219s : ∀ (cs : List AC) (v : AC), cs.length = 9 → (frow ((i74732).toNat) cs x76206.Body).set (((i74732).toNat) * 9 + 4) v = frow ((i74732).toNat) (cs.set 4 v) x76206.Body := fun cs v h => frow_set hx76213d (z := 9) rfl h (by decide) (by first | rfl | omega) v
                    have f76219g : ∀ (cs : List AC) (h : cs.length = 9) (hb : ((i74732).toNat) * 9 + 4 < (frow ((i74732).toNat) cs x76206.Body).length), (frow ((i74732).toNat) cs x76206.Body)[((i74732).toNat) * 9 + 4]'hb = cs[4]'(by omega) := fun cs h hb => frow_at hx76213d (z := 9) rfl h (by decide) (by first | rfl | omega) hb
                    have f76220 : ∀ cs : List AC, cs.length = 9 → (frow ((i74732).toNat) cs x76206.Body)[((i74732).toNat) * 9 + 5]? = cs[5]? := fun cs h => frow_get hx76213d (z := 9) rfl h (by decide) (by first | rfl | omega)
                    have f76220s : ∀ (cs : List AC) (v : AC), cs.length = 9 → (frow ((i74732).toNat) cs x76206.Body).set (((i74732).toNat) * 9 + 5) v = frow ((i74732).toNat) (cs.set 5 v) x76206.Body := fun cs v h => frow_set hx76213d (z := 9) rfl h (by decide) (by first | rfl | omega) v
                    have f76220g : ∀ (cs : List AC) (h : cs.length = 9) (hb : ((i74732).toNat) * 9 + 5 < (frow ((i74732).toNat) cs x76206.Body).length), (frow ((i74732).toNat) cs x76206.Body)[((i74732).toNat) * 9 + 5]'hb = cs[5]'(by omega) := fun cs h hb => frow_at hx76213d (z := 9) rfl h (by decide) (by first | rfl | omega) hb
                    have f76221 : ∀ cs : List AC, cs.length = 9 → (frow ((i74732).toNat) cs x76206.Body)[((i74732).toNat) * 9 + 6]? = cs[6]? := fun cs h => frow_get hx76213d (z := 9) rfl h (by decide) (by first | rfl | omega)
                    have f76221s : ∀ (cs : List AC) (v : AC), cs.length = 9 → (frow ((i74732).toNat) cs x76206.Body).set (((i74732).toNat) * 9 + 6) v = frow ((i74732).toNat) (cs.set 6 v) x76206.Body := fun cs v h => frow_set hx76213d (z := 9) rfl h (by decide) (by first | rfl | omega) v
                    have f76221g : ∀ (cs : List AC) (h : cs.length = 9) (hb : ((i74732).toNat) * 9 + 6 < (frow ((i74732).toNat) cs x76206.Body).length), (frow ((i74732).toNat) cs x76206.Body)[((i74732).toNat) * 9 + 6]'hb = cs[6]'(by omega) := fun cs h hb => frow_at hx76213d (z := 9) rfl h (by decide) (by first | rfl | omega) hb
                    have f76222 : ∀ cs : List AC, cs.length = 9 → (frow ((i74732).toNat) cs x76206.Body)[((i74732).toNat) * 9 + 7]? = cs[7]? := fun cs h => frow_get hx76213d (z := 9) rfl h (by decide) (by first | rfl | omega)
                    have f76222s : ∀ (cs : List AC) (v : AC), cs.length = 9 → (frow ((i74732).toNat) cs x76206.Body).set (((i74732).toNat) * 9 + 7) v = frow ((i74732).toNat) (cs.set 7 v) x76206.Body := fun cs v h => frow_set hx76213d (z := 9) rfl h (by decide) (by first | rfl | omega) v
                    have f76222g : ∀ (cs : List AC) (h : cs.length = 9) (hb : ((i74732).toNat) * 9 + 7 < (frow ((i74732).toNat) cs x76206.Body).length), (frow ((i74732).toNat) cs x76206.Body)[((i74732).toNat) * 9 + 7]'hb = cs[7]'(by omega) := fun cs h hb => frow_at hx76213d (z := 9) rfl h (by decide) (by first | rfl | omega) hb
                    have f76223 : ∀ cs : List AC, cs.length = 9 → (frow ((i74732).toNat) cs x76206.Body)[((i74732).toNat) * 9 + 8]? = cs[8]? := fun cs h => frow_get hx76213d (z := 9) rfl h (by decide) (by first | rfl | omega)
                    have f76223s : ∀ (cs : List AC) (v : AC), cs.length = 9 → (frow ((i74732).toNat) cs x76206.Body).set (((i74732).toNat) * 9 + 8) v = frow ((i74732).toNat) (cs.set 8 v) x76206.Body := fun cs v h => frow_set hx76213d (z := 9) rfl h (by decide) (by first | rfl | omega) v
                    have f76223g : ∀ (cs : List AC) (h : cs.length = 9) (hb : ((i74732).toNat) * 9 + 8 < (frow ((i74732).toNat) cs x76206.Body).length), (frow ((i74732).toNat) cs x76206.Body)[((i74732).toNat) * 9 + 8]'hb = cs[8]'(by omega) := fun cs h hb => frow_at hx76213d (z := 9) rfl h (by decide) (by first | rfl | omega) hb
                    have f76224 : ∀ cs : List AC, cs.length = 9 → ((frow ((i74732).toNat) cs x76206.Body).drop (((i74732).toNat) * 9)).take 9 = (cs.drop 0).take 9 := fun cs h => frow_seg hx76213d (z := 9) rfl h (by decide) (by first | rfl | omega)
                    have f76225 : ∀ cs : List AC, cs.length = 9 → (frow ((i74732).toNat) cs x76206.Body).length = x76206.Body.length * 9 := fun cs h => frow_len hx76213d rfl h
                    have f76225b : (i74732).toNat < x76206.Body.length := getN_some hx76213d
                    have f76227 : ∀ cs : List AC, cs.length = 9 → ((frow ((i74732).toNat) cs x76206.Body).drop (((i74732).toNat) * 9)).take 1 = (cs.drop 0).take 1 := fun cs h => frow_seg hx76213d (z := 9) rfl h (by decide) (by first | rfl | omega)
                    have F4 := an F3 (an f76208 (an f76209 (an f76209s (an f76209g (an f76210 (an f76211 (an f76211b (an f76214 (an f76215 (an f76215s (an f76215g (an f76216 (an f76216s (an f76216g (an f76217 (an f76217s (an f76217g (an f76218 (an f76218s (an f76218g (an f76219 (an f76219s (an f76219g (an f76220 (an f76220s (an f76220g (an f76221 (an f76221s (an f76221g (an f76222 (an f76222s (an f76222g (an f76223 (an f76223s (an f76223g (an f76224 (an f76225 (an f76225b f76227))))))))))))))))))))))))))))))))))))))
                    refine goD2 F4 ?_
                    revert e76198; refine bK fun o76350 e76349 e76198 => ?_
                    refine awp_cutK (fun (v : (List Expr)) (σ : St) => some (v) = some o76350 ∧ σ.env 2 = .cell (.ref (.o 1 0 0) 0) ∧ σ.env 5 = .cell (.ref (.o 3 4 0) 0) ∧ σ.env 6 = .cell (.ref (.o 3 5 0) 0) ∧ σ.env 7 = iV .i64 i62754 ∧ σ.env 8 = iV .i64 i74732 ∧ σ.env 9 = .cell (.ref (.o (σ1416.gen + 2) 9 0) 0) ∧ σ.hp (.o 1 0 0) = some (.cells (eA a0)) ∧ σ.hp (.o 3 4 0) = some (.cells [.sl (.o 3 1 0) 0 2 y11.Vars.length, .sl (.o 3 1 1) 0 1 y11.Mutexes.length, .sl (.o 3 1 2) 0 1 y11.Conds.length, .sl (.l 20237) 0 3 l76204.length, .sl (.o 3 1 4) 0 2 y11.Threads.length]) ∧ σ.hp (.o 3 1 0) = some (.pure (encL y11.Vars)) ∧ σ.hp (.o 3 1 1) = some (.pure (encL y11.Mutexes)) ∧ σ.hp (.o 3 1 2) = some (.pure (encL y11.Conds)) ∧ σ.hp (.l 20237) = some (.cells (frow ((i62754).toNat) [tC x76206.Name, tC x76206.Param, .sl (.o (σ1416.gen + 2) 5 (((i62754).toNat) * 3 + 2)) 0 9 x76206.Body.length] l76204)) ∧ σ.hp (.o 3 1 4) = some (.pure (encL y11.Threads)) ∧ σ.hp (.o 3 5 0) = some (.cells (eA y13)) ∧ σ.hp (.o (σ1416.gen + 2) 8 (((i74732).toNat) * 9 + 6)) = some (.cells (oencL v)) ∧ σ.hp (.o (σ1416.gen + 2) 9 0) = some (.cells [nC x76212.Kind, tC x76212.Name, tC x76212.Obj, tC x76212.Other, nC x76212.Fn, nC x76212.Order, .sl (.o (σ1416.gen + 2) 8 (((i74732).toNat) * 9 + 6)) 0 5 v.length, .sl (.o (σ1416.gen + 2) 8 (((i74732).toNat) * 9 + 7)) 0 9 x76212.Body.length, .sl (.o (σ1416.gen + 2) 8 (((i74732).toNat) * 9 + 8)) 0 9 x76212.Else.length]) ∧ σ.hp (.o (σ1416.gen + 2) 8 (((i74732).toNat) * 9 + 7)) = some (.cells (oencL x76212.Body)) ∧ σ.hp (.o (σ1416.gen + 2) 8 (((i74732).toNat) * 9 + 8)) = some (.cells (oencL x76212.Else)) ∧ σ.hp (.o (σ1416.gen + 2) 5 (((i62754).toNat) * 3 + 2)) = some (.cells (frow ((i74732).toNat) [nC (IntKind.i64.wrap (x76212.Kind + 1)), tC x76212.Name, tC x76212.Obj, tC x76212.Other, nC x76212.Fn, nC x76212.Order, .sl (.o (σ1416.gen + 2) 8 (((i74732).toNat) * 9 + 6)) 0 5 v.length, .sl (.o (σ1416.gen + 2) 8 (((i74732).toNat) * 9 + 7)) 0 9 x76212.Body.length, .sl (.o (σ1416.gen + 2) 8 (((i74732).toNat) * 9 + 8)) 0 9 x76212.Else.length] x76206.Body)) ∧ (σ1416.gen + 4) ≤ σ.gen) (by rfl) (fun Q hK76351 hX76352 => ?_) (fun l76348 σ1429 hp => ?_)
                    · refine goD F4 ?_
                      revert e76349; refine bK fun o76448 e76447 e76349 => ?_
                      refine awp_loopW (fun (v : Nat × Int × (List Expr)) (σ : St) => law16_AstEqual_L3 v.1 v.2.1 v.2.2 = some o76448 ∧ σ.env 2 = .cell (.ref (.o 1 0 0) 0) ∧ σ.env 5 = .cell (.ref (.o 3 4 0) 0) ∧ σ.env 6 = .cell (.ref (.o 3 5 0) 0) ∧ σ.env 7 = iV .i64 i62754 ∧ σ.env 8 = iV .i64 i74732 ∧ σ.env 9 = .cell (.ref (.o (σ1416.gen + 2) 9 0) 0) ∧ σ.env 10 = iV .i64 v.2.1 ∧ σ.hp (.o 1 0 0) = some (.cells (eA a0)) ∧ σ.hp (.o 3 4 0) = some (.cells [.sl (.o 3 1 0) 0 2 y11.Vars.length, .sl (.o 3 1 1) 0 1 y11.Mutexes.length, .sl (.o 3 1 2) 0 1 y11.Conds.length, .sl (.l 20237) 0 3 l76204.length, .sl (.o 3 1 4) 0 2 y11.Threads.length]) ∧ σ.hp (.o 3 1 0) = some (.pure (encL y11.Vars)) ∧ σ.hp (.o 3 1 1) = some (.pure (encL y11.Mutexes)) ∧ σ.hp (.o 3 1 2) = some (.pure (encL y11.Conds)) ∧ σ.hp (.l 20237) = some (.cells (frow ((i62754).toNat) [tC x76206.Name, tC x76206.Param, .sl (.o (σ1416.gen + 2) 5 (((i62754).toNat) * 3 + 2)) 0 9 x76206.Body.length] l76204)) ∧ σ.hp (.o 3 1 4) = some (.pure (encL y11.Threads)) ∧ σ.hp (.o 3 5 0) = some (.cells (eA y13)) ∧ σ.hp (.o (σ1416.gen + 2) 8 (((i74732).toNat) * 9 + 6)) = some (.cells (oencL v.2.2)) ∧ σ.hp (.o (σ1416.gen + 2) 9 0) = some (.cells [nC x76212.Kind, tC x76212.Name, tC x76212.Obj, tC x76212.Other, nC x76212.Fn, nC x76212.Order, .sl (.o (σ1416.gen + 2) 8 (((i74732).toNat) * 9 + 6)) 0 5 v.2.2.length, .sl (.o (σ1416.gen + 2) 8 (((i74732).toNat) * 9 + 7)) 0 9 x76212.Body.length, .sl (.o (σ1416.gen + 2) 8 (((i74732).toNat) * 9 + 8)) 0 9 x76212.Else.length]) ∧ σ.hp (.o (σ1416.gen + 2) 8 (((i74732).toNat) * 9 + 7)) = some (.cells (oencL x76212.Body)) ∧ σ.hp (.o (σ1416.gen + 2) 8 (((i74732).toNat) * 9 + 8)) = some (.cells (oencL x76212.Else)) ∧ σ.hp (.o (σ1416.gen + 2) 5 (((i62754).toNat) * 3 + 2)) = some (.cells (frow ((i74732).toNat) [nC (IntKind.i64.wrap (x76212.Kind + 1)), tC x76212.Name, tC x76212.Obj, tC x76212.Other, nC x76212.Fn, nC x76212.Order, .sl (.o (σ1416.gen + 2) 8 (((i74732).toNat) * 9 + 6)) 0 5 v.2.2.length, .sl (.o (σ1416.gen + 2) 8 (((i74732).toNat) * 9 + 7)) 0 9 x76212.Body.length, .sl (.o (σ1416.gen + 2) 8 (((i74732).toNat) * 9 + 8)) 0 9 x76212.Else.length] x76206.Body)) ∧ (σ1416.gen + 4) ≤ σ.gen) (fun v => v.1) _ (Gh.refl _) (fuelN, 0, x76212.Exprs) ⟨e76447, pv F4, pv F4, pv F4, pv F4, pv F4, pv F4, pv F4, pv F4, pv F4, pv F4, pv F4, pv F4, pv F4, pv F4, pv F4, pv F4, pv F4, pv F4, pv F4, pv F4, pg⟩ fun v σ1432 hp L76449 hL76450 => ?_
                      obtain ⟨q76452, i76427, l76428⟩ := v
                      dsimp only at hp hL76450
                      obtain ⟨e76447, h1431_2, h1431_5, h1431_6, h1431_7, h1431_8, h1431_9, h1431_10, g1431_0, g1431_1, g1431_2, g1431_3, g1431_4, g1431_5, g1431_6, g1431_7, g1431_8, g1431_9, g1431_10, g1431_11, g1431_12, n1431_g⟩ := hp
                      have n1431_0 : ¬ (σ1432.gen = 0) := by omega
                      have n1431_1 : ¬ (σ1432.gen = 1) := by omega
                      have n1431_2 : ¬ (σ1432.gen = 2) := by omega
                      have n1431_σ1416gen_0 : ¬ (σ1432.gen = σ1416.gen) := by omega
                      have n1431_σ1416gen_0' : ¬ (σ1416.gen = σ1432.gen) := by omega
                      have n1431_σ1416gen_1 : ¬ (σ1432.gen = σ1416.gen + 1) := by omega
                      have n1431_σ1416gen_1' : ¬ (σ1416.gen + 1 = σ1432.gen) := by omega
                      have n1431_σ1416gen_2 : ¬ (σ1432.gen = σ1416.gen + 2) := by omega
                      have n1431_σ1416gen_2' : ¬ (σ1416.gen + 2 = σ1432.gen) := by omega
                      have n1431_σ1416gen_a : ∀ j, ¬ (σ1432.gen + j = σ1416.gen) := fun j => by omega
                      have n1431_σ1416gen_a' : ∀ j, ¬ (σ1416.gen = σ1432.gen + j) := fun j => by omega
                      rcases q76452 with _ | q76453
                      · rw [law16_AstEqual_L3] at e76447; cases e76447
                      · rw [law16_AstEqual_L3] at e76447; try dsimp only at e76447
                        have F5 := an h1431_2 (an h1431_5 (an h1431_6 (an h1431_7 (an h1431_8 (an h1431_9 (an h1431_10 (an g1431_0 (an g1431_1 (an g1431_2 (an g1431_3 (an g1431_4 (an g1431_5 (an g1431_6 (an g1431_7 (an g1431_8 (an g1431_9 (an g1431_10 (an g1431_11 (an g1431_12 (an n1431_0 (an n1431_1 (an n1431_2 (an n1431_σ1416gen_0 (an n1431_σ1416gen_0' (an n1431_σ1416gen_1 (an n1431_σ1416gen_1' (an n1431_σ1416gen_2 (an n1431_σ1416gen_2' (an n1431_σ1416gen_a (an n1431_σ1416gen_a' (an f75730 (an f75730s (an f75730g (an f75731 (an f75732 (an f75732b (an f76209 (an f76209s (an f76209g (an f76210 (an f76211 (an f76211b (an f76215 (an f76215s (an f76215g (an f76216 (an f76216s (an f76216g (an f76217 (an f76217s (an f76217g (an f76218 (an f76218s (an f76218g (an f76219 (an f76219s (an f76219g (an f76220 (an f76220s (an f76220g (an f76221 (an f76221s (an f76221g (an f76222 (an f76222s (an f76222g (an f76223 (an f76223s (an f76223g (an f76224 (an f76225 (an f76225b f76227))))))))))))))))))))))))))))))))))))))))))))))))))))))))))))))))))))))))
                        refine goR F5 ?_
                        revert e76447; refine cS F5 ?_ ?_ <;> intro h76457 e76447
                        · revert e76447; refine bK fun x76464 hx76465 e76447 => ?_
                          obtain ⟨hx76465a, hx76465b, hx76465c, hx76465d⟩ := getI_some hx76465
                          have f76466 : oencL l76428 = frow ((i76427).toNat) [nC x76464.Kind, nC x76464.N, tC x76464.Name, nC x76464.Fn, .own (.sl 5 x76464.Args.length (otL x76464.Args))] l76428 := frow_of hx76465d (by simp)
                          have f76467 : ∀ cs : List AC, cs.length = 5 → (frow ((i76427).toNat) cs l76428)[((i76427).toNat) * 5 + 1]? = cs[1]? := fun cs h => frow_get hx76465d (z := 5) rfl h (by decide) (by first | rfl | omega)
                          have f76467s : ∀ (cs : List AC) (v : AC), cs.length = 5 → (frow ((i76427).toNat) cs l76428).set (((i76427).toNat) * 5 + 1) v = frow ((i76427).toNat) (cs.set 1 v) l76428 := fun cs v h => frow_set hx76465d (z := 5) rfl h (by decide) (by first | rfl | omega) v
                          have f76467g : ∀ (cs : List AC) (h : cs.length = 5) (hb : ((i76427).toNat) * 5 + 1 < (frow ((i76427).toNat) cs l76428).length), (frow ((i76427).toNat) cs l76428)[((i76427).toNat) * 5 + 1]'hb = cs[1]'(by omega) := fun cs h hb => frow_at hx76465d (z := 5) rfl h (by decide) (by first | rfl | omega) hb
                          have f76468 : ∀ cs : List AC, cs.length = 5 → ((frow ((i76427).toNat) cs l76428).drop (((i76427).toNat) * 5 + 1)).take 1 = (cs.drop 1).take 1 := fun cs h => frow_seg hx76465d (z := 5) rfl h (by decide) (by first | rfl | omega)
                          have f76469 : ∀ cs : List AC, cs.length = 5 → (frow ((i76427).toNat) cs l76428).length = l76428.length * 5 := fun cs h => frow_len hx76465d rfl h
                          have f76469b : (i76427).toNat < l76428.length := getN_some hx76465d
                          revert e76447; refine lK fun l76471 hx76472 e76447 => ?_
                          have f76470 : ∀ (m4 : Nat), m4 = x76464.Args.length → frow ((i76427).toNat) [nC x76464.Kind, nC (IntKind.i64.wrap (x76464.N + 1)), tC x76464.Name, nC x76464.Fn, .own (.sl 5 m4 (otL x76464.Args))] l76428 = oencL l76471 := fun m4 h4 => by subst h4; rw [hx76472]; exact frow_end hx76465d (by simp)
                          have f76470n : l76471.length = l76428.length := by rw [hx76472]; simp
                          have f76470w : ∀ n : Nat, n = l76471.length → (encL l76471).take (n * 5) = encL l76471 := fun n h => by rw [h]; exact encL_takeN _ (by simp)
                          have F6 := an F5 (an f76466 (an f76467 (an f76467s (an f76467g (an f76468 (an f76469 (an f76469b (an f76470 (an f76470n f76470w)))))))))
                          refine goD F6 ?_
                          exact hL76450 (q76453, IntKind.i64.wrap (i76427 + 1), l76471) _ _ (Gh.refl _) ⟨e76447, pv F6, pv F6, pv F6, pv F6, pv F6, pv F6, pv F6, pv F6, pv F6, pv F6, pv F6, pv F6, pv F6, pv F6, pv F6, pv F6, pv F6, pv F6, pv F6, pv F6, pg⟩ (by omega)
                        · refine goR F5 ?_
                          obtain rfl := sj e76447
                          try dsimp only at e76349
                          exact hK76351 l76428 _ _ (Gh.refl _) ⟨e76349, pv F5, pv F5, pv F5, pv F5, pv F5, pv F5, pv F5, pv F5, pv F5, pv F5, pv F5, pv F5, pv F5, pv F5, pv F5, pv F5, pv F5, pv F5, pv F5, pg⟩
                    · obtain ⟨e76349, h1430_2, h1430_5, h1430_6, h1430_7, h1430_8, h1430_9, g1430_0, g1430_1, g1430_2, g1430_3, g1430_4, g1430_5, g1430_6, g1430_7, g1430_8, g1430_9, g1430_10, g1430_11, g1430_12, n1430_g⟩ := hp
                      obtain rfl := sj e76349
                      try dsimp only at e76198
                      have n1430_0 : ¬ (σ1429.gen = 0) := by omega
                      have n1430_1 : ¬ (σ1429.gen = 1) := by omega
                      have n1430_2 : ¬ (σ1429.gen = 2) := by omega
                      have n1430_σ1416gen_0 : ¬ (σ1429.gen = σ1416.gen) := by omega
                      have n1430_σ1416gen_0' : ¬ (σ1416.gen = σ1429.gen) := by omega
                      have n1430_σ1416gen_1 : ¬ (σ1429.gen = σ1416.gen + 1) := by omega
                      have n1430_σ1416gen_1' : ¬ (σ1416.gen + 1 = σ1429.gen) := by omega
                      have n1430_σ1416gen_2 : ¬ (σ1429.gen = σ1416.gen + 2) := by omega
                      have n1430_σ1416gen_2' : ¬ (σ1416.gen + 2 = σ1429.gen) := by omega
                      have n1430_σ1416gen_a : ∀ j, ¬ (σ1429.gen + j = σ1416.gen) := fun j => by omega
                      have n1430_σ1416gen_a' : ∀ j, ¬ (σ1416.gen = σ1429.gen + j) := fun j => by omega
                      have F7 := an h1430_2 (an h1430_5 (an h1430_6 (an h1430_7 (an h1430_8 (an h1430_9 (an g1430_0 (an g1430_1 (an g1430_2 (an g1430_3 (an g1430_4 (an g1430_5 (an g1430_6 (an g1430_7 (an g1430_8 (an g1430_9 (an g1430_10 (an g1430_11 (an g1430_12 (an n1430_0 (an n1430_1 (an n1430_2 (an n1430_σ1416gen_0 (an n1430_σ1416gen_0' (an n1430_σ1416gen_1 (an n1430_σ1416gen_1' (an n1430_σ1416gen_2 (an n1430_σ1416gen_2' (an n1430_σ1416gen_a (an n1430_σ1416gen_a' (an f75730 (an f75730s (an f75730g (an f75731 (an f75732 (an f75732b (an f76209 (an f76209s (an f76209g (an f76210 (an f76211 (an f76211b (an f76215 (an f76215s (an f76215g (an f76216 (an f76216s (an f76216g (an f76217 (an f76217s (an f76217g (an f76218 (an f76218s (an f76218g (an f76219 (an f76219s (an f76219g (an f76220 (an f76220s (an f76220g (an f76221 (an f76221s (an f76221g (an f76222 (an f76222s (an f76222g (an f76223 (an f76223s (an f76223g (an f76224 (an f76225 (an f76225b f76227)))))))))))))))))))))))))))))))))))))))))))))))))))))))))))))))))))))))
                      refine goD F7 ?_
                      revert e76198; refine bK fun o76628 e76627 e76198 => ?_
                      refine awp_loopW (fun (v : Nat × Int × (List Stmt)) (σ : St) => law16_AstEqual_L4 i62754 i74732 l76204 l76348 x76206 x76212 v.1 v.2.1 v.2.2 = some o76628 ∧ σ.env 2 = .cell (.ref (.o 1 0 0) 0) ∧ σ.env 5 = .cell (.ref (.o 3 4 0) 0) ∧ σ.env 6 = .cell (.ref (.o 3 5 0) 0) ∧ σ.env 7 = iV .i64 i62754 ∧ σ.env 8 = iV .i64 i74732 ∧ σ.env 9 = .cell (.ref (.o (σ1416.gen + 2) 9 0) 0) ∧ σ.env 11 = iV .i64 v.2.1 ∧ σ.hp (.o 1 0 0) = some (.cells (eA a0)) ∧ σ.hp (.o 3 4 0) = some (.cells [.sl (.o 3 1 0) 0 2 y11.Vars.length, .sl (.o 3 1 1) 0 1 y11.Mutexes.length, .sl (.o 3 1 2) 0 1 y11.Conds.length, .sl (.l 20237) 0 3 l76204.length, .sl (.o 3 1 4) 0 2 y11.Threads.length]) ∧ σ.hp (.o 3 1 0) = some (.pure (encL y11.Vars)) ∧ σ.hp (.o 3 1 1) = some (.pure (encL y11.Mutexes)) ∧ σ.hp (.o 3 1 2) = some (.pure (encL y11.Conds)) ∧ σ.hp (.l 20237) = some (.cells (frow ((i62754).toNat) [tC x76206.Name, tC x76206.Param, .sl (.o (σ1416.gen + 2) 5 (((i62754).toNat) * 3 + 2)) 0 9 x76206.Body.length] l76204)) ∧ σ.hp (.o 3 1 4) = some (.pure (encL y11.Threads)) ∧ σ.hp (.o 3 5 0) = some (.cells (eA y13)) ∧ σ.hp (.o (σ1416.gen + 2) 8 (((i74732).toNat) * 9 + 7)) = some (.cells (oencL v.2.2)) ∧ σ.hp (.o (σ1416.gen + 2) 9 0) = some (.cells [nC x76212.Kind, tC x76212.Name, tC x76212.Obj, tC x76212.Other, nC x76212.Fn, nC x76212.Order, .sl (.o (σ1416.gen + 2) 8 (((i74732).toNat) * 9 + 6)) 0 5 l76348.length, .sl (.o (σ1416.gen + 2) 8 (((i74732).toNat) * 9 + 7)) 0 9 v.2.2.length, .sl (.o (σ1416.gen + 2) 8 (((i74732).toNat) * 9 + 8)) 0 9 x76212.Else.length]) ∧ σ.hp (.o (σ1416.gen + 2) 8 (((i74732).toNat) * 9 + 6)) = some (.cells (oencL l76348)) ∧ σ.hp (.o (σ1416.gen + 2) 8 (((i74732).toNat) * 9 + 8)) = some (.cells (oencL x76212.Else)) ∧ σ.hp (.o (σ1416.gen + 2) 5 (((i62754).toNat) * 3 + 2)) = some (.cells (frow ((i74732).toNat) [nC (IntKind.i64.wrap (x76212.Kind + 1)), tC x76212.Name, tC x76212.Obj, tC x76212.Other, nC x76212.Fn, nC x76212.Order, .sl (.o (σ1416.gen + 2) 8 (((i74732).toNat) * 9 + 6)) 0 5 l76348.length, .sl (.o (σ1416.gen + 2) 8 (((i74732).toNat) * 9 + 7)) 0 9 v.2.2.length, .sl (.o (σ1416.gen + 2) 8 (((i74732).toNat) * 9 + 8)) 0 9 x76212.Else.length] x76206.Body)) ∧ (σ1429.gen + 1) ≤ σ.gen) (fun v => v.1) _ (Gh.refl _) (fuelN, 0, x76212.Body) ⟨e76627, pv F7, pv F7, pv F7, pv F7, pv F7, pv F7, pv F7, pv F7, pv F7, pv F7, pv F7, pv F7, pv F7, pv F7, pv F7, pv F7, pv F7, pv F7, pv F7, pv F7, pg⟩ fun v σ1434 hp L76629 hL76630 => ?_
                      obtain ⟨q76632, i76595, l76596⟩ := v
                      dsimp only at hp hL76630
                      obtain ⟨e76627, h1433_2, h1433_5, h1433_6, h1433_7, h1433_8, h1433_9, h1433_11, g1433_0, g1433_1, g1433_2, g1433_3, g1433_4, g1433_5, g1433_6, g1433_7, g1433_8, g1433_9, g1433_10, g1433_11, g1433_12, n1433_g⟩ := hp
                      have n1433_0 : ¬ (σ1434.gen = 0) := by omega
                      have n1433_1 : ¬ (σ1434.gen = 1) := by omega
                      have n1433_2 : ¬ (σ1434.gen = 2) := by omega
                      have n1433_σ1416gen_0 : ¬ (σ1434.gen = σ1416.gen) := by omega
                      have n1433_σ1416gen_0' : ¬ (σ1416.gen = σ1434.gen) := by omega
                      have n1433_σ1416gen_1 : ¬ (σ1434.gen = σ1416.gen + 1) := by omega
                      have n1433_σ1416gen_1' : ¬ (σ1416.gen + 1 = σ1434.gen) := by omega
                      have n1433_σ1416gen_2 : ¬ (σ1434.gen = σ1416.gen + 2) := by omega
                      have n1433_σ1416gen_2' : ¬ (σ1416.gen + 2 = σ1434.gen) := by omega
                      have n1433_σ1416gen_a : ∀ j, ¬ (σ1434.gen + j = σ1416.gen) := fun j => by omega
                      have n1433_σ1416gen_a' : ∀ j, ¬ (σ1416.gen = σ1434.gen + j) := fun j => by omega
                      rcases q76632 with _ | q76633
                      · rw [law16_AstEqual_L4] at e76627; cases e76627
                      · rw [law16_AstEqual_L4] at e76627; try dsimp only at e76627
                        have F8 := an h1433_2 (an h1433_5 (an h1433_6 (an h1433_7 (an h1433_8 (an h1433_9 (an h1433_11 (an g1433_0 (an g1433_1 (an g1433_2 (an g1433_3 (an g1433_4 (an g1433_5 (an g1433_6 (an g1433_7 (an g1433_8 (an g1433_9 (an g1433_10 (an g1433_11 (an g1433_12 (an n1433_0 (an n1433_1 (an n1433_2 (an n1433_σ1416gen_0 (an n1433_σ1416gen_0' (an n1433_σ1416gen_1 (an n1433_σ1416gen_1' (an n1433_σ1416gen_2 (an n1433_σ1416gen_2' (an n1433_σ1416gen_a (an n1433_σ1416gen_a' (an f75730 (an f75730s (an f75730g (an f75731 (an f75732 (an f75732b (an f76209 (an f76209s (an f76209g (an f76210 (an f76211 (an f76211b (an f76215 (an f76215s (an f76215g (an f76216 (an f76216s (an f76216g (an f76217 (an f76217s (an f76217g (an f76218 (an f76218s (an f76218g (an f76219 (an f76219s (an f76219g (an f76220 (an f76220s (an f76220g (an f76221 (an f76221s (an f76221g (an f76222 (an f76222s (an f76222g (an f76223 (an f76223s (an f76223g (an f76224 (an f76225 (an f76225b f76227))))))))))))))))))))))))))))))))))))))))))))))))))))))))))))))))))))))))
                        refine goR F8 ?_
                        revert e76627; refine cS F8 ?_ ?_ <;> intro h76637 e76627
                        · revert e76627; refine bK fun x76645 hx76646 e76627 => ?_
                          obtain ⟨hx76646a, hx76646b, hx76646c, hx76646d⟩ := getI_some hx76646
                          have f76647 : oencL l76596 = frow ((i76595).toNat) [nC x76645.Kind, tC x76645.Name, tC x76645.Obj, tC x76645.Other, nC x76645.Fn, nC x76645.Order, .own (.sl 5 x76645.Exprs.length (otL x76645.Exprs)), .own (.sl 9 x76645.Body.length (otL x76645.Body)), .own (.sl 9 x76645.Else.length (otL x76645.Else))] l76596 := frow_of hx76646d (by simp)
                          have f76648 : ∀ cs : List AC, cs.length = 9 → (frow ((i76595).toNat) cs l76596)[((i76595).toNat) * 9 + 1]? = cs[1]? := fun cs h => frow_get hx76646d (z := 9) rfl h (by decide) (by first | rfl | omega)
                          have f76648s : ∀ (cs : List AC) (v : AC), cs.length = 9 → (frow ((i76595).toNat) cs l76596).set (((i76595).toNat) * 9 + 1) v = frow ((i76595).toNat) (cs.set 1 v) l76596 := fun cs v h => frow_set hx76646d (z := 9) rfl h (by decide) (by first | rfl | omega) v
                          have f76648g : ∀ (cs : List AC) (h : cs.length = 9) (hb : ((i76595).toNat) * 9 + 1 < (frow ((i76595).toNat) cs l76596).length), (frow ((i76595).toNat) cs l76596)[((i76595).toNat) * 9 + 1]'hb = cs[1]'(by omega) := fun cs h hb => frow_at hx76646d (z := 9) rfl h (by decide) (by first | rfl | omega) hb
                          have f76649 : ∀ cs : List AC, cs.length = 9 → ((frow ((i76595).toNat) cs l76596).drop (((i76595).toNat) * 9 + 1)).take 1 = (cs.drop 1).take 1 := fun cs h => frow_seg hx76646d (z := 9) rfl h (by decide) (by first | rfl | omega)
                          have f76650 : ∀ cs : List AC, cs.length = 9 → (frow ((i76595).toNat) cs l76596).length = l76596.length * 9 := fun cs h => frow_len hx76646d rfl h
                          have f76650b : (i76595).toNat < l76596.length := getN_some hx76646d
                          obtain ⟨g76651, e76627⟩ := guardO_some e76627
                          have g76651 := strB2_u g76651
                          revert e76627; refine lK fun l76653 hx76654 e76627 => ?_
                          have f76652 : ∀ (m6 : Nat) (m7 : Nat) (m8 : Nat), m6 = x76645.Exprs.length → m7 = x76645.Body.length → m8 = x76645.Else.length → frow ((i76595).toNat) [nC x76645.Kind, tC (x76645.Name ++ (⟨#[120]⟩ : ByteArray)), tC x76645.Obj, tC x76645.Other, nC x76645.Fn, nC x76645.Order, .own (.sl 5 m6 (otL x76645.Exprs)), .own (.sl 9 m7 (otL x76645.Body)), .own (.sl 9 m8 (otL x76645.Else))] l76596 = oencL l76653 := fun m6 m7 m8 h6 h7 h8 => by subst h6 h7 h8; rw [hx76654]; exact frow_end hx76646d (by simp)
                          have f76652n : l76653.length = l76596.length := by rw [hx76654]; simp
                          have f76652w : ∀ n : Nat, n = l76653.length → (encL l76653).take (n * 9) = encL l76653 := fun n h => by rw [h]; exact encL_takeN _ (by simp)
                          have F9 := an F8 (an f76647 (an f76648 (an f76648s (an f76648g (an f76649 (an f76650 (an f76650b (an g76651 (an f76652 (an f76652n f76652w))))))))))
                          refine goD F9 ?_
                          exact hL76630 (q76633, IntKind.i64.wrap (i76595 + 1), l76653) _ _ (Gh.refl _) ⟨e76627, pv F9, pv F9, pv F9, pv F9, pv F9, pv F9, pv F9, pv F9, pv F9, pv F9, pv F9, pv F9, pv F9, pv F9, pv F9, pv F9, pv F9, pv F9, pv F9, pv F9, pg⟩ (by omega)
                        · have f76655 : ∀ m : Nat, m = l76348.length → (oencL l76348).take (m * 5) = oencL l76348 := fun m h => by rw [h]; exact oencL_takeN _ (by simp)
                          have f76656 : ∀ m : Nat, m = l76596.length → (oencL l76596).take (m * 9) = oencL l76596 := fun m h => by rw [h]; exact oencL_takeN _ (by simp)
                          have f76657 : ∀ m : Nat, m = x76212.Else.length → (oencL x76212.Else).take (m * 9) = oencL x76212.Else := fun m h => by rw [h]; exact oencL_takeN _ (by simp)
                          revert e76627; refine lK fun l76659 hx76660 e76627 => ?_
                          have f76658 : ∀ (m6 : Nat) (m7 : Nat) (m8 : Nat), m6 = l76348.length → m7 = l76596.length → m8 = x76212.Else.length → frow ((i74732).toNat) [nC (IntKind.i64.wrap (x76212.Kind + 1)), tC x76212.Name, tC x76212.Obj, tC x76212.Other, nC x76212.Fn, nC x76212.Order, .own (.sl 5 m6 (otL l76348)), .own (.sl 9 m7 (otL l76596)), .own (.sl 9 m8 (otL x76212.Else))] x76206.Body = oencL l76659 := fun m6 m7 m8 h6 h7 h8 => by subst h6 h7 h8; rw [hx76660]; exact frow_end hx76213d (by simp)
                          have f76658n : l76659.length = x76206.Body.length := by rw [hx76660]; simp
                          have f76658w : ∀ n : Nat, n = l76659.length → (encL l76659).take (n * 9) = encL l76659 := fun n h => by rw [h]; exact encL_takeN _ (by simp)
                          have f76661 : ∀ m : Nat, m = l76659.length → (oencL l76659).take (m * 9) = oencL l76659 := fun m h => by rw [h]; exact oencL_takeN _ (by simp)
                          revert e76627; refine lK fun l76663 hx76664 e76627 => ?_
                          have f76662 : ∀ (m2 : Nat), m2 = l76659.length → frow ((i62754).toNat) [tC x76206.Name, tC x76206.Param, .own (.sl 9 m2 (otL l76659))] l76204 = oencL l76663 := fun m2 h2 => by subst h2; rw [hx76664]; exact frow_end hx76207d (by simp)
                          have f76662n : l76663.length = l76204.length := by rw [hx76664]; simp
                          have f76662w : ∀ n : Nat, n = l76663.length → (encL l76663).take (n * 3) = encL l76663 := fun n h => by rw [h]; exact encL_takeN _ (by simp)
                          have F10 := an F8 (an f76655 (an f76656 (an f76657 (an f76658 (an f76658n (an f76658w (an f76661 (an f76662 (an f76662n f76662w)))))))))
                          refine goR F10 ?_
                          obtain rfl := sj e76627
                          try dsimp only at e76198
                          exact hK76200 l76663 _ _ ((Gh.close _ (.o (σ1416.gen + 2) 5 (((i62754).toNat) * 3 + 2)) (((i74732).toNat) * 9 + 6)).trans ((Gh.close _ (.o (σ1416.gen + 2) 5 (((i62754).toNat) * 3 + 2)) (((i74732).toNat) * 9 + 7)).trans ((Gh.close _ (.o (σ1416.gen + 2) 5 (((i62754).toNat) * 3 + 2)) (((i74732).toNat) * 9 + 8)).trans (Gh.close _ (.l 20237) (((i62754).toNat) * 3 + 2))))) ⟨e76198, pv F10, pv F10, pv F10, pv F10, pv F10, pv F10, pv F10, pv F10, pv F10, pv F10, pv F10, pv F10, pv F10, pg⟩
                  · obtain ⟨e76198, h1426_2, h1426_5, h1426_6, h1426_7, h1426_8, g1426_0, g1426_1, g1426_2, g1426_3, g1426_4, g1426_5, g1426_6, g1426_7, n1426_g⟩ := hp
                    obtain rfl := sj e76198
                    try dsimp only at e75717
                    have n1426_0 : ¬ (σ1425.gen = 0) := by omega
                    have n1426_1 : ¬ (σ1425.gen = 1) := by omega
                    have n1426_2 : ¬ (σ1425.gen = 2) := by omega
                    have F11 := an h1426_2 (an h1426_5 (an h1426_6 (an h1426_7 (an h1426_8 (an g1426_0 (an g1426_1 (an g1426_2 (an g1426_3 (an g1426_4 (an g1426_5 (an g1426_6 (an g1426_7 (an n1426_0 (an n1426_1 (an n1426_2 (an f75730 (an f75730s (an f75730g (an f75731 (an f75732 f75732b))))))))))))))))))))
                    refine goR F11 ?_
                    exact hL75720 (q75723, IntKind.i64.wrap (i74732 + 1), l76197) _ _ (Gh.refl _) ⟨e75717, pv F11, pv F11, pv F11, pv F11, pv F11, pv F11, pv F11, pv F11, pv F11, pv F11, pv F11, pv F11, pv F11, pg⟩ (by omega)
                · have f76665 : ∀ m : Nat, m = x75727.Body.length → (oencL x75727.Body).take (m * 9) = oencL x75727.Body := fun m h => by rw [h]; exact oencL_takeN _ (by simp)
                  revert e75717; refine lK fun l76667 hx76668 e75717 => ?_
                  have f76666 : ∀ (m2 : Nat), m2 = x75727.Body.length → frow ((i62754).toNat) [tC x75727.Name, tC x75727.Param, .own (.sl 9 m2 (otL x75727.Body))] l74733 = oencL l76667 := fun m2 h2 => by subst h2; rw [hx76668]; exact frow_end hx75728d (by simp)
                  have f76666n : l76667.length = l74733.length := by rw [hx76668]; simp
                  have f76666w : ∀ n : Nat, n = l76667.length → (encL l76667).take (n * 3) = encL l76667 := fun n h => by rw [h]; exact encL_takeN _ (by simp)
                  have F12 := an F2 (an f76665 (an f76666 (an f76666n f76666w)))
                  refine goR F12 ?_
                  obtain rfl := sj e75717
                  try dsimp only at e72762
                  exact hK72764 l76667 _ _ ((Gh.close _ (.l 20237) (((i62754).toNat) * 3 + 2)).trans (Gh.ren _ (.l 20237) (.l 19144) (by simp) rfl rfl)) ⟨e72762, pv F12, pv F12, pv F12, pv F12, pv F12, pv F12, pv F12, pv F12, pv F12, pv F12, pv F12, pv F12, pg⟩
            · obtain ⟨e72762, h1360_2, h1360_5, h1360_6, h1360_7, g1360_0, g1360_1, g1360_2, g1360_3, g1360_4, g1360_5, g1360_6, g1360_7, n1360_g⟩ := hp
              obtain rfl := sj e72762
              try dsimp only at e68847
              have n1360_0 : ¬ (σ1359.gen = 0) := by omega
              have n1360_1 : ¬ (σ1359.gen = 1) := by omega
              have n1360_2 : ¬ (σ1359.gen = 2) := by omega
              have F13 := an h1360_2 (an h1360_5 (an h1360_6 (an h1360_7 (an g1360_0 (an g1360_1 (an g1360_2 (an g1360_3 (an g1360_4 (an g1360_5 (an g1360_6 (an g1360_7 (an n1360_0 (an n1360_1 n1360_2)))))))))))))
              refine goR F13 ?_
              exact hL68850 (q68853, IntKind.i64.wrap (i62754 + 1), l72761) _ _ (Gh.ren _ (.l 19144) (.l 16953) (by simp) rfl rfl) ⟨e68847, pv F13, pv F13, pv F13, pv F13, pv F13, pv F13, pv F13, pv F13, pv F13, pv F13, pv F13, pv F13, pg⟩ (by omega)
          · refine goR F1 ?_
            obtain rfl := sj e68847
            try dsimp only at e38345
            exact hK38347 l62755 _ _ (Gh.ren _ (.l 16953) (.l 6562) (by simp) rfl rfl) ⟨e38345, pv F1, pv F1, pv F1, pv F1, pv F1, pv F1, pv F1, pv F1, pv F1, pv F1, pv F1, pg⟩
      · obtain ⟨e38345, h718_2, h718_5, h718_6, g718_0, g718_1, g718_2, g718_3, g718_4, g718_5, g718_6, g718_7, n718_g⟩ := hp
        obtain rfl := sj e38345
        try dsimp only at hs
        have n718_0 : ¬ (σ717.gen = 0) := by omega
        have n718_1 : ¬ (σ717.gen = 1) := by omega
        have n718_2 : ¬ (σ717.gen = 2) := by omega
        have F14 := an h718_2 (an h718_5 (an h718_6 (an g718_0 (an g718_1 (an g718_2 (an g718_3 (an g718_4 (an g718_5 (an g718_6 (an g718_7 (an n718_0 (an n718_1 n718_2))))))))))))
        refine goE2 F14 F14 ?_
        revert hs; refine bK fun o76783 e76782 hs => ?_
        refine awp_cutK (fun (v : Unit) (σ : St) => some (v) = some o76783 ∧ σ.env 2 = .cell (.ref (.o 1 0 0) 0) ∧ σ.env 6 = .cell (.ref (.o 3 5 0) 0) ∧ σ.hp (.o 1 0 0) = some (.cells (eA a0)) ∧ σ.hp (.o 3 5 0) = some (.cells (eA y13)) ∧ (σ717.gen + 1) ≤ σ.gen) (by rfl) (fun Q hK76784 hX76785 => ?_) (fun v σ1437 hp => ?_)
        · refine goE F14 F14 ?_
          revert e76782; refine bK fun o76875 e76874 e76782 => ?_
          refine awp_loopW (fun (v : Nat × Int × (List Var)) (σ : St) => law16_AstEqual_L5 v.1 v.2.1 v.2.2 = some o76875 ∧ σ.env 2 = .cell (.ref (.o 1 0 0) 0) ∧ σ.env 5 = .cell (.ref (.o 3 4 0) 0) ∧ σ.env 6 = .cell (.ref (.o 3 5 0) 0) ∧ σ.env 12 = iV .i64 v.2.1 ∧ σ.hp (.o 1 0 0) = some (.cells (eA a0)) ∧ σ.hp (.l 20823) = some (.pure (encL v.2.2)) ∧ σ.hp (.o 3 4 0) = some (.cells [.sl (.l 20823) 0 2 v.2.2.length, .sl (.o 3 1 1) 0 1 y11.Mutexes.length, .sl (.o 3 1 2) 0 1 y11.Conds.length, .sl (.l 6562) 0 3 l38344.length, .sl (.o 3 1 4) 0 2 y11.Threads.length]) ∧ σ.hp (.o 3 1 1) = some (.pure (encL y11.Mutexes)) ∧ σ.hp (.o 3 1 2) = some (.pure (encL y11.Conds)) ∧ σ.hp (.l 6562) = some (.cells (oencL l38344)) ∧ σ.hp (.o 3 1 4) = some (.pure (encL y11.Threads)) ∧ σ.hp (.o 3 5 0) = some (.cells (eA y13)) ∧ (σ717.gen + 1) ≤ σ.gen) (fun v => v.1) _ (Gh.ren _ (.o 3 1 0) (.l 20823) (by simp) rfl rfl) (fuelN, 0, y11.Vars) ⟨e76874, pv F14, pv F14, pv F14, pv F14, pv F14, pv F14, pv F14, pv F14, pv F14, pv F14, pv F14, pv F14, pg⟩ fun v σ1440 hp L76876 hL76877 => ?_
          obtain ⟨q76879, i76856, l76857⟩ := v
          dsimp only at hp hL76877
          obtain ⟨e76874, h1439_2, h1439_5, h1439_6, h1439_12, g1439_0, g1439_1, g1439_2, g1439_3, g1439_4, g1439_5, g1439_6, g1439_7, n1439_g⟩ := hp
          have n1439_0 : ¬ (σ1440.gen = 0) := by omega
          have n1439_1 : ¬ (σ1440.gen = 1) := by omega
          have n1439_2 : ¬ (σ1440.gen = 2) := by omega
          rcases q76879 with _ | q76880
          · rw [law16_AstEqual_L5] at e76874; cases e76874
          · rw [law16_AstEqual_L5] at e76874; try dsimp only at e76874
            have F15 := an h1439_2 (an h1439_5 (an h1439_6 (an h1439_12 (an g1439_0 (an g1439_1 (an g1439_2 (an g1439_3 (an g1439_4 (an g1439_5 (an g1439_6 (an g1439_7 (an n1439_0 (an n1439_1 n1439_2)))))))))))))
            refine goR F15 ?_
            revert e76874; refine cS F15 ?_ ?_ <;> intro h76884 e76874
            · revert e76874; refine bK fun x76892 hx76893 e76874 => ?_
              obtain ⟨hx76893a, hx76893b, hx76893c, hx76893d⟩ := getI_some hx76893
              have f76894 : partCV Tryd.prog 9 (encL l76857) (((i76856).toNat) * 2) = some (sV x76892.Name) := partCV_enc hx76893d (f := 0) (by simp)
              obtain ⟨g76895, e76874⟩ := guardO_some e76874
              have g76895 := strB2_u g76895
              revert e76874; refine lK fun l76896 hx76897 e76874 => ?_
              have f76898 : setRun (encL l76857) (((i76856).toNat) * 2) [.c (.string (x76892.Name ++ (⟨#[120]⟩ : ByteArray)))] = encL l76896 := hx76897 ▸ setRun_enc hx76893d (f := 0) (by simp) (by simp [setRun])
              simp only [setRun] at f76898
              have f76898n : l76896.length = l76857.length := by rw [hx76897]; simp
              have F16 := an F15 (an f76894 (an g76895 (an f76898 f76898n)))
              refine goD F16 ?_
              exact hL76877 (q76880, IntKind.i64.wrap (i76856 + 1), l76896) _ _ (Gh.refl _) ⟨e76874, pv F16, pv F16, pv F16, pv F16, pv F16, pv F16, pv F16, pv F16, pv F16, pv F16, pv F16, pv F16, pg⟩ (by omega)
            · refine goR F15 ?_
              obtain rfl := sj e76874
              try dsimp only at e76782
              exact hK76784 () _ _ (Gh.refl _) ⟨e76782, pv F15, pv F15, pv F15, pv F15, pg⟩
        · obtain ⟨e76782, h1438_2, h1438_6, g1438_0, g1438_1, n1438_g⟩ := hp
          obtain rfl := sj e76782
          try dsimp only at hs
          have n1438_0 : ¬ (σ1437.gen = 0) := by omega
          have n1438_1 : ¬ (σ1437.gen = 1) := by omega
          have n1438_2 : ¬ (σ1437.gen = 2) := by omega
          have F17 := an h1438_2 (an h1438_6 (an g1438_0 (an g1438_1 (an n1438_0 (an n1438_1 n1438_2)))))
          refine goE F17 F17 ?_
          revert hs; refine bK fun y76899 hx76900 hs => ?_
          refine cP F17 (at_law16_awake hx76900) ?_
          refine goE F17 F17 ?_
          obtain ⟨g76901, hs⟩ := guardO_some hs
          refine gsel_call (fun hg => at_r16_Equal (under_call g76901 hg)) (fun hg => by (try simp at hg); (first | simp [hg, F17]); try rfl) (fun hg => by (try simp at hg); simp [hg, F17]) (by simp) ?_
          refine goE F17 F17 ?_
          obtain rfl := sj hs
          exact hQ _ _ (rg F17 (Gh.refl _))
end Go.Dc
end
section
set_option linter.all false
namespace Go.Dc.Pl
open Go Go.Hw Go.Dc
def all2 {α : Type} (e : α → α → Bool) : List α → List α → Bool
  | [], [] => true
  | x :: r, y :: s => e x y && all2 e r s
  | _, _ => false
theorem all2_len {α : Type} {e : α → α → Bool} : ∀ {a b : List α}, a.length ≠ b.length → all2 e a b = false
  | [], [], h => absurd rfl h
  | [], _ :: _, _ => rfl
  | _ :: _, [], _ => rfl
  | x :: a, y :: b, h => by rw [all2, all2_len (a := a) (b := b) (by simpa using h), Bool.and_false]
theorem all2_refl {α : Type} {e : α → α → Bool} : ∀ {a : List α}, (∀ x ∈ a, e x x = true) → all2 e a a = true
  | [], _ => rfl
  | x :: a, h => by rw [all2, h x (by simp), all2_refl fun y hy => h y (by simp [hy])]; rfl
def eqO (t : Bool) : Unit ⊕ Bool := if t = true then .inl () else .inr false
theorem eqloop {α : Type} {b : List α} {L : List α → Nat → Option (Unit ⊕ Bool)} {f : α → α → Option Bool} {e : α → α → Bool} (h0 : ∀ k, L [] k = some (.inl ()))
    (h1 : ∀ x q k, L (x :: q) k = Option.bind (b[k]?) fun y => Option.bind (f x y) fun t => cond (!t) (some (.inr false)) (L q (k + 1))) :
    ∀ (r : List α) (k : Nat), r.length + k = b.length → (∀ x ∈ r, ∀ y, f x y = some (e x y)) → L r k = some (eqO (all2 e r (b.drop k)))
  | [], k, hk, _ => by rw [h0, List.drop_eq_nil_of_le (by simp at hk; omega)]; rfl
  | x :: r, k, hk, hf => by
    rw [List.length_cons] at hk
    have hb : k < b.length := by omega
    rw [h1, List.getElem?_eq_getElem hb, Option.bind_some, hf x (by simp), Option.bind_some, List.drop_eq_getElem_cons hb, all2, eqloop h0 h1 r (k + 1) (by omega) fun y hy => hf y (by simp [hy])]
    cases e x b[k] <;> simp [eqO]
/-- A comparison of two lists, element by element. -/
theorem eqfun {α : Type} {a b : List α} {L : List α → Nat → Option (Unit ⊕ Bool)} {f : α → α → Option Bool} {e : α → α → Bool} (h0 : ∀ k, L [] k = some (.inl ()))
    (h1 : ∀ x q k, L (x :: q) k = Option.bind (b[k]?) fun y => Option.bind (f x y) fun t => cond (!t) (some (.inr false)) (L q (k + 1))) (hf : ∀ x ∈ a, ∀ y, f x y = some (e x y)) :
    a.length = b.length → L a 0 = some (eqO (all2 e a b)) := fun h => by
  have := eqloop h0 h1 a 0 (by omega) hf
  rwa [List.drop_zero] at this
mutual
def eqE : Expr → Expr → Bool
  | ⟨k, n, m, f, l⟩, y => (((eqI k y.Kind && eqI n y.N) && eqS m y.Name) && eqI f y.Fn) && eqEL l y.Args
def eqEL : List Expr → List Expr → Bool
  | [], [] => true
  | x :: r, y :: s => eqE x y && eqEL r s
  | _, _ => false
end
theorem eqEL_all : ∀ a b : List Expr, eqEL a b = all2 eqE a b
  | [], [] => by rw [eqEL, all2]
  | [], _ :: _ => by rw [eqEL, all2] <;> simp
  | _ :: _, [] => by rw [eqEL, all2] <;> simp
  | x :: a, y :: b => by rw [eqEL, all2, eqEL_all a b]
theorem eqE_eq (x y : Expr) : eqE x y = ((((eqI x.Kind y.Kind && eqI x.N y.N) && eqS x.Name y.Name) && eqI x.Fn y.Fn) && all2 eqE x.Args y.Args) := by cases x; rw [eqE, eqEL_all]
mutual
def eqT : Stmt → Stmt → Bool
  | ⟨a, b, c, d, e, f, g, h, i⟩, y => (((((eqI a y.Kind && eqS b y.Name) && eqS c y.Obj) && eqS d y.Other) && eqI e y.Fn) && eqI f y.Order) && all2 eqE g y.Exprs && eqTL h y.Body && eqTL i y.Else
def eqTL : List Stmt → List Stmt → Bool
  | [], [] => true
  | x :: r, y :: s => eqT x y && eqTL r s
  | _, _ => false
end
theorem eqTL_all : ∀ a b : List Stmt, eqTL a b = all2 eqT a b
  | [], [] => by rw [eqTL, all2]
  | [], _ :: _ => by rw [eqTL, all2] <;> simp
  | _ :: _, [] => by rw [eqTL, all2] <;> simp
  | x :: a, y :: b => by rw [eqTL, all2, eqTL_all a b]
theorem eqT_eq (x y : Stmt) : eqT x y = ((((((eqI x.Kind y.Kind && eqS x.Name y.Name) && eqS x.Obj y.Obj) && eqS x.Other y.Other) && eqI x.Fn y.Fn) && eqI x.Order y.Order) && all2 eqE x.Exprs y.Exprs && all2 eqT x.Body y.Body && all2 eqT x.Else y.Else) := by cases x; rw [eqT, eqTL_all, eqTL_all]
theorem eqI_refl (a : Int) : eqI a a = true := by simp [eqI]
theorem eqS_rfl (a : ByteArray) : eqS a a = true := by simp [eqS]
theorem eqE_refl : ∀ (N : Nat) (x : Expr), nE x ≤ N → eqE x x = true
  | 0, x, h => absurd (nE_pos x) (by omega)
  | N + 1, x, h => by
    have h1 := nE_eq x
    rw [eqE_eq, all2_refl fun y hy => eqE_refl N y (by have := nL_mem hy; omega)]
    simp [eqI_refl, eqS_rfl]
theorem eqT_refl : ∀ (N : Nat) (x : Stmt), nS x ≤ N → eqT x x = true
  | 0, x, h => absurd (nS_pos x) (by omega)
  | N + 1, x, h => by
    have h1 := nS_eq x
    rw [eqT_eq, all2_refl fun y hy => eqE_refl N y (by have := nL_mem hy; omega), all2_refl fun y hy => eqT_refl N y (by have := nSL_mem hy; omega), all2_refl fun y hy => eqT_refl N y (by have := nSL_mem hy; omega)]
    simp [eqI_refl, eqS_rfl]
/-! The two comparisons. -/
theorem own_sameExpr : ∀ (N : Nat) (x y : Expr), nE x ≤ N → ast_sameExpr N x y = some (eqE x y)
  | 0, x, y, h => absurd (nE_pos x) (by omega)
  | N + 1, x, y, h => by
    have h1 := nE_eq x
    have hl : slices_EqualFunc_api_Expr_ast_sameExpr_1 (ast_sameExpr N) x.Args y.Args = some (all2 eqE x.Args y.Args) := by
      rw [slices_EqualFunc_api_Expr_ast_sameExpr_1, eqI_d]
      by_cases e : x.Args.length = y.Args.length
      · have := eqfun (a := x.Args) (b := y.Args) (L := slices_EqualFunc_api_Expr_ast_sameExpr_1_L1 y.Args (ast_sameExpr N)) (f := ast_sameExpr N) (e := eqE) (fun _ => rfl) (fun x q k => by
          rw [slices_EqualFunc_api_Expr_ast_sameExpr_1_L1]; congr 1; funext z; rw [ast_sameExpr_1]; cases ast_sameExpr N x z <;> rfl) (fun z hz w => own_sameExpr N z w (by have := nL_mem hz; omega)) e
        rw [this, decide_eq_true (by omega)]
        cases all2 eqE x.Args y.Args <;> rfl
      · rw [all2_len e, decide_eq_false (by omega)]; rfl
    rw [show ast_sameExpr (N + 1) x y = ast_sameExpr_B (ast_sameExpr N) x y from rfl, ast_sameExpr_B, hl, eqE_eq]
    simp [andB_d, orB_d]
theorem ref_exprs : ∀ (N : Nat) (a b : List Expr), nL a < N → r16_exprs N a b = some (all2 eqE a b)
  | 0, a, b, h => absurd h (by omega)
  | N + 1, a, b, h => by
    rw [show r16_exprs (N + 1) a b = r16_exprs_B (r16_exprs N) a b from rfl, r16_exprs_B, eqI_d]
    by_cases e : a.length = b.length
    · have := eqfun (a := a) (b := b) (L := r16_exprs_L1 b (r16_exprs N)) (f := r16_SameExpr (r16_exprs N)) (e := eqE) (fun _ => rfl) (fun x q k => by rw [r16_exprs_L1]) (fun z hz w => by
        have h1 := nE_eq z; have h2 := nL_mem hz
        rw [r16_SameExpr, ref_exprs N z.Args w.Args (by omega), eqE_eq]; simp [andB_d, orB_d]) e
      rw [this, decide_eq_true (by omega)]
      cases all2 eqE a b <;> rfl
    · rw [all2_len e, decide_eq_false (by omega)]; rfl
theorem own_sameExprs {N : Nat} {a b : List Expr} (h : nL a ≤ N) : slices_EqualFunc_api_Expr_ast_sameStmt_2 N a b = some (all2 eqE a b) := by
  rw [slices_EqualFunc_api_Expr_ast_sameStmt_2, eqI_d]
  by_cases e : a.length = b.length
  · have := eqfun (a := a) (b := b) (L := slices_EqualFunc_api_Expr_ast_sameStmt_2_L1 N b) (f := ast_sameExpr N) (e := eqE) (fun _ => rfl) (fun x q k => by
      rw [slices_EqualFunc_api_Expr_ast_sameStmt_2_L1]; congr 1; funext z; rw [ast_sameStmt_2]; cases ast_sameExpr N x z <;> rfl) (fun z hz w => own_sameExpr N z w (by have := nL_mem hz; omega)) e
    rw [this, decide_eq_true (by omega)]
    cases all2 eqE a b <;> rfl
  · rw [all2_len e, decide_eq_false (by omega)]; rfl
theorem own_sameStmt : ∀ (N : Nat) (x y : Stmt), nS x ≤ N → ast_sameStmt N x y = some (eqT x y)
  | 0, x, y, h => absurd (nS_pos x) (by omega)
  | N + 1, x, y, h => by
    have h1 := nS_eq x
    have hb : ∀ a b : List Stmt, nSL a ≤ N → ast_sameStmt_1 (ast_sameStmt N) a b = some (all2 eqT a b) := by
      intro a b ha
      rw [ast_sameStmt_1, slices_EqualFunc_api_Stmt_ast_sameStmt_1_1, eqI_d]
      by_cases e : a.length = b.length
      · have := eqfun (a := a) (b := b) (L := slices_EqualFunc_api_Stmt_ast_sameStmt_1_1_L1 b (ast_sameStmt N)) (f := ast_sameStmt N) (e := eqT) (fun _ => rfl) (fun x q k => by
          rw [slices_EqualFunc_api_Stmt_ast_sameStmt_1_1_L1]; congr 1; funext z; rw [ast_sameStmt_1_1]; cases ast_sameStmt N x z <;> rfl) (fun z hz w => own_sameStmt N z w (by have := nSL_mem hz; omega)) e
        rw [this, decide_eq_true (by omega)]
        cases all2 eqT a b <;> rfl
      · rw [all2_len e, decide_eq_false (by omega)]; rfl
    rw [show ast_sameStmt (N + 1) x y = ast_sameStmt_B (ast_sameStmt N) N x y from rfl, ast_sameStmt_B, own_sameExprs (by omega), hb x.Body y.Body (by omega), hb x.Else y.Else (by omega), eqT_eq]
    simp only [orB_d, Option.bind_some]
    cases eqI x.Kind y.Kind <;> cases eqS x.Name y.Name <;> cases eqS x.Obj y.Obj <;> cases eqS x.Other y.Other <;> cases eqI x.Fn y.Fn <;> cases eqI x.Order y.Order <;> simp
    cases all2 eqE x.Exprs y.Exprs <;> cases all2 eqT x.Body y.Body <;> simp
theorem ref_stmts : ∀ (N : Nat) (a b : List Stmt), nSL a + 1 < N → r16_stmts N a b = some (all2 eqT a b)
  | 0, a, b, h => absurd h (by omega)
  | N + 1, a, b, h => by
    rw [show r16_stmts (N + 1) a b = r16_stmts_B (r16_stmts N) N a b from rfl, r16_stmts_B, eqI_d]
    by_cases e : a.length = b.length
    · have key : ∀ (r : List Stmt) (k : Nat), r.length + k = b.length → nSL r ≤ nSL a → r16_stmts_L1 N b (r16_stmts N) r k = some (eqO (all2 eqT r (b.drop k))) := by
        intro r
        induction r with
        | nil => intro k hk _; rw [r16_stmts_L1, List.drop_eq_nil_of_le (by simp at hk; omega)]; rfl
        | cons x r ih =>
          intro k hk hr
          rw [List.length_cons] at hk
          rw [nSL_cons] at hr
          have h1 := nS_eq x
          have hb : k < b.length := by omega
          rw [r16_stmts_L1, List.getElem?_eq_getElem hb, Option.bind_some, ref_exprs N _ _ (by omega), ref_stmts N x.Body _ (by omega), ref_stmts N x.Else _ (by omega), List.drop_eq_getElem_cons hb, all2, ih (k + 1) (by omega) (by omega), eqT_eq]
          simp only [Option.isSome_some, Option.getD_some, orB_d, Bool.or_true, guardO_t]
          generalize b[k] = y
          cases eqI x.Kind y.Kind <;> cases eqS x.Name y.Name <;> cases eqS x.Obj y.Obj <;> cases eqS x.Other y.Other <;> cases eqI x.Fn y.Fn <;> cases eqI x.Order y.Order <;> simp [eqO]
          cases all2 eqE x.Exprs y.Exprs <;> cases all2 eqT x.Body y.Body <;> cases all2 eqT x.Else y.Else <;> simp [eqO]
      have := key a 0 (by omega) (Nat.le_refl _)
      rw [List.drop_zero] at this
      rw [this, decide_eq_true (by omega)]
      cases all2 eqT a b <;> rfl
    · rw [all2_len e, decide_eq_false (by omega)]; rfl
def eqV (x y : Var) : Bool := eqS x.Name y.Name && eqI x.Init y.Init
def eqH (x y : Launch) : Bool := eqS x.Proc y.Proc && eqI x.Arg y.Arg
def eqP (x y : Proc) : Bool := eqS x.Name y.Name && eqS x.Param y.Param && all2 eqT x.Body y.Body
def eqU (u v : UnitT) : Bool := all2 eqP u.Procs v.Procs && all2 eqV u.Vars v.Vars && all2 eqS u.Mutexes v.Mutexes && all2 eqS u.Conds v.Conds && all2 eqH u.Threads v.Threads
theorem eqU_refl {u : UnitT} (h : Sm u) : eqU u u = true := by
  rw [eqU, all2_refl (e := eqV) fun x _ => by simp [eqV, eqI_refl, eqS_rfl], all2_refl (e := eqS) fun x _ => eqS_rfl x, all2_refl (e := eqS) fun x _ => eqS_rfl x, all2_refl (e := eqH) fun x _ => by simp [eqH, eqI_refl, eqS_rfl], all2_refl (e := eqP) fun x hx => by
    rw [eqP, eqS_rfl, eqS_rfl, all2_refl fun y hy => eqT_refl 1048576 y (by have := nSL_mem hy; have := h.body x hx; omega)]; rfl]
  rfl
theorem ref_strings (a b : List ByteArray) : r16_Strings a b = some (all2 eqS a b) := by
  rw [r16_Strings, eqI_d]
  by_cases e : a.length = b.length
  · have := eqfun (a := a) (b := b) (L := r16_Strings_L1 b) (f := fun x y => some (eqS x y)) (e := eqS) (fun _ => rfl) (fun x q k => by rw [r16_Strings_L1]; rfl) (fun _ _ _ => rfl) e
    rw [this, decide_eq_true (by omega)]
    cases all2 eqS a b <;> rfl
  · rw [all2_len e, decide_eq_false (by omega)]; rfl
theorem own_strings (a b : List ByteArray) : slices_Equal_string a b = some (all2 eqS a b) := by
  rw [slices_Equal_string, eqI_d]
  by_cases e : a.length = b.length
  · have := eqfun (a := a) (b := b) (L := slices_Equal_string_L1 b) (f := fun x y => some (eqS x y)) (e := eqS) (fun _ => rfl) (fun x q k => by rw [slices_Equal_string_L1]; rfl) (fun _ _ _ => rfl) e
    rw [this, decide_eq_true (by omega)]
    cases all2 eqS a b <;> rfl
  · rw [all2_len e, decide_eq_false (by omega)]; rfl
theorem own_vars (a b : List Var) : slices_Equal_api_Var a b = some (all2 eqV a b) := by
  rw [slices_Equal_api_Var, eqI_d]
  by_cases e : a.length = b.length
  · have := eqfun (a := a) (b := b) (L := slices_Equal_api_Var_L1 b) (f := fun x y => some (eqV x y)) (e := eqV) (fun _ => rfl) (fun x q k => by rw [slices_Equal_api_Var_L1]; congr 1; funext y; rw [Option.bind_some, eqV]; cases eqS x.Name y.Name <;> cases eqI x.Init y.Init <;> rfl) (fun _ _ _ => rfl) e
    rw [this, decide_eq_true (by omega)]
    cases all2 eqV a b <;> rfl
  · rw [all2_len e, decide_eq_false (by omega)]; rfl
theorem own_threads (a b : List Launch) : slices_Equal_api_Launch a b = some (all2 eqH a b) := by
  rw [slices_Equal_api_Launch, eqI_d]
  by_cases e : a.length = b.length
  · have := eqfun (a := a) (b := b) (L := slices_Equal_api_Launch_L1 b) (f := fun x y => some (eqH x y)) (e := eqH) (fun _ => rfl) (fun x q k => by rw [slices_Equal_api_Launch_L1]; congr 1; funext y; rw [Option.bind_some, eqH]; cases eqS x.Proc y.Proc <;> cases eqI x.Arg y.Arg <;> rfl) (fun _ _ _ => rfl) e
    rw [this, decide_eq_true (by omega)]
    cases all2 eqH a b <;> rfl
  · rw [all2_len e, decide_eq_false (by omega)]; rfl
theorem own_body {N : Nat} {a b : List Stmt} (h : nSL a ≤ N) : slices_EqualFunc_api_Stmt_ast_Equal_1_1 N a b = some (all2 eqT a b) := by
  rw [slices_EqualFunc_api_Stmt_ast_Equal_1_1, eqI_d]
  by_cases e : a.length = b.length
  · have := eqfun (a := a) (b := b) (L := slices_EqualFunc_api_Stmt_ast_Equal_1_1_L1 N b) (f := ast_sameStmt N) (e := eqT) (fun _ => rfl) (fun x q k => by
      rw [slices_EqualFunc_api_Stmt_ast_Equal_1_1_L1]; congr 1; funext z; rw [ast_Equal_1_1]; cases ast_sameStmt N x z <;> rfl) (fun z hz w => own_sameStmt N z w (by have := nSL_mem hz; omega)) e
    rw [this, decide_eq_true (by omega)]
    cases all2 eqT a b <;> rfl
  · rw [all2_len e, decide_eq_false (by omega)]; rfl
theorem own_procs {N : Nat} {a b : List Proc} (h : ∀ p ∈ a, nSL p.Body ≤ N) : slices_EqualFunc_api_Proc_ast_Equal_1 N a b = some (all2 eqP a b) := by
  rw [slices_EqualFunc_api_Proc_ast_Equal_1, eqI_d]
  by_cases e : a.length = b.length
  · have := eqfun (a := a) (b := b) (L := slices_EqualFunc_api_Proc_ast_Equal_1_L1 N b) (f := ast_Equal_1 N) (e := eqP) (fun _ => rfl) (fun x q k => by rw [slices_EqualFunc_api_Proc_ast_Equal_1_L1]) (fun z hz w => by
      rw [ast_Equal_1, own_body (h z hz), eqP]; simp [andB_d, orB_d]) e
    rw [this, decide_eq_true (by omega)]
    cases all2 eqP a b <;> rfl
  · rw [all2_len e, decide_eq_false (by omega)]; rfl
theorem own_equal {N : Nat} {u v : UnitT} (h : Sm u) (hN : 1048576 ≤ N) : ast_Equal N u v = some (eqU u v) := by
  rw [ast_Equal, own_procs fun p hp => by have := h.body p hp; omega, Option.bind_some, own_vars, own_strings, own_strings, own_threads, eqU]
  simp [andB_d, orB_d]
theorem ref_equal {N : Nat} {u v : UnitT} (h : Sm u) (hN : 1048579 ≤ N) : r16_Equal N u v = some (eqU u v) := by
  rw [r16_Equal, ref_strings, ref_strings, eqU]
  simp only [Option.isSome_some, Option.getD_some, orB_d, Bool.or_true, guardO_t, eqI_d]
  rcases Decidable.em (u.Vars.length = v.Vars.length) with ev | ev
  case inr => rw [decide_eq_false (by omega), all2_len (e := eqV) ev]; simp
  rcases Decidable.em (u.Procs.length = v.Procs.length) with ep | ep
  case inr => rw [decide_eq_false (show ¬ ((u.Procs.length : Nat) : Int) = _ by omega), all2_len (e := eqP) ep]; simp
  rcases Decidable.em (u.Threads.length = v.Threads.length) with et | et
  case inr => rw [decide_eq_false (show ¬ ((u.Threads.length : Nat) : Int) = _ by omega), all2_len (e := eqH) et]; simp
  have lv := eqfun (a := u.Vars) (b := v.Vars) (L := r16_Equal_L1 v) (f := fun x y => some (eqV x y)) (e := eqV) (fun _ => rfl) (fun x q k => by rw [r16_Equal_L1]; congr 1; funext y; rw [Option.bind_some, eqV]; cases eqS x.Name y.Name <;> cases eqI x.Init y.Init <;> rfl) (fun _ _ _ => rfl) ev
  have lt := eqfun (a := u.Threads) (b := v.Threads) (L := r16_Equal_L2 v) (f := fun x y => some (eqH x y)) (e := eqH) (fun _ => rfl) (fun x q k => by rw [r16_Equal_L2]; congr 1; funext y; rw [Option.bind_some, eqH]; cases eqS x.Proc y.Proc <;> cases eqI x.Arg y.Arg <;> rfl) (fun _ _ _ => rfl) et
  have lp : r16_Equal_L3 N v u.Procs 0 = some (eqO (all2 eqP u.Procs v.Procs)) := by
    have key : ∀ (r : List Proc) (k : Nat), r.length + k = v.Procs.length → (∀ p ∈ r, nSL p.Body ≤ 1048576) → r16_Equal_L3 N v r k = some (eqO (all2 eqP r (v.Procs.drop k))) := by
      intro r
      induction r with
      | nil => intro k hk _; rw [r16_Equal_L3, List.drop_eq_nil_of_le (by simp at hk; omega)]; rfl
      | cons x r ih =>
        intro k hk hb
        rw [List.length_cons] at hk
        have hk' : k < v.Procs.length := by omega
        rw [r16_Equal_L3, List.getElem?_eq_getElem hk', Option.bind_some, ref_stmts N x.Body _ (by have := hb x (by simp); omega), List.drop_eq_getElem_cons hk', all2, ih (k + 1) (by omega) fun p hp => hb p (by simp [hp]), eqP]
        simp only [Option.isSome_some, Option.getD_some, orB_d, Bool.or_true, guardO_t]
        generalize v.Procs[k] = y
        cases eqS x.Name y.Name <;> cases eqS x.Param y.Param <;> cases all2 eqT x.Body y.Body <;> simp [eqO]
    have := key u.Procs 0 (by omega) h.body
    rwa [List.drop_zero] at this
  rw [lv, lt, lp, decide_eq_true (by omega), decide_eq_true (by omega), decide_eq_true (by omega)]
  cases all2 eqS u.Mutexes v.Mutexes <;> cases all2 eqS u.Conds v.Conds <;> cases all2 eqV u.Vars v.Vars <;> cases all2 eqH u.Threads v.Threads <;> cases all2 eqP u.Procs v.Procs <;> rfl
/-! Copies. -/
theorem lim_of {b n : Nat} (hb : b ≤ 144) (h : n ≤ 8388608) : limB b n = true := by
  have : n * b ≤ 8388608 * 144 := Nat.mul_le_mul h hb
  simp [limB]; omega
theorem set_self {α : Type} {l : List α} {k : Nat} {x : α} (h : l[k]? = some x) : l.set k x = l := by
  obtain ⟨h1, rfl⟩ := List.getElem?_eq_some_iff.1 h
  exact List.set_getElem_self h1
theorem etaE (x : Expr) : (⟨x.Kind, x.N, x.Name, x.Fn, x.Args⟩ : Expr) = x := by cases x; rfl
theorem etaT (x : Stmt) : (⟨x.Kind, x.Name, x.Obj, x.Other, x.Fn, x.Order, x.Exprs, x.Body, x.Else⟩ : Stmt) = x := by cases x; rfl
theorem own_exprs : ∀ (N : Nat) (l : List Expr), nL l < N → nL l ≤ 1048576 → ast_exprs N l = some l
  | 0, l, h, _ => absurd h (by omega)
  | N + 1, l, h, hb => by
    have hlen := nL_len l
    have key : ∀ (q k : Nat), q + k = l.length → ast_exprs_L1 (ast_exprs N) q l k = some l := by
      intro q
      induction q with
      | zero => intro k hk; rw [ast_exprs_L1, decide_eq_true (by omega)]; rfl
      | succ q ih =>
        intro k hk
        have hk' : k < l.length := by omega
        have hx : l[k]? = some l[k] := List.getElem?_eq_getElem hk'
        have h1 := nE_eq l[k]; have h2 := nL_mem (List.getElem_mem hk')
        rw [ast_exprs_L1, hx, Option.bind_some, own_exprs N l[k].Args (by omega) (by omega), Option.bind_some, Option.bind_some, show l.set k ⟨l[k].Kind, l[k].N, l[k].Name, l[k].Fn, l[k].Args⟩ = l from (congrArg (l.set k) (etaE l[k])).trans (set_self hx), ih (k + 1) (by omega)]
    rw [show ast_exprs (N + 1) l = ast_exprs_B (ast_exprs N) l from rfl, ast_exprs_B, slices_Clone_api_Expr, lim_of (by omega) (by omega), guardO_t, Option.bind_some, show lenB l.length = true by rw [lenB_d]; simp; omega, guardO_t, key l.length 0 (by omega)]; rfl
theorem own_block : ∀ (N : Nat) (l : List Stmt), nSL l + 1 < N → nSL l ≤ 1048576 → ast_block N l = some l
  | 0, l, h, _ => absurd h (by omega)
  | N + 1, l, h, hb => by
    have hlen := nSL_len l
    have key : ∀ (q k : Nat), q + k = l.length → ast_block_L1 N (ast_block N) q l k = some l := by
      intro q
      induction q with
      | zero => intro k hk; rw [ast_block_L1, decide_eq_true (by omega)]; rfl
      | succ q ih =>
        intro k hk
        have hk' : k < l.length := by omega
        have hx : l[k]? = some l[k] := List.getElem?_eq_getElem hk'
        have h1 := nS_eq l[k]; have h2 := nSL_mem (List.getElem_mem hk')
        rw [ast_block_L1, hx, Option.bind_some, own_exprs N l[k].Exprs (by omega) (by omega), Option.bind_some, Option.bind_some, show l.set k ⟨l[k].Kind, l[k].Name, l[k].Obj, l[k].Other, l[k].Fn, l[k].Order, l[k].Exprs, l[k].Body, l[k].Else⟩ = l from (congrArg (l.set k) (etaT l[k])).trans (set_self hx), hx, Option.bind_some, own_block N l[k].Body (by omega) (by omega), Option.bind_some, Option.bind_some, show l.set k ⟨l[k].Kind, l[k].Name, l[k].Obj, l[k].Other, l[k].Fn, l[k].Order, l[k].Exprs, l[k].Body, l[k].Else⟩ = l from (congrArg (l.set k) (etaT l[k])).trans (set_self hx), hx, Option.bind_some,
          own_block N l[k].Else (by omega) (by omega), Option.bind_some, Option.bind_some, show l.set k ⟨l[k].Kind, l[k].Name, l[k].Obj, l[k].Other, l[k].Fn, l[k].Order, l[k].Exprs, l[k].Body, l[k].Else⟩ = l from (congrArg (l.set k) (etaT l[k])).trans (set_self hx), ih (k + 1) (by omega)]
    rw [show ast_block (N + 1) l = ast_block_B (ast_block N) N l from rfl, ast_block_B, slices_Clone_api_Stmt, lim_of (by omega) (by omega), guardO_t, Option.bind_some, show lenB l.length = true by rw [lenB_d]; simp; omega, guardO_t, key l.length 0 (by omega)]; rfl
theorem own_clone {N : Nat} {u : UnitT} (h : Sm u) (hN : 1048580 ≤ N) : ast_Clone N u = some u := by
  have hp := h.procs
  have key : ∀ (q k : Nat), q + k = u.Procs.length → ast_Clone_L1 N q k u.Procs = some u.Procs := by
    intro q
    induction q with
    | zero => intro k hk; rw [ast_Clone_L1, decide_eq_true (by omega)]; rfl
    | succ q ih =>
      intro k hk
      have hk' : k < u.Procs.length := by omega
      have hx : u.Procs[k]? = some u.Procs[k] := List.getElem?_eq_getElem hk'
      have hb := h.body _ (List.getElem_mem hk')
      rw [ast_Clone_L1, hx, Option.bind_some, own_block N u.Procs[k].Body (by omega) hb, Option.bind_some, Option.bind_some, show u.Procs.set k { u.Procs[k] with Body := u.Procs[k].Body } = u.Procs from set_self hx, ih (k + 1) (by omega)]
  have h1 := h.vars; have h2 := h.mutexes; have h3 := h.conds; have h4 := h.threads
  rw [ast_Clone, slices_Clone_api_Var, slices_Clone_string, slices_Clone_string, slices_Clone_api_Proc, slices_Clone_api_Launch, lim_of (by omega) (by omega), lim_of (by omega) (by omega), lim_of (by omega) (by omega), lim_of (by omega) (by omega), lim_of (by omega) (by omega)]
  simp only [guardO_t, Option.bind_some]
  rw [show lenB u.Procs.length = true by rw [lenB_d]; simp; omega, guardO_t, key u.Procs.length 0 (by omega)]; rfl
theorem ref_copyE : ∀ (N : Nat) (l : List Expr), nL l < N → nL l ≤ 1048576 → r16_copyExprs N l = some l
  | 0, l, h, _ => absurd h (by omega)
  | N + 1, l, h, hb => by
    have key : ∀ (r a : List Expr) (k : Nat), a.length + nL r ≤ 4194304 → nL r ≤ nL l → r16_copyExprs_L1 (r16_copyExprs N) r a k = some (a ++ r) := by
      intro r
      induction r with
      | nil => intro a k _ _; rw [r16_copyExprs_L1]; simp
      | cons x r ih =>
        intro a k ha hr
        rw [nL_cons] at ha hr
        have h1 := nE_eq x
        rw [r16_copyExprs_L1, ref_copyE N x.Args (by omega) (by omega), Option.bind_some, Option.bind_some, List.length_singleton, lim_of (by omega) (by omega), guardO_t, Option.bind_some, ih _ _ (by rw [List.length_append, List.length_singleton]; omega) (by omega)]
        simp
        cases x; rfl
    rw [show r16_copyExprs (N + 1) l = r16_copyExprs_B (r16_copyExprs N) l from rfl, r16_copyExprs_B, Option.bind_some, key l [] 0 (by simp; omega) (Nat.le_refl _)]; rfl
theorem ref_copyT : ∀ (N : Nat) (l : List Stmt), nSL l + 1 < N → nSL l ≤ 1048576 → r16_copyStmts N l = some l
  | 0, l, h, _ => absurd h (by omega)
  | N + 1, l, h, hb => by
    have key : ∀ (r a : List Stmt) (k : Nat), a.length + nSL r ≤ 4194304 → nSL r ≤ nSL l → r16_copyStmts_L1 N (r16_copyStmts N) r a k = some (a ++ r) := by
      intro r
      induction r with
      | nil => intro a k _ _; rw [r16_copyStmts_L1]; simp
      | cons x r ih =>
        intro a k ha hr
        rw [nSL_cons] at ha hr
        have h1 := nS_eq x
        rw [r16_copyStmts_L1, ref_copyE N x.Exprs (by omega) (by omega), Option.bind_some, ref_copyT N x.Body (by omega) (by omega), Option.bind_some, ref_copyT N x.Else (by omega) (by omega), Option.bind_some, Option.bind_some, List.length_singleton, lim_of (by omega) (by omega), guardO_t, Option.bind_some,
          ih _ _ (by rw [List.length_append, List.length_singleton]; omega) (by omega)]
        simp
        cases x; rfl
    rw [show r16_copyStmts (N + 1) l = r16_copyStmts_B (r16_copyStmts N) N l from rfl, r16_copyStmts_B, Option.bind_some, key l [] 0 (by simp; omega) (Nat.le_refl _)]; rfl
theorem ref_clone {N : Nat} {u : UnitT} (h : Sm u) (hN : 1048580 ≤ N) : r16_Clone N u = some u := by
  have hp := h.procs
  have key : ∀ (r a : List Proc) (k : Nat), a.length + r.length ≤ 4194304 → (∀ p ∈ r, nSL p.Body ≤ 1048576) → r16_Clone_L1 N r k a = some (a ++ r) := by
    intro r
    induction r with
    | nil => intro a k _ _; rw [r16_Clone_L1]; simp
    | cons x r ih =>
      intro a k ha hb
      rw [List.length_cons] at ha
      have := hb x (by simp)
      rw [r16_Clone_L1, ref_copyT N x.Body (by omega) (by omega), Option.bind_some, Option.bind_some, List.length_singleton, lim_of (by omega) (by omega), guardO_t, Option.bind_some, ih _ _ (by rw [List.length_append, List.length_singleton]; omega) fun p hp => hb p (by simp [hp])]
      simp
  have h1 := h.vars; have h2 := h.mutexes; have h3 := h.conds; have h4 := h.threads
  rw [r16_Clone]
  simp only [Option.bind_some, List.length_nil, Nat.zero_add, List.nil_append]
  rw [lim_of (b := 24) (n := u.Vars.length) (by omega) (by omega), lim_of (b := 16) (n := u.Mutexes.length) (by omega) (by omega), lim_of (b := 16) (n := u.Conds.length) (by omega) (by omega), lim_of (b := 24) (n := u.Threads.length) (by omega) (by omega)]
  simp only [guardO_t]
  rw [key u.Procs [] 0 (by simp; omega) h.body]; rfl
/-! The changes of the copy end. -/
theorem str_ok {s : ByteArray} (h : s.size ≤ 1048576) : strB2 s (⟨#[120]⟩ : ByteArray) = true := by
  simp [strB2, show (⟨#[120]⟩ : ByteArray).size = 1 from rfl]; omega
theorem chg3 : ∀ (q k : Nat) (l : List Expr), l.length ≤ 1048576 → k ≤ l.length → l.length < k + q → ∃ r, law16_AstEqual_L3 q (k : Int) l = some r
  | 0, k, l, _, hk, hq => absurd hq (by omega)
  | q + 1, k, l, hb, hk, hq => by
    rw [law16_AstEqual_L3, ltI_d]
    rcases Nat.lt_or_ge k l.length with h | h
    · rw [decide_eq_true (by omega), cond_true, getI_nat, List.getElem?_eq_getElem h, Option.bind_some, Option.bind_some, wrapS (by omega)]
      exact chg3 q (k + 1) _ (by simpa using hb) (by simp; omega) (by simp; omega)
    · rw [decide_eq_false (by omega)]; exact ⟨l, rfl⟩
/-- The names of a block's statements are short. -/
def shortL (l : List Stmt) : Prop := ∀ s ∈ l, s.Name.size ≤ 1048576
theorem chg4 {i j : Int} {P : List Proc} {E : List Expr} {p : Proc} {s : Stmt} : ∀ (q k : Nat) (l : List Stmt), l.length ≤ 1048576 → k ≤ l.length → l.length < k + q → (∀ m x, k ≤ m → l[m]? = some x → x.Name.size ≤ 1048576) →
    ∃ l', law16_AstEqual_L4 i j P E p s q (k : Int) l = some (P.set i.toNat { p with Body := p.Body.set j.toNat { s with Kind := IntKind.i64.wrap (s.Kind + 1), Exprs := E, Body := l' } })
  | 0, k, l, _, hk, hq, _ => absurd hq (by omega)
  | q + 1, k, l, hb, hk, hq, hs => by
    rw [law16_AstEqual_L4, ltI_d]
    rcases Nat.lt_or_ge k l.length with h | h
    · have hx : l[k]? = some l[k] := List.getElem?_eq_getElem h
      rw [decide_eq_true (by omega), cond_true, getI_nat, hx, Option.bind_some, str_ok (hs k _ (Nat.le_refl _) hx), guardO_t, Option.bind_some, wrapS (by omega)]
      refine chg4 q (k + 1) _ (by simpa using hb) (by simp; omega) (by simp; omega) fun m x hm hx => hs m x (by omega) ?_
      rwa [show ((k : Nat) : Int).toNat = k by simp, List.getElem?_set_ne (by omega)] at hx
    · rw [decide_eq_false (by omega)]; exact ⟨l, rfl⟩
/-- What of a procedure's body is to be changed is still short. -/
def okB (k : Nat) (l : List Stmt) : Prop := ∀ m x, k ≤ m → l[m]? = some x → x.Exprs.length ≤ 1048576 ∧ x.Body.length ≤ 1048576 ∧ shortL x.Body
theorem chg2 {N i : Nat} (hN : 1048580 ≤ N) : ∀ (q k : Nat) (P : List Proc) (p : Proc), P[i]? = some p → p.Body.length ≤ 1048576 → k ≤ p.Body.length → p.Body.length < k + q → okB k p.Body →
    ∃ P', law16_AstEqual_L2 N (i : Int) q (k : Int) P = some P' ∧ P'.length = P.length ∧ ∀ m, m ≠ i → P'[m]? = P[m]?
  | 0, k, P, p, _, _, hk, hq, _ => absurd hq (by omega)
  | q + 1, k, P, p, hp, hb, hk, hq, ho => by
    have hi := getN_some hp
    rw [law16_AstEqual_L2, getI_nat, hp, Option.bind_some, ltI_d, show ((i : Nat) : Int).toNat = i by simp, set_self hp]
    rcases Nat.lt_or_ge k p.Body.length with h | h
    · have hx : p.Body[k]? = some p.Body[k] := List.getElem?_eq_getElem h
      obtain ⟨o1, o2, o3⟩ := ho k _ (Nat.le_refl _) hx
      obtain ⟨E, hE⟩ := chg3 N 0 p.Body[k].Exprs o1 (by omega) (by omega)
      obtain ⟨l', hl'⟩ := chg4 (i := (i : Int)) (j := (k : Int)) (P := P) (E := E) (p := p) (s := p.Body[k]) N 0 p.Body[k].Body o2 (by omega) (by omega) fun m x _ hx => o3 x (List.mem_of_getElem? hx)
      rw [show ((0 : Nat) : Int) = 0 from rfl] at hE hl'
      rw [decide_eq_true (by omega), cond_true, Option.bind_some, getI_nat, hp, Option.bind_some, getI_nat, hx, Option.bind_some, hE]
      simp only [Option.bind_some]
      rw [hl']
      simp only [Option.bind_some]
      rw [wrapS (by omega)]
      simp only [show ((i : Nat) : Int).toNat = i by simp, show ((k : Nat) : Int).toNat = k by simp]
      obtain ⟨P', e1, e2, e3⟩ := chg2 (i := i) hN q (k + 1) (P.set i { p with Body := p.Body.set k { p.Body[k] with Kind := IntKind.i64.wrap (p.Body[k].Kind + 1), Exprs := E, Body := l' } }) { p with Body := p.Body.set k { p.Body[k] with Kind := IntKind.i64.wrap (p.Body[k].Kind + 1), Exprs := E, Body := l' } }
        (by rw [List.getElem?_set]; simp [hi]) (by simpa using hb) (by simp; omega) (by simp; omega) (fun m x hm hx => ho m x (by omega) (by simp only at hx; rwa [List.getElem?_set_ne (by omega)] at hx))
      exact ⟨P', e1, by rw [e2]; simp, fun m hm => by rw [e3 m hm, List.getElem?_set_ne (by omega)]⟩
    · rw [decide_eq_false (by omega)]
      exact ⟨P, rfl, rfl, fun _ _ => rfl⟩
theorem chg1 {N : Nat} (hN : 1048580 ≤ N) : ∀ (q k : Nat) (P : List Proc), P.length ≤ 1048576 → k ≤ P.length → P.length < k + q → (∀ m p, k ≤ m → P[m]? = some p → p.Body.length ≤ 1048576 ∧ okB 0 p.Body) → ∃ P', law16_AstEqual_L1 N q (k : Int) P = some P'
  | 0, k, P, _, hk, hq, _ => absurd hq (by omega)
  | q + 1, k, P, hb, hk, hq, ho => by
    rw [law16_AstEqual_L1, ltI_d]
    rcases Nat.lt_or_ge k P.length with h | h
    · have hx : P[k]? = some P[k] := List.getElem?_eq_getElem h
      obtain ⟨o1, o2⟩ := ho k _ (Nat.le_refl _) hx
      obtain ⟨P', e1, e2, e3⟩ := chg2 (i := k) hN N 0 P P[k] hx o1 (by omega) (by omega) o2
      rw [show ((0 : Nat) : Int) = 0 from rfl] at e1
      rw [decide_eq_true (by omega), cond_true, e1]
      simp only [Option.bind_some]
      rw [wrapS (by omega)]
      exact chg1 hN q (k + 1) P' (by omega) (by omega) (by omega) fun m p hm hp => ho m p (by omega) (by rwa [e3 m (by omega)] at hp)
    · rw [decide_eq_false (by omega)]; exact ⟨P, rfl⟩
theorem chg5 : ∀ (q k : Nat) (l : List Var), l.length ≤ 1048576 → k ≤ l.length → l.length < k + q → (∀ m x, k ≤ m → l[m]? = some x → x.Name.size ≤ 1048576) → law16_AstEqual_L5 q (k : Int) l = some ()
  | 0, k, l, _, hk, hq, _ => absurd hq (by omega)
  | q + 1, k, l, hb, hk, hq, hs => by
    rw [law16_AstEqual_L5, ltI_d]
    rcases Nat.lt_or_ge k l.length with h | h
    · have hx : l[k]? = some l[k] := List.getElem?_eq_getElem h
      rw [decide_eq_true (by omega), cond_true, getI_nat, hx, Option.bind_some, str_ok (hs k _ (Nat.le_refl _) hx), guardO_t, Option.bind_some, wrapS (by omega)]
      refine chg5 q (k + 1) _ (by simpa using hb) (by simp; omega) (by simp; omega) fun m x hm hx => hs m x (by omega) ?_
      rwa [show ((k : Nat) : Int).toNat = k by simp, List.getElem?_set_ne (by omega)] at hx
    · rw [decide_eq_false (by omega)]; rfl
theorem short_of {l : List Stmt} (h : bkL (encL l) ≤ 1048576) : shortL l := fun s hs => by
  have h1 := bkL_encL hs
  rw [enc_Stmt] at h1
  simp at h1; omega
theorem law_equal {a b : UnitT} (ha : bkL (Enc.enc a) ≤ 1048576) (hb : bkL (Enc.enc b) ≤ 1048576) : law16_AstEqual 2097160 a b = some true := by
  have sa := sm_of ha (Nat.le_refl _); have sb := sm_of hb (Nat.le_refl _)
  obtain ⟨t, ht⟩ := few_some (N := 2097160) sa (by omega)
  obtain ⟨t2, ht2⟩ := few_some (N := 2097160) sb (by omega)
  have hv : ∀ m (x : Var), 0 ≤ m → a.Vars[m]? = some x → x.Name.size ≤ 1048576 := fun m x _ hx => by
    have h1 := bkL_encL (List.mem_of_getElem? hx)
    rw [enc_Var] at h1
    rw [enc_UnitT] at ha
    simp at h1 ha; omega
  have hp : ∀ m (p : Proc), 0 ≤ m → a.Procs[m]? = some p → p.Body.length ≤ 1048576 ∧ okB 0 p.Body := fun m p _ hx => by
    have h1 := bkL_encL (List.mem_of_getElem? hx)
    rw [enc_Proc] at h1
    rw [enc_UnitT] at ha
    simp at h1 ha
    have h2 := bkL_lenL (α := Stmt) (by simp) p.Body
    refine ⟨by omega, fun m s _ hs => ?_⟩
    have h3 := bkL_encL (List.mem_of_getElem? hs)
    rw [enc_Stmt] at h3
    simp at h3
    have h4 := bkL_lenL (α := Stmt) (by simp) s.Body
    have h5 := bkL_lenL (α := Expr) (by simp) s.Exprs
    exact ⟨by omega, by omega, short_of (by omega)⟩
  obtain ⟨P', hP'⟩ := chg1 (N := 2097160) (by omega) 2097160 0 a.Procs sa.procs (by omega) (by have := sa.procs; omega) hp
  have h5 := chg5 2097160 0 a.Vars sa.vars (by omega) (by have := sa.vars; omega) hv
  rw [show ((0 : Nat) : Int) = 0 from rfl] at hP' h5
  rw [law16_AstEqual, ht, ht2, awake_true, own_clone sa (by omega), ref_clone sa (by omega), own_equal sa (by omega), ref_equal sa (by omega)]
  simp only [Option.bind_some, Option.isSome_some, Option.getD_some, orB_d, Bool.or_true, guardO_t]
  rw [ref_equal sa (by omega), hP', h5, eqU_refl sa]
  simp [eqB, andB_d]
end Go.Dc.Pl
end
section
set_option linter.all false
namespace Go.Dc
open Go Go.Hw Go.Proofs
set_option maxRecDepth 100000
theorem dec9 {H : Type} : ∀ (n : Nat) (d : DataW H) (c : List CV), cvD Tryd.prog n 9 d = some c → ∃ x : ByteArray, c = Enc.enc x
  | n, d, c, h => by
    obtain ⟨m, rfl⟩ := cvD_string Tryd.underlying9 h
    exact ⟨m, rfl⟩
theorem dec3 {H : Type} : ∀ (n : Nat) (d : DataW H) (c : List CV), cvD Tryd.prog n 3 d = some c → ∃ x : Int, c = Enc.enc x
  | n, d, c, h => by
    obtain ⟨m, hm, rfl⟩ := cvD_int Tryd.underlying3 h
    exact ⟨m, rfl⟩
theorem dec69 {H : Type} : ∀ (n : Nat) (d : DataW H) (c : List CV), cvD Tryd.prog n 69 d = some c → ∃ x : Var, c = Enc.enc x
  | n, d, c, h => by
    obtain ⟨m, l, hm, rfl, hl, h⟩ := cvD_structW Tryd.underlying69 h
    have hl : l.length = 2 := hl
    match l, hl with
    | [d0, d1], _ =>
      simp only [List.zipWith] at h
      obtain ⟨a0, b0, h0, k1, rfl⟩ := concatM_cons h
      obtain ⟨a1, b1, h1, k2, rfl⟩ := concatM_cons k1
      obtain rfl := concatM_nil k2
      obtain ⟨x0, rfl⟩ := dec9 m _ _ h0
      obtain ⟨x1, rfl⟩ := dec3 m _ _ h1
      exact ⟨⟨x0, x1⟩, by rw [enc_Var]; rfl⟩
theorem dec37 {H : Type} : ∀ (n : Nat) (d : DataW H) (c : List CV), cvD Tryd.prog n 37 d = some c → ∃ x : List Var, c = Enc.enc x
  | n, d, c, h => cvD_sliceW Tryd.underlying37 (fun m hm d c h => dec69 m d c h) h
theorem dec38 {H : Type} : ∀ (n : Nat) (d : DataW H) (c : List CV), cvD Tryd.prog n 38 d = some c → ∃ x : List ByteArray, c = Enc.enc x
  | n, d, c, h => cvD_sliceW Tryd.underlying38 (fun m hm d c h => dec9 m d c h) h
theorem dec64 {H : Type} : ∀ (n : Nat) (d : DataW H) (c : List CV), cvD Tryd.prog n 64 d = some c → ∃ x : Int, c = Enc.enc x
  | n, d, c, h => by
    obtain ⟨m, hm, rfl⟩ := cvD_int Tryd.underlying64 h
    exact ⟨m, rfl⟩
theorem dec47 {H : Type} : ∀ (n : Nat) (d : DataW H) (c : List CV), cvD Tryd.prog n 47 d = some c → ∃ x : Int, c = Enc.enc x
  | n, d, c, h => by
    obtain ⟨m, hm, rfl⟩ := cvD_int Tryd.underlying47 h
    exact ⟨m, rfl⟩
theorem dec65 {H : Type} : ∀ (n : Nat) (d : DataW H) (c : List CV), cvD Tryd.prog n 65 d = some c → ∃ x : Int, c = Enc.enc x
  | n, d, c, h => by
    obtain ⟨m, hm, rfl⟩ := cvD_int Tryd.underlying65 h
    exact ⟨m, rfl⟩
theorem dec46 {H : Type} : ∀ (n : Nat) (d : DataW H) (c : List CV), cvD Tryd.prog n 46 d = some c → ∃ x : Int, c = Enc.enc x
  | n, d, c, h => by
    obtain ⟨m, hm, rfl⟩ := cvD_int Tryd.underlying46 h
    exact ⟨m, rfl⟩
mutual
theorem dec50 {H : Type} : ∀ (n : Nat) (d : DataW H) (c : List CV), cvD Tryd.prog n 50 d = some c → ∃ x : Expr, c = Enc.enc x
  | n, d, c, h => by
    obtain ⟨m, l, hm, rfl, hl, h⟩ := cvD_structW Tryd.underlying50 h
    have hl : l.length = 5 := hl
    match l, hl with
    | [d0, d1, d2, d3, d4], _ =>
      simp only [List.zipWith] at h
      obtain ⟨a0, b0, h0, k1, rfl⟩ := concatM_cons h
      obtain ⟨a1, b1, h1, k2, rfl⟩ := concatM_cons k1
      obtain ⟨a2, b2, h2, k3, rfl⟩ := concatM_cons k2
      obtain ⟨a3, b3, h3, k4, rfl⟩ := concatM_cons k3
      obtain ⟨a4, b4, h4, k5, rfl⟩ := concatM_cons k4
      obtain rfl := concatM_nil k5
      obtain ⟨x0, rfl⟩ := dec46 m _ _ h0
      obtain ⟨x1, rfl⟩ := dec3 m _ _ h1
      obtain ⟨x2, rfl⟩ := dec9 m _ _ h2
      obtain ⟨x3, rfl⟩ := dec47 m _ _ h3
      obtain ⟨x4, rfl⟩ := dec48 m _ _ h4
      exact ⟨⟨x0, x1, x2, x3, x4⟩, by rw [enc_Expr]; rfl⟩
  termination_by n => n
theorem dec48 {H : Type} : ∀ (n : Nat) (d : DataW H) (c : List CV), cvD Tryd.prog n 48 d = some c → ∃ x : List Expr, c = Enc.enc x
  | n, d, c, h => cvD_sliceW Tryd.underlying48 (fun m hm d c h => dec50 m d c h) h
  termination_by n => n
end
mutual
theorem dec67 {H : Type} : ∀ (n : Nat) (d : DataW H) (c : List CV), cvD Tryd.prog n 67 d = some c → ∃ x : Stmt, c = Enc.enc x
  | n, d, c, h => by
    obtain ⟨m, l, hm, rfl, hl, h⟩ := cvD_structW Tryd.underlying67 h
    have hl : l.length = 9 := hl
    match l, hl with
    | [d0, d1, d2, d3, d4, d5, d6, d7, d8], _ =>
      simp only [List.zipWith] at h
      obtain ⟨a0, b0, h0, k1, rfl⟩ := concatM_cons h
      obtain ⟨a1, b1, h1, k2, rfl⟩ := concatM_cons k1
      obtain ⟨a2, b2, h2, k3, rfl⟩ := concatM_cons k2
      obtain ⟨a3, b3, h3, k4, rfl⟩ := concatM_cons k3
      obtain ⟨a4, b4, h4, k5, rfl⟩ := concatM_cons k4
      obtain ⟨a5, b5, h5, k6, rfl⟩ := concatM_cons k5
      obtain ⟨a6, b6, h6, k7, rfl⟩ := concatM_cons k6
      obtain ⟨a7, b7, h7, k8, rfl⟩ := concatM_cons k7
      obtain ⟨a8, b8, h8, k9, rfl⟩ := concatM_cons k8
      obtain rfl := concatM_nil k9
      obtain ⟨x0, rfl⟩ := dec64 m _ _ h0
      obtain ⟨x1, rfl⟩ := dec9 m _ _ h1
      obtain ⟨x2, rfl⟩ := dec9 m _ _ h2
      obtain ⟨x3, rfl⟩ := dec9 m _ _ h3
      obtain ⟨x4, rfl⟩ := dec47 m _ _ h4
      obtain ⟨x5, rfl⟩ := dec65 m _ _ h5
      obtain ⟨x6, rfl⟩ := dec48 m _ _ h6
      obtain ⟨x7, rfl⟩ := dec55 m _ _ h7
      obtain ⟨x8, rfl⟩ := dec55 m _ _ h8
      exact ⟨⟨x0, x1, x2, x3, x4, x5, x6, x7, x8⟩, by rw [enc_Stmt]; rfl⟩
  termination_by n => n
theorem dec55 {H : Type} : ∀ (n : Nat) (d : DataW H) (c : List CV), cvD Tryd.prog n 55 d = some c → ∃ x : List Stmt, c = Enc.enc x
  | n, d, c, h => cvD_sliceW Tryd.underlying55 (fun m hm d c h => dec67 m d c h) h
  termination_by n => n
end
theorem dec57 {H : Type} : ∀ (n : Nat) (d : DataW H) (c : List CV), cvD Tryd.prog n 57 d = some c → ∃ x : Proc, c = Enc.enc x
  | n, d, c, h => by
    obtain ⟨m, l, hm, rfl, hl, h⟩ := cvD_structW Tryd.underlying57 h
    have hl : l.length = 3 := hl
    match l, hl with
    | [d0, d1, d2], _ =>
      simp only [List.zipWith] at h
      obtain ⟨a0, b0, h0, k1, rfl⟩ := concatM_cons h
      obtain ⟨a1, b1, h1, k2, rfl⟩ := concatM_cons k1
      obtain ⟨a2, b2, h2, k3, rfl⟩ := concatM_cons k2
      obtain rfl := concatM_nil k3
      obtain ⟨x0, rfl⟩ := dec9 m _ _ h0
      obtain ⟨x1, rfl⟩ := dec9 m _ _ h1
      obtain ⟨x2, rfl⟩ := dec55 m _ _ h2
      exact ⟨⟨x0, x1, x2⟩, by rw [enc_Proc]; rfl⟩
theorem dec39 {H : Type} : ∀ (n : Nat) (d : DataW H) (c : List CV), cvD Tryd.prog n 39 d = some c → ∃ x : List Proc, c = Enc.enc x
  | n, d, c, h => cvD_sliceW Tryd.underlying39 (fun m hm d c h => dec57 m d c h) h
theorem dec108 {H : Type} : ∀ (n : Nat) (d : DataW H) (c : List CV), cvD Tryd.prog n 108 d = some c → ∃ x : Launch, c = Enc.enc x
  | n, d, c, h => by
    obtain ⟨m, l, hm, rfl, hl, h⟩ := cvD_structW Tryd.underlying108 h
    have hl : l.length = 2 := hl
    match l, hl with
    | [d0, d1], _ =>
      simp only [List.zipWith] at h
      obtain ⟨a0, b0, h0, k1, rfl⟩ := concatM_cons h
      obtain ⟨a1, b1, h1, k2, rfl⟩ := concatM_cons k1
      obtain rfl := concatM_nil k2
      obtain ⟨x0, rfl⟩ := dec9 m _ _ h0
      obtain ⟨x1, rfl⟩ := dec3 m _ _ h1
      exact ⟨⟨x0, x1⟩, by rw [enc_Launch]; rfl⟩
theorem dec40 {H : Type} : ∀ (n : Nat) (d : DataW H) (c : List CV), cvD Tryd.prog n 40 d = some c → ∃ x : List Launch, c = Enc.enc x
  | n, d, c, h => cvD_sliceW Tryd.underlying40 (fun m hm d c h => dec108 m d c h) h
theorem dec42 {H : Type} : ∀ (n : Nat) (d : DataW H) (c : List CV), cvD Tryd.prog n 42 d = some c → ∃ x : UnitT, c = Enc.enc x
  | n, d, c, h => by
    obtain ⟨m, l, hm, rfl, hl, h⟩ := cvD_structW Tryd.underlying42 h
    have hl : l.length = 5 := hl
    match l, hl with
    | [d0, d1, d2, d3, d4], _ =>
      simp only [List.zipWith] at h
      obtain ⟨a0, b0, h0, k1, rfl⟩ := concatM_cons h
      obtain ⟨a1, b1, h1, k2, rfl⟩ := concatM_cons k1
      obtain ⟨a2, b2, h2, k3, rfl⟩ := concatM_cons k2
      obtain ⟨a3, b3, h3, k4, rfl⟩ := concatM_cons k3
      obtain ⟨a4, b4, h4, k5, rfl⟩ := concatM_cons k4
      obtain rfl := concatM_nil k5
      obtain ⟨x0, rfl⟩ := dec37 m _ _ h0
      obtain ⟨x1, rfl⟩ := dec38 m _ _ h1
      obtain ⟨x2, rfl⟩ := dec38 m _ _ h2
      obtain ⟨x3, rfl⟩ := dec39 m _ _ h3
      obtain ⟨x4, rfl⟩ := dec40 m _ _ h4
      exact ⟨⟨x0, x1, x2, x3, x4⟩, by rw [enc_UnitT]; rfl⟩
theorem closed : okS Tryd.prog [42, 37, 69, 9, 3, 38, 39, 57, 55, 67, 64, 47, 65, 48, 50, 46, 40, 108] = true := by kernel_rfl
theorem bulk_of {H : Type} {n : Nat} {t : TypeId} {d : DataW H} {c : List CV} (h : cvD Tryd.prog n t d = some c) : bkL c ≤ Go.Proofs.YtihjddokgmjafaaDoor.Rows.uptoBulk d :=
  cvD_bk Go.Proofs.YtihjddokgmjafaaDoor.Rows.uptoBulk Go.Proofs.YtihjddokgmjafaaDoor.Rows.uptoBulkAll (by simp [Go.Proofs.YtihjddokgmjafaaDoor.Rows.uptoBulkAll]) (fun d r => by simp [Go.Proofs.YtihjddokgmjafaaDoor.Rows.uptoBulkAll]) (fun l => by cases l <;> simp [Go.Proofs.YtihjddokgmjafaaDoor.Rows.uptoBulk]) (fun l => by simp [Go.Proofs.YtihjddokgmjafaaDoor.Rows.uptoBulk]) (by simp [Go.Proofs.YtihjddokgmjafaaDoor.Rows.uptoBulk]) (fun l s => by simp only [Go.Proofs.YtihjddokgmjafaaDoor.Rows.uptoBulk]; omega) (fun l => by simp only [Go.Proofs.YtihjddokgmjafaaDoor.Rows.uptoBulk]; omega) n t d c h
theorem open42 {H : Type} {enc : TypeId × Value → H} {W : World} {sp : Nat → Bool} {held : Bool} {v : Value} {d : DataW H} {p : List MemPlace} {r : Go.Reach} {b0 : Nat} (hv : Value.okWide Tryd.prog W r b0 42 v) (h : DataW.Trod enc Tryd.prog W 0 sp held 42 v d p) :
    ∃ x : UnitT, (okL (Enc.enc x) ∧ bkL (Enc.enc x) ≤ Go.Proofs.YtihjddokgmjafaaDoor.Rows.uptoBulk d) ∧ AVRep W m0 (fun _ => False) v (.agg ((Enc.enc x).map .p)) := by
  obtain ⟨m, cvs, e, hr⟩ := repW_struct closed (by decide) Tryd.underlying42 hv h
  obtain ⟨x, rfl⟩ := dec42 m d cvs e
  exact ⟨x, ⟨cvD_okL _ _ _ _ e, bulk_of e⟩, hr⟩
/-- The package variables as the rows lay them. -/
theorem gN1 : Tryd.prog.globalNamed "modelcheck/ast.keywords" = some 1 := by kernel_rfl
theorem gT1 : (Tryd.prog.globals[1]?).map (·.type) = some 194 := by kernel_rfl
set_option maxRecDepth 100000 in
theorem gC1 : cvD Tryd.prog 6 194 (Go.Proofs.YtihjddokgmjafaaDoor.Rows.laid_modelcheck_ast_keywords (H := Unit)) = some (encL keywordsTab) := by kernel_rfl
set_option maxRecDepth 100000 in
theorem globs {W : World} (laid : List (String × DataW Unit)) (he : laid = [("modelcheck/ast.keywords", Go.Proofs.YtihjddokgmjafaaDoor.Rows.laid_modelcheck_ast_keywords)])
    (h : laidMetH Tryd.prog laid W) : ∀ g cs, Globals.G g = some cs → AVRep W m0 (fun _ => False) (.pointer (some ⟨g, 0, none⟩)) (.cell (.ep cs 0)) := by
  subst he
  rw [MakeChecks.laidMetH_plain _ _ _ (by kernel_rfl)] at h
  obtain ⟨ps, ⟨g0, t0, cs0, f0, p0, q0, hg0, ht0, hv0, hd0, _, _⟩, _, _⟩ := h
  obtain rfl := Option.some.inj (gN1.symm.trans hg0)
  obtain rfl := Option.some.inj (gT1.symm.trans ht0)
  intro g cs hgc
  have hgc : (if g = 1 then some (encL keywordsTab) else none) = some cs := hgc
  split at hgc
  · rename_i e
    subst e
    cases hgc
    exact rep_global (m := 6) (t := 194) (by kernel_rfl) hd0 gC1 fun j => by simpa using World.var?_cell hg0 hv0 j
  · cases hgc
end Go.Dc
end
