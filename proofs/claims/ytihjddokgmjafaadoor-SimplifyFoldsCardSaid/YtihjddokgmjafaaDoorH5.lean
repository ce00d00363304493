/- Contracts of functions, by their numbers, and the laws that walk them. Conditions: as each states. -/
import Derived.Test.YtihjddokgmjafaaDoorH3
import Derived.Test.YtihjddokgmjafaaDoorH4
import Derived.Test.YtihjddokgmjafaaDoorRows
import Derived.LaidMore
import Derived.MakeChecks
set_option linter.all false
section
set_option linter.all false
namespace Go.Dc
open Go Go.Hw Go.Proofs
set_option maxRecDepth 100000
def cfg_visit_L2 (a0 : Func) (a1 : Int) : List Int → (List Int) → (Map Int Bool) → Option ((List Int) × (Map Int Bool))
  | [], l315, m316 => some ((l315, m316))
  | y304 :: q336, l315, m316 => cond (andB (andB (ltI y304 ((a0.Code.length : Nat) : Int)) (!(eqI y304 a1))) (!(mval m316 y304 false))) (Option.bind (some (mpt m316 y304 true)) (fun m338 => Option.bind (some ([y304])) (fun l341 => guardO (limB 8 (l315.length + l341.length)) (Option.bind (some (l315 ++ l341)) (fun l344 => cfg_visit_L2 a0 a1 q336 l344 m338))))) (cfg_visit_L2 a0 a1 q336 l315 m316)

def cfg_visit_L1 (a0 : Func) (a1 : Int) : Nat → (List Int) → (Map Int Bool) → Option (Map Int Bool)
  | 0, _, _ => none
  | q288 + 1, l234, m235 => cond (ltI 0 ((l234.length : Nat) : Int)) (Option.bind (getI l234 (IntKind.i64.wrap (((l234.length : Nat) : Int) - 1))) (fun x293 => guardO (slB 0 (IntKind.i64.wrap (((l234.length : Nat) : Int) - 1)) l234.length) (Option.bind (some (subL l234 0 (IntKind.i64.wrap (((l234.length : Nat) : Int) - 1)))) (fun l297 => Option.bind (cfg_successors a0 x293) (fun y300 => Option.bind (it_successors y300.1 y300.2) (fun xs302 => Option.bind (cfg_visit_L2 a0 a1 xs302 l297 m235) (fun o => match o with | (l327, m328) => cfg_visit_L1 a0 a1 q288 l327 m328))))))) (some (m235))

def cfg_visit (fuelN : Nat) (a0 : Func) (a1 : Int) : Option (Map Int Bool) :=
  cond (orB (eqI ((a0.Code.length : Nat) : Int) 0) (eqI a1 0)) (some ([] : Map Int Bool)) (Option.bind (some (mpt ([] : Map Int Bool) 0 true)) (fun m2 => Option.bind (some ([0])) (fun l5 => Option.bind (α := (Map Int Bool)) (Option.bind (cfg_visit_L1 a0 a1 fuelN l5 m2) (fun m281 => some (m281))) (fun m174 => some m174))))

set_option maxHeartbeats 2000000 in
theorem at_cfg_visit {fuelN : Nat} {a0 : Func} {a1 : Int} {r : (Map Int Bool)} (hs : cfg_visit fuelN a0 a1 = some r) : CAt Tryd.prog 115 [.agg (eA a0), iV .i64 a1] [] (.ret (.cell (.mp (.r 0)))) [(.r 0, .map (mK r) (mV r))] := by
  refine at_bound (by kernel_rfl) fun hb => ?_
  have hb1 : LenOk (.sl a0.Code.length (encL a0.Code)) := lkc hb
  refine at_code mixed Tryd.func115 (by kernel_rfl) rfl (by kernel_rfl) rfl fun Q hQ => ?_
  rw [cfg_visit] at hs
  refine goG f0 f0 ?_
  revert hs; refine cS f0 ?_ ?_ <;> intro h1 hs
  · refine goG f0 f0 ?_
    obtain rfl := sj hs
    refine hQ _ _ (ret2g _ (Gh.ren _ (.o 2 0 0) (.r 0) (by simp) rfl rfl) (by simp [St.frz, St.pur]; rfl) (by first | rfl | (simp [St.frz, St.pur]; done) | (rw [if_pos (by first | omega | (simp; omega))]; simp [St.frz, St.pur]; first | omega | exact List.take_of_length_le (by simp; omega) | skip)) (pv f0))
  · revert hs; refine lK fun m2 hx3 hs => ?_
    have f4 := hx3.symm
    try push_cast at f4
    revert hs; refine lK fun l5 hx6 hs => ?_
    have hx6n : l5.length = 1 := by rw [hx6]; rfl
    have F1 := an f4 hx6
    refine goG2 F1 F1 ?_
    revert hs; refine bK fun o176 e175 hs => ?_
    refine awp_cutK (fun (v : (Map Int Bool)) (σ : St) => some (v) = some o176 ∧ σ.env 5 = .cell (.ref (.o 2 1 0) 0) ∧ σ.hp (.o 2 1 0) = some (.cells [.mp (.o 2 0 0)]) ∧ σ.hp (.o 2 0 0) = some (.map (mK v) (mV v)) ∧ 5 ≤ σ.gen) (by rfl) (fun Q hK177 hX178 => ?_) (fun m174 σ6 hp => ?_)
    · refine goG F1 F1 ?_
      revert e175; refine bK fun o283 e282 e175 => ?_
      refine awp_loopW (fun (v : Nat × (List Int) × (Map Int Bool)) (σ : St) => cfg_visit_L1 a0 a1 v.1 v.2.1 v.2.2 = some o283 ∧ σ.env 2 = .cell (.ref (.o 1 0 0) 0) ∧ σ.env 3 = .cell (.ref (.o 1 1 0) 0) ∧ σ.env 5 = .cell (.ref (.o 2 1 0) 0) ∧ σ.env 6 = .cell (.ref (.o 5 1 0) 0) ∧ σ.hp (.o 1 0 0) = some (.cells (eA a0)) ∧ σ.hp (.o 1 1 0) = some (.cells [nC a1]) ∧ σ.hp (.o 2 1 0) = some (.cells [.mp (.o 2 0 0)]) ∧ σ.hp (.l 15) = some (.pure (encL v.2.1)) ∧ σ.hp (.o 5 1 0) = some (.cells [.sl (.l 15) 0 1 v.2.1.length]) ∧ σ.hp (.o 2 0 0) = some (.map (mK v.2.2) (mV v.2.2)) ∧ 5 ≤ σ.gen) (fun v => v.1) _ (Gh.ren _ (.o 5 0 0) (.l 15) (by simp) rfl rfl) (fuelN, l5, m2) ⟨e282, pv F1, pv F1, pv F1, pv F1, pv F1, pv F1, pv F1, pv F1, pv F1, pv F1, pg⟩ fun v σ11 hp L284 hL285 => ?_
      obtain ⟨q287, l234, m235⟩ := v
      dsimp only at hp hL285
      obtain ⟨e282, h10_2, h10_3, h10_5, h10_6, g10_0, g10_1, g10_2, g10_3, g10_4, g10_5, n10_g⟩ := hp
      have n10_0 : ¬ (σ11.gen = 0) := by omega
      have n10_1 : ¬ (σ11.gen = 1) := by omega
      have n10_2 : ¬ (σ11.gen = 2) := by omega
      have n10_3 : ¬ (σ11.gen = 3) := by omega
      have n10_4 : ¬ (σ11.gen = 4) := by omega
      rcases q287 with _ | q288
      · rw [cfg_visit_L1] at e282; cases e282
      · rw [cfg_visit_L1] at e282; try dsimp only at e282
        have F2 := an h10_2 (an h10_3 (an h10_5 (an h10_6 (an g10_0 (an g10_1 (an g10_2 (an g10_3 (an g10_4 (an g10_5 (an n10_0 (an n10_1 (an n10_2 (an n10_3 n10_4)))))))))))))
        refine goR F2 ?_
        revert e282; refine cS F2 ?_ ?_ <;> intro h292 e282
        · revert e282; refine bK fun x293 hx294 e282 => ?_
          obtain ⟨hx294a, hx294b, hx294c, hx294d⟩ := getI_some hx294
          have f295 : partCV Tryd.prog 3 (encL l234) ((IntKind.i64.wrap (((l234.length : Nat) : Int) - 1)).toNat) = some (iV .i64 x293) := partCV_enc1 hx294d (by simp)
          obtain ⟨g296, e282⟩ := guardO_some e282
          obtain ⟨g296a, g296b, g296c⟩ := slB_t g296
          revert e282; refine lK fun l297 hx298 e282 => ?_
          have f299n : l297.length = (IntKind.i64.wrap (((l234.length : Nat) : Int) - 1) - 0).toNat := by rw [hx298]; exact subL_len ⟨g296a, g296b, g296c⟩
          have f299e : ((encL l234).drop ((0 : Int).toNat * 1)).take ((IntKind.i64.wrap (((l234.length : Nat) : Int) - 1) - 0).toNat * 1) = encL l297 := by rw [hx298]; exact subL_enc (α := Int)
          try simp at f299n
          try simp at f299e
          have f299k : (encL l234).take ((IntKind.i64.wrap (((l234.length : Nat) : Int) - 1)).toNat) = encL l297 := by rw [hx298]; simpa [subL] using encL_take l234 (IntKind.i64.wrap (((l234.length : Nat) : Int) - 1)).toNat
          have f299l : (encL l297).take ((IntKind.i64.wrap (((l234.length : Nat) : Int) - 1)).toNat) = encL l297 := by rw [← f299k, List.take_take, Nat.min_self]
          try simp at f299k
          try simp at f299l
          have F3 := an F2 (an f295 (an g296a (an g296b (an g296c (an f299n (an f299e (an f299k f299l)))))))
          refine goN F3 ?_
          refine awp_reg ?_
          refine goN F3 ?_
          refine awp_reg ?_
          refine goN F3 ?_
          refine awp_gh (by rfl) (Gh.cut _ (.l 15) ((IntKind.i64.wrap (((l234.length : Nat) : Int) - 1)).toNat)) ?_
          try simp only [St.frz, St.pur]
          refine goR F3 ?_
          revert e282; refine bK fun y300 hx301 e282 => ?_
          refine cP F3 (at_cfg_successors hx301) ?_
          refine goR F3 ?_
          revert e282; refine bK fun xs302 hx303 e282 => ?_
          revert e282; refine bK fun o330 e329 e282 => ?_
          refine awp_range (gf := 182) (cs := [.bx [.c (.string y300.1.Name), .sl y300.1.Code.length (encL y300.1.Code)], .bx [.c (.int .i64 y300.2)]]) (xs302.map (fun (y : Int) => ([.cell (.c (.int .i64 y))] : List EV))) (fun (k331 : Nat) (hp332 : Go.Hw.Id → Option Blk) (gen333 : Nat) => ∃ v : (List Int) × (Map Int Bool), cfg_visit_L2 a0 a1 (xs302.drop k331) v.1 v.2 = some o330 ∧ hp332 (.o 1 0 0) = some (.cells (eA a0)) ∧ hp332 (.o 1 1 0) = some (.cells [nC a1]) ∧ hp332 (.o 2 1 0) = some (.cells [.mp (.o 2 0 0)]) ∧ hp332 (.l 19) = some (.pure (encL v.1)) ∧ hp332 (.o 5 1 0) = some (.cells [.sl (.l 19) 0 1 v.1.length]) ∧ hp332 (.o 2 0 0) = some (.map (mK v.2) (mV v.2)) ∧ (σ11.gen + 4) ≤ gen333) _ (Gh.ren _ (.l 15) (.l 19) (by simp) rfl rfl) (pv F3) (seq_successors hx303) (fun x hx => by obtain ⟨y, _, rfl⟩ := List.mem_map.1 hx; rfl) ⟨(l297, m235), e329, pv F3, pv F3, pv F3, pv F3, pv F3, pv F3, pg⟩ (fun k331 x hp332 gen333 hx hI => ?_) (fun hp332 gen333 hI => ?_)
          · obtain ⟨⟨l315, m316⟩, e329, g12_0, g12_1, g12_2, g12_3, g12_4, g12_5, n12_g⟩ := hI
            try dsimp only at e329 g12_0 g12_1 g12_2 g12_3 g12_4 g12_5 n12_g
            obtain ⟨y304, hy334, rfl⟩ := map_get hx
            rw [drop_at hy334, cfg_visit_L2] at e329; try dsimp only at e329
            have n12_0 : ¬ (gen333 = 0) := by omega
            have n12_1 : ¬ (gen333 = 1) := by omega
            have n12_2 : ¬ (gen333 = 2) := by omega
            have n12_3 : ¬ (gen333 = 3) := by omega
            have n12_4 : ¬ (gen333 = 4) := by omega
            have F4 := an h10_2 (an h10_3 (an h10_5 (an h10_6 (an n10_0 (an n10_1 (an n10_2 (an n10_3 (an n10_4 (an g12_0 (an g12_1 (an g12_2 (an g12_3 (an g12_4 (an g12_5 (an n12_0 (an n12_1 (an n12_2 (an n12_3 (an n12_4 (an f295 (an g296a (an g296b (an g296c (an f299n (an f299e (an f299k f299l))))))))))))))))))))))))))
            have F5 := an F4 (an hx294a hx294b)
            refine goG F4 F5 ?_
            revert e329; refine cS F4 ?_ ?_ <;> intro h337 e329
            · revert e329; refine lK fun m338 hx339 e329 => ?_
              have f340 := hx339.symm
              try push_cast at f340
              revert e329; refine lK fun l341 hx342 e329 => ?_
              have hx342n : l341.length = 1 := by rw [hx342]; rfl
              obtain ⟨g343, e329⟩ := guardO_some e329
              have g343 := limB_t g343
              obtain ⟨g343a, g343b⟩ := g343
              revert e329; refine lK fun l344 hx345 e329 => ?_
              have hx345n : l344.length = (l315.length + l341.length) := by rw [hx345]; simp
              have hx345e : encL l344 = encL l315 ++ encL l341 := by rw [hx345]; simp
              have F6 := an F4 (an f340 (an hx342 (an hx345n hx345e)))
              have F7 := an F6 (an hx294a hx294b)
              refine goG F6 F7 ?_
              refine rPost_gh (Gh.ren _ (.o (gen333 + 4) 3 0) (.l 19) (by simp) rfl rfl) ⟨l344, m338, e329, pv F6, pv F6, pv F6, pv F6, pv F6, pv F6, pg⟩
            · refine goG F4 F5 ?_
              refine rPost_gh (Gh.refl _) ⟨l315, m316, e329, pv F4, pv F4, pv F4, pv F4, pv F4, pv F4, pg⟩
          · obtain ⟨⟨l315, m316⟩, e329, g12_0, g12_1, g12_2, g12_3, g12_4, g12_5, n12_g⟩ := hI
            try dsimp only at e329 g12_0 g12_1 g12_2 g12_3 g12_4 g12_5 n12_g
            rw [show xs302.drop (xs302.map (fun (y : Int) => ([.cell (.c (.int .i64 y))] : List EV))).length = [] by simp, cfg_visit_L2] at e329; try dsimp only at e329
            have n12_0 : ¬ (gen333 = 0) := by omega
            have n12_1 : ¬ (gen333 = 1) := by omega
            have n12_2 : ¬ (gen333 = 2) := by omega
            have n12_3 : ¬ (gen333 = 3) := by omega
            have n12_4 : ¬ (gen333 = 4) := by omega
            obtain rfl := sj e329
            try dsimp only at e282
            have F8 := an h10_2 (an h10_3 (an h10_5 (an h10_6 (an n10_0 (an n10_1 (an n10_2 (an n10_3 (an n10_4 (an g12_0 (an g12_1 (an g12_2 (an g12_3 (an g12_4 (an g12_5 (an n12_0 (an n12_1 (an n12_2 (an n12_3 (an n12_4 (an f295 (an g296a (an g296b (an g296c (an f299n (an f299e (an f299k f299l))))))))))))))))))))))))))
            refine goR F8 ?_
            exact hL285 (q288, l315, m316) _ _ (Gh.ren _ (.l 19) (.l 15) (by simp) rfl rfl) ⟨e282, pv F8, pv F8, pv F8, pv F8, pv F8, pv F8, pv F8, pv F8, pv F8, pv F8, pg⟩ (by omega)
        · refine goR F2 ?_
          obtain rfl := sj e282
          try dsimp only at e175
          exact hK177 m235 _ _ (Gh.refl _) ⟨e175, pv F2, pv F2, pv F2, pg⟩
    · obtain ⟨e175, h7_5, g7_0, g7_1, n7_g⟩ := hp
      obtain rfl := sj e175
      try dsimp only at hs
      have n7_0 : ¬ (σ6.gen = 0) := by omega
      have n7_1 : ¬ (σ6.gen = 1) := by omega
      have F9 := an h7_5 (an g7_0 (an g7_1 (an n7_0 n7_1)))
      refine goG F9 F9 ?_
      obtain rfl := sj hs
      refine hQ _ _ (ret2g _ (Gh.ren _ (.o 2 0 0) (.r 0) (by simp) rfl rfl) (by simp [St.frz, St.pur, F9]; rfl) (by first | rfl | (simp [St.frz, St.pur, F9]; done) | (rw [if_pos (by first | omega | (simp; omega))]; simp [St.frz, St.pur, F9]; first | omega | exact List.take_of_length_le (by simp; omega) | skip)) (pv F9))
end Go.Dc
end
section
set_option linter.all false
namespace Go.Dc
open Go Go.Hw Go.Proofs
set_option maxRecDepth 100000

def cfg_Reach (fuelN : Nat) (a0 : Func) : Option ((List Int) × Int) :=
  Option.bind (cfg_check fuelN a0) (fun y1 => cond (!(eqI y1 0)) (some ([], y1)) (Option.bind (cfg_visit fuelN a0 (-1)) (fun y8 => Option.bind (cfg_sorted a0 y8) (fun y10 => some (y10, 0)))))

set_option maxHeartbeats 2000000 in
theorem at_cfg_Reach {fuelN : Nat} {a0 : Func} {r : (List Int) × Int} (hs : cfg_Reach fuelN a0 = some r) : At Tryd.prog 61 [.agg (eA a0)] (.tup [.cell (sC r.1), iV .i64 r.2]) := by
  refine at_bound (by kernel_rfl) fun hb => ?_
  have hb1 : LenOk (.sl a0.Code.length (encL a0.Code)) := lkc hb
  refine at_code mixed Tryd.func61 (by kernel_rfl) rfl (by kernel_rfl) rfl fun Q hQ => ?_
  rw [cfg_Reach] at hs
  refine goR f0 ?_
  revert hs; refine bK fun y1 hx2 hs => ?_
  refine cP f0 (at_cfg_check hx2) ?_
  refine goR f0 ?_
  revert hs; refine cS f0 ?_ ?_ <;> intro h3 hs
  · refine goR f0 ?_
    obtain rfl := sj hs
    exact hQ _ _ (rg f0 (Gh.unz _))
  · refine goD f0 ?_
    revert hs; refine bK fun y8 hx9 hs => ?_
    refine cA f0 (at_cfg_visit hx9) ?_
    refine goD f0 ?_
    revert hs; refine bK fun y10 hx11 hs => ?_
    refine cB f0 (at_cfg_sorted hx11) [.o 4 2 0] ?_
    refine goD f0 ?_
    obtain rfl := sj hs
    exact hQ _ _ (rg f0 (Gh.refl _))
end Go.Dc
end
section
set_option linter.all false
namespace Go.Dc
open Go Go.Hw Go.Proofs
set_option maxRecDepth 100000
def simplify_Prune_L2 (x4073 : Inst) : List Int → Int → Nat → Option Int
  | [], i4229, k4230 => some (i4229)
  | x4248 :: q4244, i4229, k4230 => cond (ltI x4248 x4073.N) (simplify_Prune_L2 x4073 q4244 (IntKind.i64.wrap (i4229 + 1)) (k4230 + 1)) (simplify_Prune_L2 x4073 q4244 i4229 (k4230 + 1))

def simplify_Prune_L1 (a0 : Func) (y1 : (List Int) × Int) : Nat → Int → (List Inst) → Option (List Inst)
  | 0, _, _ => none
  | q3872 + 1, i3403, l3404 => cond (ltI i3403 ((y1.1.length : Nat) : Int)) (Option.bind (α := (List Inst)) (Option.bind (getI y1.1 i3403) (fun x4070 => Option.bind (getI a0.Code x4070) (fun x4073 => Option.bind (α := Int) (cond (orB (eqI x4073.Op 4) (eqI x4073.Op 5)) (Option.bind (α := Int) (guardO (lenB y1.1.length) (Option.bind (simplify_Prune_L2 x4073 y1.1 0 0) (fun i4237 => some (i4237)))) (fun i4208 => some (i4208))) (some (x4073.N))) (fun i4162 => Option.bind (some ([{ x4073 with N := i4162 }])) (fun l4253 => guardO (limB 64 (l3404.length + l4253.length)) (Option.bind (some (l3404 ++ l4253)) (fun l4256 => some (l4256)))))))) (fun l4065 => simplify_Prune_L1 a0 y1 q3872 (IntKind.i64.wrap (i3403 + 1)) l4065)) (some (l3404))

def simplify_Prune (fuelN : Nat) (a0 : Func) : Option (Func × Int) :=
  Option.bind (cfg_Reach fuelN a0) (fun y1 => cond (!(eqI y1.2 0)) (some (({ Name := (⟨#[]⟩ : ByteArray), Code := [] } : Func), y1.2)) (Option.bind (α := (List Inst)) (Option.bind (simplify_Prune_L1 a0 y1 fuelN 0 []) (fun l3865 => some (l3865))) (fun l2129 => some ({ a0 with Code := l2129 }, 0))))

set_option maxHeartbeats 2000000 in
theorem at_simplify_Prune {fuelN : Nat} {a0 : Func} {r : Func × Int} (hs : simplify_Prune fuelN a0 = some r) : At Tryd.prog 21 [.agg (eA a0)] (.tup [.agg (eA r.1), iV .i64 r.2]) := by
  refine at_bound (by kernel_rfl) fun hb => ?_
  have hb1 : LenOk (.sl a0.Code.length (encL a0.Code)) := lkc hb
  refine at_code mixed Tryd.func21 (by kernel_rfl) rfl (by kernel_rfl) rfl fun Q hQ => ?_
  rw [simplify_Prune] at hs
  refine goR f0 ?_
  revert hs; refine bK fun y1 hx2 hs => ?_
  refine cP f0 (at_cfg_Reach hx2) ?_
  refine goR f0 ?_
  revert hs; refine cS f0 ?_ ?_ <;> intro h3 hs
  · refine goR f0 ?_
    obtain rfl := sj hs
    exact hQ _ _ (rg f0 (Gh.unz _))
  · refine goR2 f0 ?_
    revert hs; refine bK fun o2131 e2130 hs => ?_
    refine awp_cutK (fun (v : (List Inst)) (σ : St) => some (v) = some o2131 ∧ σ.env 2 = .cell (.ref (.o 1 1 0) 0) ∧ σ.env 6 = .cell (.ref (.o 4 3 0) 0) ∧ σ.hp (.o 1 1 0) = some (.cells [tC (⟨#[]⟩ : ByteArray), .z]) ∧ σ.hp (.l 4) = some (.pure (encL v)) ∧ σ.hp (.o 4 3 0) = some (.cells [tC a0.Name, .sl (.l 4) 0 8 v.length]) ∧ 5 ≤ σ.gen) (by rfl) (fun Q hK2132 hX2133 => ?_) (fun l2129 σ153 hp => ?_)
    · refine goR f0 ?_
      revert e2130; refine bK fun o3867 e3866 e2130 => ?_
      refine awp_loopW (fun (v : Nat × Int × (List Inst)) (σ : St) => simplify_Prune_L1 a0 y1 v.1 v.2.1 v.2.2 = some o3867 ∧ σ.env 1 = .cell (.ref (.o 1 0 0) 0) ∧ σ.env 2 = .cell (.ref (.o 1 1 0) 0) ∧ σ.env 4 = .cell (sC y1.1) ∧ σ.env 6 = .cell (.ref (.o 4 3 0) 0) ∧ σ.env 25 = .cell (sC y1.1) ∧ σ.env 26 = iV .i64 ((y1.1.length : Nat) : Int) ∧ σ.env 27 = iV .i64 v.2.1 ∧ σ.hp (.o 1 0 0) = some (.cells (eA a0)) ∧ σ.hp (.o 1 1 0) = some (.cells [tC (⟨#[]⟩ : ByteArray), .z]) ∧ σ.hp (.l 88) = some (.pure (encL v.2.2)) ∧ σ.hp (.o 4 3 0) = some (.cells [tC a0.Name, .sl (.l 88) 0 8 v.2.2.length]) ∧ 5 ≤ σ.gen) (fun v => v.1) _ (Gh.voidB _ (.l 88) (.o 4 3 0) 1 8 rfl (by simp; rfl) (by first | rfl | simp) (by simp)) (fuelN, 0, []) ⟨e3866, pv f0, pv f0, pv f0, pv f0, pv f0, pv f0, pv f0, pv f0, pv f0, pv f0, pv f0, pg⟩ fun v σ276 hp L3868 hL3869 => ?_
      obtain ⟨q3871, i3403, l3404⟩ := v
      dsimp only at hp hL3869
      obtain ⟨e3866, h275_1, h275_2, h275_4, h275_6, h275_25, h275_26, h275_27, g275_0, g275_1, g275_2, g275_3, n275_g⟩ := hp
      have n275_0 : ¬ (σ276.gen = 0) := by omega
      have n275_1 : ¬ (σ276.gen = 1) := by omega
      have n275_2 : ¬ (σ276.gen = 2) := by omega
      have n275_3 : ¬ (σ276.gen = 3) := by omega
      rcases q3871 with _ | q3872
      · rw [simplify_Prune_L1] at e3866; cases e3866
      · rw [simplify_Prune_L1] at e3866; try dsimp only at e3866
        have F1 := an h275_1 (an h275_2 (an h275_4 (an h275_6 (an h275_25 (an h275_26 (an h275_27 (an g275_0 (an g275_1 (an g275_2 (an g275_3 (an n275_0 (an n275_1 (an n275_2 n275_3)))))))))))))
        refine goR F1 ?_
        revert e3866; refine cS F1 ?_ ?_ <;> intro h3876 e3866
        · refine goR2 F1 ?_
          revert e3866; refine bK fun o4067 e4066 e3866 => ?_
          refine awp_cutK (fun (v : (List Inst)) (σ : St) => some (v) = some o4067 ∧ σ.env 1 = .cell (.ref (.o 1 0 0) 0) ∧ σ.env 2 = .cell (.ref (.o 1 1 0) 0) ∧ σ.env 4 = .cell (sC y1.1) ∧ σ.env 6 = .cell (.ref (.o 4 3 0) 0) ∧ σ.env 25 = .cell (sC y1.1) ∧ σ.env 26 = iV .i64 ((y1.1.length : Nat) : Int) ∧ σ.env 27 = iV .i64 i3403 ∧ σ.hp (.o 1 0 0) = some (.cells (eA a0)) ∧ σ.hp (.o 1 1 0) = some (.cells [tC (⟨#[]⟩ : ByteArray), .z]) ∧ σ.hp (.l 148) = some (.pure (encL v)) ∧ σ.hp (.o 4 3 0) = some (.cells [tC a0.Name, .sl (.l 148) 0 8 v.length]) ∧ (σ276.gen + 1) ≤ σ.gen) (by rfl) (fun Q hK4068 hX4069 => ?_) (fun l4065 σ291 hp => ?_)
          · refine goR2 F1 ?_
            refine awp_block ?_
            revert e4066; refine bK fun x4070 hx4071 e4066 => ?_
            obtain ⟨hx4071a, hx4071b, hx4071c, hx4071d⟩ := getI_some hx4071
            have f4072 : partCV Tryd.prog 3 (encL y1.1) ((i3403).toNat) = some (iV .i64 x4070) := partCV_enc1 hx4071d (by simp)
            revert e4066; refine bK fun x4073 hx4074 e4066 => ?_
            obtain ⟨hx4074a, hx4074b, hx4074c, hx4074d⟩ := getI_some hx4074
            have f4075 : partCV Tryd.prog 83 (encL a0.Code) (((x4070).toNat) * 8) = some (.agg (eA x4073)) := partCV_enc hx4074d (f := 0) (by simp)
            have F2 := an F1 (an f4072 f4075)
            have F3 := an F2 (an hx4071a (an hx4071b (an hx4074a hx4074b)))
            refine goG2 F2 F3 ?_
            revert e4066; refine bK fun o4164 e4163 e4066 => ?_
            refine awp_cutK (fun (v : Int) (σ : St) => some (v) = some o4164 ∧ σ.env 1 = .cell (.ref (.o 1 0 0) 0) ∧ σ.env 2 = .cell (.ref (.o 1 1 0) 0) ∧ σ.env 4 = .cell (sC y1.1) ∧ σ.env 6 = .cell (.ref (.o 4 3 0) 0) ∧ σ.env 9 = .cell (.ref (.o (σ276.gen + 3) 5 0) 0) ∧ σ.env 25 = .cell (sC y1.1) ∧ σ.env 26 = iV .i64 ((y1.1.length : Nat) : Int) ∧ σ.env 27 = iV .i64 i3403 ∧ σ.hp (.o 1 0 0) = some (.cells (eA a0)) ∧ σ.hp (.o 1 1 0) = some (.cells [tC (⟨#[]⟩ : ByteArray), .z]) ∧ σ.hp (.o 4 3 0) = some (.cells [tC a0.Name, .sl (.l 88) 0 8 l3404.length]) ∧ σ.hp (.l 88) = some (.pure (encL l3404)) ∧ σ.hp (.o (σ276.gen + 3) 5 0) = some (.cells [nC x4073.Op, nC x4073.A, nC x4073.B, nC x4073.C, nC x4073.Obj, nC v, nC x4073.Fn, nC x4073.Order]) ∧ (σ276.gen + 4) ≤ σ.gen) (by rfl) (fun Q hK4165 hX4166 => ?_) (fun i4162 σ299 hp => ?_)
            · refine goG F2 F3 ?_
              revert e4163; refine cS F2 ?_ ?_ <;> intro h4167 e4163
              · refine goG2 F2 F3 ?_
                revert e4163; refine bK fun o4210 e4209 e4163 => ?_
                refine awp_cutK (fun (v : Int) (σ : St) => some (v) = some o4210 ∧ σ.env 1 = .cell (.ref (.o 1 0 0) 0) ∧ σ.env 2 = .cell (.ref (.o 1 1 0) 0) ∧ σ.env 4 = .cell (sC y1.1) ∧ σ.env 6 = .cell (.ref (.o 4 3 0) 0) ∧ σ.env 9 = .cell (.ref (.o (σ276.gen + 3) 5 0) 0) ∧ σ.env 10 = iV .i64 v ∧ σ.env 25 = .cell (sC y1.1) ∧ σ.env 26 = iV .i64 ((y1.1.length : Nat) : Int) ∧ σ.env 27 = iV .i64 i3403 ∧ σ.hp (.o 1 0 0) = some (.cells (eA a0)) ∧ σ.hp (.o 1 1 0) = some (.cells [tC (⟨#[]⟩ : ByteArray), .z]) ∧ σ.hp (.o 4 3 0) = some (.cells [tC a0.Name, .sl (.l 88) 0 8 l3404.length]) ∧ σ.hp (.l 88) = some (.pure (encL l3404)) ∧ σ.hp (.o (σ276.gen + 3) 5 0) = some (.cells (eA x4073)) ∧ (σ276.gen + 6) ≤ σ.gen) (by rfl) (fun Q hK4211 hX4212 => ?_) (fun i4208 σ303 hp => ?_)
                · refine goG F2 F3 ?_
                  obtain ⟨hb4249, e4209⟩ := guardO_some e4209
                  revert e4209; refine bK fun o4239 e4238 e4209 => ?_
                  refine awp_loopW (fun (v : (List Int) × Int × Nat) (σ : St) => simplify_Prune_L2 x4073 v.1 v.2.1 v.2.2 = some o4239 ∧ v.1 = y1.1.drop v.2.2 ∧ σ.env 1 = .cell (.ref (.o 1 0 0) 0) ∧ σ.env 2 = .cell (.ref (.o 1 1 0) 0) ∧ σ.env 4 = .cell (sC y1.1) ∧ σ.env 6 = .cell (.ref (.o 4 3 0) 0) ∧ σ.env 9 = .cell (.ref (.o (σ276.gen + 3) 5 0) 0) ∧ σ.env 10 = iV .i64 v.2.1 ∧ σ.env 25 = .cell (sC y1.1) ∧ σ.env 26 = iV .i64 ((y1.1.length : Nat) : Int) ∧ σ.env 27 = iV .i64 i3403 ∧ σ.env 44 = .cell (sC y1.1) ∧ σ.env 45 = iV .i64 ((y1.1.length : Nat) : Int) ∧ σ.env 46 = iV .i64 ((v.2.2 : Nat) : Int) ∧ σ.hp (.o 1 0 0) = some (.cells (eA a0)) ∧ σ.hp (.o 1 1 0) = some (.cells [tC (⟨#[]⟩ : ByteArray), .z]) ∧ σ.hp (.o 4 3 0) = some (.cells [tC a0.Name, .sl (.l 88) 0 8 l3404.length]) ∧ σ.hp (.l 88) = some (.pure (encL l3404)) ∧ σ.hp (.o (σ276.gen + 3) 5 0) = some (.cells (eA x4073)) ∧ (σ276.gen + 6) ≤ σ.gen) (fun v => v.1.length) _ (Gh.refl _) (y1.1, 0, 0) ⟨e4238, by simp, pv F2, pv F2, pv F2, pv F2, pv F2, pv F2, pv F2, pv F2, pv F2, pv F2, pv F2, pv F2, pv F2, pv F2, pv F2, pv F2, pv F2, pg⟩ fun v σ306 hp L4240 hL4241 => ?_
                  obtain ⟨q4243, i4229, k4230⟩ := v
                  dsimp only at hp hL4241
                  obtain ⟨e4238, hd4242, h305_1, h305_2, h305_4, h305_6, h305_9, h305_10, h305_25, h305_26, h305_27, h305_44, h305_45, h305_46, g305_0, g305_1, g305_2, g305_3, g305_4, n305_g⟩ := hp
                  have n305_0 : ¬ (σ306.gen = 0) := by omega
                  have n305_1 : ¬ (σ306.gen = 1) := by omega
                  have n305_2 : ¬ (σ306.gen = 2) := by omega
                  have n305_3 : ¬ (σ306.gen = 3) := by omega
                  have n305_σ276gen_0 : ¬ (σ306.gen = σ276.gen) := by omega
                  have n305_σ276gen_0' : ¬ (σ276.gen = σ306.gen) := by omega
                  have n305_σ276gen_1 : ¬ (σ306.gen = σ276.gen + 1) := by omega
                  have n305_σ276gen_1' : ¬ (σ276.gen + 1 = σ306.gen) := by omega
                  have n305_σ276gen_2 : ¬ (σ306.gen = σ276.gen + 2) := by omega
                  have n305_σ276gen_2' : ¬ (σ276.gen + 2 = σ306.gen) := by omega
                  have n305_σ276gen_3 : ¬ (σ306.gen = σ276.gen + 3) := by omega
                  have n305_σ276gen_3' : ¬ (σ276.gen + 3 = σ306.gen) := by omega
                  have n305_σ276gen_a : ∀ j, ¬ (σ306.gen + j = σ276.gen) := fun j => by omega
                  have n305_σ276gen_a' : ∀ j, ¬ (σ276.gen = σ306.gen + j) := fun j => by omega
                  rcases q4243 with _ | ⟨x4248, q4244⟩
                  · have hlt4245 := drop_end hd4242
                    rw [simplify_Prune_L2] at e4238; try dsimp only at e4238
                    have F4 := an h305_1 (an h305_2 (an h305_4 (an h305_6 (an h305_9 (an h305_10 (an h305_25 (an h305_26 (an h305_27 (an h305_44 (an h305_45 (an h305_46 (an g305_0 (an g305_1 (an g305_2 (an g305_3 (an g305_4 (an n305_0 (an n305_1 (an n305_2 (an n305_3 (an n305_σ276gen_0 (an n305_σ276gen_0' (an n305_σ276gen_1 (an n305_σ276gen_1' (an n305_σ276gen_2 (an n305_σ276gen_2' (an n305_σ276gen_3 (an n305_σ276gen_3' (an n305_σ276gen_a (an n305_σ276gen_a' (an f4072 f4075)))))))))))))))))))))))))))))))
                    refine goR F4 ?_
                    refine condK_f (by simp [ltI]; omega) ?_
                    obtain rfl := sj e4238
                    try dsimp only at e4209
                    exact hK4211 i4229 _ _ (Gh.refl _) ⟨e4209, pv F4, pv F4, pv F4, pv F4, pv F4, pv F4, pv F4, pv F4, pv F4, pv F4, pv F4, pv F4, pv F4, pv F4, pg⟩
                  · obtain ⟨hx4247, hlt4245, hd4250⟩ := drop_next hd4242
                    have ew4246 := wrap_succG hlt4245 hb4249
                    rw [simplify_Prune_L2] at e4238; try dsimp only at e4238
                    have F5 := an h305_1 (an h305_2 (an h305_4 (an h305_6 (an h305_9 (an h305_10 (an h305_25 (an h305_26 (an h305_27 (an h305_44 (an h305_45 (an h305_46 (an g305_0 (an g305_1 (an g305_2 (an g305_3 (an g305_4 (an n305_0 (an n305_1 (an n305_2 (an n305_3 (an n305_σ276gen_0 (an n305_σ276gen_0' (an n305_σ276gen_1 (an n305_σ276gen_1' (an n305_σ276gen_2 (an n305_σ276gen_2' (an n305_σ276gen_3 (an n305_σ276gen_3' (an n305_σ276gen_a (an n305_σ276gen_a' (an f4072 (an f4075 (an hlt4245 ew4246)))))))))))))))))))))))))))))))))
                    refine goR F5 ?_
                    refine condK_t (by simp [ltI]; omega) ?_
                    have f4251 : partCV Tryd.prog 3 (encL y1.1) (k4230) = some (iV .i64 x4248) := partCV_enc1 hx4247 (by simp)
                    have F6 := an F5 f4251
                    refine goR F6 ?_
                    revert e4238; refine cS F6 ?_ ?_ <;> intro h4252 e4238
                    · refine goR F6 ?_
                      exact hL4241 (q4244, IntKind.i64.wrap (i4229 + 1), (k4230 + 1)) _ _ (Gh.refl _) ⟨e4238, hd4250, pv F6, pv F6, pv F6, pv F6, pv F6, pv F6, pv F6, pv F6, pv F6, pv F6, pv F6, pv F6, pv F6, pv F6, pv F6, pv F6, pv F6, pg⟩ (by simp)
                    · refine goR F6 ?_
                      exact hL4241 (q4244, i4229, (k4230 + 1)) _ _ (Gh.refl _) ⟨e4238, hd4250, pv F6, pv F6, pv F6, pv F6, pv F6, pv F6, pv F6, pv F6, pv F6, pv F6, pv F6, pv F6, pv F6, pv F6, pv F6, pv F6, pv F6, pg⟩ (by simp)
                · obtain ⟨e4209, h304_1, h304_2, h304_4, h304_6, h304_9, h304_10, h304_25, h304_26, h304_27, g304_0, g304_1, g304_2, g304_3, g304_4, n304_g⟩ := hp
                  obtain rfl := sj e4209
                  try dsimp only at e4163
                  have n304_0 : ¬ (σ303.gen = 0) := by omega
                  have n304_1 : ¬ (σ303.gen = 1) := by omega
                  have n304_2 : ¬ (σ303.gen = 2) := by omega
                  have n304_3 : ¬ (σ303.gen = 3) := by omega
                  have n304_σ276gen_0 : ¬ (σ303.gen = σ276.gen) := by omega
                  have n304_σ276gen_0' : ¬ (σ276.gen = σ303.gen) := by omega
                  have n304_σ276gen_1 : ¬ (σ303.gen = σ276.gen + 1) := by omega
                  have n304_σ276gen_1' : ¬ (σ276.gen + 1 = σ303.gen) := by omega
                  have n304_σ276gen_2 : ¬ (σ303.gen = σ276.gen + 2) := by omega
                  have n304_σ276gen_2' : ¬ (σ276.gen + 2 = σ303.gen) := by omega
                  have n304_σ276gen_3 : ¬ (σ303.gen = σ276.gen + 3) := by omega
                  have n304_σ276gen_3' : ¬ (σ276.gen + 3 = σ303.gen) := by omega
                  have n304_σ276gen_a : ∀ j, ¬ (σ303.gen + j = σ276.gen) := fun j => by omega
                  have n304_σ276gen_a' : ∀ j, ¬ (σ276.gen = σ303.gen + j) := fun j => by omega
                  have F7 := an h304_1 (an h304_2 (an h304_4 (an h304_6 (an h304_9 (an h304_10 (an h304_25 (an h304_26 (an h304_27 (an g304_0 (an g304_1 (an g304_2 (an g304_3 (an g304_4 (an n304_0 (an n304_1 (an n304_2 (an n304_3 (an n304_σ276gen_0 (an n304_σ276gen_0' (an n304_σ276gen_1 (an n304_σ276gen_1' (an n304_σ276gen_2 (an n304_σ276gen_2' (an n304_σ276gen_3 (an n304_σ276gen_3' (an n304_σ276gen_a (an n304_σ276gen_a' (an f4072 f4075))))))))))))))))))))))))))))
                  have F8 := an F7 (an hx4071a (an hx4071b (an hx4074a hx4074b)))
                  refine goG F7 F8 ?_
                  exact hK4165 i4208 _ _ (Gh.refl _) ⟨e4163, pv F7, pv F7, pv F7, pv F7, pv F7, pv F7, pv F7, pv F7, pv F7, pv F7, pv F7, pv F7, pv F7, pg⟩
              · refine goG F2 F3 ?_
                exact hK4165 x4073.N _ _ (Gh.refl _) ⟨e4163, pv F2, pv F2, pv F2, pv F2, pv F2, pv F2, pv F2, pv F2, pv F2, pv F2, pv F2, pv F2, pv F2, pg⟩
            · obtain ⟨e4163, h300_1, h300_2, h300_4, h300_6, h300_9, h300_25, h300_26, h300_27, g300_0, g300_1, g300_2, g300_3, g300_4, n300_g⟩ := hp
              obtain rfl := sj e4163
              try dsimp only at e4066
              have n300_0 : ¬ (σ299.gen = 0) := by omega
              have n300_1 : ¬ (σ299.gen = 1) := by omega
              have n300_2 : ¬ (σ299.gen = 2) := by omega
              have n300_3 : ¬ (σ299.gen = 3) := by omega
              have n300_σ276gen_0 : ¬ (σ299.gen = σ276.gen) := by omega
              have n300_σ276gen_0' : ¬ (σ276.gen = σ299.gen) := by omega
              have n300_σ276gen_1 : ¬ (σ299.gen = σ276.gen + 1) := by omega
              have n300_σ276gen_1' : ¬ (σ276.gen + 1 = σ299.gen) := by omega
              have n300_σ276gen_2 : ¬ (σ299.gen = σ276.gen + 2) := by omega
              have n300_σ276gen_2' : ¬ (σ276.gen + 2 = σ299.gen) := by omega
              have n300_σ276gen_3 : ¬ (σ299.gen = σ276.gen + 3) := by omega
              have n300_σ276gen_3' : ¬ (σ276.gen + 3 = σ299.gen) := by omega
              have n300_σ276gen_a : ∀ j, ¬ (σ299.gen + j = σ276.gen) := fun j => by omega
              have n300_σ276gen_a' : ∀ j, ¬ (σ276.gen = σ299.gen + j) := fun j => by omega
              revert e4066; refine lK fun l4253 hx4254 e4066 => ?_
              have hx4254n : l4253.length = 1 := by rw [hx4254]; rfl
              obtain ⟨g4255, e4066⟩ := guardO_some e4066
              have g4255 := limB_t g4255
              obtain ⟨g4255a, g4255b⟩ := g4255
              revert e4066; refine lK fun l4256 hx4257 e4066 => ?_
              have hx4257n : l4256.length = (l3404.length + l4253.length) := by rw [hx4257]; simp
              have hx4257e : encL l4256 = encL l3404 ++ encL l4253 := by rw [hx4257]; simp
              have F9 := an h300_1 (an h300_2 (an h300_4 (an h300_6 (an h300_9 (an h300_25 (an h300_26 (an h300_27 (an g300_0 (an g300_1 (an g300_2 (an g300_3 (an g300_4 (an n300_0 (an n300_1 (an n300_2 (an n300_3 (an n300_σ276gen_0 (an n300_σ276gen_0' (an n300_σ276gen_1 (an n300_σ276gen_1' (an n300_σ276gen_2 (an n300_σ276gen_2' (an n300_σ276gen_3 (an n300_σ276gen_3' (an n300_σ276gen_a (an n300_σ276gen_a' (an f4072 (an f4075 (an hx4254 (an hx4257n hx4257e))))))))))))))))))))))))))))))
              have F10 := an F9 (an hx4071a (an hx4071b (an hx4074a hx4074b)))
              refine goG F9 F10 ?_
              exact hK4068 l4256 _ _ (Gh.ren _ (.o (σ299.gen + 1) 4 0) (.l 148) (by simp) rfl rfl) ⟨e4066, pv F9, pv F9, pv F9, pv F9, pv F9, pv F9, pv F9, pv F9, pv F9, pv F9, pv F9, pg⟩
          · obtain ⟨e4066, h292_1, h292_2, h292_4, h292_6, h292_25, h292_26, h292_27, g292_0, g292_1, g292_2, g292_3, n292_g⟩ := hp
            obtain rfl := sj e4066
            try dsimp only at e3866
            have n292_0 : ¬ (σ291.gen = 0) := by omega
            have n292_1 : ¬ (σ291.gen = 1) := by omega
            have n292_2 : ¬ (σ291.gen = 2) := by omega
            have n292_3 : ¬ (σ291.gen = 3) := by omega
            have F11 := an h292_1 (an h292_2 (an h292_4 (an h292_6 (an h292_25 (an h292_26 (an h292_27 (an g292_0 (an g292_1 (an g292_2 (an g292_3 (an n292_0 (an n292_1 (an n292_2 n292_3)))))))))))))
            refine goR F11 ?_
            exact hL3869 (q3872, IntKind.i64.wrap (i3403 + 1), l4065) _ _ (Gh.ren _ (.l 148) (.l 88) (by simp) rfl rfl) ⟨e3866, pv F11, pv F11, pv F11, pv F11, pv F11, pv F11, pv F11, pv F11, pv F11, pv F11, pv F11, pg⟩ (by omega)
        · refine goR F1 ?_
          obtain rfl := sj e3866
          try dsimp only at e2130
          exact hK2132 l3404 _ _ (Gh.ren _ (.l 88) (.l 4) (by simp) rfl rfl) ⟨e2130, pv F1, pv F1, pv F1, pv F1, pv F1, pg⟩
    · obtain ⟨e2130, h154_2, h154_6, g154_0, g154_1, g154_2, n154_g⟩ := hp
      obtain rfl := sj e2130
      try dsimp only at hs
      have n154_0 : ¬ (σ153.gen = 0) := by omega
      have n154_1 : ¬ (σ153.gen = 1) := by omega
      have n154_2 : ¬ (σ153.gen = 2) := by omega
      have n154_3 : ¬ (σ153.gen = 3) := by omega
      have F12 := an h154_2 (an h154_6 (an g154_0 (an g154_1 (an g154_2 (an n154_0 (an n154_1 (an n154_2 n154_3)))))))
      refine goR F12 ?_
      obtain rfl := sj hs
      exact hQ _ _ (rg F12 (Gh.frz _ (.l 4)))
end Go.Dc
end
section
set_option linter.all false
namespace Go.Dc
open Go Go.Hw Go.Proofs
set_option maxRecDepth 100000

def law15_exampleHolds (fuelN : Nat)  : Option Bool :=
  Option.bind (some ([({ Op := 1, A := 0, B := 0, C := 0, Obj := 0, N := 2, Fn := 0, Order := 0 } : Inst), ({ Op := 1, A := 1, B := 0, C := 0, Obj := 0, N := 3, Fn := 0, Order := 0 } : Inst), ({ Op := 3, A := 2, B := 0, C := 1, Obj := 0, N := 0, Fn := 1, Order := 0 } : Inst), ({ Op := 5, A := 0, B := 2, C := 0, Obj := 0, N := 0, Fn := 0, Order := 0 } : Inst), ({ Op := 7, A := 0, B := 0, C := 0, Obj := 0, N := 0, Fn := 0, Order := 0 } : Inst)])) (fun l1 => Option.bind (some ([({ Op := 1, A := 0, B := 0, C := 0, Obj := 0, N := 2, Fn := 0, Order := 0 } : Inst), ({ Op := 1, A := 1, B := 0, C := 0, Obj := 0, N := 3, Fn := 0, Order := 0 } : Inst), ({ Op := 1, A := 2, B := 0, C := 0, Obj := 0, N := 5, Fn := 0, Order := 0 } : Inst), ({ Op := 4, A := 0, B := 0, C := 0, Obj := 0, N := 0, Fn := 0, Order := 0 } : Inst), ({ Op := 7, A := 0, B := 0, C := 0, Obj := 0, N := 0, Fn := 0, Order := 0 } : Inst)])) (fun l3 => Option.bind (simplify_Fold fuelN ({ Name := (⟨#[]⟩ : ByteArray), Code := l1 } : Func)) (fun y5 => Option.bind (simplify_Prune fuelN y5.1) (fun y7 => guardO (slB 0 (4 : Int) l3.length) (Option.bind (some (subL l3 0 (4 : Int))) (fun l10 => guardO (orB (!(andB (eqI y5.2 0) (eqI y7.2 0))) ((r15_SameCode y5.1 ({ Name := (⟨#[]⟩ : ByteArray), Code := l3 } : Func)).isSome)) (guardO (orB (!(andB (andB (eqI y5.2 0) (eqI y7.2 0)) ((r15_SameCode y5.1 ({ Name := (⟨#[]⟩ : ByteArray), Code := l3 } : Func)).getD default))) ((r15_SameCode y7.1 ({ Name := (⟨#[]⟩ : ByteArray), Code := l10 } : Func)).isSome)) (some (andB (andB (andB (eqI y5.2 0) (eqI y7.2 0)) ((r15_SameCode y5.1 ({ Name := (⟨#[]⟩ : ByteArray), Code := l3 } : Func)).getD default)) ((r15_SameCode y7.1 ({ Name := (⟨#[]⟩ : ByteArray), Code := l10 } : Func)).getD default))))))))))

set_option maxHeartbeats 2000000 in
theorem at_law15_exampleHolds {fuelN : Nat}  {r : Bool} (hs : law15_exampleHolds fuelN = some r) : At Tryd.prog 15 [] (bV r) := by
  refine at_bound (by kernel_rfl) fun hb => ?_
  refine at_code mixed Tryd.func15 (by kernel_rfl) rfl (by kernel_rfl) rfl fun Q hQ => ?_
  rw [law15_exampleHolds] at hs
  revert hs; refine lK fun l1 hx2 hs => ?_
  have hx2n : l1.length = 5 := by rw [hx2]; rfl
  revert hs; refine lK fun l3 hx4 hs => ?_
  have hx4n : l3.length = 5 := by rw [hx4]; rfl
  have F1 := an hx2 hx4
  refine goN F1 ?_
  refine awp_reg ?_
  refine goN F1 ?_
  refine awp_reg ?_
  refine goN F1 ?_
  refine awp_reg ?_
  refine goN F1 ?_
  refine awp_gh (by rfl) (Gh.frz _ (.o 2 5 0)) ?_
  try simp only [St.frz, St.pur]
  refine goR F1 ?_
  revert hs; refine bK fun y5 hx6 hs => ?_
  refine cP F1 (at_simplify_Fold hx6) ?_
  refine goR F1 ?_
  revert hs; refine bK fun y7 hx8 hs => ?_
  refine cP F1 (at_simplify_Prune hx8) ?_
  refine goN F1 ?_
  refine awp_gh (by rfl) (Gh.frz _ (.o 3 5 0)) ?_
  try simp only [St.frz, St.pur]
  obtain ⟨g9, hs⟩ := guardO_some hs
  obtain ⟨g9a, g9b, g9c⟩ := slB_t g9
  revert hs; refine lK fun l10 hx11 hs => ?_
  have f12n : l10.length = ((4 : Int) - 0).toNat := by rw [hx11]; exact subL_len ⟨g9a, g9b, g9c⟩
  have f12e : ((encL l3).drop ((0 : Int).toNat * 8)).take (((4 : Int) - 0).toNat * 8) = encL l10 := by rw [hx11]; exact subL_enc (α := Inst)
  try simp at f12n
  try simp at f12e
  have h13 : l10 = [({ Op := 1, A := 0, B := 0, C := 0, Obj := 0, N := 2, Fn := 0, Order := 0 } : Inst), ({ Op := 1, A := 1, B := 0, C := 0, Obj := 0, N := 3, Fn := 0, Order := 0 } : Inst), ({ Op := 1, A := 2, B := 0, C := 0, Obj := 0, N := 5, Fn := 0, Order := 0 } : Inst), ({ Op := 4, A := 0, B := 0, C := 0, Obj := 0, N := 0, Fn := 0, Order := 0 } : Inst)] := by rw [hx11, hx4]; rfl
  have F2 := an F1 (an g9a (an g9b (an g9c h13)))
  refine goG F2 F2 ?_
  obtain ⟨g14, hs⟩ := guardO_some hs
  refine gsel_call (fun hg => at_r15_SameCode (under_call g14 hg)) (fun hg => by (try simp at hg); (first | simp [hg, F2]); try rfl) (fun hg => by (try simp at hg); simp [hg, F2]) (by simp) ?_
  refine goG F2 F2 ?_
  obtain ⟨g15, hs⟩ := guardO_some hs
  refine gsel_cast (andB (andB (eqI y5.2 0) (eqI y7.2 0)) ((r15_SameCode y5.1 ({ Name := (⟨#[]⟩ : ByteArray), Code := l3 } : Func)).getD default)) (by first | rfl | simp [F2]) ?_
  refine gsel_call (fun hg => at_r15_SameCode (under_call g15 hg)) (fun hg => by (try simp [F2] at hg); (first | simp [hg, F2]); try rfl) (fun hg => by (try simp [F2] at hg); simp [hg, F2]) (by simp) ?_
  refine goG F2 F2 ?_
  obtain rfl := sj hs
  exact hQ _ _ (rg F2 (Gh.refl _))
end Go.Dc
end
section
set_option linter.all false
namespace Go.Dc
open Go Go.Hw Go.Proofs
set_option maxRecDepth 100000

def law15_SimplifyFolds (fuelN : Nat) (a0 : Func) : Option Bool :=
  cond (ltI 30 ((a0.Code.length : Nat) : Int)) (Option.bind (law15_exampleHolds fuelN) (fun y2 => some y2)) (Option.bind (simplify_Fold fuelN a0) (fun y4 => Option.bind (r15_Fold fuelN a0) (fun y6 => guardO (orB (!(eqI y4.2 y6.2)) ((r15_SameCode y4.1 y6.1).isSome)) (guardO (orB (!(andB (eqI y4.2 y6.2) ((r15_SameCode y4.1 y6.1).getD default))) ((law15_exampleHolds fuelN).isSome)) (some (andB (andB (eqI y4.2 y6.2) ((r15_SameCode y4.1 y6.1).getD default)) ((law15_exampleHolds fuelN).getD default)))))))

set_option maxHeartbeats 2000000 in
theorem at_law15_SimplifyFolds {fuelN : Nat} {a0 : Func} {r : Bool} (hs : law15_SimplifyFolds fuelN a0 = some r) : At Tryd.prog 3 [.agg (eA a0)] (bV r) := by
  refine at_bound (by kernel_rfl) fun hb => ?_
  have hb1 : LenOk (.sl a0.Code.length (encL a0.Code)) := lkc hb
  refine at_code mixed Tryd.func3 (by kernel_rfl) rfl (by kernel_rfl) rfl fun Q hQ => ?_
  rw [law15_SimplifyFolds] at hs
  refine goR f0 ?_
  revert hs; refine cS f0 ?_ ?_ <;> intro h1 hs
  · refine goR f0 ?_
    revert hs; refine bK fun y2 hx3 hs => ?_
    refine cP f0 (at_law15_exampleHolds hx3) ?_
    refine goR f0 ?_
    obtain rfl := sj hs
    exact hQ _ _ (rg f0 (Gh.refl _))
  · refine goR f0 ?_
    revert hs; refine bK fun y4 hx5 hs => ?_
    refine cP f0 (at_simplify_Fold hx5) ?_
    refine goR f0 ?_
    revert hs; refine bK fun y6 hx7 hs => ?_
    refine cP f0 (at_r15_Fold hx7) ?_
    refine goG f0 f0 ?_
    obtain ⟨g8, hs⟩ := guardO_some hs
    refine gsel_call (fun hg => at_r15_SameCode (under_call g8 hg)) (fun hg => by (try simp at hg); (first | simp [hg, id]); try rfl) (fun hg => by (try simp at hg); simp [hg, id]) (by simp) ?_
    refine goG f0 f0 ?_
    obtain ⟨g9, hs⟩ := guardO_some hs
    refine gsel_call (fun hg => at_law15_exampleHolds (under_call g9 hg)) (fun hg => by (try simp at hg); (first | simp [hg, id]); try rfl) (fun hg => by (try simp at hg); simp [hg, id]) (by simp) ?_
    refine goG f0 f0 ?_
    obtain rfl := sj hs
    exact hQ _ _ (rg f0 (Gh.refl _))
end Go.Dc
end
section
set_option linter.all false
namespace Go.Dc.Pl
open Go Go.Hw Go.Dc
set_option maxRecDepth 100000
theorem instB_refl (x : Inst) : andB (eqI x.Op x.Op) (andB (eqI x.A x.A) (andB (eqI x.B x.B) (andB (eqI x.C x.C) (andB (eqI x.Obj x.Obj) (andB (eqI x.N x.N) (andB (eqI x.Fn x.Fn) (andB (eqI x.Order x.Order) true))))))) = true := by simp [eqI, andB]
theorem same_refl (f : Func) : r15_SameCode f f = some true := by
  have h := srch (L := r15_SameCode_L1 f) (fun _ _ => none) (fun _ => rfl) f.Code 0 fun j x hx q => by
    rw [r15_SameCode_L1, Nat.zero_add, hx, Option.bind_some, instB_refl]; rfl
  have hn : ∀ (l : List Inst) (k : Nat), first (fun _ _ => (none : Option Bool)) l k = none := by
    intro l; induction l with
    | nil => intro k; rfl
    | cons x q ih => intro k; rw [first_cons]; exact ih _
  rw [hn] at h
  rw [r15_SameCode, h, eqS_refl, show eqI ((f.Code.length : Nat) : Int) ((f.Code.length : Nat) : Int) = true by simp [eqI]]; rfl
theorem holds : law15_exampleHolds 1000 = some true := by kernel_rfl
def noF : Func := { Name := ⟨#[]⟩, Code := [] }
theorem eqI_r (e : Int) : eqI e e = true := by simp [eqI]
theorem fin1 (e : Int) (f : Func) : guardO (orB (!eqI e e) (r15_SameCode f f).isSome) (guardO (orB (!andB (eqI e e) ((r15_SameCode f f).getD default)) (some true).isSome) (some (andB (andB (eqI e e) ((r15_SameCode f f).getD default)) ((some true).getD default)))) = some true := by
  rw [same_refl, eqI_r]; rfl
theorem law_folds (f : Func) : law15_SimplifyFolds 1000 f = some true := by
  rw [law15_SimplifyFolds, holds]
  by_cases h : f.Code.length ≤ 30
  · rw [show ltI 30 ((f.Code.length : Nat) : Int) = false by rw [ltI_d]; simp; omega, cond_false, show (1000 : Nat) = 992 + 8 from rfl, own_Fold, show (992 + 8 : Nat) = 900 + 100 from rfl, ref_Fold 900 f (by omega), Option.bind_some, Option.bind_some]
    by_cases he : fck f = 0
    · rw [if_pos he]; exact fin1 0 _
    · rw [if_neg he]; exact fin1 (fck f) _
  · rw [show ltI 30 ((f.Code.length : Nat) : Int) = true by rw [ltI_d]; simp; omega]; rfl
end Go.Dc.Pl
end
section
set_option linter.all false
namespace Go.Hw
variable [Globals]
section
variable {H : Type} {enc : TypeId × Value → H} {P : Program} {w : World} {sp : Nat → Bool} {held : Bool}
end
end Go.Hw
end
section
set_option linter.all false
namespace Go.Dc
open Go Go.Hw Go.Proofs
set_option maxRecDepth 100000
theorem dec9 {H : Type} {n : Nat} {d : DataW H} {c : List CV} (h : cvD Tryd.prog n 9 d = some c) : ∃ x : ByteArray, True ∧ c = Enc.enc x := by
  obtain ⟨m, rfl⟩ := cvD_string Tryd.underlying9 h
  exact ⟨m, trivial, rfl⟩
theorem dec81 {H : Type} {n : Nat} {d : DataW H} {c : List CV} (h : cvD Tryd.prog n 81 d = some c) : ∃ x : Int, (-9223372036854775808 ≤ x ∧ x ≤ 9223372036854775807) ∧ c = Enc.enc x := by
  obtain ⟨m, hm, rfl⟩ := cvD_int Tryd.underlying81 h
  exact ⟨m, by simpa [IntKind.min, IntKind.max, IntKind.signed, IntKind.bits] using hm, rfl⟩
theorem dec3 {H : Type} {n : Nat} {d : DataW H} {c : List CV} (h : cvD Tryd.prog n 3 d = some c) : ∃ x : Int, (-9223372036854775808 ≤ x ∧ x ≤ 9223372036854775807) ∧ c = Enc.enc x := by
  obtain ⟨m, hm, rfl⟩ := cvD_int Tryd.underlying3 h
  exact ⟨m, by simpa [IntKind.min, IntKind.max, IntKind.signed, IntKind.bits] using hm, rfl⟩
theorem dec47 {H : Type} {n : Nat} {d : DataW H} {c : List CV} (h : cvD Tryd.prog n 47 d = some c) : ∃ x : Int, (-9223372036854775808 ≤ x ∧ x ≤ 9223372036854775807) ∧ c = Enc.enc x := by
  obtain ⟨m, hm, rfl⟩ := cvD_int Tryd.underlying47 h
  exact ⟨m, by simpa [IntKind.min, IntKind.max, IntKind.signed, IntKind.bits] using hm, rfl⟩
theorem dec65 {H : Type} {n : Nat} {d : DataW H} {c : List CV} (h : cvD Tryd.prog n 65 d = some c) : ∃ x : Int, (-9223372036854775808 ≤ x ∧ x ≤ 9223372036854775807) ∧ c = Enc.enc x := by
  obtain ⟨m, hm, rfl⟩ := cvD_int Tryd.underlying65 h
  exact ⟨m, by simpa [IntKind.min, IntKind.max, IntKind.signed, IntKind.bits] using hm, rfl⟩
def OkInst (x : Inst) : Prop := (fun x : Int => -9223372036854775808 ≤ x ∧ x ≤ 9223372036854775807) x.Op ∧ (fun x : Int => -9223372036854775808 ≤ x ∧ x ≤ 9223372036854775807) x.A ∧ (fun x : Int => -9223372036854775808 ≤ x ∧ x ≤ 9223372036854775807) x.B ∧ (fun x : Int => -9223372036854775808 ≤ x ∧ x ≤ 9223372036854775807) x.C ∧ (fun x : Int => -9223372036854775808 ≤ x ∧ x ≤ 9223372036854775807) x.Obj ∧ (fun x : Int => -9223372036854775808 ≤ x ∧ x ≤ 9223372036854775807) x.N ∧ (fun x : Int => -9223372036854775808 ≤ x ∧ x ≤ 9223372036854775807) x.Fn ∧ (fun x : Int => -9223372036854775808 ≤ x ∧ x ≤ 9223372036854775807) x.Order
theorem dec83 {H : Type} {n : Nat} {d : DataW H} {c : List CV} (h : cvD Tryd.prog n 83 d = some c) : ∃ x : Inst, OkInst x ∧ c = Enc.enc x := by
  obtain ⟨m, l, rfl, rfl, hl, h⟩ := cvD_struct Tryd.underlying83 h
  have hl : l.length = 8 := hl
  match l, hl with
  | [d0, d1, d2, d3, d4, d5, d6, d7], _ =>
    simp only [List.zipWith] at h
    obtain ⟨a0, b0, h0, k1, rfl⟩ := concatM_cons h
    obtain ⟨a1, b1, h1, k2, rfl⟩ := concatM_cons k1
    obtain ⟨a2, b2, h2, k3, rfl⟩ := concatM_cons k2
    obtain ⟨a3, b3, h3, k4, rfl⟩ := concatM_cons k3
    obtain ⟨a4, b4, h4, k5, rfl⟩ := concatM_cons k4
    obtain ⟨a5, b5, h5, k6, rfl⟩ := concatM_cons k5
    obtain ⟨a6, b6, h6, k7, rfl⟩ := concatM_cons k6
    obtain ⟨a7, b7, h7, k8, rfl⟩ := concatM_cons k7
    obtain rfl := concatM_nil k8
    obtain ⟨x0, q0, rfl⟩ := dec81 h0
    obtain ⟨x1, q1, rfl⟩ := dec3 h1
    obtain ⟨x2, q2, rfl⟩ := dec3 h2
    obtain ⟨x3, q3, rfl⟩ := dec3 h3
    obtain ⟨x4, q4, rfl⟩ := dec3 h4
    obtain ⟨x5, q5, rfl⟩ := dec3 h5
    obtain ⟨x6, q6, rfl⟩ := dec47 h6
    obtain ⟨x7, q7, rfl⟩ := dec65 h7
    exact ⟨⟨x0, x1, x2, x3, x4, x5, x6, x7⟩, ⟨q0, q1, q2, q3, q4, q5, q6, q7⟩, rfl⟩
theorem dec22 {H : Type} {n : Nat} {d : DataW H} {c : List CV} (h : cvD Tryd.prog n 22 d = some c) : ∃ x : List Inst, (∀ y ∈ x, (OkInst) y) ∧ c = Enc.enc x := by
  obtain ⟨L, hQ, rfl⟩ := cvD_sliceQ (g := Enc.enc) (Q := OkInst) Tryd.underlying22 (fun n d c h => dec83 h) h
  exact ⟨L, hQ, rfl⟩
def OkFunc (x : Func) : Prop := (fun _ : ByteArray => True) x.Name ∧ (fun l : List Inst => ∀ x ∈ l, (OkInst) x) x.Code
theorem dec24 {H : Type} {n : Nat} {d : DataW H} {c : List CV} (h : cvD Tryd.prog n 24 d = some c) : ∃ x : Func, OkFunc x ∧ c = Enc.enc x := by
  obtain ⟨m, l, rfl, rfl, hl, h⟩ := cvD_struct Tryd.underlying24 h
  have hl : l.length = 2 := hl
  match l, hl with
  | [d0, d1], _ =>
    simp only [List.zipWith] at h
    obtain ⟨a0, b0, h0, k1, rfl⟩ := concatM_cons h
    obtain ⟨a1, b1, h1, k2, rfl⟩ := concatM_cons k1
    obtain rfl := concatM_nil k2
    obtain ⟨x0, q0, rfl⟩ := dec9 h0
    obtain ⟨x1, q1, rfl⟩ := dec22 h1
    exact ⟨⟨x0, x1⟩, ⟨q0, q1⟩, rfl⟩
theorem open24 {H : Type} {enc : TypeId × Value → H} {W : World} {sp : Nat → Bool} {held : Bool} {v : Value} {d : DataW H} {p : List MemPlace} {r : Go.Reach} {b0 : Nat} (hv : Value.okWide Tryd.prog W r b0 24 v) (h : DataW.Trod enc Tryd.prog W 0 sp held 24 v d p) :
    ∃ x : Func, OkFunc x ∧ AVRep W m0 (fun _ => False) v (.agg ((Enc.enc x).map .p)) := by
  obtain ⟨cvs, e, hr⟩ := rep_struct (m := 8) Tryd.underlying24 (by kernel_rfl) hv h
  obtain ⟨x, hx, rfl⟩ := dec24 e
  exact ⟨x, hx, hr⟩
def OkVar (x : Var) : Prop := (fun _ : ByteArray => True) x.Name ∧ (fun x : Int => -9223372036854775808 ≤ x ∧ x ≤ 9223372036854775807) x.Init
def OkStart (x : Start) : Prop := (fun x : Int => -9223372036854775808 ≤ x ∧ x ≤ 9223372036854775807) x.Func ∧ (fun x : Int => -9223372036854775808 ≤ x ∧ x ≤ 9223372036854775807) x.Arg
def OkProgram (x : Program) : Prop := (fun l : List Var => ∀ x ∈ l, (OkVar) x) x.Vars ∧ (fun l : List ByteArray => ∀ x ∈ l, (fun _ : ByteArray => True) x) x.Mutexes ∧ (fun l : List ByteArray => ∀ x ∈ l, (fun _ : ByteArray => True) x) x.Conds ∧ (fun l : List Func => ∀ x ∈ l, (OkFunc) x) x.Funcs ∧ (fun l : List Start => ∀ x ∈ l, (OkStart) x) x.Threads
theorem gN2 : Tryd.prog.globalNamed "modelcheck/value.names" = some 2 := by kernel_rfl
theorem gN0 : Tryd.prog.globalNamed "modelcheck/inst.rows" = some 0 := by kernel_rfl
/-- The package variables as the rows lay them. -/
theorem gT2 : (Tryd.prog.globals[2]?).map (·.type) = some 217 := by kernel_rfl
set_option maxRecDepth 100000 in
theorem gC2 : cvD Tryd.prog 6 217 (Go.Proofs.YtihjddokgmjafaaDoor.Rows.laid_modelcheck_value_names (H := Unit)) = some (encL namesTab) := by kernel_rfl
theorem gT0 : (Tryd.prog.globals[0]?).map (·.type) = some 184 := by kernel_rfl
set_option maxRecDepth 100000 in
theorem gC0 : cvD Tryd.prog 6 184 (Go.Proofs.YtihjddokgmjafaaDoor.Rows.laid_modelcheck_inst_rows (H := Unit)) = some (encL rowsTab) := by kernel_rfl
set_option maxRecDepth 100000 in
theorem globs {W : World} (laid : List (String × DataW Unit)) (he : laid = [("modelcheck/value.names", Go.Proofs.YtihjddokgmjafaaDoor.Rows.laid_modelcheck_value_names), ("modelcheck/inst.rows", Go.Proofs.YtihjddokgmjafaaDoor.Rows.laid_modelcheck_inst_rows)])
    (h : laidMetH Tryd.prog laid W) : ∀ g cs, Globals.G g = some cs → AVRep W m0 (fun _ => False) (.pointer (some ⟨g, 0, none⟩)) (.cell (.ep cs 0)) := by
  subst he
  rw [MakeChecks.laidMetH_plain _ _ _ (by kernel_rfl)] at h
  obtain ⟨ps, ⟨g0, t0, cs0, f0, p0, q0, hg0, ht0, hv0, hd0, ⟨g1, t1, cs1, f1, p1, q1, hg1, ht1, hv1, hd1, _, _⟩, _⟩, _, _⟩ := h
  obtain rfl := Option.some.inj (gN2.symm.trans hg0)
  obtain rfl := Option.some.inj (gT2.symm.trans ht0)
  obtain rfl := Option.some.inj (gN0.symm.trans hg1)
  obtain rfl := Option.some.inj (gT0.symm.trans ht1)
  intro g cs hgc
  have hgc : (if g = 0 then some (encL rowsTab) else if g = 2 then some (encL namesTab) else none) = some cs := hgc
  split at hgc
  · rename_i e
    subst e
    cases hgc
    exact rep_global (m := 6) (t := 184) (by kernel_rfl) hd1 gC0 fun j => by simpa using World.var?_cell hg1 hv1 j
  · split at hgc
    · rename_i e
      subst e
      cases hgc
      exact rep_global (m := 6) (t := 217) (by kernel_rfl) hd0 gC2 fun j => by simpa using World.var?_cell hg0 hv0 j
    · cases hgc
end Go.Dc
end
