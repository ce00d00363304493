/- Contracts of functions, by their numbers, and the laws that walk them. Conditions: as each states. -/
import Derived.Test.YtgcinmhiohlmiaaDoorH3
import Derived.Test.YtgcinmhiohlmiaaDoorH5
import Derived.Test.YtgcinmhiohlmiaaDoorRows
import Derived.LaidMore
import Derived.MakeChecks
set_option linter.all false
section
set_option linter.all false
namespace Go.Dc
open Go Go.Hw Go.Proofs
set_option maxRecDepth 100000

def r01_Name (a0 : Int) : Option ByteArray :=
  cond (eqI a0 1) (some (⟨#[97, 100, 100]⟩ : ByteArray)) (cond (eqI a0 2) (some (⟨#[115, 117, 98]⟩ : ByteArray)) (cond (eqI a0 3) (some (⟨#[109, 117, 108]⟩ : ByteArray)) (cond (eqI a0 4) (some (⟨#[97, 110, 100]⟩ : ByteArray)) (cond (eqI a0 5) (some (⟨#[111, 114]⟩ : ByteArray)) (cond (eqI a0 6) (some (⟨#[120, 111, 114]⟩ : ByteArray)) (cond (eqI a0 7) (some (⟨#[101, 113]⟩ : ByteArray)) (cond (eqI a0 8) (some (⟨#[110, 101]⟩ : ByteArray)) (cond (eqI a0 9) (some (⟨#[108, 116]⟩ : ByteArray)) (cond (eqI a0 10) (some (⟨#[108, 101]⟩ : ByteArray)) (some (⟨#[]⟩ : ByteArray)))))))))))

set_option maxHeartbeats 2000000 in
theorem at_r01_Name {a0 : Int} {r : ByteArray} (hs : r01_Name a0 = some r) : At Tryd.prog 109 [iV .i64 a0] (sV r) := by
  refine at_bound (by kernel_rfl) fun hb => ?_
  refine at_code mixed Tryd.func109 (by kernel_rfl) rfl (by kernel_rfl) rfl fun Q hQ => ?_
  rw [r01_Name] at hs
  repeat (first | simp | with_reducible refine awp_reg ?_)
  refine condK_spec (eqI a0 1) (by first | rfl | (simp; done) | (simp [andB, orB, eqI, ltI, Int.natCast_inj]; done)) (fun h1 => ?_) (fun h1 => ?_)
  · replace hs := condT h1 hs
    repeat (first | simp | with_reducible refine awp_reg ?_)
    obtain rfl := Option.some.inj hs
    refine hQ _ _ (ret2g _ (Gh.refl _) (by simp [St.frz, St.pur]; rfl) (by first | rfl | (simp [St.frz, St.pur]; done) | (rw [if_pos (by first | omega | (simp; omega))]; simp [St.frz, St.pur]; first | omega | exact List.take_of_length_le (by simp; omega) | skip)) (by simp))
  · replace hs := condF h1 hs
    repeat (first | simp | with_reducible refine awp_reg ?_)
    refine condK_spec (eqI a0 2) (by first | rfl | (simp; done) | (simp [andB, orB, eqI, ltI, Int.natCast_inj]; done)) (fun h2 => ?_) (fun h2 => ?_)
    · replace hs := condT h2 hs
      repeat (first | simp | with_reducible refine awp_reg ?_)
      obtain rfl := Option.some.inj hs
      refine hQ _ _ (ret2g _ (Gh.refl _) (by simp [St.frz, St.pur]; rfl) (by first | rfl | (simp [St.frz, St.pur]; done) | (rw [if_pos (by first | omega | (simp; omega))]; simp [St.frz, St.pur]; first | omega | exact List.take_of_length_le (by simp; omega) | skip)) (by simp))
    · replace hs := condF h2 hs
      repeat (first | simp | with_reducible refine awp_reg ?_)
      refine condK_spec (eqI a0 3) (by first | rfl | (simp; done) | (simp [andB, orB, eqI, ltI, Int.natCast_inj]; done)) (fun h3 => ?_) (fun h3 => ?_)
      · replace hs := condT h3 hs
        repeat (first | simp | with_reducible refine awp_reg ?_)
        obtain rfl := Option.some.inj hs
        refine hQ _ _ (ret2g _ (Gh.refl _) (by simp [St.frz, St.pur]; rfl) (by first | rfl | (simp [St.frz, St.pur]; done) | (rw [if_pos (by first | omega | (simp; omega))]; simp [St.frz, St.pur]; first | omega | exact List.take_of_length_le (by simp; omega) | skip)) (by simp))
      · replace hs := condF h3 hs
        repeat (first | simp | with_reducible refine awp_reg ?_)
        refine condK_spec (eqI a0 4) (by first | rfl | (simp; done) | (simp [andB, orB, eqI, ltI, Int.natCast_inj]; done)) (fun h4 => ?_) (fun h4 => ?_)
        · replace hs := condT h4 hs
          repeat (first | simp | with_reducible refine awp_reg ?_)
          obtain rfl := Option.some.inj hs
          refine hQ _ _ (ret2g _ (Gh.refl _) (by simp [St.frz, St.pur]; rfl) (by first | rfl | (simp [St.frz, St.pur]; done) | (rw [if_pos (by first | omega | (simp; omega))]; simp [St.frz, St.pur]; first | omega | exact List.take_of_length_le (by simp; omega) | skip)) (by simp))
        · replace hs := condF h4 hs
          repeat (first | simp | with_reducible refine awp_reg ?_)
          refine condK_spec (eqI a0 5) (by first | rfl | (simp; done) | (simp [andB, orB, eqI, ltI, Int.natCast_inj]; done)) (fun h5 => ?_) (fun h5 => ?_)
          · replace hs := condT h5 hs
            repeat (first | simp | with_reducible refine awp_reg ?_)
            obtain rfl := Option.some.inj hs
            refine hQ _ _ (ret2g _ (Gh.refl _) (by simp [St.frz, St.pur]; rfl) (by first | rfl | (simp [St.frz, St.pur]; done) | (rw [if_pos (by first | omega | (simp; omega))]; simp [St.frz, St.pur]; first | omega | exact List.take_of_length_le (by simp; omega) | skip)) (by simp))
          · replace hs := condF h5 hs
            repeat (first | simp | with_reducible refine awp_reg ?_)
            refine condK_spec (eqI a0 6) (by first | rfl | (simp; done) | (simp [andB, orB, eqI, ltI, Int.natCast_inj]; done)) (fun h6 => ?_) (fun h6 => ?_)
            · replace hs := condT h6 hs
              repeat (first | simp | with_reducible refine awp_reg ?_)
              obtain rfl := Option.some.inj hs
              refine hQ _ _ (ret2g _ (Gh.refl _) (by simp [St.frz, St.pur]; rfl) (by first | rfl | (simp [St.frz, St.pur]; done) | (rw [if_pos (by first | omega | (simp; omega))]; simp [St.frz, St.pur]; first | omega | exact List.take_of_length_le (by simp; omega) | skip)) (by simp))
            · replace hs := condF h6 hs
              repeat (first | simp | with_reducible refine awp_reg ?_)
              refine condK_spec (eqI a0 7) (by first | rfl | (simp; done) | (simp [andB, orB, eqI, ltI, Int.natCast_inj]; done)) (fun h7 => ?_) (fun h7 => ?_)
              · replace hs := condT h7 hs
                repeat (first | simp | with_reducible refine awp_reg ?_)
                obtain rfl := Option.some.inj hs
                refine hQ _ _ (ret2g _ (Gh.refl _) (by simp [St.frz, St.pur]; rfl) (by first | rfl | (simp [St.frz, St.pur]; done) | (rw [if_pos (by first | omega | (simp; omega))]; simp [St.frz, St.pur]; first | omega | exact List.take_of_length_le (by simp; omega) | skip)) (by simp))
              · replace hs := condF h7 hs
                repeat (first | simp | with_reducible refine awp_reg ?_)
                refine condK_spec (eqI a0 8) (by first | rfl | (simp; done) | (simp [andB, orB, eqI, ltI, Int.natCast_inj]; done)) (fun h8 => ?_) (fun h8 => ?_)
                · replace hs := condT h8 hs
                  repeat (first | simp | with_reducible refine awp_reg ?_)
                  obtain rfl := Option.some.inj hs
                  refine hQ _ _ (ret2g _ (Gh.refl _) (by simp [St.frz, St.pur]; rfl) (by first | rfl | (simp [St.frz, St.pur]; done) | (rw [if_pos (by first | omega | (simp; omega))]; simp [St.frz, St.pur]; first | omega | exact List.take_of_length_le (by simp; omega) | skip)) (by simp))
                · replace hs := condF h8 hs
                  repeat (first | simp | with_reducible refine awp_reg ?_)
                  refine condK_spec (eqI a0 9) (by first | rfl | (simp; done) | (simp [andB, orB, eqI, ltI, Int.natCast_inj]; done)) (fun h9 => ?_) (fun h9 => ?_)
                  · replace hs := condT h9 hs
                    repeat (first | simp | with_reducible refine awp_reg ?_)
                    obtain rfl := Option.some.inj hs
                    refine hQ _ _ (ret2g _ (Gh.refl _) (by simp [St.frz, St.pur]; rfl) (by first | rfl | (simp [St.frz, St.pur]; done) | (rw [if_pos (by first | omega | (simp; omega))]; simp [St.frz, St.pur]; first | omega | exact List.take_of_length_le (by simp; omega) | skip)) (by simp))
                  · replace hs := condF h9 hs
                    repeat (first | simp | with_reducible refine awp_reg ?_)
                    refine condK_spec (eqI a0 10) (by first | rfl | (simp; done) | (simp [andB, orB, eqI, ltI, Int.natCast_inj]; done)) (fun h10 => ?_) (fun h10 => ?_)
                    · replace hs := condT h10 hs
                      repeat (first | simp | with_reducible refine awp_reg ?_)
                      obtain rfl := Option.some.inj hs
                      refine hQ _ _ (ret2g _ (Gh.refl _) (by simp [St.frz, St.pur]; rfl) (by first | rfl | (simp [St.frz, St.pur]; done) | (rw [if_pos (by first | omega | (simp; omega))]; simp [St.frz, St.pur]; first | omega | exact List.take_of_length_le (by simp; omega) | skip)) (by simp))
                    · replace hs := condF h10 hs
                      repeat (first | simp | with_reducible refine awp_reg ?_)
                      obtain rfl := Option.some.inj hs
                      refine hQ _ _ (ret2g _ (Gh.refl _) (by simp [St.frz, St.pur]; rfl) (by first | rfl | (simp [St.frz, St.pur]; done) | (rw [if_pos (by first | omega | (simp; omega))]; simp [St.frz, St.pur]; first | omega | exact List.take_of_length_le (by simp; omega) | skip)) (by simp))
end Go.Dc
end
section
set_option linter.all false
namespace Go.Dc
open Go Go.Hw Go.Proofs
set_option maxRecDepth 100000

def r07_Check (a0 : Inst) : Option Int :=
  cond (orB (ltI a0.Op 1) (ltI 22 a0.Op)) (some 8) (Option.bind (r07_has a0.Op 65) (fun y2 => guardO (orB (!(!(andB (!y2) (!(eqI a0.A 0))))) ((r07_has a0.Op 66).isSome)) (guardO (orB (!(!(orB (andB (!y2) (!(eqI a0.A 0))) (andB (!((r07_has a0.Op 66).getD default)) (!(eqI a0.B 0)))))) ((r07_has a0.Op 67).isSome)) (guardO (orB (!(!(orB (orB (andB (!y2) (!(eqI a0.A 0))) (andB (!((r07_has a0.Op 66).getD default)) (!(eqI a0.B 0)))) (andB (!((r07_has a0.Op 67).getD default)) (!(eqI a0.C 0)))))) ((r07_has a0.Op 79).isSome)) (guardO (orB (!(!(orB (orB (orB (andB (!y2) (!(eqI a0.A 0))) (andB (!((r07_has a0.Op 66).getD default)) (!(eqI a0.B 0)))) (andB (!((r07_has a0.Op 67).getD default)) (!(eqI a0.C 0)))) (andB (!((r07_has a0.Op 79).getD default)) (!(eqI a0.Obj 0)))))) ((r07_has a0.Op 78).isSome)) (guardO (orB (!(!(orB (orB (orB (orB (andB (!y2) (!(eqI a0.A 0))) (andB (!((r07_has a0.Op 66).getD default)) (!(eqI a0.B 0)))) (andB (!((r07_has a0.Op 67).getD default)) (!(eqI a0.C 0)))) (andB (!((r07_has a0.Op 79).getD default)) (!(eqI a0.Obj 0)))) (andB (!((r07_has a0.Op 78).getD default)) (!(eqI a0.N 0)))))) ((r07_has a0.Op 70).isSome)) (guardO (orB (!(!(orB (orB (orB (orB (orB (andB (!y2) (!(eqI a0.A 0))) (andB (!((r07_has a0.Op 66).getD default)) (!(eqI a0.B 0)))) (andB (!((r07_has a0.Op 67).getD default)) (!(eqI a0.C 0)))) (andB (!((r07_has a0.Op 79).getD default)) (!(eqI a0.Obj 0)))) (andB (!((r07_has a0.Op 78).getD default)) (!(eqI a0.N 0)))) (andB (!((r07_has a0.Op 70).getD default)) (!(eqI a0.Fn 0)))))) ((r07_has a0.Op 82).isSome)) (cond (orB (orB (orB (orB (orB (orB (andB (!y2) (!(eqI a0.A 0))) (andB (!((r07_has a0.Op 66).getD default)) (!(eqI a0.B 0)))) (andB (!((r07_has a0.Op 67).getD default)) (!(eqI a0.C 0)))) (andB (!((r07_has a0.Op 79).getD default)) (!(eqI a0.Obj 0)))) (andB (!((r07_has a0.Op 78).getD default)) (!(eqI a0.N 0)))) (andB (!((r07_has a0.Op 70).getD default)) (!(eqI a0.Fn 0)))) (andB (!((r07_has a0.Op 82).getD default)) (!(eqI a0.Order 0)))) (some 9) (Option.bind (r07_register a0.A) (fun y11 => guardO (orB (!y11) ((r07_register a0.B).isSome)) (guardO (orB (!(!(orB (!y11) (!((r07_register a0.B).getD default))))) ((r07_register a0.C).isSome)) (cond (orB (orB (!y11) (!((r07_register a0.B).getD default))) (!((r07_register a0.C).getD default))) (some 10) (cond (orB (ltI a0.Order 0) (ltI 2 a0.Order)) (some 13) (Option.bind (r07_has a0.Op 70) (fun y17 => guardO (orB (!y17) ((r01_Name a0.Fn).isSome)) (cond (andB y17 (eqS ((r01_Name a0.Fn).getD default) (⟨#[]⟩ : ByteArray))) (some 8) (cond (andB (eqI a0.Op 1) (orB (ltI a0.N (-2147483648)) (ltI 2147483647 a0.N))) (some 2) (some 0))))))))))))))))))

set_option maxHeartbeats 2000000 in
theorem at_r07_Check {a0 : Inst} {r : Int} (hs : r07_Check a0 = some r) : At Tryd.prog 75 [.agg [.p (.c (.int .i64 a0.Op)), .p (.c (.int .i64 a0.A)), .p (.c (.int .i64 a0.B)), .p (.c (.int .i64 a0.C)), .p (.c (.int .i64 a0.Obj)), .p (.c (.int .i64 a0.N)), .p (.c (.int .i64 a0.Fn)), .p (.c (.int .i64 a0.Order))]] (iV .i64 r) := by
  refine at_bound (by kernel_rfl) fun hb => ?_
  refine at_code mixed Tryd.func75 (by kernel_rfl) rfl (by kernel_rfl) rfl fun Q hQ => ?_
  rw [r07_Check] at hs
  repeat (first | simp | with_reducible refine awp_reg ?_ | with_reducible refine gsel_pure (by with_unfolding_all rfl) _ (fun hg => by (try simp at hg); first | (simp [hg]; rfl) | (simp; simp only [if_pos hg]; simp; rfl)) ?_)
  refine condK_spec (orB (ltI a0.Op 1) (ltI 22 a0.Op)) (by first | rfl | (simp; done) | (simp [andB, orB, eqI, ltI, Int.natCast_inj]; done)) (fun h1 => ?_) (fun h1 => ?_)
  · replace hs := condT h1 hs
    repeat (first | simp | with_reducible refine awp_reg ?_ | with_reducible refine gsel_pure (by with_unfolding_all rfl) _ (fun hg => by (try simp at hg); first | (simp [hg]; rfl) | (simp; simp only [if_pos hg]; simp; rfl)) ?_)
    obtain rfl := Option.some.inj hs
    refine hQ _ _ (ret2g _ (Gh.refl _) (by simp [St.frz, St.pur]; rfl) (by first | rfl | (simp [St.frz, St.pur]; done) | (rw [if_pos (by first | omega | (simp; omega))]; simp [St.frz, St.pur]; first | omega | exact List.take_of_length_le (by simp; omega) | skip)) (by simp))
  · replace hs := condF h1 hs
    repeat (first | simp | with_reducible refine awp_reg ?_ | with_reducible refine And.intro (by omega) ?_ | with_reducible refine optF_if (by omega) ?_ | with_reducible refine gsel_pure (by with_unfolding_all rfl) _ (fun hg => by (try simp at hg); first | (simp [hg]; rfl) | (simp; simp only [if_pos hg]; simp; rfl)) ?_)
    obtain ⟨y2, hx3, hs⟩ := bindO hs
    try dsimp only at hs
    refine callK_pure (at_r07_has hx3) (by (first | simp | simp (disch := omega) []); try rfl) (by simp) (by simp) ?_
    repeat (first | simp | with_reducible refine awp_reg ?_ | with_reducible refine And.intro (by omega) ?_ | with_reducible refine optF_if (by omega) ?_ | with_reducible refine gsel_pure (by with_unfolding_all rfl) _ (fun hg => by (try simp at hg); first | (simp [hg]; rfl) | (simp; simp only [if_pos hg]; simp; rfl)) ?_)
    obtain ⟨g4, hs⟩ := guardO_some hs
    refine gsel_call (fun hg => at_r07_has (under_call g4 hg)) (fun hg => by (try simp at hg); (first | simp [hg, id]); try rfl) (fun hg => by (try simp at hg); simp [hg, id]) (by simp) ?_
    repeat (first | simp | with_reducible refine awp_reg ?_ | with_reducible refine And.intro (by omega) ?_ | with_reducible refine optF_if (by omega) ?_ | with_reducible refine gsel_pure (by with_unfolding_all rfl) _ (fun hg => by (try simp at hg); first | (simp [hg]; rfl) | (simp; simp only [if_pos hg]; simp; rfl)) ?_)
    obtain ⟨g5, hs⟩ := guardO_some hs
    refine gsel_call (fun hg => at_r07_has (under_call g5 hg)) (fun hg => by (try simp at hg); (first | simp [hg, id]); try rfl) (fun hg => by (try simp at hg); simp [hg, id]) (by simp) ?_
    repeat (first | simp | with_reducible refine awp_reg ?_ | with_reducible refine And.intro (by omega) ?_ | with_reducible refine optF_if (by omega) ?_ | with_reducible refine gsel_pure (by with_unfolding_all rfl) _ (fun hg => by (try simp at hg); first | (simp [hg]; rfl) | (simp; simp only [if_pos hg]; simp; rfl)) ?_)
    obtain ⟨g6, hs⟩ := guardO_some hs
    refine gsel_call (fun hg => at_r07_has (under_call g6 hg)) (fun hg => by (try simp at hg); (first | simp [hg, id]); try rfl) (fun hg => by (try simp at hg); simp [hg, id]) (by simp) ?_
    repeat (first | simp | with_reducible refine awp_reg ?_ | with_reducible refine And.intro (by omega) ?_ | with_reducible refine optF_if (by omega) ?_ | with_reducible refine gsel_pure (by with_unfolding_all rfl) _ (fun hg => by (try simp at hg); first | (simp [hg]; rfl) | (simp; simp only [if_pos hg]; simp; rfl)) ?_)
    obtain ⟨g7, hs⟩ := guardO_some hs
    refine gsel_call (fun hg => at_r07_has (under_call g7 hg)) (fun hg => by (try simp at hg); (first | simp [hg, id]); try rfl) (fun hg => by (try simp at hg); simp [hg, id]) (by simp) ?_
    repeat (first | simp | with_reducible refine awp_reg ?_ | with_reducible refine And.intro (by omega) ?_ | with_reducible refine optF_if (by omega) ?_ | with_reducible refine gsel_pure (by with_unfolding_all rfl) _ (fun hg => by (try simp at hg); first | (simp [hg]; rfl) | (simp; simp only [if_pos hg]; simp; rfl)) ?_)
    obtain ⟨g8, hs⟩ := guardO_some hs
    refine gsel_call (fun hg => at_r07_has (under_call g8 hg)) (fun hg => by (try simp at hg); (first | simp [hg, id]); try rfl) (fun hg => by (try simp at hg); simp [hg, id]) (by simp) ?_
    repeat (first | simp | with_reducible refine awp_reg ?_ | with_reducible refine And.intro (by omega) ?_ | with_reducible refine optF_if (by omega) ?_ | with_reducible refine gsel_pure (by with_unfolding_all rfl) _ (fun hg => by (try simp at hg); first | (simp [hg]; rfl) | (simp; simp only [if_pos hg]; simp; rfl)) ?_)
    obtain ⟨g9, hs⟩ := guardO_some hs
    refine gsel_call (fun hg => at_r07_has (under_call g9 hg)) (fun hg => by (try simp at hg); (first | simp [hg, id]); try rfl) (fun hg => by (try simp at hg); simp [hg, id]) (by simp) ?_
    repeat (first | simp | with_reducible refine awp_reg ?_ | with_reducible refine And.intro (by omega) ?_ | with_reducible refine optF_if (by omega) ?_ | with_reducible refine gsel_pure (by with_unfolding_all rfl) _ (fun hg => by (try simp at hg); first | (simp [hg]; rfl) | (simp; simp only [if_pos hg]; simp; rfl)) ?_)
    refine condK_spec (orB (orB (orB (orB (orB (orB (andB (!y2) (!(eqI a0.A 0))) (andB (!((r07_has a0.Op 66).getD default)) (!(eqI a0.B 0)))) (andB (!((r07_has a0.Op 67).getD default)) (!(eqI a0.C 0)))) (andB (!((r07_has a0.Op 79).getD default)) (!(eqI a0.Obj 0)))) (andB (!((r07_has a0.Op 78).getD default)) (!(eqI a0.N 0)))) (andB (!((r07_has a0.Op 70).getD default)) (!(eqI a0.Fn 0)))) (andB (!((r07_has a0.Op 82).getD default)) (!(eqI a0.Order 0)))) (by first | rfl | (simp; done) | (simp [andB, orB, eqI, ltI, Int.natCast_inj]; done)) (fun h10 => ?_) (fun h10 => ?_)
    · replace hs := condT h10 hs
      repeat (first | simp | with_reducible refine awp_reg ?_ | with_reducible refine And.intro (by omega) ?_ | with_reducible refine optF_if (by omega) ?_ | with_reducible refine gsel_pure (by with_unfolding_all rfl) _ (fun hg => by (try simp at hg); first | (simp [hg]; rfl) | (simp; simp only [if_pos hg]; simp; rfl)) ?_)
      obtain rfl := Option.some.inj hs
      refine hQ _ _ (ret2g _ (Gh.refl _) (by simp [St.frz, St.pur]; rfl) (by first | rfl | (simp [St.frz, St.pur]; done) | (rw [if_pos (by first | omega | (simp; omega))]; simp [St.frz, St.pur]; first | omega | exact List.take_of_length_le (by simp; omega) | skip)) (by simp))
    · replace hs := condF h10 hs
      repeat (first | simp | with_reducible refine awp_reg ?_ | with_reducible refine And.intro (by omega) ?_ | with_reducible refine optF_if (by omega) ?_ | with_reducible refine gsel_pure (by with_unfolding_all rfl) _ (fun hg => by (try simp at hg); first | (simp [hg]; rfl) | (simp; simp only [if_pos hg]; simp; rfl)) ?_)
      obtain ⟨y11, hx12, hs⟩ := bindO hs
      try dsimp only at hs
      refine callK_pure (at_r07_register hx12) (by (first | simp | simp (disch := omega) []); try rfl) (by simp) (by simp) ?_
      repeat (first | simp | with_reducible refine awp_reg ?_ | with_reducible refine And.intro (by omega) ?_ | with_reducible refine optF_if (by omega) ?_ | with_reducible refine gsel_pure (by with_unfolding_all rfl) _ (fun hg => by (try simp at hg); first | (simp [hg]; rfl) | (simp; simp only [if_pos hg]; simp; rfl)) ?_)
      obtain ⟨g13, hs⟩ := guardO_some hs
      refine gsel_call (fun hg => at_r07_register (under_call g13 hg)) (fun hg => by (try simp at hg); (first | simp [hg, id]); try rfl) (fun hg => by (try simp at hg); simp [hg, id]) (by simp) ?_
      repeat (first | simp | with_reducible refine awp_reg ?_ | with_reducible refine And.intro (by omega) ?_ | with_reducible refine optF_if (by omega) ?_ | with_reducible refine gsel_pure (by with_unfolding_all rfl) _ (fun hg => by (try simp at hg); first | (simp [hg]; rfl) | (simp; simp only [if_pos hg]; simp; rfl)) ?_)
      obtain ⟨g14, hs⟩ := guardO_some hs
      refine gsel_call (fun hg => at_r07_register (under_call g14 hg)) (fun hg => by (try simp at hg); (first | simp [hg, id]); try rfl) (fun hg => by (try simp at hg); simp [hg, id]) (by simp) ?_
      repeat (first | simp | with_reducible refine awp_reg ?_ | with_reducible refine And.intro (by omega) ?_ | with_reducible refine optF_if (by omega) ?_ | with_reducible refine gsel_pure (by with_unfolding_all rfl) _ (fun hg => by (try simp at hg); first | (simp [hg]; rfl) | (simp; simp only [if_pos hg]; simp; rfl)) ?_)
      refine condK_spec (orB (orB (!y11) (!((r07_register a0.B).getD default))) (!((r07_register a0.C).getD default))) (by first | rfl | (simp; done) | (simp [andB, orB, eqI, ltI, Int.natCast_inj]; done)) (fun h15 => ?_) (fun h15 => ?_)
      · replace hs := condT h15 hs
        repeat (first | simp | with_reducible refine awp_reg ?_ | with_reducible refine And.intro (by omega) ?_ | with_reducible refine optF_if (by omega) ?_ | with_reducible refine gsel_pure (by with_unfolding_all rfl) _ (fun hg => by (try simp at hg); first | (simp [hg]; rfl) | (simp; simp only [if_pos hg]; simp; rfl)) ?_)
        obtain rfl := Option.some.inj hs
        refine hQ _ _ (ret2g _ (Gh.refl _) (by simp [St.frz, St.pur]; rfl) (by first | rfl | (simp [St.frz, St.pur]; done) | (rw [if_pos (by first | omega | (simp; omega))]; simp [St.frz, St.pur]; first | omega | exact List.take_of_length_le (by simp; omega) | skip)) (by simp))
      · replace hs := condF h15 hs
        repeat (first | simp | with_reducible refine awp_reg ?_ | with_reducible refine And.intro (by omega) ?_ | with_reducible refine optF_if (by omega) ?_ | with_reducible refine gsel_pure (by with_unfolding_all rfl) _ (fun hg => by (try simp at hg); first | (simp [hg]; rfl) | (simp; simp only [if_pos hg]; simp; rfl)) ?_)
        refine condK_spec (orB (ltI a0.Order 0) (ltI 2 a0.Order)) (by first | rfl | (simp; done) | (simp [andB, orB, eqI, ltI, Int.natCast_inj]; done)) (fun h16 => ?_) (fun h16 => ?_)
        · replace hs := condT h16 hs
          repeat (first | simp | with_reducible refine awp_reg ?_ | with_reducible refine And.intro (by omega) ?_ | with_reducible refine optF_if (by omega) ?_ | with_reducible refine gsel_pure (by with_unfolding_all rfl) _ (fun hg => by (try simp at hg); first | (simp [hg]; rfl) | (simp; simp only [if_pos hg]; simp; rfl)) ?_)
          obtain rfl := Option.some.inj hs
          refine hQ _ _ (ret2g _ (Gh.refl _) (by simp [St.frz, St.pur]; rfl) (by first | rfl | (simp [St.frz, St.pur]; done) | (rw [if_pos (by first | omega | (simp; omega))]; simp [St.frz, St.pur]; first | omega | exact List.take_of_length_le (by simp; omega) | skip)) (by simp))
        · replace hs := condF h16 hs
          repeat (first | simp | with_reducible refine awp_reg ?_ | with_reducible refine And.intro (by omega) ?_ | with_reducible refine optF_if (by omega) ?_ | with_reducible refine gsel_pure (by with_unfolding_all rfl) _ (fun hg => by (try simp at hg); first | (simp [hg]; rfl) | (simp; simp only [if_pos hg]; simp; rfl)) ?_)
          obtain ⟨y17, hx18, hs⟩ := bindO hs
          try dsimp only at hs
          refine callK_pure (at_r07_has hx18) (by (first | simp | simp (disch := omega) []); try rfl) (by simp) (by simp) ?_
          repeat (first | simp | with_reducible refine awp_reg ?_ | with_reducible refine And.intro (by omega) ?_ | with_reducible refine optF_if (by omega) ?_ | with_reducible refine gsel_pure (by with_unfolding_all rfl) _ (fun hg => by (try simp at hg); first | (simp [hg]; rfl) | (simp; simp only [if_pos hg]; simp; rfl)) ?_)
          obtain ⟨g19, hs⟩ := guardO_some hs
          refine gsel_call (fun hg => at_r01_Name (under_call g19 hg)) (fun hg => by (try simp at hg); (first | simp [hg, id]); try rfl) (fun hg => by (try simp at hg); simp [hg, id]) (by simp) ?_
          repeat (first | simp | with_reducible refine awp_reg ?_ | with_reducible refine And.intro (by omega) ?_ | with_reducible refine optF_if (by omega) ?_ | with_reducible refine gsel_pure (by with_unfolding_all rfl) _ (fun hg => by (try simp at hg); first | (simp [hg]; rfl) | (simp; simp only [if_pos hg]; simp; rfl)) ?_)
          refine condK_spec (andB y17 (eqS ((r01_Name a0.Fn).getD default) (⟨#[]⟩ : ByteArray))) (by first | rfl | (simp; done) | (simp [andB, orB, eqI, ltI, Int.natCast_inj]; done)) (fun h20 => ?_) (fun h20 => ?_)
          · replace hs := condT h20 hs
            repeat (first | simp | with_reducible refine awp_reg ?_ | with_reducible refine And.intro (by omega) ?_ | with_reducible refine optF_if (by omega) ?_ | with_reducible refine gsel_pure (by with_unfolding_all rfl) _ (fun hg => by (try simp at hg); first | (simp [hg]; rfl) | (simp; simp only [if_pos hg]; simp; rfl)) ?_)
            obtain rfl := Option.some.inj hs
            refine hQ _ _ (ret2g _ (Gh.refl _) (by simp [St.frz, St.pur]; rfl) (by first | rfl | (simp [St.frz, St.pur]; done) | (rw [if_pos (by first | omega | (simp; omega))]; simp [St.frz, St.pur]; first | omega | exact List.take_of_length_le (by simp; omega) | skip)) (by simp))
          · replace hs := condF h20 hs
            repeat (first | simp | with_reducible refine awp_reg ?_ | with_reducible refine And.intro (by omega) ?_ | with_reducible refine optF_if (by omega) ?_ | with_reducible refine gsel_pure (by with_unfolding_all rfl) _ (fun hg => by (try simp at hg); first | (simp [hg]; rfl) | (simp; simp only [if_pos hg]; simp; rfl)) ?_)
            refine condK_spec (andB (eqI a0.Op 1) (orB (ltI a0.N (-2147483648)) (ltI 2147483647 a0.N))) (by first | rfl | (simp; done) | (simp [andB, orB, eqI, ltI, Int.natCast_inj]; done)) (fun h21 => ?_) (fun h21 => ?_)
            · replace hs := condT h21 hs
              repeat (first | simp | with_reducible refine awp_reg ?_ | with_reducible refine And.intro (by omega) ?_ | with_reducible refine optF_if (by omega) ?_ | with_reducible refine gsel_pure (by with_unfolding_all rfl) _ (fun hg => by (try simp at hg); first | (simp [hg]; rfl) | (simp; simp only [if_pos hg]; simp; rfl)) ?_)
              obtain rfl := Option.some.inj hs
              refine hQ _ _ (ret2g _ (Gh.refl _) (by simp [St.frz, St.pur]; rfl) (by first | rfl | (simp [St.frz, St.pur]; done) | (rw [if_pos (by first | omega | (simp; omega))]; simp [St.frz, St.pur]; first | omega | exact List.take_of_length_le (by simp; omega) | skip)) (by simp))
            · replace hs := condF h21 hs
              repeat (first | simp | with_reducible refine awp_reg ?_ | with_reducible refine And.intro (by omega) ?_ | with_reducible refine optF_if (by omega) ?_ | with_reducible refine gsel_pure (by with_unfolding_all rfl) _ (fun hg => by (try simp at hg); first | (simp [hg]; rfl) | (simp; simp only [if_pos hg]; simp; rfl)) ?_)
              obtain rfl := Option.some.inj hs
              refine hQ _ _ (ret2g _ (Gh.refl _) (by simp [St.frz, St.pur]; rfl) (by first | rfl | (simp [St.frz, St.pur]; done) | (rw [if_pos (by first | omega | (simp; omega))]; simp [St.frz, St.pur]; first | omega | exact List.take_of_length_le (by simp; omega) | skip)) (by simp))
end Go.Dc
end
section
set_option linter.all false
namespace Go.Dc
open Go Go.Hw Go.Proofs
set_option maxRecDepth 100000
def r08_code_L1 (a0 : Program) (a1 : Func) : List Inst → Nat → Option (Unit ⊕ (Int × Int))
  | [], k63 => some (.inl ())
  | x85 :: q81, k63 => Option.bind (r07_Check x85) (fun y88 => cond (!(eqI y88 0)) (some (.inr (y88, ((k63 : Nat) : Int)))) (Option.bind (r08_exists a0 x85) (fun y91 => cond (!y91) (some (.inr (11, ((k63 : Nat) : Int)))) (cond (andB (orB (eqI x85.Op 4) (eqI x85.Op 5)) (orB (ltI x85.N 0) (ltI ((a1.Code.length : Nat) : Int) x85.N))) (some (.inr (12, ((k63 : Nat) : Int)))) (r08_code_L1 a0 a1 q81 (k63 + 1))))))

def r08_code (a0 : Program) (a1 : Func) : Option (Int × Int) :=
  cond (ltI 64 ((a1.Code.length : Nat) : Int)) (some (4, (-1))) (Option.bind (α := Unit ⊕ (Int × Int)) (Option.bind (r08_code_L1 a0 a1 a1.Code 0) (fun o => match o with | .inl _ => some (.inl ()) | .inr r95 => some (.inr r95))) (fun o => match o with | .inl _ => some (0, (-1)) | .inr r96 => some r96))

set_option maxHeartbeats 2000000 in
theorem at_r08_code {a0 : Program} {a1 : Func} {r : Int × Int} (hs : r08_code a0 a1 = some r) : At Tryd.prog 94 [.agg [.p (.sl a0.Vars.length (encL a0.Vars)), .p (.sl a0.Mutexes.length (encL a0.Mutexes)), .p (.sl a0.Conds.length (encL a0.Conds)), .p (.sl a0.Funcs.length (encL a0.Funcs)), .p (.sl a0.Threads.length (encL a0.Threads))], .agg [.p (.c (.string a1.Name)), .p (.sl a1.Code.length (encL a1.Code))]] (.tup [iV .i64 r.1, iV .i64 r.2]) := by
  refine at_bound (by kernel_rfl) fun hb => ?_
  have hb1 : LenOk (.sl a0.Vars.length (encL a0.Vars)) := hb (.agg [.p (.sl a0.Vars.length (encL a0.Vars)), .p (.sl a0.Mutexes.length (encL a0.Mutexes)), .p (.sl a0.Conds.length (encL a0.Conds)), .p (.sl a0.Funcs.length (encL a0.Funcs)), .p (.sl a0.Threads.length (encL a0.Threads))]) (by simp) (.p (.sl a0.Vars.length (encL a0.Vars))) (by simp)
  have hb2 : LenOk (.sl a0.Mutexes.length (encL a0.Mutexes)) := hb (.agg [.p (.sl a0.Vars.length (encL a0.Vars)), .p (.sl a0.Mutexes.length (encL a0.Mutexes)), .p (.sl a0.Conds.length (encL a0.Conds)), .p (.sl a0.Funcs.length (encL a0.Funcs)), .p (.sl a0.Threads.length (encL a0.Threads))]) (by simp) (.p (.sl a0.Mutexes.length (encL a0.Mutexes))) (by simp)
  have hb3 : LenOk (.sl a0.Conds.length (encL a0.Conds)) := hb (.agg [.p (.sl a0.Vars.length (encL a0.Vars)), .p (.sl a0.Mutexes.length (encL a0.Mutexes)), .p (.sl a0.Conds.length (encL a0.Conds)), .p (.sl a0.Funcs.length (encL a0.Funcs)), .p (.sl a0.Threads.length (encL a0.Threads))]) (by simp) (.p (.sl a0.Conds.length (encL a0.Conds))) (by simp)
  have hb4 : LenOk (.sl a0.Funcs.length (encL a0.Funcs)) := hb (.agg [.p (.sl a0.Vars.length (encL a0.Vars)), .p (.sl a0.Mutexes.length (encL a0.Mutexes)), .p (.sl a0.Conds.length (encL a0.Conds)), .p (.sl a0.Funcs.length (encL a0.Funcs)), .p (.sl a0.Threads.length (encL a0.Threads))]) (by simp) (.p (.sl a0.Funcs.length (encL a0.Funcs))) (by simp)
  have hb5 : LenOk (.sl a0.Threads.length (encL a0.Threads)) := hb (.agg [.p (.sl a0.Vars.length (encL a0.Vars)), .p (.sl a0.Mutexes.length (encL a0.Mutexes)), .p (.sl a0.Conds.length (encL a0.Conds)), .p (.sl a0.Funcs.length (encL a0.Funcs)), .p (.sl a0.Threads.length (encL a0.Threads))]) (by simp) (.p (.sl a0.Threads.length (encL a0.Threads))) (by simp)
  have hb6 : LenOk (.sl a1.Code.length (encL a1.Code)) := hb (.agg [.p (.c (.string a1.Name)), .p (.sl a1.Code.length (encL a1.Code))]) (by simp) (.p (.sl a1.Code.length (encL a1.Code))) (by simp)
  refine at_code mixed Tryd.func94 (by kernel_rfl) rfl (by kernel_rfl) rfl fun Q hQ => ?_
  rw [r08_code] at hs
  repeat (first | simp | with_reducible refine awp_reg ?_ | with_reducible refine And.intro (by omega) ?_ | with_reducible refine optF_if (by omega) ?_)
  refine condK_spec (ltI 64 ((a1.Code.length : Nat) : Int)) (by first | rfl | (simp; done) | (simp [andB, orB, eqI, ltI, Int.natCast_inj]; done)) (fun h1 => ?_) (fun h1 => ?_)
  · replace hs := condT h1 hs
    repeat (first | simp | with_reducible refine awp_reg ?_ | with_reducible refine And.intro (by omega) ?_ | with_reducible refine optF_if (by omega) ?_)
    obtain rfl := Option.some.inj hs
    refine hQ _ _ (ret2g _ (Gh.refl _) (by simp [St.frz, St.pur]; rfl) (by first | rfl | (simp [St.frz, St.pur]; done) | (rw [if_pos (by first | omega | (simp; omega))]; simp [St.frz, St.pur]; first | omega | exact List.take_of_length_le (by simp; omega) | skip)) (by simp))
  · replace hs := condF h1 hs
    repeat (first | simp [-awp_cond_eq, -awp_block_eq] | with_reducible refine awp_reg ?_ | with_reducible refine And.intro (by omega) ?_ | with_reducible refine optF_if (by omega) ?_)
    obtain ⟨o48, e47, hs⟩ := bindO hs
    try dsimp only at hs
    refine awp_cutK (fun (v : Unit) (σ : St) => some (.inl v) = some o48 ∧ 3 ≤ σ.gen) (by rfl) (fun Q hK49 hX50 => ?_) (fun v σ3 hp => ?_)
    · repeat (first | simp | with_reducible refine awp_reg ?_ | with_reducible refine And.intro (by omega) ?_ | with_reducible refine optF_if (by omega) ?_)
      obtain ⟨o76, e75, e47⟩ := bindO e47
      try dsimp only at e47
      refine awp_loopW (fun (v : (List Inst) × Nat) (σ : St) => r08_code_L1 a0 a1 v.1 v.2 = some o76 ∧ v.1 = a1.Code.drop v.2 ∧ σ.env 2 = .cell (.ref (.o 1 0 0) 0) ∧ σ.env 3 = .cell (.ref (.o 1 1 0) 0) ∧ σ.env 6 = iV .i64 ((v.2 : Nat) : Int) ∧ σ.hp (.o 1 0 0) = some (.cells [.p (.sl a0.Vars.length (encL a0.Vars)), .p (.sl a0.Mutexes.length (encL a0.Mutexes)), .p (.sl a0.Conds.length (encL a0.Conds)), .p (.sl a0.Funcs.length (encL a0.Funcs)), .p (.sl a0.Threads.length (encL a0.Threads))]) ∧ σ.hp (.o 1 1 0) = some (.cells [.p (.c (.string a1.Name)), .p (.sl a1.Code.length (encL a1.Code))]) ∧ 3 ≤ σ.gen) (fun v => v.1.length) _ (Gh.refl _) (a1.Code, 0) ⟨e75, by simp, by simp [St.frz, St.pur], by simp [St.frz, St.pur], by simp [St.frz, St.pur], by simp [St.frz, St.pur], by simp [St.frz, St.pur], by first | (simp; done) | (simp; omega) | omega⟩ fun v σ6 hp L77 hL78 => ?_
      obtain ⟨q80, k63⟩ := v
      dsimp only at hp hL78
      obtain ⟨e75, hd79, h5_2, h5_3, h5_6, g5_0, g5_1, n5_g⟩ := hp
      have n5_0 : ¬ (σ6.gen = 0) := by omega
      rcases q80 with _ | ⟨x85, q81⟩
      · have hlt82 := drop_end hd79
        rw [r08_code_L1] at e75; try dsimp only at e75
        repeat (first | simp [h5_2, h5_3, h5_6, g5_0, g5_1, n5_0] | with_reducible refine awp_reg ?_ | with_reducible refine And.intro (by omega) ?_ | with_reducible refine optF_if (by omega) ?_)
        refine condK_f (by simp [ltI]; omega) ?_
        obtain rfl := Option.some.inj e75
        try dsimp only at e47
        exact hK49 () _ _ (Gh.refl _) ⟨e47, by first | (simp; done) | (simp; omega) | omega⟩
      · obtain ⟨hx84, hlt82, hd86⟩ := drop_next hd79
        have ew83 := wrap_succ hlt82 (hb6).len
        rw [r08_code_L1] at e75; try dsimp only at e75
        repeat (first | simp [h5_2, h5_3, h5_6, g5_0, g5_1, n5_0, hlt82, ew83] | with_reducible refine awp_reg ?_ | with_reducible refine And.intro (by omega) ?_ | with_reducible refine optF_if (by omega) ?_)
        refine condK_t (by simp [ltI]; omega) ?_
        have f87 : partCV Tryd.prog 71 (encL a1.Code) (k63 * 8) = some (.agg [.p (.c (.int .i64 x85.Op)), .p (.c (.int .i64 x85.A)), .p (.c (.int .i64 x85.B)), .p (.c (.int .i64 x85.C)), .p (.c (.int .i64 x85.Obj)), .p (.c (.int .i64 x85.N)), .p (.c (.int .i64 x85.Fn)), .p (.c (.int .i64 x85.Order))]) := partCV_enc hx84 (f := 0) (by simp)
        repeat (first | simp [h5_2, h5_3, h5_6, g5_0, g5_1, n5_0, hlt82, ew83, f87] | with_reducible refine awp_reg ?_ | with_reducible refine And.intro (by omega) ?_ | with_reducible refine optF_if (by omega) ?_)
        obtain ⟨y88, hx89, e75⟩ := bindO e75
        try dsimp only at e75
        refine callK_pure (at_r07_Check hx89) (by (first | simp [h5_2, h5_3, h5_6, g5_0, g5_1, n5_0, hlt82, ew83, f87] | simp (disch := omega) [h5_2, h5_3, h5_6, g5_0, g5_1, n5_0, hlt82, ew83, f87]); try rfl) (by simp) (by simp) ?_
        repeat (first | simp [h5_2, h5_3, h5_6, g5_0, g5_1, n5_0, hlt82, ew83, f87] | with_reducible refine awp_reg ?_ | with_reducible refine And.intro (by omega) ?_ | with_reducible refine optF_if (by omega) ?_)
        refine condK_spec (!(eqI y88 0)) (by first | rfl | (simp [h5_2, h5_3, h5_6, g5_0, g5_1, n5_0, hlt82, ew83, f87]; done) | (simp [andB, orB, eqI, ltI, Int.natCast_inj, h5_2, h5_3, h5_6, g5_0, g5_1, n5_0, hlt82, ew83, f87]; done)) (fun h90 => ?_) (fun h90 => ?_)
        · replace e75 := condT h90 e75
          repeat (first | simp [h5_2, h5_3, h5_6, g5_0, g5_1, n5_0, hlt82, ew83, f87] | with_reducible refine awp_reg ?_ | with_reducible refine And.intro (by omega) ?_ | with_reducible refine optF_if (by omega) ?_)
          obtain rfl := Option.some.inj e75
          try dsimp only at e47
          obtain rfl := Option.some.inj e47
          try dsimp only at hs
          refine hX50 _ _ (by simp) ?_
          repeat (first | simp [h5_2, h5_3, h5_6, g5_0, g5_1, n5_0, hlt82, ew83, f87] | with_reducible refine awp_reg ?_ | with_reducible refine And.intro (by omega) ?_ | with_reducible refine optF_if (by omega) ?_)
          obtain rfl := Option.some.inj hs
          refine hQ _ _ (ret2g _ (Gh.refl _) (by simp [St.frz, St.pur, h5_2, h5_3, h5_6, g5_0, g5_1, n5_0, hlt82, ew83, f87]; rfl) (by first | rfl | (simp [St.frz, St.pur, h5_2, h5_3, h5_6, g5_0, g5_1, n5_0, hlt82, ew83, f87]; done) | (rw [if_pos (by first | omega | (simp; omega))]; simp [St.frz, St.pur, h5_2, h5_3, h5_6, g5_0, g5_1, n5_0, hlt82, ew83, f87]; first | omega | exact List.take_of_length_le (by simp; omega) | skip)) (by simp))
        · replace e75 := condF h90 e75
          repeat (first | simp [h5_2, h5_3, h5_6, g5_0, g5_1, n5_0, hlt82, ew83, f87] | with_reducible refine awp_reg ?_ | with_reducible refine And.intro (by omega) ?_ | with_reducible refine optF_if (by omega) ?_)
          obtain ⟨y91, hx92, e75⟩ := bindO e75
          try dsimp only at e75
          refine callK_pure (at_r08_exists hx92) (by (first | simp [h5_2, h5_3, h5_6, g5_0, g5_1, n5_0, hlt82, ew83, f87] | simp (disch := omega) [h5_2, h5_3, h5_6, g5_0, g5_1, n5_0, hlt82, ew83, f87]); try rfl) (by simp) (by simp) ?_
          repeat (first | simp [h5_2, h5_3, h5_6, g5_0, g5_1, n5_0, hlt82, ew83, f87] | with_reducible refine awp_reg ?_ | with_reducible refine And.intro (by omega) ?_ | with_reducible refine optF_if (by omega) ?_)
          refine condK_spec (!y91) (by first | rfl | (simp [h5_2, h5_3, h5_6, g5_0, g5_1, n5_0, hlt82, ew83, f87]; done) | (simp [andB, orB, eqI, ltI, Int.natCast_inj, h5_2, h5_3, h5_6, g5_0, g5_1, n5_0, hlt82, ew83, f87]; done)) (fun h93 => ?_) (fun h93 => ?_)
          · replace e75 := condT h93 e75
            repeat (first | simp [h5_2, h5_3, h5_6, g5_0, g5_1, n5_0, hlt82, ew83, f87] | with_reducible refine awp_reg ?_ | with_reducible refine And.intro (by omega) ?_ | with_reducible refine optF_if (by omega) ?_)
            obtain rfl := Option.some.inj e75
            try dsimp only at e47
            obtain rfl := Option.some.inj e47
            try dsimp only at hs
            refine hX50 _ _ (by simp) ?_
            repeat (first | simp [h5_2, h5_3, h5_6, g5_0, g5_1, n5_0, hlt82, ew83, f87] | with_reducible refine awp_reg ?_ | with_reducible refine And.intro (by omega) ?_ | with_reducible refine optF_if (by omega) ?_)
            obtain rfl := Option.some.inj hs
            refine hQ _ _ (ret2g _ (Gh.refl _) (by simp [St.frz, St.pur, h5_2, h5_3, h5_6, g5_0, g5_1, n5_0, hlt82, ew83, f87]; rfl) (by first | rfl | (simp [St.frz, St.pur, h5_2, h5_3, h5_6, g5_0, g5_1, n5_0, hlt82, ew83, f87]; done) | (rw [if_pos (by first | omega | (simp; omega))]; simp [St.frz, St.pur, h5_2, h5_3, h5_6, g5_0, g5_1, n5_0, hlt82, ew83, f87]; first | omega | exact List.take_of_length_le (by simp; omega) | skip)) (by simp))
          · replace e75 := condF h93 e75
            repeat (first | simp [h5_2, h5_3, h5_6, g5_0, g5_1, n5_0, hlt82, ew83, f87] | with_reducible refine awp_reg ?_ | with_reducible refine And.intro (by omega) ?_ | with_reducible refine optF_if (by omega) ?_ | with_reducible refine gsel_pure (by with_unfolding_all rfl) _ (fun hg => by (try simp at hg); first | (simp [hg, h5_2, h5_3, h5_6, g5_0, g5_1, n5_0, hlt82, ew83, f87]; rfl) | (simp [h5_2, h5_3, h5_6, g5_0, g5_1, n5_0, hlt82, ew83, f87]; simp only [if_pos hg]; simp [h5_2, h5_3, h5_6, g5_0, g5_1, n5_0, hlt82, ew83, f87]; rfl)) ?_)
            refine condK_spec (andB (orB (eqI x85.Op 4) (eqI x85.Op 5)) (orB (ltI x85.N 0) (ltI ((a1.Code.length : Nat) : Int) x85.N))) (by first | rfl | (simp [h5_2, h5_3, h5_6, g5_0, g5_1, n5_0, hlt82, ew83, f87]; done) | (simp [andB, orB, eqI, ltI, Int.natCast_inj, h5_2, h5_3, h5_6, g5_0, g5_1, n5_0, hlt82, ew83, f87]; done)) (fun h94 => ?_) (fun h94 => ?_)
            · replace e75 := condT h94 e75
              repeat (first | simp [h5_2, h5_3, h5_6, g5_0, g5_1, n5_0, hlt82, ew83, f87] | with_reducible refine awp_reg ?_ | with_reducible refine And.intro (by omega) ?_ | with_reducible refine optF_if (by omega) ?_ | with_reducible refine gsel_pure (by with_unfolding_all rfl) _ (fun hg => by (try simp at hg); first | (simp [hg, h5_2, h5_3, h5_6, g5_0, g5_1, n5_0, hlt82, ew83, f87]; rfl) | (simp [h5_2, h5_3, h5_6, g5_0, g5_1, n5_0, hlt82, ew83, f87]; simp only [if_pos hg]; simp [h5_2, h5_3, h5_6, g5_0, g5_1, n5_0, hlt82, ew83, f87]; rfl)) ?_)
              obtain rfl := Option.some.inj e75
              try dsimp only at e47
              obtain rfl := Option.some.inj e47
              try dsimp only at hs
              refine hX50 _ _ (by simp) ?_
              repeat (first | simp [h5_2, h5_3, h5_6, g5_0, g5_1, n5_0, hlt82, ew83, f87] | with_reducible refine awp_reg ?_ | with_reducible refine And.intro (by omega) ?_ | with_reducible refine optF_if (by omega) ?_ | with_reducible refine gsel_pure (by with_unfolding_all rfl) _ (fun hg => by (try simp at hg); first | (simp [hg, h5_2, h5_3, h5_6, g5_0, g5_1, n5_0, hlt82, ew83, f87]; rfl) | (simp [h5_2, h5_3, h5_6, g5_0, g5_1, n5_0, hlt82, ew83, f87]; simp only [if_pos hg]; simp [h5_2, h5_3, h5_6, g5_0, g5_1, n5_0, hlt82, ew83, f87]; rfl)) ?_)
              obtain rfl := Option.some.inj hs
              refine hQ _ _ (ret2g _ (Gh.refl _) (by simp [St.frz, St.pur, h5_2, h5_3, h5_6, g5_0, g5_1, n5_0, hlt82, ew83, f87]; rfl) (by first | rfl | (simp [St.frz, St.pur, h5_2, h5_3, h5_6, g5_0, g5_1, n5_0, hlt82, ew83, f87]; done) | (rw [if_pos (by first | omega | (simp; omega))]; simp [St.frz, St.pur, h5_2, h5_3, h5_6, g5_0, g5_1, n5_0, hlt82, ew83, f87]; first | omega | exact List.take_of_length_le (by simp; omega) | skip)) (by simp))
            · replace e75 := condF h94 e75
              repeat (first | simp [h5_2, h5_3, h5_6, g5_0, g5_1, n5_0, hlt82, ew83, f87] | with_reducible refine awp_reg ?_ | with_reducible refine And.intro (by omega) ?_ | with_reducible refine optF_if (by omega) ?_ | with_reducible refine gsel_pure (by with_unfolding_all rfl) _ (fun hg => by (try simp at hg); first | (simp [hg, h5_2, h5_3, h5_6, g5_0, g5_1, n5_0, hlt82, ew83, f87]; rfl) | (simp [h5_2, h5_3, h5_6, g5_0, g5_1, n5_0, hlt82, ew83, f87]; simp only [if_pos hg]; simp [h5_2, h5_3, h5_6, g5_0, g5_1, n5_0, hlt82, ew83, f87]; rfl)) ?_)
              exact hL78 (q81, (k63 + 1)) _ _ (Gh.refl _) ⟨e75, hd86, by simp [St.frz, St.pur, h5_2, h5_3, h5_6, g5_0, g5_1, n5_0, hlt82, ew83, f87], by simp [St.frz, St.pur, h5_2, h5_3, h5_6, g5_0, g5_1, n5_0, hlt82, ew83, f87], by simp [St.frz, St.pur, h5_2, h5_3, h5_6, g5_0, g5_1, n5_0, hlt82, ew83, f87], by simp [St.frz, St.pur, h5_2, h5_3, h5_6, g5_0, g5_1, n5_0, hlt82, ew83, f87], by simp [St.frz, St.pur, h5_2, h5_3, h5_6, g5_0, g5_1, n5_0, hlt82, ew83, f87], by first | (simp; done) | (simp; omega) | omega⟩ (by simp)
    · obtain ⟨e47, n4_g⟩ := hp
      obtain rfl := Option.some.inj e47
      try dsimp only at hs
      repeat (first | simp | with_reducible refine awp_reg ?_ | with_reducible refine And.intro (by omega) ?_ | with_reducible refine optF_if (by omega) ?_)
      obtain rfl := Option.some.inj hs
      refine hQ _ _ (ret2g _ (Gh.refl _) (by simp [St.frz, St.pur]; rfl) (by first | rfl | (simp [St.frz, St.pur]; done) | (rw [if_pos (by first | omega | (simp; omega))]; simp [St.frz, St.pur]; first | omega | exact List.take_of_length_le (by simp; omega) | skip)) (by simp))
end Go.Dc
end
section
set_option linter.all false
namespace Go.Dc
open Go Go.Hw Go.Proofs
set_option maxRecDepth 100000
def r08_threads_L1 (a0 : Program) : List Start → Nat → Option (Unit ⊕ Int)
  | [], k65 => some (.inl ())
  | x88 :: q84, k65 => cond (orB (ltI x88.Func 0) (!(ltI x88.Func ((a0.Funcs.length : Nat) : Int)))) (some (.inr 11)) (Option.bind (r08_value x88.Arg) (fun y94 => cond (!y94) (some (.inr 2)) (r08_threads_L1 a0 q84 (k65 + 1))))

def r08_threads (a0 : Program) : Option Int :=
  cond (orB (ltI ((a0.Threads.length : Nat) : Int) 1) (ltI 8 ((a0.Threads.length : Nat) : Int))) (some 4) (Option.bind (α := Unit ⊕ Int) (Option.bind (r08_threads_L1 a0 a0.Threads 0) (fun o => match o with | .inl _ => some (.inl ()) | .inr r97 => some (.inr r97))) (fun o => match o with | .inl _ => some 0 | .inr r98 => some r98))

set_option maxHeartbeats 2000000 in
theorem at_r08_threads {a0 : Program} {r : Int} (hs : r08_threads a0 = some r) : At Tryd.prog 95 [.agg [.p (.sl a0.Vars.length (encL a0.Vars)), .p (.sl a0.Mutexes.length (encL a0.Mutexes)), .p (.sl a0.Conds.length (encL a0.Conds)), .p (.sl a0.Funcs.length (encL a0.Funcs)), .p (.sl a0.Threads.length (encL a0.Threads))]] (iV .i64 r) := by
  refine at_bound (by kernel_rfl) fun hb => ?_
  have hb1 : LenOk (.sl a0.Vars.length (encL a0.Vars)) := hb (.agg [.p (.sl a0.Vars.length (encL a0.Vars)), .p (.sl a0.Mutexes.length (encL a0.Mutexes)), .p (.sl a0.Conds.length (encL a0.Conds)), .p (.sl a0.Funcs.length (encL a0.Funcs)), .p (.sl a0.Threads.length (encL a0.Threads))]) (by simp) (.p (.sl a0.Vars.length (encL a0.Vars))) (by simp)
  have hb2 : LenOk (.sl a0.Mutexes.length (encL a0.Mutexes)) := hb (.agg [.p (.sl a0.Vars.length (encL a0.Vars)), .p (.sl a0.Mutexes.length (encL a0.Mutexes)), .p (.sl a0.Conds.length (encL a0.Conds)), .p (.sl a0.Funcs.length (encL a0.Funcs)), .p (.sl a0.Threads.length (encL a0.Threads))]) (by simp) (.p (.sl a0.Mutexes.length (encL a0.Mutexes))) (by simp)
  have hb3 : LenOk (.sl a0.Conds.length (encL a0.Conds)) := hb (.agg [.p (.sl a0.Vars.length (encL a0.Vars)), .p (.sl a0.Mutexes.length (encL a0.Mutexes)), .p (.sl a0.Conds.length (encL a0.Conds)), .p (.sl a0.Funcs.length (encL a0.Funcs)), .p (.sl a0.Threads.length (encL a0.Threads))]) (by simp) (.p (.sl a0.Conds.length (encL a0.Conds))) (by simp)
  have hb4 : LenOk (.sl a0.Funcs.length (encL a0.Funcs)) := hb (.agg [.p (.sl a0.Vars.length (encL a0.Vars)), .p (.sl a0.Mutexes.length (encL a0.Mutexes)), .p (.sl a0.Conds.length (encL a0.Conds)), .p (.sl a0.Funcs.length (encL a0.Funcs)), .p (.sl a0.Threads.length (encL a0.Threads))]) (by simp) (.p (.sl a0.Funcs.length (encL a0.Funcs))) (by simp)
  have hb5 : LenOk (.sl a0.Threads.length (encL a0.Threads)) := hb (.agg [.p (.sl a0.Vars.length (encL a0.Vars)), .p (.sl a0.Mutexes.length (encL a0.Mutexes)), .p (.sl a0.Conds.length (encL a0.Conds)), .p (.sl a0.Funcs.length (encL a0.Funcs)), .p (.sl a0.Threads.length (encL a0.Threads))]) (by simp) (.p (.sl a0.Threads.length (encL a0.Threads))) (by simp)
  refine at_code mixed Tryd.func95 (by kernel_rfl) rfl (by kernel_rfl) rfl fun Q hQ => ?_
  rw [r08_threads] at hs
  repeat (first | simp | with_reducible refine awp_reg ?_ | with_reducible refine And.intro (by omega) ?_ | with_reducible refine optF_if (by omega) ?_ | with_reducible refine gsel_pure (by with_unfolding_all rfl) _ (fun hg => by (try simp at hg); first | (simp [hg]; rfl) | (simp; simp only [if_pos hg]; simp; rfl)) ?_)
  refine condK_spec (orB (ltI ((a0.Threads.length : Nat) : Int) 1) (ltI 8 ((a0.Threads.length : Nat) : Int))) (by first | rfl | (simp; done) | (simp [andB, orB, eqI, ltI, Int.natCast_inj]; done)) (fun h1 => ?_) (fun h1 => ?_)
  · replace hs := condT h1 hs
    repeat (first | simp | with_reducible refine awp_reg ?_ | with_reducible refine And.intro (by omega) ?_ | with_reducible refine optF_if (by omega) ?_ | with_reducible refine gsel_pure (by with_unfolding_all rfl) _ (fun hg => by (try simp at hg); first | (simp [hg]; rfl) | (simp; simp only [if_pos hg]; simp; rfl)) ?_)
    obtain rfl := Option.some.inj hs
    refine hQ _ _ (ret2g _ (Gh.refl _) (by simp [St.frz, St.pur]; rfl) (by first | rfl | (simp [St.frz, St.pur]; done) | (rw [if_pos (by first | omega | (simp; omega))]; simp [St.frz, St.pur]; first | omega | exact List.take_of_length_le (by simp; omega) | skip)) (by simp))
  · replace hs := condF h1 hs
    repeat (first | simp [-awp_cond_eq, -awp_block_eq] | with_reducible refine awp_reg ?_ | with_reducible refine And.intro (by omega) ?_ | with_reducible refine optF_if (by omega) ?_ | with_reducible refine gsel_pure (by with_unfolding_all rfl) _ (fun hg => by (try simp at hg); first | (simp [hg]; rfl) | (simp; simp only [if_pos hg]; simp; rfl)) ?_)
    obtain ⟨o49, e48, hs⟩ := bindO hs
    try dsimp only at hs
    refine awp_cutK (fun (v : Unit) (σ : St) => some (.inl v) = some o49 ∧ 3 ≤ σ.gen) (by rfl) (fun Q hK50 hX51 => ?_) (fun v σ3 hp => ?_)
    · repeat (first | simp | with_reducible refine awp_reg ?_ | with_reducible refine And.intro (by omega) ?_ | with_reducible refine optF_if (by omega) ?_ | with_reducible refine gsel_pure (by with_unfolding_all rfl) _ (fun hg => by (try simp at hg); first | (simp [hg]; rfl) | (simp; simp only [if_pos hg]; simp; rfl)) ?_)
      obtain ⟨o79, e78, e48⟩ := bindO e48
      try dsimp only at e48
      refine awp_loopW (fun (v : (List Start) × Nat) (σ : St) => r08_threads_L1 a0 v.1 v.2 = some o79 ∧ v.1 = a0.Threads.drop v.2 ∧ σ.env 1 = .cell (.ref (.o 1 0 0) 0) ∧ σ.env 3 = iV .i64 ((v.2 : Nat) : Int) ∧ σ.hp (.o 1 0 0) = some (.cells [.p (.sl a0.Vars.length (encL a0.Vars)), .p (.sl a0.Mutexes.length (encL a0.Mutexes)), .p (.sl a0.Conds.length (encL a0.Conds)), .p (.sl a0.Funcs.length (encL a0.Funcs)), .p (.sl a0.Threads.length (encL a0.Threads))]) ∧ 3 ≤ σ.gen) (fun v => v.1.length) _ (Gh.refl _) (a0.Threads, 0) ⟨e78, by simp, by simp [St.frz, St.pur], by simp [St.frz, St.pur], by simp [St.frz, St.pur], by first | (simp; done) | (simp; omega) | omega⟩ fun v σ6 hp L80 hL81 => ?_
      obtain ⟨q83, k65⟩ := v
      dsimp only at hp hL81
      obtain ⟨e78, hd82, h5_1, h5_3, g5_0, n5_g⟩ := hp
      have n5_0 : ¬ (σ6.gen = 0) := by omega
      rcases q83 with _ | ⟨x88, q84⟩
      · have hlt85 := drop_end hd82
        rw [r08_threads_L1] at e78; try dsimp only at e78
        repeat (first | simp [h5_1, h5_3, g5_0, n5_0] | with_reducible refine awp_reg ?_ | with_reducible refine And.intro (by omega) ?_ | with_reducible refine optF_if (by omega) ?_)
        refine condK_f (by simp [ltI]; omega) ?_
        obtain rfl := Option.some.inj e78
        try dsimp only at e48
        exact hK50 () _ _ (Gh.refl _) ⟨e48, by first | (simp; done) | (simp; omega) | omega⟩
      · obtain ⟨hx87, hlt85, hd89⟩ := drop_next hd82
        have ew86 := wrap_succ hlt85 (hb5).len
        rw [r08_threads_L1] at e78; try dsimp only at e78
        repeat (first | simp [h5_1, h5_3, g5_0, n5_0, hlt85, ew86] | with_reducible refine awp_reg ?_ | with_reducible refine And.intro (by omega) ?_ | with_reducible refine optF_if (by omega) ?_)
        refine condK_t (by simp [ltI]; omega) ?_
        have f91 : partCV Tryd.prog 3 (encL a0.Threads) (k65 * 2) = some (iV .i64 x88.Func) := partCV_enc hx87 (f := 0) (by simp)
        repeat (first | simp [h5_1, h5_3, g5_0, n5_0, hlt85, ew86, f91] | with_reducible refine awp_reg ?_ | with_reducible refine awp_draw ?_ | with_reducible refine ord_l (by kernel_rfl) ?_ | with_reducible refine ord_e (by kernel_rfl) ?_ | with_reducible refine ord_c (by kernel_rfl) ?_ | with_reducible refine ord_d (by kernel_rfl) ?_ | with_reducible refine And.intro (by omega) ?_ | with_reducible refine optF_if (by omega) ?_ | with_reducible refine gsel_pure (by with_unfolding_all rfl) _ (fun hg => by (try simp at hg); first | (simp [hg, h5_1, h5_3, g5_0, n5_0, hlt85, ew86, f91]; rfl) | (simp [h5_1, h5_3, g5_0, n5_0, hlt85, ew86, f91]; simp only [if_pos hg]; simp [h5_1, h5_3, g5_0, n5_0, hlt85, ew86, f91]; rfl)) ?_ | with_reducible refine dskip_intro ?_ | with_reducible refine dsel_pure (by with_unfolding_all rfl) _ (fun hg => by (try simp at hg); simp [hg, h5_1, h5_3, g5_0, n5_0, hlt85, ew86, f91]; rfl) ?_)
        refine condK_spec (orB (ltI x88.Func 0) (!(ltI x88.Func ((a0.Funcs.length : Nat) : Int)))) (by first | rfl | (simp [h5_1, h5_3, g5_0, n5_0, hlt85, ew86, f91]; done) | (simp [andB, orB, eqI, ltI, Int.natCast_inj, h5_1, h5_3, g5_0, n5_0, hlt85, ew86, f91]; done)) (fun h92 => ?_) (fun h92 => ?_)
        · replace e78 := condT h92 e78
          repeat (first | simp [h5_1, h5_3, g5_0, n5_0, hlt85, ew86, f91] | with_reducible refine awp_reg ?_ | with_reducible refine awp_draw ?_ | with_reducible refine ord_l (by kernel_rfl) ?_ | with_reducible refine ord_e (by kernel_rfl) ?_ | with_reducible refine ord_c (by kernel_rfl) ?_ | with_reducible refine ord_d (by kernel_rfl) ?_ | with_reducible refine And.intro (by omega) ?_ | with_reducible refine optF_if (by omega) ?_ | with_reducible refine gsel_pure (by with_unfolding_all rfl) _ (fun hg => by (try simp at hg); first | (simp [hg, h5_1, h5_3, g5_0, n5_0, hlt85, ew86, f91]; rfl) | (simp [h5_1, h5_3, g5_0, n5_0, hlt85, ew86, f91]; simp only [if_pos hg]; simp [h5_1, h5_3, g5_0, n5_0, hlt85, ew86, f91]; rfl)) ?_ | with_reducible refine dskip_intro ?_ | with_reducible refine dsel_pure (by with_unfolding_all rfl) _ (fun hg => by (try simp at hg); simp [hg, h5_1, h5_3, g5_0, n5_0, hlt85, ew86, f91]; rfl) ?_)
          obtain rfl := Option.some.inj e78
          try dsimp only at e48
          obtain rfl := Option.some.inj e48
          try dsimp only at hs
          refine hX51 _ _ (by simp) ?_
          repeat (first | simp [h5_1, h5_3, g5_0, n5_0, hlt85, ew86, f91] | with_reducible refine awp_reg ?_ | with_reducible refine awp_draw ?_ | with_reducible refine ord_l (by kernel_rfl) ?_ | with_reducible refine ord_e (by kernel_rfl) ?_ | with_reducible refine ord_c (by kernel_rfl) ?_ | with_reducible refine ord_d (by kernel_rfl) ?_ | with_reducible refine And.intro (by omega) ?_ | with_reducible refine optF_if (by omega) ?_ | with_reducible refine gsel_pure (by with_unfolding_all rfl) _ (fun hg => by (try simp at hg); first | (simp [hg, h5_1, h5_3, g5_0, n5_0, hlt85, ew86, f91]; rfl) | (simp [h5_1, h5_3, g5_0, n5_0, hlt85, ew86, f91]; simp only [if_pos hg]; simp [h5_1, h5_3, g5_0, n5_0, hlt85, ew86, f91]; rfl)) ?_ | with_reducible refine dskip_intro ?_ | with_reducible refine dsel_pure (by with_unfolding_all rfl) _ (fun hg => by (try simp at hg); simp [hg, h5_1, h5_3, g5_0, n5_0, hlt85, ew86, f91]; rfl) ?_)
          obtain rfl := Option.some.inj hs
          refine hQ _ _ (ret2g _ (Gh.refl _) (by simp [St.frz, St.pur, h5_1, h5_3, g5_0, n5_0, hlt85, ew86, f91]; rfl) (by first | rfl | (simp [St.frz, St.pur, h5_1, h5_3, g5_0, n5_0, hlt85, ew86, f91]; done) | (rw [if_pos (by first | omega | (simp; omega))]; simp [St.frz, St.pur, h5_1, h5_3, g5_0, n5_0, hlt85, ew86, f91]; first | omega | exact List.take_of_length_le (by simp; omega) | skip)) (by simp))
        · replace e78 := condF h92 e78
          have f93 : partCV Tryd.prog 3 (encL a0.Threads) (k65 * 2 + 1) = some (iV .i64 x88.Arg) := partCV_enc hx87 (f := 1) (by simp)
          repeat (first | simp [h5_1, h5_3, g5_0, n5_0, hlt85, ew86, f91, f93] | with_reducible refine awp_reg ?_ | with_reducible refine awp_draw ?_ | with_reducible refine ord_l (by kernel_rfl) ?_ | with_reducible refine ord_e (by kernel_rfl) ?_ | with_reducible refine ord_c (by kernel_rfl) ?_ | with_reducible refine ord_d (by kernel_rfl) ?_ | with_reducible refine And.intro (by omega) ?_ | with_reducible refine optF_if (by omega) ?_ | with_reducible refine gsel_pure (by with_unfolding_all rfl) _ (fun hg => by (try simp at hg); first | (simp [hg, h5_1, h5_3, g5_0, n5_0, hlt85, ew86, f91, f93]; rfl) | (simp [h5_1, h5_3, g5_0, n5_0, hlt85, ew86, f91, f93]; simp only [if_pos hg]; simp [h5_1, h5_3, g5_0, n5_0, hlt85, ew86, f91, f93]; rfl)) ?_ | with_reducible refine dskip_intro ?_ | with_reducible refine dsel_pure (by with_unfolding_all rfl) _ (fun hg => by (try simp at hg); simp [hg, h5_1, h5_3, g5_0, n5_0, hlt85, ew86, f91, f93]; rfl) ?_)
          obtain ⟨y94, hx95, e78⟩ := bindO e78
          try dsimp only at e78
          refine callK_pure (at_r08_value hx95) (by (first | simp [h5_1, h5_3, g5_0, n5_0, hlt85, ew86, f91, f93] | simp (disch := omega) [h5_1, h5_3, g5_0, n5_0, hlt85, ew86, f91, f93]); try rfl) (by simp) (by simp) ?_
          repeat (first | simp [h5_1, h5_3, g5_0, n5_0, hlt85, ew86, f91, f93] | with_reducible refine awp_reg ?_ | with_reducible refine awp_draw ?_ | with_reducible refine ord_l (by kernel_rfl) ?_ | with_reducible refine ord_e (by kernel_rfl) ?_ | with_reducible refine ord_c (by kernel_rfl) ?_ | with_reducible refine ord_d (by kernel_rfl) ?_ | with_reducible refine And.intro (by omega) ?_ | with_reducible refine optF_if (by omega) ?_ | with_reducible refine gsel_pure (by with_unfolding_all rfl) _ (fun hg => by (try simp at hg); first | (simp [hg, h5_1, h5_3, g5_0, n5_0, hlt85, ew86, f91, f93]; rfl) | (simp [h5_1, h5_3, g5_0, n5_0, hlt85, ew86, f91, f93]; simp only [if_pos hg]; simp [h5_1, h5_3, g5_0, n5_0, hlt85, ew86, f91, f93]; rfl)) ?_ | with_reducible refine dskip_intro ?_ | with_reducible refine dsel_pure (by with_unfolding_all rfl) _ (fun hg => by (try simp at hg); simp [hg, h5_1, h5_3, g5_0, n5_0, hlt85, ew86, f91, f93]; rfl) ?_)
          refine condK_spec (!y94) (by first | rfl | (simp [h5_1, h5_3, g5_0, n5_0, hlt85, ew86, f91, f93]; done) | (simp [andB, orB, eqI, ltI, Int.natCast_inj, h5_1, h5_3, g5_0, n5_0, hlt85, ew86, f91, f93]; done)) (fun h96 => ?_) (fun h96 => ?_)
          · replace e78 := condT h96 e78
            repeat (first | simp [h5_1, h5_3, g5_0, n5_0, hlt85, ew86, f91, f93] | with_reducible refine awp_reg ?_ | with_reducible refine awp_draw ?_ | with_reducible refine ord_l (by kernel_rfl) ?_ | with_reducible refine ord_e (by kernel_rfl) ?_ | with_reducible refine ord_c (by kernel_rfl) ?_ | with_reducible refine ord_d (by kernel_rfl) ?_ | with_reducible refine And.intro (by omega) ?_ | with_reducible refine optF_if (by omega) ?_ | with_reducible refine gsel_pure (by with_unfolding_all rfl) _ (fun hg => by (try simp at hg); first | (simp [hg, h5_1, h5_3, g5_0, n5_0, hlt85, ew86, f91, f93]; rfl) | (simp [h5_1, h5_3, g5_0, n5_0, hlt85, ew86, f91, f93]; simp only [if_pos hg]; simp [h5_1, h5_3, g5_0, n5_0, hlt85, ew86, f91, f93]; rfl)) ?_ | with_reducible refine dskip_intro ?_ | with_reducible refine dsel_pure (by with_unfolding_all rfl) _ (fun hg => by (try simp at hg); simp [hg, h5_1, h5_3, g5_0, n5_0, hlt85, ew86, f91, f93]; rfl) ?_)
            obtain rfl := Option.some.inj e78
            try dsimp only at e48
            obtain rfl := Option.some.inj e48
            try dsimp only at hs
            refine hX51 _ _ (by simp) ?_
            repeat (first | simp [h5_1, h5_3, g5_0, n5_0, hlt85, ew86, f91, f93] | with_reducible refine awp_reg ?_ | with_reducible refine awp_draw ?_ | with_reducible refine ord_l (by kernel_rfl) ?_ | with_reducible refine ord_e (by kernel_rfl) ?_ | with_reducible refine ord_c (by kernel_rfl) ?_ | with_reducible refine ord_d (by kernel_rfl) ?_ | with_reducible refine And.intro (by omega) ?_ | with_reducible refine optF_if (by omega) ?_ | with_reducible refine gsel_pure (by with_unfolding_all rfl) _ (fun hg => by (try simp at hg); first | (simp [hg, h5_1, h5_3, g5_0, n5_0, hlt85, ew86, f91, f93]; rfl) | (simp [h5_1, h5_3, g5_0, n5_0, hlt85, ew86, f91, f93]; simp only [if_pos hg]; simp [h5_1, h5_3, g5_0, n5_0, hlt85, ew86, f91, f93]; rfl)) ?_ | with_reducible refine dskip_intro ?_ | with_reducible refine dsel_pure (by with_unfolding_all rfl) _ (fun hg => by (try simp at hg); simp [hg, h5_1, h5_3, g5_0, n5_0, hlt85, ew86, f91, f93]; rfl) ?_)
            obtain rfl := Option.some.inj hs
            refine hQ _ _ (ret2g _ (Gh.refl _) (by simp [St.frz, St.pur, h5_1, h5_3, g5_0, n5_0, hlt85, ew86, f91, f93]; rfl) (by first | rfl | (simp [St.frz, St.pur, h5_1, h5_3, g5_0, n5_0, hlt85, ew86, f91, f93]; done) | (rw [if_pos (by first | omega | (simp; omega))]; simp [St.frz, St.pur, h5_1, h5_3, g5_0, n5_0, hlt85, ew86, f91, f93]; first | omega | exact List.take_of_length_le (by simp; omega) | skip)) (by simp))
          · replace e78 := condF h96 e78
            repeat (first | simp [h5_1, h5_3, g5_0, n5_0, hlt85, ew86, f91, f93] | with_reducible refine awp_reg ?_ | with_reducible refine awp_draw ?_ | with_reducible refine ord_l (by kernel_rfl) ?_ | with_reducible refine ord_e (by kernel_rfl) ?_ | with_reducible refine ord_c (by kernel_rfl) ?_ | with_reducible refine ord_d (by kernel_rfl) ?_ | with_reducible refine And.intro (by omega) ?_ | with_reducible refine optF_if (by omega) ?_ | with_reducible refine gsel_pure (by with_unfolding_all rfl) _ (fun hg => by (try simp at hg); first | (simp [hg, h5_1, h5_3, g5_0, n5_0, hlt85, ew86, f91, f93]; rfl) | (simp [h5_1, h5_3, g5_0, n5_0, hlt85, ew86, f91, f93]; simp only [if_pos hg]; simp [h5_1, h5_3, g5_0, n5_0, hlt85, ew86, f91, f93]; rfl)) ?_ | with_reducible refine dskip_intro ?_ | with_reducible refine dsel_pure (by with_unfolding_all rfl) _ (fun hg => by (try simp at hg); simp [hg, h5_1, h5_3, g5_0, n5_0, hlt85, ew86, f91, f93]; rfl) ?_)
            exact hL81 (q84, (k65 + 1)) _ _ (Gh.refl _) ⟨e78, hd89, by simp [St.frz, St.pur, h5_1, h5_3, g5_0, n5_0, hlt85, ew86, f91, f93], by simp [St.frz, St.pur, h5_1, h5_3, g5_0, n5_0, hlt85, ew86, f91, f93], by simp [St.frz, St.pur, h5_1, h5_3, g5_0, n5_0, hlt85, ew86, f91, f93], by first | (simp; done) | (simp; omega) | omega⟩ (by simp)
    · obtain ⟨e48, n4_g⟩ := hp
      obtain rfl := Option.some.inj e48
      try dsimp only at hs
      repeat (first | simp | with_reducible refine awp_reg ?_ | with_reducible refine And.intro (by omega) ?_ | with_reducible refine optF_if (by omega) ?_ | with_reducible refine gsel_pure (by with_unfolding_all rfl) _ (fun hg => by (try simp at hg); first | (simp [hg]; rfl) | (simp; simp only [if_pos hg]; simp; rfl)) ?_)
      obtain rfl := Option.some.inj hs
      refine hQ _ _ (ret2g _ (Gh.refl _) (by simp [St.frz, St.pur]; rfl) (by first | rfl | (simp [St.frz, St.pur]; done) | (rw [if_pos (by first | omega | (simp; omega))]; simp [St.frz, St.pur]; first | omega | exact List.take_of_length_le (by simp; omega) | skip)) (by simp))
end Go.Dc
end
section
set_option linter.all false
namespace Go.Dc
open Go Go.Hw Go.Proofs
set_option maxRecDepth 100000
def r08_Check_L1 : List Var → Nat → Option (Unit ⊕ (Int × Int × Int))
  | [], k61 => some (.inl ())
  | x79 :: q75, k61 => Option.bind (r08_value x79.Init) (fun y82 => cond (!y82) (some (.inr (2, (-1), (-1)))) (r08_Check_L1 q75 (k61 + 1)))

def r08_Check_L2 (a0 : Program) : List Func → Nat → Option (Unit ⊕ (Int × Int × Int))
  | [], k149 => some (.inl ())
  | x172 :: q168, k149 => Option.bind (r08_code a0 x172) (fun y178 => cond (!(eqI y178.1 0)) (some (.inr (y178.1, ((k149 : Nat) : Int), y178.2))) (r08_Check_L2 a0 q168 (k149 + 1)))

def r08_Check (fuelN : Nat) (a0 : Program) : Option (Int × Int × Int) :=
  Option.bind (r08_lists a0) (fun y1 => Option.bind (r08_names fuelN y1.1) (fun y3 => cond (!(eqI y3.2 0)) (some (y3.2, (-1), (-1))) (Option.bind (r08_names fuelN a0.Mutexes) (fun y6 => cond (!(eqI y6.2 0)) (some (y6.2, (-1), (-1))) (Option.bind (r08_names fuelN a0.Conds) (fun y9 => cond (!(eqI y9.2 0)) (some (y9.2, (-1), (-1))) (Option.bind (r08_names fuelN y1.2) (fun y12 => cond (!(eqI y12.2 0)) (some (y12.2, y12.1, (-1))) (cond (orB (orB (orB (ltI 8 ((a0.Vars.length : Nat) : Int)) (ltI 4 ((a0.Mutexes.length : Nat) : Int))) (ltI 4 ((a0.Conds.length : Nat) : Int))) (ltI 8 ((a0.Funcs.length : Nat) : Int))) (some (4, (-1), (-1))) (Option.bind (α := Unit ⊕ (Int × Int × Int)) (Option.bind (r08_Check_L1 a0.Vars 0) (fun o => match o with | .inl _ => some (.inl ()) | .inr r85 => some (.inr r85))) (fun o => match o with | .inl _ => Option.bind (α := Unit ⊕ (Int × Int × Int)) (Option.bind (r08_Check_L2 a0 a0.Funcs 0) (fun o => match o with | .inl _ => some (.inl ()) | .inr r181 => some (.inr r181))) (fun o => match o with | .inl _ => Option.bind (r08_threads a0) (fun y182 => some (y182, (-1), (-1))) | .inr r184 => some r184) | .inr r185 => some r185)))))))))))

set_option maxHeartbeats 2000000 in
theorem at_r08_Check {fuelN : Nat} {a0 : Program} {r : Int × Int × Int} (hs : r08_Check fuelN a0 = some r) : At Tryd.prog 66 [.agg [.p (.sl a0.Vars.length (encL a0.Vars)), .p (.sl a0.Mutexes.length (encL a0.Mutexes)), .p (.sl a0.Conds.length (encL a0.Conds)), .p (.sl a0.Funcs.length (encL a0.Funcs)), .p (.sl a0.Threads.length (encL a0.Threads))]] (.tup [iV .i64 r.1, iV .i64 r.2.1, iV .i64 r.2.2]) := by
  refine at_bound (by kernel_rfl) fun hb => ?_
  have hb1 : LenOk (.sl a0.Vars.length (encL a0.Vars)) := hb (.agg [.p (.sl a0.Vars.length (encL a0.Vars)), .p (.sl a0.Mutexes.length (encL a0.Mutexes)), .p (.sl a0.Conds.length (encL a0.Conds)), .p (.sl a0.Funcs.length (encL a0.Funcs)), .p (.sl a0.Threads.length (encL a0.Threads))]) (by simp) (.p (.sl a0.Vars.length (encL a0.Vars))) (by simp)
  have hb2 : LenOk (.sl a0.Mutexes.length (encL a0.Mutexes)) := hb (.agg [.p (.sl a0.Vars.length (encL a0.Vars)), .p (.sl a0.Mutexes.length (encL a0.Mutexes)), .p (.sl a0.Conds.length (encL a0.Conds)), .p (.sl a0.Funcs.length (encL a0.Funcs)), .p (.sl a0.Threads.length (encL a0.Threads))]) (by simp) (.p (.sl a0.Mutexes.length (encL a0.Mutexes))) (by simp)
  have hb3 : LenOk (.sl a0.Conds.length (encL a0.Conds)) := hb (.agg [.p (.sl a0.Vars.length (encL a0.Vars)), .p (.sl a0.Mutexes.length (encL a0.Mutexes)), .p (.sl a0.Conds.length (encL a0.Conds)), .p (.sl a0.Funcs.length (encL a0.Funcs)), .p (.sl a0.Threads.length (encL a0.Threads))]) (by simp) (.p (.sl a0.Conds.length (encL a0.Conds))) (by simp)
  have hb4 : LenOk (.sl a0.Funcs.length (encL a0.Funcs)) := hb (.agg [.p (.sl a0.Vars.length (encL a0.Vars)), .p (.sl a0.Mutexes.length (encL a0.Mutexes)), .p (.sl a0.Conds.length (encL a0.Conds)), .p (.sl a0.Funcs.length (encL a0.Funcs)), .p (.sl a0.Threads.length (encL a0.Threads))]) (by simp) (.p (.sl a0.Funcs.length (encL a0.Funcs))) (by simp)
  have hb5 : LenOk (.sl a0.Threads.length (encL a0.Threads)) := hb (.agg [.p (.sl a0.Vars.length (encL a0.Vars)), .p (.sl a0.Mutexes.length (encL a0.Mutexes)), .p (.sl a0.Conds.length (encL a0.Conds)), .p (.sl a0.Funcs.length (encL a0.Funcs)), .p (.sl a0.Threads.length (encL a0.Threads))]) (by simp) (.p (.sl a0.Threads.length (encL a0.Threads))) (by simp)
  refine at_code mixed Tryd.func66 (by kernel_rfl) rfl (by kernel_rfl) rfl fun Q hQ => ?_
  rw [r08_Check] at hs
  repeat (first | simp | with_reducible refine awp_reg ?_ | with_reducible refine And.intro (by omega) ?_ | with_reducible refine optF_if (by omega) ?_)
  obtain ⟨y1, hx2, hs⟩ := bindO hs
  try dsimp only at hs
  refine callK_pure (at_r08_lists hx2) (by (first | simp | simp (disch := omega) []); try rfl) (by simp) (by simp) ?_
  repeat (first | simp | with_reducible refine awp_reg ?_ | with_reducible refine And.intro (by omega) ?_ | with_reducible refine optF_if (by omega) ?_)
  obtain ⟨y3, hx4, hs⟩ := bindO hs
  try dsimp only at hs
  refine callK_pure (at_r08_names hx4) (by (first | simp | simp (disch := omega) []); try rfl) (by simp) (by simp) ?_
  repeat (first | simp | with_reducible refine awp_reg ?_ | with_reducible refine And.intro (by omega) ?_ | with_reducible refine optF_if (by omega) ?_)
  refine condK_spec (!(eqI y3.2 0)) (by first | rfl | (simp; done) | (simp [andB, orB, eqI, ltI, Int.natCast_inj]; done)) (fun h5 => ?_) (fun h5 => ?_)
  · replace hs := condT h5 hs
    repeat (first | simp | with_reducible refine awp_reg ?_ | with_reducible refine And.intro (by omega) ?_ | with_reducible refine optF_if (by omega) ?_)
    obtain rfl := Option.some.inj hs
    refine hQ _ _ (ret2g _ (Gh.refl _) (by simp [St.frz, St.pur]; rfl) (by first | rfl | (simp [St.frz, St.pur]; done) | (rw [if_pos (by first | omega | (simp; omega))]; simp [St.frz, St.pur]; first | omega | exact List.take_of_length_le (by simp; omega) | skip)) (by simp))
  · replace hs := condF h5 hs
    repeat (first | simp | with_reducible refine awp_reg ?_ | with_reducible refine And.intro (by omega) ?_ | with_reducible refine optF_if (by omega) ?_)
    obtain ⟨y6, hx7, hs⟩ := bindO hs
    try dsimp only at hs
    refine callK_pure (at_r08_names hx7) (by (first | simp | simp (disch := omega) []); try rfl) (by simp) (by simp) ?_
    repeat (first | simp | with_reducible refine awp_reg ?_ | with_reducible refine And.intro (by omega) ?_ | with_reducible refine optF_if (by omega) ?_)
    refine condK_spec (!(eqI y6.2 0)) (by first | rfl | (simp; done) | (simp [andB, orB, eqI, ltI, Int.natCast_inj]; done)) (fun h8 => ?_) (fun h8 => ?_)
    · replace hs := condT h8 hs
      repeat (first | simp | with_reducible refine awp_reg ?_ | with_reducible refine And.intro (by omega) ?_ | with_reducible refine optF_if (by omega) ?_)
      obtain rfl := Option.some.inj hs
      refine hQ _ _ (ret2g _ (Gh.refl _) (by simp [St.frz, St.pur]; rfl) (by first | rfl | (simp [St.frz, St.pur]; done) | (rw [if_pos (by first | omega | (simp; omega))]; simp [St.frz, St.pur]; first | omega | exact List.take_of_length_le (by simp; omega) | skip)) (by simp))
    · replace hs := condF h8 hs
      repeat (first | simp | with_reducible refine awp_reg ?_ | with_reducible refine And.intro (by omega) ?_ | with_reducible refine optF_if (by omega) ?_)
      obtain ⟨y9, hx10, hs⟩ := bindO hs
      try dsimp only at hs
      refine callK_pure (at_r08_names hx10) (by (first | simp | simp (disch := omega) []); try rfl) (by simp) (by simp) ?_
      repeat (first | simp | with_reducible refine awp_reg ?_ | with_reducible refine And.intro (by omega) ?_ | with_reducible refine optF_if (by omega) ?_)
      refine condK_spec (!(eqI y9.2 0)) (by first | rfl | (simp; done) | (simp [andB, orB, eqI, ltI, Int.natCast_inj]; done)) (fun h11 => ?_) (fun h11 => ?_)
      · replace hs := condT h11 hs
        repeat (first | simp | with_reducible refine awp_reg ?_ | with_reducible refine And.intro (by omega) ?_ | with_reducible refine optF_if (by omega) ?_)
        obtain rfl := Option.some.inj hs
        refine hQ _ _ (ret2g _ (Gh.refl _) (by simp [St.frz, St.pur]; rfl) (by first | rfl | (simp [St.frz, St.pur]; done) | (rw [if_pos (by first | omega | (simp; omega))]; simp [St.frz, St.pur]; first | omega | exact List.take_of_length_le (by simp; omega) | skip)) (by simp))
      · replace hs := condF h11 hs
        repeat (first | simp | with_reducible refine awp_reg ?_ | with_reducible refine And.intro (by omega) ?_ | with_reducible refine optF_if (by omega) ?_)
        obtain ⟨y12, hx13, hs⟩ := bindO hs
        try dsimp only at hs
        refine callK_pure (at_r08_names hx13) (by (first | simp | simp (disch := omega) []); try rfl) (by simp) (by simp) ?_
        repeat (first | simp | with_reducible refine awp_reg ?_ | with_reducible refine And.intro (by omega) ?_ | with_reducible refine optF_if (by omega) ?_)
        refine condK_spec (!(eqI y12.2 0)) (by first | rfl | (simp; done) | (simp [andB, orB, eqI, ltI, Int.natCast_inj]; done)) (fun h14 => ?_) (fun h14 => ?_)
        · replace hs := condT h14 hs
          repeat (first | simp | with_reducible refine awp_reg ?_ | with_reducible refine And.intro (by omega) ?_ | with_reducible refine optF_if (by omega) ?_)
          obtain rfl := Option.some.inj hs
          refine hQ _ _ (ret2g _ (Gh.refl _) (by simp [St.frz, St.pur]; rfl) (by first | rfl | (simp [St.frz, St.pur]; done) | (rw [if_pos (by first | omega | (simp; omega))]; simp [St.frz, St.pur]; first | omega | exact List.take_of_length_le (by simp; omega) | skip)) (by simp))
        · replace hs := condF h14 hs
          repeat (first | simp | with_reducible refine awp_reg ?_ | with_reducible refine And.intro (by omega) ?_ | with_reducible refine optF_if (by omega) ?_ | with_reducible refine gsel_pure (by with_unfolding_all rfl) _ (fun hg => by (try simp at hg); first | (simp [hg]; rfl) | (simp; simp only [if_pos hg]; simp; rfl)) ?_)
          refine condK_spec (orB (orB (orB (ltI 8 ((a0.Vars.length : Nat) : Int)) (ltI 4 ((a0.Mutexes.length : Nat) : Int))) (ltI 4 ((a0.Conds.length : Nat) : Int))) (ltI 8 ((a0.Funcs.length : Nat) : Int))) (by first | rfl | (simp; done) | (simp [andB, orB, eqI, ltI, Int.natCast_inj]; done)) (fun h15 => ?_) (fun h15 => ?_)
          · replace hs := condT h15 hs
            repeat (first | simp | with_reducible refine awp_reg ?_ | with_reducible refine And.intro (by omega) ?_ | with_reducible refine optF_if (by omega) ?_ | with_reducible refine gsel_pure (by with_unfolding_all rfl) _ (fun hg => by (try simp at hg); first | (simp [hg]; rfl) | (simp; simp only [if_pos hg]; simp; rfl)) ?_)
            obtain rfl := Option.some.inj hs
            refine hQ _ _ (ret2g _ (Gh.refl _) (by simp [St.frz, St.pur]; rfl) (by first | rfl | (simp [St.frz, St.pur]; done) | (rw [if_pos (by first | omega | (simp; omega))]; simp [St.frz, St.pur]; first | omega | exact List.take_of_length_le (by simp; omega) | skip)) (by simp))
          · replace hs := condF h15 hs
            repeat (first | simp [-awp_cond_eq, -awp_block_eq] | with_reducible refine awp_reg ?_ | with_reducible refine And.intro (by omega) ?_ | with_reducible refine optF_if (by omega) ?_ | with_reducible refine gsel_pure (by with_unfolding_all rfl) _ (fun hg => by (try simp at hg); first | (simp [hg]; rfl) | (simp; simp only [if_pos hg]; simp; rfl)) ?_)
            obtain ⟨o50, e49, hs⟩ := bindO hs
            try dsimp only at hs
            refine awp_cutK (fun (v : Unit) (σ : St) => some (.inl v) = some o50 ∧ σ.env 1 = .cell (.ref (.o 1 0 0) 0) ∧ σ.hp (.o 1 0 0) = some (.cells [.p (.sl a0.Vars.length (encL a0.Vars)), .p (.sl a0.Mutexes.length (encL a0.Mutexes)), .p (.sl a0.Conds.length (encL a0.Conds)), .p (.sl a0.Funcs.length (encL a0.Funcs)), .p (.sl a0.Threads.length (encL a0.Threads))]) ∧ 12 ≤ σ.gen) (by rfl) (fun Q hK51 hX52 => ?_) (fun v σ3 hp => ?_)
            · repeat (first | simp | with_reducible refine awp_reg ?_ | with_reducible refine And.intro (by omega) ?_ | with_reducible refine optF_if (by omega) ?_ | with_reducible refine gsel_pure (by with_unfolding_all rfl) _ (fun hg => by (try simp at hg); first | (simp [hg]; rfl) | (simp; simp only [if_pos hg]; simp; rfl)) ?_)
              obtain ⟨o70, e69, e49⟩ := bindO e49
              try dsimp only at e49
              refine awp_loopW (fun (v : (List Var) × Nat) (σ : St) => r08_Check_L1 v.1 v.2 = some o70 ∧ v.1 = a0.Vars.drop v.2 ∧ σ.env 1 = .cell (.ref (.o 1 0 0) 0) ∧ σ.env 15 = iV .i64 ((v.2 : Nat) : Int) ∧ σ.hp (.o 1 0 0) = some (.cells [.p (.sl a0.Vars.length (encL a0.Vars)), .p (.sl a0.Mutexes.length (encL a0.Mutexes)), .p (.sl a0.Conds.length (encL a0.Conds)), .p (.sl a0.Funcs.length (encL a0.Funcs)), .p (.sl a0.Threads.length (encL a0.Threads))]) ∧ 12 ≤ σ.gen) (fun v => v.1.length) _ (Gh.refl _) (a0.Vars, 0) ⟨e69, by simp, by simp [St.frz, St.pur], by simp [St.frz, St.pur], by simp [St.frz, St.pur], by first | (simp; done) | (simp; omega) | omega⟩ fun v σ6 hp L71 hL72 => ?_
              obtain ⟨q74, k61⟩ := v
              dsimp only at hp hL72
              obtain ⟨e69, hd73, h5_1, h5_15, g5_0, n5_g⟩ := hp
              have n5_0 : ¬ (σ6.gen = 0) := by omega
              rcases q74 with _ | ⟨x79, q75⟩
              · have hlt76 := drop_end hd73
                rw [r08_Check_L1] at e69; try dsimp only at e69
                repeat (first | simp [h5_1, h5_15, g5_0, n5_0] | with_reducible refine awp_reg ?_ | with_reducible refine And.intro (by omega) ?_ | with_reducible refine optF_if (by omega) ?_)
                refine condK_f (by simp [ltI]; omega) ?_
                obtain rfl := Option.some.inj e69
                try dsimp only at e49
                exact hK51 () _ _ (Gh.refl _) ⟨e49, by simp [St.frz, St.pur, h5_1, h5_15, g5_0, n5_0], by simp [St.frz, St.pur, h5_1, h5_15, g5_0, n5_0], by first | (simp; done) | (simp; omega) | omega⟩
              · obtain ⟨hx78, hlt76, hd80⟩ := drop_next hd73
                have ew77 := wrap_succ hlt76 (hb1).len
                rw [r08_Check_L1] at e69; try dsimp only at e69
                repeat (first | simp [h5_1, h5_15, g5_0, n5_0, hlt76, ew77] | with_reducible refine awp_reg ?_ | with_reducible refine And.intro (by omega) ?_ | with_reducible refine optF_if (by omega) ?_)
                refine condK_t (by simp [ltI]; omega) ?_
                have f81 : partCV Tryd.prog 3 (encL a0.Vars) (k61 * 2 + 1) = some (iV .i64 x79.Init) := partCV_enc hx78 (f := 1) (by simp)
                repeat (first | simp [h5_1, h5_15, g5_0, n5_0, hlt76, ew77, f81] | with_reducible refine awp_reg ?_ | with_reducible refine And.intro (by omega) ?_ | with_reducible refine optF_if (by omega) ?_)
                obtain ⟨y82, hx83, e69⟩ := bindO e69
                try dsimp only at e69
                refine callK_pure (at_r08_value hx83) (by (first | simp [h5_1, h5_15, g5_0, n5_0, hlt76, ew77, f81] | simp (disch := omega) [h5_1, h5_15, g5_0, n5_0, hlt76, ew77, f81]); try rfl) (by simp) (by simp) ?_
                repeat (first | simp [h5_1, h5_15, g5_0, n5_0, hlt76, ew77, f81] | with_reducible refine awp_reg ?_ | with_reducible refine And.intro (by omega) ?_ | with_reducible refine optF_if (by omega) ?_)
                refine condK_spec (!y82) (by first | rfl | (simp [h5_1, h5_15, g5_0, n5_0, hlt76, ew77, f81]; done) | (simp [andB, orB, eqI, ltI, Int.natCast_inj, h5_1, h5_15, g5_0, n5_0, hlt76, ew77, f81]; done)) (fun h84 => ?_) (fun h84 => ?_)
                · replace e69 := condT h84 e69
                  repeat (first | simp [h5_1, h5_15, g5_0, n5_0, hlt76, ew77, f81] | with_reducible refine awp_reg ?_ | with_reducible refine And.intro (by omega) ?_ | with_reducible refine optF_if (by omega) ?_)
                  obtain rfl := Option.some.inj e69
                  try dsimp only at e49
                  obtain rfl := Option.some.inj e49
                  try dsimp only at hs
                  refine hX52 _ _ (by simp) ?_
                  repeat (first | simp [h5_1, h5_15, g5_0, n5_0, hlt76, ew77, f81] | with_reducible refine awp_reg ?_ | with_reducible refine And.intro (by omega) ?_ | with_reducible refine optF_if (by omega) ?_)
                  obtain rfl := Option.some.inj hs
                  refine hQ _ _ (ret2g _ (Gh.refl _) (by simp [St.frz, St.pur, h5_1, h5_15, g5_0, n5_0, hlt76, ew77, f81]; rfl) (by first | rfl | (simp [St.frz, St.pur, h5_1, h5_15, g5_0, n5_0, hlt76, ew77, f81]; done) | (rw [if_pos (by first | omega | (simp; omega))]; simp [St.frz, St.pur, h5_1, h5_15, g5_0, n5_0, hlt76, ew77, f81]; first | omega | exact List.take_of_length_le (by simp; omega) | skip)) (by simp))
                · replace e69 := condF h84 e69
                  repeat (first | simp [h5_1, h5_15, g5_0, n5_0, hlt76, ew77, f81] | with_reducible refine awp_reg ?_ | with_reducible refine And.intro (by omega) ?_ | with_reducible refine optF_if (by omega) ?_)
                  exact hL72 (q75, (k61 + 1)) _ _ (Gh.refl _) ⟨e69, hd80, by simp [St.frz, St.pur, h5_1, h5_15, g5_0, n5_0, hlt76, ew77, f81], by simp [St.frz, St.pur, h5_1, h5_15, g5_0, n5_0, hlt76, ew77, f81], by simp [St.frz, St.pur, h5_1, h5_15, g5_0, n5_0, hlt76, ew77, f81], by first | (simp; done) | (simp; omega) | omega⟩ (by simp)
            · obtain ⟨e49, h4_1, g4_0, n4_g⟩ := hp
              obtain rfl := Option.some.inj e49
              try dsimp only at hs
              have n4_0 : ¬ (σ3.gen = 0) := by omega
              repeat (first | simp [-awp_cond_eq, -awp_block_eq, h4_1, g4_0, n4_0] | with_reducible refine awp_reg ?_ | with_reducible refine And.intro (by omega) ?_ | with_reducible refine optF_if (by omega) ?_ | with_reducible refine gsel_pure (by with_unfolding_all rfl) _ (fun hg => by (try simp at hg); first | (simp [hg, h4_1, g4_0, n4_0]; rfl) | (simp [h4_1, g4_0, n4_0]; simp only [if_pos hg]; simp [h4_1, g4_0, n4_0]; rfl)) ?_)
              obtain ⟨o133, e132, hs⟩ := bindO hs
              try dsimp only at hs
              refine awp_cutK (fun (v : Unit) (σ : St) => some (.inl v) = some o133 ∧ σ.env 1 = .cell (.ref (.o 1 0 0) 0) ∧ σ.hp (.o 1 0 0) = some (.cells [.p (.sl a0.Vars.length (encL a0.Vars)), .p (.sl a0.Mutexes.length (encL a0.Mutexes)), .p (.sl a0.Conds.length (encL a0.Conds)), .p (.sl a0.Funcs.length (encL a0.Funcs)), .p (.sl a0.Threads.length (encL a0.Threads))]) ∧ (σ3.gen + 1) ≤ σ.gen) (by rfl) (fun Q hK134 hX135 => ?_) (fun v σ9 hp => ?_)
              · repeat (first | simp [h4_1, g4_0, n4_0] | with_reducible refine awp_reg ?_ | with_reducible refine And.intro (by omega) ?_ | with_reducible refine optF_if (by omega) ?_ | with_reducible refine gsel_pure (by with_unfolding_all rfl) _ (fun hg => by (try simp at hg); first | (simp [hg, h4_1, g4_0, n4_0]; rfl) | (simp [h4_1, g4_0, n4_0]; simp only [if_pos hg]; simp [h4_1, g4_0, n4_0]; rfl)) ?_)
                obtain ⟨o163, e162, e132⟩ := bindO e132
                try dsimp only at e132
                refine awp_loopW (fun (v : (List Func) × Nat) (σ : St) => r08_Check_L2 a0 v.1 v.2 = some o163 ∧ v.1 = a0.Funcs.drop v.2 ∧ σ.env 1 = .cell (.ref (.o 1 0 0) 0) ∧ σ.env 16 = iV .i64 ((v.2 : Nat) : Int) ∧ σ.hp (.o 1 0 0) = some (.cells [.p (.sl a0.Vars.length (encL a0.Vars)), .p (.sl a0.Mutexes.length (encL a0.Mutexes)), .p (.sl a0.Conds.length (encL a0.Conds)), .p (.sl a0.Funcs.length (encL a0.Funcs)), .p (.sl a0.Threads.length (encL a0.Threads))]) ∧ (σ3.gen + 1) ≤ σ.gen) (fun v => v.1.length) _ (Gh.refl _) (a0.Funcs, 0) ⟨e162, by simp, by simp [St.frz, St.pur, h4_1, g4_0, n4_0], by simp [St.frz, St.pur, h4_1, g4_0, n4_0], by simp [St.frz, St.pur, h4_1, g4_0, n4_0], by first | (simp; done) | (simp; omega) | omega⟩ fun v σ12 hp L164 hL165 => ?_
                obtain ⟨q167, k149⟩ := v
                dsimp only at hp hL165
                obtain ⟨e162, hd166, h11_1, h11_16, g11_0, n11_g⟩ := hp
                have n11_0 : ¬ (σ12.gen = 0) := by omega
                rcases q167 with _ | ⟨x172, q168⟩
                · have hlt169 := drop_end hd166
                  rw [r08_Check_L2] at e162; try dsimp only at e162
                  repeat (first | simp [h11_1, h11_16, g11_0, n11_0] | with_reducible refine awp_reg ?_ | with_reducible refine And.intro (by omega) ?_ | with_reducible refine optF_if (by omega) ?_)
                  refine condK_f (by simp [ltI]; omega) ?_
                  obtain rfl := Option.some.inj e162
                  try dsimp only at e132
                  exact hK134 () _ _ (Gh.refl _) ⟨e132, by simp [St.frz, St.pur, h11_1, h11_16, g11_0, n11_0], by simp [St.frz, St.pur, h11_1, h11_16, g11_0, n11_0], by first | (simp; done) | (simp; omega) | omega⟩
                · obtain ⟨hx171, hlt169, hd173⟩ := drop_next hd166
                  have ew170 := wrap_succ hlt169 (hb4).len
                  rw [r08_Check_L2] at e162; try dsimp only at e162
                  repeat (first | simp [h11_1, h11_16, g11_0, n11_0, hlt169, ew170] | with_reducible refine awp_reg ?_ | with_reducible refine And.intro (by omega) ?_ | with_reducible refine optF_if (by omega) ?_)
                  refine condK_t (by simp [ltI]; omega) ?_
                  have f177 : partCV Tryd.prog 24 (encL a0.Funcs) (k149 * 2) = some (.agg [.p (.c (.string x172.Name)), .p (.sl x172.Code.length (encL x172.Code))]) := partCV_enc hx171 (f := 0) (by simp)
                  repeat (first | simp [h11_1, h11_16, g11_0, n11_0, hlt169, ew170, f177] | with_reducible refine awp_reg ?_ | with_reducible refine awp_draw ?_ | with_reducible refine ord_l (by kernel_rfl) ?_ | with_reducible refine ord_e (by kernel_rfl) ?_ | with_reducible refine ord_c (by kernel_rfl) ?_ | with_reducible refine ord_d (by kernel_rfl) ?_ | with_reducible refine And.intro (by omega) ?_ | with_reducible refine optF_if (by omega) ?_)
                  obtain ⟨y178, hx179, e162⟩ := bindO e162
                  try dsimp only at e162
                  refine callK_pure (at_r08_code hx179) (by (first | simp [h11_1, h11_16, g11_0, n11_0, hlt169, ew170, f177] | simp (disch := omega) [h11_1, h11_16, g11_0, n11_0, hlt169, ew170, f177]); try rfl) (by simp) (by simp) ?_
                  repeat (first | simp [h11_1, h11_16, g11_0, n11_0, hlt169, ew170, f177] | with_reducible refine awp_reg ?_ | with_reducible refine awp_draw ?_ | with_reducible refine ord_l (by kernel_rfl) ?_ | with_reducible refine ord_e (by kernel_rfl) ?_ | with_reducible refine ord_c (by kernel_rfl) ?_ | with_reducible refine ord_d (by kernel_rfl) ?_ | with_reducible refine And.intro (by omega) ?_ | with_reducible refine optF_if (by omega) ?_)
                  refine condK_spec (!(eqI y178.1 0)) (by first | rfl | (simp [h11_1, h11_16, g11_0, n11_0, hlt169, ew170, f177]; done) | (simp [andB, orB, eqI, ltI, Int.natCast_inj, h11_1, h11_16, g11_0, n11_0, hlt169, ew170, f177]; done)) (fun h180 => ?_) (fun h180 => ?_)
                  · replace e162 := condT h180 e162
                    repeat (first | simp [h11_1, h11_16, g11_0, n11_0, hlt169, ew170, f177] | with_reducible refine awp_reg ?_ | with_reducible refine awp_draw ?_ | with_reducible refine ord_l (by kernel_rfl) ?_ | with_reducible refine ord_e (by kernel_rfl) ?_ | with_reducible refine ord_c (by kernel_rfl) ?_ | with_reducible refine ord_d (by kernel_rfl) ?_ | with_reducible refine And.intro (by omega) ?_ | with_reducible refine optF_if (by omega) ?_)
                    obtain rfl := Option.some.inj e162
                    try dsimp only at e132
                    obtain rfl := Option.some.inj e132
                    try dsimp only at hs
                    refine hX135 _ _ (by simp) ?_
                    repeat (first | simp [h11_1, h11_16, g11_0, n11_0, hlt169, ew170, f177] | with_reducible refine awp_reg ?_ | with_reducible refine awp_draw ?_ | with_reducible refine ord_l (by kernel_rfl) ?_ | with_reducible refine ord_e (by kernel_rfl) ?_ | with_reducible refine ord_c (by kernel_rfl) ?_ | with_reducible refine ord_d (by kernel_rfl) ?_ | with_reducible refine And.intro (by omega) ?_ | with_reducible refine optF_if (by omega) ?_)
                    obtain rfl := Option.some.inj hs
                    refine hQ _ _ (ret2g _ (Gh.refl _) (by simp [St.frz, St.pur, h11_1, h11_16, g11_0, n11_0, hlt169, ew170, f177]; rfl) (by first | rfl | (simp [St.frz, St.pur, h11_1, h11_16, g11_0, n11_0, hlt169, ew170, f177]; done) | (rw [if_pos (by first | omega | (simp; omega))]; simp [St.frz, St.pur, h11_1, h11_16, g11_0, n11_0, hlt169, ew170, f177]; first | omega | exact List.take_of_length_le (by simp; omega) | skip)) (by simp))
                  · replace e162 := condF h180 e162
                    repeat (first | simp [h11_1, h11_16, g11_0, n11_0, hlt169, ew170, f177] | with_reducible refine awp_reg ?_ | with_reducible refine awp_draw ?_ | with_reducible refine ord_l (by kernel_rfl) ?_ | with_reducible refine ord_e (by kernel_rfl) ?_ | with_reducible refine ord_c (by kernel_rfl) ?_ | with_reducible refine ord_d (by kernel_rfl) ?_ | with_reducible refine And.intro (by omega) ?_ | with_reducible refine optF_if (by omega) ?_)
                    exact hL165 (q168, (k149 + 1)) _ _ (Gh.refl _) ⟨e162, hd173, by simp [St.frz, St.pur, h11_1, h11_16, g11_0, n11_0, hlt169, ew170, f177], by simp [St.frz, St.pur, h11_1, h11_16, g11_0, n11_0, hlt169, ew170, f177], by simp [St.frz, St.pur, h11_1, h11_16, g11_0, n11_0, hlt169, ew170, f177], by first | (simp; done) | (simp; omega) | omega⟩ (by simp)
              · obtain ⟨e132, h10_1, g10_0, n10_g⟩ := hp
                obtain rfl := Option.some.inj e132
                try dsimp only at hs
                have n10_0 : ¬ (σ9.gen = 0) := by omega
                repeat (first | simp [h10_1, g10_0, n10_0] | with_reducible refine awp_reg ?_ | with_reducible refine And.intro (by omega) ?_ | with_reducible refine optF_if (by omega) ?_ | with_reducible refine gsel_pure (by with_unfolding_all rfl) _ (fun hg => by (try simp at hg); first | (simp [hg, h10_1, g10_0, n10_0]; rfl) | (simp [h10_1, g10_0, n10_0]; simp only [if_pos hg]; simp [h10_1, g10_0, n10_0]; rfl)) ?_)
                obtain ⟨y182, hx183, hs⟩ := bindO hs
                try dsimp only at hs
                refine callK_pure (at_r08_threads hx183) (by (first | simp [h10_1, g10_0, n10_0] | simp (disch := omega) [h10_1, g10_0, n10_0]); try rfl) (by simp) (by simp) ?_
                repeat (first | simp [h10_1, g10_0, n10_0] | with_reducible refine awp_reg ?_ | with_reducible refine And.intro (by omega) ?_ | with_reducible refine optF_if (by omega) ?_ | with_reducible refine gsel_pure (by with_unfolding_all rfl) _ (fun hg => by (try simp at hg); first | (simp [hg, h10_1, g10_0, n10_0]; rfl) | (simp [h10_1, g10_0, n10_0]; simp only [if_pos hg]; simp [h10_1, g10_0, n10_0]; rfl)) ?_)
                obtain rfl := Option.some.inj hs
                refine hQ _ _ (ret2g _ (Gh.refl _) (by simp [St.frz, St.pur, h10_1, g10_0, n10_0]; rfl) (by first | rfl | (simp [St.frz, St.pur, h10_1, g10_0, n10_0]; done) | (rw [if_pos (by first | omega | (simp; omega))]; simp [St.frz, St.pur, h10_1, g10_0, n10_0]; first | omega | exact List.take_of_length_le (by simp; omega) | skip)) (by simp))
end Go.Dc
end
section
set_option linter.all false
namespace Go.Dc
open Go Go.Hw Go.Proofs
set_option maxRecDepth 100000
def r14_entered_L1 (a1 : Int) : List Inst → Nat → Option (Unit ⊕ Bool)
  | [], k42 => some (.inl ())
  | x59 :: q55, k42 => cond (andB (orB (eqI x59.Op 4) (eqI x59.Op 5)) (eqI x59.N a1)) (some (.inr true)) (r14_entered_L1 a1 q55 (k42 + 1))

def r14_entered (a0 : Func) (a1 : Int) : Option Bool :=
  Option.bind (α := Unit ⊕ Bool) (Option.bind (r14_entered_L1 a1 a0.Code 0) (fun o => match o with | .inl _ => some (.inl ()) | .inr r64 => some (.inr r64))) (fun o => match o with | .inl _ => some false | .inr r65 => some r65)

set_option maxHeartbeats 2000000 in
theorem at_r14_entered {a0 : Func} {a1 : Int} {r : Bool} (hs : r14_entered a0 a1 = some r) : At Tryd.prog 96 [.agg [.p (.c (.string a0.Name)), .p (.sl a0.Code.length (encL a0.Code))], iV .i64 a1] (bV r) := by
  refine at_bound (by kernel_rfl) fun hb => ?_
  have hb1 : LenOk (.sl a0.Code.length (encL a0.Code)) := hb (.agg [.p (.c (.string a0.Name)), .p (.sl a0.Code.length (encL a0.Code))]) (by simp) (.p (.sl a0.Code.length (encL a0.Code))) (by simp)
  refine at_code mixed Tryd.func96 (by kernel_rfl) rfl (by kernel_rfl) rfl fun Q hQ => ?_
  rw [r14_entered] at hs
  repeat (first | simp [-awp_cond_eq, -awp_block_eq] | with_reducible refine awp_reg ?_)
  obtain ⟨o32, e31, hs⟩ := bindO hs
  try dsimp only at hs
  refine awp_cutK (fun (v : Unit) (σ : St) => some (.inl v) = some o32 ∧ 2 ≤ σ.gen) (by rfl) (fun Q hK33 hX34 => ?_) (fun v σ3 hp => ?_)
  · repeat (first | simp | with_reducible refine awp_reg ?_)
    obtain ⟨o50, e49, e31⟩ := bindO e31
    try dsimp only at e31
    refine awp_loopW (fun (v : (List Inst) × Nat) (σ : St) => r14_entered_L1 a1 v.1 v.2 = some o50 ∧ v.1 = a0.Code.drop v.2 ∧ σ.env 1 = iV .i64 a1 ∧ σ.env 2 = .cell (.ref (.o 1 0 0) 0) ∧ σ.env 5 = iV .i64 ((v.2 : Nat) : Int) ∧ σ.hp (.o 1 0 0) = some (.cells [.p (.c (.string a0.Name)), .p (.sl a0.Code.length (encL a0.Code))]) ∧ 2 ≤ σ.gen) (fun v => v.1.length) _ (Gh.refl _) (a0.Code, 0) ⟨e49, by simp, by simp [St.frz, St.pur], by simp [St.frz, St.pur], by simp [St.frz, St.pur], by simp [St.frz, St.pur], by first | (simp; done) | (simp; omega) | omega⟩ fun v σ6 hp L51 hL52 => ?_
    obtain ⟨q54, k42⟩ := v
    dsimp only at hp hL52
    obtain ⟨e49, hd53, h5_1, h5_2, h5_5, g5_0, n5_g⟩ := hp
    have n5_0 : ¬ (σ6.gen = 0) := by omega
    rcases q54 with _ | ⟨x59, q55⟩
    · have hlt56 := drop_end hd53
      rw [r14_entered_L1] at e49; try dsimp only at e49
      repeat (first | simp [h5_1, h5_2, h5_5, g5_0, n5_0] | with_reducible refine awp_reg ?_ | with_reducible refine And.intro (by omega) ?_ | with_reducible refine optF_if (by omega) ?_)
      refine condK_f (by simp [ltI]; omega) ?_
      obtain rfl := Option.some.inj e49
      try dsimp only at e31
      exact hK33 () _ _ (Gh.refl _) ⟨e31, by first | (simp; done) | (simp; omega) | omega⟩
    · obtain ⟨hx58, hlt56, hd60⟩ := drop_next hd53
      have ew57 := wrap_succ hlt56 (hb1).len
      rw [r14_entered_L1] at e49; try dsimp only at e49
      repeat (first | simp [h5_1, h5_2, h5_5, g5_0, n5_0, hlt56, ew57] | with_reducible refine awp_reg ?_ | with_reducible refine And.intro (by omega) ?_ | with_reducible refine optF_if (by omega) ?_)
      refine condK_t (by simp [ltI]; omega) ?_
      have f61 : partCV Tryd.prog 67 (encL a0.Code) (k42 * 8) = some (iV .i64 x59.Op) := partCV_enc hx58 (f := 0) (by simp)
      have f62 : partCV Tryd.prog 3 (encL a0.Code) (k42 * 8 + 5) = some (iV .i64 x59.N) := partCV_enc hx58 (f := 5) (by simp)
      repeat (first | simp [h5_1, h5_2, h5_5, g5_0, n5_0, hlt56, ew57, f61, f62] | with_reducible refine awp_reg ?_ | with_reducible refine optF_if (by omega) ?_ | with_reducible refine gsel_pure (by with_unfolding_all rfl) _ (fun hg => by (try simp at hg); first | (simp [hg, h5_1, h5_2, h5_5, g5_0, n5_0, hlt56, ew57, f61, f62]; rfl) | (simp [h5_1, h5_2, h5_5, g5_0, n5_0, hlt56, ew57, f61, f62]; simp only [if_pos hg]; simp [h5_1, h5_2, h5_5, g5_0, n5_0, hlt56, ew57, f61, f62]; rfl)) ?_)
      refine condK_spec (andB (orB (eqI x59.Op 4) (eqI x59.Op 5)) (eqI x59.N a1)) (by first | rfl | (simp [h5_1, h5_2, h5_5, g5_0, n5_0, hlt56, ew57, f61, f62]; done) | (simp [andB, orB, eqI, ltI, Int.natCast_inj, h5_1, h5_2, h5_5, g5_0, n5_0, hlt56, ew57, f61, f62]; done)) (fun h63 => ?_) (fun h63 => ?_)
      · replace e49 := condT h63 e49
        repeat (first | simp [h5_1, h5_2, h5_5, g5_0, n5_0, hlt56, ew57, f61, f62] | with_reducible refine awp_reg ?_ | with_reducible refine optF_if (by omega) ?_ | with_reducible refine gsel_pure (by with_unfolding_all rfl) _ (fun hg => by (try simp at hg); first | (simp [hg, h5_1, h5_2, h5_5, g5_0, n5_0, hlt56, ew57, f61, f62]; rfl) | (simp [h5_1, h5_2, h5_5, g5_0, n5_0, hlt56, ew57, f61, f62]; simp only [if_pos hg]; simp [h5_1, h5_2, h5_5, g5_0, n5_0, hlt56, ew57, f61, f62]; rfl)) ?_)
        obtain rfl := Option.some.inj e49
        try dsimp only at e31
        obtain rfl := Option.some.inj e31
        try dsimp only at hs
        refine hX34 _ _ (by simp) ?_
        repeat (first | simp [h5_1, h5_2, h5_5, g5_0, n5_0, hlt56, ew57, f61, f62] | with_reducible refine awp_reg ?_ | with_reducible refine optF_if (by omega) ?_ | with_reducible refine gsel_pure (by with_unfolding_all rfl) _ (fun hg => by (try simp at hg); first | (simp [hg, h5_1, h5_2, h5_5, g5_0, n5_0, hlt56, ew57, f61, f62]; rfl) | (simp [h5_1, h5_2, h5_5, g5_0, n5_0, hlt56, ew57, f61, f62]; simp only [if_pos hg]; simp [h5_1, h5_2, h5_5, g5_0, n5_0, hlt56, ew57, f61, f62]; rfl)) ?_)
        obtain rfl := Option.some.inj hs
        refine hQ _ _ (ret2g _ (Gh.refl _) (by simp [St.frz, St.pur, h5_1, h5_2, h5_5, g5_0, n5_0, hlt56, ew57, f61, f62]; rfl) (by first | rfl | (simp [St.frz, St.pur, h5_1, h5_2, h5_5, g5_0, n5_0, hlt56, ew57, f61, f62]; done) | (rw [if_pos (by first | omega | (simp; omega))]; simp [St.frz, St.pur, h5_1, h5_2, h5_5, g5_0, n5_0, hlt56, ew57, f61, f62]; first | omega | exact List.take_of_length_le (by simp; omega) | skip)) (by simp))
      · replace e49 := condF h63 e49
        repeat (first | simp [h5_1, h5_2, h5_5, g5_0, n5_0, hlt56, ew57, f61, f62] | with_reducible refine awp_reg ?_ | with_reducible refine optF_if (by omega) ?_ | with_reducible refine gsel_pure (by with_unfolding_all rfl) _ (fun hg => by (try simp at hg); first | (simp [hg, h5_1, h5_2, h5_5, g5_0, n5_0, hlt56, ew57, f61, f62]; rfl) | (simp [h5_1, h5_2, h5_5, g5_0, n5_0, hlt56, ew57, f61, f62]; simp only [if_pos hg]; simp [h5_1, h5_2, h5_5, g5_0, n5_0, hlt56, ew57, f61, f62]; rfl)) ?_)
        exact hL52 (q55, (k42 + 1)) _ _ (Gh.refl _) ⟨e49, hd60, by simp [St.frz, St.pur, h5_1, h5_2, h5_5, g5_0, n5_0, hlt56, ew57, f61, f62], by simp [St.frz, St.pur, h5_1, h5_2, h5_5, g5_0, n5_0, hlt56, ew57, f61, f62], by simp [St.frz, St.pur, h5_1, h5_2, h5_5, g5_0, n5_0, hlt56, ew57, f61, f62], by simp [St.frz, St.pur, h5_1, h5_2, h5_5, g5_0, n5_0, hlt56, ew57, f61, f62], by first | (simp; done) | (simp; omega) | omega⟩ (by simp)
  · obtain ⟨e31, n4_g⟩ := hp
    obtain rfl := Option.some.inj e31
    try dsimp only at hs
    repeat (first | simp | with_reducible refine awp_reg ?_)
    obtain rfl := Option.some.inj hs
    refine hQ _ _ (ret2g _ (Gh.refl _) (by simp [St.frz, St.pur]; rfl) (by first | rfl | (simp [St.frz, St.pur]; done) | (rw [if_pos (by first | omega | (simp; omega))]; simp [St.frz, St.pur]; first | omega | exact List.take_of_length_le (by simp; omega) | skip)) (by simp))
end Go.Dc
end
section
set_option linter.all false
namespace Go.Dc
open Go Go.Hw Go.Proofs
set_option maxRecDepth 100000

def r14_Condition (a0 : Func) (a1 : Int) : Option (Inst × Bool) :=
  cond (orB (ltI a1 0) (ltI (IntKind.i64.wrap (((a0.Code.length : Nat) : Int) - 3)) a1)) (some (({ Op := 0, A := 0, B := 0, C := 0, Obj := 0, N := 0, Fn := 0, Order := 0 } : Inst), false)) (Option.bind (getI a0.Code a1) (fun x11 => Option.bind (getI a0.Code (IntKind.i64.wrap (a1 + 1))) (fun x14 => Option.bind (getI a0.Code (IntKind.i64.wrap (a1 + 2))) (fun x17 => cond (orB (orB (orB (orB (!(eqI x11.Op 8)) (!(eqI x14.Op 3))) (!(eqI x17.Op 5))) (!(eqI x17.B x14.A))) (!(eqI x17.N a1))) (some (({ Op := 0, A := 0, B := 0, C := 0, Obj := 0, N := 0, Fn := 0, Order := 0 } : Inst), false)) (Option.bind (r14_entered a0 (IntKind.i64.wrap (a1 + 1))) (fun y21 => guardO (orB (!(!y21)) ((r14_entered a0 (IntKind.i64.wrap (a1 + 2))).isSome)) (cond (orB (orB y21 ((r14_entered a0 (IntKind.i64.wrap (a1 + 2))).getD default)) (eqB (eqI x14.B x11.A) (eqI x14.C x11.A))) (some (({ Op := 0, A := 0, B := 0, C := 0, Obj := 0, N := 0, Fn := 0, Order := 0 } : Inst), false)) (Option.bind (α := Int) (cond (eqI x14.B x11.A) (some (x14.C)) (some (x14.B))) (fun i26 => Option.bind (α := Nat) (cond (eqI x14.Fn 7) (some (8)) (cond (eqI x14.Fn 8) (some (7)) (cond (eqI x14.Fn 9) (some (10)) (cond (eqI x14.Fn 10) (some (9)) (some (0)))))) (fun k36 => cond (orB (orB (eqI ((k36 : Nat) : Int) 0) (eqI i26 x14.A)) (andB (eqI x14.B x11.A) (orB (eqI x14.Fn 9) (eqI x14.Fn 10)))) (some (({ Op := 0, A := 0, B := 0, C := 0, Obj := 0, N := 0, Fn := 0, Order := 0 } : Inst), false)) (some (({ Op := 14, A := x11.A, B := i26, C := 0, Obj := x11.Obj, N := 0, Fn := ((k36 : Nat) : Int), Order := x11.Order } : Inst), true))))))))))))

set_option maxHeartbeats 2000000 in
theorem at_r14_Condition {a0 : Func} {a1 : Int} {r : Inst × Bool} (hs : r14_Condition a0 a1 = some r) : At Tryd.prog 67 [.agg [.p (.c (.string a0.Name)), .p (.sl a0.Code.length (encL a0.Code))], iV .i64 a1] (.tup [.agg [.p (.c (.int .i64 r.1.Op)), .p (.c (.int .i64 r.1.A)), .p (.c (.int .i64 r.1.B)), .p (.c (.int .i64 r.1.C)), .p (.c (.int .i64 r.1.Obj)), .p (.c (.int .i64 r.1.N)), .p (.c (.int .i64 r.1.Fn)), .p (.c (.int .i64 r.1.Order))], bV r.2]) := by
  refine at_bound (by kernel_rfl) fun hb => ?_
  have hb1 : LenOk (.sl a0.Code.length (encL a0.Code)) := hb (.agg [.p (.c (.string a0.Name)), .p (.sl a0.Code.length (encL a0.Code))]) (by simp) (.p (.sl a0.Code.length (encL a0.Code))) (by simp)
  refine at_code mixed Tryd.func67 (by kernel_rfl) rfl (by kernel_rfl) rfl fun Q hQ => ?_
  rw [r14_Condition] at hs
  repeat (first | simp | with_reducible refine awp_reg ?_ | with_reducible refine And.intro (by omega) ?_ | with_reducible refine optF_if (by omega) ?_ | with_reducible refine gsel_pure (by with_unfolding_all rfl) _ (fun hg => by (try simp at hg); first | (simp [hg]; rfl) | (simp; simp only [if_pos hg]; simp; rfl)) ?_)
  refine condK_spec (orB (ltI a1 0) (ltI (IntKind.i64.wrap (((a0.Code.length : Nat) : Int) - 3)) a1)) (by first | rfl | (simp; done) | (simp [andB, orB, eqI, ltI, Int.natCast_inj]; done)) (fun h1 => ?_) (fun h1 => ?_)
  · replace hs := condT h1 hs
    repeat (first | simp | with_reducible refine awp_reg ?_ | with_reducible refine And.intro (by omega) ?_ | with_reducible refine optF_if (by omega) ?_ | with_reducible refine gsel_pure (by with_unfolding_all rfl) _ (fun hg => by (try simp at hg); first | (simp [hg]; rfl) | (simp; simp only [if_pos hg]; simp; rfl)) ?_)
    obtain rfl := Option.some.inj hs
    refine hQ _ _ (ret2g _ (Gh.refl _) (by simp [St.frz, St.pur]; rfl) (by first | rfl | (simp [St.frz, St.pur]; done) | (rw [if_pos (by first | omega | (simp; omega))]; simp [St.frz, St.pur]; first | omega | exact List.take_of_length_le (by simp; omega) | skip)) (by simp))
  · replace hs := condF h1 hs
    obtain ⟨x11, hx12, hs⟩ := bindO hs
    try dsimp only at hs
    obtain ⟨hx12a, hx12b, hx12c, hx12d⟩ := getI_some hx12
    have f13 : partCV Tryd.prog 71 (encL a0.Code) (((a1).toNat) * 8) = some (.agg [.p (.c (.int .i64 x11.Op)), .p (.c (.int .i64 x11.A)), .p (.c (.int .i64 x11.B)), .p (.c (.int .i64 x11.C)), .p (.c (.int .i64 x11.Obj)), .p (.c (.int .i64 x11.N)), .p (.c (.int .i64 x11.Fn)), .p (.c (.int .i64 x11.Order))]) := partCV_enc hx12d (f := 0) (by simp)
    obtain ⟨x14, hx15, hs⟩ := bindO hs
    try dsimp only at hs
    obtain ⟨hx15a, hx15b, hx15c, hx15d⟩ := getI_some hx15
    have f16 : partCV Tryd.prog 71 (encL a0.Code) (((IntKind.i64.wrap (a1 + 1)).toNat) * 8) = some (.agg [.p (.c (.int .i64 x14.Op)), .p (.c (.int .i64 x14.A)), .p (.c (.int .i64 x14.B)), .p (.c (.int .i64 x14.C)), .p (.c (.int .i64 x14.Obj)), .p (.c (.int .i64 x14.N)), .p (.c (.int .i64 x14.Fn)), .p (.c (.int .i64 x14.Order))]) := partCV_enc hx15d (f := 0) (by simp)
    obtain ⟨x17, hx18, hs⟩ := bindO hs
    try dsimp only at hs
    obtain ⟨hx18a, hx18b, hx18c, hx18d⟩ := getI_some hx18
    have f19 : partCV Tryd.prog 71 (encL a0.Code) (((IntKind.i64.wrap (a1 + 2)).toNat) * 8) = some (.agg [.p (.c (.int .i64 x17.Op)), .p (.c (.int .i64 x17.A)), .p (.c (.int .i64 x17.B)), .p (.c (.int .i64 x17.C)), .p (.c (.int .i64 x17.Obj)), .p (.c (.int .i64 x17.N)), .p (.c (.int .i64 x17.Fn)), .p (.c (.int .i64 x17.Order))]) := partCV_enc hx18d (f := 0) (by simp)
    repeat (first | simp [f13, f16, f19] | with_reducible refine awp_reg ?_ | with_reducible refine awp_draw ?_ | with_reducible refine ord_l (by kernel_rfl) ?_ | with_reducible refine ord_e (by kernel_rfl) ?_ | with_reducible refine ord_c (by kernel_rfl) ?_ | with_reducible refine ord_d (by kernel_rfl) ?_ | with_reducible refine And.intro (by omega) ?_ | with_reducible refine optF_if (by omega) ?_ | with_reducible refine gsel_pure (by with_unfolding_all rfl) _ (fun hg => by (try simp at hg); first | (simp [hg, f13, f16, f19]; rfl) | (simp [f13, f16, f19]; simp only [if_pos hg]; simp [f13, f16, f19]; rfl)) ?_ | with_reducible refine dskip_intro ?_ | with_reducible refine dsel_pure (by with_unfolding_all rfl) _ (fun hg => by (try simp at hg); simp [hg, f13, f16, f19]; rfl) ?_)
    refine condK_spec (orB (orB (orB (orB (!(eqI x11.Op 8)) (!(eqI x14.Op 3))) (!(eqI x17.Op 5))) (!(eqI x17.B x14.A))) (!(eqI x17.N a1))) (by first | rfl | (simp [f13, f16, f19]; done) | (simp [andB, orB, eqI, ltI, Int.natCast_inj, f13, f16, f19]; done)) (fun h20 => ?_) (fun h20 => ?_)
    · replace hs := condT h20 hs
      repeat (first | simp [f13, f16, f19] | with_reducible refine awp_reg ?_ | with_reducible refine awp_draw ?_ | with_reducible refine ord_l (by kernel_rfl) ?_ | with_reducible refine ord_e (by kernel_rfl) ?_ | with_reducible refine ord_c (by kernel_rfl) ?_ | with_reducible refine ord_d (by kernel_rfl) ?_ | with_reducible refine And.intro (by omega) ?_ | with_reducible refine optF_if (by omega) ?_ | with_reducible refine gsel_pure (by with_unfolding_all rfl) _ (fun hg => by (try simp at hg); first | (simp [hg, f13, f16, f19]; rfl) | (simp [f13, f16, f19]; simp only [if_pos hg]; simp [f13, f16, f19]; rfl)) ?_ | with_reducible refine dskip_intro ?_ | with_reducible refine dsel_pure (by with_unfolding_all rfl) _ (fun hg => by (try simp at hg); simp [hg, f13, f16, f19]; rfl) ?_)
      obtain rfl := Option.some.inj hs
      refine hQ _ _ (ret2g _ (Gh.refl _) (by simp [St.frz, St.pur, f13, f16, f19]; rfl) (by first | rfl | (simp [St.frz, St.pur, f13, f16, f19]; done) | (rw [if_pos (by first | omega | (simp; omega))]; simp [St.frz, St.pur, f13, f16, f19]; first | omega | exact List.take_of_length_le (by simp; omega) | skip)) (by simp))
    · replace hs := condF h20 hs
      repeat (first | simp [f13, f16, f19] | with_reducible refine awp_reg ?_ | with_reducible refine awp_draw ?_ | with_reducible refine ord_l (by kernel_rfl) ?_ | with_reducible refine ord_e (by kernel_rfl) ?_ | with_reducible refine ord_c (by kernel_rfl) ?_ | with_reducible refine ord_d (by kernel_rfl) ?_ | with_reducible refine And.intro (by omega) ?_ | with_reducible refine optF_if (by omega) ?_ | with_reducible refine gsel_pure (by with_unfolding_all rfl) _ (fun hg => by (try simp at hg); first | (simp [hg, f13, f16, f19]; rfl) | (simp [f13, f16, f19]; simp only [if_pos hg]; simp [f13, f16, f19]; rfl)) ?_ | with_reducible refine dskip_intro ?_ | with_reducible refine dsel_pure (by with_unfolding_all rfl) _ (fun hg => by (try simp at hg); simp [hg, f13, f16, f19]; rfl) ?_)
      obtain ⟨y21, hx22, hs⟩ := bindO hs
      try dsimp only at hs
      refine callK_pure (at_r14_entered hx22) (by (first | simp [f13, f16, f19] | simp (disch := omega) [f13, f16, f19]); try rfl) (by simp) (by simp) ?_
      repeat (first | simp [f13, f16, f19] | with_reducible refine awp_reg ?_ | with_reducible refine awp_draw ?_ | with_reducible refine ord_l (by kernel_rfl) ?_ | with_reducible refine ord_e (by kernel_rfl) ?_ | with_reducible refine ord_c (by kernel_rfl) ?_ | with_reducible refine ord_d (by kernel_rfl) ?_ | with_reducible refine And.intro (by omega) ?_ | with_reducible refine optF_if (by omega) ?_ | with_reducible refine gsel_pure (by with_unfolding_all rfl) _ (fun hg => by (try simp at hg); first | (simp [hg, f13, f16, f19]; rfl) | (simp [f13, f16, f19]; simp only [if_pos hg]; simp [f13, f16, f19]; rfl)) ?_ | with_reducible refine dskip_intro ?_ | with_reducible refine dsel_pure (by with_unfolding_all rfl) _ (fun hg => by (try simp at hg); simp [hg, f13, f16, f19]; rfl) ?_)
      obtain ⟨g23, hs⟩ := guardO_some hs
      refine gsel_call (fun hg => at_r14_entered (under_call g23 hg)) (fun hg => by (try simp at hg); (first | simp [hg, f13, f16, f19]); try rfl) (fun hg => by (try simp at hg); simp [hg, f13, f16, f19]) (by simp) ?_
      repeat (first | simp [f13, f16, f19] | with_reducible refine awp_reg ?_ | with_reducible refine awp_draw ?_ | with_reducible refine ord_l (by kernel_rfl) ?_ | with_reducible refine ord_e (by kernel_rfl) ?_ | with_reducible refine ord_c (by kernel_rfl) ?_ | with_reducible refine ord_d (by kernel_rfl) ?_ | with_reducible refine And.intro (by omega) ?_ | with_reducible refine optF_if (by omega) ?_ | with_reducible refine gsel_pure (by with_unfolding_all rfl) _ (fun hg => by (try simp at hg); first | (simp [hg, f13, f16, f19]; rfl) | (simp [f13, f16, f19]; simp only [if_pos hg]; simp [f13, f16, f19]; rfl)) ?_ | with_reducible refine dskip_intro ?_ | with_reducible refine dsel_pure (by with_unfolding_all rfl) _ (fun hg => by (try simp at hg); simp [hg, f13, f16, f19]; rfl) ?_)
      refine condK_spec (orB (orB y21 ((r14_entered a0 (IntKind.i64.wrap (a1 + 2))).getD default)) (eqB (eqI x14.B x11.A) (eqI x14.C x11.A))) (by first | rfl | (simp [f13, f16, f19]; done) | (simp [andB, orB, eqI, ltI, Int.natCast_inj, f13, f16, f19]; done)) (fun h24 => ?_) (fun h24 => ?_)
      · replace hs := condT h24 hs
        repeat (first | simp [f13, f16, f19] | with_reducible refine awp_reg ?_ | with_reducible refine awp_draw ?_ | with_reducible refine ord_l (by kernel_rfl) ?_ | with_reducible refine ord_e (by kernel_rfl) ?_ | with_reducible refine ord_c (by kernel_rfl) ?_ | with_reducible refine ord_d (by kernel_rfl) ?_ | with_reducible refine And.intro (by omega) ?_ | with_reducible refine optF_if (by omega) ?_ | with_reducible refine gsel_pure (by with_unfolding_all rfl) _ (fun hg => by (try simp at hg); first | (simp [hg, f13, f16, f19]; rfl) | (simp [f13, f16, f19]; simp only [if_pos hg]; simp [f13, f16, f19]; rfl)) ?_ | with_reducible refine dskip_intro ?_ | with_reducible refine dsel_pure (by with_unfolding_all rfl) _ (fun hg => by (try simp at hg); simp [hg, f13, f16, f19]; rfl) ?_)
        obtain rfl := Option.some.inj hs
        refine hQ _ _ (ret2g _ (Gh.refl _) (by simp [St.frz, St.pur, f13, f16, f19]; rfl) (by first | rfl | (simp [St.frz, St.pur, f13, f16, f19]; done) | (rw [if_pos (by first | omega | (simp; omega))]; simp [St.frz, St.pur, f13, f16, f19]; first | omega | exact List.take_of_length_le (by simp; omega) | skip)) (by simp))
      · replace hs := condF h24 hs
        repeat (first | simp [-awp_cond_eq, -awp_block_eq, f13, f16, f19] | with_reducible refine awp_reg ?_ | with_reducible refine awp_draw ?_ | with_reducible refine ord_l (by kernel_rfl) ?_ | with_reducible refine ord_e (by kernel_rfl) ?_ | with_reducible refine ord_c (by kernel_rfl) ?_ | with_reducible refine ord_d (by kernel_rfl) ?_ | with_reducible refine And.intro (by omega) ?_ | with_reducible refine optF_if (by omega) ?_ | with_reducible refine gsel_pure (by with_unfolding_all rfl) _ (fun hg => by (try simp at hg); first | (simp [hg, f13, f16, f19]; rfl) | (simp [f13, f16, f19]; simp only [if_pos hg]; simp [f13, f16, f19]; rfl)) ?_ | with_reducible refine dskip_intro ?_ | with_reducible refine dsel_pure (by with_unfolding_all rfl) _ (fun hg => by (try simp at hg); simp [hg, f13, f16, f19]; rfl) ?_)
        obtain ⟨o28, e27, hs⟩ := bindO hs
        try dsimp only at hs
        refine awp_cutK (fun (v : Int) (σ : St) => some (v) = some o28 ∧ σ.env 4 = .cell (.ref (.o 1 1 0) 0) ∧ σ.env 7 = .cell (.ref (.o 3 18 0) 0) ∧ σ.env 9 = .cell (.ref (.o 6 9 0) 0) ∧ σ.env 10 = bV (eqI x14.B x11.A) ∧ σ.hp (.o 1 1 0) = some (.cells [.p (.c (.int .i64 0)), .p (.c (.int .i64 0)), .p (.c (.int .i64 0)), .p (.c (.int .i64 0)), .p (.c (.int .i64 0)), .p (.c (.int .i64 0)), .p (.c (.int .i64 0)), .p (.c (.int .i64 0))]) ∧ σ.hp (.o 3 18 0) = some (.cells [.p (.c (.int .i64 x14.Op)), .p (.c (.int .i64 x14.A)), .p (.c (.int .i64 x14.B)), .p (.c (.int .i64 x14.C)), .p (.c (.int .i64 x14.Obj)), .p (.c (.int .i64 x14.N)), .p (.c (.int .i64 x14.Fn)), .p (.c (.int .i64 x14.Order))]) ∧ σ.hp (.o 6 9 0) = some (.cells [.p (.c (.int .i64 14)), .p (.c (.int .i64 x11.A)), .p (.c (.int .i64 v)), .p (.c (.int .i64 0)), .p (.c (.int .i64 x11.Obj)), .p (.c (.int .i64 0)), .p (.c (.int .i64 0)), .p (.c (.int .i64 x11.Order))]) ∧ 8 ≤ σ.gen) (by rfl) (fun Q hK29 hX30 => ?_) (fun i26 σ1 hp => ?_)
        · repeat (first | simp [f13, f16, f19] | with_reducible refine awp_reg ?_ | with_reducible refine awp_draw ?_ | with_reducible refine ord_l (by kernel_rfl) ?_ | with_reducible refine ord_e (by kernel_rfl) ?_ | with_reducible refine ord_c (by kernel_rfl) ?_ | with_reducible refine ord_d (by kernel_rfl) ?_ | with_reducible refine And.intro (by omega) ?_ | with_reducible refine optF_if (by omega) ?_ | with_reducible refine gsel_pure (by with_unfolding_all rfl) _ (fun hg => by (try simp at hg); first | (simp [hg, f13, f16, f19]; rfl) | (simp [f13, f16, f19]; simp only [if_pos hg]; simp [f13, f16, f19]; rfl)) ?_ | with_reducible refine dskip_intro ?_ | with_reducible refine dsel_pure (by with_unfolding_all rfl) _ (fun hg => by (try simp at hg); simp [hg, f13, f16, f19]; rfl) ?_)
          refine condK_spec (eqI x14.B x11.A) (by first | rfl | (simp [f13, f16, f19]; done) | (simp [andB, orB, eqI, ltI, Int.natCast_inj, f13, f16, f19]; done)) (fun h31 => ?_) (fun h31 => ?_)
          · replace e27 := condT h31 e27
            repeat (first | simp [f13, f16, f19] | with_reducible refine awp_reg ?_ | with_reducible refine awp_draw ?_ | with_reducible refine ord_l (by kernel_rfl) ?_ | with_reducible refine ord_e (by kernel_rfl) ?_ | with_reducible refine ord_c (by kernel_rfl) ?_ | with_reducible refine ord_d (by kernel_rfl) ?_ | with_reducible refine And.intro (by omega) ?_ | with_reducible refine optF_if (by omega) ?_ | with_reducible refine gsel_pure (by with_unfolding_all rfl) _ (fun hg => by (try simp at hg); first | (simp [hg, f13, f16, f19]; rfl) | (simp [f13, f16, f19]; simp only [if_pos hg]; simp [f13, f16, f19]; rfl)) ?_ | with_reducible refine dskip_intro ?_ | with_reducible refine dsel_pure (by with_unfolding_all rfl) _ (fun hg => by (try simp at hg); simp [hg, f13, f16, f19]; rfl) ?_)
            exact hK29 x14.C _ _ (Gh.refl _) ⟨e27, by simp [St.frz, St.pur, f13, f16, f19], by simp [St.frz, St.pur, f13, f16, f19], by simp [St.frz, St.pur, f13, f16, f19], by simp [St.frz, St.pur, f13, f16, f19], by simp [St.frz, St.pur, f13, f16, f19], by simp [St.frz, St.pur, f13, f16, f19], by simp [St.frz, St.pur, f13, f16, f19], by first | (simp; done) | (simp; omega) | omega⟩
          · replace e27 := condF h31 e27
            repeat (first | simp [f13, f16, f19] | with_reducible refine awp_reg ?_ | with_reducible refine awp_draw ?_ | with_reducible refine ord_l (by kernel_rfl) ?_ | with_reducible refine ord_e (by kernel_rfl) ?_ | with_reducible refine ord_c (by kernel_rfl) ?_ | with_reducible refine ord_d (by kernel_rfl) ?_ | with_reducible refine And.intro (by omega) ?_ | with_reducible refine optF_if (by omega) ?_ | with_reducible refine gsel_pure (by with_unfolding_all rfl) _ (fun hg => by (try simp at hg); first | (simp [hg, f13, f16, f19]; rfl) | (simp [f13, f16, f19]; simp only [if_pos hg]; simp [f13, f16, f19]; rfl)) ?_ | with_reducible refine dskip_intro ?_ | with_reducible refine dsel_pure (by with_unfolding_all rfl) _ (fun hg => by (try simp at hg); simp [hg, f13, f16, f19]; rfl) ?_)
            exact hK29 x14.B _ _ (Gh.refl _) ⟨e27, by simp [St.frz, St.pur, f13, f16, f19], by simp [St.frz, St.pur, f13, f16, f19], by simp [St.frz, St.pur, f13, f16, f19], by simp [St.frz, St.pur, f13, f16, f19], by simp [St.frz, St.pur, f13, f16, f19], by simp [St.frz, St.pur, f13, f16, f19], by simp [St.frz, St.pur, f13, f16, f19], by first | (simp; done) | (simp; omega) | omega⟩
        · obtain ⟨e27, h2_4, h2_7, h2_9, h2_10, g2_0, g2_1, g2_2, n2_g⟩ := hp
          obtain rfl := Option.some.inj e27
          try dsimp only at hs
          have n2_0 : ¬ (σ1.gen = 0) := by omega
          have n2_1 : ¬ (σ1.gen = 1) := by omega
          have n2_2 : ¬ (σ1.gen = 2) := by omega
          have n2_3 : ¬ (σ1.gen = 3) := by omega
          have n2_4 : ¬ (σ1.gen = 4) := by omega
          have n2_5 : ¬ (σ1.gen = 5) := by omega
          repeat (first | simp [-awp_cond_eq, -awp_block_eq, h2_4, h2_7, h2_9, h2_10, g2_0, g2_1, g2_2, n2_0, n2_1, n2_2, n2_3, n2_4, n2_5, f13, f16, f19] | with_reducible refine awp_reg ?_ | with_reducible refine awp_draw ?_ | with_reducible refine ord_l (by kernel_rfl) ?_ | with_reducible refine ord_e (by kernel_rfl) ?_ | with_reducible refine ord_c (by kernel_rfl) ?_ | with_reducible refine ord_d (by kernel_rfl) ?_ | with_reducible refine And.intro (by omega) ?_ | with_reducible refine optF_if (by omega) ?_ | with_reducible refine gsel_pure (by with_unfolding_all rfl) _ (fun hg => by (try simp at hg); first | (simp [hg, h2_4, h2_7, h2_9, h2_10, g2_0, g2_1, g2_2, n2_0, n2_1, n2_2, n2_3, n2_4, n2_5, f13, f16, f19]; rfl) | (simp [h2_4, h2_7, h2_9, h2_10, g2_0, g2_1, g2_2, n2_0, n2_1, n2_2, n2_3, n2_4, n2_5, f13, f16, f19]; simp only [if_pos hg]; simp [h2_4, h2_7, h2_9, h2_10, g2_0, g2_1, g2_2, n2_0, n2_1, n2_2, n2_3, n2_4, n2_5, f13, f16, f19]; rfl)) ?_ | with_reducible refine dskip_intro ?_ | with_reducible refine dsel_pure (by with_unfolding_all rfl) _ (fun hg => by (try simp at hg); simp [hg, h2_4, h2_7, h2_9, h2_10, g2_0, g2_1, g2_2, n2_0, n2_1, n2_2, n2_3, n2_4, n2_5, f13, f16, f19]; rfl) ?_)
          obtain ⟨o38, e37, hs⟩ := bindO hs
          try dsimp only at hs
          refine awp_cutK (fun (v : Nat) (σ : St) => some (v) = some o38 ∧ σ.env 4 = .cell (.ref (.o 1 1 0) 0) ∧ σ.env 7 = .cell (.ref (.o 3 18 0) 0) ∧ σ.env 9 = .cell (.ref (.o 6 9 0) 0) ∧ σ.env 10 = bV (eqI x14.B x11.A) ∧ σ.hp (.o 1 1 0) = some (.cells [.p (.c (.int .i64 0)), .p (.c (.int .i64 0)), .p (.c (.int .i64 0)), .p (.c (.int .i64 0)), .p (.c (.int .i64 0)), .p (.c (.int .i64 0)), .p (.c (.int .i64 0)), .p (.c (.int .i64 0))]) ∧ σ.hp (.o 3 18 0) = some (.cells [.p (.c (.int .i64 x14.Op)), .p (.c (.int .i64 x14.A)), .p (.c (.int .i64 x14.B)), .p (.c (.int .i64 x14.C)), .p (.c (.int .i64 x14.Obj)), .p (.c (.int .i64 x14.N)), .p (.c (.int .i64 x14.Fn)), .p (.c (.int .i64 x14.Order))]) ∧ σ.hp (.o 6 9 0) = some (.cells [.p (.c (.int .i64 14)), .p (.c (.int .i64 x11.A)), .p (.c (.int .i64 i26)), .p (.c (.int .i64 0)), .p (.c (.int .i64 x11.Obj)), .p (.c (.int .i64 0)), .p (.c (.int .i64 ((v : Nat) : Int))), .p (.c (.int .i64 x11.Order))]) ∧ (σ1.gen + 1) ≤ σ.gen) (by rfl) (fun Q hK39 hX40 => ?_) (fun k36 σ3 hp => ?_)
          · repeat (first | simp [h2_4, h2_7, h2_9, h2_10, g2_0, g2_1, g2_2, n2_0, n2_1, n2_2, n2_3, n2_4, n2_5, f13, f16, f19] | with_reducible refine awp_reg ?_ | with_reducible refine awp_draw ?_ | with_reducible refine ord_l (by kernel_rfl) ?_ | with_reducible refine ord_e (by kernel_rfl) ?_ | with_reducible refine ord_c (by kernel_rfl) ?_ | with_reducible refine ord_d (by kernel_rfl) ?_ | with_reducible refine And.intro (by omega) ?_ | with_reducible refine optF_if (by omega) ?_ | with_reducible refine gsel_pure (by with_unfolding_all rfl) _ (fun hg => by (try simp at hg); first | (simp [hg, h2_4, h2_7, h2_9, h2_10, g2_0, g2_1, g2_2, n2_0, n2_1, n2_2, n2_3, n2_4, n2_5, f13, f16, f19]; rfl) | (simp [h2_4, h2_7, h2_9, h2_10, g2_0, g2_1, g2_2, n2_0, n2_1, n2_2, n2_3, n2_4, n2_5, f13, f16, f19]; simp only [if_pos hg]; simp [h2_4, h2_7, h2_9, h2_10, g2_0, g2_1, g2_2, n2_0, n2_1, n2_2, n2_3, n2_4, n2_5, f13, f16, f19]; rfl)) ?_ | with_reducible refine dskip_intro ?_ | with_reducible refine dsel_pure (by with_unfolding_all rfl) _ (fun hg => by (try simp at hg); simp [hg, h2_4, h2_7, h2_9, h2_10, g2_0, g2_1, g2_2, n2_0, n2_1, n2_2, n2_3, n2_4, n2_5, f13, f16, f19]; rfl) ?_)
            refine condK_spec (eqI x14.Fn 7) (by first | rfl | (simp [h2_4, h2_7, h2_9, h2_10, g2_0, g2_1, g2_2, n2_0, n2_1, n2_2, n2_3, n2_4, n2_5, f13, f16, f19]; done) | (simp [andB, orB, eqI, ltI, Int.natCast_inj, h2_4, h2_7, h2_9, h2_10, g2_0, g2_1, g2_2, n2_0, n2_1, n2_2, n2_3, n2_4, n2_5, f13, f16, f19]; done)) (fun h41 => ?_) (fun h41 => ?_)
            · replace e37 := condT h41 e37
              repeat (first | simp [h2_4, h2_7, h2_9, h2_10, g2_0, g2_1, g2_2, n2_0, n2_1, n2_2, n2_3, n2_4, n2_5, f13, f16, f19] | with_reducible refine awp_reg ?_ | with_reducible refine awp_draw ?_ | with_reducible refine ord_l (by kernel_rfl) ?_ | with_reducible refine ord_e (by kernel_rfl) ?_ | with_reducible refine ord_c (by kernel_rfl) ?_ | with_reducible refine ord_d (by kernel_rfl) ?_ | with_reducible refine And.intro (by omega) ?_ | with_reducible refine optF_if (by omega) ?_ | with_reducible refine gsel_pure (by with_unfolding_all rfl) _ (fun hg => by (try simp at hg); first | (simp [hg, h2_4, h2_7, h2_9, h2_10, g2_0, g2_1, g2_2, n2_0, n2_1, n2_2, n2_3, n2_4, n2_5, f13, f16, f19]; rfl) | (simp [h2_4, h2_7, h2_9, h2_10, g2_0, g2_1, g2_2, n2_0, n2_1, n2_2, n2_3, n2_4, n2_5, f13, f16, f19]; simp only [if_pos hg]; simp [h2_4, h2_7, h2_9, h2_10, g2_0, g2_1, g2_2, n2_0, n2_1, n2_2, n2_3, n2_4, n2_5, f13, f16, f19]; rfl)) ?_ | with_reducible refine dskip_intro ?_ | with_reducible refine dsel_pure (by with_unfolding_all rfl) _ (fun hg => by (try simp at hg); simp [hg, h2_4, h2_7, h2_9, h2_10, g2_0, g2_1, g2_2, n2_0, n2_1, n2_2, n2_3, n2_4, n2_5, f13, f16, f19]; rfl) ?_)
              exact hK39 8 _ _ (Gh.refl _) ⟨e37, by simp [St.frz, St.pur, h2_4, h2_7, h2_9, h2_10, g2_0, g2_1, g2_2, n2_0, n2_1, n2_2, n2_3, n2_4, n2_5, f13, f16, f19], by simp [St.frz, St.pur, h2_4, h2_7, h2_9, h2_10, g2_0, g2_1, g2_2, n2_0, n2_1, n2_2, n2_3, n2_4, n2_5, f13, f16, f19], by simp [St.frz, St.pur, h2_4, h2_7, h2_9, h2_10, g2_0, g2_1, g2_2, n2_0, n2_1, n2_2, n2_3, n2_4, n2_5, f13, f16, f19], by simp [St.frz, St.pur, h2_4, h2_7, h2_9, h2_10, g2_0, g2_1, g2_2, n2_0, n2_1, n2_2, n2_3, n2_4, n2_5, f13, f16, f19], by simp [St.frz, St.pur, h2_4, h2_7, h2_9, h2_10, g2_0, g2_1, g2_2, n2_0, n2_1, n2_2, n2_3, n2_4, n2_5, f13, f16, f19], by simp [St.frz, St.pur, h2_4, h2_7, h2_9, h2_10, g2_0, g2_1, g2_2, n2_0, n2_1, n2_2, n2_3, n2_4, n2_5, f13, f16, f19], by simp [St.frz, St.pur, h2_4, h2_7, h2_9, h2_10, g2_0, g2_1, g2_2, n2_0, n2_1, n2_2, n2_3, n2_4, n2_5, f13, f16, f19], by first | (simp; done) | (simp; omega) | omega⟩
            · replace e37 := condF h41 e37
              repeat (first | simp [h2_4, h2_7, h2_9, h2_10, g2_0, g2_1, g2_2, n2_0, n2_1, n2_2, n2_3, n2_4, n2_5, f13, f16, f19] | with_reducible refine awp_reg ?_ | with_reducible refine awp_draw ?_ | with_reducible refine ord_l (by kernel_rfl) ?_ | with_reducible refine ord_e (by kernel_rfl) ?_ | with_reducible refine ord_c (by kernel_rfl) ?_ | with_reducible refine ord_d (by kernel_rfl) ?_ | with_reducible refine And.intro (by omega) ?_ | with_reducible refine optF_if (by omega) ?_ | with_reducible refine gsel_pure (by with_unfolding_all rfl) _ (fun hg => by (try simp at hg); first | (simp [hg, h2_4, h2_7, h2_9, h2_10, g2_0, g2_1, g2_2, n2_0, n2_1, n2_2, n2_3, n2_4, n2_5, f13, f16, f19]; rfl) | (simp [h2_4, h2_7, h2_9, h2_10, g2_0, g2_1, g2_2, n2_0, n2_1, n2_2, n2_3, n2_4, n2_5, f13, f16, f19]; simp only [if_pos hg]; simp [h2_4, h2_7, h2_9, h2_10, g2_0, g2_1, g2_2, n2_0, n2_1, n2_2, n2_3, n2_4, n2_5, f13, f16, f19]; rfl)) ?_ | with_reducible refine dskip_intro ?_ | with_reducible refine dsel_pure (by with_unfolding_all rfl) _ (fun hg => by (try simp at hg); simp [hg, h2_4, h2_7, h2_9, h2_10, g2_0, g2_1, g2_2, n2_0, n2_1, n2_2, n2_3, n2_4, n2_5, f13, f16, f19]; rfl) ?_)
              refine condK_spec (eqI x14.Fn 8) (by first | rfl | (simp [h2_4, h2_7, h2_9, h2_10, g2_0, g2_1, g2_2, n2_0, n2_1, n2_2, n2_3, n2_4, n2_5, f13, f16, f19]; done) | (simp [andB, orB, eqI, ltI, Int.natCast_inj, h2_4, h2_7, h2_9, h2_10, g2_0, g2_1, g2_2, n2_0, n2_1, n2_2, n2_3, n2_4, n2_5, f13, f16, f19]; done)) (fun h42 => ?_) (fun h42 => ?_)
              · replace e37 := condT h42 e37
                repeat (first | simp [h2_4, h2_7, h2_9, h2_10, g2_0, g2_1, g2_2, n2_0, n2_1, n2_2, n2_3, n2_4, n2_5, f13, f16, f19] | with_reducible refine awp_reg ?_ | with_reducible refine awp_draw ?_ | with_reducible refine ord_l (by kernel_rfl) ?_ | with_reducible refine ord_e (by kernel_rfl) ?_ | with_reducible refine ord_c (by kernel_rfl) ?_ | with_reducible refine ord_d (by kernel_rfl) ?_ | with_reducible refine And.intro (by omega) ?_ | with_reducible refine optF_if (by omega) ?_ | with_reducible refine gsel_pure (by with_unfolding_all rfl) _ (fun hg => by (try simp at hg); first | (simp [hg, h2_4, h2_7, h2_9, h2_10, g2_0, g2_1, g2_2, n2_0, n2_1, n2_2, n2_3, n2_4, n2_5, f13, f16, f19]; rfl) | (simp [h2_4, h2_7, h2_9, h2_10, g2_0, g2_1, g2_2, n2_0, n2_1, n2_2, n2_3, n2_4, n2_5, f13, f16, f19]; simp only [if_pos hg]; simp [h2_4, h2_7, h2_9, h2_10, g2_0, g2_1, g2_2, n2_0, n2_1, n2_2, n2_3, n2_4, n2_5, f13, f16, f19]; rfl)) ?_ | with_reducible refine dskip_intro ?_ | with_reducible refine dsel_pure (by with_unfolding_all rfl) _ (fun hg => by (try simp at hg); simp [hg, h2_4, h2_7, h2_9, h2_10, g2_0, g2_1, g2_2, n2_0, n2_1, n2_2, n2_3, n2_4, n2_5, f13, f16, f19]; rfl) ?_)
                exact hK39 7 _ _ (Gh.refl _) ⟨e37, by simp [St.frz, St.pur, h2_4, h2_7, h2_9, h2_10, g2_0, g2_1, g2_2, n2_0, n2_1, n2_2, n2_3, n2_4, n2_5, f13, f16, f19], by simp [St.frz, St.pur, h2_4, h2_7, h2_9, h2_10, g2_0, g2_1, g2_2, n2_0, n2_1, n2_2, n2_3, n2_4, n2_5, f13, f16, f19], by simp [St.frz, St.pur, h2_4, h2_7, h2_9, h2_10, g2_0, g2_1, g2_2, n2_0, n2_1, n2_2, n2_3, n2_4, n2_5, f13, f16, f19], by simp [St.frz, St.pur, h2_4, h2_7, h2_9, h2_10, g2_0, g2_1, g2_2, n2_0, n2_1, n2_2, n2_3, n2_4, n2_5, f13, f16, f19], by simp [St.frz, St.pur, h2_4, h2_7, h2_9, h2_10, g2_0, g2_1, g2_2, n2_0, n2_1, n2_2, n2_3, n2_4, n2_5, f13, f16, f19], by simp [St.frz, St.pur, h2_4, h2_7, h2_9, h2_10, g2_0, g2_1, g2_2, n2_0, n2_1, n2_2, n2_3, n2_4, n2_5, f13, f16, f19], by simp [St.frz, St.pur, h2_4, h2_7, h2_9, h2_10, g2_0, g2_1, g2_2, n2_0, n2_1, n2_2, n2_3, n2_4, n2_5, f13, f16, f19], by first | (simp; done) | (simp; omega) | omega⟩
              · replace e37 := condF h42 e37
                repeat (first | simp [h2_4, h2_7, h2_9, h2_10, g2_0, g2_1, g2_2, n2_0, n2_1, n2_2, n2_3, n2_4, n2_5, f13, f16, f19] | with_reducible refine awp_reg ?_ | with_reducible refine awp_draw ?_ | with_reducible refine ord_l (by kernel_rfl) ?_ | with_reducible refine ord_e (by kernel_rfl) ?_ | with_reducible refine ord_c (by kernel_rfl) ?_ | with_reducible refine ord_d (by kernel_rfl) ?_ | with_reducible refine And.intro (by omega) ?_ | with_reducible refine optF_if (by omega) ?_ | with_reducible refine gsel_pure (by with_unfolding_all rfl) _ (fun hg => by (try simp at hg); first | (simp [hg, h2_4, h2_7, h2_9, h2_10, g2_0, g2_1, g2_2, n2_0, n2_1, n2_2, n2_3, n2_4, n2_5, f13, f16, f19]; rfl) | (simp [h2_4, h2_7, h2_9, h2_10, g2_0, g2_1, g2_2, n2_0, n2_1, n2_2, n2_3, n2_4, n2_5, f13, f16, f19]; simp only [if_pos hg]; simp [h2_4, h2_7, h2_9, h2_10, g2_0, g2_1, g2_2, n2_0, n2_1, n2_2, n2_3, n2_4, n2_5, f13, f16, f19]; rfl)) ?_ | with_reducible refine dskip_intro ?_ | with_reducible refine dsel_pure (by with_unfolding_all rfl) _ (fun hg => by (try simp at hg); simp [hg, h2_4, h2_7, h2_9, h2_10, g2_0, g2_1, g2_2, n2_0, n2_1, n2_2, n2_3, n2_4, n2_5, f13, f16, f19]; rfl) ?_)
                refine condK_spec (eqI x14.Fn 9) (by first | rfl | (simp [h2_4, h2_7, h2_9, h2_10, g2_0, g2_1, g2_2, n2_0, n2_1, n2_2, n2_3, n2_4, n2_5, f13, f16, f19]; done) | (simp [andB, orB, eqI, ltI, Int.natCast_inj, h2_4, h2_7, h2_9, h2_10, g2_0, g2_1, g2_2, n2_0, n2_1, n2_2, n2_3, n2_4, n2_5, f13, f16, f19]; done)) (fun h43 => ?_) (fun h43 => ?_)
                · replace e37 := condT h43 e37
                  repeat (first | simp [h2_4, h2_7, h2_9, h2_10, g2_0, g2_1, g2_2, n2_0, n2_1, n2_2, n2_3, n2_4, n2_5, f13, f16, f19] | with_reducible refine awp_reg ?_ | with_reducible refine awp_draw ?_ | with_reducible refine ord_l (by kernel_rfl) ?_ | with_reducible refine ord_e (by kernel_rfl) ?_ | with_reducible refine ord_c (by kernel_rfl) ?_ | with_reducible refine ord_d (by kernel_rfl) ?_ | with_reducible refine And.intro (by omega) ?_ | with_reducible refine optF_if (by omega) ?_ | with_reducible refine gsel_pure (by with_unfolding_all rfl) _ (fun hg => by (try simp at hg); first | (simp [hg, h2_4, h2_7, h2_9, h2_10, g2_0, g2_1, g2_2, n2_0, n2_1, n2_2, n2_3, n2_4, n2_5, f13, f16, f19]; rfl) | (simp [h2_4, h2_7, h2_9, h2_10, g2_0, g2_1, g2_2, n2_0, n2_1, n2_2, n2_3, n2_4, n2_5, f13, f16, f19]; simp only [if_pos hg]; simp [h2_4, h2_7, h2_9, h2_10, g2_0, g2_1, g2_2, n2_0, n2_1, n2_2, n2_3, n2_4, n2_5, f13, f16, f19]; rfl)) ?_ | with_reducible refine dskip_intro ?_ | with_reducible refine dsel_pure (by with_unfolding_all rfl) _ (fun hg => by (try simp at hg); simp [hg, h2_4, h2_7, h2_9, h2_10, g2_0, g2_1, g2_2, n2_0, n2_1, n2_2, n2_3, n2_4, n2_5, f13, f16, f19]; rfl) ?_)
                  exact hK39 10 _ _ (Gh.refl _) ⟨e37, by simp [St.frz, St.pur, h2_4, h2_7, h2_9, h2_10, g2_0, g2_1, g2_2, n2_0, n2_1, n2_2, n2_3, n2_4, n2_5, f13, f16, f19], by simp [St.frz, St.pur, h2_4, h2_7, h2_9, h2_10, g2_0, g2_1, g2_2, n2_0, n2_1, n2_2, n2_3, n2_4, n2_5, f13, f16, f19], by simp [St.frz, St.pur, h2_4, h2_7, h2_9, h2_10, g2_0, g2_1, g2_2, n2_0, n2_1, n2_2, n2_3, n2_4, n2_5, f13, f16, f19], by simp [St.frz, St.pur, h2_4, h2_7, h2_9, h2_10, g2_0, g2_1, g2_2, n2_0, n2_1, n2_2, n2_3, n2_4, n2_5, f13, f16, f19], by simp [St.frz, St.pur, h2_4, h2_7, h2_9, h2_10, g2_0, g2_1, g2_2, n2_0, n2_1, n2_2, n2_3, n2_4, n2_5, f13, f16, f19], by simp [St.frz, St.pur, h2_4, h2_7, h2_9, h2_10, g2_0, g2_1, g2_2, n2_0, n2_1, n2_2, n2_3, n2_4, n2_5, f13, f16, f19], by simp [St.frz, St.pur, h2_4, h2_7, h2_9, h2_10, g2_0, g2_1, g2_2, n2_0, n2_1, n2_2, n2_3, n2_4, n2_5, f13, f16, f19], by first | (simp; done) | (simp; omega) | omega⟩
                · replace e37 := condF h43 e37
                  repeat (first | simp [h2_4, h2_7, h2_9, h2_10, g2_0, g2_1, g2_2, n2_0, n2_1, n2_2, n2_3, n2_4, n2_5, f13, f16, f19] | with_reducible refine awp_reg ?_ | with_reducible refine awp_draw ?_ | with_reducible refine ord_l (by kernel_rfl) ?_ | with_reducible refine ord_e (by kernel_rfl) ?_ | with_reducible refine ord_c (by kernel_rfl) ?_ | with_reducible refine ord_d (by kernel_rfl) ?_ | with_reducible refine And.intro (by omega) ?_ | with_reducible refine optF_if (by omega) ?_ | with_reducible refine gsel_pure (by with_unfolding_all rfl) _ (fun hg => by (try simp at hg); first | (simp [hg, h2_4, h2_7, h2_9, h2_10, g2_0, g2_1, g2_2, n2_0, n2_1, n2_2, n2_3, n2_4, n2_5, f13, f16, f19]; rfl) | (simp [h2_4, h2_7, h2_9, h2_10, g2_0, g2_1, g2_2, n2_0, n2_1, n2_2, n2_3, n2_4, n2_5, f13, f16, f19]; simp only [if_pos hg]; simp [h2_4, h2_7, h2_9, h2_10, g2_0, g2_1, g2_2, n2_0, n2_1, n2_2, n2_3, n2_4, n2_5, f13, f16, f19]; rfl)) ?_ | with_reducible refine dskip_intro ?_ | with_reducible refine dsel_pure (by with_unfolding_all rfl) _ (fun hg => by (try simp at hg); simp [hg, h2_4, h2_7, h2_9, h2_10, g2_0, g2_1, g2_2, n2_0, n2_1, n2_2, n2_3, n2_4, n2_5, f13, f16, f19]; rfl) ?_)
                  refine condK_spec (eqI x14.Fn 10) (by first | rfl | (simp [h2_4, h2_7, h2_9, h2_10, g2_0, g2_1, g2_2, n2_0, n2_1, n2_2, n2_3, n2_4, n2_5, f13, f16, f19]; done) | (simp [andB, orB, eqI, ltI, Int.natCast_inj, h2_4, h2_7, h2_9, h2_10, g2_0, g2_1, g2_2, n2_0, n2_1, n2_2, n2_3, n2_4, n2_5, f13, f16, f19]; done)) (fun h44 => ?_) (fun h44 => ?_)
                  · replace e37 := condT h44 e37
                    repeat (first | simp [h2_4, h2_7, h2_9, h2_10, g2_0, g2_1, g2_2, n2_0, n2_1, n2_2, n2_3, n2_4, n2_5, f13, f16, f19] | with_reducible refine awp_reg ?_ | with_reducible refine awp_draw ?_ | with_reducible refine ord_l (by kernel_rfl) ?_ | with_reducible refine ord_e (by kernel_rfl) ?_ | with_reducible refine ord_c (by kernel_rfl) ?_ | with_reducible refine ord_d (by kernel_rfl) ?_ | with_reducible refine And.intro (by omega) ?_ | with_reducible refine optF_if (by omega) ?_ | with_reducible refine gsel_pure (by with_unfolding_all rfl) _ (fun hg => by (try simp at hg); first | (simp [hg, h2_4, h2_7, h2_9, h2_10, g2_0, g2_1, g2_2, n2_0, n2_1, n2_2, n2_3, n2_4, n2_5, f13, f16, f19]; rfl) | (simp [h2_4, h2_7, h2_9, h2_10, g2_0, g2_1, g2_2, n2_0, n2_1, n2_2, n2_3, n2_4, n2_5, f13, f16, f19]; simp only [if_pos hg]; simp [h2_4, h2_7, h2_9, h2_10, g2_0, g2_1, g2_2, n2_0, n2_1, n2_2, n2_3, n2_4, n2_5, f13, f16, f19]; rfl)) ?_ | with_reducible refine dskip_intro ?_ | with_reducible refine dsel_pure (by with_unfolding_all rfl) _ (fun hg => by (try simp at hg); simp [hg, h2_4, h2_7, h2_9, h2_10, g2_0, g2_1, g2_2, n2_0, n2_1, n2_2, n2_3, n2_4, n2_5, f13, f16, f19]; rfl) ?_)
                    exact hK39 9 _ _ (Gh.refl _) ⟨e37, by simp [St.frz, St.pur, h2_4, h2_7, h2_9, h2_10, g2_0, g2_1, g2_2, n2_0, n2_1, n2_2, n2_3, n2_4, n2_5, f13, f16, f19], by simp [St.frz, St.pur, h2_4, h2_7, h2_9, h2_10, g2_0, g2_1, g2_2, n2_0, n2_1, n2_2, n2_3, n2_4, n2_5, f13, f16, f19], by simp [St.frz, St.pur, h2_4, h2_7, h2_9, h2_10, g2_0, g2_1, g2_2, n2_0, n2_1, n2_2, n2_3, n2_4, n2_5, f13, f16, f19], by simp [St.frz, St.pur, h2_4, h2_7, h2_9, h2_10, g2_0, g2_1, g2_2, n2_0, n2_1, n2_2, n2_3, n2_4, n2_5, f13, f16, f19], by simp [St.frz, St.pur, h2_4, h2_7, h2_9, h2_10, g2_0, g2_1, g2_2, n2_0, n2_1, n2_2, n2_3, n2_4, n2_5, f13, f16, f19], by simp [St.frz, St.pur, h2_4, h2_7, h2_9, h2_10, g2_0, g2_1, g2_2, n2_0, n2_1, n2_2, n2_3, n2_4, n2_5, f13, f16, f19], by simp [St.frz, St.pur, h2_4, h2_7, h2_9, h2_10, g2_0, g2_1, g2_2, n2_0, n2_1, n2_2, n2_3, n2_4, n2_5, f13, f16, f19], by first | (simp; done) | (simp; omega) | omega⟩
                  · replace e37 := condF h44 e37
                    repeat (first | simp [h2_4, h2_7, h2_9, h2_10, g2_0, g2_1, g2_2, n2_0, n2_1, n2_2, n2_3, n2_4, n2_5, f13, f16, f19] | with_reducible refine awp_reg ?_ | with_reducible refine awp_draw ?_ | with_reducible refine ord_l (by kernel_rfl) ?_ | with_reducible refine ord_e (by kernel_rfl) ?_ | with_reducible refine ord_c (by kernel_rfl) ?_ | with_reducible refine ord_d (by kernel_rfl) ?_ | with_reducible refine And.intro (by omega) ?_ | with_reducible refine optF_if (by omega) ?_ | with_reducible refine gsel_pure (by with_unfolding_all rfl) _ (fun hg => by (try simp at hg); first | (simp [hg, h2_4, h2_7, h2_9, h2_10, g2_0, g2_1, g2_2, n2_0, n2_1, n2_2, n2_3, n2_4, n2_5, f13, f16, f19]; rfl) | (simp [h2_4, h2_7, h2_9, h2_10, g2_0, g2_1, g2_2, n2_0, n2_1, n2_2, n2_3, n2_4, n2_5, f13, f16, f19]; simp only [if_pos hg]; simp [h2_4, h2_7, h2_9, h2_10, g2_0, g2_1, g2_2, n2_0, n2_1, n2_2, n2_3, n2_4, n2_5, f13, f16, f19]; rfl)) ?_ | with_reducible refine dskip_intro ?_ | with_reducible refine dsel_pure (by with_unfolding_all rfl) _ (fun hg => by (try simp at hg); simp [hg, h2_4, h2_7, h2_9, h2_10, g2_0, g2_1, g2_2, n2_0, n2_1, n2_2, n2_3, n2_4, n2_5, f13, f16, f19]; rfl) ?_)
                    exact hK39 0 _ _ (Gh.refl _) ⟨e37, by simp [St.frz, St.pur, h2_4, h2_7, h2_9, h2_10, g2_0, g2_1, g2_2, n2_0, n2_1, n2_2, n2_3, n2_4, n2_5, f13, f16, f19], by simp [St.frz, St.pur, h2_4, h2_7, h2_9, h2_10, g2_0, g2_1, g2_2, n2_0, n2_1, n2_2, n2_3, n2_4, n2_5, f13, f16, f19], by simp [St.frz, St.pur, h2_4, h2_7, h2_9, h2_10, g2_0, g2_1, g2_2, n2_0, n2_1, n2_2, n2_3, n2_4, n2_5, f13, f16, f19], by simp [St.frz, St.pur, h2_4, h2_7, h2_9, h2_10, g2_0, g2_1, g2_2, n2_0, n2_1, n2_2, n2_3, n2_4, n2_5, f13, f16, f19], by simp [St.frz, St.pur, h2_4, h2_7, h2_9, h2_10, g2_0, g2_1, g2_2, n2_0, n2_1, n2_2, n2_3, n2_4, n2_5, f13, f16, f19], by simp [St.frz, St.pur, h2_4, h2_7, h2_9, h2_10, g2_0, g2_1, g2_2, n2_0, n2_1, n2_2, n2_3, n2_4, n2_5, f13, f16, f19], by simp [St.frz, St.pur, h2_4, h2_7, h2_9, h2_10, g2_0, g2_1, g2_2, n2_0, n2_1, n2_2, n2_3, n2_4, n2_5, f13, f16, f19], by first | (simp; done) | (simp; omega) | omega⟩
          · obtain ⟨e37, h4_4, h4_7, h4_9, h4_10, g4_0, g4_1, g4_2, n4_g⟩ := hp
            obtain rfl := Option.some.inj e37
            try dsimp only at hs
            have n4_0 : ¬ (σ3.gen = 0) := by omega
            have n4_1 : ¬ (σ3.gen = 1) := by omega
            have n4_2 : ¬ (σ3.gen = 2) := by omega
            have n4_3 : ¬ (σ3.gen = 3) := by omega
            have n4_4 : ¬ (σ3.gen = 4) := by omega
            have n4_5 : ¬ (σ3.gen = 5) := by omega
            repeat (first | simp [h4_4, h4_7, h4_9, h4_10, g4_0, g4_1, g4_2, n4_0, n4_1, n4_2, n4_3, n4_4, n4_5, f13, f16, f19] | with_reducible refine awp_reg ?_ | with_reducible refine awp_draw ?_ | with_reducible refine ord_l (by kernel_rfl) ?_ | with_reducible refine ord_e (by kernel_rfl) ?_ | with_reducible refine ord_c (by kernel_rfl) ?_ | with_reducible refine ord_d (by kernel_rfl) ?_ | with_reducible refine And.intro (by omega) ?_ | with_reducible refine optF_if (by omega) ?_ | with_reducible refine gsel_pure (by with_unfolding_all rfl) _ (fun hg => by (try simp at hg); first | (simp [hg, h4_4, h4_7, h4_9, h4_10, g4_0, g4_1, g4_2, n4_0, n4_1, n4_2, n4_3, n4_4, n4_5, f13, f16, f19]; rfl) | (simp [h4_4, h4_7, h4_9, h4_10, g4_0, g4_1, g4_2, n4_0, n4_1, n4_2, n4_3, n4_4, n4_5, f13, f16, f19]; simp only [if_pos hg]; simp [h4_4, h4_7, h4_9, h4_10, g4_0, g4_1, g4_2, n4_0, n4_1, n4_2, n4_3, n4_4, n4_5, f13, f16, f19]; rfl)) ?_ | with_reducible refine dskip_intro ?_ | with_reducible refine dsel_pure (by with_unfolding_all rfl) _ (fun hg => by (try simp at hg); simp [hg, h4_4, h4_7, h4_9, h4_10, g4_0, g4_1, g4_2, n4_0, n4_1, n4_2, n4_3, n4_4, n4_5, f13, f16, f19]; rfl) ?_)
            refine condK_spec (orB (orB (eqI ((k36 : Nat) : Int) 0) (eqI i26 x14.A)) (andB (eqI x14.B x11.A) (orB (eqI x14.Fn 9) (eqI x14.Fn 10)))) (by first | rfl | (simp [h4_4, h4_7, h4_9, h4_10, g4_0, g4_1, g4_2, n4_0, n4_1, n4_2, n4_3, n4_4, n4_5, f13, f16, f19]; done) | (simp [andB, orB, eqI, ltI, Int.natCast_inj, h4_4, h4_7, h4_9, h4_10, g4_0, g4_1, g4_2, n4_0, n4_1, n4_2, n4_3, n4_4, n4_5, f13, f16, f19]; done)) (fun h45 => ?_) (fun h45 => ?_)
            · replace hs := condT h45 hs
              repeat (first | simp [h4_4, h4_7, h4_9, h4_10, g4_0, g4_1, g4_2, n4_0, n4_1, n4_2, n4_3, n4_4, n4_5, f13, f16, f19] | with_reducible refine awp_reg ?_ | with_reducible refine awp_draw ?_ | with_reducible refine ord_l (by kernel_rfl) ?_ | with_reducible refine ord_e (by kernel_rfl) ?_ | with_reducible refine ord_c (by kernel_rfl) ?_ | with_reducible refine ord_d (by kernel_rfl) ?_ | with_reducible refine And.intro (by omega) ?_ | with_reducible refine optF_if (by omega) ?_ | with_reducible refine gsel_pure (by with_unfolding_all rfl) _ (fun hg => by (try simp at hg); first | (simp [hg, h4_4, h4_7, h4_9, h4_10, g4_0, g4_1, g4_2, n4_0, n4_1, n4_2, n4_3, n4_4, n4_5, f13, f16, f19]; rfl) | (simp [h4_4, h4_7, h4_9, h4_10, g4_0, g4_1, g4_2, n4_0, n4_1, n4_2, n4_3, n4_4, n4_5, f13, f16, f19]; simp only [if_pos hg]; simp [h4_4, h4_7, h4_9, h4_10, g4_0, g4_1, g4_2, n4_0, n4_1, n4_2, n4_3, n4_4, n4_5, f13, f16, f19]; rfl)) ?_ | with_reducible refine dskip_intro ?_ | with_reducible refine dsel_pure (by with_unfolding_all rfl) _ (fun hg => by (try simp at hg); simp [hg, h4_4, h4_7, h4_9, h4_10, g4_0, g4_1, g4_2, n4_0, n4_1, n4_2, n4_3, n4_4, n4_5, f13, f16, f19]; rfl) ?_)
              obtain rfl := Option.some.inj hs
              refine hQ _ _ (ret2g _ (Gh.refl _) (by simp [St.frz, St.pur, h4_4, h4_7, h4_9, h4_10, g4_0, g4_1, g4_2, n4_0, n4_1, n4_2, n4_3, n4_4, n4_5, f13, f16, f19]; rfl) (by first | rfl | (simp [St.frz, St.pur, h4_4, h4_7, h4_9, h4_10, g4_0, g4_1, g4_2, n4_0, n4_1, n4_2, n4_3, n4_4, n4_5, f13, f16, f19]; done) | (rw [if_pos (by first | omega | (simp; omega))]; simp [St.frz, St.pur, h4_4, h4_7, h4_9, h4_10, g4_0, g4_1, g4_2, n4_0, n4_1, n4_2, n4_3, n4_4, n4_5, f13, f16, f19]; first | omega | exact List.take_of_length_le (by simp; omega) | skip)) (by simp))
            · replace hs := condF h45 hs
              repeat (first | simp [h4_4, h4_7, h4_9, h4_10, g4_0, g4_1, g4_2, n4_0, n4_1, n4_2, n4_3, n4_4, n4_5, f13, f16, f19] | with_reducible refine awp_reg ?_ | with_reducible refine awp_draw ?_ | with_reducible refine ord_l (by kernel_rfl) ?_ | with_reducible refine ord_e (by kernel_rfl) ?_ | with_reducible refine ord_c (by kernel_rfl) ?_ | with_reducible refine ord_d (by kernel_rfl) ?_ | with_reducible refine And.intro (by omega) ?_ | with_reducible refine optF_if (by omega) ?_ | with_reducible refine gsel_pure (by with_unfolding_all rfl) _ (fun hg => by (try simp at hg); first | (simp [hg, h4_4, h4_7, h4_9, h4_10, g4_0, g4_1, g4_2, n4_0, n4_1, n4_2, n4_3, n4_4, n4_5, f13, f16, f19]; rfl) | (simp [h4_4, h4_7, h4_9, h4_10, g4_0, g4_1, g4_2, n4_0, n4_1, n4_2, n4_3, n4_4, n4_5, f13, f16, f19]; simp only [if_pos hg]; simp [h4_4, h4_7, h4_9, h4_10, g4_0, g4_1, g4_2, n4_0, n4_1, n4_2, n4_3, n4_4, n4_5, f13, f16, f19]; rfl)) ?_ | with_reducible refine dskip_intro ?_ | with_reducible refine dsel_pure (by with_unfolding_all rfl) _ (fun hg => by (try simp at hg); simp [hg, h4_4, h4_7, h4_9, h4_10, g4_0, g4_1, g4_2, n4_0, n4_1, n4_2, n4_3, n4_4, n4_5, f13, f16, f19]; rfl) ?_)
              obtain rfl := Option.some.inj hs
              refine hQ _ _ (ret2g _ (Gh.refl _) (by simp [St.frz, St.pur, h4_4, h4_7, h4_9, h4_10, g4_0, g4_1, g4_2, n4_0, n4_1, n4_2, n4_3, n4_4, n4_5, f13, f16, f19]; rfl) (by first | rfl | (simp [St.frz, St.pur, h4_4, h4_7, h4_9, h4_10, g4_0, g4_1, g4_2, n4_0, n4_1, n4_2, n4_3, n4_4, n4_5, f13, f16, f19]; done) | (rw [if_pos (by first | omega | (simp; omega))]; simp [St.frz, St.pur, h4_4, h4_7, h4_9, h4_10, g4_0, g4_1, g4_2, n4_0, n4_1, n4_2, n4_3, n4_4, n4_5, f13, f16, f19]; first | omega | exact List.take_of_length_le (by simp; omega) | skip)) (by simp))
end Go.Dc
end
section
set_option linter.all false
namespace Go.Dc
open Go Go.Hw Go.Proofs
set_option maxRecDepth 100000
def r14_Find_L2 (a0 : Program) (i750 : Int) : Nat → (List Spin) → Int → Option (List Spin)
  | 0, _, _ => none
  | q980 + 1, l958, i959 => Option.bind (getI a0.Funcs i750) (fun x984 => cond (ltI i959 ((x984.Code.length : Nat) : Int)) (Option.bind (r14_Condition x984 i959) (fun y989 => cond y989.2 (Option.bind (some ([({ Func := i750, First := i959, Last := IntKind.i64.wrap (i959 + 2) } : Spin)])) (fun l992 => guardO (limB 24 (l958.length + l992.length)) (Option.bind (some (l958 ++ l992)) (fun l995 => r14_Find_L2 a0 i750 q980 l995 (IntKind.i64.wrap (i959 + 1)))))) (r14_Find_L2 a0 i750 q980 l958 (IntKind.i64.wrap (i959 + 1))))) (some (l958)))

def r14_Find_L1 (fuelN : Nat) (a0 : Program) : Nat → (List Spin) → Int → Option (List Spin)
  | 0, _, _ => none
  | q879 + 1, l749, i750 => cond (ltI i750 ((a0.Funcs.length : Nat) : Int)) (Option.bind (α := (List Spin)) (Option.bind (r14_Find_L2 a0 i750 fuelN l749 0) (fun l973 => some (l973))) (fun l938 => r14_Find_L1 fuelN a0 q879 l938 (IntKind.i64.wrap (i750 + 1)))) (some (l749))

def r14_Find (fuelN : Nat) (a0 : Program) : Option ((List Spin) × Int) :=
  Option.bind (r08_Check fuelN a0) (fun y1 => cond (!(eqI y1.1 0)) (some ([], y1.1)) (Option.bind (α := (List Spin)) (Option.bind (r14_Find_L1 fuelN a0 fuelN [] 0) (fun l872 => some (l872))) (fun l498 => some (l498, 0))))

set_option maxHeartbeats 2000000 in
theorem at_r14_Find {fuelN : Nat} {a0 : Program} {r : (List Spin) × Int} (hs : r14_Find fuelN a0 = some r) : At Tryd.prog 37 [.agg [.p (.sl a0.Vars.length (encL a0.Vars)), .p (.sl a0.Mutexes.length (encL a0.Mutexes)), .p (.sl a0.Conds.length (encL a0.Conds)), .p (.sl a0.Funcs.length (encL a0.Funcs)), .p (.sl a0.Threads.length (encL a0.Threads))]] (.tup [.cell (.p (.sl r.1.length (encL r.1))), iV .i64 r.2]) := by
  refine at_bound (by kernel_rfl) fun hb => ?_
  have hb1 : LenOk (.sl a0.Vars.length (encL a0.Vars)) := hb (.agg [.p (.sl a0.Vars.length (encL a0.Vars)), .p (.sl a0.Mutexes.length (encL a0.Mutexes)), .p (.sl a0.Conds.length (encL a0.Conds)), .p (.sl a0.Funcs.length (encL a0.Funcs)), .p (.sl a0.Threads.length (encL a0.Threads))]) (by simp) (.p (.sl a0.Vars.length (encL a0.Vars))) (by simp)
  have hb2 : LenOk (.sl a0.Mutexes.length (encL a0.Mutexes)) := hb (.agg [.p (.sl a0.Vars.length (encL a0.Vars)), .p (.sl a0.Mutexes.length (encL a0.Mutexes)), .p (.sl a0.Conds.length (encL a0.Conds)), .p (.sl a0.Funcs.length (encL a0.Funcs)), .p (.sl a0.Threads.length (encL a0.Threads))]) (by simp) (.p (.sl a0.Mutexes.length (encL a0.Mutexes))) (by simp)
  have hb3 : LenOk (.sl a0.Conds.length (encL a0.Conds)) := hb (.agg [.p (.sl a0.Vars.length (encL a0.Vars)), .p (.sl a0.Mutexes.length (encL a0.Mutexes)), .p (.sl a0.Conds.length (encL a0.Conds)), .p (.sl a0.Funcs.length (encL a0.Funcs)), .p (.sl a0.Threads.length (encL a0.Threads))]) (by simp) (.p (.sl a0.Conds.length (encL a0.Conds))) (by simp)
  have hb4 : LenOk (.sl a0.Funcs.length (encL a0.Funcs)) := hb (.agg [.p (.sl a0.Vars.length (encL a0.Vars)), .p (.sl a0.Mutexes.length (encL a0.Mutexes)), .p (.sl a0.Conds.length (encL a0.Conds)), .p (.sl a0.Funcs.length (encL a0.Funcs)), .p (.sl a0.Threads.length (encL a0.Threads))]) (by simp) (.p (.sl a0.Funcs.length (encL a0.Funcs))) (by simp)
  have hb5 : LenOk (.sl a0.Threads.length (encL a0.Threads)) := hb (.agg [.p (.sl a0.Vars.length (encL a0.Vars)), .p (.sl a0.Mutexes.length (encL a0.Mutexes)), .p (.sl a0.Conds.length (encL a0.Conds)), .p (.sl a0.Funcs.length (encL a0.Funcs)), .p (.sl a0.Threads.length (encL a0.Threads))]) (by simp) (.p (.sl a0.Threads.length (encL a0.Threads))) (by simp)
  refine at_code mixed Tryd.func37 (by kernel_rfl) rfl (by kernel_rfl) rfl fun Q hQ => ?_
  rw [r14_Find] at hs
  repeat (first | simp | with_reducible refine awp_reg ?_ | with_reducible refine And.intro (by omega) ?_ | with_reducible refine optF_if (by omega) ?_)
  obtain ⟨y1, hx2, hs⟩ := bindO hs
  try dsimp only at hs
  refine callK_pure (at_r08_Check hx2) (by (first | simp | simp (disch := omega) []); try rfl) (by simp) (by simp) ?_
  repeat (first | simp | with_reducible refine awp_reg ?_ | with_reducible refine And.intro (by omega) ?_ | with_reducible refine optF_if (by omega) ?_)
  refine condK_spec (!(eqI y1.1 0)) (by first | rfl | (simp; done) | (simp [andB, orB, eqI, ltI, Int.natCast_inj]; done)) (fun h3 => ?_) (fun h3 => ?_)
  · replace hs := condT h3 hs
    repeat (first | simp | with_reducible refine awp_reg ?_ | with_reducible refine And.intro (by omega) ?_ | with_reducible refine optF_if (by omega) ?_)
    obtain rfl := Option.some.inj hs
    refine hQ _ _ (ret2g _ (Gh.unz _) (by simp [St.frz, St.pur]; rfl) (by first | rfl | (simp [St.frz, St.pur]; done) | (rw [if_pos (by first | omega | (simp; omega))]; simp [St.frz, St.pur]; first | omega | exact List.take_of_length_le (by simp; omega) | skip)) (by simp))
  · replace hs := condF h3 hs
    repeat (first | simp [-awp_cond_eq, -awp_block_eq] | with_reducible refine awp_reg ?_ | with_reducible refine And.intro (by omega) ?_ | with_reducible refine optF_if (by omega) ?_)
    obtain ⟨o500, e499, hs⟩ := bindO hs
    try dsimp only at hs
    refine awp_cutK (fun (v : (List Spin)) (σ : St) => some (v) = some o500 ∧ σ.env 7 = .cell (.sl (.l 17) 0 3 v.length) ∧ σ.hp (.l 17) = some (.pure (encL v)) ∧ 5 ≤ σ.gen) (by rfl) (fun Q hK501 hX502 => ?_) (fun l498 σ27 hp => ?_)
    · repeat (first | simp | with_reducible refine awp_reg ?_ | with_reducible refine And.intro (by omega) ?_ | with_reducible refine optF_if (by omega) ?_)
      obtain ⟨o874, e873, e499⟩ := bindO e499
      try dsimp only at e499
      refine awp_loopW (fun (v : Nat × (List Spin) × Int) (σ : St) => r14_Find_L1 fuelN a0 v.1 v.2.1 v.2.2 = some o874 ∧ σ.env 1 = .cell (.ref (.o 1 0 0) 0) ∧ σ.env 7 = .cell (.sl (.l 50) 0 3 v.2.1.length) ∧ σ.env 8 = iV .i64 v.2.2 ∧ σ.hp (.l 50) = some (.pure (encL v.2.1)) ∧ σ.hp (.o 1 0 0) = some (.cells [.p (.sl a0.Vars.length (encL a0.Vars)), .p (.sl a0.Mutexes.length (encL a0.Mutexes)), .p (.sl a0.Conds.length (encL a0.Conds)), .p (.sl a0.Funcs.length (encL a0.Funcs)), .p (.sl a0.Threads.length (encL a0.Threads))]) ∧ 5 ≤ σ.gen) (fun v => v.1) _ (Gh.void _ (.l 50) 7 3 rfl (by simp)) (fuelN, [], 0) ⟨e873, by simp [St.frz, St.pur], by simp [St.frz, St.pur], by simp [St.frz, St.pur], by simp [St.frz, St.pur], by simp [St.frz, St.pur], by first | (simp; done) | (simp; omega) | omega⟩ fun v σ48 hp L875 hL876 => ?_
      obtain ⟨q878, l749, i750⟩ := v
      dsimp only at hp hL876
      obtain ⟨e873, h47_1, h47_7, h47_8, g47_0, g47_1, n47_g⟩ := hp
      have n47_0 : ¬ (σ48.gen = 0) := by omega
      rcases q878 with _ | q879
      · rw [r14_Find_L1] at e873; cases e873
      · rw [r14_Find_L1] at e873; try dsimp only at e873
        repeat (first | simp [h47_1, h47_7, h47_8, g47_0, g47_1, n47_0] | with_reducible refine awp_reg ?_ | with_reducible refine And.intro (by omega) ?_ | with_reducible refine optF_if (by omega) ?_)
        refine condK_spec (ltI i750 ((a0.Funcs.length : Nat) : Int)) (by first | rfl | (simp [h47_1, h47_7, h47_8, g47_0, g47_1, n47_0]; done) | (simp [andB, orB, eqI, ltI, Int.natCast_inj, h47_1, h47_7, h47_8, g47_0, g47_1, n47_0]; done)) (fun h883 => ?_) (fun h883 => ?_)
        · replace e873 := condT h883 e873
          repeat (first | simp [-awp_cond_eq, -awp_block_eq, h47_1, h47_7, h47_8, g47_0, g47_1, n47_0] | with_reducible refine awp_reg ?_ | with_reducible refine And.intro (by omega) ?_ | with_reducible refine optF_if (by omega) ?_)
          obtain ⟨o940, e939, e873⟩ := bindO e873
          try dsimp only at e873
          refine awp_cutK (fun (v : (List Spin)) (σ : St) => some (v) = some o940 ∧ σ.env 1 = .cell (.ref (.o 1 0 0) 0) ∧ σ.env 7 = .cell (.sl (.l 60) 0 3 v.length) ∧ σ.env 8 = iV .i64 i750 ∧ σ.hp (.l 60) = some (.pure (encL v)) ∧ σ.hp (.o 1 0 0) = some (.cells [.p (.sl a0.Vars.length (encL a0.Vars)), .p (.sl a0.Mutexes.length (encL a0.Mutexes)), .p (.sl a0.Conds.length (encL a0.Conds)), .p (.sl a0.Funcs.length (encL a0.Funcs)), .p (.sl a0.Threads.length (encL a0.Threads))]) ∧ (σ48.gen + 1) ≤ σ.gen) (by rfl) (fun Q hK941 hX942 => ?_) (fun l938 σ51 hp => ?_)
          · repeat (first | simp [h47_1, h47_7, h47_8, g47_0, g47_1, n47_0] | with_reducible refine awp_reg ?_ | with_reducible refine And.intro (by omega) ?_ | with_reducible refine optF_if (by omega) ?_)
            obtain ⟨o975, e974, e939⟩ := bindO e939
            try dsimp only at e939
            refine awp_loopW (fun (v : Nat × (List Spin) × Int) (σ : St) => r14_Find_L2 a0 i750 v.1 v.2.1 v.2.2 = some o975 ∧ σ.env 1 = .cell (.ref (.o 1 0 0) 0) ∧ σ.env 7 = .cell (.sl (.l 64) 0 3 v.2.1.length) ∧ σ.env 8 = iV .i64 i750 ∧ σ.env 9 = iV .i64 v.2.2 ∧ σ.hp (.l 64) = some (.pure (encL v.2.1)) ∧ σ.hp (.o 1 0 0) = some (.cells [.p (.sl a0.Vars.length (encL a0.Vars)), .p (.sl a0.Mutexes.length (encL a0.Mutexes)), .p (.sl a0.Conds.length (encL a0.Conds)), .p (.sl a0.Funcs.length (encL a0.Funcs)), .p (.sl a0.Threads.length (encL a0.Threads))]) ∧ (σ48.gen + 2) ≤ σ.gen) (fun v => v.1) _ (Gh.ren _ (.l 50) (.l 64) (by simp) rfl rfl) (fuelN, l749, 0) ⟨e974, by simp [St.frz, St.pur, h47_1, h47_7, h47_8, g47_0, g47_1, n47_0], by simp [St.frz, St.pur, h47_1, h47_7, h47_8, g47_0, g47_1, n47_0], by simp [St.frz, St.pur, h47_1, h47_7, h47_8, g47_0, g47_1, n47_0], by simp [St.frz, St.pur, h47_1, h47_7, h47_8, g47_0, g47_1, n47_0], by simp [St.frz, St.pur, h47_1, h47_7, h47_8, g47_0, g47_1, n47_0], by simp [St.frz, St.pur, h47_1, h47_7, h47_8, g47_0, g47_1, n47_0], by first | (simp; done) | (simp; omega) | omega⟩ fun v σ54 hp L976 hL977 => ?_
            obtain ⟨q979, l958, i959⟩ := v
            dsimp only at hp hL977
            obtain ⟨e974, h53_1, h53_7, h53_8, h53_9, g53_0, g53_1, n53_g⟩ := hp
            have n53_0 : ¬ (σ54.gen = 0) := by omega
            rcases q979 with _ | q980
            · rw [r14_Find_L2] at e974; cases e974
            · rw [r14_Find_L2] at e974; try dsimp only at e974
              obtain ⟨x984, hx985, e974⟩ := bindO e974
              try dsimp only at e974
              obtain ⟨hx985a, hx985b, hx985c, hx985d⟩ := getI_some hx985
              have f986 : partCV Tryd.prog 22 (encL a0.Funcs) (((i750).toNat) * 2 + 1) = some (.cell (.p (.sl x984.Code.length (encL x984.Code)))) := partCV_enc hx985d (f := 1) (by simp)
              repeat (first | simp [h53_1, h53_7, h53_8, h53_9, g53_0, g53_1, n53_0, f986] | with_reducible refine awp_reg ?_ | with_reducible refine And.intro (by omega) ?_ | with_reducible refine optF_if (by omega) ?_)
              refine condK_spec (ltI i959 ((x984.Code.length : Nat) : Int)) (by first | rfl | (simp [h53_1, h53_7, h53_8, h53_9, g53_0, g53_1, n53_0, f986]; done) | (simp [andB, orB, eqI, ltI, Int.natCast_inj, h53_1, h53_7, h53_8, h53_9, g53_0, g53_1, n53_0, f986]; done)) (fun h987 => ?_) (fun h987 => ?_)
              · replace e974 := condT h987 e974
                have f988 : partCV Tryd.prog 24 (encL a0.Funcs) (((i750).toNat) * 2) = some (.agg [.p (.c (.string x984.Name)), .p (.sl x984.Code.length (encL x984.Code))]) := partCV_enc hx985d (f := 0) (by simp)
                repeat (first | simp [h53_1, h53_7, h53_8, h53_9, g53_0, g53_1, n53_0, f986, f988] | with_reducible refine awp_reg ?_ | with_reducible refine And.intro (by omega) ?_ | with_reducible refine optF_if (by omega) ?_)
                obtain ⟨y989, hx990, e974⟩ := bindO e974
                try dsimp only at e974
                refine callK_pure (at_r14_Condition hx990) (by (first | simp [h53_1, h53_7, h53_8, h53_9, g53_0, g53_1, n53_0, f986, f988] | simp (disch := omega) [h53_1, h53_7, h53_8, h53_9, g53_0, g53_1, n53_0, f986, f988]); try rfl) (by simp) (by simp) ?_
                repeat (first | simp [h53_1, h53_7, h53_8, h53_9, g53_0, g53_1, n53_0, f986, f988] | with_reducible refine awp_reg ?_ | with_reducible refine And.intro (by omega) ?_ | with_reducible refine optF_if (by omega) ?_)
                refine condK_spec y989.2 (by first | rfl | (simp [h53_1, h53_7, h53_8, h53_9, g53_0, g53_1, n53_0, f986, f988]; done) | (simp [andB, orB, eqI, ltI, Int.natCast_inj, h53_1, h53_7, h53_8, h53_9, g53_0, g53_1, n53_0, f986, f988]; done)) (fun h991 => ?_) (fun h991 => ?_)
                · replace e974 := condT h991 e974
                  obtain ⟨l992, hx993, e974⟩ := bindO e974
                  try dsimp only at e974
                  replace hx993 := (Option.some.inj hx993).symm
                  have hx993n : l992.length = 1 := by rw [hx993]; rfl
                  obtain ⟨g994, e974⟩ := guardO_some e974
                  have g994 := limB_t g994
                  obtain ⟨g994a, g994b⟩ := g994
                  obtain ⟨l995, hx996, e974⟩ := bindO e974
                  try dsimp only at e974
                  replace hx996 := (Option.some.inj hx996).symm
                  have hx996n : l995.length = (l958.length + l992.length) := by rw [hx996]; simp
                  have hx996e : encL l995 = encL l958 ++ encL l992 := by rw [hx996]; simp
                  repeat (first | simp [h53_1, h53_7, h53_8, h53_9, g53_0, g53_1, n53_0, f986, f988, hx993, hx996n, hx996e] | with_reducible refine awp_reg ?_ | with_reducible refine And.intro (by omega) ?_ | with_reducible refine optF_if (by omega) ?_)
                  exact hL977 (q980, l995, IntKind.i64.wrap (i959 + 1)) _ _ (Gh.ren _ (.o (σ54.gen + 4) 7 0) (.l 64) (by simp) rfl rfl) ⟨e974, by simp [St.frz, St.pur, h53_1, h53_7, h53_8, h53_9, g53_0, g53_1, n53_0, f986, f988, hx993, hx996n, hx996e], by simp [St.frz, St.pur, h53_1, h53_7, h53_8, h53_9, g53_0, g53_1, n53_0, f986, f988, hx993, hx996n, hx996e], by simp [St.frz, St.pur, h53_1, h53_7, h53_8, h53_9, g53_0, g53_1, n53_0, f986, f988, hx993, hx996n, hx996e], by simp [St.frz, St.pur, h53_1, h53_7, h53_8, h53_9, g53_0, g53_1, n53_0, f986, f988, hx993, hx996n, hx996e], by simp [St.frz, St.pur, h53_1, h53_7, h53_8, h53_9, g53_0, g53_1, n53_0, f986, f988, hx993, hx996n, hx996e], by simp [St.frz, St.pur, h53_1, h53_7, h53_8, h53_9, g53_0, g53_1, n53_0, f986, f988, hx993, hx996n, hx996e], by first | (simp; done) | (simp; omega) | omega⟩ (by omega)
                · replace e974 := condF h991 e974
                  repeat (first | simp [h53_1, h53_7, h53_8, h53_9, g53_0, g53_1, n53_0, f986, f988] | with_reducible refine awp_reg ?_ | with_reducible refine And.intro (by omega) ?_ | with_reducible refine optF_if (by omega) ?_)
                  exact hL977 (q980, l958, IntKind.i64.wrap (i959 + 1)) _ _ (Gh.refl _) ⟨e974, by simp [St.frz, St.pur, h53_1, h53_7, h53_8, h53_9, g53_0, g53_1, n53_0, f986, f988], by simp [St.frz, St.pur, h53_1, h53_7, h53_8, h53_9, g53_0, g53_1, n53_0, f986, f988], by simp [St.frz, St.pur, h53_1, h53_7, h53_8, h53_9, g53_0, g53_1, n53_0, f986, f988], by simp [St.frz, St.pur, h53_1, h53_7, h53_8, h53_9, g53_0, g53_1, n53_0, f986, f988], by simp [St.frz, St.pur, h53_1, h53_7, h53_8, h53_9, g53_0, g53_1, n53_0, f986, f988], by simp [St.frz, St.pur, h53_1, h53_7, h53_8, h53_9, g53_0, g53_1, n53_0, f986, f988], by first | (simp; done) | (simp; omega) | omega⟩ (by omega)
              · replace e974 := condF h987 e974
                repeat (first | simp [h53_1, h53_7, h53_8, h53_9, g53_0, g53_1, n53_0, f986] | with_reducible refine awp_reg ?_ | with_reducible refine And.intro (by omega) ?_ | with_reducible refine optF_if (by omega) ?_)
                obtain rfl := Option.some.inj e974
                try dsimp only at e939
                exact hK941 l958 _ _ (Gh.ren _ (.l 64) (.l 60) (by simp) rfl rfl) ⟨e939, by simp [St.frz, St.pur, h53_1, h53_7, h53_8, h53_9, g53_0, g53_1, n53_0, f986], by simp [St.frz, St.pur, h53_1, h53_7, h53_8, h53_9, g53_0, g53_1, n53_0, f986], by simp [St.frz, St.pur, h53_1, h53_7, h53_8, h53_9, g53_0, g53_1, n53_0, f986], by simp [St.frz, St.pur, h53_1, h53_7, h53_8, h53_9, g53_0, g53_1, n53_0, f986], by simp [St.frz, St.pur, h53_1, h53_7, h53_8, h53_9, g53_0, g53_1, n53_0, f986], by first | (simp; done) | (simp; omega) | omega⟩
          · obtain ⟨e939, h52_1, h52_7, h52_8, g52_0, g52_1, n52_g⟩ := hp
            obtain rfl := Option.some.inj e939
            try dsimp only at e873
            have n52_0 : ¬ (σ51.gen = 0) := by omega
            repeat (first | simp [h52_1, h52_7, h52_8, g52_0, g52_1, n52_0] | with_reducible refine awp_reg ?_ | with_reducible refine And.intro (by omega) ?_ | with_reducible refine optF_if (by omega) ?_)
            exact hL876 (q879, l938, IntKind.i64.wrap (i750 + 1)) _ _ (Gh.ren _ (.l 60) (.l 50) (by simp) rfl rfl) ⟨e873, by simp [St.frz, St.pur, h52_1, h52_7, h52_8, g52_0, g52_1, n52_0], by simp [St.frz, St.pur, h52_1, h52_7, h52_8, g52_0, g52_1, n52_0], by simp [St.frz, St.pur, h52_1, h52_7, h52_8, g52_0, g52_1, n52_0], by simp [St.frz, St.pur, h52_1, h52_7, h52_8, g52_0, g52_1, n52_0], by simp [St.frz, St.pur, h52_1, h52_7, h52_8, g52_0, g52_1, n52_0], by first | (simp; done) | (simp; omega) | omega⟩ (by omega)
        · replace e873 := condF h883 e873
          repeat (first | simp [h47_1, h47_7, h47_8, g47_0, g47_1, n47_0] | with_reducible refine awp_reg ?_ | with_reducible refine And.intro (by omega) ?_ | with_reducible refine optF_if (by omega) ?_)
          obtain rfl := Option.some.inj e873
          try dsimp only at e499
          exact hK501 l749 _ _ (Gh.ren _ (.l 50) (.l 17) (by simp) rfl rfl) ⟨e499, by simp [St.frz, St.pur, h47_1, h47_7, h47_8, g47_0, g47_1, n47_0], by simp [St.frz, St.pur, h47_1, h47_7, h47_8, g47_0, g47_1, n47_0], by first | (simp; done) | (simp; omega) | omega⟩
    · obtain ⟨e499, h28_7, g28_0, n28_g⟩ := hp
      obtain rfl := Option.some.inj e499
      try dsimp only at hs
      repeat (first | simp [h28_7, g28_0] | with_reducible refine awp_reg ?_ | with_reducible refine And.intro (by omega) ?_ | with_reducible refine optF_if (by omega) ?_)
      obtain rfl := Option.some.inj hs
      refine hQ _ _ (ret2g _ (Gh.frz _ (.l 17)) (by simp [St.frz, St.pur, h28_7, g28_0]; rfl) (by first | rfl | (simp [St.frz, St.pur, h28_7, g28_0]; done) | (rw [if_pos (by first | omega | (simp; omega))]; simp [St.frz, St.pur, h28_7, g28_0]; first | omega | exact List.take_of_length_le (by simp; omega) | skip)) (by simp))
end Go.Dc
end
section
set_option linter.all false
namespace Go.Dc
open Go Go.Hw Go.Proofs
set_option maxRecDepth 100000

def law14_AwaitFinds (fuelN : Nat) (a0 : Program) : Option Bool :=
  Option.bind (r08_Small a0) (fun y1 => cond (!y1) (Option.bind (law14_lives fuelN) (fun y4 => some y4)) (Option.bind (await_Find fuelN a0) (fun y6 => Option.bind (r14_Find fuelN a0) (fun y8 => guardO (orB (!(eqI y6.2 y8.2)) ((r14_Same y6.1 y8.1).isSome)) (guardO (orB (!(andB (eqI y6.2 y8.2) ((r14_Same y6.1 y8.1).getD default))) ((law14_lives fuelN).isSome)) (some (andB (andB (eqI y6.2 y8.2) ((r14_Same y6.1 y8.1).getD default)) ((law14_lives fuelN).getD default))))))))

set_option maxHeartbeats 2000000 in
theorem at_law14_AwaitFinds {fuelN : Nat} {a0 : Program} {r : Bool} (hs : law14_AwaitFinds fuelN a0 = some r) : At Tryd.prog 9 [.agg [.p (.sl a0.Vars.length (encL a0.Vars)), .p (.sl a0.Mutexes.length (encL a0.Mutexes)), .p (.sl a0.Conds.length (encL a0.Conds)), .p (.sl a0.Funcs.length (encL a0.Funcs)), .p (.sl a0.Threads.length (encL a0.Threads))]] (bV r) := by
  refine at_bound (by kernel_rfl) fun hb => ?_
  have hb1 : LenOk (.sl a0.Vars.length (encL a0.Vars)) := hb (.agg [.p (.sl a0.Vars.length (encL a0.Vars)), .p (.sl a0.Mutexes.length (encL a0.Mutexes)), .p (.sl a0.Conds.length (encL a0.Conds)), .p (.sl a0.Funcs.length (encL a0.Funcs)), .p (.sl a0.Threads.length (encL a0.Threads))]) (by simp) (.p (.sl a0.Vars.length (encL a0.Vars))) (by simp)
  have hb2 : LenOk (.sl a0.Mutexes.length (encL a0.Mutexes)) := hb (.agg [.p (.sl a0.Vars.length (encL a0.Vars)), .p (.sl a0.Mutexes.length (encL a0.Mutexes)), .p (.sl a0.Conds.length (encL a0.Conds)), .p (.sl a0.Funcs.length (encL a0.Funcs)), .p (.sl a0.Threads.length (encL a0.Threads))]) (by simp) (.p (.sl a0.Mutexes.length (encL a0.Mutexes))) (by simp)
  have hb3 : LenOk (.sl a0.Conds.length (encL a0.Conds)) := hb (.agg [.p (.sl a0.Vars.length (encL a0.Vars)), .p (.sl a0.Mutexes.length (encL a0.Mutexes)), .p (.sl a0.Conds.length (encL a0.Conds)), .p (.sl a0.Funcs.length (encL a0.Funcs)), .p (.sl a0.Threads.length (encL a0.Threads))]) (by simp) (.p (.sl a0.Conds.length (encL a0.Conds))) (by simp)
  have hb4 : LenOk (.sl a0.Funcs.length (encL a0.Funcs)) := hb (.agg [.p (.sl a0.Vars.length (encL a0.Vars)), .p (.sl a0.Mutexes.length (encL a0.Mutexes)), .p (.sl a0.Conds.length (encL a0.Conds)), .p (.sl a0.Funcs.length (encL a0.Funcs)), .p (.sl a0.Threads.length (encL a0.Threads))]) (by simp) (.p (.sl a0.Funcs.length (encL a0.Funcs))) (by simp)
  have hb5 : LenOk (.sl a0.Threads.length (encL a0.Threads)) := hb (.agg [.p (.sl a0.Vars.length (encL a0.Vars)), .p (.sl a0.Mutexes.length (encL a0.Mutexes)), .p (.sl a0.Conds.length (encL a0.Conds)), .p (.sl a0.Funcs.length (encL a0.Funcs)), .p (.sl a0.Threads.length (encL a0.Threads))]) (by simp) (.p (.sl a0.Threads.length (encL a0.Threads))) (by simp)
  refine at_code mixed Tryd.func9 (by kernel_rfl) rfl (by kernel_rfl) rfl fun Q hQ => ?_
  rw [law14_AwaitFinds] at hs
  repeat (first | simp | with_reducible refine awp_reg ?_ | with_reducible refine And.intro (by omega) ?_ | with_reducible refine optF_if (by omega) ?_)
  obtain ⟨y1, hx2, hs⟩ := bindO hs
  try dsimp only at hs
  refine callK_pure (at_r08_Small hx2) (by (first | simp | simp (disch := omega) []); try rfl) (by simp) (by simp) ?_
  repeat (first | simp | with_reducible refine awp_reg ?_ | with_reducible refine And.intro (by omega) ?_ | with_reducible refine optF_if (by omega) ?_)
  refine condK_spec (!y1) (by first | rfl | (simp; done) | (simp [andB, orB, eqI, ltI, Int.natCast_inj]; done)) (fun h3 => ?_) (fun h3 => ?_)
  · replace hs := condT h3 hs
    repeat (first | simp | with_reducible refine awp_reg ?_ | with_reducible refine And.intro (by omega) ?_ | with_reducible refine optF_if (by omega) ?_)
    obtain ⟨y4, hx5, hs⟩ := bindO hs
    try dsimp only at hs
    refine callK_pure (at_law14_lives hx5) (by (first | simp | simp (disch := omega) []); try rfl) (by simp) (by simp) ?_
    repeat (first | simp | with_reducible refine awp_reg ?_ | with_reducible refine And.intro (by omega) ?_ | with_reducible refine optF_if (by omega) ?_)
    obtain rfl := Option.some.inj hs
    refine hQ _ _ (ret2g _ (Gh.refl _) (by simp [St.frz, St.pur]; rfl) (by first | rfl | (simp [St.frz, St.pur]; done) | (rw [if_pos (by first | omega | (simp; omega))]; simp [St.frz, St.pur]; first | omega | exact List.take_of_length_le (by simp; omega) | skip)) (by simp))
  · replace hs := condF h3 hs
    repeat (first | simp | with_reducible refine awp_reg ?_ | with_reducible refine And.intro (by omega) ?_ | with_reducible refine optF_if (by omega) ?_)
    obtain ⟨y6, hx7, hs⟩ := bindO hs
    try dsimp only at hs
    refine callK_pure (at_await_Find hx7) (by (first | simp | simp (disch := omega) []); try rfl) (by simp) (by simp) ?_
    repeat (first | simp | with_reducible refine awp_reg ?_ | with_reducible refine And.intro (by omega) ?_ | with_reducible refine optF_if (by omega) ?_)
    obtain ⟨y8, hx9, hs⟩ := bindO hs
    try dsimp only at hs
    refine callK_pure (at_r14_Find hx9) (by (first | simp | simp (disch := omega) []); try rfl) (by simp) (by simp) ?_
    repeat (first | simp | with_reducible refine awp_reg ?_ | with_reducible refine And.intro (by omega) ?_ | with_reducible refine optF_if (by omega) ?_ | with_reducible refine gsel_pure (by with_unfolding_all rfl) _ (fun hg => by (try simp at hg); first | (simp [hg]; rfl) | (simp; simp only [if_pos hg]; simp; rfl)) ?_)
    obtain ⟨g10, hs⟩ := guardO_some hs
    refine gsel_call (fun hg => at_r14_Same (under_call g10 hg)) (fun hg => by (try simp at hg); (first | simp [hg, id]); try rfl) (fun hg => by (try simp at hg); simp [hg, id]) (by simp) ?_
    repeat (first | simp | with_reducible refine awp_reg ?_ | with_reducible refine And.intro (by omega) ?_ | with_reducible refine optF_if (by omega) ?_ | with_reducible refine gsel_pure (by with_unfolding_all rfl) _ (fun hg => by (try simp at hg); first | (simp [hg]; rfl) | (simp; simp only [if_pos hg]; simp; rfl)) ?_)
    obtain ⟨g11, hs⟩ := guardO_some hs
    refine gsel_call (fun hg => at_law14_lives (under_call g11 hg)) (fun hg => by (try simp at hg); (first | simp [hg, id]); try rfl) (fun hg => by (try simp at hg); simp [hg, id]) (by simp) ?_
    repeat (first | simp | with_reducible refine awp_reg ?_ | with_reducible refine And.intro (by omega) ?_ | with_reducible refine optF_if (by omega) ?_ | with_reducible refine gsel_pure (by with_unfolding_all rfl) _ (fun hg => by (try simp at hg); first | (simp [hg]; rfl) | (simp; simp only [if_pos hg]; simp; rfl)) ?_)
    obtain rfl := Option.some.inj hs
    refine hQ _ _ (ret2g _ (Gh.refl _) (by simp [St.frz, St.pur]; rfl) (by first | rfl | (simp [St.frz, St.pur]; done) | (rw [if_pos (by first | omega | (simp; omega))]; simp [St.frz, St.pur]; first | omega | exact List.take_of_length_le (by simp; omega) | skip)) (by simp))
end Go.Dc
end
section
set_option linter.all false
namespace Go.Dc
open Go Go.Hw Go.Proofs
set_option maxRecDepth 100000
theorem dec9 {H : Type} {n : Nat} {d : DataW H} {c : List CV} (h : cvD Tryd.prog n 9 d = some c) : ∃ x : ByteArray, True ∧ c = Enc.enc x := by
  obtain ⟨m, rfl⟩ := cvD_string Tryd.underlying9 h
  exact ⟨m, trivial, rfl⟩
theorem dec3 {H : Type} {n : Nat} {d : DataW H} {c : List CV} (h : cvD Tryd.prog n 3 d = some c) : ∃ x : Int, (-9223372036854775808 ≤ x ∧ x ≤ 9223372036854775807) ∧ c = Enc.enc x := by
  obtain ⟨m, hm, rfl⟩ := cvD_int Tryd.underlying3 h
  exact ⟨m, by simpa [IntKind.min, IntKind.max, IntKind.signed, IntKind.bits] using hm, rfl⟩
def OkVar (x : Var) : Prop := (fun _ : ByteArray => True) x.Name ∧ (fun x : Int => -9223372036854775808 ≤ x ∧ x ≤ 9223372036854775807) x.Init
theorem dec105 {H : Type} {n : Nat} {d : DataW H} {c : List CV} (h : cvD Tryd.prog n 105 d = some c) : ∃ x : Var, OkVar x ∧ c = Enc.enc x := by
  obtain ⟨m, l, rfl, rfl, hl, h⟩ := cvD_struct Tryd.underlying105 h
  have hl : l.length = 2 := hl
  match l, hl with
  | [d0, d1], _ =>
    simp only [List.zipWith] at h
    obtain ⟨a0, b0, h0, k1, rfl⟩ := concatM_cons h
    obtain ⟨a1, b1, h1, k2, rfl⟩ := concatM_cons k1
    obtain rfl := concatM_nil k2
    obtain ⟨x0, q0, rfl⟩ := dec9 h0
    obtain ⟨x1, q1, rfl⟩ := dec3 h1
    exact ⟨⟨x0, x1⟩, ⟨q0, q1⟩, rfl⟩
theorem dec48 {H : Type} {n : Nat} {d : DataW H} {c : List CV} (h : cvD Tryd.prog n 48 d = some c) : ∃ x : List Var, (∀ y ∈ x, (OkVar) y) ∧ c = Enc.enc x := by
  obtain ⟨L, hQ, rfl⟩ := cvD_sliceQ (g := Enc.enc) (Q := OkVar) Tryd.underlying48 (fun n d c h => dec105 h) h
  exact ⟨L, hQ, rfl⟩
theorem dec49 {H : Type} {n : Nat} {d : DataW H} {c : List CV} (h : cvD Tryd.prog n 49 d = some c) : ∃ x : List ByteArray, (∀ y ∈ x, (fun _ : ByteArray => True) y) ∧ c = Enc.enc x := by
  obtain ⟨L, hQ, rfl⟩ := cvD_sliceQ (g := Enc.enc) (Q := fun _ : ByteArray => True) Tryd.underlying49 (fun n d c h => dec9 h) h
  exact ⟨L, hQ, rfl⟩
theorem dec67 {H : Type} {n : Nat} {d : DataW H} {c : List CV} (h : cvD Tryd.prog n 67 d = some c) : ∃ x : Int, (-9223372036854775808 ≤ x ∧ x ≤ 9223372036854775807) ∧ c = Enc.enc x := by
  obtain ⟨m, hm, rfl⟩ := cvD_int Tryd.underlying67 h
  exact ⟨m, by simpa [IntKind.min, IntKind.max, IntKind.signed, IntKind.bits] using hm, rfl⟩
theorem dec68 {H : Type} {n : Nat} {d : DataW H} {c : List CV} (h : cvD Tryd.prog n 68 d = some c) : ∃ x : Int, (-9223372036854775808 ≤ x ∧ x ≤ 9223372036854775807) ∧ c = Enc.enc x := by
  obtain ⟨m, hm, rfl⟩ := cvD_int Tryd.underlying68 h
  exact ⟨m, by simpa [IntKind.min, IntKind.max, IntKind.signed, IntKind.bits] using hm, rfl⟩
theorem dec69 {H : Type} {n : Nat} {d : DataW H} {c : List CV} (h : cvD Tryd.prog n 69 d = some c) : ∃ x : Int, (-9223372036854775808 ≤ x ∧ x ≤ 9223372036854775807) ∧ c = Enc.enc x := by
  obtain ⟨m, hm, rfl⟩ := cvD_int Tryd.underlying69 h
  exact ⟨m, by simpa [IntKind.min, IntKind.max, IntKind.signed, IntKind.bits] using hm, rfl⟩
def OkInst (x : Inst) : Prop := (fun x : Int => -9223372036854775808 ≤ x ∧ x ≤ 9223372036854775807) x.Op ∧ (fun x : Int => -9223372036854775808 ≤ x ∧ x ≤ 9223372036854775807) x.A ∧ (fun x : Int => -9223372036854775808 ≤ x ∧ x ≤ 9223372036854775807) x.B ∧ (fun x : Int => -9223372036854775808 ≤ x ∧ x ≤ 9223372036854775807) x.C ∧ (fun x : Int => -9223372036854775808 ≤ x ∧ x ≤ 9223372036854775807) x.Obj ∧ (fun x : Int => -9223372036854775808 ≤ x ∧ x ≤ 9223372036854775807) x.N ∧ (fun x : Int => -9223372036854775808 ≤ x ∧ x ≤ 9223372036854775807) x.Fn ∧ (fun x : Int => -9223372036854775808 ≤ x ∧ x ≤ 9223372036854775807) x.Order
theorem dec71 {H : Type} {n : Nat} {d : DataW H} {c : List CV} (h : cvD Tryd.prog n 71 d = some c) : ∃ x : Inst, OkInst x ∧ c = Enc.enc x := by
  obtain ⟨m, l, rfl, rfl, hl, h⟩ := cvD_struct Tryd.underlying71 h
  have hl : l.length = 8 := hl
  match l, hl with
  | [d0, d1, d2, d3, d4, d5, d6, d7], _ =>
    simp only [List.zipWith] at h
    obtain ⟨a0, b0, h0, k1, rfl⟩ := concatM_cons h
    obtain ⟨a1, b1, h1, k2, rfl⟩ := concatM_cons k1
    obtain ⟨a2, b2, h2, k3, rfl⟩ := concatM_cons k2
    obtain ⟨a3, b3, h3, k4, rfl⟩ := concatM_cons k3
    obtain ⟨a4, b4, h4, k5, rfl⟩ := concatM_cons k4
    obtain ⟨a5, b5, h5, k6, rfl⟩ := concatM_cons k5
    obtain ⟨a6, b6, h6, k7, rfl⟩ := concatM_cons k6
    obtain ⟨a7, b7, h7, k8, rfl⟩ := concatM_cons k7
    obtain rfl := concatM_nil k8
    obtain ⟨x0, q0, rfl⟩ := dec67 h0
    obtain ⟨x1, q1, rfl⟩ := dec3 h1
    obtain ⟨x2, q2, rfl⟩ := dec3 h2
    obtain ⟨x3, q3, rfl⟩ := dec3 h3
    obtain ⟨x4, q4, rfl⟩ := dec3 h4
    obtain ⟨x5, q5, rfl⟩ := dec3 h5
    obtain ⟨x6, q6, rfl⟩ := dec68 h6
    obtain ⟨x7, q7, rfl⟩ := dec69 h7
    exact ⟨⟨x0, x1, x2, x3, x4, x5, x6, x7⟩, ⟨q0, q1, q2, q3, q4, q5, q6, q7⟩, rfl⟩
theorem dec22 {H : Type} {n : Nat} {d : DataW H} {c : List CV} (h : cvD Tryd.prog n 22 d = some c) : ∃ x : List Inst, (∀ y ∈ x, (OkInst) y) ∧ c = Enc.enc x := by
  obtain ⟨L, hQ, rfl⟩ := cvD_sliceQ (g := Enc.enc) (Q := OkInst) Tryd.underlying22 (fun n d c h => dec71 h) h
  exact ⟨L, hQ, rfl⟩
def OkFunc (x : Func) : Prop := (fun _ : ByteArray => True) x.Name ∧ (fun l : List Inst => ∀ x ∈ l, (OkInst) x) x.Code
theorem dec24 {H : Type} {n : Nat} {d : DataW H} {c : List CV} (h : cvD Tryd.prog n 24 d = some c) : ∃ x : Func, OkFunc x ∧ c = Enc.enc x := by
  obtain ⟨m, l, rfl, rfl, hl, h⟩ := cvD_struct Tryd.underlying24 h
  have hl : l.length = 2 := hl
  match l, hl with
  | [d0, d1], _ =>
    simp only [List.zipWith] at h
    obtain ⟨a0, b0, h0, k1, rfl⟩ := concatM_cons h
    obtain ⟨a1, b1, h1, k2, rfl⟩ := concatM_cons k1
    obtain rfl := concatM_nil k2
    obtain ⟨x0, q0, rfl⟩ := dec9 h0
    obtain ⟨x1, q1, rfl⟩ := dec22 h1
    exact ⟨⟨x0, x1⟩, ⟨q0, q1⟩, rfl⟩
theorem dec50 {H : Type} {n : Nat} {d : DataW H} {c : List CV} (h : cvD Tryd.prog n 50 d = some c) : ∃ x : List Func, (∀ y ∈ x, (OkFunc) y) ∧ c = Enc.enc x := by
  obtain ⟨L, hQ, rfl⟩ := cvD_sliceQ (g := Enc.enc) (Q := OkFunc) Tryd.underlying50 (fun n d c h => dec24 h) h
  exact ⟨L, hQ, rfl⟩
def OkStart (x : Start) : Prop := (fun x : Int => -9223372036854775808 ≤ x ∧ x ≤ 9223372036854775807) x.Func ∧ (fun x : Int => -9223372036854775808 ≤ x ∧ x ≤ 9223372036854775807) x.Arg
theorem dec108 {H : Type} {n : Nat} {d : DataW H} {c : List CV} (h : cvD Tryd.prog n 108 d = some c) : ∃ x : Start, OkStart x ∧ c = Enc.enc x := by
  obtain ⟨m, l, rfl, rfl, hl, h⟩ := cvD_struct Tryd.underlying108 h
  have hl : l.length = 2 := hl
  match l, hl with
  | [d0, d1], _ =>
    simp only [List.zipWith] at h
    obtain ⟨a0, b0, h0, k1, rfl⟩ := concatM_cons h
    obtain ⟨a1, b1, h1, k2, rfl⟩ := concatM_cons k1
    obtain rfl := concatM_nil k2
    obtain ⟨x0, q0, rfl⟩ := dec3 h0
    obtain ⟨x1, q1, rfl⟩ := dec3 h1
    exact ⟨⟨x0, x1⟩, ⟨q0, q1⟩, rfl⟩
theorem dec51 {H : Type} {n : Nat} {d : DataW H} {c : List CV} (h : cvD Tryd.prog n 51 d = some c) : ∃ x : List Start, (∀ y ∈ x, (OkStart) y) ∧ c = Enc.enc x := by
  obtain ⟨L, hQ, rfl⟩ := cvD_sliceQ (g := Enc.enc) (Q := OkStart) Tryd.underlying51 (fun n d c h => dec108 h) h
  exact ⟨L, hQ, rfl⟩
def OkProgram (x : Program) : Prop := (fun l : List Var => ∀ x ∈ l, (OkVar) x) x.Vars ∧ (fun l : List ByteArray => ∀ x ∈ l, (fun _ : ByteArray => True) x) x.Mutexes ∧ (fun l : List ByteArray => ∀ x ∈ l, (fun _ : ByteArray => True) x) x.Conds ∧ (fun l : List Func => ∀ x ∈ l, (OkFunc) x) x.Funcs ∧ (fun l : List Start => ∀ x ∈ l, (OkStart) x) x.Threads
theorem dec53 {H : Type} {n : Nat} {d : DataW H} {c : List CV} (h : cvD Tryd.prog n 53 d = some c) : ∃ x : Program, OkProgram x ∧ c = Enc.enc x := by
  obtain ⟨m, l, rfl, rfl, hl, h⟩ := cvD_struct Tryd.underlying53 h
  have hl : l.length = 5 := hl
  match l, hl with
  | [d0, d1, d2, d3, d4], _ =>
    simp only [List.zipWith] at h
    obtain ⟨a0, b0, h0, k1, rfl⟩ := concatM_cons h
    obtain ⟨a1, b1, h1, k2, rfl⟩ := concatM_cons k1
    obtain ⟨a2, b2, h2, k3, rfl⟩ := concatM_cons k2
    obtain ⟨a3, b3, h3, k4, rfl⟩ := concatM_cons k3
    obtain ⟨a4, b4, h4, k5, rfl⟩ := concatM_cons k4
    obtain rfl := concatM_nil k5
    obtain ⟨x0, q0, rfl⟩ := dec48 h0
    obtain ⟨x1, q1, rfl⟩ := dec49 h1
    obtain ⟨x2, q2, rfl⟩ := dec49 h2
    obtain ⟨x3, q3, rfl⟩ := dec50 h3
    obtain ⟨x4, q4, rfl⟩ := dec51 h4
    exact ⟨⟨x0, x1, x2, x3, x4⟩, ⟨q0, q1, q2, q3, q4⟩, rfl⟩
theorem open53 {H : Type} {enc : TypeId × Value → H} {W : World} {sp : Nat → Bool} {held : Bool} {v : Value} {d : DataW H} {p : List MemPlace} {r : Go.Reach} {b0 : Nat} (hv : Value.okWide Tryd.prog W r b0 53 v) (h : DataW.Trod enc Tryd.prog W 0 sp held 53 v d p) :
    ∃ x : Program, OkProgram x ∧ AVRep W m0 (fun _ => False) v (.agg ((Enc.enc x).map .p)) := by
  obtain ⟨cvs, e, hr⟩ := rep_struct (m := 8) Tryd.underlying53 (by kernel_rfl) hv h
  obtain ⟨x, hx, rfl⟩ := dec53 e
  exact ⟨x, hx, hr⟩
theorem gN1 : Tryd.prog.globalNamed "modelcheck/value.names" = some 1 := by kernel_rfl
theorem gN0 : Tryd.prog.globalNamed "modelcheck/inst.rows" = some 0 := by kernel_rfl
/-- The package variables as the rows lay them. -/
theorem gT1 : (Tryd.prog.globals[1]?).map (·.type) = some 161 := by kernel_rfl
set_option maxRecDepth 100000 in
theorem gC1 : cvD Tryd.prog 6 161 (Go.Proofs.YtgcinmhiohlmiaaDoor.Rows.laid_modelcheck_value_names (H := Unit)) = some (encL namesTab) := by kernel_rfl
theorem gT0 : (Tryd.prog.globals[0]?).map (·.type) = some 145 := by kernel_rfl
set_option maxRecDepth 100000 in
theorem gC0 : cvD Tryd.prog 6 145 (Go.Proofs.YtgcinmhiohlmiaaDoor.Rows.laid_modelcheck_inst_rows (H := Unit)) = some (encL rowsTab) := by kernel_rfl
set_option maxRecDepth 100000 in
theorem globs {W : World} (laid : List (String × DataW Unit)) (he : laid = [("modelcheck/value.names", Go.Proofs.YtgcinmhiohlmiaaDoor.Rows.laid_modelcheck_value_names), ("modelcheck/inst.rows", Go.Proofs.YtgcinmhiohlmiaaDoor.Rows.laid_modelcheck_inst_rows)])
    (h : laidMetH Tryd.prog laid W) : ∀ g cs, Globals.G g = some cs → AVRep W m0 (fun _ => False) (.pointer (some ⟨g, 0, none⟩)) (.cell (.ep cs 0)) := by
  subst he
  rw [MakeChecks.laidMetH_plain _ _ _ (by kernel_rfl)] at h
  obtain ⟨ps, ⟨g0, t0, cs0, f0, p0, q0, hg0, ht0, hv0, hd0, ⟨g1, t1, cs1, f1, p1, q1, hg1, ht1, hv1, hd1, _, _⟩, _⟩, _, _⟩ := h
  obtain rfl := Option.some.inj (gN1.symm.trans hg0)
  obtain rfl := Option.some.inj (gT1.symm.trans ht0)
  obtain rfl := Option.some.inj (gN0.symm.trans hg1)
  obtain rfl := Option.some.inj (gT0.symm.trans ht1)
  intro g cs hgc
  have hgc : (if g = 0 then some (encL rowsTab) else if g = 1 then some (encL namesTab) else none) = some cs := hgc
  split at hgc
  · rename_i e
    subst e
    cases hgc
    exact rep_global (m := 6) (t := 145) (by kernel_rfl) hd1 gC0 fun j => by simpa using World.var?_cell hg1 hv1 j
  · split at hgc
    · rename_i e
      subst e
      cases hgc
      exact rep_global (m := 6) (t := 161) (by kernel_rfl) hd0 gC1 fun j => by simpa using World.var?_cell hg0 hv0 j
    · cases hgc
end Go.Dc
end
