/- Contracts of functions, by their numbers, and the laws that walk them. Conditions: as each states. -/
import Derived.Test.YtgcinmhiohlmiaaDoorG5
import Derived.Test.YtgcinmhiohlmiaaDoorRows
import Derived.LaidMore
import Derived.Test.YtgcinmhiohlmiaaDoorG3
set_option linter.all false
section
set_option linter.all false
namespace Go.Proofs
open Go.Fw Go.Dr
set_option maxRecDepth 100000
theorem at_intsz : At Tryd.prog 17 [.cell .z, .cell .z] (bV true) := at_unz rfl (at_ints [] [] (by simp))
theorem at_lawNext (name : ByteArray) (l : List I8) (k : Int) : At Tryd.prog 3 [fAV name l, iV .i64 k] (bV true) := by
  have hA := at_next name l k
  have hB := at_r12next name l k
  generalize (if funcE l = 0 then (if 0 ≤ k ∧ k < l.length then 0 else 2) else funcE l) = e at hA hB
  by_cases hc : funcE l = 0 ∧ 0 ≤ k ∧ k < l.length
  · rw [if_pos hc] at hA hB
    have hsl := sucs_len l k.toNat
    have hI := at_ints (natI (sucs l k.toNat)) (natI (sucs l k.toNat)) (by simp; omega)
    refine at_code mixed Tryd.func3 (by kernel_rfl) rfl (by kernel_rfl) (by kernel_rfl) rfl fun Q hQ => ?_
    repeat (first | simp | with_reducible refine And.intro (by omega) ?_ | with_reducible refine optK_if (by omega) ?_ | with_reducible refine optD_if (by omega) ?_ | simp (disch := omega) only [wrap_i64, if_pos, if_neg] | with_reducible refine gsel_pure (by with_unfolding_all rfl) _ (fun hg => by (try simp at hg); simp [hg]; rfl) ?_ | with_reducible refine dsel_pure (by with_unfolding_all rfl) _ (fun hg => by (try simp at hg); simp [hg]; rfl) ?_ | with_reducible refine awp_draw (by kernel_rfl) (by decide +kernel) ?_)
    (with_reducible refine condK_intro (fun hh => ?_) (fun hh => ?_)) <;> (try simp only [hh]) <;> (try simp [andB, orB, eqI, ltI, Int.natCast_inj] at hh)
    · repeat (first | simp [hh] | with_reducible refine And.intro (by omega) ?_ | with_reducible refine optK_if (by omega) ?_ | with_reducible refine optD_if (by omega) ?_ | simp (disch := omega) only [wrap_i64, if_pos, if_neg] | with_reducible refine gsel_pure (by with_unfolding_all rfl) _ (fun hg => by (try simp at hg); simp [hg, hh]; rfl) ?_ | with_reducible refine dsel_pure (by with_unfolding_all rfl) _ (fun hg => by (try simp at hg); simp [hg, hh]; rfl) ?_ | with_reducible refine awp_draw (by kernel_rfl) (by decide +kernel) ?_)
      refine gop_call (at_example) (by (first | simp [hh] | simp (disch := omega) [hh, wrap_i64]); try rfl) (by simp) (by simp) ?_
      repeat (first | simp [hh] | with_reducible refine And.intro (by omega) ?_ | with_reducible refine optK_if (by omega) ?_ | with_reducible refine optD_if (by omega) ?_ | simp (disch := omega) only [wrap_i64, if_pos, if_neg] | with_reducible refine gsel_pure (by with_unfolding_all rfl) _ (fun hg => by (try simp at hg); simp [hg, hh]; rfl) ?_ | with_reducible refine dsel_pure (by with_unfolding_all rfl) _ (fun hg => by (try simp at hg); simp [hg, hh]; rfl) ?_ | with_reducible refine awp_draw (by kernel_rfl) (by decide +kernel) ?_)
      refine hQ _ _ (ret2 (by simp [retAV, resAV]; rfl) (by simp; rfl) ?_)
      rfl
    · repeat (first | simp [hh] | with_reducible refine And.intro (by omega) ?_ | with_reducible refine optK_if (by omega) ?_ | with_reducible refine optD_if (by omega) ?_ | simp (disch := omega) only [wrap_i64, if_pos, if_neg] | with_reducible refine gsel_pure (by with_unfolding_all rfl) _ (fun hg => by (try simp at hg); simp [hg, hh]; rfl) ?_ | with_reducible refine dsel_pure (by with_unfolding_all rfl) _ (fun hg => by (try simp at hg); simp [hg, hh]; rfl) ?_ | with_reducible refine awp_draw (by kernel_rfl) (by decide +kernel) ?_)
      refine gop_call' (hA) (by (first | simp [hh] | simp (disch := omega) [hh, wrap_i64]); try rfl) (by simp) (by simp) ?_
      repeat (first | simp [hh] | with_reducible refine And.intro (by omega) ?_ | with_reducible refine optK_if (by omega) ?_ | with_reducible refine optD_if (by omega) ?_ | simp (disch := omega) only [wrap_i64, if_pos, if_neg] | with_reducible refine gsel_pure (by with_unfolding_all rfl) _ (fun hg => by (try simp at hg); simp [hg, hh]; rfl) ?_ | with_reducible refine dsel_pure (by with_unfolding_all rfl) _ (fun hg => by (try simp at hg); simp [hg, hh]; rfl) ?_ | with_reducible refine awp_draw (by kernel_rfl) (by decide +kernel) ?_)
      refine gop_call' (hB) (by (first | simp [hh] | simp (disch := omega) [hh, wrap_i64]); try rfl) (by simp) (by simp) ?_
      repeat (first | simp [hh] | with_reducible refine And.intro (by omega) ?_ | with_reducible refine optK_if (by omega) ?_ | with_reducible refine optD_if (by omega) ?_ | simp (disch := omega) only [wrap_i64, if_pos, if_neg] | with_reducible refine gsel_pure (by with_unfolding_all rfl) _ (fun hg => by (try simp at hg); simp [hg, hh]; rfl) ?_ | with_reducible refine dsel_pure (by with_unfolding_all rfl) _ (fun hg => by (try simp at hg); simp [hg, hh]; rfl) ?_ | with_reducible refine awp_draw (by kernel_rfl) (by decide +kernel) ?_)
      refine gop_call (hI) (by (first | simp [hh] | simp (disch := omega) [hh, wrap_i64]); try rfl) (by simp) (by simp) ?_
      repeat (first | simp [hh] | with_reducible refine And.intro (by omega) ?_ | with_reducible refine optK_if (by omega) ?_ | with_reducible refine optD_if (by omega) ?_ | simp (disch := omega) only [wrap_i64, if_pos, if_neg] | with_reducible refine gsel_pure (by with_unfolding_all rfl) _ (fun hg => by (try simp at hg); simp [hg, hh]; rfl) ?_ | with_reducible refine dsel_pure (by with_unfolding_all rfl) _ (fun hg => by (try simp at hg); simp [hg, hh]; rfl) ?_ | with_reducible refine awp_draw (by kernel_rfl) (by decide +kernel) ?_)
      refine gop_call (at_example) (by (first | simp [hh] | simp (disch := omega) [hh, wrap_i64]); try rfl) (by simp) (by simp) ?_
      repeat (first | simp [hh] | with_reducible refine And.intro (by omega) ?_ | with_reducible refine optK_if (by omega) ?_ | with_reducible refine optD_if (by omega) ?_ | simp (disch := omega) only [wrap_i64, if_pos, if_neg] | with_reducible refine gsel_pure (by with_unfolding_all rfl) _ (fun hg => by (try simp at hg); simp [hg, hh]; rfl) ?_ | with_reducible refine dsel_pure (by with_unfolding_all rfl) _ (fun hg => by (try simp at hg); simp [hg, hh]; rfl) ?_ | with_reducible refine awp_draw (by kernel_rfl) (by decide +kernel) ?_)
      refine hQ _ _ (ret2 (by simp [retAV, resAV]; rfl) (by simp; rfl) ?_)
      simp
  · rw [if_neg hc] at hA hB
    refine at_code mixed Tryd.func3 (by kernel_rfl) rfl (by kernel_rfl) (by kernel_rfl) rfl fun Q hQ => ?_
    repeat (first | simp | with_reducible refine And.intro (by omega) ?_ | with_reducible refine optK_if (by omega) ?_ | with_reducible refine optD_if (by omega) ?_ | simp (disch := omega) only [wrap_i64, if_pos, if_neg] | with_reducible refine gsel_pure (by with_unfolding_all rfl) _ (fun hg => by (try simp at hg); simp [hg]; rfl) ?_ | with_reducible refine dsel_pure (by with_unfolding_all rfl) _ (fun hg => by (try simp at hg); simp [hg]; rfl) ?_ | with_reducible refine awp_draw (by kernel_rfl) (by decide +kernel) ?_)
    (with_reducible refine condK_intro (fun hh => ?_) (fun hh => ?_)) <;> (try simp only [hh]) <;> (try simp [andB, orB, eqI, ltI, Int.natCast_inj] at hh)
    · repeat (first | simp [hh] | with_reducible refine And.intro (by omega) ?_ | with_reducible refine optK_if (by omega) ?_ | with_reducible refine optD_if (by omega) ?_ | simp (disch := omega) only [wrap_i64, if_pos, if_neg] | with_reducible refine gsel_pure (by with_unfolding_all rfl) _ (fun hg => by (try simp at hg); simp [hg, hh]; rfl) ?_ | with_reducible refine dsel_pure (by with_unfolding_all rfl) _ (fun hg => by (try simp at hg); simp [hg, hh]; rfl) ?_ | with_reducible refine awp_draw (by kernel_rfl) (by decide +kernel) ?_)
      refine gop_call (at_example) (by (first | simp [hh] | simp (disch := omega) [hh, wrap_i64]); try rfl) (by simp) (by simp) ?_
      repeat (first | simp [hh] | with_reducible refine And.intro (by omega) ?_ | with_reducible refine optK_if (by omega) ?_ | with_reducible refine optD_if (by omega) ?_ | simp (disch := omega) only [wrap_i64, if_pos, if_neg] | with_reducible refine gsel_pure (by with_unfolding_all rfl) _ (fun hg => by (try simp at hg); simp [hg, hh]; rfl) ?_ | with_reducible refine dsel_pure (by with_unfolding_all rfl) _ (fun hg => by (try simp at hg); simp [hg, hh]; rfl) ?_ | with_reducible refine awp_draw (by kernel_rfl) (by decide +kernel) ?_)
      refine hQ _ _ (ret2 (by simp [retAV, resAV]; rfl) (by simp; rfl) ?_)
      rfl
    · repeat (first | simp [hh] | with_reducible refine And.intro (by omega) ?_ | with_reducible refine optK_if (by omega) ?_ | with_reducible refine optD_if (by omega) ?_ | simp (disch := omega) only [wrap_i64, if_pos, if_neg] | with_reducible refine gsel_pure (by with_unfolding_all rfl) _ (fun hg => by (try simp at hg); simp [hg, hh]; rfl) ?_ | with_reducible refine dsel_pure (by with_unfolding_all rfl) _ (fun hg => by (try simp at hg); simp [hg, hh]; rfl) ?_ | with_reducible refine awp_draw (by kernel_rfl) (by decide +kernel) ?_)
      refine gop_call (hA) (by (first | simp [hh] | simp (disch := omega) [hh, wrap_i64]); try rfl) (by simp) (by simp) ?_
      repeat (first | simp [hh] | with_reducible refine And.intro (by omega) ?_ | with_reducible refine optK_if (by omega) ?_ | with_reducible refine optD_if (by omega) ?_ | simp (disch := omega) only [wrap_i64, if_pos, if_neg] | with_reducible refine gsel_pure (by with_unfolding_all rfl) _ (fun hg => by (try simp at hg); simp [hg, hh]; rfl) ?_ | with_reducible refine dsel_pure (by with_unfolding_all rfl) _ (fun hg => by (try simp at hg); simp [hg, hh]; rfl) ?_ | with_reducible refine awp_draw (by kernel_rfl) (by decide +kernel) ?_)
      refine gop_call (hB) (by (first | simp [hh] | simp (disch := omega) [hh, wrap_i64]); try rfl) (by simp) (by simp) ?_
      repeat (first | simp [hh] | with_reducible refine And.intro (by omega) ?_ | with_reducible refine optK_if (by omega) ?_ | with_reducible refine optD_if (by omega) ?_ | simp (disch := omega) only [wrap_i64, if_pos, if_neg] | with_reducible refine gsel_pure (by with_unfolding_all rfl) _ (fun hg => by (try simp at hg); simp [hg, hh]; rfl) ?_ | with_reducible refine dsel_pure (by with_unfolding_all rfl) _ (fun hg => by (try simp at hg); simp [hg, hh]; rfl) ?_ | with_reducible refine awp_draw (by kernel_rfl) (by decide +kernel) ?_)
      refine gop_call (at_intsz) (by (first | simp [hh] | simp (disch := omega) [hh, wrap_i64]); try rfl) (by simp) (by simp) ?_
      repeat (first | simp [hh] | with_reducible refine And.intro (by omega) ?_ | with_reducible refine optK_if (by omega) ?_ | with_reducible refine optD_if (by omega) ?_ | simp (disch := omega) only [wrap_i64, if_pos, if_neg] | with_reducible refine gsel_pure (by with_unfolding_all rfl) _ (fun hg => by (try simp at hg); simp [hg, hh]; rfl) ?_ | with_reducible refine dsel_pure (by with_unfolding_all rfl) _ (fun hg => by (try simp at hg); simp [hg, hh]; rfl) ?_ | with_reducible refine awp_draw (by kernel_rfl) (by decide +kernel) ?_)
      refine gop_call (at_example) (by (first | simp [hh] | simp (disch := omega) [hh, wrap_i64]); try rfl) (by simp) (by simp) ?_
      repeat (first | simp [hh] | with_reducible refine And.intro (by omega) ?_ | with_reducible refine optK_if (by omega) ?_ | with_reducible refine optD_if (by omega) ?_ | simp (disch := omega) only [wrap_i64, if_pos, if_neg] | with_reducible refine gsel_pure (by with_unfolding_all rfl) _ (fun hg => by (try simp at hg); simp [hg, hh]; rfl) ?_ | with_reducible refine dsel_pure (by with_unfolding_all rfl) _ (fun hg => by (try simp at hg); simp [hg, hh]; rfl) ?_ | with_reducible refine awp_draw (by kernel_rfl) (by decide +kernel) ?_)
      refine hQ _ _ (ret2 (by simp [retAV, resAV]; rfl) (by simp; rfl) ?_)
      simp
theorem at_lawLeaders (name : ByteArray) (l : List I8) : At Tryd.prog 4 [fAV name l] (bV true) := by
  have hA := at_leaders name l
  have hB := at_r12leaders name l
  by_cases hc : funcE l = 0
  · rw [if_pos hc] at hA hB
    have hlen := (okL hc).len
    have hsl := sortL_len (leadK l l.length) l.length
    have hI := at_ints (natI (sortL (leadK l l.length) l.length)) (natI (sortL (leadK l l.length) l.length)) (by simp; omega)
    refine at_code mixed Tryd.func4 (by kernel_rfl) rfl (by kernel_rfl) (by kernel_rfl) rfl fun Q hQ => ?_
    repeat (first | simp | with_reducible refine And.intro (by omega) ?_ | with_reducible refine optK_if (by omega) ?_ | with_reducible refine optD_if (by omega) ?_ | simp (disch := omega) only [wrap_i64, if_pos, if_neg] | with_reducible refine gsel_pure (by with_unfolding_all rfl) _ (fun hg => by (try simp at hg); simp [hg]; rfl) ?_ | with_reducible refine dsel_pure (by with_unfolding_all rfl) _ (fun hg => by (try simp at hg); simp [hg]; rfl) ?_ | with_reducible refine awp_draw (by kernel_rfl) (by decide +kernel) ?_)
    (with_reducible refine condK_intro (fun hh => ?_) (fun hh => ?_)) <;> (try simp only [hh]) <;> (try simp [andB, orB, eqI, ltI, Int.natCast_inj] at hh)
    · repeat (first | simp [hh] | with_reducible refine And.intro (by omega) ?_ | with_reducible refine optK_if (by omega) ?_ | with_reducible refine optD_if (by omega) ?_ | simp (disch := omega) only [wrap_i64, if_pos, if_neg] | with_reducible refine gsel_pure (by with_unfolding_all rfl) _ (fun hg => by (try simp at hg); simp [hg, hh]; rfl) ?_ | with_reducible refine dsel_pure (by with_unfolding_all rfl) _ (fun hg => by (try simp at hg); simp [hg, hh]; rfl) ?_ | with_reducible refine awp_draw (by kernel_rfl) (by decide +kernel) ?_)
      refine gop_call (at_example) (by (first | simp [hh] | simp (disch := omega) [hh, wrap_i64]); try rfl) (by simp) (by simp) ?_
      repeat (first | simp [hh] | with_reducible refine And.intro (by omega) ?_ | with_reducible refine optK_if (by omega) ?_ | with_reducible refine optD_if (by omega) ?_ | simp (disch := omega) only [wrap_i64, if_pos, if_neg] | with_reducible refine gsel_pure (by with_unfolding_all rfl) _ (fun hg => by (try simp at hg); simp [hg, hh]; rfl) ?_ | with_reducible refine dsel_pure (by with_unfolding_all rfl) _ (fun hg => by (try simp at hg); simp [hg, hh]; rfl) ?_ | with_reducible refine awp_draw (by kernel_rfl) (by decide +kernel) ?_)
      refine hQ _ _ (ret2 (by simp [retAV, resAV]; rfl) (by simp; rfl) ?_)
      rfl
    · repeat (first | simp [hh] | with_reducible refine And.intro (by omega) ?_ | with_reducible refine optK_if (by omega) ?_ | with_reducible refine optD_if (by omega) ?_ | simp (disch := omega) only [wrap_i64, if_pos, if_neg] | with_reducible refine gsel_pure (by with_unfolding_all rfl) _ (fun hg => by (try simp at hg); simp [hg, hh]; rfl) ?_ | with_reducible refine dsel_pure (by with_unfolding_all rfl) _ (fun hg => by (try simp at hg); simp [hg, hh]; rfl) ?_ | with_reducible refine awp_draw (by kernel_rfl) (by decide +kernel) ?_)
      refine gop_call' (hA) (by (first | simp [hh] | simp (disch := omega) [hh, wrap_i64]); try rfl) (by simp) (by simp) ?_
      repeat (first | simp [hh] | with_reducible refine And.intro (by omega) ?_ | with_reducible refine optK_if (by omega) ?_ | with_reducible refine optD_if (by omega) ?_ | simp (disch := omega) only [wrap_i64, if_pos, if_neg] | with_reducible refine gsel_pure (by with_unfolding_all rfl) _ (fun hg => by (try simp at hg); simp [hg, hh]; rfl) ?_ | with_reducible refine dsel_pure (by with_unfolding_all rfl) _ (fun hg => by (try simp at hg); simp [hg, hh]; rfl) ?_ | with_reducible refine awp_draw (by kernel_rfl) (by decide +kernel) ?_)
      refine gop_call' (hB) (by (first | simp [hh] | simp (disch := omega) [hh, wrap_i64]); try rfl) (by simp) (by simp) ?_
      repeat (first | simp [hh] | with_reducible refine And.intro (by omega) ?_ | with_reducible refine optK_if (by omega) ?_ | with_reducible refine optD_if (by omega) ?_ | simp (disch := omega) only [wrap_i64, if_pos, if_neg] | with_reducible refine gsel_pure (by with_unfolding_all rfl) _ (fun hg => by (try simp at hg); simp [hg, hh]; rfl) ?_ | with_reducible refine dsel_pure (by with_unfolding_all rfl) _ (fun hg => by (try simp at hg); simp [hg, hh]; rfl) ?_ | with_reducible refine awp_draw (by kernel_rfl) (by decide +kernel) ?_)
      refine gop_call (hI) (by (first | simp [hh] | simp (disch := omega) [hh, wrap_i64]); try rfl) (by simp) (by simp) ?_
      repeat (first | simp [hh] | with_reducible refine And.intro (by omega) ?_ | with_reducible refine optK_if (by omega) ?_ | with_reducible refine optD_if (by omega) ?_ | simp (disch := omega) only [wrap_i64, if_pos, if_neg] | with_reducible refine gsel_pure (by with_unfolding_all rfl) _ (fun hg => by (try simp at hg); simp [hg, hh]; rfl) ?_ | with_reducible refine dsel_pure (by with_unfolding_all rfl) _ (fun hg => by (try simp at hg); simp [hg, hh]; rfl) ?_ | with_reducible refine awp_draw (by kernel_rfl) (by decide +kernel) ?_)
      refine gop_call (at_example) (by (first | simp [hh] | simp (disch := omega) [hh, wrap_i64]); try rfl) (by simp) (by simp) ?_
      repeat (first | simp [hh] | with_reducible refine And.intro (by omega) ?_ | with_reducible refine optK_if (by omega) ?_ | with_reducible refine optD_if (by omega) ?_ | simp (disch := omega) only [wrap_i64, if_pos, if_neg] | with_reducible refine gsel_pure (by with_unfolding_all rfl) _ (fun hg => by (try simp at hg); simp [hg, hh]; rfl) ?_ | with_reducible refine dsel_pure (by with_unfolding_all rfl) _ (fun hg => by (try simp at hg); simp [hg, hh]; rfl) ?_ | with_reducible refine awp_draw (by kernel_rfl) (by decide +kernel) ?_)
      refine hQ _ _ (ret2 (by simp [retAV, resAV]; rfl) (by simp; rfl) ?_)
      simp
  · rw [if_neg hc] at hA hB
    refine at_code mixed Tryd.func4 (by kernel_rfl) rfl (by kernel_rfl) (by kernel_rfl) rfl fun Q hQ => ?_
    repeat (first | simp | with_reducible refine And.intro (by omega) ?_ | with_reducible refine optK_if (by omega) ?_ | with_reducible refine optD_if (by omega) ?_ | simp (disch := omega) only [wrap_i64, if_pos, if_neg] | with_reducible refine gsel_pure (by with_unfolding_all rfl) _ (fun hg => by (try simp at hg); simp [hg]; rfl) ?_ | with_reducible refine dsel_pure (by with_unfolding_all rfl) _ (fun hg => by (try simp at hg); simp [hg]; rfl) ?_ | with_reducible refine awp_draw (by kernel_rfl) (by decide +kernel) ?_)
    (with_reducible refine condK_intro (fun hh => ?_) (fun hh => ?_)) <;> (try simp only [hh]) <;> (try simp [andB, orB, eqI, ltI, Int.natCast_inj] at hh)
    · repeat (first | simp [hh] | with_reducible refine And.intro (by omega) ?_ | with_reducible refine optK_if (by omega) ?_ | with_reducible refine optD_if (by omega) ?_ | simp (disch := omega) only [wrap_i64, if_pos, if_neg] | with_reducible refine gsel_pure (by with_unfolding_all rfl) _ (fun hg => by (try simp at hg); simp [hg, hh]; rfl) ?_ | with_reducible refine dsel_pure (by with_unfolding_all rfl) _ (fun hg => by (try simp at hg); simp [hg, hh]; rfl) ?_ | with_reducible refine awp_draw (by kernel_rfl) (by decide +kernel) ?_)
      refine gop_call (at_example) (by (first | simp [hh] | simp (disch := omega) [hh, wrap_i64]); try rfl) (by simp) (by simp) ?_
      repeat (first | simp [hh] | with_reducible refine And.intro (by omega) ?_ | with_reducible refine optK_if (by omega) ?_ | with_reducible refine optD_if (by omega) ?_ | simp (disch := omega) only [wrap_i64, if_pos, if_neg] | with_reducible refine gsel_pure (by with_unfolding_all rfl) _ (fun hg => by (try simp at hg); simp [hg, hh]; rfl) ?_ | with_reducible refine dsel_pure (by with_unfolding_all rfl) _ (fun hg => by (try simp at hg); simp [hg, hh]; rfl) ?_ | with_reducible refine awp_draw (by kernel_rfl) (by decide +kernel) ?_)
      refine hQ _ _ (ret2 (by simp [retAV, resAV]; rfl) (by simp; rfl) ?_)
      rfl
    · repeat (first | simp [hh] | with_reducible refine And.intro (by omega) ?_ | with_reducible refine optK_if (by omega) ?_ | with_reducible refine optD_if (by omega) ?_ | simp (disch := omega) only [wrap_i64, if_pos, if_neg] | with_reducible refine gsel_pure (by with_unfolding_all rfl) _ (fun hg => by (try simp at hg); simp [hg, hh]; rfl) ?_ | with_reducible refine dsel_pure (by with_unfolding_all rfl) _ (fun hg => by (try simp at hg); simp [hg, hh]; rfl) ?_ | with_reducible refine awp_draw (by kernel_rfl) (by decide +kernel) ?_)
      refine gop_call (hA) (by (first | simp [hh] | simp (disch := omega) [hh, wrap_i64]); try rfl) (by simp) (by simp) ?_
      repeat (first | simp [hh] | with_reducible refine And.intro (by omega) ?_ | with_reducible refine optK_if (by omega) ?_ | with_reducible refine optD_if (by omega) ?_ | simp (disch := omega) only [wrap_i64, if_pos, if_neg] | with_reducible refine gsel_pure (by with_unfolding_all rfl) _ (fun hg => by (try simp at hg); simp [hg, hh]; rfl) ?_ | with_reducible refine dsel_pure (by with_unfolding_all rfl) _ (fun hg => by (try simp at hg); simp [hg, hh]; rfl) ?_ | with_reducible refine awp_draw (by kernel_rfl) (by decide +kernel) ?_)
      refine gop_call (hB) (by (first | simp [hh] | simp (disch := omega) [hh, wrap_i64]); try rfl) (by simp) (by simp) ?_
      repeat (first | simp [hh] | with_reducible refine And.intro (by omega) ?_ | with_reducible refine optK_if (by omega) ?_ | with_reducible refine optD_if (by omega) ?_ | simp (disch := omega) only [wrap_i64, if_pos, if_neg] | with_reducible refine gsel_pure (by with_unfolding_all rfl) _ (fun hg => by (try simp at hg); simp [hg, hh]; rfl) ?_ | with_reducible refine dsel_pure (by with_unfolding_all rfl) _ (fun hg => by (try simp at hg); simp [hg, hh]; rfl) ?_ | with_reducible refine awp_draw (by kernel_rfl) (by decide +kernel) ?_)
      refine gop_call (at_intsz) (by (first | simp [hh] | simp (disch := omega) [hh, wrap_i64]); try rfl) (by simp) (by simp) ?_
      repeat (first | simp [hh] | with_reducible refine And.intro (by omega) ?_ | with_reducible refine optK_if (by omega) ?_ | with_reducible refine optD_if (by omega) ?_ | simp (disch := omega) only [wrap_i64, if_pos, if_neg] | with_reducible refine gsel_pure (by with_unfolding_all rfl) _ (fun hg => by (try simp at hg); simp [hg, hh]; rfl) ?_ | with_reducible refine dsel_pure (by with_unfolding_all rfl) _ (fun hg => by (try simp at hg); simp [hg, hh]; rfl) ?_ | with_reducible refine awp_draw (by kernel_rfl) (by decide +kernel) ?_)
      refine gop_call (at_example) (by (first | simp [hh] | simp (disch := omega) [hh, wrap_i64]); try rfl) (by simp) (by simp) ?_
      repeat (first | simp [hh] | with_reducible refine And.intro (by omega) ?_ | with_reducible refine optK_if (by omega) ?_ | with_reducible refine optD_if (by omega) ?_ | simp (disch := omega) only [wrap_i64, if_pos, if_neg] | with_reducible refine gsel_pure (by with_unfolding_all rfl) _ (fun hg => by (try simp at hg); simp [hg, hh]; rfl) ?_ | with_reducible refine dsel_pure (by with_unfolding_all rfl) _ (fun hg => by (try simp at hg); simp [hg, hh]; rfl) ?_ | with_reducible refine awp_draw (by kernel_rfl) (by decide +kernel) ?_)
      refine hQ _ _ (ret2 (by simp [retAV, resAV]; rfl) (by simp; rfl) ?_)
      simp
end Go.Proofs
end
section
set_option linter.all false
namespace Go.Dr
open Go.Fw
@[simp] theorem natI_get (l : List Nat) {i : Nat} (h : i < (natI l).length) : (natI l)[i] = ((l[i]'(by simpa using h) : Nat) : Int) := by simp [natI]
abbrev boolsA (n : Nat) (S : Nat → Bool) : AV := .cell (.p (.sl n (bl n S)))
/-- The matrix of what dominates what. -/
def domM (l : List I8) (j : Nat) : Bool := domR l (j / l.length) (j % l.length)
def domP (l : List I8) (m j : Nat) : Bool := decide (j < m) && domM l j
theorem domP_set {l : List I8} {N m : Nat} {b : Bool} (h : b = domM l m) : (bl N (domP l m)).set m (bC b) = bl N (domP l (m + 1)) := by
  subst h
  rw [bl_set]
  apply bl_congr
  intro j _
  unfold upB domP
  split
  · rename_i e; subst e; simp
  · rename_i e
    have : decide (j < m + 1) = decide (j < m) := by rw [decide_eq_decide]; omega
    rw [this]
theorem domP_zero {l : List I8} {N : Nat} : bl N (domP l 0) = bl N fun _ => false := bl_congr fun j _ => by simp [domP]
theorem domP_full {l : List I8} {N : Nat} : bl N (domP l N) = bl N (domM l) := bl_congr fun j h => by simp [domP, h]
theorem domM_at {l : List I8} {d i m : Nat} (hd : d < l.length) (hi : i < l.length) (hm : m = d * l.length + i) : domM l m = domR l d i := by
  subst hm
  unfold domM
  have h1 : (d * l.length + i) / l.length = d := by
    rw [Nat.mul_comm, Nat.mul_add_div (by omega), Nat.div_eq_of_lt hi]; omega
  have h2 : (d * l.length + i) % l.length = i := by
    rw [Nat.mul_comm, Nat.mul_add_mod, Nat.mod_eq_of_lt hi]
  rw [h1, h2]
theorem mat_lt {n d i : Nat} (hd : d < n) (hi : i < n) : d * n + i < n * n := by
  have := Nat.mul_le_mul_right n (show d + 1 ≤ n from hd)
  rw [Nat.succ_mul] at this; omega
theorem mat_le {n d i : Nat} (hn : n ≤ 64) (hd : d ≤ n) (hi : i ≤ n) : d * n + i ≤ 64 * 64 + 64 := by
  have := Nat.mul_le_mul (Nat.le_trans hd hn) hn
  omega
theorem mat_wrap1 {n d : Nat} (hn : n ≤ 64) (hd : d ≤ n) : IntKind.i64.wrap ((d : Int) * (n : Int)) = (d : Int) * (n : Int) := by
  have h := mat_le hn hd (Nat.zero_le n)
  have e : (d : Int) * (n : Int) = ((d * n : Nat) : Int) := by simp
  rw [e, wrap_i64 (by omega) (by omega)]
theorem mat_wrap2 {n d i m : Nat} (hn : n ≤ 64) (hd : d ≤ n) (hi : i ≤ n) (hm : m = d * n + i) : IntKind.i64.wrap ((d : Int) * (n : Int) + (i : Int)) = (m : Int) := by
  have h := mat_le hn hd hi
  have e : (d : Int) * (n : Int) + (i : Int) = (m : Int) := by rw [hm]; simp
  rw [e, wrap_i64 (by omega) (by omega)]
def domsL (l : List I8) (k : Nat) : List Int := (List.range k).map fun (i : Nat) => idomF (domB l) i l.length
theorem domsL_len (l : List I8) (k : Nat) : (domsL l k).length = k := by simp [domsL]
theorem domsL_succ (l : List I8) (k : Nat) : domsL l (k + 1) = domsL l k ++ [idomF (domB l) k l.length] := by simp [domsL, List.range_succ]
theorem domsL_full (l : List I8) : domsL l l.length = idomL (domB l) l.length l.length := by simp [domsL, idomL]
theorem domM_B {l : List I8} {d i m : Nat} (hd : d < l.length) (hi : i < l.length) (hm : m = d * l.length + i) : domM l m = domB l d i := (domM_at hd hi hm).trans (domR_eq hd hi)
end Go.Dr
namespace Go.Proofs
open Go.Fw Go.Dr
set_option maxRecDepth 100000

set_option maxHeartbeats 2000000 in
theorem at_without (name : ByteArray) (l : List I8) (ok : OkL l) (w : Int) : At Tryd.prog 62 [fAV name l, iV .i64 w] (boolsA l.length (wOn l w)) := by
  have hlen := ok.len
  have ew : (!eqI w 0) = decide (w ≠ 0) := by by_cases h : w = 0 <;> simp [eqI, h]
  have hW0 : WP l w 0 (upB (fun _ => false) 0 (decide (w ≠ 0))) := WP.start
  refine at_pure (r := .cell (.own 0 1 l.length (bl l.length (wOn l w)))) ?_ (by simp)
  refine at_code mixed Tryd.func62 (by kernel_rfl) rfl (by kernel_rfl) (by kernel_rfl) rfl fun Q hQ => ?_
  repeat (first | simp [repC_bl] | with_reducible refine And.intro (by omega) ?_ | with_reducible refine optK_if (by omega) ?_ | with_reducible refine optD_if (by omega) ?_ | simp (disch := omega) only [wrap_i64, if_pos, if_neg] | with_reducible refine gsel_pure (by with_unfolding_all rfl) _ (fun hg => by (try simp at hg); simp [hg, repC_bl]; rfl) ?_ | with_reducible refine dsel_pure (by with_unfolding_all rfl) _ (fun hg => by (try simp at hg); simp [hg, repC_bl]; rfl) ?_ | with_reducible refine awp_draw (by kernel_rfl) (by decide +kernel) ?_)
  refine awp_loopV (fun ((p, S) : Nat × (Nat → Bool)) (s : St) => (p ≤ l.length) ∧ (WP l w p S) ∧ s.env 6 = iV .i64 p ∧ s.env 1 = iV .i64 w ∧ s.env 5 = .cell (.own 65792 1 (l.length + 1) (bl (l.length + 1) S)) ∧ s.env 2 = .cell (.ptr 0 0) ∧ s.box 0 = some ([.p (sC name), .p (.sl l.length (codeC l))])) (fun ((p, S) : Nat × (Nat → Bool)) => l.length - p) ((0, upB (fun _ => false) 0 (decide (w ≠ 0)))) ⟨by first | omega | assumption | (simp [repC_bl, bl_set, ew]; done) | (simp [repC_bl, bl_set, ew]; omega), by first | omega | assumption | (simp [repC_bl, bl_set, ew]; done) | (simp [repC_bl, bl_set, ew]; omega), by simp [repC_bl, bl_set, ew], by simp [repC_bl, bl_set, ew], by simp [repC_bl, bl_set, ew], by simp [repC_bl, bl_set, ew], by simp [repC_bl, bl_set, ew]⟩ fun (p, S) s hsA LA hLA => ?_
  obtain ⟨hp, hW, h6, h1, h5, h2, b0⟩ := hsA
  repeat (first | simp [h6, h1, h5, h2, b0] | with_reducible refine And.intro (by omega) ?_ | with_reducible refine optK_if (by omega) ?_ | with_reducible refine optD_if (by omega) ?_ | simp (disch := omega) only [wrap_i64, if_pos, if_neg] | with_reducible refine gsel_pure (by with_unfolding_all rfl) _ (fun hg => by (try simp at hg); simp [hg, h6, h1, h5, h2, b0]; rfl) ?_ | with_reducible refine dsel_pure (by with_unfolding_all rfl) _ (fun hg => by (try simp at hg); simp [hg, h6, h1, h5, h2, b0]; rfl) ?_ | with_reducible refine awp_draw (by kernel_rfl) (by decide +kernel) ?_)
  (with_reducible refine condK_intro (fun hlt => ?_) (fun hlt => ?_)) <;> (try simp only [hlt]) <;> (try simp [andB, orB, eqI, ltI, Int.natCast_inj] at hlt)
  · repeat (first | simp [h6, h1, h5, h2, b0, hlt] | with_reducible refine And.intro (by omega) ?_ | with_reducible refine optK_if (by omega) ?_ | with_reducible refine optD_if (by omega) ?_ | simp (disch := omega) only [wrap_i64, if_pos, if_neg] | with_reducible refine gsel_pure (by with_unfolding_all rfl) _ (fun hg => by (try simp at hg); simp [hg, h6, h1, h5, h2, b0, hlt]; rfl) ?_ | with_reducible refine dsel_pure (by with_unfolding_all rfl) _ (fun hg => by (try simp at hg); simp [hg, h6, h1, h5, h2, b0, hlt]; rfl) ?_ | with_reducible refine awp_draw (by kernel_rfl) (by decide +kernel) ?_)
    have hI0 := WI.start hW
    refine awp_loopV (fun ((i, S) : Nat × (Nat → Bool)) (s : St) => (i ≤ l.length) ∧ (WI l w p i 0 S) ∧ s.env 7 = iV .i64 i ∧ s.env 6 = iV .i64 p ∧ s.env 1 = iV .i64 w ∧ s.env 5 = .cell (.own 65792 1 (l.length + 1) (bl (l.length + 1) S)) ∧ s.env 2 = .cell (.ptr 0 0) ∧ s.box 0 = some ([.p (sC name), .p (.sl l.length (codeC l))])) (fun ((i, S) : Nat × (Nat → Bool)) => l.length - i) ((0, S)) ⟨by first | omega | assumption | (simp; done) | (simp; omega), by first | omega | assumption | (simp; done) | (simp; omega), by simp [h6, h1, h5, h2, b0, hlt], by simp [h6, h1, h5, h2, b0, hlt], by simp [h6, h1, h5, h2, b0, hlt], by simp [h6, h1, h5, h2, b0, hlt], by simp [h6, h1, h5, h2, b0, hlt], by simp [h6, h1, h5, h2, b0, hlt]⟩ fun (i, S) s hsB LB hLB => ?_
    obtain ⟨hi, hI, h7, h6, h1, h5, h2, b0⟩ := hsB
    repeat (first | simp [h7, h6, h1, h5, h2, b0, hlt] | with_reducible refine And.intro (by omega) ?_ | with_reducible refine optK_if (by omega) ?_ | with_reducible refine optD_if (by omega) ?_ | simp (disch := omega) only [wrap_i64, if_pos, if_neg] | with_reducible refine gsel_pure (by with_unfolding_all rfl) _ (fun hg => by (try simp at hg); simp [hg, h7, h6, h1, h5, h2, b0, hlt]; rfl) ?_ | with_reducible refine dsel_pure (by with_unfolding_all rfl) _ (fun hg => by (try simp at hg); simp [hg, h7, h6, h1, h5, h2, b0, hlt]; rfl) ?_ | with_reducible refine awp_draw (by kernel_rfl) (by decide +kernel) ?_)
    (with_reducible refine condK_intro (fun hli => ?_) (fun hli => ?_)) <;> (try simp only [hli]) <;> (try simp [andB, orB, eqI, ltI, Int.natCast_inj] at hli)
    · repeat (first | simp [h7, h6, h1, h5, h2, b0, hlt, hli] | with_reducible refine And.intro (by omega) ?_ | with_reducible refine optK_if (by omega) ?_ | with_reducible refine optD_if (by omega) ?_ | simp (disch := omega) only [wrap_i64, if_pos, if_neg] | with_reducible refine gsel_pure (by with_unfolding_all rfl) _ (fun hg => by (try simp at hg); simp [hg, h7, h6, h1, h5, h2, b0, hlt, hli]; rfl) ?_ | with_reducible refine dsel_pure (by with_unfolding_all rfl) _ (fun hg => by (try simp at hg); simp [hg, h7, h6, h1, h5, h2, b0, hlt, hli]; rfl) ?_ | with_reducible refine awp_draw (by kernel_rfl) (by decide +kernel) ?_)
      refine gop_call' (at_r12succ name l ok i hli) (by (first | simp [h7, h6, h1, h5, h2, b0, hlt, hli] | simp (disch := omega) [h7, h6, h1, h5, h2, b0, hlt, hli, wrap_i64]); try rfl) (by simp) (by simp) ?_
      repeat (first | simp [h7, h6, h1, h5, h2, b0, hlt, hli] | with_reducible refine And.intro (by omega) ?_ | with_reducible refine optK_if (by omega) ?_ | with_reducible refine optD_if (by omega) ?_ | simp (disch := omega) only [wrap_i64, if_pos, if_neg] | with_reducible refine gsel_pure (by with_unfolding_all rfl) _ (fun hg => by (try simp at hg); simp [hg, h7, h6, h1, h5, h2, b0, hlt, hli]; rfl) ?_ | with_reducible refine dsel_pure (by with_unfolding_all rfl) _ (fun hg => by (try simp at hg); simp [hg, h7, h6, h1, h5, h2, b0, hlt, hli]; rfl) ?_ | with_reducible refine awp_draw (by kernel_rfl) (by decide +kernel) ?_)
      have hsl := sucs_len l i
      have hsn : ∀ x ∈ sucs l i, x ≤ l.length := fun x hx => sucs_le ok hx
      refine awp_loopV (fun ((k, S) : Nat × (Nat → Bool)) (s : St) => (k ≤ (sucs l i).length) ∧ (WI l w p i k S) ∧ s.env 9 = iV .i64 k ∧ s.env 8 = intsA (natI (sucs l i)) ∧ s.env 7 = iV .i64 i ∧ s.env 6 = iV .i64 p ∧ s.env 1 = iV .i64 w ∧ s.env 5 = .cell (.own 65792 1 (l.length + 1) (bl (l.length + 1) S)) ∧ s.env 2 = .cell (.ptr 0 0) ∧ s.box 0 = some ([.p (sC name), .p (.sl l.length (codeC l))])) (fun ((k, S) : Nat × (Nat → Bool)) => (sucs l i).length - k) ((0, S)) ⟨by first | omega | assumption | (simp; done) | (simp; omega), by first | omega | assumption | (simp; done) | (simp; omega), by simp [h7, h6, h1, h5, h2, b0, hlt, hli], by simp [h7, h6, h1, h5, h2, b0, hlt, hli], by simp [h7, h6, h1, h5, h2, b0, hlt, hli], by simp [h7, h6, h1, h5, h2, b0, hlt, hli], by simp [h7, h6, h1, h5, h2, b0, hlt, hli], by simp [h7, h6, h1, h5, h2, b0, hlt, hli], by simp [h7, h6, h1, h5, h2, b0, hlt, hli], by simp [h7, h6, h1, h5, h2, b0, hlt, hli]⟩ fun (k, S) s hsC LC hLC => ?_
      obtain ⟨hk, hJ, h9, h8, h7, h6, h1, h5, h2, b0⟩ := hsC
      by_cases hkk : k < (sucs l i).length
      · have e : ltI (k : Int) (sucs l i).length = true := by simp [ltI, hkk]
        have hg : (bl (l.length + 1) S)[i]? = some (bC (S i)) := bl_get? (by omega)
        have hx : (intsC (natI (sucs l i)))[k]? = some (iC (sucs l i)[k]) := by rw [intsC_get? _ (by simpa using hkk)]; simp [natI]
        have hxn : (sucs l i)[k] ≤ l.length := hsn _ (List.getElem_mem hkk)
        repeat (first | simp [h9, h8, h7, h6, h1, h5, h2, b0, hlt, hli, e, hg, hkk] | with_reducible refine And.intro (by omega) ?_ | with_reducible refine optK_if (by omega) ?_ | with_reducible refine optD_if (by omega) ?_ | simp (disch := omega) only [wrap_i64, if_pos, if_neg] | with_reducible refine gsel_pure (by with_unfolding_all rfl) _ (fun hg => by (try simp at hg); simp [hg, h9, h8, h7, h6, h1, h5, h2, b0, hlt, hli, e, hg, hkk]; rfl) ?_ | with_reducible refine dsel_pure (by with_unfolding_all rfl) _ (fun hg => by (try simp at hg); simp [hg, h9, h8, h7, h6, h1, h5, h2, b0, hlt, hli, e, hg, hkk]; rfl) ?_ | with_reducible refine awp_draw (by kernel_rfl) (by decide +kernel) ?_)
        (with_reducible refine condK_intro (fun hS => ?_) (fun hS => ?_)) <;> (try simp only [hS]) <;> (try simp [andB, orB, eqI, ltI, Int.natCast_inj] at hS)
        · repeat (first | simp [h9, h8, h7, h6, h1, h5, h2, b0, hlt, hli, hS, hx, hkk] | with_reducible refine And.intro (by omega) ?_ | with_reducible refine optK_if (by omega) ?_ | with_reducible refine optD_if (by omega) ?_ | simp (disch := omega) only [wrap_i64, if_pos, if_neg] | with_reducible refine gsel_pure (by with_unfolding_all rfl) _ (fun hg => by (try simp at hg); simp [hg, h9, h8, h7, h6, h1, h5, h2, b0, hlt, hli, hS, hx, hkk]; rfl) ?_ | with_reducible refine dsel_pure (by with_unfolding_all rfl) _ (fun hg => by (try simp at hg); simp [hg, h9, h8, h7, h6, h1, h5, h2, b0, hlt, hli, hS, hx, hkk]; rfl) ?_ | with_reducible refine awp_draw (by kernel_rfl) (by decide +kernel) ?_)
          by_cases hw : ((sucs l i)[k] : Int) = w
          · have e2 : eqI ((sucs l i)[k] : Int) w = true := by simp [eqI, hw]
            repeat (first | simp [h9, h8, h7, h6, h1, h5, h2, b0, hlt, hli, hS, hx, hkk, e2] | with_reducible refine And.intro (by omega) ?_ | with_reducible refine optK_if (by omega) ?_ | with_reducible refine optD_if (by omega) ?_ | simp (disch := omega) only [wrap_i64, if_pos, if_neg] | with_reducible refine gsel_pure (by with_unfolding_all rfl) _ (fun hg => by (try simp at hg); simp [hg, h9, h8, h7, h6, h1, h5, h2, b0, hlt, hli, hS, hx, hkk, e2]; rfl) ?_ | with_reducible refine dsel_pure (by with_unfolding_all rfl) _ (fun hg => by (try simp at hg); simp [hg, h9, h8, h7, h6, h1, h5, h2, b0, hlt, hli, hS, hx, hkk, e2]; rfl) ?_ | with_reducible refine awp_draw (by kernel_rfl) (by decide +kernel) ?_)
            refine hLC ((k + 1, S)) _ ⟨by first | omega | assumption | (simp; done) | (simp; omega), by exact hJ.skip hkk hw, by simp [h9, h8, h7, h6, h1, h5, h2, b0, hlt, hli, hS], by simp [h9, h8, h7, h6, h1, h5, h2, b0, hlt, hli, hS], by simp [h9, h8, h7, h6, h1, h5, h2, b0, hlt, hli, hS], by simp [h9, h8, h7, h6, h1, h5, h2, b0, hlt, hli, hS], by simp [h9, h8, h7, h6, h1, h5, h2, b0, hlt, hli, hS], by simp [h9, h8, h7, h6, h1, h5, h2, b0, hlt, hli, hS], by simp [h9, h8, h7, h6, h1, h5, h2, b0, hlt, hli, hS], by simp [h9, h8, h7, h6, h1, h5, h2, b0, hlt, hli, hS]⟩ (by first | omega | (simp; omega))
          · have e2 : eqI ((sucs l i)[k] : Int) w = false := by simp [eqI, hw]
            have hM := hJ.mark hli hS hkk hw
            have hxn1 : (sucs l i)[k] < l.length + 1 := by omega
            repeat (first | simp [h9, h8, h7, h6, h1, h5, h2, b0, hlt, hli, hS, hkk, e2, hxn1] | with_reducible refine And.intro (by omega) ?_ | with_reducible refine optK_if (by omega) ?_ | with_reducible refine optD_if (by omega) ?_ | simp (disch := omega) only [wrap_i64, if_pos, if_neg] | with_reducible refine gsel_pure (by with_unfolding_all rfl) _ (fun hg => by (try simp at hg); simp [hg, h9, h8, h7, h6, h1, h5, h2, b0, hlt, hli, hS, hkk, e2, hxn1]; rfl) ?_ | with_reducible refine dsel_pure (by with_unfolding_all rfl) _ (fun hg => by (try simp at hg); simp [hg, h9, h8, h7, h6, h1, h5, h2, b0, hlt, hli, hS, hkk, e2, hxn1]; rfl) ?_ | with_reducible refine awp_draw (by kernel_rfl) (by decide +kernel) ?_)
            refine hLC ((k + 1, upB S (sucs l i)[k] true)) _ ⟨by first | omega | assumption | (simp [bl_set]; done) | (simp [bl_set]; omega), by exact hM, by simp [h9, h8, h7, h6, h1, h5, h2, b0, hlt, hli, hS, bl_set], by simp [h9, h8, h7, h6, h1, h5, h2, b0, hlt, hli, hS, bl_set], by simp [h9, h8, h7, h6, h1, h5, h2, b0, hlt, hli, hS, bl_set], by simp [h9, h8, h7, h6, h1, h5, h2, b0, hlt, hli, hS, bl_set], by simp [h9, h8, h7, h6, h1, h5, h2, b0, hlt, hli, hS, bl_set], by simp [h9, h8, h7, h6, h1, h5, h2, b0, hlt, hli, hS, bl_set], by simp [h9, h8, h7, h6, h1, h5, h2, b0, hlt, hli, hS, bl_set], by simp [h9, h8, h7, h6, h1, h5, h2, b0, hlt, hli, hS, bl_set]⟩ (by first | omega | (simp; omega))
        · repeat (first | simp [h9, h8, h7, h6, h1, h5, h2, b0, hlt, hli, hS] | with_reducible refine And.intro (by omega) ?_ | with_reducible refine optK_if (by omega) ?_ | with_reducible refine optD_if (by omega) ?_ | simp (disch := omega) only [wrap_i64, if_pos, if_neg] | with_reducible refine gsel_pure (by with_unfolding_all rfl) _ (fun hg => by (try simp at hg); simp [hg, h9, h8, h7, h6, h1, h5, h2, b0, hlt, hli, hS]; rfl) ?_ | with_reducible refine dsel_pure (by with_unfolding_all rfl) _ (fun hg => by (try simp at hg); simp [hg, h9, h8, h7, h6, h1, h5, h2, b0, hlt, hli, hS]; rfl) ?_ | with_reducible refine awp_draw (by kernel_rfl) (by decide +kernel) ?_)
          refine hLB ((i + 1, S)) _ ⟨by first | omega | assumption | (simp; done) | (simp; omega), by exact hJ.next (.inr hS), by simp [h9, h8, h7, h6, h1, h5, h2, b0, hlt, hli, hS], by simp [h9, h8, h7, h6, h1, h5, h2, b0, hlt, hli, hS], by simp [h9, h8, h7, h6, h1, h5, h2, b0, hlt, hli, hS], by simp [h9, h8, h7, h6, h1, h5, h2, b0, hlt, hli, hS], by simp [h9, h8, h7, h6, h1, h5, h2, b0, hlt, hli, hS], by simp [h9, h8, h7, h6, h1, h5, h2, b0, hlt, hli, hS]⟩ (by first | omega | (simp; omega))
      · have e : ltI (k : Int) (sucs l i).length = false := by simp [ltI, hkk]
        repeat (first | simp [h9, h8, h7, h6, h1, h5, h2, b0, hlt, hli, e] | with_reducible refine And.intro (by omega) ?_ | with_reducible refine optK_if (by omega) ?_ | with_reducible refine optD_if (by omega) ?_ | simp (disch := omega) only [wrap_i64, if_pos, if_neg] | with_reducible refine gsel_pure (by with_unfolding_all rfl) _ (fun hg => by (try simp at hg); simp [hg, h9, h8, h7, h6, h1, h5, h2, b0, hlt, hli, e]; rfl) ?_ | with_reducible refine dsel_pure (by with_unfolding_all rfl) _ (fun hg => by (try simp at hg); simp [hg, h9, h8, h7, h6, h1, h5, h2, b0, hlt, hli, e]; rfl) ?_ | with_reducible refine awp_draw (by kernel_rfl) (by decide +kernel) ?_)
        refine hLB ((i + 1, S)) _ ⟨by first | omega | assumption | (simp; done) | (simp; omega), by exact hJ.next (.inl (by omega)), by simp [h9, h8, h7, h6, h1, h5, h2, b0, hlt, hli], by simp [h9, h8, h7, h6, h1, h5, h2, b0, hlt, hli], by simp [h9, h8, h7, h6, h1, h5, h2, b0, hlt, hli], by simp [h9, h8, h7, h6, h1, h5, h2, b0, hlt, hli], by simp [h9, h8, h7, h6, h1, h5, h2, b0, hlt, hli], by simp [h9, h8, h7, h6, h1, h5, h2, b0, hlt, hli]⟩ (by first | omega | (simp; omega))
    · have : i = l.length := by omega
      subst this
      repeat (first | simp [h7, h6, h1, h5, h2, b0, hlt, hli] | with_reducible refine And.intro (by omega) ?_ | with_reducible refine optK_if (by omega) ?_ | with_reducible refine optD_if (by omega) ?_ | simp (disch := omega) only [wrap_i64, if_pos, if_neg] | with_reducible refine gsel_pure (by with_unfolding_all rfl) _ (fun hg => by (try simp at hg); simp [hg, h7, h6, h1, h5, h2, b0, hlt, hli]; rfl) ?_ | with_reducible refine dsel_pure (by with_unfolding_all rfl) _ (fun hg => by (try simp at hg); simp [hg, h7, h6, h1, h5, h2, b0, hlt, hli]; rfl) ?_ | with_reducible refine awp_draw (by kernel_rfl) (by decide +kernel) ?_)
      refine hLA ((p + 1, S)) _ ⟨by first | omega | assumption | (simp; done) | (simp; omega), by exact hI.done, by simp [h7, h6, h1, h5, h2, b0, hlt, hli], by simp [h7, h6, h1, h5, h2, b0, hlt, hli], by simp [h7, h6, h1, h5, h2, b0, hlt, hli], by simp [h7, h6, h1, h5, h2, b0, hlt, hli], by simp [h7, h6, h1, h5, h2, b0, hlt, hli]⟩ (by first | omega | (simp; omega))
  · have : p = l.length := by omega
    subst this
    have hF := hW.fin
    repeat (first | simp [h6, h1, h5, h2, b0, hlt] | with_reducible refine And.intro (by omega) ?_ | with_reducible refine optK_if (by omega) ?_ | with_reducible refine optD_if (by omega) ?_ | simp (disch := omega) only [wrap_i64, if_pos, if_neg] | with_reducible refine gsel_pure (by with_unfolding_all rfl) _ (fun hg => by (try simp at hg); simp [hg, h6, h1, h5, h2, b0, hlt]; rfl) ?_ | with_reducible refine dsel_pure (by with_unfolding_all rfl) _ (fun hg => by (try simp at hg); simp [hg, h6, h1, h5, h2, b0, hlt]; rfl) ?_ | with_reducible refine awp_draw (by kernel_rfl) (by decide +kernel) ?_)
    refine hQ _ _ (ret2 (by simp [retAV, resAV]; rfl) (by simp; rfl) ?_)
    rw [bl_take (by omega), hF]
set_option maxHeartbeats 2000000 in
theorem at_dominates (name : ByteArray) (l : List I8) (ok : OkL l) : At Tryd.prog 54 [fAV name l] (boolsA (l.length * l.length) (domM l)) := by
  have hlen := ok.len
  have eN := mat_wrap1 hlen (Nat.le_refl l.length)
  refine at_pure (r := .cell (.own 0 1 (l.length * l.length) (bl (l.length * l.length) (domM l)))) ?_ (by simp)
  obtain ⟨N, hN⟩ : ∃ N, N = l.length * l.length := ⟨_, rfl⟩
  have hN2 : N ≤ 64 * 64 := by rw [hN]; exact Nat.mul_le_mul hlen hlen
  have eN2 : (l.length : Int) * l.length = N := by rw [hN]; simp
  rw [eN2] at eN
  rw [← hN]
  refine at_code mixed Tryd.func54 (by kernel_rfl) rfl (by kernel_rfl) (by kernel_rfl) rfl fun Q hQ => ?_
  repeat (first | simp [repC_bl, eN, eN2] | with_reducible refine And.intro (by omega) ?_ | with_reducible refine optK_if (by omega) ?_ | with_reducible refine optD_if (by omega) ?_ | simp (disch := omega) only [wrap_i64, if_pos, if_neg] | with_reducible refine gsel_pure (by with_unfolding_all rfl) _ (fun hg => by (try simp at hg); simp [hg, repC_bl, eN, eN2]; rfl) ?_ | with_reducible refine dsel_pure (by with_unfolding_all rfl) _ (fun hg => by (try simp at hg); simp [hg, repC_bl, eN, eN2]; rfl) ?_ | with_reducible refine awp_draw (by kernel_rfl) (by decide +kernel) ?_)
  refine gop_call' (at_without name l ok (-1)) (by (first | simp [repC_bl] | simp (disch := omega) [repC_bl, wrap_i64]); try rfl) (by simp) (by simp) ?_
  repeat (first | simp [repC_bl] | with_reducible refine And.intro (by omega) ?_ | with_reducible refine optK_if (by omega) ?_ | with_reducible refine optD_if (by omega) ?_ | simp (disch := omega) only [wrap_i64, if_pos, if_neg] | with_reducible refine gsel_pure (by with_unfolding_all rfl) _ (fun hg => by (try simp at hg); simp [hg, repC_bl]; rfl) ?_ | with_reducible refine dsel_pure (by with_unfolding_all rfl) _ (fun hg => by (try simp at hg); simp [hg, repC_bl]; rfl) ?_ | with_reducible refine awp_draw (by kernel_rfl) (by decide +kernel) ?_)
  refine awp_loopV (fun (d : Nat) (s : St) => (d ≤ l.length) ∧ s.env 6 = iV .i64 d ∧ s.env 3 = iV .i64 l.length ∧ s.env 5 = boolsA l.length (wOn l (-1)) ∧ s.env 4 = .cell (.own 131264 1 N (bl N (domP l (d * l.length)))) ∧ s.env 1 = .cell (.ptr 0 0) ∧ s.box 0 = some ([.p (sC name), .p (.sl l.length (codeC l))])) (fun (d : Nat) => l.length - d) (0) ⟨by first | omega | assumption | (simp [repC_bl, domP_zero]; done) | (simp [repC_bl, domP_zero]; omega), by simp [repC_bl, domP_zero], by simp [repC_bl, domP_zero], by simp [repC_bl, domP_zero], by simp [repC_bl, domP_zero], by simp [repC_bl, domP_zero], by simp [repC_bl, domP_zero]⟩ fun d s hsA LA hLA => ?_
  obtain ⟨hd, h6, h3, h5, h4, h1, b0⟩ := hsA
  repeat (first | simp [h6, h3, h5, h4, h1, b0] | with_reducible refine And.intro (by omega) ?_ | with_reducible refine optK_if (by omega) ?_ | with_reducible refine optD_if (by omega) ?_ | simp (disch := omega) only [wrap_i64, if_pos, if_neg] | with_reducible refine gsel_pure (by with_unfolding_all rfl) _ (fun hg => by (try simp at hg); simp [hg, h6, h3, h5, h4, h1, b0]; rfl) ?_ | with_reducible refine dsel_pure (by with_unfolding_all rfl) _ (fun hg => by (try simp at hg); simp [hg, h6, h3, h5, h4, h1, b0]; rfl) ?_ | with_reducible refine awp_draw (by kernel_rfl) (by decide +kernel) ?_)
  (with_reducible refine condK_intro (fun hlt => ?_) (fun hlt => ?_)) <;> (try simp only [hlt]) <;> (try simp [andB, orB, eqI, ltI, Int.natCast_inj] at hlt)
  · repeat (first | simp [h6, h3, h5, h4, h1, b0, hlt] | with_reducible refine And.intro (by omega) ?_ | with_reducible refine optK_if (by omega) ?_ | with_reducible refine optD_if (by omega) ?_ | simp (disch := omega) only [wrap_i64, if_pos, if_neg] | with_reducible refine gsel_pure (by with_unfolding_all rfl) _ (fun hg => by (try simp at hg); simp [hg, h6, h3, h5, h4, h1, b0, hlt]; rfl) ?_ | with_reducible refine dsel_pure (by with_unfolding_all rfl) _ (fun hg => by (try simp at hg); simp [hg, h6, h3, h5, h4, h1, b0, hlt]; rfl) ?_ | with_reducible refine awp_draw (by kernel_rfl) (by decide +kernel) ?_)
    refine gop_call' (at_without name l ok d) (by (first | simp [h6, h3, h5, h4, h1, b0, hlt] | simp (disch := omega) [h6, h3, h5, h4, h1, b0, hlt, wrap_i64]); try rfl) (by simp) (by simp) ?_
    repeat (first | simp [h6, h3, h5, h4, h1, b0, hlt] | with_reducible refine And.intro (by omega) ?_ | with_reducible refine optK_if (by omega) ?_ | with_reducible refine optD_if (by omega) ?_ | simp (disch := omega) only [wrap_i64, if_pos, if_neg] | with_reducible refine gsel_pure (by with_unfolding_all rfl) _ (fun hg => by (try simp at hg); simp [hg, h6, h3, h5, h4, h1, b0, hlt]; rfl) ?_ | with_reducible refine dsel_pure (by with_unfolding_all rfl) _ (fun hg => by (try simp at hg); simp [hg, h6, h3, h5, h4, h1, b0, hlt]; rfl) ?_ | with_reducible refine awp_draw (by kernel_rfl) (by decide +kernel) ?_)
    refine awp_loopV (fun (i : Nat) (s : St) => (i ≤ l.length) ∧ s.env 8 = iV .i64 i ∧ s.env 7 = boolsA l.length (wOn l d) ∧ s.env 6 = iV .i64 d ∧ s.env 3 = iV .i64 l.length ∧ s.env 5 = boolsA l.length (wOn l (-1)) ∧ s.env 4 = .cell (.own 131264 1 N (bl N (domP l (d * l.length + i)))) ∧ s.env 1 = .cell (.ptr 0 0) ∧ s.box 0 = some ([.p (sC name), .p (.sl l.length (codeC l))])) (fun (i : Nat) => l.length - i) (0) ⟨by first | omega | assumption | (simp; done) | (simp; omega), by simp [h6, h3, h5, h4, h1, b0, hlt], by simp [h6, h3, h5, h4, h1, b0, hlt], by simp [h6, h3, h5, h4, h1, b0, hlt], by simp [h6, h3, h5, h4, h1, b0, hlt], by simp [h6, h3, h5, h4, h1, b0, hlt], by simp [h6, h3, h5, h4, h1, b0, hlt], by simp [h6, h3, h5, h4, h1, b0, hlt], by simp [h6, h3, h5, h4, h1, b0, hlt]⟩ fun i s hsB LB hLB => ?_
    obtain ⟨hi, h8, h7, h6, h3, h5, h4, h1, b0⟩ := hsB
    repeat (first | simp [h8, h7, h6, h3, h5, h4, h1, b0, hlt] | with_reducible refine And.intro (by omega) ?_ | with_reducible refine optK_if (by omega) ?_ | with_reducible refine optD_if (by omega) ?_ | simp (disch := omega) only [wrap_i64, if_pos, if_neg] | with_reducible refine gsel_pure (by with_unfolding_all rfl) _ (fun hg => by (try simp at hg); simp [hg, h8, h7, h6, h3, h5, h4, h1, b0, hlt]; rfl) ?_ | with_reducible refine dsel_pure (by with_unfolding_all rfl) _ (fun hg => by (try simp at hg); simp [hg, h8, h7, h6, h3, h5, h4, h1, b0, hlt]; rfl) ?_ | with_reducible refine awp_draw (by kernel_rfl) (by decide +kernel) ?_)
    (with_reducible refine condK_intro (fun hli => ?_) (fun hli => ?_)) <;> (try simp only [hli]) <;> (try simp [andB, orB, eqI, ltI, Int.natCast_inj] at hli)
    · obtain ⟨m, hm⟩ : ∃ m, m = d * l.length + i := ⟨_, rfl⟩
      have hml : m < N := by rw [hm, hN]; exact mat_lt hlt hli
      have w1 := mat_wrap1 hlen (Nat.le_of_lt hlt)
      have w2 := mat_wrap2 hlen (Nat.le_of_lt hlt) (Nat.le_of_lt hli) hm
      have g1 : (bl l.length (wOn l (-1)))[d]? = some (bC (wOn l (-1) d)) := bl_get? hlt
      have g2 : (bl l.length (wOn l (-1)))[i]? = some (bC (wOn l (-1) i)) := bl_get? hli
      have g3 : (bl l.length (wOn l d))[i]? = some (bC (wOn l d i)) := bl_get? hli
      have hset : domM l m = domR l d i := domM_at hlt hli hm
      have hm1 : d * l.length + (i + 1) = m + 1 := by omega
      have hv : andB (andB (wOn l (-1) d) (wOn l (-1) i)) (!wOn l d i) = domM l m := by rw [hset]; simp [domR, andB]
      have hse : (bl N (domP l m)).set m (bC (domM l m)) = bl N (domP l (m + 1)) := domP_set rfl
      rw [← hm] at h4
      repeat (first | simp [h8, h7, h6, h3, h5, h4, h1, b0, hlt, hli, w1, w2, g1, g2, g3, hlt, hli] | with_reducible refine And.intro (by omega) ?_ | with_reducible refine optK_if (by omega) ?_ | with_reducible refine optD_if (by omega) ?_ | simp (disch := omega) only [wrap_i64, if_pos, if_neg] | with_reducible refine gsel_pure (by with_unfolding_all rfl) _ (fun hg => by (try simp at hg); simp [hg, h8, h7, h6, h3, h5, h4, h1, b0, hlt, hli, w1, w2, g1, g2, g3, hlt, hli]; rfl) ?_ | with_reducible refine dsel_pure (by with_unfolding_all rfl) _ (fun hg => by (try simp at hg); simp [hg, h8, h7, h6, h3, h5, h4, h1, b0, hlt, hli, w1, w2, g1, g2, g3, hlt, hli]; rfl) ?_ | with_reducible refine awp_draw (by kernel_rfl) (by decide +kernel) ?_)
      refine hLB (i + 1) _ ⟨by first | omega | assumption | (simp [hm1, hv, hse]; done) | (simp [hm1, hv, hse]; omega), by simp [h8, h7, h6, h3, h5, h4, h1, b0, hlt, hli, hm1, hv, hse], by simp [h8, h7, h6, h3, h5, h4, h1, b0, hlt, hli, hm1, hv, hse], by simp [h8, h7, h6, h3, h5, h4, h1, b0, hlt, hli, hm1, hv, hse], by simp [h8, h7, h6, h3, h5, h4, h1, b0, hlt, hli, hm1, hv, hse], by simp [h8, h7, h6, h3, h5, h4, h1, b0, hlt, hli, hm1, hv, hse], by simp [h8, h7, h6, h3, h5, h4, h1, b0, hlt, hli, hm1, hv, hse], by simp [h8, h7, h6, h3, h5, h4, h1, b0, hlt, hli, hm1, hv, hse], by simp [h8, h7, h6, h3, h5, h4, h1, b0, hlt, hli, hm1, hv, hse]⟩ (by first | omega | (simp; omega))
    · have : i = l.length := by omega
      subst this
      have hd1 : (d + 1) * l.length = d * l.length + l.length := Nat.succ_mul _ _
      repeat (first | simp [h8, h7, h6, h3, h5, h4, h1, b0, hlt, hli] | with_reducible refine And.intro (by omega) ?_ | with_reducible refine optK_if (by omega) ?_ | with_reducible refine optD_if (by omega) ?_ | simp (disch := omega) only [wrap_i64, if_pos, if_neg] | with_reducible refine gsel_pure (by with_unfolding_all rfl) _ (fun hg => by (try simp at hg); simp [hg, h8, h7, h6, h3, h5, h4, h1, b0, hlt, hli]; rfl) ?_ | with_reducible refine dsel_pure (by with_unfolding_all rfl) _ (fun hg => by (try simp at hg); simp [hg, h8, h7, h6, h3, h5, h4, h1, b0, hlt, hli]; rfl) ?_ | with_reducible refine awp_draw (by kernel_rfl) (by decide +kernel) ?_)
      refine hLA (d + 1) _ ⟨by first | omega | assumption | (simp [hd1]; done) | (simp [hd1]; omega), by simp [h8, h7, h6, h3, h5, h4, h1, b0, hlt, hli, hd1], by simp [h8, h7, h6, h3, h5, h4, h1, b0, hlt, hli, hd1], by simp [h8, h7, h6, h3, h5, h4, h1, b0, hlt, hli, hd1], by simp [h8, h7, h6, h3, h5, h4, h1, b0, hlt, hli, hd1], by simp [h8, h7, h6, h3, h5, h4, h1, b0, hlt, hli, hd1], by simp [h8, h7, h6, h3, h5, h4, h1, b0, hlt, hli, hd1]⟩ (by first | omega | (simp; omega))
  · have : d = l.length := by omega
    subst this
    rw [← hN, domP_full] at h4
    repeat (first | simp [h6, h3, h5, h4, h1, b0, hlt] | with_reducible refine And.intro (by omega) ?_ | with_reducible refine optK_if (by omega) ?_ | with_reducible refine optD_if (by omega) ?_ | simp (disch := omega) only [wrap_i64, if_pos, if_neg] | with_reducible refine gsel_pure (by with_unfolding_all rfl) _ (fun hg => by (try simp at hg); simp [hg, h6, h3, h5, h4, h1, b0, hlt]; rfl) ?_ | with_reducible refine dsel_pure (by with_unfolding_all rfl) _ (fun hg => by (try simp at hg); simp [hg, h6, h3, h5, h4, h1, b0, hlt]; rfl) ?_ | with_reducible refine awp_draw (by kernel_rfl) (by decide +kernel) ?_)
    refine hQ _ _ (ret2 (by simp [retAV, resAV]; rfl) (by simp; rfl) ?_)
    rfl
set_option maxHeartbeats 2000000 in
theorem at_r12dominators (name : ByteArray) (l : List I8) : At Tryd.prog 21 [fAV name l] (.tup [if funcE l = 0 then intsA (idomL (domB l) l.length l.length) else .cell .z, iV .i64 (funcE l)]) := by
  by_cases hf : funcE l = 0
  rotate_left
  · have e1 : eqI (funcE l) 0 = false := by simp [eqI, hf]
    refine at_code mixed Tryd.func21 (by kernel_rfl) rfl (by kernel_rfl) (by kernel_rfl) rfl fun Q hQ => ?_
    repeat (first | simp | with_reducible refine And.intro (by omega) ?_ | with_reducible refine optK_if (by omega) ?_ | with_reducible refine optD_if (by omega) ?_ | simp (disch := omega) only [wrap_i64, if_pos, if_neg] | with_reducible refine gsel_pure (by with_unfolding_all rfl) _ (fun hg => by (try simp at hg); simp [hg]; rfl) ?_ | with_reducible refine dsel_pure (by with_unfolding_all rfl) _ (fun hg => by (try simp at hg); simp [hg]; rfl) ?_ | with_reducible refine awp_draw (by kernel_rfl) (by decide +kernel) ?_)
    refine gop_call (at_r12Check name l) (by (first | simp [wrap_i64] | simp (disch := omega) [wrap_i64]); try rfl) (by simp) (by simp) ?_
    repeat (first | simp [e1] | with_reducible refine And.intro (by omega) ?_ | with_reducible refine optK_if (by omega) ?_ | with_reducible refine optD_if (by omega) ?_ | simp (disch := omega) only [wrap_i64, if_pos, if_neg] | with_reducible refine gsel_pure (by with_unfolding_all rfl) _ (fun hg => by (try simp at hg); simp [hg, e1]; rfl) ?_ | with_reducible refine dsel_pure (by with_unfolding_all rfl) _ (fun hg => by (try simp at hg); simp [hg, e1]; rfl) ?_ | with_reducible refine awp_draw (by kernel_rfl) (by decide +kernel) ?_)
    refine hQ _ _ (ret2 (by simp [retAV, resAV]; rfl) (by simp; rfl) ?_)
    simp [hf]
  have ok := okL hf
  have hlen := ok.len
  refine at_pure (r := .tup [.cell (.own 0 1 l.length (intsC (domsL l l.length))), iV .i64 (funcE l)]) ?_ (by rw [domsL_full]; simp [hf, idomL_length])
  obtain ⟨N, hN⟩ : ∃ N, N = l.length * l.length := ⟨_, rfl⟩
  have hDom := at_dominates name l ok
  rw [← hN] at hDom
  refine at_code mixed Tryd.func21 (by kernel_rfl) rfl (by kernel_rfl) (by kernel_rfl) rfl fun Q hQ => ?_
  repeat (first | simp | with_reducible refine And.intro (by omega) ?_ | with_reducible refine optK_if (by omega) ?_ | with_reducible refine optD_if (by omega) ?_ | simp (disch := omega) only [wrap_i64, if_pos, if_neg] | with_reducible refine gsel_pure (by with_unfolding_all rfl) _ (fun hg => by (try simp at hg); simp [hg]; rfl) ?_ | with_reducible refine dsel_pure (by with_unfolding_all rfl) _ (fun hg => by (try simp at hg); simp [hg]; rfl) ?_ | with_reducible refine awp_draw (by kernel_rfl) (by decide +kernel) ?_)
  refine gop_call (at_r12Check name l) (by (first | simp [wrap_i64] | simp (disch := omega) [wrap_i64]); try rfl) (by simp) (by simp) ?_
  repeat (first | simp [hf] | with_reducible refine And.intro (by omega) ?_ | with_reducible refine optK_if (by omega) ?_ | with_reducible refine optD_if (by omega) ?_ | simp (disch := omega) only [wrap_i64, if_pos, if_neg] | with_reducible refine gsel_pure (by with_unfolding_all rfl) _ (fun hg => by (try simp at hg); simp [hg, hf]; rfl) ?_ | with_reducible refine dsel_pure (by with_unfolding_all rfl) _ (fun hg => by (try simp at hg); simp [hg, hf]; rfl) ?_ | with_reducible refine awp_draw (by kernel_rfl) (by decide +kernel) ?_)
  refine gop_call' (hDom) (by (first | simp [wrap_i64] | simp (disch := omega) [wrap_i64]); try rfl) (by simp) (by simp) ?_
  repeat (first | simp | with_reducible refine And.intro (by omega) ?_ | with_reducible refine optK_if (by omega) ?_ | with_reducible refine optD_if (by omega) ?_ | simp (disch := omega) only [wrap_i64, if_pos, if_neg] | with_reducible refine gsel_pure (by with_unfolding_all rfl) _ (fun hg => by (try simp at hg); simp [hg]; rfl) ?_ | with_reducible refine dsel_pure (by with_unfolding_all rfl) _ (fun hg => by (try simp at hg); simp [hg]; rfl) ?_ | with_reducible refine awp_draw (by kernel_rfl) (by decide +kernel) ?_)
  refine awp_loopW (fun (k : Nat) (s : St) => (k ≤ l.length) ∧ s.env 8 = iV .i64 k ∧ s.env 7 = .cell (.own 655360000 1 k (intsC (domsL l k))) ∧ s.env 6 = boolsA N (domM l) ∧ s.env 5 = iV .i64 l.length) (fun (k : Nat) => l.length - k) _ (Weak.own 7 655360000 1 (by simp)) (0) ⟨by first | omega | assumption | (simp [domsL]; done) | (simp [domsL]; omega), by simp [domsL], by simp [domsL], by simp [domsL], by simp [domsL]⟩ fun k s hsA LA hLA => ?_
  obtain ⟨hk, h8, h7, h6, h5⟩ := hsA
  repeat (first | simp [h8, h7, h6, h5] | with_reducible refine And.intro (by omega) ?_ | with_reducible refine optK_if (by omega) ?_ | with_reducible refine optD_if (by omega) ?_ | simp (disch := omega) only [wrap_i64, if_pos, if_neg] | with_reducible refine gsel_pure (by with_unfolding_all rfl) _ (fun hg => by (try simp at hg); simp [hg, h8, h7, h6, h5]; rfl) ?_ | with_reducible refine dsel_pure (by with_unfolding_all rfl) _ (fun hg => by (try simp at hg); simp [hg, h8, h7, h6, h5]; rfl) ?_ | with_reducible refine awp_draw (by kernel_rfl) (by decide +kernel) ?_)
  (with_reducible refine condK_intro (fun hlt => ?_) (fun hlt => ?_)) <;> (try simp only [hlt]) <;> (try simp [andB, orB, eqI, ltI, Int.natCast_inj] at hlt)
  · repeat (first | simp [h8, h7, h6, h5, hlt] | with_reducible refine And.intro (by omega) ?_ | with_reducible refine optK_if (by omega) ?_ | with_reducible refine optD_if (by omega) ?_ | simp (disch := omega) only [wrap_i64, if_pos, if_neg] | with_reducible refine gsel_pure (by with_unfolding_all rfl) _ (fun hg => by (try simp at hg); simp [hg, h8, h7, h6, h5, hlt]; rfl) ?_ | with_reducible refine dsel_pure (by with_unfolding_all rfl) _ (fun hg => by (try simp at hg); simp [hg, h8, h7, h6, h5, hlt]; rfl) ?_ | with_reducible refine awp_draw (by kernel_rfl) (by decide +kernel) ?_)
    refine awp_loopV (fun (m : Nat) (s : St) => (m ≤ l.length) ∧ s.env 10 = iV .i64 m ∧ s.env 9 = iV .i64 (idomF (domB l) k m) ∧ s.env 8 = iV .i64 k ∧ s.env 7 = .cell (.own 655360000 1 k (intsC (domsL l k))) ∧ s.env 6 = boolsA N (domM l) ∧ s.env 5 = iV .i64 l.length) (fun (m : Nat) => l.length - m) (0) ⟨by first | omega | assumption | (simp [idomF]; done) | (simp [idomF]; omega), by simp [h8, h7, h6, h5, hlt, idomF], by simp [h8, h7, h6, h5, hlt, idomF], by simp [h8, h7, h6, h5, hlt, idomF], by simp [h8, h7, h6, h5, hlt, idomF], by simp [h8, h7, h6, h5, hlt, idomF], by simp [h8, h7, h6, h5, hlt, idomF]⟩ fun m s hsB LB hLB => ?_
    obtain ⟨hm, h10, h9, h8, h7, h6, h5⟩ := hsB
    repeat (first | simp [h10, h9, h8, h7, h6, h5, hlt] | with_reducible refine And.intro (by omega) ?_ | with_reducible refine optK_if (by omega) ?_ | with_reducible refine optD_if (by omega) ?_ | simp (disch := omega) only [wrap_i64, if_pos, if_neg] | with_reducible refine gsel_pure (by with_unfolding_all rfl) _ (fun hg => by (try simp at hg); simp [hg, h10, h9, h8, h7, h6, h5, hlt]; rfl) ?_ | with_reducible refine dsel_pure (by with_unfolding_all rfl) _ (fun hg => by (try simp at hg); simp [hg, h10, h9, h8, h7, h6, h5, hlt]; rfl) ?_ | with_reducible refine awp_draw (by kernel_rfl) (by decide +kernel) ?_)
    (with_reducible refine condK_intro (fun hml => ?_) (fun hml => ?_)) <;> (try simp only [hml]) <;> (try simp [andB, orB, eqI, ltI, Int.natCast_inj] at hml)
    · have hlt2 := idomF_lt (dom := domB l) (i := k) m
      have hstep : idomF (domB l) k (m + 1) = domStep (domB l) k (idomF (domB l) k m) m := rfl
      generalize idomF (domB l) k m = b at *
      by_cases hmk : m = k
      · have e : eqI (m : Int) k = true := by simp [eqI, hmk]
        have hs : domStep (domB l) k b m = b := by unfold domStep; rw [if_neg (by simp [hmk])]
        rw [hs] at hstep
        repeat (first | simp [h10, h9, h8, h7, h6, h5, hlt, hml, e] | with_reducible refine And.intro (by omega) ?_ | with_reducible refine optK_if (by omega) ?_ | with_reducible refine optD_if (by omega) ?_ | simp (disch := omega) only [wrap_i64, if_pos, if_neg] | with_reducible refine gsel_pure (by with_unfolding_all rfl) _ (fun hg => by (try simp at hg); simp [hg, h10, h9, h8, h7, h6, h5, hlt, hml, e]; rfl) ?_ | with_reducible refine dsel_pure (by with_unfolding_all rfl) _ (fun hg => by (try simp at hg); simp [hg, h10, h9, h8, h7, h6, h5, hlt, hml, e]; rfl) ?_ | with_reducible refine awp_draw (by kernel_rfl) (by decide +kernel) ?_)
        refine hLB (m + 1) _ ⟨by first | omega | assumption | (simp [hstep]; done) | (simp [hstep]; omega), by simp [h10, h9, h8, h7, h6, h5, hlt, hml, hstep], by simp [h10, h9, h8, h7, h6, h5, hlt, hml, hstep], by simp [h10, h9, h8, h7, h6, h5, hlt, hml, hstep], by simp [h10, h9, h8, h7, h6, h5, hlt, hml, hstep], by simp [h10, h9, h8, h7, h6, h5, hlt, hml, hstep], by simp [h10, h9, h8, h7, h6, h5, hlt, hml, hstep]⟩ (by first | omega | (simp; omega))
      have e : eqI (m : Int) k = false := by simp [eqI]; omega
      obtain ⟨j, hj⟩ : ∃ j, j = m * l.length + k := ⟨_, rfl⟩
      have hjN : j < N := by rw [hj, hN]; exact mat_lt hml hlt
      have w1 := mat_wrap1 hlen (Nat.le_of_lt hml)
      have w2 := mat_wrap2 hlen (Nat.le_of_lt hml) (Nat.le_of_lt hlt) hj
      have hd := domM_B hml hlt hj
      have g1 : (bl N (domM l))[j]? = some (bC (domM l j)) := bl_get? hjN
      by_cases hdb : domB l m k = true
      rotate_left
      · have hd2 : domM l j = false := by rw [hd]; simpa using hdb
        have hs : domStep (domB l) k b m = b := by unfold domStep; rw [if_neg (fun h => hdb h.2.1)]
        rw [hs] at hstep
        repeat (first | simp [h10, h9, h8, h7, h6, h5, hlt, hml, e, w1, w2, g1, hjN, hd2] | with_reducible refine And.intro (by omega) ?_ | with_reducible refine optK_if (by omega) ?_ | with_reducible refine optD_if (by omega) ?_ | simp (disch := omega) only [wrap_i64, if_pos, if_neg] | with_reducible refine gsel_pure (by with_unfolding_all rfl) _ (fun hg => by (try simp at hg); simp [hg, h10, h9, h8, h7, h6, h5, hlt, hml, e, w1, w2, g1, hjN, hd2]; rfl) ?_ | with_reducible refine dsel_pure (by with_unfolding_all rfl) _ (fun hg => by (try simp at hg); simp [hg, h10, h9, h8, h7, h6, h5, hlt, hml, e, w1, w2, g1, hjN, hd2]; rfl) ?_ | with_reducible refine awp_draw (by kernel_rfl) (by decide +kernel) ?_)
        refine hLB (m + 1) _ ⟨by first | omega | assumption | (simp [hstep]; done) | (simp [hstep]; omega), by simp [h10, h9, h8, h7, h6, h5, hlt, hml, hstep], by simp [h10, h9, h8, h7, h6, h5, hlt, hml, hstep], by simp [h10, h9, h8, h7, h6, h5, hlt, hml, hstep], by simp [h10, h9, h8, h7, h6, h5, hlt, hml, hstep], by simp [h10, h9, h8, h7, h6, h5, hlt, hml, hstep], by simp [h10, h9, h8, h7, h6, h5, hlt, hml, hstep]⟩ (by first | omega | (simp; omega))
      have hd2 : domM l j = true := by rw [hd]; exact hdb
      by_cases hb0 : b < 0
      · have e0 : ltI b 0 = true := by simp [ltI, hb0]
        have hs : domStep (domB l) k b m = m := by unfold domStep; rw [if_pos ⟨by omega, hdb, .inl hb0⟩]
        rw [hs] at hstep
        repeat (first | simp [h10, h9, h8, h7, h6, h5, hlt, hml, e, w1, w2, g1, hjN, hd2, e0] | with_reducible refine And.intro (by omega) ?_ | with_reducible refine optK_if (by omega) ?_ | with_reducible refine optD_if (by omega) ?_ | simp (disch := omega) only [wrap_i64, if_pos, if_neg] | with_reducible refine gsel_pure (by with_unfolding_all rfl) _ (fun hg => by (try simp at hg); simp [hg, h10, h9, h8, h7, h6, h5, hlt, hml, e, w1, w2, g1, hjN, hd2, e0]; rfl) ?_ | with_reducible refine dsel_pure (by with_unfolding_all rfl) _ (fun hg => by (try simp at hg); simp [hg, h10, h9, h8, h7, h6, h5, hlt, hml, e, w1, w2, g1, hjN, hd2, e0]; rfl) ?_ | with_reducible refine awp_draw (by kernel_rfl) (by decide +kernel) ?_)
        refine hLB (m + 1) _ ⟨by first | omega | assumption | (simp [hstep]; done) | (simp [hstep]; omega), by simp [h10, h9, h8, h7, h6, h5, hlt, hml, hstep], by simp [h10, h9, h8, h7, h6, h5, hlt, hml, hstep], by simp [h10, h9, h8, h7, h6, h5, hlt, hml, hstep], by simp [h10, h9, h8, h7, h6, h5, hlt, hml, hstep], by simp [h10, h9, h8, h7, h6, h5, hlt, hml, hstep], by simp [h10, h9, h8, h7, h6, h5, hlt, hml, hstep]⟩ (by first | omega | (simp; omega))
      obtain ⟨c, rfl⟩ : ∃ c : Nat, b = c := ⟨b.toNat, by omega⟩
      have e0 : ltI (c : Int) 0 = false := by simp [ltI]
      have hcl : c < l.length := by omega
      obtain ⟨q, hq⟩ : ∃ q, q = c * l.length + m := ⟨_, rfl⟩
      have hqN : q < N := by rw [hq, hN]; exact mat_lt hcl hml
      have w3 := mat_wrap1 hlen (Nat.le_of_lt hcl)
      have w4 := mat_wrap2 hlen (Nat.le_of_lt hcl) (Nat.le_of_lt hml) hq
      have hdq := domM_B hcl hml hq
      have g2 : (bl N (domM l))[q]? = some (bC (domM l q)) := bl_get? hqN
      by_cases hdc : domB l c m = true
      · have hd3 : domM l q = true := by rw [hdq]; exact hdc
        have hs : domStep (domB l) k c m = m := by unfold domStep; rw [if_pos ⟨by omega, hdb, .inr hdc⟩]
        rw [hs] at hstep
        repeat (first | simp [h10, h9, h8, h7, h6, h5, hlt, hml, e, w1, w2, g1, hjN, hd2, e0, w3, w4, g2, hqN, hd3] | with_reducible refine And.intro (by omega) ?_ | with_reducible refine optK_if (by omega) ?_ | with_reducible refine optD_if (by omega) ?_ | simp (disch := omega) only [wrap_i64, if_pos, if_neg] | with_reducible refine gsel_pure (by with_unfolding_all rfl) _ (fun hg => by (try simp at hg); simp [hg, h10, h9, h8, h7, h6, h5, hlt, hml, e, w1, w2, g1, hjN, hd2, e0, w3, w4, g2, hqN, hd3]; rfl) ?_ | with_reducible refine dsel_pure (by with_unfolding_all rfl) _ (fun hg => by (try simp at hg); simp [hg, h10, h9, h8, h7, h6, h5, hlt, hml, e, w1, w2, g1, hjN, hd2, e0, w3, w4, g2, hqN, hd3]; rfl) ?_ | with_reducible refine awp_draw (by kernel_rfl) (by decide +kernel) ?_)
        refine hLB (m + 1) _ ⟨by first | omega | assumption | (simp [hstep]; done) | (simp [hstep]; omega), by simp [h10, h9, h8, h7, h6, h5, hlt, hml, hstep], by simp [h10, h9, h8, h7, h6, h5, hlt, hml, hstep], by simp [h10, h9, h8, h7, h6, h5, hlt, hml, hstep], by simp [h10, h9, h8, h7, h6, h5, hlt, hml, hstep], by simp [h10, h9, h8, h7, h6, h5, hlt, hml, hstep], by simp [h10, h9, h8, h7, h6, h5, hlt, hml, hstep]⟩ (by first | omega | (simp; omega))
      · have hd3 : domM l q = false := by rw [hdq]; simpa using hdc
        have hs : domStep (domB l) k c m = c := by unfold domStep; rw [if_neg (fun h => by rcases h.2.2 with h | h; omega; exact hdc h)]
        rw [hs] at hstep
        repeat (first | simp [h10, h9, h8, h7, h6, h5, hlt, hml, e, w1, w2, g1, hjN, hd2, e0, w3, w4, g2, hqN, hd3] | with_reducible refine And.intro (by omega) ?_ | with_reducible refine optK_if (by omega) ?_ | with_reducible refine optD_if (by omega) ?_ | simp (disch := omega) only [wrap_i64, if_pos, if_neg] | with_reducible refine gsel_pure (by with_unfolding_all rfl) _ (fun hg => by (try simp at hg); simp [hg, h10, h9, h8, h7, h6, h5, hlt, hml, e, w1, w2, g1, hjN, hd2, e0, w3, w4, g2, hqN, hd3]; rfl) ?_ | with_reducible refine dsel_pure (by with_unfolding_all rfl) _ (fun hg => by (try simp at hg); simp [hg, h10, h9, h8, h7, h6, h5, hlt, hml, e, w1, w2, g1, hjN, hd2, e0, w3, w4, g2, hqN, hd3]; rfl) ?_ | with_reducible refine awp_draw (by kernel_rfl) (by decide +kernel) ?_)
        refine hLB (m + 1) _ ⟨by first | omega | assumption | (simp [hstep]; done) | (simp [hstep]; omega), by simp [h10, h9, h8, h7, h6, h5, hlt, hml, hstep], by simp [h10, h9, h8, h7, h6, h5, hlt, hml, hstep], by simp [h10, h9, h8, h7, h6, h5, hlt, hml, hstep], by simp [h10, h9, h8, h7, h6, h5, hlt, hml, hstep], by simp [h10, h9, h8, h7, h6, h5, hlt, hml, hstep], by simp [h10, h9, h8, h7, h6, h5, hlt, hml, hstep]⟩ (by first | omega | (simp; omega))
    · have : m = l.length := by omega
      subst this
      have hdl := domsL_len l k
      repeat (first | simp [h10, h9, h8, h7, h6, h5, hlt, hml] | with_reducible refine And.intro (by omega) ?_ | with_reducible refine optK_if (by omega) ?_ | with_reducible refine optD_if (by omega) ?_ | simp (disch := omega) only [wrap_i64, if_pos, if_neg] | with_reducible refine gsel_pure (by with_unfolding_all rfl) _ (fun hg => by (try simp at hg); simp [hg, h10, h9, h8, h7, h6, h5, hlt, hml]; rfl) ?_ | with_reducible refine dsel_pure (by with_unfolding_all rfl) _ (fun hg => by (try simp at hg); simp [hg, h10, h9, h8, h7, h6, h5, hlt, hml]; rfl) ?_ | with_reducible refine awp_draw (by kernel_rfl) (by decide +kernel) ?_)
      refine hLA (k + 1) _ ⟨by first | omega | assumption | (simp [domsL_succ, intsC_append]; done) | (simp [domsL_succ, intsC_append]; omega), by simp [h10, h9, h8, h7, h6, h5, hlt, hml, domsL_succ, intsC_append], by simp [h10, h9, h8, h7, h6, h5, hlt, hml, domsL_succ, intsC_append], by simp [h10, h9, h8, h7, h6, h5, hlt, hml, domsL_succ, intsC_append], by simp [h10, h9, h8, h7, h6, h5, hlt, hml, domsL_succ, intsC_append]⟩ (by first | omega | (simp; omega))
  · have : k = l.length := by omega
    subst this
    repeat (first | simp [h8, h7, h6, h5, hlt] | with_reducible refine And.intro (by omega) ?_ | with_reducible refine optK_if (by omega) ?_ | with_reducible refine optD_if (by omega) ?_ | simp (disch := omega) only [wrap_i64, if_pos, if_neg] | with_reducible refine gsel_pure (by with_unfolding_all rfl) _ (fun hg => by (try simp at hg); simp [hg, h8, h7, h6, h5, hlt]; rfl) ?_ | with_reducible refine dsel_pure (by with_unfolding_all rfl) _ (fun hg => by (try simp at hg); simp [hg, h8, h7, h6, h5, hlt]; rfl) ?_ | with_reducible refine awp_draw (by kernel_rfl) (by decide +kernel) ?_)
    refine hQ _ _ (ret2 (by simp [retAV, resAV]; rfl) (by simp; rfl) ?_)
    simp [hf]
end Go.Proofs
end
section
set_option linter.all false
namespace Go.Dr
open Go.Fw

/-- d dominates i. -/
structure Dm (l : List I8) (d i : Nat) : Prop where
  d_lt : d < l.length
  i_lt : i < l.length
  d_on : RE l (-1) d
  i_on : RE l (-1) i
  cut : ¬ RE l d i
theorem domB_iff {l : List I8} {d i : Nat} : domB l d i = true ↔ Dm l d i := by
  rw [domB_nat]
  unfold domD domK
  rw [Bool.and_eq_true, decide_eq_true_iff, decide_eq_true_iff, List.mem_filter, List.mem_filter, Bool.and_eq_true, decide_eq_true_iff, decide_eq_true_iff, Bool.not_eq_true', decide_eq_false_iff_not, visit_iff, visit_iff, visit_iff, List.mem_range, List.mem_range]
  constructor
  · rintro ⟨⟨h1, h2, h3⟩, h4, ⟨h5, h6⟩, h7⟩
    exact ⟨h1, h4, h3, h6, fun h => h7 ⟨h4, h⟩⟩
  · rintro ⟨h1, h2, h3, h4, h5⟩
    exact ⟨⟨h1, h1, h3⟩, h2, ⟨h2, h4⟩, fun h => h5 h.2⟩
theorem RE_zero_false {l : List I8} {x : Nat} (h : RE l 0 x) : False := RE_sub (S := fun _ => False) (fun h => h rfl) (fun _ _ _ h _ _ => h) h
theorem RE_all {l : List I8} {w : Int} {x : Nat} (h : RE l w x) : RE l (-1) x :=
  RE_sub (S := fun x => RE l (-1) x) (fun _ => RE_zero (by omega)) (fun y x hy hS hs _ => RE_step hy hS hs (by omega)) h
theorem Dm.refl {l : List I8} {d : Nat} (h : d < l.length) (ho : RE l (-1) d) : Dm l d d := ⟨h, h, ho, ho, fun h => RE_ne h rfl⟩
/-- What is reached without a, is reached without b if b is not reached without a. -/
theorem RE_avoid {l : List I8} {a b c : Nat} (h : RE l a c) (hn : ¬ RE l a b) : RE l b c := by
  have := RE_sub (S := fun x => RE l a x ∧ RE l b x) (fun h0 => ?_) (fun y x hy hS hs hw => ?_) h
  · exact this.2
  · refine ⟨RE_zero h0, RE_zero fun hb => hn ?_⟩
    have : b = 0 := by omega
    subst this
    exact RE_zero h0
  · have hx := RE_step hy hS.1 hs hw
    refine ⟨hx, RE_step hy hS.2 hs fun e => hn ?_⟩
    have : x = b := by omega
    exact this ▸ hx
theorem Dm.trans {l : List I8} {a b c : Nat} (h : Dm l a b) (k : Dm l b c) : Dm l a c := ⟨h.d_lt, k.i_lt, h.d_on, k.i_on, fun hr => k.cut (RE_avoid hr h.cut)⟩
theorem Dm.total {l : List I8} {a b c : Nat} (h : Dm l a c) (k : Dm l b c) : Dm l a b ∨ Dm l b a := by
  by_cases h1 : RE l a b
  · by_cases h2 : RE l b a
    · have := RE_sub (S := fun x => RE l a x ∨ RE l b x) (fun _ => ?_) (fun y x hy hS hs _ => ?_) h.i_on
      · rcases this with e | e
        · exact (h.cut e).elim
        · exact (k.cut e).elim
      · refine .inl (RE_zero fun e => ?_)
        rw [e] at h1
        exact RE_zero_false h1
      · rcases hS with hS | hS
        · by_cases e : (x : Int) = a
          · have : x = a := by omega
            subst this; exact .inr h2
          · exact .inl (RE_step hy hS hs e)
        · by_cases e : (x : Int) = b
          · have : x = b := by omega
            subst this; exact .inl h1
          · exact .inr (RE_step hy hS hs e)
    · exact .inr ⟨k.d_lt, h.d_lt, k.d_on, h.d_on, h2⟩
  · exact .inl ⟨h.d_lt, k.d_lt, h.d_on, k.d_on, h1⟩
theorem Dm.anti {l : List I8} {a b : Nat} (h : Dm l a b) (k : Dm l b a) : a = b := by
  apply Classical.byContradiction
  intro hne
  have := RE_sub (S := fun x => (RE l a x ∧ RE l b x) ∨ RE l a b ∨ RE l b a) (fun _ => ?_) (fun y x hy hS hs _ => ?_) h.i_on
  · rcases this with e | e | e
    · exact RE_ne e.2 rfl
    · exact h.cut e
    · exact k.cut e
  · by_cases ha : a = 0
    · subst ha; exact .inr (.inr (RE_zero (by omega)))
    · by_cases hb : b = 0
      · subst hb; exact .inr (.inl (RE_zero (by omega)))
      · exact .inl ⟨RE_zero (by omega), RE_zero (by omega)⟩
  · rcases hS with hS | hS
    · by_cases ea : x = a
      · subst ea; exact .inr (.inr (RE_step hy hS.2 hs (by omega)))
      · by_cases eb : x = b
        · subst eb; exact .inr (.inl (RE_step hy hS.1 hs (by omega)))
        · exact .inl ⟨RE_step hy hS.1 hs (by omega), RE_step hy hS.2 hs (by omega)⟩
    · exact .inr hS

/-! The closest of those that dominate. -/
structure IdI (l : List I8) (i : Nat) (m : Nat) (b : Int) : Prop where
  none : b < 0 → b = -1 ∧ ∀ d, d < m → d ≠ i → ¬ Dm l d i
  some : ∀ c : Nat, b = c → c < m ∧ c ≠ i ∧ Dm l c i ∧ ∀ d, d < m → d ≠ i → Dm l d i → Dm l d c
theorem idom_inv (l : List I8) (i : Nat) : ∀ m, IdI l i m (idomF (domB l) i m)
  | 0 => ⟨fun _ => ⟨rfl, fun d hd => by omega⟩, fun c hc => by simp [idomF] at hc⟩
  | m + 1 => by
    have h := idom_inv l i m
    have hlt := idomF_lt (dom := domB l) (i := i) m
    rw [idomF]
    generalize idomF (domB l) i m = b at *
    unfold domStep
    split
    · rename_i hc
      obtain ⟨h1, h2, h3⟩ := hc
      have hD := domB_iff.1 h2
      have hmi : m ≠ i := fun e => h1 (by rw [e])
      refine ⟨fun hb => by omega, fun c hcm => ?_⟩
      have : m = c := by omega
      subst this
      refine ⟨by omega, hmi, hD, fun d hd hdi hDd => ?_⟩
      by_cases e : d = m
      · subst e; exact Dm.refl hD.d_lt hD.d_on
      · rcases h3 with h3 | h3
        · exact ((h.none h3).2 d (by omega) hdi hDd).elim
        · rcases Int.lt_or_le b 0 with hb | hb
          · exact ((h.none hb).2 d (by omega) hdi hDd).elim
          · obtain ⟨c, rfl⟩ : ∃ c : Nat, b = c := ⟨b.toNat, by omega⟩
            exact ((h.some c rfl).2.2.2 d (by omega) hdi hDd).trans (domB_iff.1 h3)
    · rename_i hc
      refine ⟨fun hb => ⟨(h.none hb).1, fun d hd hdi hDd => ?_⟩, fun c hbc => ?_⟩
      · by_cases e : d = m
        · subst e; exact hc ⟨by omega, domB_iff.2 hDd, .inl hb⟩
        · exact (h.none hb).2 d (by omega) hdi hDd
      · obtain ⟨h1, h2, h3, h4⟩ := h.some c hbc
        refine ⟨by omega, h2, h3, fun d hd hdi hDd => ?_⟩
        by_cases e : d = m
        · subst e
          rcases hDd.total h3 with hx | hx
          · exact hx
          · exact (hc ⟨by omega, domB_iff.2 hDd, .inr (by rw [hbc]; exact domB_iff.2 hx)⟩).elim
        · exact h4 d (by omega) hdi hDd
def idm (l : List I8) (i : Nat) : Int := idomF (domB l) i l.length
theorem idm_none {l : List I8} {i : Nat} (h : idm l i < 0) {d : Nat} (hd : Dm l d i) : d = i := Classical.byContradiction fun hn => ((idom_inv l i l.length).none h).2 d hd.d_lt hn hd
theorem idm_some {l : List I8} {i c : Nat} (h : idm l i = c) : c ≠ i ∧ Dm l c i ∧ ∀ d, d ≠ i → Dm l d i → Dm l d c := by
  obtain ⟨_, h1, h2, h3⟩ := (idom_inv l i l.length).some c h
  exact ⟨h1, h2, fun d hd hD => h3 d hD.d_lt hd hD⟩
theorem idm_lt (l : List I8) (i : Nat) : -1 ≤ idm l i ∧ idm l i < l.length := idomF_lt _
/-- Following the closest of those that dominate. -/
def abvF (l : List I8) (d : Int) : Nat → Int → Bool
  | 0, _ => false
  | f + 1, x => if 0 ≤ x ∧ x < l.length then (if x = d then true else abvF l d f (idm l x.toNat)) else false
/-- How many dominate i. -/
def cntD (l : List I8) (i : Nat) : Nat := ((List.range l.length).filter fun (d : Nat) => domB l d i).length
theorem filter_lt {α : Type} {p q : α → Bool} : ∀ {l : List α}, (∀ x ∈ l, p x = true → q x = true) → (∃ x ∈ l, q x = true ∧ p x = false) → (l.filter p).length < (l.filter q).length
  | [], _, ⟨x, hx, _⟩ => by simp at hx
  | a :: l, h, ⟨x, hx, hq, hp⟩ => by
    have hle : (l.filter p).length ≤ (l.filter q).length := by
      have : ∀ (l : List α), (∀ x ∈ l, p x = true → q x = true) → (l.filter p).length ≤ (l.filter q).length := by
        intro l
        induction l with
        | nil => simp
        | cons a l ih =>
          intro h
          have := ih (fun x hx => h x (by simp [hx]))
          rw [List.filter_cons, List.filter_cons]
          cases hpa : p a
          · cases q a <;> simp <;> omega
          · rw [h a (by simp) hpa]; simp; omega
      exact this l (fun x hx => h x (by simp [hx]))
    rw [List.filter_cons, List.filter_cons]
    rcases List.mem_cons.1 hx with rfl | hx
    · rw [hp, hq]; simp; omega
    · have := filter_lt (fun x hx => h x (by simp [hx])) ⟨x, hx, hq, hp⟩
      cases hpa : p a
      · cases q a <;> simp <;> omega
      · rw [h a (by simp) hpa]; simp; omega
theorem cntD_lt {l : List I8} {c i : Nat} (h : Dm l c i) (hne : c ≠ i) : cntD l c < cntD l i := by
  unfold cntD
  apply filter_lt
  · intro x _ hx
    exact domB_iff.2 ((domB_iff.1 hx).trans h)
  · refine ⟨i, by simpa using h.i_lt, domB_iff.2 (Dm.refl h.i_lt h.i_on), ?_⟩
    rw [Bool.eq_false_iff]
    intro hx
    exact hne (h.anti (domB_iff.1 hx))
theorem cntD_le (l : List I8) (i : Nat) : cntD l i ≤ l.length := by
  unfold cntD
  exact Nat.le_trans (List.length_filter_le _ _) (by simp)
theorem cntD_pos {l : List I8} {i : Nat} (h : i < l.length) (ho : RE l (-1) i) : 0 < cntD l i := by
  unfold cntD
  apply List.length_pos_of_mem (a := i)
  rw [List.mem_filter]
  exact ⟨by simpa using h, domB_iff.2 (Dm.refl h ho)⟩
theorem abv_iff {l : List I8} {d : Nat} : ∀ (f : Nat) {i : Nat}, i < l.length → RE l (-1) i → cntD l i ≤ f → (abvF l d f i = true ↔ Dm l d i)
  | 0, i, hi, ho, hc => by have := cntD_pos hi ho; omega
  | f + 1, i, hi, ho, hc => by
    rw [abvF, if_pos (by omega)]
    by_cases e : d = i
    · subst e; simp; exact Dm.refl hi ho
    · rw [if_neg (by omega)]
      have ht : ((i : Int)).toNat = i := by omega
      rw [ht]
      rcases Int.lt_or_le (idm l i) 0 with hn | hs
      · have h1 : abvF l d f (idm l i) = false := by
          cases f with
          | zero => rfl
          | succ f => rw [abvF, if_neg (by omega)]
        rw [h1]
        exact ⟨fun h => (Bool.false_ne_true h).elim, fun h => (e (idm_none hn h)).elim⟩
      · obtain ⟨c, hcc⟩ : ∃ c : Nat, idm l i = c := ⟨(idm l i).toNat, by omega⟩
        obtain ⟨h1, h2, h3⟩ := idm_some hcc
        rw [hcc, abv_iff f h2.d_lt h2.d_on (by have := cntD_lt h2 h1; omega)]
        exact ⟨fun h => h.trans h2, fun h => h3 d e h⟩

/-! Loops. -/
theorem end_Dm {l : List I8} {h x : Nat} (hx : x ∈ endsL l (domB l) h l.length) : h ∈ sucs l x ∧ Dm l h x := by
  unfold endsL at hx
  simp at hx
  exact ⟨hx.2.1, domB_iff.1 hx.2.2⟩
abbrev LE (l : List I8) (h x : Nat) : Prop := LP l h (fun x => x ∈ endsL l (domB l) h l.length) x
theorem LE_Dm {l : List I8} {h x : Nat} (hx : LE l h x) : Dm l h x :=
  LP_sub (S := fun x => Dm l h x) (fun x hx => (end_Dm hx).2) (fun x y hx ho hs hy hyh hD => ⟨hD.d_lt, hx, hD.d_on, (wOn_iff.1 ho).2, fun hr => hD.cut (RE_step hx hr hs (by omega))⟩) hx
theorem wOn_of {l : List I8} {x : Nat} (h : x < l.length) (ho : RE l (-1) x) : wOn l (-1) x = true := wOn_iff.2 ⟨h, ho⟩
/-- A header below another one whose loops meet lies in its loop. -/
theorem header_in {l : List I8} {a b x : Nat} (hne : a ≠ b) (hab : Dm l a b) (hxa : LE l a x) (hxb : Dm l b x) : LE l a b := by
  apply Classical.byContradiction
  intro hn
  have hba : RE l b a := Classical.byContradiction fun h => hne (hab.anti ⟨hab.i_lt, hab.d_lt, hab.i_on, hab.d_on, h⟩)
  have hD := LE_Dm hxa
  have hb0 : b ≠ 0 := by
    intro e
    subst e
    exact RE_zero_false hba
  have := RE_sub (S := fun z => RE l (-1) z ∧ (LE l a z → RE l b z)) (fun h => ⟨RE_zero h, fun _ => RE_zero (by omega)⟩) (fun y z hy hS hs hw => ⟨RE_step hy hS.1 hs hw, fun hz => ?_⟩) hD.i_on
  · exact hxb.cut (this.2 hxa)
  · by_cases e1 : z = a
    · subst e1; exact hba
    · have hzD := LE_Dm hz
      have hy' := hS.2 (LP_step hy (wOn_of hy hS.1) hs hzD.i_lt e1 hz)
      by_cases e2 : z = b
      · subst e2; exact (hn hz).elim
      · exact RE_step hy hy' hs (by omega)
/-- Then its loop lies in that loop. -/
theorem loop_in {l : List I8} {a b : Nat} (hne : a ≠ b) (hab : Dm l a b) (hb : LE l a b) {y : Nat} (hy : LE l b y) : LE l a y := by
  have := LP_sub (S := fun y => LE l a y ∧ Dm l b y) (fun y hy => ?_) (fun x y hx ho hs hyn hyb hS => ?_) hy
  · exact this.1
  · obtain ⟨h1, h2⟩ := end_Dm hy
    exact ⟨LP_step h2.i_lt (wOn_of h2.i_lt h2.i_on) h1 hab.i_lt (fun e => hne e.symm) hb, h2⟩
  · obtain ⟨h1, h2⟩ := hS
    have hya : y ≠ a := by
      intro e
      subst e
      exact hne (hab.anti h2)
    exact ⟨LP_step hx ho hs hyn hya h1, ⟨h2.d_lt, hx, h2.d_on, (wOn_iff.1 ho).2, fun hr => h2.cut (RE_step hx hr hs (by omega))⟩⟩
theorem loopL_mem {l : List I8} {h x : Nat} (hh : h < l.length) : x ∈ loopL l h ↔ x = h ∨ LE l h x := by
  unfold loopL loopT
  unfold sortL
  rw [List.take_of_length_le (Nat.le_trans (List.length_filter_le _ _) (by simp))]
  rw [List.mem_cons, List.mem_filter, List.mem_filter]
  constructor
  · rintro (e | ⟨⟨h1, h2⟩, h3⟩)
    · exact .inl e
    · have h1 : x < l.length := by simpa using h1
      have h3 : x ≠ h := by simpa using h3
      simp [mem_natI] at h2
      exact .inr ((body_iff (ends := endsL l (domB l) h l.length) hh (fun x hx => endsL_lt hx) x h1 h3).1 h2)
  · rintro (e | e)
    · exact .inl e
    · by_cases hx : x = h
      · exact .inl hx
      · have hD := LE_Dm e
        refine .inr ⟨⟨by simpa using hD.i_lt, ?_⟩, by simpa using hx⟩
        simp [mem_natI]
        exact (body_iff (ends := endsL l (domB l) h l.length) hh (fun x hx => endsL_lt hx) x hD.i_lt hx).2 e
/-- Two loops with different headers are disjoint or nested. -/
theorem loops_nest {l : List I8} {a b : Nat} (ha : a < l.length) (hb : b < l.length) (hea : endsL l (domB l) a l.length ≠ []) (heb : endsL l (domB l) b l.length ≠ []) {x : Nat} (hxa : x ∈ loopL l a) (hxb : x ∈ loopL l b) :
    (∀ y ∈ loopL l a, y ∈ loopL l b) ∨ (∀ y ∈ loopL l b, y ∈ loopL l a) := by
  by_cases hne : a = b
  · subst hne; exact .inl fun y h => h
  have hself : ∀ {h : Nat}, h < l.length → endsL l (domB l) h l.length ≠ [] → ∀ {x}, x ∈ loopL l h → Dm l h x := by
    intro h hh he x hx
    rcases (loopL_mem hh).1 hx with e | e
    · subst e
      obtain ⟨y, hy⟩ := List.exists_mem_of_ne_nil _ he
      have := (end_Dm hy).2
      exact Dm.refl this.d_lt this.d_on
    · exact LE_Dm e
  have key : ∀ {a b x : Nat}, a ≠ b → a < l.length → b < l.length → x ∈ loopL l a → x ∈ loopL l b → Dm l a b → Dm l b x → ∀ y ∈ loopL l b, y ∈ loopL l a := by
    intro a b x hne ha hb hxa hxb hab hbx y hy
    rcases (loopL_mem ha).1 hxa with e | e
    · subst e; exact (hne (hab.anti hbx)).elim
    · have hin := header_in hne hab e hbx
      rcases (loopL_mem hb).1 hy with e2 | e2
      · subst e2; exact (loopL_mem ha).2 (.inr hin)
      · exact (loopL_mem ha).2 (.inr (loop_in hne hab hin e2))
  have hDa := hself ha hea hxa
  have hDb := hself hb heb hxb
  rcases hDa.total hDb with h | h
  · exact .inr (key hne ha hb hxa hxb h hDb)
  · exact .inl (key (fun e => hne e.symm) hb ha hxb hxa h hDa)
end Go.Dr
end
section
set_option linter.all false
namespace Go.Dr
open Go.Fw
abbrev Prs := List (Nat × Nat)
def prC1 (p : Nat × Nat) : List CV := [iC p.1, iC p.2]
/-- The cells of pairs. -/
def prC (ps : Prs) : List CV := ps.flatMap prC1
theorem prC1_length (p : Nat × Nat) : (prC1 p).length = 2 := rfl
@[simp] theorem prC_length (ps : Prs) : (prC ps).length = ps.length * 2 := blk_length prC1_length ps
@[simp] theorem prC_nil : prC [] = [] := rfl
theorem prC_append (a b : Prs) : prC (a ++ b) = prC a ++ prC b := by simp [prC]
theorem prC_get (ps : Prs) {i : Nat} (k : Nat) (h : i < ps.length) (hk : k < 2) : (prC ps)[i * 2 + k]? = (prC1 ps[i])[k]? := blk_get prC1_length ps h hk
theorem prC_part (ps : Prs) {i : Nat} (h : i < ps.length) : ((prC ps).drop (i * 2)).take 2 = prC1 ps[i] := by
  have := blk_part (s := 2) prC1_length ps h (show 0 + 2 ≤ 2 by omega)
  have h2 : List.take 2 (prC1 ps[i]) = prC1 ps[i] := rfl
  simpa [h2, prC] using this
theorem prC_partP (ps : Prs) {i : Nat} (h : i < ps.length) : (((prC ps).map AC.p).drop (i * 2)).take 2 = [.p (iC ps[i].1), .p (iC ps[i].2)] := by
  rw [← List.map_drop, ← List.map_take, prC_part ps h]; rfl
theorem prC_0 (ps : Prs) {i : Nat} (h : i < ps.length) : (prC ps)[i * 2]? = some (iC ps[i].1) := by have := prC_get ps 0 h (by omega); simpa [prC1] using this
theorem prC_1 (ps : Prs) {i : Nat} (h : i < ps.length) : (prC ps)[i * 2 + 1]? = some (iC ps[i].2) := by have := prC_get ps 1 h (by omega); simpa [prC1] using this
@[simp] theorem prC_at0 (ps : Prs) {i : Nat} (h : i * 2 < (prC ps).length) : (prC ps)[i * 2] = iC (ps[i]'(by simp at h; omega)).1 := by
  have := prC_0 ps (i := i) (by simp at h; omega)
  rw [List.getElem?_eq_getElem h] at this
  exact Option.some.inj this
@[simp] theorem prC_at1 (ps : Prs) {i : Nat} (h : i * 2 + 1 < (prC ps).length) : (prC ps)[i * 2 + 1] = iC (ps[i]'(by simp at h; omega)).2 := by
  have := prC_1 ps (i := i) (by simp at h; omega)
  rw [List.getElem?_eq_getElem h] at this
  exact Option.some.inj this

/-- The pairs of the instructions ahead of k. -/
def prs (l : List I8) (k : Nat) : Prs := (List.range k).flatMap fun i => (sucs l i).map fun j => (i, j)
theorem prs_succ (l : List I8) (k : Nat) : prs l (k + 1) = prs l k ++ (sucs l k).map fun j => (k, j) := by simp [prs, List.range_succ]
@[simp] theorem prs_zero (l : List I8) : prs l 0 = [] := rfl
theorem prs_mem {l : List I8} {k : Nat} {p : Nat × Nat} : p ∈ prs l k ↔ p.1 < k ∧ p.2 ∈ sucs l p.1 := by
  unfold prs
  rw [List.mem_flatMap]
  constructor
  · rintro ⟨i, hi, hp⟩
    obtain ⟨j, hj, rfl⟩ := List.mem_map.1 hp
    exact ⟨List.mem_range.1 hi, hj⟩
  · rintro ⟨h1, h2⟩
    exact ⟨p.1, List.mem_range.2 h1, List.mem_map.2 ⟨p.2, h2, rfl⟩⟩
theorem prs_len (l : List I8) : ∀ k, (prs l k).length ≤ 2 * k
  | 0 => by simp
  | k + 1 => by
    have := prs_len l k
    have hs := sucs_len l k
    rw [prs_succ]; simp; omega
/-- The pairs of the instructions ahead of k and of the first j successors of k. -/
def prsJ (l : List I8) (k j : Nat) : Prs := prs l k ++ ((sucs l k).take j).map fun x => (k, x)
@[simp] theorem prsJ_zero (l : List I8) (k : Nat) : prsJ l k 0 = prs l k := by simp [prsJ]
theorem prsJ_full (l : List I8) (k : Nat) {j : Nat} (h : (sucs l k).length ≤ j) : prsJ l k j = prs l (k + 1) := by rw [prsJ, List.take_of_length_le h, prs_succ]
theorem prsJ_succ (l : List I8) (k : Nat) {j : Nat} (h : j < (sucs l k).length) : prsJ l k (j + 1) = prsJ l k j ++ [(k, (sucs l k)[j])] := by
  rw [prsJ, List.take_succ_eq_append_getElem h, List.map_append, ← List.append_assoc]; rfl
theorem prsJ_len (l : List I8) (k j : Nat) : (prsJ l k j).length ≤ 2 * k + 2 := by
  have := prs_len l k
  have hs := sucs_len l k
  simp [prsJ]; omega

/-- Pairs as keys. -/
def kPn (p : Nat × Nat) : Int := kP p.1 p.2
theorem kPn_inj {p q : Nat × Nat} (hp : p.2 < 4294967296) (hq : q.2 < 4294967296) (h : kPn p = kPn q) : p = q := by
  unfold kPn kP at h
  have h1 : p.1 = q.1 := by omega
  have h2 : p.2 = q.2 := by omega
  exact Prod.ext h1 h2
theorem kPn_neg (p : Nat × Nat) : kPn p < 0 := by unfold kPn kP; omega
def setK (ps : Prs) : List Int := ps.foldl (fun s p => addK s (kPn p)) []
theorem setK_succ (ps : Prs) {k : Nat} (h : k < ps.length) : setK (ps.take (k + 1)) = addK (setK (ps.take k)) (kPn ps[k]) := by
  unfold setK
  rw [List.take_succ_eq_append_getElem h, List.foldl_append]; rfl
theorem setK_full (ps : Prs) : setK (ps.take ps.length) = setK ps := by rw [List.take_length]
theorem setK_mem_aux (n : Int) : ∀ (ps : Prs) (s : List Int), n ∈ ps.foldl (fun s p => addK s (kPn p)) s ↔ n ∈ s ∨ ∃ p ∈ ps, kPn p = n
  | [], s => by simp
  | p :: ps, s => by
    rw [List.foldl_cons, setK_mem_aux n ps]
    have : n ∈ addK s (kPn p) ↔ n ∈ s ∨ n = kPn p := by
      unfold addK
      split
      · rename_i h
        exact ⟨.inl, fun h' => h'.elim id fun e => e ▸ h⟩
      · simp
    rw [this]
    constructor
    · rintro ((h | h) | ⟨q, hq, h⟩)
      · exact .inl h
      · exact .inr ⟨p, by simp, h.symm⟩
      · exact .inr ⟨q, by simp [hq], h⟩
    · rintro (h | ⟨q, hq, h⟩)
      · exact .inl (.inl h)
      · rcases List.mem_cons.1 hq with rfl | hq
        · exact .inl (.inr h.symm)
        · exact .inr ⟨q, hq, h⟩
theorem setK_mem {ps : Prs} {n : Int} : n ∈ setK ps ↔ ∃ p ∈ ps, kPn p = n := by rw [setK, setK_mem_aux]; simp
theorem setK_pair {ps : Prs} (h : ∀ p ∈ ps, p.2 < 4294967296) {p : Nat × Nat} (hp : p.2 < 4294967296) : kPn p ∈ setK ps ↔ p ∈ ps := by
  rw [setK_mem]
  constructor
  · rintro ⟨q, hq, e⟩
    exact kPn_inj (h q hq) hp e ▸ hq
  · exact fun h => ⟨p, h, rfl⟩
theorem negK_setK_aux : ∀ (ps : Prs) (s : List Int), negK s = true → negK (ps.foldl (fun s p => addK s (kPn p)) s) = true
  | [], s, h => h
  | p :: ps, s, h => by
    rw [List.foldl_cons]
    refine negK_setK_aux ps _ ?_
    have := kPn_neg p
    simp [h, this]
@[simp] theorem negK_setK (ps : Prs) : negK (setK ps) = true := negK_setK_aux ps [] rfl

/-- The pairs with first part a and second part below b, and those ahead of them. -/
def lstB (P : Nat → Nat → Bool) (a b : Nat) : Prs := ((List.range b).filter (P a)).map fun x => (a, x)
def lst (P : Nat → Nat → Bool) (n a : Nat) : Prs := (List.range a).flatMap fun x => lstB P x n
def lstP (P : Nat → Nat → Bool) (n a b : Nat) : Prs := lst P n a ++ lstB P a b
@[simp] theorem lst_zero (P : Nat → Nat → Bool) (n : Nat) : lst P n 0 = [] := rfl
@[simp] theorem lstP_zero (P : Nat → Nat → Bool) (n a : Nat) : lstP P n a 0 = lst P n a := by simp [lstP, lstB]
theorem lstP_full (P : Nat → Nat → Bool) (n a : Nat) : lstP P n a n = lst P n (a + 1) := by simp [lstP, lst, List.range_succ]
theorem lstP_in {P : Nat → Nat → Bool} {n a b : Nat} (h : P a b = true) : lstP P n a (b + 1) = lstP P n a b ++ [(a, b)] := by simp [lstP, lstB, List.range_succ, h]
theorem lstP_out {P : Nat → Nat → Bool} {n a b : Nat} (h : P a b = false) : lstP P n a (b + 1) = lstP P n a b := by simp [lstP, lstB, List.range_succ, h]
theorem lstB_len (P : Nat → Nat → Bool) (a b : Nat) : (lstB P a b).length ≤ b := by
  unfold lstB
  rw [List.length_map]
  exact Nat.le_trans (List.length_filter_le _ _) (by simp)
theorem lst_len (P : Nat → Nat → Bool) (n : Nat) : ∀ a, (lst P n a).length ≤ a * n
  | 0 => by simp
  | a + 1 => by
    have h1 := lst_len P n a
    have h2 := lstB_len P a n
    have : lst P n (a + 1) = lst P n a ++ lstB P a n := by simp [lst, List.range_succ]
    rw [this, List.length_append, Nat.succ_mul]; omega
theorem lstP_len (P : Nat → Nat → Bool) {n a b : Nat} (hn : n ≤ 64) (ha : a ≤ n) (hb : b ≤ n) : (lstP P n a b).length ≤ 64 * 64 + 64 := by
  have h1 := lst_len P n a
  have h2 := lstB_len P a b
  have h3 := Nat.mul_le_mul (Nat.le_trans ha hn) hn
  unfold lstP
  rw [List.length_append]; omega
theorem lst_mem {P : Nat → Nat → Bool} {n a : Nat} {p : Nat × Nat} : p ∈ lst P n a ↔ p.1 < a ∧ p.2 < n ∧ P p.1 p.2 = true := by
  unfold lst lstB
  rw [List.mem_flatMap]
  constructor
  · rintro ⟨i, hi, hp⟩
    obtain ⟨j, hj, rfl⟩ := List.mem_map.1 hp
    rw [List.mem_filter] at hj
    exact ⟨List.mem_range.1 hi, List.mem_range.1 hj.1, hj.2⟩
  · rintro ⟨h1, h2, h3⟩
    exact ⟨p.1, List.mem_range.2 h1, List.mem_map.2 ⟨p.2, List.mem_filter.2 ⟨List.mem_range.2 h2, h3⟩, rfl⟩⟩
theorem lst_congr {P Q : Nat → Nat → Bool} {n : Nat} : ∀ {a : Nat}, (∀ x y, x < a → y < n → P x y = Q x y) → lst P n a = lst Q n a
  | 0, _ => rfl
  | a + 1, h => by
    have e : ∀ R, lst R n (a + 1) = lst R n a ++ lstB R a n := fun R => by simp [lst, List.range_succ]
    rw [e, e, lst_congr fun x y hx hy => h x y (by omega) hy]
    congr 1
    unfold lstB
    congr 1
    exact List.filter_congr fun y hy => h a y (by omega) (List.mem_range.1 hy)
end Go.Dr
end
section
set_option linter.all false
namespace Go.Fw
/-- An empty slice in the second cell of a box counts as owned. -/
theorem Weak.ownB2 {st : St} (b f sz : Nat) (c : AC) (h : st.box b = some [c, .z]) : Weak st (st.setBox b [c, .own f sz 0 []]) := by
  refine ⟨fun _ => .inl rfl, fun i ys hy => ?_⟩
  simp only [St.setBox] at hy
  split at hy
  · rename_i e
    subst e
    cases hy
    refine ⟨_, h, rfl, fun j x y hx hy => ?_⟩
    match j with
    | 0 => simp at hx hy; subst hx; subst hy; exact .inl rfl
    | 1 => simp at hx hy; subst hx; subst hy; exact .inr (.inl ⟨rfl, f, sz, rfl⟩)
    | j + 2 => simp at hx
  · exact ⟨ys, hy, rfl, fun _ x y hx hy => by rw [hx] at hy; cases hy; exact .inl rfl⟩
theorem mapUpdK_pair {P : Program} {t kt e : TypeId} (ht : P.underlying t = some (.map kt e)) (hp : pairK P kt = true) {a b : Int} (hin : pairIn a b = true) {ks : List Int} (hn : negK ks = true) {n : Int} (hk : kP a b = n)
    (f : Nat) (vs : List MV) (st : St) (K : AV → St → Prop) :
    mapUpdK P t (.cell (.mown f ks vs)) (.agg [.p (.c (.int .i64 a)), .p (.c (.int .i64 b))]) (.cell (.p (.c (.bool true)))) st K = K .bad (st.updM f (mputK ks n) (mputV ks (vs.map (·.poison (eqF f))) n (.v (.c (.bool true))))) := by
  subst hk
  simp [mapUpdK, ht, keyC, hp, hin, hn, AV.mv?]
end Go.Fw
namespace Go.Proofs
open Go.Fw Go.Dr
set_option maxRecDepth 100000
theorem pairIn_nat {a b : Nat} (h : b < 4294967296) : pairIn (a : Int) b = true := by unfold pairIn; simp only [Bool.and_eq_true, decide_eq_true_eq]; omega
@[simp] theorem eqo91 : eqOk Tryd.prog 91 = true := by kernel_rfl
theorem prC_one (a b : Nat) : prC [(a, b)] = [iC a, iC b] := rfl
abbrev relP (n : Nat) (ps : Prs) : List AC := [.p (iC n), .p (.sl ps.length (prC ps))]
abbrev relA (n : Nat) (ps : Prs) : AV := .agg (relP n ps)
set_option maxHeartbeats 2000000 in
theorem at_relValid (n : Nat) (ps : Prs) (hn : n ≤ 64) (hlen : ps.length ≤ 100000) (hps : ∀ p ∈ ps, p.1 < n ∧ p.2 < n) : At Tryd.prog 77 [relA n ps] (bV true) := by
  refine at_code mixed Tryd.func77 (by kernel_rfl) rfl (by kernel_rfl) (by kernel_rfl) rfl fun Q hQ => ?_
  have c1 : ltI (n : Int) 0 = false := by simp [ltI]
  have c2 : ltI 64 (n : Int) = false := by simp [ltI]; omega
  repeat (first | simp [c1, c2] | with_reducible refine And.intro (by omega) ?_ | with_reducible refine optK_if (by omega) ?_ | with_reducible refine optD_if (by omega) ?_ | simp (disch := omega) only [wrap_i64, if_pos, if_neg] | with_reducible refine gsel_pure (by with_unfolding_all rfl) _ (fun hg => by (try simp at hg); simp [hg, c1, c2]; rfl) ?_ | with_reducible refine dsel_pure (by with_unfolding_all rfl) _ (fun hg => by (try simp at hg); simp [hg, c1, c2]; rfl) ?_ | with_reducible refine awp_draw (by kernel_rfl) (by decide +kernel) ?_)
  refine awp_loopV (fun (k : Nat) (s : St) => (k ≤ ps.length) ∧ s.env 16 = iV .i64 k ∧ s.env 15 = iV .i64 ps.length ∧ s.env 14 = .cell (.p (.sl ps.length (prC ps))) ∧ s.env 1 = .cell (.ptr 0 0) ∧ s.box 0 = some (relP n ps)) (fun (k : Nat) => ps.length - k) (0) ⟨by first | omega | assumption | (simp; done) | (simp; omega), by simp, by simp, by simp, by simp, by simp⟩ fun k s hsA LA hLA => ?_
  obtain ⟨hk, h16, h15, h14, h1, b0⟩ := hsA
  repeat (first | simp [h16, h15, h14, h1, b0] | with_reducible refine And.intro (by omega) ?_ | with_reducible refine optK_if (by omega) ?_ | with_reducible refine optD_if (by omega) ?_ | simp (disch := omega) only [wrap_i64, if_pos, if_neg] | with_reducible refine gsel_pure (by with_unfolding_all rfl) _ (fun hg => by (try simp at hg); simp [hg, h16, h15, h14, h1, b0]; rfl) ?_ | with_reducible refine dsel_pure (by with_unfolding_all rfl) _ (fun hg => by (try simp at hg); simp [hg, h16, h15, h14, h1, b0]; rfl) ?_ | with_reducible refine awp_draw (by kernel_rfl) (by decide +kernel) ?_)
  (with_reducible refine condK_intro (fun hlt => ?_) (fun hlt => ?_)) <;> (try simp only [hlt]) <;> (try simp [andB, orB, eqI, ltI, Int.natCast_inj] at hlt)
  · have hb := hps ps[k] (List.getElem_mem hlt)
    have hp := prC_partP ps hlt
    have hp2 := prC_part ps hlt
    have d1 : ltI (ps[k].1 : Int) 0 = false := by simp [ltI]
    have d2 : ltI (ps[k].1 : Int) n = true := by simp [ltI]; omega
    have d3 : ltI (ps[k].2 : Int) 0 = false := by simp [ltI]
    have d4 : ltI (ps[k].2 : Int) n = true := by simp [ltI]; omega
    repeat (first | simp [h16, h15, h14, h1, b0, hlt, d1, d2, d3, d4, hp, hp2] | with_reducible refine And.intro (by omega) ?_ | with_reducible refine optK_if (by omega) ?_ | with_reducible refine optD_if (by omega) ?_ | simp (disch := omega) only [wrap_i64, if_pos, if_neg] | with_reducible refine gsel_pure (by with_unfolding_all rfl) _ (fun hg => by (try simp at hg); simp [hg, h16, h15, h14, h1, b0, hlt, d1, d2, d3, d4, hp, hp2]; rfl) ?_ | with_reducible refine dsel_pure (by with_unfolding_all rfl) _ (fun hg => by (try simp at hg); simp [hg, h16, h15, h14, h1, b0, hlt, d1, d2, d3, d4, hp, hp2]; rfl) ?_ | with_reducible refine awp_draw (by kernel_rfl) (by decide +kernel) ?_)
    refine hLA (k + 1) _ ⟨by first | omega | assumption | (simp; done) | (simp; omega), by simp [h16, h15, h14, h1, b0, hlt], by simp [h16, h15, h14, h1, b0, hlt], by simp [h16, h15, h14, h1, b0, hlt], by simp [h16, h15, h14, h1, b0, hlt], by simp [h16, h15, h14, h1, b0, hlt]⟩ (by first | omega | (simp; omega))
  · repeat (first | simp [h16, h15, h14, h1, b0, hlt] | with_reducible refine And.intro (by omega) ?_ | with_reducible refine optK_if (by omega) ?_ | with_reducible refine optD_if (by omega) ?_ | simp (disch := omega) only [wrap_i64, if_pos, if_neg] | with_reducible refine gsel_pure (by with_unfolding_all rfl) _ (fun hg => by (try simp at hg); simp [hg, h16, h15, h14, h1, b0, hlt]; rfl) ?_ | with_reducible refine dsel_pure (by with_unfolding_all rfl) _ (fun hg => by (try simp at hg); simp [hg, h16, h15, h14, h1, b0, hlt]; rfl) ?_ | with_reducible refine awp_draw (by kernel_rfl) (by decide +kernel) ?_)
    refine hQ _ _ (ret2 (by simp [retAV, resAV]; rfl) (by simp; rfl) ?_)
    rfl
set_option maxHeartbeats 2000000 in
theorem at_relSet (n : Nat) (ps : Prs) (hlen : ps.length ≤ 100000) (hps : ∀ p ∈ ps, p.1 < 4294967296 ∧ p.2 < 4294967296) : At Tryd.prog 79 [relA n ps] (.cell (.p (.mp (setK ps) (cstC (setK ps))))) := by
  refine at_code mixed Tryd.func79 (by kernel_rfl) rfl (by kernel_rfl) (by kernel_rfl) rfl fun Q hQ => ?_
  repeat (first | simp | with_reducible refine And.intro (by omega) ?_ | with_reducible refine optK_if (by omega) ?_ | with_reducible refine optD_if (by omega) ?_ | simp (disch := omega) only [wrap_i64, if_pos, if_neg] | with_reducible refine gsel_pure (by with_unfolding_all rfl) _ (fun hg => by (try simp at hg); simp [hg]; rfl) ?_ | with_reducible refine dsel_pure (by with_unfolding_all rfl) _ (fun hg => by (try simp at hg); simp [hg]; rfl) ?_ | with_reducible refine awp_draw (by kernel_rfl) (by decide +kernel) ?_)
  refine awp_loopV (fun (k : Nat) (s : St) => (k ≤ ps.length) ∧ s.env 10 = iV .i64 k ∧ s.env 9 = iV .i64 ps.length ∧ s.env 8 = .cell (.p (.sl ps.length (prC ps))) ∧ s.env 3 = .cell (.mown 65536 (setK (ps.take k)) (cstM (setK (ps.take k)))) ∧ s.env 1 = .cell (.ptr 0 0) ∧ s.box 0 = some (relP n ps)) (fun (k : Nat) => ps.length - k) (0) ⟨by first | omega | assumption | (simp [setK, cstM]; done) | (simp [setK, cstM]; omega), by simp [setK, cstM], by simp [setK, cstM], by simp [setK, cstM], by simp [setK, cstM], by simp [setK, cstM], by simp [setK, cstM]⟩ fun k s hsA LA hLA => ?_
  obtain ⟨hk, h10, h9, h8, h3, h1, b0⟩ := hsA
  repeat (first | simp [h10, h9, h8, h3, h1, b0] | with_reducible refine And.intro (by omega) ?_ | with_reducible refine optK_if (by omega) ?_ | with_reducible refine optD_if (by omega) ?_ | simp (disch := omega) only [wrap_i64, if_pos, if_neg] | with_reducible refine gsel_pure (by with_unfolding_all rfl) _ (fun hg => by (try simp at hg); simp [hg, h10, h9, h8, h3, h1, b0]; rfl) ?_ | with_reducible refine dsel_pure (by with_unfolding_all rfl) _ (fun hg => by (try simp at hg); simp [hg, h10, h9, h8, h3, h1, b0]; rfl) ?_ | with_reducible refine awp_draw (by kernel_rfl) (by decide +kernel) ?_)
  (with_reducible refine condK_intro (fun hlt => ?_) (fun hlt => ?_)) <;> (try simp only [hlt]) <;> (try simp [andB, orB, eqI, ltI, Int.natCast_inj] at hlt)
  · have hb := hps ps[k] (List.getElem_mem hlt)
    have hp := prC_partP ps hlt
    have hp2 := prC_part ps hlt
    have hin : pairIn (ps[k].1 : Int) ps[k].2 = true := pairIn_nat hb.2
    have hng := kPn_neg ps[k]
    have hss := setK_succ ps hlt
    obtain ⟨K, hk1⟩ : ∃ K, kP (ps[k].1 : Int) ps[k].2 = K := ⟨_, rfl⟩
    have hk2 : kPn ps[k] = K := hk1
    rw [hk2] at hng hss
    clear hk2
    have hU := mapUpdK_pair Tryd.underlying118 pk91 hin (negK_setK (ps.take k)) hk1
    clear hin
    repeat (first | simp [h10, h9, h8, h3, h1, b0, hlt, -mapUpdK, hp, hp2, hU] | with_reducible refine And.intro (by omega) ?_ | with_reducible refine optK_if (by omega) ?_ | with_reducible refine optD_if (by omega) ?_ | simp (disch := omega) only [wrap_i64, if_pos, if_neg] | with_reducible refine gsel_pure (by with_unfolding_all rfl) _ (fun hg => by (try simp at hg); simp [hg, h10, h9, h8, h3, h1, b0, hlt, -mapUpdK, hp, hp2, hU]; rfl) ?_ | with_reducible refine dsel_pure (by with_unfolding_all rfl) _ (fun hg => by (try simp at hg); simp [hg, h10, h9, h8, h3, h1, b0, hlt, -mapUpdK, hp, hp2, hU]; rfl) ?_ | with_reducible refine awp_draw (by kernel_rfl) (by decide +kernel) ?_)
    refine hLA (k + 1) _ ⟨by first | omega | assumption | (simp [hss]; done) | (simp [hss]; omega), by simp [h10, h9, h8, h3, h1, b0, hlt, hss], by simp [h10, h9, h8, h3, h1, b0, hlt, hss], by simp [h10, h9, h8, h3, h1, b0, hlt, hss], by simp [h10, h9, h8, h3, h1, b0, hlt, hss], by simp [h10, h9, h8, h3, h1, b0, hlt, hss], by simp [h10, h9, h8, h3, h1, b0, hlt, hss]⟩ (by first | omega | (simp; omega))
  · have : k = ps.length := by omega
    subst this
    rw [setK_full] at h3
    repeat (first | simp [h10, h9, h8, h3, h1, b0, hlt] | with_reducible refine And.intro (by omega) ?_ | with_reducible refine optK_if (by omega) ?_ | with_reducible refine optD_if (by omega) ?_ | simp (disch := omega) only [wrap_i64, if_pos, if_neg] | with_reducible refine gsel_pure (by with_unfolding_all rfl) _ (fun hg => by (try simp at hg); simp [hg, h10, h9, h8, h3, h1, b0, hlt]; rfl) ?_ | with_reducible refine dsel_pure (by with_unfolding_all rfl) _ (fun hg => by (try simp at hg); simp [hg, h10, h9, h8, h3, h1, b0, hlt]; rfl) ?_ | with_reducible refine awp_draw (by kernel_rfl) (by decide +kernel) ?_)
    refine hQ _ _ (ret2 (by simp [retAV, resAV]; rfl) (by simp; rfl) ?_)
    rfl
abbrev relO (n : Nat) (ps : Prs) : AV := .agg [.p (iC n), .own 0 2 ps.length (prC ps)]
set_option maxHeartbeats 2000000 in
theorem at_relNormal0 (n : Nat) (ks : List Int) (P : Nat → Nat → Bool) (hn : n ≤ 64) (hks : negK ks = true) (hP : ∀ a b : Nat, a < n → b < n → (kP a b ∈ ks ↔ P a b = true)) : At Tryd.prog 78 [iV .i64 n, .cell (.p (.mp ks (cstC ks)))] (relO n (lst P n n)) := by
  refine at_code mixed Tryd.func78 (by kernel_rfl) rfl (by kernel_rfl) (by kernel_rfl) rfl fun Q hQ => ?_
  repeat (first | simp | with_reducible refine And.intro (by omega) ?_ | with_reducible refine optK_if (by omega) ?_ | with_reducible refine optD_if (by omega) ?_ | simp (disch := omega) only [wrap_i64, if_pos, if_neg] | with_reducible refine gsel_pure (by with_unfolding_all rfl) _ (fun hg => by (try simp at hg); simp [hg]; rfl) ?_ | with_reducible refine dsel_pure (by with_unfolding_all rfl) _ (fun hg => by (try simp at hg); simp [hg]; rfl) ?_ | with_reducible refine awp_draw (by kernel_rfl) (by decide +kernel) ?_)
  refine awp_loopW (fun (a : Nat) (s : St) => (a ≤ n) ∧ s.env 11 = iV .i64 a ∧ s.env 10 = iV .i64 n ∧ s.env 0 = iV .i64 n ∧ s.env 1 = .cell (.p (.mp ks (cstC ks))) ∧ s.env 5 = .cell (.ptr 65664 0) ∧ s.box 65664 = some ([.p (iC n), .own 655360000 2 (lst P n a).length (prC (lst P n a))]) ∧ s.env 4 = .cell (.ptr 0 0) ∧ s.box 0 = some ([.p (iC 0), .z])) (fun (a : Nat) => n - a) _ (Weak.ownB2 65664 655360000 2 (.p (iC n)) (by simp)) (0) ⟨by first | omega | assumption | (simp [lst_zero]; done) | (simp [lst_zero]; omega), by simp [lst_zero], by simp [lst_zero], by simp [lst_zero], by simp [lst_zero], by simp [lst_zero], by simp [lst_zero], by simp [lst_zero], by simp [lst_zero]⟩ fun a s hsA LA hLA => ?_
  obtain ⟨ha, h11, h10, h0, h1, h5, b65664, h4, b0⟩ := hsA
  repeat (first | simp [h11, h10, h0, h1, h5, b65664, h4, b0] | with_reducible refine And.intro (by omega) ?_ | with_reducible refine optK_if (by omega) ?_ | with_reducible refine optD_if (by omega) ?_ | simp (disch := omega) only [wrap_i64, if_pos, if_neg] | with_reducible refine gsel_pure (by with_unfolding_all rfl) _ (fun hg => by (try simp at hg); simp [hg, h11, h10, h0, h1, h5, b65664, h4, b0]; rfl) ?_ | with_reducible refine dsel_pure (by with_unfolding_all rfl) _ (fun hg => by (try simp at hg); simp [hg, h11, h10, h0, h1, h5, b65664, h4, b0]; rfl) ?_ | with_reducible refine awp_draw (by kernel_rfl) (by decide +kernel) ?_)
  (with_reducible refine condK_intro (fun hla => ?_) (fun hla => ?_)) <;> (try simp only [hla]) <;> (try simp [andB, orB, eqI, ltI, Int.natCast_inj] at hla)
  · repeat (first | simp [h11, h10, h0, h1, h5, b65664, h4, b0, hla] | with_reducible refine And.intro (by omega) ?_ | with_reducible refine optK_if (by omega) ?_ | with_reducible refine optD_if (by omega) ?_ | simp (disch := omega) only [wrap_i64, if_pos, if_neg] | with_reducible refine gsel_pure (by with_unfolding_all rfl) _ (fun hg => by (try simp at hg); simp [hg, h11, h10, h0, h1, h5, b65664, h4, b0, hla]; rfl) ?_ | with_reducible refine dsel_pure (by with_unfolding_all rfl) _ (fun hg => by (try simp at hg); simp [hg, h11, h10, h0, h1, h5, b65664, h4, b0, hla]; rfl) ?_ | with_reducible refine awp_draw (by kernel_rfl) (by decide +kernel) ?_)
    refine awp_loopV (fun (b : Nat) (s : St) => (b ≤ n) ∧ s.env 15 = iV .i64 b ∧ s.env 14 = iV .i64 n ∧ s.env 6 = iV .i64 a ∧ s.env 11 = iV .i64 a ∧ s.env 10 = iV .i64 n ∧ s.env 0 = iV .i64 n ∧ s.env 1 = .cell (.p (.mp ks (cstC ks))) ∧ s.env 5 = .cell (.ptr 65664 0) ∧ s.box 65664 = some ([.p (iC n), .own 655360000 2 (lstP P n a b).length (prC (lstP P n a b))]) ∧ s.env 4 = .cell (.ptr 0 0) ∧ s.box 0 = some ([.p (iC 0), .z])) (fun (b : Nat) => n - b) (0) ⟨by first | omega | assumption | (simp [lstP_zero]; done) | (simp [lstP_zero]; omega), by simp [h11, h10, h0, h1, h5, b65664, h4, b0, hla, lstP_zero], by simp [h11, h10, h0, h1, h5, b65664, h4, b0, hla, lstP_zero], by simp [h11, h10, h0, h1, h5, b65664, h4, b0, hla, lstP_zero], by simp [h11, h10, h0, h1, h5, b65664, h4, b0, hla, lstP_zero], by simp [h11, h10, h0, h1, h5, b65664, h4, b0, hla, lstP_zero], by simp [h11, h10, h0, h1, h5, b65664, h4, b0, hla, lstP_zero], by simp [h11, h10, h0, h1, h5, b65664, h4, b0, hla, lstP_zero], by simp [h11, h10, h0, h1, h5, b65664, h4, b0, hla, lstP_zero], by simp [h11, h10, h0, h1, h5, b65664, h4, b0, hla, lstP_zero], by simp [h11, h10, h0, h1, h5, b65664, h4, b0, hla, lstP_zero], by simp [h11, h10, h0, h1, h5, b65664, h4, b0, hla, lstP_zero]⟩ fun b s hsB LB hLB => ?_
    obtain ⟨hb, h15, h14, h6, h11, h10, h0, h1, h5, b65664, h4, b0⟩ := hsB
    repeat (first | simp [h15, h14, h6, h11, h10, h0, h1, h5, b65664, h4, b0, hla] | with_reducible refine And.intro (by omega) ?_ | with_reducible refine optK_if (by omega) ?_ | with_reducible refine optD_if (by omega) ?_ | simp (disch := omega) only [wrap_i64, if_pos, if_neg] | with_reducible refine gsel_pure (by with_unfolding_all rfl) _ (fun hg => by (try simp at hg); simp [hg, h15, h14, h6, h11, h10, h0, h1, h5, b65664, h4, b0, hla]; rfl) ?_ | with_reducible refine dsel_pure (by with_unfolding_all rfl) _ (fun hg => by (try simp at hg); simp [hg, h15, h14, h6, h11, h10, h0, h1, h5, b65664, h4, b0, hla]; rfl) ?_ | with_reducible refine awp_draw (by kernel_rfl) (by decide +kernel) ?_)
    (with_reducible refine condK_intro (fun hlb => ?_) (fun hlb => ?_)) <;> (try simp only [hlb]) <;> (try simp [andB, orB, eqI, ltI, Int.natCast_inj] at hlb)
    · have hin : pairIn (a : Int) b = true := pairIn_nat (by omega)
      have hll := lstP_len P hn ha hb
      by_cases hp : P a b = true
      · have hg := mgetC_in ((hP a b hla hlb).2 hp)
        have hls := lstP_in (n := n) hp
        repeat (first | simp [h15, h14, h6, h11, h10, h0, h1, h5, b65664, h4, b0, hla, hlb, hin, hks, hg] | with_reducible refine And.intro (by omega) ?_ | with_reducible refine optK_if (by omega) ?_ | with_reducible refine optD_if (by omega) ?_ | simp (disch := omega) only [wrap_i64, if_pos, if_neg] | with_reducible refine gsel_pure (by with_unfolding_all rfl) _ (fun hg => by (try simp at hg); simp [hg, h15, h14, h6, h11, h10, h0, h1, h5, b65664, h4, b0, hla, hlb, hin, hks, hg]; rfl) ?_ | with_reducible refine dsel_pure (by with_unfolding_all rfl) _ (fun hg => by (try simp at hg); simp [hg, h15, h14, h6, h11, h10, h0, h1, h5, b65664, h4, b0, hla, hlb, hin, hks, hg]; rfl) ?_ | with_reducible refine awp_draw (by kernel_rfl) (by decide +kernel) ?_)
        refine hLB (b + 1) _ ⟨by first | omega | assumption | (simp [hls, prC_append, prC_one]; done) | (simp [hls, prC_append, prC_one]; omega), by simp [h15, h14, h6, h11, h10, h0, h1, h5, b65664, h4, b0, hla, hlb, hls, prC_append, prC_one], by simp [h15, h14, h6, h11, h10, h0, h1, h5, b65664, h4, b0, hla, hlb, hls, prC_append, prC_one], by simp [h15, h14, h6, h11, h10, h0, h1, h5, b65664, h4, b0, hla, hlb, hls, prC_append, prC_one], by simp [h15, h14, h6, h11, h10, h0, h1, h5, b65664, h4, b0, hla, hlb, hls, prC_append, prC_one], by simp [h15, h14, h6, h11, h10, h0, h1, h5, b65664, h4, b0, hla, hlb, hls, prC_append, prC_one], by simp [h15, h14, h6, h11, h10, h0, h1, h5, b65664, h4, b0, hla, hlb, hls, prC_append, prC_one], by simp [h15, h14, h6, h11, h10, h0, h1, h5, b65664, h4, b0, hla, hlb, hls, prC_append, prC_one], by simp [h15, h14, h6, h11, h10, h0, h1, h5, b65664, h4, b0, hla, hlb, hls, prC_append, prC_one], by simp [h15, h14, h6, h11, h10, h0, h1, h5, b65664, h4, b0, hla, hlb, hls, prC_append, prC_one], by simp [h15, h14, h6, h11, h10, h0, h1, h5, b65664, h4, b0, hla, hlb, hls, prC_append, prC_one], by simp [h15, h14, h6, h11, h10, h0, h1, h5, b65664, h4, b0, hla, hlb, hls, prC_append, prC_one]⟩ (by first | omega | (simp; omega))
      · have hg := mget_out (cstC ks) (fun h => hp ((hP a b hla hlb).1 h))
        have hls := lstP_out (n := n) (Bool.eq_false_iff.2 hp)
        repeat (first | simp [h15, h14, h6, h11, h10, h0, h1, h5, b65664, h4, b0, hla, hlb, hin, hks, hg] | with_reducible refine And.intro (by omega) ?_ | with_reducible refine optK_if (by omega) ?_ | with_reducible refine optD_if (by omega) ?_ | simp (disch := omega) only [wrap_i64, if_pos, if_neg] | with_reducible refine gsel_pure (by with_unfolding_all rfl) _ (fun hg => by (try simp at hg); simp [hg, h15, h14, h6, h11, h10, h0, h1, h5, b65664, h4, b0, hla, hlb, hin, hks, hg]; rfl) ?_ | with_reducible refine dsel_pure (by with_unfolding_all rfl) _ (fun hg => by (try simp at hg); simp [hg, h15, h14, h6, h11, h10, h0, h1, h5, b65664, h4, b0, hla, hlb, hin, hks, hg]; rfl) ?_ | with_reducible refine awp_draw (by kernel_rfl) (by decide +kernel) ?_)
        refine hLB (b + 1) _ ⟨by first | omega | assumption | (simp [hls]; done) | (simp [hls]; omega), by simp [h15, h14, h6, h11, h10, h0, h1, h5, b65664, h4, b0, hla, hlb, hls], by simp [h15, h14, h6, h11, h10, h0, h1, h5, b65664, h4, b0, hla, hlb, hls], by simp [h15, h14, h6, h11, h10, h0, h1, h5, b65664, h4, b0, hla, hlb, hls], by simp [h15, h14, h6, h11, h10, h0, h1, h5, b65664, h4, b0, hla, hlb, hls], by simp [h15, h14, h6, h11, h10, h0, h1, h5, b65664, h4, b0, hla, hlb, hls], by simp [h15, h14, h6, h11, h10, h0, h1, h5, b65664, h4, b0, hla, hlb, hls], by simp [h15, h14, h6, h11, h10, h0, h1, h5, b65664, h4, b0, hla, hlb, hls], by simp [h15, h14, h6, h11, h10, h0, h1, h5, b65664, h4, b0, hla, hlb, hls], by simp [h15, h14, h6, h11, h10, h0, h1, h5, b65664, h4, b0, hla, hlb, hls], by simp [h15, h14, h6, h11, h10, h0, h1, h5, b65664, h4, b0, hla, hlb, hls], by simp [h15, h14, h6, h11, h10, h0, h1, h5, b65664, h4, b0, hla, hlb, hls]⟩ (by first | omega | (simp; omega))
    · have : b = n := by omega
      subst this
      rw [lstP_full] at b65664
      repeat (first | simp [h15, h14, h6, h11, h10, h0, h1, h5, b65664, h4, b0, hla, hlb] | with_reducible refine And.intro (by omega) ?_ | with_reducible refine optK_if (by omega) ?_ | with_reducible refine optD_if (by omega) ?_ | simp (disch := omega) only [wrap_i64, if_pos, if_neg] | with_reducible refine gsel_pure (by with_unfolding_all rfl) _ (fun hg => by (try simp at hg); simp [hg, h15, h14, h6, h11, h10, h0, h1, h5, b65664, h4, b0, hla, hlb]; rfl) ?_ | with_reducible refine dsel_pure (by with_unfolding_all rfl) _ (fun hg => by (try simp at hg); simp [hg, h15, h14, h6, h11, h10, h0, h1, h5, b65664, h4, b0, hla, hlb]; rfl) ?_ | with_reducible refine awp_draw (by kernel_rfl) (by decide +kernel) ?_)
      refine hLA (a + 1) _ ⟨by first | omega | assumption | (simp; done) | (simp; omega), by simp [h15, h14, h6, h11, h10, h0, h1, h5, b65664, h4, b0, hla, hlb], by simp [h15, h14, h6, h11, h10, h0, h1, h5, b65664, h4, b0, hla, hlb], by simp [h15, h14, h6, h11, h10, h0, h1, h5, b65664, h4, b0, hla, hlb], by simp [h15, h14, h6, h11, h10, h0, h1, h5, b65664, h4, b0, hla, hlb], by simp [h15, h14, h6, h11, h10, h0, h1, h5, b65664, h4, b0, hla, hlb], by simp [h15, h14, h6, h11, h10, h0, h1, h5, b65664, h4, b0, hla, hlb], by simp [h15, h14, h6, h11, h10, h0, h1, h5, b65664, h4, b0, hla, hlb], by simp [h15, h14, h6, h11, h10, h0, h1, h5, b65664, h4, b0, hla, hlb]⟩ (by first | omega | (simp; omega))
  · have : a = n := by omega
    subst this
    repeat (first | simp [h11, h10, h0, h1, h5, b65664, h4, b0, hla] | with_reducible refine And.intro (by omega) ?_ | with_reducible refine optK_if (by omega) ?_ | with_reducible refine optD_if (by omega) ?_ | simp (disch := omega) only [wrap_i64, if_pos, if_neg] | with_reducible refine gsel_pure (by with_unfolding_all rfl) _ (fun hg => by (try simp at hg); simp [hg, h11, h10, h0, h1, h5, b65664, h4, b0, hla]; rfl) ?_ | with_reducible refine dsel_pure (by with_unfolding_all rfl) _ (fun hg => by (try simp at hg); simp [hg, h11, h10, h0, h1, h5, b65664, h4, b0, hla]; rfl) ?_ | with_reducible refine awp_draw (by kernel_rfl) (by decide +kernel) ?_)
    refine hQ _ _ (ret2 (by simp [retAV, resAV, h4]; rfl) (by simp [h4]; rfl) ?_)
    rfl
end Go.Proofs
end
section
set_option linter.all false
namespace Go.Dr
open Go.Fw
def tabF (ps : Prs) (n k : Nat) (m : Nat) : Bool := (ps.take k).any fun p => p.1 * n + p.2 == m
theorem tabF_zero (ps : Prs) (n : Nat) : (fun m => tabF ps n 0 m) = fun _ => false := rfl
theorem tabF_set {ps : Prs} {n N k m : Nat} (h : k < ps.length) (hm : m = ps[k].1 * n + ps[k].2) : (bl N (tabF ps n k)).set m (bC true) = bl N (tabF ps n (k + 1)) := by
  rw [bl_set]
  apply bl_congr
  intro j _
  unfold upB tabF
  rw [List.take_succ_eq_append_getElem h, List.any_append]
  split
  · rename_i e; subst e; subst hm; simp
  · rename_i e
    have : ¬ ps[k].1 * n + ps[k].2 = j := by omega
    simp [this]
theorem tabF_mem {ps : Prs} {n a b : Nat} (hps : ∀ p ∈ ps, p.1 < n ∧ p.2 < n) (hb : b < n) : tabF ps n ps.length (a * n + b) = decide ((a, b) ∈ ps) := by
  unfold tabF
  rw [List.take_length, Bool.eq_iff_iff, List.any_eq_true, decide_eq_true_iff]
  constructor
  · rintro ⟨⟨x, y⟩, hp, he⟩
    have hy := (hps _ hp).2
    simp only [beq_iff_eq] at he hy
    have h1 : x = a := by
      have e1 : (x * n + y) / n = x := by rw [Nat.mul_comm, Nat.mul_add_div (by omega), Nat.div_eq_of_lt hy, Nat.add_zero]
      have e2 : (a * n + b) / n = a := by rw [Nat.mul_comm, Nat.mul_add_div (by omega), Nat.div_eq_of_lt hb, Nat.add_zero]
      rw [he] at e1
      omega
    subst h1
    have : y = b := by omega
    subst this
    exact hp
  · exact fun h => ⟨(a, b), h, by simp⟩
abbrev memP (ps : Prs) : Nat → Nat → Bool := fun a b => decide ((a, b) ∈ ps)
end Go.Dr
namespace Go.Proofs
open Go.Fw Go.Dr
set_option maxRecDepth 100000
set_option maxHeartbeats 2000000 in
theorem at_relNormal (n : Nat) (ps : Prs) (hn : n ≤ 64) (hlen : ps.length ≤ 100000) (hps : ∀ p ∈ ps, p.1 < n ∧ p.2 < n) : At Tryd.prog 59 [relA n ps] (relO n (lst (memP ps) n n)) := by
  have hV := at_relValid n ps hn hlen hps
  have hS := at_relSet n ps hlen (fun p hp => by have := hps p hp; omega)
  have hN := at_relNormal0 n (setK ps) (memP ps) hn (by simp) (fun a b ha hb => by
    have := setK_pair (ps := ps) (fun p hp => by have := hps p hp; omega) (p := (a, b)) (by show b < _; omega)
    rw [decide_eq_true_iff]
    exact this)
  refine at_code mixed Tryd.func59 (by kernel_rfl) rfl (by kernel_rfl) (by kernel_rfl) rfl fun Q hQ => ?_
  repeat (first | simp | with_reducible refine And.intro (by omega) ?_ | with_reducible refine optK_if (by omega) ?_ | with_reducible refine optD_if (by omega) ?_ | simp (disch := omega) only [wrap_i64, if_pos, if_neg] | with_reducible refine gsel_pure (by with_unfolding_all rfl) _ (fun hg => by (try simp at hg); simp [hg]; rfl) ?_ | with_reducible refine dsel_pure (by with_unfolding_all rfl) _ (fun hg => by (try simp at hg); simp [hg]; rfl) ?_ | with_reducible refine awp_draw (by kernel_rfl) (by decide +kernel) ?_)
  refine gop_call (hV) (by (first | simp [wrap_i64] | simp (disch := omega) [wrap_i64]); try rfl) (by simp) (by simp) ?_
  repeat (first | simp | with_reducible refine And.intro (by omega) ?_ | with_reducible refine optK_if (by omega) ?_ | with_reducible refine optD_if (by omega) ?_ | simp (disch := omega) only [wrap_i64, if_pos, if_neg] | with_reducible refine gsel_pure (by with_unfolding_all rfl) _ (fun hg => by (try simp at hg); simp [hg]; rfl) ?_ | with_reducible refine dsel_pure (by with_unfolding_all rfl) _ (fun hg => by (try simp at hg); simp [hg]; rfl) ?_ | with_reducible refine awp_draw (by kernel_rfl) (by decide +kernel) ?_)
  refine dq_at' (hS) (by (first | simp [wrap_i64] | simp (disch := omega) [wrap_i64]); try rfl) (by simp) (by (first | simp [wrap_i64] | simp (disch := omega) [wrap_i64])) ?_
  repeat (first | simp | with_reducible refine And.intro (by omega) ?_ | with_reducible refine optK_if (by omega) ?_ | with_reducible refine optD_if (by omega) ?_ | simp (disch := omega) only [wrap_i64, if_pos, if_neg] | with_reducible refine gsel_pure (by with_unfolding_all rfl) _ (fun hg => by (try simp at hg); simp [hg]; rfl) ?_ | with_reducible refine dsel_pure (by with_unfolding_all rfl) _ (fun hg => by (try simp at hg); simp [hg]; rfl) ?_ | with_reducible refine awp_draw (by kernel_rfl) (by decide +kernel) ?_)
  refine dq_at' (hN) (by (first | simp [wrap_i64] | simp (disch := omega) [wrap_i64]); try rfl) (by simp) (by (first | simp [wrap_i64] | simp (disch := omega) [wrap_i64])) ?_
  repeat (first | simp | with_reducible refine And.intro (by omega) ?_ | with_reducible refine optK_if (by omega) ?_ | with_reducible refine optD_if (by omega) ?_ | simp (disch := omega) only [wrap_i64, if_pos, if_neg] | with_reducible refine gsel_pure (by with_unfolding_all rfl) _ (fun hg => by (try simp at hg); simp [hg]; rfl) ?_ | with_reducible refine dsel_pure (by with_unfolding_all rfl) _ (fun hg => by (try simp at hg); simp [hg]; rfl) ?_ | with_reducible refine awp_draw (by kernel_rfl) (by decide +kernel) ?_)
  refine hQ _ _ (ret2 (by simp [retAV, resAV]; rfl) (by simp; rfl) ?_)
  rfl
set_option maxHeartbeats 2000000 in
theorem at_r04Valid (n : Nat) (ps : Prs) (hn : n ≤ 64) (hlen : ps.length ≤ 100000) (hps : ∀ p ∈ ps, p.1 < n ∧ p.2 < n) : At Tryd.prog 80 [relA n ps] (bV true) := by
  refine at_code mixed Tryd.func80 (by kernel_rfl) rfl (by kernel_rfl) (by kernel_rfl) rfl fun Q hQ => ?_
  have c1 : ltI (n : Int) 0 = false := by simp [ltI]
  have c2 : ltI 64 (n : Int) = false := by simp [ltI]; omega
  repeat (first | simp [c1, c2] | with_reducible refine And.intro (by omega) ?_ | with_reducible refine optK_if (by omega) ?_ | with_reducible refine optD_if (by omega) ?_ | simp (disch := omega) only [wrap_i64, if_pos, if_neg] | with_reducible refine gsel_pure (by with_unfolding_all rfl) _ (fun hg => by (try simp at hg); simp [hg, c1, c2]; rfl) ?_ | with_reducible refine dsel_pure (by with_unfolding_all rfl) _ (fun hg => by (try simp at hg); simp [hg, c1, c2]; rfl) ?_ | with_reducible refine awp_draw (by kernel_rfl) (by decide +kernel) ?_)
  refine awp_loopV (fun (k : Nat) (s : St) => (k ≤ ps.length) ∧ s.env 3 = iV .i64 k ∧ s.env 1 = .cell (.ptr 0 0) ∧ s.box 0 = some (relP n ps)) (fun (k : Nat) => ps.length - k) (0) ⟨by first | omega | assumption | (simp; done) | (simp; omega), by simp, by simp, by simp⟩ fun k s hsA LA hLA => ?_
  obtain ⟨hk, h3, h1, b0⟩ := hsA
  repeat (first | simp [h3, h1, b0] | with_reducible refine And.intro (by omega) ?_ | with_reducible refine optK_if (by omega) ?_ | with_reducible refine optD_if (by omega) ?_ | simp (disch := omega) only [wrap_i64, if_pos, if_neg] | with_reducible refine gsel_pure (by with_unfolding_all rfl) _ (fun hg => by (try simp at hg); simp [hg, h3, h1, b0]; rfl) ?_ | with_reducible refine dsel_pure (by with_unfolding_all rfl) _ (fun hg => by (try simp at hg); simp [hg, h3, h1, b0]; rfl) ?_ | with_reducible refine awp_draw (by kernel_rfl) (by decide +kernel) ?_)
  (with_reducible refine condK_intro (fun hlt => ?_) (fun hlt => ?_)) <;> (try simp only [hlt]) <;> (try simp [andB, orB, eqI, ltI, Int.natCast_inj] at hlt)
  · have hb := hps ps[k] (List.getElem_mem hlt)
    have g0 := prC_0 ps hlt
    have g1 := prC_1 ps hlt
    have d1 : ltI (ps[k].1 : Int) 0 = false := by simp [ltI]
    have d2 : ltI (ps[k].1 : Int) n = true := by simp [ltI]; omega
    have d3 : ltI (ps[k].2 : Int) 0 = false := by simp [ltI]
    have d4 : ltI (ps[k].2 : Int) n = true := by simp [ltI]; omega
    repeat (first | simp [h3, h1, b0, hlt, d1, d2, d3, d4, g0, g1] | with_reducible refine And.intro (by omega) ?_ | with_reducible refine optK_if (by omega) ?_ | with_reducible refine optD_if (by omega) ?_ | simp (disch := omega) only [wrap_i64, if_pos, if_neg] | with_reducible refine gsel_pure (by with_unfolding_all rfl) _ (fun hg => by (try simp at hg); simp [hg, h3, h1, b0, hlt, d1, d2, d3, d4, g0, g1]; rfl) ?_ | with_reducible refine dsel_pure (by with_unfolding_all rfl) _ (fun hg => by (try simp at hg); simp [hg, h3, h1, b0, hlt, d1, d2, d3, d4, g0, g1]; rfl) ?_ | with_reducible refine awp_draw (by kernel_rfl) (by decide +kernel) ?_)
    refine hLA (k + 1) _ ⟨by first | omega | assumption | (simp; done) | (simp; omega), by simp [h3, h1, b0, hlt], by simp [h3, h1, b0, hlt], by simp [h3, h1, b0, hlt]⟩ (by first | omega | (simp; omega))
  · repeat (first | simp [h3, h1, b0, hlt] | with_reducible refine And.intro (by omega) ?_ | with_reducible refine optK_if (by omega) ?_ | with_reducible refine optD_if (by omega) ?_ | simp (disch := omega) only [wrap_i64, if_pos, if_neg] | with_reducible refine gsel_pure (by with_unfolding_all rfl) _ (fun hg => by (try simp at hg); simp [hg, h3, h1, b0, hlt]; rfl) ?_ | with_reducible refine dsel_pure (by with_unfolding_all rfl) _ (fun hg => by (try simp at hg); simp [hg, h3, h1, b0, hlt]; rfl) ?_ | with_reducible refine awp_draw (by kernel_rfl) (by decide +kernel) ?_)
    refine hQ _ _ (ret2 (by simp [retAV, resAV]; rfl) (by simp; rfl) ?_)
    rfl
set_option maxHeartbeats 2000000 in
theorem at_r04table (n : Nat) (ps : Prs) (hn : n ≤ 64) (hlen : ps.length ≤ 100000) (hps : ∀ p ∈ ps, p.1 < n ∧ p.2 < n) : At Tryd.prog 82 [relA n ps] (boolsA (n * n) (tabF ps n ps.length)) := by
  refine at_pure (r := .cell (.own 0 1 (n * n) (bl (n * n) (tabF ps n ps.length)))) ?_ (by simp)
  obtain ⟨N, hN⟩ : ∃ N, N = n * n := ⟨_, rfl⟩
  have hNI : (n : Int) * n = (N : Int) := by rw [hN]; simp
  have hNl : N ≤ 4096 := by rw [hN]; exact Nat.mul_le_mul hn hn
  rw [← hN]
  refine at_code mixed Tryd.func82 (by kernel_rfl) rfl (by kernel_rfl) (by kernel_rfl) rfl fun Q hQ => ?_
  repeat (first | simp [hNI] | with_reducible refine And.intro (by omega) ?_ | with_reducible refine optK_if (by omega) ?_ | with_reducible refine optD_if (by omega) ?_ | simp (disch := omega) only [wrap_i64, if_pos, if_neg] | with_reducible refine gsel_pure (by with_unfolding_all rfl) _ (fun hg => by (try simp at hg); simp [hg, hNI]; rfl) ?_ | with_reducible refine dsel_pure (by with_unfolding_all rfl) _ (fun hg => by (try simp at hg); simp [hg, hNI]; rfl) ?_ | with_reducible refine awp_draw (by kernel_rfl) (by decide +kernel) ?_)
  refine awp_loopV (fun (k : Nat) (s : St) => (k ≤ ps.length) ∧ s.env 4 = iV .i64 k ∧ s.env 3 = .cell (.own 65856 1 N (bl N (tabF ps n k))) ∧ s.env 1 = .cell (.ptr 0 0) ∧ s.box 0 = some (relP n ps)) (fun (k : Nat) => ps.length - k) (0) ⟨by first | omega | assumption | (simp [repC_bl, tabF_zero]; done) | (simp [repC_bl, tabF_zero]; omega), by simp [repC_bl, tabF_zero], by simp [repC_bl, tabF_zero], by simp [repC_bl, tabF_zero], by simp [repC_bl, tabF_zero]⟩ fun k s hsA LA hLA => ?_
  obtain ⟨hk, h4, h3, h1, b0⟩ := hsA
  repeat (first | simp [h4, h3, h1, b0] | with_reducible refine And.intro (by omega) ?_ | with_reducible refine optK_if (by omega) ?_ | with_reducible refine optD_if (by omega) ?_ | simp (disch := omega) only [wrap_i64, if_pos, if_neg] | with_reducible refine gsel_pure (by with_unfolding_all rfl) _ (fun hg => by (try simp at hg); simp [hg, h4, h3, h1, b0]; rfl) ?_ | with_reducible refine dsel_pure (by with_unfolding_all rfl) _ (fun hg => by (try simp at hg); simp [hg, h4, h3, h1, b0]; rfl) ?_ | with_reducible refine awp_draw (by kernel_rfl) (by decide +kernel) ?_)
  (with_reducible refine condK_intro (fun hlt => ?_) (fun hlt => ?_)) <;> (try simp only [hlt]) <;> (try simp [andB, orB, eqI, ltI, Int.natCast_inj] at hlt)
  · obtain ⟨q1, q2⟩ := hps ps[k] (List.getElem_mem hlt)
    have g0 := prC_0 ps hlt
    have g1 := prC_1 ps hlt
    obtain ⟨m, hm⟩ : ∃ m, m = ps[k].1 * n + ps[k].2 := ⟨_, rfl⟩
    have hmN : m < N := by rw [hm, hN]; exact mat_lt q1 q2
    have w1 := mat_wrap1 hn (Nat.le_of_lt q1)
    have w2 := mat_wrap2 hn (Nat.le_of_lt q1) (Nat.le_of_lt q2) hm
    have hst := tabF_set (n := n) (N := N) hlt hm
    repeat (first | simp [h4, h3, h1, b0, hlt, g0, g1, w1, w2, hmN] | with_reducible refine And.intro (by omega) ?_ | with_reducible refine optK_if (by omega) ?_ | with_reducible refine optD_if (by omega) ?_ | simp (disch := omega) only [wrap_i64, if_pos, if_neg] | with_reducible refine gsel_pure (by with_unfolding_all rfl) _ (fun hg => by (try simp at hg); simp [hg, h4, h3, h1, b0, hlt, g0, g1, w1, w2, hmN]; rfl) ?_ | with_reducible refine dsel_pure (by with_unfolding_all rfl) _ (fun hg => by (try simp at hg); simp [hg, h4, h3, h1, b0, hlt, g0, g1, w1, w2, hmN]; rfl) ?_ | with_reducible refine awp_draw (by kernel_rfl) (by decide +kernel) ?_)
    refine hLA (k + 1) _ ⟨by first | omega | assumption | (simp [hst]; done) | (simp [hst]; omega), by simp [h4, h3, h1, b0, hlt, hst], by simp [h4, h3, h1, b0, hlt, hst], by simp [h4, h3, h1, b0, hlt, hst], by simp [h4, h3, h1, b0, hlt, hst]⟩ (by first | omega | (simp; omega))
  · have : k = ps.length := by omega
    subst this
    repeat (first | simp [h4, h3, h1, b0, hlt] | with_reducible refine And.intro (by omega) ?_ | with_reducible refine optK_if (by omega) ?_ | with_reducible refine optD_if (by omega) ?_ | simp (disch := omega) only [wrap_i64, if_pos, if_neg] | with_reducible refine gsel_pure (by with_unfolding_all rfl) _ (fun hg => by (try simp at hg); simp [hg, h4, h3, h1, b0, hlt]; rfl) ?_ | with_reducible refine dsel_pure (by with_unfolding_all rfl) _ (fun hg => by (try simp at hg); simp [hg, h4, h3, h1, b0, hlt]; rfl) ?_ | with_reducible refine awp_draw (by kernel_rfl) (by decide +kernel) ?_)
    refine hQ _ _ (ret2 (by simp [retAV, resAV]; rfl) (by simp; rfl) ?_)
    rfl
set_option maxHeartbeats 2000000 in
theorem at_r04listed (n : Nat) (T : Nat → Bool) (hn : n ≤ 64) : At Tryd.prog 81 [iV .i64 n, boolsA (n * n) T] (relO n (lst (fun a b => T (a * n + b)) n n)) := by
  obtain ⟨N, hN⟩ : ∃ N, N = n * n := ⟨_, rfl⟩
  have hNl : N ≤ 4096 := by rw [hN]; exact Nat.mul_le_mul hn hn
  rw [← hN]
  obtain ⟨P, hP⟩ : ∃ P : Nat → Nat → Bool, P = fun a b => T (a * n + b) := ⟨_, rfl⟩
  rw [← hP]
  have hP' : ∀ a b, P a b = T (a * n + b) := fun a b => by rw [hP]
  clear hP
  refine at_code mixed Tryd.func81 (by kernel_rfl) rfl (by kernel_rfl) (by kernel_rfl) rfl fun Q hQ => ?_
  repeat (first | simp | with_reducible refine And.intro (by omega) ?_ | with_reducible refine optK_if (by omega) ?_ | with_reducible refine optD_if (by omega) ?_ | simp (disch := omega) only [wrap_i64, if_pos, if_neg] | with_reducible refine gsel_pure (by with_unfolding_all rfl) _ (fun hg => by (try simp at hg); simp [hg]; rfl) ?_ | with_reducible refine dsel_pure (by with_unfolding_all rfl) _ (fun hg => by (try simp at hg); simp [hg]; rfl) ?_ | with_reducible refine awp_draw (by kernel_rfl) (by decide +kernel) ?_)
  refine awp_loopW (fun (a : Nat) (s : St) => (a ≤ n) ∧ s.env 6 = iV .i64 a ∧ s.env 0 = iV .i64 n ∧ s.env 1 = boolsA N T ∧ s.env 5 = .cell (.ptr 65664 0) ∧ s.box 65664 = some ([.p (iC n), .own 655360000 2 (lst P n a).length (prC (lst P n a))]) ∧ s.env 4 = .cell (.ptr 0 0) ∧ s.box 0 = some ([.p (iC 0), .z])) (fun (a : Nat) => n - a) _ (Weak.ownB2 65664 655360000 2 (.p (iC n)) (by simp)) (0) ⟨by first | omega | assumption | (simp [lst_zero]; done) | (simp [lst_zero]; omega), by simp [lst_zero], by simp [lst_zero], by simp [lst_zero], by simp [lst_zero], by simp [lst_zero], by simp [lst_zero], by simp [lst_zero]⟩ fun a s hsA LA hLA => ?_
  obtain ⟨ha, h6, h0, h1, h5, b65664, h4, b0⟩ := hsA
  repeat (first | simp [h6, h0, h1, h5, b65664, h4, b0] | with_reducible refine And.intro (by omega) ?_ | with_reducible refine optK_if (by omega) ?_ | with_reducible refine optD_if (by omega) ?_ | simp (disch := omega) only [wrap_i64, if_pos, if_neg] | with_reducible refine gsel_pure (by with_unfolding_all rfl) _ (fun hg => by (try simp at hg); simp [hg, h6, h0, h1, h5, b65664, h4, b0]; rfl) ?_ | with_reducible refine dsel_pure (by with_unfolding_all rfl) _ (fun hg => by (try simp at hg); simp [hg, h6, h0, h1, h5, b65664, h4, b0]; rfl) ?_ | with_reducible refine awp_draw (by kernel_rfl) (by decide +kernel) ?_)
  (with_reducible refine condK_intro (fun hla => ?_) (fun hla => ?_)) <;> (try simp only [hla]) <;> (try simp [andB, orB, eqI, ltI, Int.natCast_inj] at hla)
  · repeat (first | simp [h6, h0, h1, h5, b65664, h4, b0, hla] | with_reducible refine And.intro (by omega) ?_ | with_reducible refine optK_if (by omega) ?_ | with_reducible refine optD_if (by omega) ?_ | simp (disch := omega) only [wrap_i64, if_pos, if_neg] | with_reducible refine gsel_pure (by with_unfolding_all rfl) _ (fun hg => by (try simp at hg); simp [hg, h6, h0, h1, h5, b65664, h4, b0, hla]; rfl) ?_ | with_reducible refine dsel_pure (by with_unfolding_all rfl) _ (fun hg => by (try simp at hg); simp [hg, h6, h0, h1, h5, b65664, h4, b0, hla]; rfl) ?_ | with_reducible refine awp_draw (by kernel_rfl) (by decide +kernel) ?_)
    refine awp_loopV (fun (b : Nat) (s : St) => (b ≤ n) ∧ s.env 7 = iV .i64 b ∧ s.env 6 = iV .i64 a ∧ s.env 0 = iV .i64 n ∧ s.env 1 = boolsA N T ∧ s.env 5 = .cell (.ptr 65664 0) ∧ s.box 65664 = some ([.p (iC n), .own 655360000 2 (lstP P n a b).length (prC (lstP P n a b))]) ∧ s.env 4 = .cell (.ptr 0 0) ∧ s.box 0 = some ([.p (iC 0), .z])) (fun (b : Nat) => n - b) (0) ⟨by first | omega | assumption | (simp [lstP_zero]; done) | (simp [lstP_zero]; omega), by simp [h6, h0, h1, h5, b65664, h4, b0, hla, lstP_zero], by simp [h6, h0, h1, h5, b65664, h4, b0, hla, lstP_zero], by simp [h6, h0, h1, h5, b65664, h4, b0, hla, lstP_zero], by simp [h6, h0, h1, h5, b65664, h4, b0, hla, lstP_zero], by simp [h6, h0, h1, h5, b65664, h4, b0, hla, lstP_zero], by simp [h6, h0, h1, h5, b65664, h4, b0, hla, lstP_zero], by simp [h6, h0, h1, h5, b65664, h4, b0, hla, lstP_zero], by simp [h6, h0, h1, h5, b65664, h4, b0, hla, lstP_zero]⟩ fun b s hsB LB hLB => ?_
    obtain ⟨hb, h7, h6, h0, h1, h5, b65664, h4, b0⟩ := hsB
    repeat (first | simp [h7, h6, h0, h1, h5, b65664, h4, b0, hla] | with_reducible refine And.intro (by omega) ?_ | with_reducible refine optK_if (by omega) ?_ | with_reducible refine optD_if (by omega) ?_ | simp (disch := omega) only [wrap_i64, if_pos, if_neg] | with_reducible refine gsel_pure (by with_unfolding_all rfl) _ (fun hg => by (try simp at hg); simp [hg, h7, h6, h0, h1, h5, b65664, h4, b0, hla]; rfl) ?_ | with_reducible refine dsel_pure (by with_unfolding_all rfl) _ (fun hg => by (try simp at hg); simp [hg, h7, h6, h0, h1, h5, b65664, h4, b0, hla]; rfl) ?_ | with_reducible refine awp_draw (by kernel_rfl) (by decide +kernel) ?_)
    (with_reducible refine condK_intro (fun hlb => ?_) (fun hlb => ?_)) <;> (try simp only [hlb]) <;> (try simp [andB, orB, eqI, ltI, Int.natCast_inj] at hlb)
    · have hll := lstP_len P hn ha hb
      obtain ⟨m, hm⟩ : ∃ m, m = a * n + b := ⟨_, rfl⟩
      have hmN : m < N := by rw [hm, hN]; exact mat_lt hla hlb
      have w1 := mat_wrap1 hn (Nat.le_of_lt hla)
      have w2 := mat_wrap2 hn (Nat.le_of_lt hla) (Nat.le_of_lt hlb) hm
      have hPm : P a b = T m := by rw [hP', hm]
      have g1 : (bl N T)[m]? = some (bC (T m)) := bl_get? hmN
      by_cases hp : P a b = true
      · have hls := lstP_in (n := n) hp
        rw [hPm] at hp
        repeat (first | simp [h7, h6, h0, h1, h5, b65664, h4, b0, hla, hlb, w1, w2, g1, hmN, hp] | with_reducible refine And.intro (by omega) ?_ | with_reducible refine optK_if (by omega) ?_ | with_reducible refine optD_if (by omega) ?_ | simp (disch := omega) only [wrap_i64, if_pos, if_neg] | with_reducible refine gsel_pure (by with_unfolding_all rfl) _ (fun hg => by (try simp at hg); simp [hg, h7, h6, h0, h1, h5, b65664, h4, b0, hla, hlb, w1, w2, g1, hmN, hp]; rfl) ?_ | with_reducible refine dsel_pure (by with_unfolding_all rfl) _ (fun hg => by (try simp at hg); simp [hg, h7, h6, h0, h1, h5, b65664, h4, b0, hla, hlb, w1, w2, g1, hmN, hp]; rfl) ?_ | with_reducible refine awp_draw (by kernel_rfl) (by decide +kernel) ?_)
        refine hLB (b + 1) _ ⟨by first | omega | assumption | (simp [hls, prC_append, prC_one]; done) | (simp [hls, prC_append, prC_one]; omega), by simp [h7, h6, h0, h1, h5, b65664, h4, b0, hla, hlb, hls, prC_append, prC_one], by simp [h7, h6, h0, h1, h5, b65664, h4, b0, hla, hlb, hls, prC_append, prC_one], by simp [h7, h6, h0, h1, h5, b65664, h4, b0, hla, hlb, hls, prC_append, prC_one], by simp [h7, h6, h0, h1, h5, b65664, h4, b0, hla, hlb, hls, prC_append, prC_one], by simp [h7, h6, h0, h1, h5, b65664, h4, b0, hla, hlb, hls, prC_append, prC_one], by simp [h7, h6, h0, h1, h5, b65664, h4, b0, hla, hlb, hls, prC_append, prC_one], by simp [h7, h6, h0, h1, h5, b65664, h4, b0, hla, hlb, hls, prC_append, prC_one], by simp [h7, h6, h0, h1, h5, b65664, h4, b0, hla, hlb, hls, prC_append, prC_one]⟩ (by first | omega | (simp; omega))
      · have hp' : P a b = false := by simpa using hp
        have hls := lstP_out (n := n) hp'
        rw [hPm] at hp'
        repeat (first | simp [h7, h6, h0, h1, h5, b65664, h4, b0, hla, hlb, w1, w2, g1, hmN, hp'] | with_reducible refine And.intro (by omega) ?_ | with_reducible refine optK_if (by omega) ?_ | with_reducible refine optD_if (by omega) ?_ | simp (disch := omega) only [wrap_i64, if_pos, if_neg] | with_reducible refine gsel_pure (by with_unfolding_all rfl) _ (fun hg => by (try simp at hg); simp [hg, h7, h6, h0, h1, h5, b65664, h4, b0, hla, hlb, w1, w2, g1, hmN, hp']; rfl) ?_ | with_reducible refine dsel_pure (by with_unfolding_all rfl) _ (fun hg => by (try simp at hg); simp [hg, h7, h6, h0, h1, h5, b65664, h4, b0, hla, hlb, w1, w2, g1, hmN, hp']; rfl) ?_ | with_reducible refine awp_draw (by kernel_rfl) (by decide +kernel) ?_)
        refine hLB (b + 1) _ ⟨by first | omega | assumption | (simp [hls]; done) | (simp [hls]; omega), by simp [h7, h6, h0, h1, h5, b65664, h4, b0, hla, hlb, hls], by simp [h7, h6, h0, h1, h5, b65664, h4, b0, hla, hlb, hls], by simp [h7, h6, h0, h1, h5, b65664, h4, b0, hla, hlb, hls], by simp [h7, h6, h0, h1, h5, b65664, h4, b0, hla, hlb, hls], by simp [h7, h6, h0, h1, h5, b65664, h4, b0, hla, hlb, hls], by simp [h7, h6, h0, h1, h5, b65664, h4, b0, hla, hlb, hls], by simp [h7, h6, h0, h1, h5, b65664, h4, b0, hla, hlb, hls], by simp [h7, h6, h0, h1, h5, b65664, h4, b0, hla, hlb, hls]⟩ (by first | omega | (simp; omega))
    · have : b = n := by omega
      subst this
      rw [lstP_full] at b65664
      repeat (first | simp [h7, h6, h0, h1, h5, b65664, h4, b0, hla, hlb] | with_reducible refine And.intro (by omega) ?_ | with_reducible refine optK_if (by omega) ?_ | with_reducible refine optD_if (by omega) ?_ | simp (disch := omega) only [wrap_i64, if_pos, if_neg] | with_reducible refine gsel_pure (by with_unfolding_all rfl) _ (fun hg => by (try simp at hg); simp [hg, h7, h6, h0, h1, h5, b65664, h4, b0, hla, hlb]; rfl) ?_ | with_reducible refine dsel_pure (by with_unfolding_all rfl) _ (fun hg => by (try simp at hg); simp [hg, h7, h6, h0, h1, h5, b65664, h4, b0, hla, hlb]; rfl) ?_ | with_reducible refine awp_draw (by kernel_rfl) (by decide +kernel) ?_)
      refine hLA (a + 1) _ ⟨by first | omega | assumption | (simp; done) | (simp; omega), by simp [h7, h6, h0, h1, h5, b65664, h4, b0, hla, hlb], by simp [h7, h6, h0, h1, h5, b65664, h4, b0, hla, hlb], by simp [h7, h6, h0, h1, h5, b65664, h4, b0, hla, hlb], by simp [h7, h6, h0, h1, h5, b65664, h4, b0, hla, hlb], by simp [h7, h6, h0, h1, h5, b65664, h4, b0, hla, hlb], by simp [h7, h6, h0, h1, h5, b65664, h4, b0, hla, hlb], by simp [h7, h6, h0, h1, h5, b65664, h4, b0, hla, hlb]⟩ (by first | omega | (simp; omega))
  · have : a = n := by omega
    subst this
    repeat (first | simp [h6, h0, h1, h5, b65664, h4, b0, hla] | with_reducible refine And.intro (by omega) ?_ | with_reducible refine optK_if (by omega) ?_ | with_reducible refine optD_if (by omega) ?_ | simp (disch := omega) only [wrap_i64, if_pos, if_neg] | with_reducible refine gsel_pure (by with_unfolding_all rfl) _ (fun hg => by (try simp at hg); simp [hg, h6, h0, h1, h5, b65664, h4, b0, hla]; rfl) ?_ | with_reducible refine dsel_pure (by with_unfolding_all rfl) _ (fun hg => by (try simp at hg); simp [hg, h6, h0, h1, h5, b65664, h4, b0, hla]; rfl) ?_ | with_reducible refine awp_draw (by kernel_rfl) (by decide +kernel) ?_)
    refine hQ _ _ (ret2 (by simp [retAV, resAV, h4]; rfl) (by simp [h4]; rfl) ?_)
    rfl
set_option maxHeartbeats 2000000 in
theorem at_r04Normal (n : Nat) (ps : Prs) (hn : n ≤ 64) (hlen : ps.length ≤ 100000) (hps : ∀ p ∈ ps, p.1 < n ∧ p.2 < n) : At Tryd.prog 60 [relA n ps] (relO n (lst (memP ps) n n)) := by
  have hV := at_r04Valid n ps hn hlen hps
  have hT := at_r04table n ps hn hlen hps
  have hL := at_r04listed n (tabF ps n ps.length) hn
  rw [lst_congr (Q := memP ps) fun x y _ hy => tabF_mem hps hy] at hL
  refine at_code mixed Tryd.func60 (by kernel_rfl) rfl (by kernel_rfl) (by kernel_rfl) rfl fun Q hQ => ?_
  repeat (first | simp | with_reducible refine And.intro (by omega) ?_ | with_reducible refine optK_if (by omega) ?_ | with_reducible refine optD_if (by omega) ?_ | simp (disch := omega) only [wrap_i64, if_pos, if_neg] | with_reducible refine gsel_pure (by with_unfolding_all rfl) _ (fun hg => by (try simp at hg); simp [hg]; rfl) ?_ | with_reducible refine dsel_pure (by with_unfolding_all rfl) _ (fun hg => by (try simp at hg); simp [hg]; rfl) ?_ | with_reducible refine awp_draw (by kernel_rfl) (by decide +kernel) ?_)
  refine gop_call (hV) (by (first | simp [wrap_i64] | simp (disch := omega) [wrap_i64]); try rfl) (by simp) (by simp) ?_
  repeat (first | simp | with_reducible refine And.intro (by omega) ?_ | with_reducible refine optK_if (by omega) ?_ | with_reducible refine optD_if (by omega) ?_ | simp (disch := omega) only [wrap_i64, if_pos, if_neg] | with_reducible refine gsel_pure (by with_unfolding_all rfl) _ (fun hg => by (try simp at hg); simp [hg]; rfl) ?_ | with_reducible refine dsel_pure (by with_unfolding_all rfl) _ (fun hg => by (try simp at hg); simp [hg]; rfl) ?_ | with_reducible refine awp_draw (by kernel_rfl) (by decide +kernel) ?_)
  refine dq_at' (hT) (by (first | simp [wrap_i64] | simp (disch := omega) [wrap_i64]); try rfl) (by simp) (by (first | simp [wrap_i64] | simp (disch := omega) [wrap_i64])) ?_
  repeat (first | simp | with_reducible refine And.intro (by omega) ?_ | with_reducible refine optK_if (by omega) ?_ | with_reducible refine optD_if (by omega) ?_ | simp (disch := omega) only [wrap_i64, if_pos, if_neg] | with_reducible refine gsel_pure (by with_unfolding_all rfl) _ (fun hg => by (try simp at hg); simp [hg]; rfl) ?_ | with_reducible refine dsel_pure (by with_unfolding_all rfl) _ (fun hg => by (try simp at hg); simp [hg]; rfl) ?_ | with_reducible refine awp_draw (by kernel_rfl) (by decide +kernel) ?_)
  refine dq_at' (hL) (by (first | simp [wrap_i64] | simp (disch := omega) [wrap_i64]); try rfl) (by simp) (by (first | simp [wrap_i64] | simp (disch := omega) [wrap_i64])) ?_
  repeat (first | simp | with_reducible refine And.intro (by omega) ?_ | with_reducible refine optK_if (by omega) ?_ | with_reducible refine optD_if (by omega) ?_ | simp (disch := omega) only [wrap_i64, if_pos, if_neg] | with_reducible refine gsel_pure (by with_unfolding_all rfl) _ (fun hg => by (try simp at hg); simp [hg]; rfl) ?_ | with_reducible refine dsel_pure (by with_unfolding_all rfl) _ (fun hg => by (try simp at hg); simp [hg]; rfl) ?_ | with_reducible refine awp_draw (by kernel_rfl) (by decide +kernel) ?_)
  refine hQ _ _ (ret2 (by simp [retAV, resAV]; rfl) (by simp; rfl) ?_)
  rfl
set_option maxHeartbeats 2000000 in
theorem at_r04Same (n : Nat) (ps : Prs) (hlen : ps.length ≤ 100000) : At Tryd.prog 31 [relA n ps, relA n ps] (bV true) := by
  refine at_code mixed Tryd.func31 (by kernel_rfl) rfl (by kernel_rfl) (by kernel_rfl) rfl fun Q hQ => ?_
  repeat (first | simp | with_reducible refine And.intro (by omega) ?_ | with_reducible refine optK_if (by omega) ?_ | with_reducible refine optD_if (by omega) ?_ | simp (disch := omega) only [wrap_i64, if_pos, if_neg] | with_reducible refine gsel_pure (by with_unfolding_all rfl) _ (fun hg => by (try simp at hg); simp [hg]; rfl) ?_ | with_reducible refine dsel_pure (by with_unfolding_all rfl) _ (fun hg => by (try simp at hg); simp [hg]; rfl) ?_ | with_reducible refine awp_draw (by kernel_rfl) (by decide +kernel) ?_)
  refine awp_loopV (fun (k : Nat) (s : St) => (k ≤ ps.length) ∧ s.env 5 = iV .i64 k ∧ s.env 2 = .cell (.ptr 0 0) ∧ s.box 0 = some (relP n ps) ∧ s.env 3 = .cell (.ptr 64 0) ∧ s.box 64 = some (relP n ps)) (fun (k : Nat) => ps.length - k) (0) ⟨by first | omega | assumption | (simp; done) | (simp; omega), by simp, by simp, by simp, by simp, by simp⟩ fun k s hsA LA hLA => ?_
  obtain ⟨hk, h5, h2, b0, h3, b64⟩ := hsA
  repeat (first | simp [h5, h2, b0, h3, b64] | with_reducible refine And.intro (by omega) ?_ | with_reducible refine optK_if (by omega) ?_ | with_reducible refine optD_if (by omega) ?_ | simp (disch := omega) only [wrap_i64, if_pos, if_neg] | with_reducible refine gsel_pure (by with_unfolding_all rfl) _ (fun hg => by (try simp at hg); simp [hg, h5, h2, b0, h3, b64]; rfl) ?_ | with_reducible refine dsel_pure (by with_unfolding_all rfl) _ (fun hg => by (try simp at hg); simp [hg, h5, h2, b0, h3, b64]; rfl) ?_ | with_reducible refine awp_draw (by kernel_rfl) (by decide +kernel) ?_)
  (with_reducible refine condK_intro (fun hlt => ?_) (fun hlt => ?_)) <;> (try simp only [hlt]) <;> (try simp [andB, orB, eqI, ltI, Int.natCast_inj] at hlt)
  · have hp := prC_partP ps hlt
    have hp2 := prC_part ps hlt
    repeat (first | simp [h5, h2, b0, h3, b64, hlt, hp, hp2] | with_reducible refine And.intro (by omega) ?_ | with_reducible refine optK_if (by omega) ?_ | with_reducible refine optD_if (by omega) ?_ | simp (disch := omega) only [wrap_i64, if_pos, if_neg] | with_reducible refine gsel_pure (by with_unfolding_all rfl) _ (fun hg => by (try simp at hg); simp [hg, h5, h2, b0, h3, b64, hlt, hp, hp2]; rfl) ?_ | with_reducible refine dsel_pure (by with_unfolding_all rfl) _ (fun hg => by (try simp at hg); simp [hg, h5, h2, b0, h3, b64, hlt, hp, hp2]; rfl) ?_ | with_reducible refine awp_draw (by kernel_rfl) (by decide +kernel) ?_)
    refine hLA (k + 1) _ ⟨by first | omega | assumption | (simp; done) | (simp; omega), by simp [h5, h2, b0, h3, b64, hlt], by simp [h5, h2, b0, h3, b64, hlt], by simp [h5, h2, b0, h3, b64, hlt], by simp [h5, h2, b0, h3, b64, hlt], by simp [h5, h2, b0, h3, b64, hlt]⟩ (by first | omega | (simp; omega))
  · repeat (first | simp [h5, h2, b0, h3, b64, hlt] | with_reducible refine And.intro (by omega) ?_ | with_reducible refine optK_if (by omega) ?_ | with_reducible refine optD_if (by omega) ?_ | simp (disch := omega) only [wrap_i64, if_pos, if_neg] | with_reducible refine gsel_pure (by with_unfolding_all rfl) _ (fun hg => by (try simp at hg); simp [hg, h5, h2, b0, h3, b64, hlt]; rfl) ?_ | with_reducible refine dsel_pure (by with_unfolding_all rfl) _ (fun hg => by (try simp at hg); simp [hg, h5, h2, b0, h3, b64, hlt]; rfl) ?_ | with_reducible refine awp_draw (by kernel_rfl) (by decide +kernel) ?_)
    refine hQ _ _ (ret2 (by simp [retAV, resAV]; rfl) (by simp; rfl) ?_)
    rfl
end Go.Proofs
end
section
set_option linter.all false
namespace Go.Proofs
open Go.Fw Go.Dr
set_option maxRecDepth 100000
theorem prC_isC {ps : Prs} {x : CV} (h : x ∈ prC ps) : x.isC = true := by
  obtain ⟨p, _, hx⟩ := List.mem_flatMap.1 h
  simp [prC1] at hx
  rcases hx with rfl | rfl <;> rfl
@[simp] theorem prC_flat {ps : Prs} : (∀ x : CV, x ∈ prC ps → x.isC = true) ↔ True := ⟨fun _ => trivial, fun _ _ h => prC_isC h⟩
abbrev graphE (l : List I8) : Int := if funcE l = 0 then (if 64 ≤ l.length then 4 else 0) else funcE l
abbrev graphA (l : List I8) : AV := if graphE l = 0 then relO (l.length + 1) (lst (memP (prs l l.length)) (l.length + 1) (l.length + 1)) else .agg [.p (iC 0), .z]
set_option maxHeartbeats 2000000 in
theorem at_graph (name : ByteArray) (l : List I8) : At Tryd.prog 29 [fAV name l] (.tup [graphA l, iV .i64 (graphE l)]) := by
  by_cases hf : funcE l = 0
  rotate_left
  · have e1 : eqI (funcE l) 0 = false := by simp [eqI, hf]
    have hE : graphE l = funcE l := if_neg hf
    have hA : graphA l = .agg [.p (iC 0), .z] := if_neg (by rw [hE]; exact hf)
    rw [hA, hE]
    refine at_code mixed Tryd.func29 (by kernel_rfl) rfl (by kernel_rfl) (by kernel_rfl) rfl fun Q hQ => ?_
    repeat (first | simp | with_reducible refine And.intro (by omega) ?_ | with_reducible refine optK_if (by omega) ?_ | with_reducible refine optD_if (by omega) ?_ | simp (disch := omega) only [wrap_i64, if_pos, if_neg] | with_reducible refine gsel_pure (by with_unfolding_all rfl) _ (fun hg => by (try simp at hg); simp [hg]; rfl) ?_ | with_reducible refine dsel_pure (by with_unfolding_all rfl) _ (fun hg => by (try simp at hg); simp [hg]; rfl) ?_ | with_reducible refine awp_draw (by kernel_rfl) (by decide +kernel) ?_)
    refine gop_call (at_cfgCheck name l) (by (first | simp [wrap_i64] | simp (disch := omega) [wrap_i64]); try rfl) (by simp) (by simp) ?_
    repeat (first | simp [e1] | with_reducible refine And.intro (by omega) ?_ | with_reducible refine optK_if (by omega) ?_ | with_reducible refine optD_if (by omega) ?_ | simp (disch := omega) only [wrap_i64, if_pos, if_neg] | with_reducible refine gsel_pure (by with_unfolding_all rfl) _ (fun hg => by (try simp at hg); simp [hg, e1]; rfl) ?_ | with_reducible refine dsel_pure (by with_unfolding_all rfl) _ (fun hg => by (try simp at hg); simp [hg, e1]; rfl) ?_ | with_reducible refine awp_draw (by kernel_rfl) (by decide +kernel) ?_)
    refine hQ _ _ (ret2 (by simp [retAV, resAV]; rfl) (by simp; rfl) ?_)
    rfl
  have ok := okL hf
  have hlen := ok.len
  by_cases h64 : 64 ≤ l.length
  · have e2 : ltI (l.length : Int) 64 = false := by simp [ltI]; omega
    have hE : graphE l = 4 := by show (if funcE l = 0 then _ else _) = _; rw [if_pos hf, if_pos h64]
    have hA : graphA l = .agg [.p (iC 0), .z] := if_neg (by rw [hE]; omega)
    rw [hA, hE]
    refine at_code mixed Tryd.func29 (by kernel_rfl) rfl (by kernel_rfl) (by kernel_rfl) rfl fun Q hQ => ?_
    repeat (first | simp | with_reducible refine And.intro (by omega) ?_ | with_reducible refine optK_if (by omega) ?_ | with_reducible refine optD_if (by omega) ?_ | simp (disch := omega) only [wrap_i64, if_pos, if_neg] | with_reducible refine gsel_pure (by with_unfolding_all rfl) _ (fun hg => by (try simp at hg); simp [hg]; rfl) ?_ | with_reducible refine dsel_pure (by with_unfolding_all rfl) _ (fun hg => by (try simp at hg); simp [hg]; rfl) ?_ | with_reducible refine awp_draw (by kernel_rfl) (by decide +kernel) ?_)
    refine gop_call (at_cfgCheck name l) (by (first | simp [wrap_i64] | simp (disch := omega) [wrap_i64]); try rfl) (by simp) (by simp) ?_
    repeat (first | simp [hf, e2] | with_reducible refine And.intro (by omega) ?_ | with_reducible refine optK_if (by omega) ?_ | with_reducible refine optD_if (by omega) ?_ | simp (disch := omega) only [wrap_i64, if_pos, if_neg] | with_reducible refine gsel_pure (by with_unfolding_all rfl) _ (fun hg => by (try simp at hg); simp [hg, hf, e2]; rfl) ?_ | with_reducible refine dsel_pure (by with_unfolding_all rfl) _ (fun hg => by (try simp at hg); simp [hg, hf, e2]; rfl) ?_ | with_reducible refine awp_draw (by kernel_rfl) (by decide +kernel) ?_)
    refine hQ _ _ (ret2 (by simp [retAV, resAV]; rfl) (by simp; rfl) ?_)
    rfl
  have e2 : ltI (l.length : Int) 64 = true := by simp [ltI]; omega
  have hE : graphE l = 0 := by show (if funcE l = 0 then _ else _) = _; rw [if_pos hf, if_neg h64]
  have hA : graphA l = relO (l.length + 1) (lst (memP (prs l l.length)) (l.length + 1) (l.length + 1)) := if_pos hE
  rw [hA, hE]
  have hps : ∀ p ∈ prs l l.length, p.1 < l.length + 1 ∧ p.2 < l.length + 1 := fun p hp => by
    obtain ⟨q1, q2⟩ := prs_mem.1 hp
    have := sucs_le ok q2
    omega
  have hpl := prs_len l l.length
  have hN := at_relNormal (l.length + 1) (prs l l.length) (by omega) (by omega) hps
  generalize lst (memP (prs l l.length)) (l.length + 1) (l.length + 1) = G at *
  refine at_code mixed Tryd.func29 (by kernel_rfl) rfl (by kernel_rfl) (by kernel_rfl) rfl fun Q hQ => ?_
  repeat (first | simp | with_reducible refine And.intro (by omega) ?_ | with_reducible refine optK_if (by omega) ?_ | with_reducible refine optD_if (by omega) ?_ | simp (disch := omega) only [wrap_i64, if_pos, if_neg] | with_reducible refine gsel_pure (by with_unfolding_all rfl) _ (fun hg => by (try simp at hg); simp [hg]; rfl) ?_ | with_reducible refine dsel_pure (by with_unfolding_all rfl) _ (fun hg => by (try simp at hg); simp [hg]; rfl) ?_ | with_reducible refine awp_draw (by kernel_rfl) (by decide +kernel) ?_)
  refine gop_call (at_cfgCheck name l) (by (first | simp [wrap_i64] | simp (disch := omega) [wrap_i64]); try rfl) (by simp) (by simp) ?_
  repeat (first | simp [hf, e2] | with_reducible refine And.intro (by omega) ?_ | with_reducible refine optK_if (by omega) ?_ | with_reducible refine optD_if (by omega) ?_ | simp (disch := omega) only [wrap_i64, if_pos, if_neg] | with_reducible refine gsel_pure (by with_unfolding_all rfl) _ (fun hg => by (try simp at hg); simp [hg, hf, e2]; rfl) ?_ | with_reducible refine dsel_pure (by with_unfolding_all rfl) _ (fun hg => by (try simp at hg); simp [hg, hf, e2]; rfl) ?_ | with_reducible refine awp_draw (by kernel_rfl) (by decide +kernel) ?_)
  refine awp_loopW (fun (i : Nat) (s : St) => (i ≤ l.length) ∧ s.env 27 = iV .i64 i ∧ s.env 26 = iV .i64 l.length ∧ s.env 1 = .cell (.ptr 0 0) ∧ s.box 0 = some (fP name l) ∧ s.env 2 = .cell (.ptr 64 0) ∧ s.box 64 = some ([.p (iC 0), .z]) ∧ s.env 5 = .cell (.ptr 393536 0) ∧ s.box 393536 = some ([.p (iC (l.length + 1)), .own 1370000 2 (prs l i).length (prC (prs l i))])) (fun (i : Nat) => l.length - i) _ (Weak.ownB2 393536 1370000 2 (.p (iC (l.length + 1))) (by simp)) (0) ⟨by first | omega | assumption | (simp [prs_zero]; done) | (simp [prs_zero]; omega), by simp [prs_zero], by simp [prs_zero], by simp [prs_zero], by simp [prs_zero], by simp [prs_zero], by simp [prs_zero], by simp [prs_zero], by simp [prs_zero]⟩ fun i s hsA LA hLA => ?_
  obtain ⟨hi, h27, h26, h1, b0, h2, b64, h5, b393536⟩ := hsA
  repeat (first | simp [h27, h26, h1, b0, h2, b64, h5, b393536] | with_reducible refine And.intro (by omega) ?_ | with_reducible refine optK_if (by omega) ?_ | with_reducible refine optD_if (by omega) ?_ | simp (disch := omega) only [wrap_i64, if_pos, if_neg] | with_reducible refine gsel_pure (by with_unfolding_all rfl) _ (fun hg => by (try simp at hg); simp [hg, h27, h26, h1, b0, h2, b64, h5, b393536]; rfl) ?_ | with_reducible refine dsel_pure (by with_unfolding_all rfl) _ (fun hg => by (try simp at hg); simp [hg, h27, h26, h1, b0, h2, b64, h5, b393536]; rfl) ?_ | with_reducible refine awp_draw (by kernel_rfl) (by decide +kernel) ?_)
  (with_reducible refine condK_intro (fun hli => ?_) (fun hli => ?_)) <;> (try simp only [hli]) <;> (try simp [andB, orB, eqI, ltI, Int.natCast_inj] at hli)
  · repeat (first | simp [h27, h26, h1, b0, h2, b64, h5, b393536, hli] | with_reducible refine And.intro (by omega) ?_ | with_reducible refine optK_if (by omega) ?_ | with_reducible refine optD_if (by omega) ?_ | simp (disch := omega) only [wrap_i64, if_pos, if_neg] | with_reducible refine gsel_pure (by with_unfolding_all rfl) _ (fun hg => by (try simp at hg); simp [hg, h27, h26, h1, b0, h2, b64, h5, b393536, hli]; rfl) ?_ | with_reducible refine dsel_pure (by with_unfolding_all rfl) _ (fun hg => by (try simp at hg); simp [hg, h27, h26, h1, b0, h2, b64, h5, b393536, hli]; rfl) ?_ | with_reducible refine awp_draw (by kernel_rfl) (by decide +kernel) ?_)
    refine gop_call' (at_successors name l i) (by (first | simp [h27, h26, h1, b0, h2, b64, h5, b393536, hli] | simp (disch := omega) [h27, h26, h1, b0, h2, b64, h5, b393536, hli, wrap_i64]); try rfl) (by simp) (by simp) ?_
    repeat (first | simp [h27, h26, h1, b0, h2, b64, h5, b393536, hli] | with_reducible refine And.intro (by omega) ?_ | with_reducible refine optK_if (by omega) ?_ | with_reducible refine optD_if (by omega) ?_ | simp (disch := omega) only [wrap_i64, if_pos, if_neg] | with_reducible refine gsel_pure (by with_unfolding_all rfl) _ (fun hg => by (try simp at hg); simp [hg, h27, h26, h1, b0, h2, b64, h5, b393536, hli]; rfl) ?_ | with_reducible refine dsel_pure (by with_unfolding_all rfl) _ (fun hg => by (try simp at hg); simp [hg, h27, h26, h1, b0, h2, b64, h5, b393536, hli]; rfl) ?_ | with_reducible refine awp_draw (by kernel_rfl) (by decide +kernel) ?_)
    refine awp_range (T := [11, 12]) (gf := 74) (cs := [.bx (fC name l), .bx [iC i]]) (evs (natI (sucs l i))) (fun (k : Nat) (bx : Nat → Option (List AC)) => bx 0 = some (fP name l) ∧ bx 64 = some ([.p (iC 0), .z]) ∧ bx 393536 = some ([.p (iC (l.length + 1)), .own 1370000 2 (prsJ l i k).length (prC (prsJ l i k))]) ∧ bx 589888 = some ([.p (iC i)])) rfl (by simp [h27, h26, h1, b0, h2, b64, h5, b393536, hli, prsJ_zero]) (by simpa [fC] using seq_successors name l ok i hli) (fun x hx => by simp [evs] at hx; obtain ⟨y, _, rfl⟩ := hx; rfl) ⟨by simp [h27, h26, h1, b0, h2, b64, h5, b393536, hli, prsJ_zero], by simp [h27, h26, h1, b0, h2, b64, h5, b393536, hli, prsJ_zero], by simp [h27, h26, h1, b0, h2, b64, h5, b393536, hli, prsJ_zero], by simp [h27, h26, h1, b0, h2, b64, h5, b393536, hli, prsJ_zero]⟩ (fun k x bx hx ⟨b0, b64, b393536, b589888⟩ => ?_) (fun bx ⟨b0, b64, b393536, b589888⟩ => ?_)
    · obtain ⟨hk, rfl⟩ := evs_get hx
      have hk' : k < (sucs l i).length := by simpa using hk
      have hx' : (natI (sucs l i))[k] = (((sucs l i)[k] : Nat) : Int) := by simp [natI]
      rw [hx']
      clear hx'
      have hss := prsJ_succ l i hk'
      have hsl := prsJ_len l i k
      generalize (sucs l i)[k] = X at *
      repeat (first | simp [h27, h26, h1, h2, h5, b0, b64, b393536, b589888, hli] | with_reducible refine And.intro (by omega) ?_ | with_reducible refine optK_if (by omega) ?_ | with_reducible refine optD_if (by omega) ?_ | simp (disch := omega) only [wrap_i64, if_pos, if_neg] | with_reducible refine gsel_pure (by with_unfolding_all rfl) _ (fun hg => by (try simp at hg); simp [hg, h27, h26, h1, h2, h5, b0, b64, b393536, b589888, hli]; rfl) ?_ | with_reducible refine dsel_pure (by with_unfolding_all rfl) _ (fun hg => by (try simp at hg); simp [hg, h27, h26, h1, h2, h5, b0, b64, b393536, b589888, hli]; rfl) ?_ | with_reducible refine awp_draw (by kernel_rfl) (by decide +kernel) ?_)
      refine rPost_normal ⟨by simp [h27, h26, h1, h2, h5, b0, b64, b393536, b589888, hli, hss, prC_append, prC_one], by simp [h27, h26, h1, h2, h5, b0, b64, b393536, b589888, hli, hss, prC_append, prC_one], by simp [h27, h26, h1, h2, h5, b0, b64, b393536, b589888, hli, hss, prC_append, prC_one], by simp [h27, h26, h1, h2, h5, b0, b64, b393536, b589888, hli, hss, prC_append, prC_one]⟩
    · simp only [evs_length, natI_length] at b393536
      rw [prsJ_full l i (Nat.le_refl _)] at b393536
      repeat (first | simp [h27, h26, h1, h2, h5, b0, b64, b393536, b589888, hli] | with_reducible refine And.intro (by omega) ?_ | with_reducible refine optK_if (by omega) ?_ | with_reducible refine optD_if (by omega) ?_ | simp (disch := omega) only [wrap_i64, if_pos, if_neg] | with_reducible refine gsel_pure (by with_unfolding_all rfl) _ (fun hg => by (try simp at hg); simp [hg, h27, h26, h1, h2, h5, b0, b64, b393536, b589888, hli]; rfl) ?_ | with_reducible refine dsel_pure (by with_unfolding_all rfl) _ (fun hg => by (try simp at hg); simp [hg, h27, h26, h1, h2, h5, b0, b64, b393536, b589888, hli]; rfl) ?_ | with_reducible refine awp_draw (by kernel_rfl) (by decide +kernel) ?_)
      refine hLA (i + 1) _ ⟨by first | omega | assumption | (simp; done) | (simp; omega), by simp [h27, h26, h1, h2, h5, b0, b64, b393536, b589888, hli], by simp [h27, h26, h1, h2, h5, b0, b64, b393536, b589888, hli], by simp [h27, h26, h1, h2, h5, b0, b64, b393536, b589888, hli], by simp [h27, h26, h1, h2, h5, b0, b64, b393536, b589888, hli], by simp [h27, h26, h1, h2, h5, b0, b64, b393536, b589888, hli], by simp [h27, h26, h1, h2, h5, b0, b64, b393536, b589888, hli], by simp [h27, h26, h1, h2, h5, b0, b64, b393536, b589888, hli], by simp [h27, h26, h1, h2, h5, b0, b64, b393536, b589888, hli]⟩ (by first | omega | (simp; omega))
  · have : i = l.length := by omega
    subst this
    repeat (first | simp [h27, h26, h1, b0, h2, b64, h5, b393536, hli] | with_reducible refine And.intro (by omega) ?_ | with_reducible refine optK_if (by omega) ?_ | with_reducible refine optD_if (by omega) ?_ | simp (disch := omega) only [wrap_i64, if_pos, if_neg] | with_reducible refine gsel_pure (by with_unfolding_all rfl) _ (fun hg => by (try simp at hg); simp [hg, h27, h26, h1, b0, h2, b64, h5, b393536, hli]; rfl) ?_ | with_reducible refine dsel_pure (by with_unfolding_all rfl) _ (fun hg => by (try simp at hg); simp [hg, h27, h26, h1, b0, h2, b64, h5, b393536, hli]; rfl) ?_ | with_reducible refine awp_draw (by kernel_rfl) (by decide +kernel) ?_)
    refine gop_call (hN) (by (first | simp [h27, h26, h1, b0, h2, b64, h5, b393536, hli, prC_flat] | simp (disch := omega) [h27, h26, h1, b0, h2, b64, h5, b393536, hli, prC_flat, wrap_i64]); try rfl) (by simp) (by simp) ?_
    repeat (first | simp [h27, h26, h1, b0, h2, b64, h5, b393536, hli] | with_reducible refine And.intro (by omega) ?_ | with_reducible refine optK_if (by omega) ?_ | with_reducible refine optD_if (by omega) ?_ | simp (disch := omega) only [wrap_i64, if_pos, if_neg] | with_reducible refine gsel_pure (by with_unfolding_all rfl) _ (fun hg => by (try simp at hg); simp [hg, h27, h26, h1, b0, h2, b64, h5, b393536, hli]; rfl) ?_ | with_reducible refine dsel_pure (by with_unfolding_all rfl) _ (fun hg => by (try simp at hg); simp [hg, h27, h26, h1, b0, h2, b64, h5, b393536, hli]; rfl) ?_ | with_reducible refine awp_draw (by kernel_rfl) (by decide +kernel) ?_)
    refine hQ _ _ (ret2 (by simp [retAV, resAV, h2]; rfl) (by simp [h2]; rfl) ?_)
    rfl
end Go.Proofs
end
section
set_option linter.all false
namespace Go.Proofs
open Go.Fw Go.Dr
set_option maxRecDepth 100000
set_option maxHeartbeats 2000000 in
theorem at_r12graph (name : ByteArray) (l : List I8) : At Tryd.prog 30 [fAV name l] (.tup [graphA l, iV .i64 (graphE l)]) := by
  by_cases hf : funcE l = 0
  rotate_left
  · have e1 : eqI (funcE l) 0 = false := by simp [eqI, hf]
    have hE : graphE l = funcE l := if_neg hf
    have hA : graphA l = .agg [.p (iC 0), .z] := if_neg (by rw [hE]; exact hf)
    rw [hA, hE]
    refine at_code mixed Tryd.func30 (by kernel_rfl) rfl (by kernel_rfl) (by kernel_rfl) rfl fun Q hQ => ?_
    repeat (first | simp | with_reducible refine And.intro (by omega) ?_ | with_reducible refine optK_if (by omega) ?_ | with_reducible refine optD_if (by omega) ?_ | simp (disch := omega) only [wrap_i64, if_pos, if_neg] | with_reducible refine gsel_pure (by with_unfolding_all rfl) _ (fun hg => by (try simp at hg); simp [hg]; rfl) ?_ | with_reducible refine dsel_pure (by with_unfolding_all rfl) _ (fun hg => by (try simp at hg); simp [hg]; rfl) ?_ | with_reducible refine awp_draw (by kernel_rfl) (by decide +kernel) ?_)
    refine gop_call (at_r12Check name l) (by (first | simp [wrap_i64] | simp (disch := omega) [wrap_i64]); try rfl) (by simp) (by simp) ?_
    repeat (first | simp [e1] | with_reducible refine And.intro (by omega) ?_ | with_reducible refine optK_if (by omega) ?_ | with_reducible refine optD_if (by omega) ?_ | simp (disch := omega) only [wrap_i64, if_pos, if_neg] | with_reducible refine gsel_pure (by with_unfolding_all rfl) _ (fun hg => by (try simp at hg); simp [hg, e1]; rfl) ?_ | with_reducible refine dsel_pure (by with_unfolding_all rfl) _ (fun hg => by (try simp at hg); simp [hg, e1]; rfl) ?_ | with_reducible refine awp_draw (by kernel_rfl) (by decide +kernel) ?_)
    refine hQ _ _ (ret2 (by simp [retAV, resAV]; rfl) (by simp; rfl) ?_)
    rfl
  have ok := okL hf
  have hlen := ok.len
  by_cases h64 : 64 ≤ l.length
  · have e2 : ltI (l.length : Int) 64 = false := by simp [ltI]; omega
    have hE : graphE l = 4 := by show (if funcE l = 0 then _ else _) = _; rw [if_pos hf, if_pos h64]
    have hA : graphA l = .agg [.p (iC 0), .z] := if_neg (by rw [hE]; omega)
    rw [hA, hE]
    refine at_code mixed Tryd.func30 (by kernel_rfl) rfl (by kernel_rfl) (by kernel_rfl) rfl fun Q hQ => ?_
    repeat (first | simp | with_reducible refine And.intro (by omega) ?_ | with_reducible refine optK_if (by omega) ?_ | with_reducible refine optD_if (by omega) ?_ | simp (disch := omega) only [wrap_i64, if_pos, if_neg] | with_reducible refine gsel_pure (by with_unfolding_all rfl) _ (fun hg => by (try simp at hg); simp [hg]; rfl) ?_ | with_reducible refine dsel_pure (by with_unfolding_all rfl) _ (fun hg => by (try simp at hg); simp [hg]; rfl) ?_ | with_reducible refine awp_draw (by kernel_rfl) (by decide +kernel) ?_)
    refine gop_call (at_r12Check name l) (by (first | simp [wrap_i64] | simp (disch := omega) [wrap_i64]); try rfl) (by simp) (by simp) ?_
    repeat (first | simp [hf, e2] | with_reducible refine And.intro (by omega) ?_ | with_reducible refine optK_if (by omega) ?_ | with_reducible refine optD_if (by omega) ?_ | simp (disch := omega) only [wrap_i64, if_pos, if_neg] | with_reducible refine gsel_pure (by with_unfolding_all rfl) _ (fun hg => by (try simp at hg); simp [hg, hf, e2]; rfl) ?_ | with_reducible refine dsel_pure (by with_unfolding_all rfl) _ (fun hg => by (try simp at hg); simp [hg, hf, e2]; rfl) ?_ | with_reducible refine awp_draw (by kernel_rfl) (by decide +kernel) ?_)
    refine hQ _ _ (ret2 (by simp [retAV, resAV]; rfl) (by simp; rfl) ?_)
    rfl
  have e2 : ltI (l.length : Int) 64 = true := by simp [ltI]; omega
  have hE : graphE l = 0 := by show (if funcE l = 0 then _ else _) = _; rw [if_pos hf, if_neg h64]
  have hA : graphA l = relO (l.length + 1) (lst (memP (prs l l.length)) (l.length + 1) (l.length + 1)) := if_pos hE
  rw [hA, hE]
  have hps : ∀ p ∈ prs l l.length, p.1 < l.length + 1 ∧ p.2 < l.length + 1 := fun p hp => by
    obtain ⟨q1, q2⟩ := prs_mem.1 hp
    have := sucs_le ok q2
    omega
  have hpl := prs_len l l.length
  have hN := at_r04Normal (l.length + 1) (prs l l.length) (by omega) (by omega) hps
  generalize lst (memP (prs l l.length)) (l.length + 1) (l.length + 1) = G at *
  refine at_code mixed Tryd.func30 (by kernel_rfl) rfl (by kernel_rfl) (by kernel_rfl) rfl fun Q hQ => ?_
  repeat (first | simp | with_reducible refine And.intro (by omega) ?_ | with_reducible refine optK_if (by omega) ?_ | with_reducible refine optD_if (by omega) ?_ | simp (disch := omega) only [wrap_i64, if_pos, if_neg] | with_reducible refine gsel_pure (by with_unfolding_all rfl) _ (fun hg => by (try simp at hg); simp [hg]; rfl) ?_ | with_reducible refine dsel_pure (by with_unfolding_all rfl) _ (fun hg => by (try simp at hg); simp [hg]; rfl) ?_ | with_reducible refine awp_draw (by kernel_rfl) (by decide +kernel) ?_)
  refine gop_call (at_r12Check name l) (by (first | simp [wrap_i64] | simp (disch := omega) [wrap_i64]); try rfl) (by simp) (by simp) ?_
  repeat (first | simp [hf, e2] | with_reducible refine And.intro (by omega) ?_ | with_reducible refine optK_if (by omega) ?_ | with_reducible refine optD_if (by omega) ?_ | simp (disch := omega) only [wrap_i64, if_pos, if_neg] | with_reducible refine gsel_pure (by with_unfolding_all rfl) _ (fun hg => by (try simp at hg); simp [hg, hf, e2]; rfl) ?_ | with_reducible refine dsel_pure (by with_unfolding_all rfl) _ (fun hg => by (try simp at hg); simp [hg, hf, e2]; rfl) ?_ | with_reducible refine awp_draw (by kernel_rfl) (by decide +kernel) ?_)
  refine awp_loopW (fun (i : Nat) (s : St) => (i ≤ l.length) ∧ s.env 6 = iV .i64 i ∧ s.env 1 = .cell (.ptr 0 0) ∧ s.box 0 = some (fP name l) ∧ s.env 2 = .cell (.ptr 64 0) ∧ s.box 64 = some ([.p (iC 0), .z]) ∧ s.env 5 = .cell (.ptr 393536 0) ∧ s.box 393536 = some ([.p (iC (l.length + 1)), .own 1370000 2 (prs l i).length (prC (prs l i))])) (fun (i : Nat) => l.length - i) _ (Weak.ownB2 393536 1370000 2 (.p (iC (l.length + 1))) (by simp)) (0) ⟨by first | omega | assumption | (simp [prs_zero]; done) | (simp [prs_zero]; omega), by simp [prs_zero], by simp [prs_zero], by simp [prs_zero], by simp [prs_zero], by simp [prs_zero], by simp [prs_zero], by simp [prs_zero]⟩ fun i s hsA LA hLA => ?_
  obtain ⟨hi, h6, h1, b0, h2, b64, h5, b393536⟩ := hsA
  repeat (first | simp [h6, h1, b0, h2, b64, h5, b393536] | with_reducible refine And.intro (by omega) ?_ | with_reducible refine optK_if (by omega) ?_ | with_reducible refine optD_if (by omega) ?_ | simp (disch := omega) only [wrap_i64, if_pos, if_neg] | with_reducible refine gsel_pure (by with_unfolding_all rfl) _ (fun hg => by (try simp at hg); simp [hg, h6, h1, b0, h2, b64, h5, b393536]; rfl) ?_ | with_reducible refine dsel_pure (by with_unfolding_all rfl) _ (fun hg => by (try simp at hg); simp [hg, h6, h1, b0, h2, b64, h5, b393536]; rfl) ?_ | with_reducible refine awp_draw (by kernel_rfl) (by decide +kernel) ?_)
  (with_reducible refine condK_intro (fun hli => ?_) (fun hli => ?_)) <;> (try simp only [hli]) <;> (try simp [andB, orB, eqI, ltI, Int.natCast_inj] at hli)
  · have hsl2 := sucs_len l i
    repeat (first | simp [h6, h1, b0, h2, b64, h5, b393536, hli] | with_reducible refine And.intro (by omega) ?_ | with_reducible refine optK_if (by omega) ?_ | with_reducible refine optD_if (by omega) ?_ | simp (disch := omega) only [wrap_i64, if_pos, if_neg] | with_reducible refine gsel_pure (by with_unfolding_all rfl) _ (fun hg => by (try simp at hg); simp [hg, h6, h1, b0, h2, b64, h5, b393536, hli]; rfl) ?_ | with_reducible refine dsel_pure (by with_unfolding_all rfl) _ (fun hg => by (try simp at hg); simp [hg, h6, h1, b0, h2, b64, h5, b393536, hli]; rfl) ?_ | with_reducible refine awp_draw (by kernel_rfl) (by decide +kernel) ?_)
    refine gop_call' (at_r12succ name l ok i hli) (by (first | simp [h6, h1, b0, h2, b64, h5, b393536, hli] | simp (disch := omega) [h6, h1, b0, h2, b64, h5, b393536, hli, wrap_i64]); try rfl) (by simp) (by simp) ?_
    repeat (first | simp [h6, h1, b0, h2, b64, h5, b393536, hli] | with_reducible refine And.intro (by omega) ?_ | with_reducible refine optK_if (by omega) ?_ | with_reducible refine optD_if (by omega) ?_ | simp (disch := omega) only [wrap_i64, if_pos, if_neg] | with_reducible refine gsel_pure (by with_unfolding_all rfl) _ (fun hg => by (try simp at hg); simp [hg, h6, h1, b0, h2, b64, h5, b393536, hli]; rfl) ?_ | with_reducible refine dsel_pure (by with_unfolding_all rfl) _ (fun hg => by (try simp at hg); simp [hg, h6, h1, b0, h2, b64, h5, b393536, hli]; rfl) ?_ | with_reducible refine awp_draw (by kernel_rfl) (by decide +kernel) ?_)
    refine awp_loopV (fun (k : Nat) (s : St) => (k ≤ (sucs l i).length) ∧ s.env 8 = iV .i64 k ∧ s.env 7 = intsA (natI (sucs l i)) ∧ s.env 6 = iV .i64 i ∧ s.env 1 = .cell (.ptr 0 0) ∧ s.box 0 = some (fP name l) ∧ s.env 2 = .cell (.ptr 64 0) ∧ s.box 64 = some ([.p (iC 0), .z]) ∧ s.env 5 = .cell (.ptr 393536 0) ∧ s.box 393536 = some ([.p (iC (l.length + 1)), .own 1370000 2 (prsJ l i k).length (prC (prsJ l i k))])) (fun (k : Nat) => (sucs l i).length - k) (0) ⟨by first | omega | assumption | (simp [prsJ_zero]; done) | (simp [prsJ_zero]; omega), by simp [h6, h1, b0, h2, b64, h5, b393536, hli, prsJ_zero], by simp [h6, h1, b0, h2, b64, h5, b393536, hli, prsJ_zero], by simp [h6, h1, b0, h2, b64, h5, b393536, hli, prsJ_zero], by simp [h6, h1, b0, h2, b64, h5, b393536, hli, prsJ_zero], by simp [h6, h1, b0, h2, b64, h5, b393536, hli, prsJ_zero], by simp [h6, h1, b0, h2, b64, h5, b393536, hli, prsJ_zero], by simp [h6, h1, b0, h2, b64, h5, b393536, hli, prsJ_zero], by simp [h6, h1, b0, h2, b64, h5, b393536, hli, prsJ_zero], by simp [h6, h1, b0, h2, b64, h5, b393536, hli, prsJ_zero]⟩ fun k s hsB LB hLB => ?_
    obtain ⟨hk, h8, h7, h6, h1, b0, h2, b64, h5, b393536⟩ := hsB
    repeat (first | simp [h8, h7, h6, h1, b0, h2, b64, h5, b393536, hli] | with_reducible refine And.intro (by omega) ?_ | with_reducible refine optK_if (by omega) ?_ | with_reducible refine optD_if (by omega) ?_ | simp (disch := omega) only [wrap_i64, if_pos, if_neg] | with_reducible refine gsel_pure (by with_unfolding_all rfl) _ (fun hg => by (try simp at hg); simp [hg, h8, h7, h6, h1, b0, h2, b64, h5, b393536, hli]; rfl) ?_ | with_reducible refine dsel_pure (by with_unfolding_all rfl) _ (fun hg => by (try simp at hg); simp [hg, h8, h7, h6, h1, b0, h2, b64, h5, b393536, hli]; rfl) ?_ | with_reducible refine awp_draw (by kernel_rfl) (by decide +kernel) ?_)
    (with_reducible refine condK_intro (fun hk2 => ?_) (fun hk2 => ?_)) <;> (try simp only [hk2]) <;> (try simp [andB, orB, eqI, ltI, Int.natCast_inj] at hk2)
    · have hss := prsJ_succ l i hk2
      have hsl := prsJ_len l i k
      obtain ⟨X, hX⟩ : ∃ X, (sucs l i)[k] = X := ⟨_, rfl⟩
      rw [hX] at hss
      repeat (first | simp [h8, h7, h6, h1, b0, h2, b64, h5, b393536, hli, hk2, hX, hk2] | with_reducible refine And.intro (by omega) ?_ | with_reducible refine optK_if (by omega) ?_ | with_reducible refine optD_if (by omega) ?_ | simp (disch := omega) only [wrap_i64, if_pos, if_neg] | with_reducible refine gsel_pure (by with_unfolding_all rfl) _ (fun hg => by (try simp at hg); simp [hg, h8, h7, h6, h1, b0, h2, b64, h5, b393536, hli, hk2, hX, hk2]; rfl) ?_ | with_reducible refine dsel_pure (by with_unfolding_all rfl) _ (fun hg => by (try simp at hg); simp [hg, h8, h7, h6, h1, b0, h2, b64, h5, b393536, hli, hk2, hX, hk2]; rfl) ?_)
      refine awp_drawS 9 rfl rfl (by kernel_rfl) (by decide +kernel) ?_
      repeat (first | simp [h8, h7, h6, h1, b0, h2, b64, h5, b393536, hli, hk2, hX, hk2] | with_reducible refine And.intro (by omega) ?_ | with_reducible refine optK_if (by omega) ?_ | with_reducible refine optD_if (by omega) ?_ | simp (disch := omega) only [wrap_i64, if_pos, if_neg] | with_reducible refine gsel_pure (by with_unfolding_all rfl) _ (fun hg => by (try simp at hg); simp [hg, h8, h7, h6, h1, b0, h2, b64, h5, b393536, hli, hk2, hX, hk2]; rfl) ?_ | with_reducible refine dsel_pure (by with_unfolding_all rfl) _ (fun hg => by (try simp at hg); simp [hg, h8, h7, h6, h1, b0, h2, b64, h5, b393536, hli, hk2, hX, hk2]; rfl) ?_ | with_reducible refine awp_draw (by kernel_rfl) (by decide +kernel) ?_)
      refine hLB (k + 1) _ ⟨by first | omega | assumption | (simp [hss, prC_append, prC_one]; done) | (simp [hss, prC_append, prC_one]; omega), by simp [h8, h7, h6, h1, b0, h2, b64, h5, b393536, hli, hk2, hss, prC_append, prC_one], by simp [h8, h7, h6, h1, b0, h2, b64, h5, b393536, hli, hk2, hss, prC_append, prC_one], by simp [h8, h7, h6, h1, b0, h2, b64, h5, b393536, hli, hk2, hss, prC_append, prC_one], by simp [h8, h7, h6, h1, b0, h2, b64, h5, b393536, hli, hk2, hss, prC_append, prC_one], by simp [h8, h7, h6, h1, b0, h2, b64, h5, b393536, hli, hk2, hss, prC_append, prC_one], by simp [h8, h7, h6, h1, b0, h2, b64, h5, b393536, hli, hk2, hss, prC_append, prC_one], by simp [h8, h7, h6, h1, b0, h2, b64, h5, b393536, hli, hk2, hss, prC_append, prC_one], by simp [h8, h7, h6, h1, b0, h2, b64, h5, b393536, hli, hk2, hss, prC_append, prC_one], by simp [h8, h7, h6, h1, b0, h2, b64, h5, b393536, hli, hk2, hss, prC_append, prC_one]⟩ (by first | omega | (simp; omega))
    · have : k = (sucs l i).length := by omega
      subst this
      rw [prsJ_full l i (Nat.le_refl _)] at b393536
      repeat (first | simp [h8, h7, h6, h1, b0, h2, b64, h5, b393536, hli, hk2] | with_reducible refine And.intro (by omega) ?_ | with_reducible refine optK_if (by omega) ?_ | with_reducible refine optD_if (by omega) ?_ | simp (disch := omega) only [wrap_i64, if_pos, if_neg] | with_reducible refine gsel_pure (by with_unfolding_all rfl) _ (fun hg => by (try simp at hg); simp [hg, h8, h7, h6, h1, b0, h2, b64, h5, b393536, hli, hk2]; rfl) ?_ | with_reducible refine dsel_pure (by with_unfolding_all rfl) _ (fun hg => by (try simp at hg); simp [hg, h8, h7, h6, h1, b0, h2, b64, h5, b393536, hli, hk2]; rfl) ?_ | with_reducible refine awp_draw (by kernel_rfl) (by decide +kernel) ?_)
      refine hLA (i + 1) _ ⟨by first | omega | assumption | (simp; done) | (simp; omega), by simp [h8, h7, h6, h1, b0, h2, b64, h5, b393536, hli, hk2], by simp [h8, h7, h6, h1, b0, h2, b64, h5, b393536, hli, hk2], by simp [h8, h7, h6, h1, b0, h2, b64, h5, b393536, hli, hk2], by simp [h8, h7, h6, h1, b0, h2, b64, h5, b393536, hli, hk2], by simp [h8, h7, h6, h1, b0, h2, b64, h5, b393536, hli, hk2], by simp [h8, h7, h6, h1, b0, h2, b64, h5, b393536, hli, hk2], by simp [h8, h7, h6, h1, b0, h2, b64, h5, b393536, hli, hk2]⟩ (by first | omega | (simp; omega))
  · have : i = l.length := by omega
    subst this
    repeat (first | simp [h6, h1, b0, h2, b64, h5, b393536, hli] | with_reducible refine And.intro (by omega) ?_ | with_reducible refine optK_if (by omega) ?_ | with_reducible refine optD_if (by omega) ?_ | simp (disch := omega) only [wrap_i64, if_pos, if_neg] | with_reducible refine gsel_pure (by with_unfolding_all rfl) _ (fun hg => by (try simp at hg); simp [hg, h6, h1, b0, h2, b64, h5, b393536, hli]; rfl) ?_ | with_reducible refine dsel_pure (by with_unfolding_all rfl) _ (fun hg => by (try simp at hg); simp [hg, h6, h1, b0, h2, b64, h5, b393536, hli]; rfl) ?_ | with_reducible refine awp_draw (by kernel_rfl) (by decide +kernel) ?_)
    refine gop_call (hN) (by (first | simp [h6, h1, b0, h2, b64, h5, b393536, hli, prC_flat] | simp (disch := omega) [h6, h1, b0, h2, b64, h5, b393536, hli, prC_flat, wrap_i64]); try rfl) (by simp) (by simp) ?_
    repeat (first | simp [h6, h1, b0, h2, b64, h5, b393536, hli] | with_reducible refine And.intro (by omega) ?_ | with_reducible refine optK_if (by omega) ?_ | with_reducible refine optD_if (by omega) ?_ | simp (disch := omega) only [wrap_i64, if_pos, if_neg] | with_reducible refine gsel_pure (by with_unfolding_all rfl) _ (fun hg => by (try simp at hg); simp [hg, h6, h1, b0, h2, b64, h5, b393536, hli]; rfl) ?_ | with_reducible refine dsel_pure (by with_unfolding_all rfl) _ (fun hg => by (try simp at hg); simp [hg, h6, h1, b0, h2, b64, h5, b393536, hli]; rfl) ?_ | with_reducible refine awp_draw (by kernel_rfl) (by decide +kernel) ?_)
    refine hQ _ _ (ret2 (by simp [retAV, resAV, h2]; rfl) (by simp [h2]; rfl) ?_)
    rfl

abbrev reachL (l : List I8) : List Int := natI (sortL (natI (visitL l (-1))) l.length)
abbrev reachA (l : List I8) : AV := .tup [if funcE l = 0 then intsA (reachL l) else .cell .z, iV .i64 (funcE l)]
set_option maxHeartbeats 2000000 in
theorem at_reach (name : ByteArray) (l : List I8) : At Tryd.prog 32 [fAV name l] (reachA l) := by
  by_cases hf : funcE l = 0
  rotate_left
  · have e1 : eqI (funcE l) 0 = false := by simp [eqI, hf]
    refine at_code mixed Tryd.func32 (by kernel_rfl) rfl (by kernel_rfl) (by kernel_rfl) rfl fun Q hQ => ?_
    repeat (first | simp | with_reducible refine And.intro (by omega) ?_ | with_reducible refine optK_if (by omega) ?_ | with_reducible refine optD_if (by omega) ?_ | simp (disch := omega) only [wrap_i64, if_pos, if_neg] | with_reducible refine gsel_pure (by with_unfolding_all rfl) _ (fun hg => by (try simp at hg); simp [hg]; rfl) ?_ | with_reducible refine dsel_pure (by with_unfolding_all rfl) _ (fun hg => by (try simp at hg); simp [hg]; rfl) ?_ | with_reducible refine awp_draw (by kernel_rfl) (by decide +kernel) ?_)
    refine gop_call (at_cfgCheck name l) (by (first | simp [wrap_i64] | simp (disch := omega) [wrap_i64]); try rfl) (by simp) (by simp) ?_
    repeat (first | simp [e1] | with_reducible refine And.intro (by omega) ?_ | with_reducible refine optK_if (by omega) ?_ | with_reducible refine optD_if (by omega) ?_ | simp (disch := omega) only [wrap_i64, if_pos, if_neg] | with_reducible refine gsel_pure (by with_unfolding_all rfl) _ (fun hg => by (try simp at hg); simp [hg, e1]; rfl) ?_ | with_reducible refine dsel_pure (by with_unfolding_all rfl) _ (fun hg => by (try simp at hg); simp [hg, e1]; rfl) ?_ | with_reducible refine awp_draw (by kernel_rfl) (by decide +kernel) ?_)
    refine hQ _ _ (ret2 (by simp [retAV, resAV]; rfl) (by simp; rfl) ?_)
    simp [hf]
  have ok := okL hf
  have hlen := ok.len
  refine at_code mixed Tryd.func32 (by kernel_rfl) rfl (by kernel_rfl) (by kernel_rfl) rfl fun Q hQ => ?_
  repeat (first | simp | with_reducible refine And.intro (by omega) ?_ | with_reducible refine optK_if (by omega) ?_ | with_reducible refine optD_if (by omega) ?_ | simp (disch := omega) only [wrap_i64, if_pos, if_neg] | with_reducible refine gsel_pure (by with_unfolding_all rfl) _ (fun hg => by (try simp at hg); simp [hg]; rfl) ?_ | with_reducible refine dsel_pure (by with_unfolding_all rfl) _ (fun hg => by (try simp at hg); simp [hg]; rfl) ?_ | with_reducible refine awp_draw (by kernel_rfl) (by decide +kernel) ?_)
  refine gop_call (at_cfgCheck name l) (by (first | simp [wrap_i64] | simp (disch := omega) [wrap_i64]); try rfl) (by simp) (by simp) ?_
  repeat (first | simp [hf] | with_reducible refine And.intro (by omega) ?_ | with_reducible refine optK_if (by omega) ?_ | with_reducible refine optD_if (by omega) ?_ | simp (disch := omega) only [wrap_i64, if_pos, if_neg] | with_reducible refine gsel_pure (by with_unfolding_all rfl) _ (fun hg => by (try simp at hg); simp [hg, hf]; rfl) ?_ | with_reducible refine dsel_pure (by with_unfolding_all rfl) _ (fun hg => by (try simp at hg); simp [hg, hf]; rfl) ?_ | with_reducible refine awp_draw (by kernel_rfl) (by decide +kernel) ?_)
  refine dq_at' (at_visit name l ok (-1)) (by (first | simp [wrap_i64] | simp (disch := omega) [wrap_i64]); try rfl) (by simp) (by (first | simp [wrap_i64] | simp (disch := omega) [wrap_i64])) ?_
  repeat (first | simp | with_reducible refine And.intro (by omega) ?_ | with_reducible refine optK_if (by omega) ?_ | with_reducible refine optD_if (by omega) ?_ | simp (disch := omega) only [wrap_i64, if_pos, if_neg] | with_reducible refine gsel_pure (by with_unfolding_all rfl) _ (fun hg => by (try simp at hg); simp [hg]; rfl) ?_ | with_reducible refine dsel_pure (by with_unfolding_all rfl) _ (fun hg => by (try simp at hg); simp [hg]; rfl) ?_ | with_reducible refine awp_draw (by kernel_rfl) (by decide +kernel) ?_)
  refine dq_at' (at_sorted name l (by omega) (natI (visitL l (-1))) (posK_natI _)) (by (first | simp [wrap_i64] | simp (disch := omega) [wrap_i64]); try rfl) (by simp) (by (first | simp [wrap_i64] | simp (disch := omega) [wrap_i64])) ?_
  repeat (first | simp | with_reducible refine And.intro (by omega) ?_ | with_reducible refine optK_if (by omega) ?_ | with_reducible refine optD_if (by omega) ?_ | simp (disch := omega) only [wrap_i64, if_pos, if_neg] | with_reducible refine gsel_pure (by with_unfolding_all rfl) _ (fun hg => by (try simp at hg); simp [hg]; rfl) ?_ | with_reducible refine dsel_pure (by with_unfolding_all rfl) _ (fun hg => by (try simp at hg); simp [hg]; rfl) ?_ | with_reducible refine awp_draw (by kernel_rfl) (by decide +kernel) ?_)
  refine hQ _ _ (ret2 (by simp [retAV, resAV]; rfl) (by simp; rfl) ?_)
  simp [hf]
set_option maxHeartbeats 2000000 in
theorem at_r12reach (name : ByteArray) (l : List I8) : At Tryd.prog 33 [fAV name l] (reachA l) := by
  by_cases hf : funcE l = 0
  rotate_left
  · have e1 : eqI (funcE l) 0 = false := by simp [eqI, hf]
    refine at_code mixed Tryd.func33 (by kernel_rfl) rfl (by kernel_rfl) (by kernel_rfl) rfl fun Q hQ => ?_
    repeat (first | simp | with_reducible refine And.intro (by omega) ?_ | with_reducible refine optK_if (by omega) ?_ | with_reducible refine optD_if (by omega) ?_ | simp (disch := omega) only [wrap_i64, if_pos, if_neg] | with_reducible refine gsel_pure (by with_unfolding_all rfl) _ (fun hg => by (try simp at hg); simp [hg]; rfl) ?_ | with_reducible refine dsel_pure (by with_unfolding_all rfl) _ (fun hg => by (try simp at hg); simp [hg]; rfl) ?_ | with_reducible refine awp_draw (by kernel_rfl) (by decide +kernel) ?_)
    refine gop_call (at_r12Check name l) (by (first | simp [wrap_i64] | simp (disch := omega) [wrap_i64]); try rfl) (by simp) (by simp) ?_
    repeat (first | simp [e1] | with_reducible refine And.intro (by omega) ?_ | with_reducible refine optK_if (by omega) ?_ | with_reducible refine optD_if (by omega) ?_ | simp (disch := omega) only [wrap_i64, if_pos, if_neg] | with_reducible refine gsel_pure (by with_unfolding_all rfl) _ (fun hg => by (try simp at hg); simp [hg, e1]; rfl) ?_ | with_reducible refine dsel_pure (by with_unfolding_all rfl) _ (fun hg => by (try simp at hg); simp [hg, e1]; rfl) ?_ | with_reducible refine awp_draw (by kernel_rfl) (by decide +kernel) ?_)
    refine hQ _ _ (ret2 (by simp [retAV, resAV]; rfl) (by simp; rfl) ?_)
    simp [hf]
  have ok := okL hf
  have hlen := ok.len
  refine at_pure (r := .tup [.cell (.own 0 1 (reachL l).length (intsC (reachL l))), iV .i64 (funcE l)]) ?_ (by simp [hf])
  obtain ⟨ks, hks⟩ : ∃ ks, ks = natI (visitL l (-1)) := ⟨_, rfl⟩
  have hw : ∀ k, wOn l (-1) k = decide ((k : Int) ∈ ks) := fun k => by
    rw [hks, Bool.eq_iff_iff]; simp only [wOn, decide_eq_true_iff]; exact mem_natI.symm
  have hr : reachL l = natI (sortL ks l.length) := by rw [hks]
  rw [hr]
  clear hks hr
  refine at_code mixed Tryd.func33 (by kernel_rfl) rfl (by kernel_rfl) (by kernel_rfl) rfl fun Q hQ => ?_
  repeat (first | simp | with_reducible refine And.intro (by omega) ?_ | with_reducible refine optK_if (by omega) ?_ | with_reducible refine optD_if (by omega) ?_ | simp (disch := omega) only [wrap_i64, if_pos, if_neg] | with_reducible refine gsel_pure (by with_unfolding_all rfl) _ (fun hg => by (try simp at hg); simp [hg]; rfl) ?_ | with_reducible refine dsel_pure (by with_unfolding_all rfl) _ (fun hg => by (try simp at hg); simp [hg]; rfl) ?_ | with_reducible refine awp_draw (by kernel_rfl) (by decide +kernel) ?_)
  refine gop_call (at_r12Check name l) (by (first | simp [wrap_i64] | simp (disch := omega) [wrap_i64]); try rfl) (by simp) (by simp) ?_
  repeat (first | simp [hf] | with_reducible refine And.intro (by omega) ?_ | with_reducible refine optK_if (by omega) ?_ | with_reducible refine optD_if (by omega) ?_ | simp (disch := omega) only [wrap_i64, if_pos, if_neg] | with_reducible refine gsel_pure (by with_unfolding_all rfl) _ (fun hg => by (try simp at hg); simp [hg, hf]; rfl) ?_ | with_reducible refine dsel_pure (by with_unfolding_all rfl) _ (fun hg => by (try simp at hg); simp [hg, hf]; rfl) ?_ | with_reducible refine awp_draw (by kernel_rfl) (by decide +kernel) ?_)
  refine gop_call' (at_without name l ok (-1)) (by (first | simp [wrap_i64] | simp (disch := omega) [wrap_i64]); try rfl) (by simp) (by simp) ?_
  repeat (first | simp | with_reducible refine And.intro (by omega) ?_ | with_reducible refine optK_if (by omega) ?_ | with_reducible refine optD_if (by omega) ?_ | simp (disch := omega) only [wrap_i64, if_pos, if_neg] | with_reducible refine gsel_pure (by with_unfolding_all rfl) _ (fun hg => by (try simp at hg); simp [hg]; rfl) ?_ | with_reducible refine dsel_pure (by with_unfolding_all rfl) _ (fun hg => by (try simp at hg); simp [hg]; rfl) ?_ | with_reducible refine awp_draw (by kernel_rfl) (by decide +kernel) ?_)
  refine awp_loopW (fun (k : Nat) (s : St) => (k ≤ l.length) ∧ s.env 7 = iV .i64 k ∧ s.env 6 = boolsA l.length (wOn l (-1)) ∧ s.env 5 = .cell (.own 655360000 1 (sortL ks k).length (intsC (natI (sortL ks k))))) (fun (k : Nat) => l.length - k) _ (Weak.own 5 655360000 1 (by simp)) (0) ⟨by first | omega | assumption | (simp [sortL]; done) | (simp [sortL]; omega), by simp [sortL], by simp [sortL], by simp [sortL]⟩ fun k s hsA LA hLA => ?_
  obtain ⟨hk, h7, h6, h5⟩ := hsA
  repeat (first | simp [h7, h6, h5] | with_reducible refine And.intro (by omega) ?_ | with_reducible refine optK_if (by omega) ?_ | with_reducible refine optD_if (by omega) ?_ | simp (disch := omega) only [wrap_i64, if_pos, if_neg] | with_reducible refine gsel_pure (by with_unfolding_all rfl) _ (fun hg => by (try simp at hg); simp [hg, h7, h6, h5]; rfl) ?_ | with_reducible refine dsel_pure (by with_unfolding_all rfl) _ (fun hg => by (try simp at hg); simp [hg, h7, h6, h5]; rfl) ?_ | with_reducible refine awp_draw (by kernel_rfl) (by decide +kernel) ?_)
  (with_reducible refine condK_intro (fun hlt => ?_) (fun hlt => ?_)) <;> (try simp only [hlt]) <;> (try simp [andB, orB, eqI, ltI, Int.natCast_inj] at hlt)
  · have hsl := sortL_len ks k
    have g1 : (bl l.length (wOn l (-1)))[k]? = some (bC (wOn l (-1) k)) := bl_get? hlt
    by_cases hm : (k : Int) ∈ ks
    · have hg : wOn l (-1) k = true := by rw [hw]; exact decide_eq_true hm
      have hsi := sortL_in hm
      repeat (first | simp [h7, h6, h5, hlt, hg, g1, hlt] | with_reducible refine And.intro (by omega) ?_ | with_reducible refine optK_if (by omega) ?_ | with_reducible refine optD_if (by omega) ?_ | simp (disch := omega) only [wrap_i64, if_pos, if_neg] | with_reducible refine gsel_pure (by with_unfolding_all rfl) _ (fun hg => by (try simp at hg); simp [hg, h7, h6, h5, hlt, hg, g1, hlt]; rfl) ?_ | with_reducible refine dsel_pure (by with_unfolding_all rfl) _ (fun hg => by (try simp at hg); simp [hg, h7, h6, h5, hlt, hg, g1, hlt]; rfl) ?_ | with_reducible refine awp_draw (by kernel_rfl) (by decide +kernel) ?_)
      refine hLA (k + 1) _ ⟨by first | omega | assumption | (simp [hsi, natI_append, intsC_append]; done) | (simp [hsi, natI_append, intsC_append]; omega), by simp [h7, h6, h5, hlt, hsi, natI_append, intsC_append], by simp [h7, h6, h5, hlt, hsi, natI_append, intsC_append], by simp [h7, h6, h5, hlt, hsi, natI_append, intsC_append]⟩ (by first | omega | (simp; omega))
    · have hg : wOn l (-1) k = false := by rw [hw]; exact decide_eq_false hm
      have hsi := sortL_out hm
      repeat (first | simp [h7, h6, h5, hlt, hg, g1, hlt] | with_reducible refine And.intro (by omega) ?_ | with_reducible refine optK_if (by omega) ?_ | with_reducible refine optD_if (by omega) ?_ | simp (disch := omega) only [wrap_i64, if_pos, if_neg] | with_reducible refine gsel_pure (by with_unfolding_all rfl) _ (fun hg => by (try simp at hg); simp [hg, h7, h6, h5, hlt, hg, g1, hlt]; rfl) ?_ | with_reducible refine dsel_pure (by with_unfolding_all rfl) _ (fun hg => by (try simp at hg); simp [hg, h7, h6, h5, hlt, hg, g1, hlt]; rfl) ?_ | with_reducible refine awp_draw (by kernel_rfl) (by decide +kernel) ?_)
      refine hLA (k + 1) _ ⟨by first | omega | assumption | (simp [hsi]; done) | (simp [hsi]; omega), by simp [h7, h6, h5, hlt, hsi], by simp [h7, h6, h5, hlt, hsi], by simp [h7, h6, h5, hlt, hsi]⟩ (by first | omega | (simp; omega))
  · have : k = l.length := by omega
    subst this
    repeat (first | simp [h7, h6, h5, hlt] | with_reducible refine And.intro (by omega) ?_ | with_reducible refine optK_if (by omega) ?_ | with_reducible refine optD_if (by omega) ?_ | simp (disch := omega) only [wrap_i64, if_pos, if_neg] | with_reducible refine gsel_pure (by with_unfolding_all rfl) _ (fun hg => by (try simp at hg); simp [hg, h7, h6, h5, hlt]; rfl) ?_ | with_reducible refine dsel_pure (by with_unfolding_all rfl) _ (fun hg => by (try simp at hg); simp [hg, h7, h6, h5, hlt]; rfl) ?_ | with_reducible refine awp_draw (by kernel_rfl) (by decide +kernel) ?_)
    refine hQ _ _ (ret2 (by simp [retAV, resAV]; rfl) (by simp; rfl) ?_)
    simp [hf]
abbrev relZ : AV := .agg [.p (iC 0), .z]
set_option maxHeartbeats 2000000 in
theorem at_r04SameZ : At Tryd.prog 31 [relZ, relZ] (bV true) := by
  refine at_code mixed Tryd.func31 (by kernel_rfl) rfl (by kernel_rfl) (by kernel_rfl) rfl fun Q hQ => ?_
  repeat (first | simp | with_reducible refine And.intro (by omega) ?_ | with_reducible refine optK_if (by omega) ?_ | with_reducible refine optD_if (by omega) ?_ | simp (disch := omega) only [wrap_i64, if_pos, if_neg] | with_reducible refine gsel_pure (by with_unfolding_all rfl) _ (fun hg => by (try simp at hg); simp [hg]; rfl) ?_ | with_reducible refine dsel_pure (by with_unfolding_all rfl) _ (fun hg => by (try simp at hg); simp [hg]; rfl) ?_ | with_reducible refine awp_draw (by kernel_rfl) (by decide +kernel) ?_)
  refine awp_loopV (fun (k : Nat) (s : St) => (k = 0) ∧ s.env 5 = iV .i64 k ∧ s.env 2 = .cell (.ptr 0 0) ∧ s.box 0 = some ([.p (iC 0), .z]) ∧ s.env 3 = .cell (.ptr 64 0) ∧ s.box 64 = some ([.p (iC 0), .z])) (fun (k : Nat) => 0) (0) ⟨by first | omega | assumption | (simp; done) | (simp; omega), by simp, by simp, by simp, by simp, by simp⟩ fun k s hsA LA hLA => ?_
  obtain ⟨hk, h5, h2, b0, h3, b64⟩ := hsA
  subst hk
  have e0 : ltI 0 0 = false := rfl
  repeat (first | simp [h5, h2, b0, h3, b64, e0] | with_reducible refine And.intro (by omega) ?_ | with_reducible refine optK_if (by omega) ?_ | with_reducible refine optD_if (by omega) ?_ | simp (disch := omega) only [wrap_i64, if_pos, if_neg] | with_reducible refine gsel_pure (by with_unfolding_all rfl) _ (fun hg => by (try simp at hg); simp [hg, h5, h2, b0, h3, b64, e0]; rfl) ?_ | with_reducible refine dsel_pure (by with_unfolding_all rfl) _ (fun hg => by (try simp at hg); simp [hg, h5, h2, b0, h3, b64, e0]; rfl) ?_ | with_reducible refine awp_draw (by kernel_rfl) (by decide +kernel) ?_)
  refine hQ _ _ (ret2 (by simp [retAV, resAV]; rfl) (by simp; rfl) ?_)
  rfl
end Go.Proofs
end
section
set_option linter.all false
namespace Go.Proofs
open Go.Fw Go.Dr
set_option maxRecDepth 100000
set_option maxHeartbeats 4000000 in
theorem at_lawGraph (name : ByteArray) (l : List I8) : At Tryd.prog 8 [fAV name l] (bV true) := by
  have hA := at_graph name l
  have hB := at_r12graph name l
  have hC := at_reach name l
  have hD := at_r12reach name l
  by_cases hf : funcE l = 0
  rotate_left
  · have hE : graphE l = funcE l := if_neg hf
    have hG : graphA l = .agg [.p (iC 0), .z] := if_neg (by rw [hE]; exact hf)
    rw [hG, hE] at hA hB
    unfold reachA at hC hD
    rw [if_neg hf] at hC hD
    refine at_code mixed Tryd.func8 (by kernel_rfl) rfl (by kernel_rfl) (by kernel_rfl) rfl fun Q hQ => ?_
    repeat (first | simp | with_reducible refine And.intro (by omega) ?_ | with_reducible refine optK_if (by omega) ?_ | with_reducible refine optD_if (by omega) ?_ | simp (disch := omega) only [wrap_i64, if_pos, if_neg] | with_reducible refine gsel_pure (by with_unfolding_all rfl) _ (fun hg => by (try simp at hg); simp [hg]; rfl) ?_ | with_reducible refine dsel_pure (by with_unfolding_all rfl) _ (fun hg => by (try simp at hg); simp [hg]; rfl) ?_ | with_reducible refine awp_draw (by kernel_rfl) (by decide +kernel) ?_)
    (with_reducible refine condK_intro (fun hh => ?_) (fun hh => ?_)) <;> (try simp only [hh]) <;> (try simp [andB, orB, eqI, ltI, Int.natCast_inj] at hh)
    · repeat (first | simp [hh] | with_reducible refine And.intro (by omega) ?_ | with_reducible refine optK_if (by omega) ?_ | with_reducible refine optD_if (by omega) ?_ | simp (disch := omega) only [wrap_i64, if_pos, if_neg] | with_reducible refine gsel_pure (by with_unfolding_all rfl) _ (fun hg => by (try simp at hg); simp [hg, hh]; rfl) ?_ | with_reducible refine dsel_pure (by with_unfolding_all rfl) _ (fun hg => by (try simp at hg); simp [hg, hh]; rfl) ?_ | with_reducible refine awp_draw (by kernel_rfl) (by decide +kernel) ?_)
      refine gop_call (at_example) (by (first | simp [hh] | simp (disch := omega) [hh, wrap_i64]); try rfl) (by simp) (by simp) ?_
      repeat (first | simp [hh] | with_reducible refine And.intro (by omega) ?_ | with_reducible refine optK_if (by omega) ?_ | with_reducible refine optD_if (by omega) ?_ | simp (disch := omega) only [wrap_i64, if_pos, if_neg] | with_reducible refine gsel_pure (by with_unfolding_all rfl) _ (fun hg => by (try simp at hg); simp [hg, hh]; rfl) ?_ | with_reducible refine dsel_pure (by with_unfolding_all rfl) _ (fun hg => by (try simp at hg); simp [hg, hh]; rfl) ?_ | with_reducible refine awp_draw (by kernel_rfl) (by decide +kernel) ?_)
      refine hQ _ _ (ret2 (by simp [retAV, resAV]; rfl) (by simp; rfl) ?_)
      rfl
    · repeat (first | simp [hh] | with_reducible refine And.intro (by omega) ?_ | with_reducible refine optK_if (by omega) ?_ | with_reducible refine optD_if (by omega) ?_ | simp (disch := omega) only [wrap_i64, if_pos, if_neg] | with_reducible refine gsel_pure (by with_unfolding_all rfl) _ (fun hg => by (try simp at hg); simp [hg, hh]; rfl) ?_ | with_reducible refine dsel_pure (by with_unfolding_all rfl) _ (fun hg => by (try simp at hg); simp [hg, hh]; rfl) ?_ | with_reducible refine awp_draw (by kernel_rfl) (by decide +kernel) ?_)
      refine gop_call (hA) (by (first | simp [hh] | simp (disch := omega) [hh, wrap_i64]); try rfl) (by simp) (by simp) ?_
      repeat (first | simp [hh] | with_reducible refine And.intro (by omega) ?_ | with_reducible refine optK_if (by omega) ?_ | with_reducible refine optD_if (by omega) ?_ | simp (disch := omega) only [wrap_i64, if_pos, if_neg] | with_reducible refine gsel_pure (by with_unfolding_all rfl) _ (fun hg => by (try simp at hg); simp [hg, hh]; rfl) ?_ | with_reducible refine dsel_pure (by with_unfolding_all rfl) _ (fun hg => by (try simp at hg); simp [hg, hh]; rfl) ?_ | with_reducible refine awp_draw (by kernel_rfl) (by decide +kernel) ?_)
      refine gop_call (hB) (by (first | simp [hh] | simp (disch := omega) [hh, wrap_i64]); try rfl) (by simp) (by simp) ?_
      repeat (first | simp [hh] | with_reducible refine And.intro (by omega) ?_ | with_reducible refine optK_if (by omega) ?_ | with_reducible refine optD_if (by omega) ?_ | simp (disch := omega) only [wrap_i64, if_pos, if_neg] | with_reducible refine gsel_pure (by with_unfolding_all rfl) _ (fun hg => by (try simp at hg); simp [hg, hh]; rfl) ?_ | with_reducible refine dsel_pure (by with_unfolding_all rfl) _ (fun hg => by (try simp at hg); simp [hg, hh]; rfl) ?_ | with_reducible refine awp_draw (by kernel_rfl) (by decide +kernel) ?_)
      refine gop_call (at_r04SameZ) (by (first | simp [hh] | simp (disch := omega) [hh, wrap_i64]); try rfl) (by simp) (by simp) ?_
      repeat (first | simp [hh] | with_reducible refine And.intro (by omega) ?_ | with_reducible refine optK_if (by omega) ?_ | with_reducible refine optD_if (by omega) ?_ | simp (disch := omega) only [wrap_i64, if_pos, if_neg] | with_reducible refine gsel_pure (by with_unfolding_all rfl) _ (fun hg => by (try simp at hg); simp [hg, hh]; rfl) ?_ | with_reducible refine dsel_pure (by with_unfolding_all rfl) _ (fun hg => by (try simp at hg); simp [hg, hh]; rfl) ?_ | with_reducible refine awp_draw (by kernel_rfl) (by decide +kernel) ?_)
      refine gop_call (hC) (by (first | simp [hh] | simp (disch := omega) [hh, wrap_i64]); try rfl) (by simp) (by simp) ?_
      repeat (first | simp [hh] | with_reducible refine And.intro (by omega) ?_ | with_reducible refine optK_if (by omega) ?_ | with_reducible refine optD_if (by omega) ?_ | simp (disch := omega) only [wrap_i64, if_pos, if_neg] | with_reducible refine gsel_pure (by with_unfolding_all rfl) _ (fun hg => by (try simp at hg); simp [hg, hh]; rfl) ?_ | with_reducible refine dsel_pure (by with_unfolding_all rfl) _ (fun hg => by (try simp at hg); simp [hg, hh]; rfl) ?_ | with_reducible refine awp_draw (by kernel_rfl) (by decide +kernel) ?_)
      refine gop_call (hD) (by (first | simp [hh] | simp (disch := omega) [hh, wrap_i64]); try rfl) (by simp) (by simp) ?_
      repeat (first | simp [hh] | with_reducible refine And.intro (by omega) ?_ | with_reducible refine optK_if (by omega) ?_ | with_reducible refine optD_if (by omega) ?_ | simp (disch := omega) only [wrap_i64, if_pos, if_neg] | with_reducible refine gsel_pure (by with_unfolding_all rfl) _ (fun hg => by (try simp at hg); simp [hg, hh]; rfl) ?_ | with_reducible refine dsel_pure (by with_unfolding_all rfl) _ (fun hg => by (try simp at hg); simp [hg, hh]; rfl) ?_ | with_reducible refine awp_draw (by kernel_rfl) (by decide +kernel) ?_)
      refine gop_call (at_intsz) (by (first | simp [hh] | simp (disch := omega) [hh, wrap_i64]); try rfl) (by simp) (by simp) ?_
      repeat (first | simp [hh] | with_reducible refine And.intro (by omega) ?_ | with_reducible refine optK_if (by omega) ?_ | with_reducible refine optD_if (by omega) ?_ | simp (disch := omega) only [wrap_i64, if_pos, if_neg] | with_reducible refine gsel_pure (by with_unfolding_all rfl) _ (fun hg => by (try simp at hg); simp [hg, hh]; rfl) ?_ | with_reducible refine dsel_pure (by with_unfolding_all rfl) _ (fun hg => by (try simp at hg); simp [hg, hh]; rfl) ?_ | with_reducible refine awp_draw (by kernel_rfl) (by decide +kernel) ?_)
      refine gop_call (at_example) (by (first | simp [hh] | simp (disch := omega) [hh, wrap_i64]); try rfl) (by simp) (by simp) ?_
      repeat (first | simp [hh] | with_reducible refine And.intro (by omega) ?_ | with_reducible refine optK_if (by omega) ?_ | with_reducible refine optD_if (by omega) ?_ | simp (disch := omega) only [wrap_i64, if_pos, if_neg] | with_reducible refine gsel_pure (by with_unfolding_all rfl) _ (fun hg => by (try simp at hg); simp [hg, hh]; rfl) ?_ | with_reducible refine dsel_pure (by with_unfolding_all rfl) _ (fun hg => by (try simp at hg); simp [hg, hh]; rfl) ?_ | with_reducible refine awp_draw (by kernel_rfl) (by decide +kernel) ?_)
      refine hQ _ _ (ret2 (by simp [retAV, resAV]; rfl) (by simp; rfl) ?_)
      simp
  have ok := okL hf
  have hlen := ok.len
  unfold reachA at hC hD
  rw [if_pos hf] at hC hD
  have hsl := sortL_len (natI (visitL l (-1))) l.length
  have hI := at_ints (reachL l) (reachL l) (by simp; omega)
  generalize reachL l = R at *
  by_cases h64 : 64 ≤ l.length
  · have hE : graphE l = 4 := by show (if funcE l = 0 then _ else _) = _; rw [if_pos hf, if_pos h64]
    have hG : graphA l = .agg [.p (iC 0), .z] := if_neg (by rw [hE]; omega)
    rw [hG, hE] at hA hB
    refine at_code mixed Tryd.func8 (by kernel_rfl) rfl (by kernel_rfl) (by kernel_rfl) rfl fun Q hQ => ?_
    repeat (first | simp | with_reducible refine And.intro (by omega) ?_ | with_reducible refine optK_if (by omega) ?_ | with_reducible refine optD_if (by omega) ?_ | simp (disch := omega) only [wrap_i64, if_pos, if_neg] | with_reducible refine gsel_pure (by with_unfolding_all rfl) _ (fun hg => by (try simp at hg); simp [hg]; rfl) ?_ | with_reducible refine dsel_pure (by with_unfolding_all rfl) _ (fun hg => by (try simp at hg); simp [hg]; rfl) ?_ | with_reducible refine awp_draw (by kernel_rfl) (by decide +kernel) ?_)
    (with_reducible refine condK_intro (fun hh => ?_) (fun hh => ?_)) <;> (try simp only [hh]) <;> (try simp [andB, orB, eqI, ltI, Int.natCast_inj] at hh)
    · repeat (first | simp [hh] | with_reducible refine And.intro (by omega) ?_ | with_reducible refine optK_if (by omega) ?_ | with_reducible refine optD_if (by omega) ?_ | simp (disch := omega) only [wrap_i64, if_pos, if_neg] | with_reducible refine gsel_pure (by with_unfolding_all rfl) _ (fun hg => by (try simp at hg); simp [hg, hh]; rfl) ?_ | with_reducible refine dsel_pure (by with_unfolding_all rfl) _ (fun hg => by (try simp at hg); simp [hg, hh]; rfl) ?_ | with_reducible refine awp_draw (by kernel_rfl) (by decide +kernel) ?_)
      refine gop_call (at_example) (by (first | simp [hh] | simp (disch := omega) [hh, wrap_i64]); try rfl) (by simp) (by simp) ?_
      repeat (first | simp [hh] | with_reducible refine And.intro (by omega) ?_ | with_reducible refine optK_if (by omega) ?_ | with_reducible refine optD_if (by omega) ?_ | simp (disch := omega) only [wrap_i64, if_pos, if_neg] | with_reducible refine gsel_pure (by with_unfolding_all rfl) _ (fun hg => by (try simp at hg); simp [hg, hh]; rfl) ?_ | with_reducible refine dsel_pure (by with_unfolding_all rfl) _ (fun hg => by (try simp at hg); simp [hg, hh]; rfl) ?_ | with_reducible refine awp_draw (by kernel_rfl) (by decide +kernel) ?_)
      refine hQ _ _ (ret2 (by simp [retAV, resAV]; rfl) (by simp; rfl) ?_)
      rfl
    · repeat (first | simp [hh] | with_reducible refine And.intro (by omega) ?_ | with_reducible refine optK_if (by omega) ?_ | with_reducible refine optD_if (by omega) ?_ | simp (disch := omega) only [wrap_i64, if_pos, if_neg] | with_reducible refine gsel_pure (by with_unfolding_all rfl) _ (fun hg => by (try simp at hg); simp [hg, hh]; rfl) ?_ | with_reducible refine dsel_pure (by with_unfolding_all rfl) _ (fun hg => by (try simp at hg); simp [hg, hh]; rfl) ?_ | with_reducible refine awp_draw (by kernel_rfl) (by decide +kernel) ?_)
      refine gop_call (hA) (by (first | simp [hh] | simp (disch := omega) [hh, wrap_i64]); try rfl) (by simp) (by simp) ?_
      repeat (first | simp [hh] | with_reducible refine And.intro (by omega) ?_ | with_reducible refine optK_if (by omega) ?_ | with_reducible refine optD_if (by omega) ?_ | simp (disch := omega) only [wrap_i64, if_pos, if_neg] | with_reducible refine gsel_pure (by with_unfolding_all rfl) _ (fun hg => by (try simp at hg); simp [hg, hh]; rfl) ?_ | with_reducible refine dsel_pure (by with_unfolding_all rfl) _ (fun hg => by (try simp at hg); simp [hg, hh]; rfl) ?_ | with_reducible refine awp_draw (by kernel_rfl) (by decide +kernel) ?_)
      refine gop_call (hB) (by (first | simp [hh] | simp (disch := omega) [hh, wrap_i64]); try rfl) (by simp) (by simp) ?_
      repeat (first | simp [hh] | with_reducible refine And.intro (by omega) ?_ | with_reducible refine optK_if (by omega) ?_ | with_reducible refine optD_if (by omega) ?_ | simp (disch := omega) only [wrap_i64, if_pos, if_neg] | with_reducible refine gsel_pure (by with_unfolding_all rfl) _ (fun hg => by (try simp at hg); simp [hg, hh]; rfl) ?_ | with_reducible refine dsel_pure (by with_unfolding_all rfl) _ (fun hg => by (try simp at hg); simp [hg, hh]; rfl) ?_ | with_reducible refine awp_draw (by kernel_rfl) (by decide +kernel) ?_)
      refine gop_call (at_r04SameZ) (by (first | simp [hh] | simp (disch := omega) [hh, wrap_i64]); try rfl) (by simp) (by simp) ?_
      repeat (first | simp [hh] | with_reducible refine And.intro (by omega) ?_ | with_reducible refine optK_if (by omega) ?_ | with_reducible refine optD_if (by omega) ?_ | simp (disch := omega) only [wrap_i64, if_pos, if_neg] | with_reducible refine gsel_pure (by with_unfolding_all rfl) _ (fun hg => by (try simp at hg); simp [hg, hh]; rfl) ?_ | with_reducible refine dsel_pure (by with_unfolding_all rfl) _ (fun hg => by (try simp at hg); simp [hg, hh]; rfl) ?_ | with_reducible refine awp_draw (by kernel_rfl) (by decide +kernel) ?_)
      refine gop_call' (hC) (by (first | simp [hh] | simp (disch := omega) [hh, wrap_i64]); try rfl) (by simp) (by simp) ?_
      repeat (first | simp [hh, hf] | with_reducible refine And.intro (by omega) ?_ | with_reducible refine optK_if (by omega) ?_ | with_reducible refine optD_if (by omega) ?_ | simp (disch := omega) only [wrap_i64, if_pos, if_neg] | with_reducible refine gsel_pure (by with_unfolding_all rfl) _ (fun hg => by (try simp at hg); simp [hg, hh, hf]; rfl) ?_ | with_reducible refine dsel_pure (by with_unfolding_all rfl) _ (fun hg => by (try simp at hg); simp [hg, hh, hf]; rfl) ?_ | with_reducible refine awp_draw (by kernel_rfl) (by decide +kernel) ?_)
      refine gop_call' (hD) (by (first | simp [hh] | simp (disch := omega) [hh, wrap_i64]); try rfl) (by simp) (by simp) ?_
      repeat (first | simp [hh, hf] | with_reducible refine And.intro (by omega) ?_ | with_reducible refine optK_if (by omega) ?_ | with_reducible refine optD_if (by omega) ?_ | simp (disch := omega) only [wrap_i64, if_pos, if_neg] | with_reducible refine gsel_pure (by with_unfolding_all rfl) _ (fun hg => by (try simp at hg); simp [hg, hh, hf]; rfl) ?_ | with_reducible refine dsel_pure (by with_unfolding_all rfl) _ (fun hg => by (try simp at hg); simp [hg, hh, hf]; rfl) ?_ | with_reducible refine awp_draw (by kernel_rfl) (by decide +kernel) ?_)
      refine gop_call (hI) (by (first | simp [hh] | simp (disch := omega) [hh, wrap_i64]); try rfl) (by simp) (by simp) ?_
      repeat (first | simp [hh] | with_reducible refine And.intro (by omega) ?_ | with_reducible refine optK_if (by omega) ?_ | with_reducible refine optD_if (by omega) ?_ | simp (disch := omega) only [wrap_i64, if_pos, if_neg] | with_reducible refine gsel_pure (by with_unfolding_all rfl) _ (fun hg => by (try simp at hg); simp [hg, hh]; rfl) ?_ | with_reducible refine dsel_pure (by with_unfolding_all rfl) _ (fun hg => by (try simp at hg); simp [hg, hh]; rfl) ?_ | with_reducible refine awp_draw (by kernel_rfl) (by decide +kernel) ?_)
      refine gop_call (at_example) (by (first | simp [hh] | simp (disch := omega) [hh, wrap_i64]); try rfl) (by simp) (by simp) ?_
      repeat (first | simp [hh] | with_reducible refine And.intro (by omega) ?_ | with_reducible refine optK_if (by omega) ?_ | with_reducible refine optD_if (by omega) ?_ | simp (disch := omega) only [wrap_i64, if_pos, if_neg] | with_reducible refine gsel_pure (by with_unfolding_all rfl) _ (fun hg => by (try simp at hg); simp [hg, hh]; rfl) ?_ | with_reducible refine dsel_pure (by with_unfolding_all rfl) _ (fun hg => by (try simp at hg); simp [hg, hh]; rfl) ?_ | with_reducible refine awp_draw (by kernel_rfl) (by decide +kernel) ?_)
      refine hQ _ _ (ret2 (by simp [retAV, resAV]; rfl) (by simp; rfl) ?_)
      rfl
  have hE : graphE l = 0 := by show (if funcE l = 0 then _ else _) = _; rw [if_pos hf, if_neg h64]
  have hG : graphA l = relO (l.length + 1) (lst (memP (prs l l.length)) (l.length + 1) (l.length + 1)) := if_pos hE
  rw [hG, hE] at hA hB
  have hll := lstP_len (memP (prs l l.length)) (n := l.length + 1) (a := l.length + 1) (b := 0) (by omega) (by omega) (by omega)
  rw [lstP_zero] at hll
  generalize lst (memP (prs l l.length)) (l.length + 1) (l.length + 1) = G at *
  have hS := at_r04Same (l.length + 1) G (by omega)
  
  refine at_code mixed Tryd.func8 (by kernel_rfl) rfl (by kernel_rfl) (by kernel_rfl) rfl fun Q hQ => ?_
  repeat (first | simp | with_reducible refine And.intro (by omega) ?_ | with_reducible refine optK_if (by omega) ?_ | with_reducible refine optD_if (by omega) ?_ | simp (disch := omega) only [wrap_i64, if_pos, if_neg] | with_reducible refine gsel_pure (by with_unfolding_all rfl) _ (fun hg => by (try simp at hg); simp [hg]; rfl) ?_ | with_reducible refine dsel_pure (by with_unfolding_all rfl) _ (fun hg => by (try simp at hg); simp [hg]; rfl) ?_ | with_reducible refine awp_draw (by kernel_rfl) (by decide +kernel) ?_)
  (with_reducible refine condK_intro (fun hh => ?_) (fun hh => ?_)) <;> (try simp only [hh]) <;> (try simp [andB, orB, eqI, ltI, Int.natCast_inj] at hh)
  · repeat (first | simp [hh] | with_reducible refine And.intro (by omega) ?_ | with_reducible refine optK_if (by omega) ?_ | with_reducible refine optD_if (by omega) ?_ | simp (disch := omega) only [wrap_i64, if_pos, if_neg] | with_reducible refine gsel_pure (by with_unfolding_all rfl) _ (fun hg => by (try simp at hg); simp [hg, hh]; rfl) ?_ | with_reducible refine dsel_pure (by with_unfolding_all rfl) _ (fun hg => by (try simp at hg); simp [hg, hh]; rfl) ?_ | with_reducible refine awp_draw (by kernel_rfl) (by decide +kernel) ?_)
    refine gop_call (at_example) (by (first | simp [hh] | simp (disch := omega) [hh, wrap_i64]); try rfl) (by simp) (by simp) ?_
    repeat (first | simp [hh] | with_reducible refine And.intro (by omega) ?_ | with_reducible refine optK_if (by omega) ?_ | with_reducible refine optD_if (by omega) ?_ | simp (disch := omega) only [wrap_i64, if_pos, if_neg] | with_reducible refine gsel_pure (by with_unfolding_all rfl) _ (fun hg => by (try simp at hg); simp [hg, hh]; rfl) ?_ | with_reducible refine dsel_pure (by with_unfolding_all rfl) _ (fun hg => by (try simp at hg); simp [hg, hh]; rfl) ?_ | with_reducible refine awp_draw (by kernel_rfl) (by decide +kernel) ?_)
    refine hQ _ _ (ret2 (by simp [retAV, resAV]; rfl) (by simp; rfl) ?_)
    rfl
  · repeat (first | simp [hh] | with_reducible refine And.intro (by omega) ?_ | with_reducible refine optK_if (by omega) ?_ | with_reducible refine optD_if (by omega) ?_ | simp (disch := omega) only [wrap_i64, if_pos, if_neg] | with_reducible refine gsel_pure (by with_unfolding_all rfl) _ (fun hg => by (try simp at hg); simp [hg, hh]; rfl) ?_ | with_reducible refine dsel_pure (by with_unfolding_all rfl) _ (fun hg => by (try simp at hg); simp [hg, hh]; rfl) ?_ | with_reducible refine awp_draw (by kernel_rfl) (by decide +kernel) ?_)
    refine gop_call (hA) (by (first | simp [hh, prC_flat] | simp (disch := omega) [hh, prC_flat, wrap_i64]); try rfl) (by simp) (by simp) ?_
    repeat (first | simp [hh] | with_reducible refine And.intro (by omega) ?_ | with_reducible refine optK_if (by omega) ?_ | with_reducible refine optD_if (by omega) ?_ | simp (disch := omega) only [wrap_i64, if_pos, if_neg] | with_reducible refine gsel_pure (by with_unfolding_all rfl) _ (fun hg => by (try simp at hg); simp [hg, hh]; rfl) ?_ | with_reducible refine dsel_pure (by with_unfolding_all rfl) _ (fun hg => by (try simp at hg); simp [hg, hh]; rfl) ?_ | with_reducible refine awp_draw (by kernel_rfl) (by decide +kernel) ?_)
    refine gop_call (hB) (by (first | simp [hh, prC_flat] | simp (disch := omega) [hh, prC_flat, wrap_i64]); try rfl) (by simp) (by simp) ?_
    repeat (first | simp [hh] | with_reducible refine And.intro (by omega) ?_ | with_reducible refine optK_if (by omega) ?_ | with_reducible refine optD_if (by omega) ?_ | simp (disch := omega) only [wrap_i64, if_pos, if_neg] | with_reducible refine gsel_pure (by with_unfolding_all rfl) _ (fun hg => by (try simp at hg); simp [hg, hh]; rfl) ?_ | with_reducible refine dsel_pure (by with_unfolding_all rfl) _ (fun hg => by (try simp at hg); simp [hg, hh]; rfl) ?_ | with_reducible refine awp_draw (by kernel_rfl) (by decide +kernel) ?_)
    refine gop_call (hS) (by (first | simp [hh] | simp (disch := omega) [hh, wrap_i64]); try rfl) (by simp) (by simp) ?_
    repeat (first | simp [hh] | with_reducible refine And.intro (by omega) ?_ | with_reducible refine optK_if (by omega) ?_ | with_reducible refine optD_if (by omega) ?_ | simp (disch := omega) only [wrap_i64, if_pos, if_neg] | with_reducible refine gsel_pure (by with_unfolding_all rfl) _ (fun hg => by (try simp at hg); simp [hg, hh]; rfl) ?_ | with_reducible refine dsel_pure (by with_unfolding_all rfl) _ (fun hg => by (try simp at hg); simp [hg, hh]; rfl) ?_ | with_reducible refine awp_draw (by kernel_rfl) (by decide +kernel) ?_)
    refine gop_call' (hC) (by (first | simp [hh] | simp (disch := omega) [hh, wrap_i64]); try rfl) (by simp) (by simp) ?_
    repeat (first | simp [hh, hf] | with_reducible refine And.intro (by omega) ?_ | with_reducible refine optK_if (by omega) ?_ | with_reducible refine optD_if (by omega) ?_ | simp (disch := omega) only [wrap_i64, if_pos, if_neg] | with_reducible refine gsel_pure (by with_unfolding_all rfl) _ (fun hg => by (try simp at hg); simp [hg, hh, hf]; rfl) ?_ | with_reducible refine dsel_pure (by with_unfolding_all rfl) _ (fun hg => by (try simp at hg); simp [hg, hh, hf]; rfl) ?_ | with_reducible refine awp_draw (by kernel_rfl) (by decide +kernel) ?_)
    refine gop_call' (hD) (by (first | simp [hh] | simp (disch := omega) [hh, wrap_i64]); try rfl) (by simp) (by simp) ?_
    repeat (first | simp [hh, hf] | with_reducible refine And.intro (by omega) ?_ | with_reducible refine optK_if (by omega) ?_ | with_reducible refine optD_if (by omega) ?_ | simp (disch := omega) only [wrap_i64, if_pos, if_neg] | with_reducible refine gsel_pure (by with_unfolding_all rfl) _ (fun hg => by (try simp at hg); simp [hg, hh, hf]; rfl) ?_ | with_reducible refine dsel_pure (by with_unfolding_all rfl) _ (fun hg => by (try simp at hg); simp [hg, hh, hf]; rfl) ?_ | with_reducible refine awp_draw (by kernel_rfl) (by decide +kernel) ?_)
    refine gop_call (hI) (by (first | simp [hh] | simp (disch := omega) [hh, wrap_i64]); try rfl) (by simp) (by simp) ?_
    repeat (first | simp [hh] | with_reducible refine And.intro (by omega) ?_ | with_reducible refine optK_if (by omega) ?_ | with_reducible refine optD_if (by omega) ?_ | simp (disch := omega) only [wrap_i64, if_pos, if_neg] | with_reducible refine gsel_pure (by with_unfolding_all rfl) _ (fun hg => by (try simp at hg); simp [hg, hh]; rfl) ?_ | with_reducible refine dsel_pure (by with_unfolding_all rfl) _ (fun hg => by (try simp at hg); simp [hg, hh]; rfl) ?_ | with_reducible refine awp_draw (by kernel_rfl) (by decide +kernel) ?_)
    refine gop_call (at_example) (by (first | simp [hh] | simp (disch := omega) [hh, wrap_i64]); try rfl) (by simp) (by simp) ?_
    repeat (first | simp [hh] | with_reducible refine And.intro (by omega) ?_ | with_reducible refine optK_if (by omega) ?_ | with_reducible refine optD_if (by omega) ?_ | simp (disch := omega) only [wrap_i64, if_pos, if_neg] | with_reducible refine gsel_pure (by with_unfolding_all rfl) _ (fun hg => by (try simp at hg); simp [hg, hh]; rfl) ?_ | with_reducible refine dsel_pure (by with_unfolding_all rfl) _ (fun hg => by (try simp at hg); simp [hg, hh]; rfl) ?_ | with_reducible refine awp_draw (by kernel_rfl) (by decide +kernel) ?_)
    refine hQ _ _ (ret2 (by simp [retAV, resAV]; rfl) (by simp; rfl) ?_)
    rfl
end Go.Proofs
end
section
set_option linter.all false
namespace Go.Proofs
open Go.Fw Go.Dr
set_option maxRecDepth 100000
theorem cvD_inst {H : Type} {n : Nat} {d : DataW H} {c : List CV} (h : cvD Tryd.prog n 71 d = some c) : ∃ i : I8, c = i.cvs := by
  obtain ⟨m, l, rfl, rfl, hl, h⟩ := cvD_struct Tryd.underlying71 h
  have hl : l.length = 8 := hl
  match l, hl with
  | [d0, d1, d2, d3, d4, d5, d6, d7], _ =>
    simp only [List.zipWith] at h
    obtain ⟨a0, b0, h0, k1, rfl⟩ := concatM_cons h
    obtain ⟨a1, b1, h1, k2, rfl⟩ := concatM_cons k1
    obtain ⟨a2, b2, h2, k3, rfl⟩ := concatM_cons k2
    obtain ⟨a3, b3, h3, k4, rfl⟩ := concatM_cons k3
    obtain ⟨a4, b4, h4, k5, rfl⟩ := concatM_cons k4
    obtain ⟨a5, b5, h5, k6, rfl⟩ := concatM_cons k5
    obtain ⟨a6, b6, h6, k7, rfl⟩ := concatM_cons k6
    obtain ⟨a7, b7, h7, k8, rfl⟩ := concatM_cons k7
    obtain rfl := concatM_nil k8
    obtain ⟨x0, rfl⟩ := cvD_int Tryd.underlying67 h0
    obtain ⟨x1, rfl⟩ := cvD_int Tryd.underlying3 h1
    obtain ⟨x2, rfl⟩ := cvD_int Tryd.underlying3 h2
    obtain ⟨x3, rfl⟩ := cvD_int Tryd.underlying3 h3
    obtain ⟨x4, rfl⟩ := cvD_int Tryd.underlying3 h4
    obtain ⟨x5, rfl⟩ := cvD_int Tryd.underlying3 h5
    obtain ⟨x6, rfl⟩ := cvD_int Tryd.underlying68 h6
    obtain ⟨x7, rfl⟩ := cvD_int Tryd.underlying69 h7
    exact ⟨⟨x0, x1, x2, x3, x4, x5, x6, x7⟩, rfl⟩
theorem cvD_func {H : Type} {n : Nat} {d : DataW H} {c : List CV} (h : cvD Tryd.prog n 24 d = some c) : ∃ (name : ByteArray) (l : List I8), c = [sC name, .sl l.length (codeC l)] := by
  obtain ⟨m, l, rfl, rfl, hl, h⟩ := cvD_struct Tryd.underlying24 h
  have hl : l.length = 2 := hl
  match l, hl with
  | [d0, d1], _ =>
    simp only [List.zipWith] at h
    obtain ⟨a0, b0, h0, k1, rfl⟩ := concatM_cons h
    obtain ⟨a1, b1, h1, k2, rfl⟩ := concatM_cons k1
    obtain rfl := concatM_nil k2
    obtain ⟨x0, rfl⟩ := cvD_string Tryd.underlying9 h0
    obtain ⟨L, rfl⟩ := cvD_slice (g := I8.cvs) Tryd.underlying22 (fun n d c h => cvD_inst h) h1
    exact ⟨x0, L, rfl⟩
end Go.Proofs
namespace Go.Proofs
open Go.Fw Go.Dr
set_option maxRecDepth 100000 in
theorem open24_Tryd {H : Type} {enc : TypeId × Value → H} {W : World} {sp : Nat → Bool} {held : Bool} {v : Value} {d : DataW H} {p : List MemPlace} {r : Go.Reach} {b0 : Nat} (hv : Value.okWide Tryd.prog W r b0 24 v) (h : DataW.Trod enc Tryd.prog W 0 sp held 24 v d p) :
    ∃ (name : ByteArray) (l : List I8), AVRep W noneF (beta0 fun _ => False) v (fAV name l) := by
  obtain ⟨cvs, e, hr⟩ := rep_struct (m := 5) Tryd.underlying24 (by kernel_rfl) hv h
  obtain ⟨name, l, rfl⟩ := cvD_func e
  exact ⟨name, l, hr⟩
theorem gRows_Tryd : Tryd.prog.globalNamed "modelcheck/inst.rows" = some 0 := by kernel_rfl
theorem gNames_Tryd : Tryd.prog.globalNamed "modelcheck/value.names" = some 1 := by kernel_rfl
theorem tRows_Tryd : (Tryd.prog.globals[0]?).map (·.type) = some 145 := by kernel_rfl
theorem tNames_Tryd : (Tryd.prog.globals[1]?).map (·.type) = some 161 := by kernel_rfl
set_option maxRecDepth 100000 in
theorem cvRows_Tryd : cvD Tryd.prog 5 145 (YtgcinmhiohlmiaaDoor.Rows.laid_modelcheck_inst_rows (H := Unit)) = some rowsC := by kernel_rfl
set_option maxRecDepth 100000 in
theorem cvNames_Tryd : cvD Tryd.prog 5 161 (YtgcinmhiohlmiaaDoor.Rows.laid_modelcheck_value_names (H := Unit)) = some namesC := by kernel_rfl
set_option maxRecDepth 100000 in
theorem globs_Tryd {W : World} (laid : List (String × DataW Unit)) (he : laid = [("modelcheck/value.names", YtgcinmhiohlmiaaDoor.Rows.laid_modelcheck_value_names), ("modelcheck/inst.rows", YtgcinmhiohlmiaaDoor.Rows.laid_modelcheck_inst_rows)])
    (h : laidMetH Tryd.prog laid W) : ∀ g cs, Globals.G g = some cs → AVRep W noneF (beta0 fun _ => False) (.pointer (some ⟨g, 0, none⟩)) (.cell (.ep none cs 0)) := by
  subst he
  rw [MakeChecks.laidMetH_plain _ _ _ (by kernel_rfl)] at h
  obtain ⟨ps, ⟨g0, t0, cs0, f0, p0, q0, hg0, ht0, hv0, hd0, ⟨g1, t1, cs1, f1, p1, q1, hg1, ht1, hv1, hd1, _, _⟩, _⟩, _, _⟩ := h
  obtain rfl := Option.some.inj (gNames_Tryd.symm.trans hg0)
  obtain rfl := Option.some.inj (gRows_Tryd.symm.trans hg1)
  obtain rfl := Option.some.inj (tNames_Tryd.symm.trans ht0)
  obtain rfl := Option.some.inj (tRows_Tryd.symm.trans ht1)
  intro g cs hgc
  have hgc : (if g = 0 then some rowsC else if g = 1 then some namesC else none) = some cs := hgc
  split at hgc
  · rename_i e
    subst e
    cases hgc
    exact rep_global (m := 5) (t := 145) (by kernel_rfl) hd1 cvRows_Tryd fun j => by simpa using World.var?_cell hg1 hv1 j
  · split at hgc
    · rename_i e
      subst e
      cases hgc
      exact rep_global (m := 5) (t := 161) (by kernel_rfl) hd0 cvNames_Tryd fun j => by simpa using World.var?_cell hg0 hv0 j
    · cases hgc
end Go.Proofs
end
