/- Contracts of functions, by their numbers, and the laws that walk them. Conditions: as each states. -/
import Derived.Test.YtgcinmhiohlmiaaDoorG5
set_option linter.all false
section
set_option linter.all false
namespace Go.Proofs
open Go.Fw Go.Dr
set_option maxRecDepth 100000
theorem at_intsz : At Tryd.prog 17 [.cell .z, .cell .z] (bV true) := at_unz rfl (at_ints [] [] (by simp))
theorem at_lawNext (name : ByteArray) (l : List I8) (k : Int) : At Tryd.prog 3 [fAV name l, iV .i64 k] (bV true) := by
  have hA := at_next name l k
  have hB := at_r12next name l k
  generalize (if funcE l = 0 then (if 0 ≤ k ∧ k < l.length then 0 else 2) else funcE l) = e at hA hB
  by_cases hc : funcE l = 0 ∧ 0 ≤ k ∧ k < l.length
  · rw [if_pos hc] at hA hB
    have hsl := sucs_len l k.toNat
    have hI := at_ints (natI (sucs l k.toNat)) (natI (sucs l k.toNat)) (by simp; omega)
    refine at_code mixed Tryd.func3 (by kernel_rfl) rfl (by kernel_rfl) (by kernel_rfl) rfl fun Q hQ => ?_
    repeat (first | simp | with_reducible refine And.intro (by omega) ?_ | with_reducible refine optK_if (by omega) ?_ | with_reducible refine optD_if (by omega) ?_ | simp (disch := omega) only [wrap_i64, if_pos, if_neg] | with_reducible refine gsel_pure (by with_unfolding_all rfl) _ (fun hg => by (try simp at hg); simp [hg]; rfl) ?_ | with_reducible refine dsel_pure (by with_unfolding_all rfl) _ (fun hg => by (try simp at hg); simp [hg]; rfl) ?_ | with_reducible refine awp_draw (by kernel_rfl) (by decide +kernel) ?_)
    (with_reducible refine condK_intro (fun hh => ?_) (fun hh => ?_)) <;> (try simp only [hh]) <;> (try simp [andB, orB, eqI, ltI, Int.natCast_inj] at hh)
    · repeat (first | simp [hh] | with_reducible refine And.intro (by omega) ?_ | with_reducible refine optK_if (by omega) ?_ | with_reducible refine optD_if (by omega) ?_ | simp (disch := omega) only [wrap_i64, if_pos, if_neg] | with_reducible refine gsel_pure (by with_unfolding_all rfl) _ (fun hg => by (try simp at hg); simp [hg, hh]; rfl) ?_ | with_reducible refine dsel_pure (by with_unfolding_all rfl) _ (fun hg => by (try simp at hg); simp [hg, hh]; rfl) ?_ | with_reducible refine awp_draw (by kernel_rfl) (by decide +kernel) ?_)
      refine gop_call (at_example) (by (first | simp [hh] | simp (disch := omega) [hh, wrap_i64]); try rfl) (by simp) (by simp) ?_
      repeat (first | simp [hh] | with_reducible refine And.intro (by omega) ?_ | with_reducible refine optK_if (by omega) ?_ | with_reducible refine optD_if (by omega) ?_ | simp (disch := omega) only [wrap_i64, if_pos, if_neg] | with_reducible refine gsel_pure (by with_unfolding_all rfl) _ (fun hg => by (try simp at hg); simp [hg, hh]; rfl) ?_ | with_reducible refine dsel_pure (by with_unfolding_all rfl) _ (fun hg => by (try simp at hg); simp [hg, hh]; rfl) ?_ | with_reducible refine awp_draw (by kernel_rfl) (by decide +kernel) ?_)
      refine hQ _ _ (ret2 (by simp [retAV, resAV]; rfl) (by simp; rfl) ?_)
      rfl
    · repeat (first | simp [hh] | with_reducible refine And.intro (by omega) ?_ | with_reducible refine optK_if (by omega) ?_ | with_reducible refine optD_if (by omega) ?_ | simp (disch := omega) only [wrap_i64, if_pos, if_neg] | with_reducible refine gsel_pure (by with_unfolding_all rfl) _ (fun hg => by (try simp at hg); simp [hg, hh]; rfl) ?_ | with_reducible refine dsel_pure (by with_unfolding_all rfl) _ (fun hg => by (try simp at hg); simp [hg, hh]; rfl) ?_ | with_reducible refine awp_draw (by kernel_rfl) (by decide +kernel) ?_)
      refine gop_call' (hA) (by (first | simp [hh] | simp (disch := omega) [hh, wrap_i64]); try rfl) (by simp) (by simp) ?_
      repeat (first | simp [hh] | with_reducible refine And.intro (by omega) ?_ | with_reducible refine optK_if (by omega) ?_ | with_reducible refine optD_if (by omega) ?_ | simp (disch := omega) only [wrap_i64, if_pos, if_neg] | with_reducible refine gsel_pure (by with_unfolding_all rfl) _ (fun hg => by (try simp at hg); simp [hg, hh]; rfl) ?_ | with_reducible refine dsel_pure (by with_unfolding_all rfl) _ (fun hg => by (try simp at hg); simp [hg, hh]; rfl) ?_ | with_reducible refine awp_draw (by kernel_rfl) (by decide +kernel) ?_)
      refine gop_call' (hB) (by (first | simp [hh] | simp (disch := omega) [hh, wrap_i64]); try rfl) (by simp) (by simp) ?_
      repeat (first | simp [hh] | with_reducible refine And.intro (by omega) ?_ | with_reducible refine optK_if (by omega) ?_ | with_reducible refine optD_if (by omega) ?_ | simp (disch := omega) only [wrap_i64, if_pos, if_neg] | with_reducible refine gsel_pure (by with_unfolding_all rfl) _ (fun hg => by (try simp at hg); simp [hg, hh]; rfl) ?_ | with_reducible refine dsel_pure (by with_unfolding_all rfl) _ (fun hg => by (try simp at hg); simp [hg, hh]; rfl) ?_ | with_reducible refine awp_draw (by kernel_rfl) (by decide +kernel) ?_)
      refine gop_call (hI) (by (first | simp [hh] | simp (disch := omega) [hh, wrap_i64]); try rfl) (by simp) (by simp) ?_
      repeat (first | simp [hh] | with_reducible refine And.intro (by omega) ?_ | with_reducible refine optK_if (by omega) ?_ | with_reducible refine optD_if (by omega) ?_ | simp (disch := omega) only [wrap_i64, if_pos, if_neg] | with_reducible refine gsel_pure (by with_unfolding_all rfl) _ (fun hg => by (try simp at hg); simp [hg, hh]; rfl) ?_ | with_reducible refine dsel_pure (by with_unfolding_all rfl) _ (fun hg => by (try simp at hg); simp [hg, hh]; rfl) ?_ | with_reducible refine awp_draw (by kernel_rfl) (by decide +kernel) ?_)
      refine gop_call (at_example) (by (first | simp [hh] | simp (disch := omega) [hh, wrap_i64]); try rfl) (by simp) (by simp) ?_
      repeat (first | simp [hh] | with_reducible refine And.intro (by omega) ?_ | with_reducible refine optK_if (by omega) ?_ | with_reducible refine optD_if (by omega) ?_ | simp (disch := omega) only [wrap_i64, if_pos, if_neg] | with_reducible refine gsel_pure (by with_unfolding_all rfl) _ (fun hg => by (try simp at hg); simp [hg, hh]; rfl) ?_ | with_reducible refine dsel_pure (by with_unfolding_all rfl) _ (fun hg => by (try simp at hg); simp [hg, hh]; rfl) ?_ | with_reducible refine awp_draw (by kernel_rfl) (by decide +kernel) ?_)
      refine hQ _ _ (ret2 (by simp [retAV, resAV]; rfl) (by simp; rfl) ?_)
      simp
  · rw [if_neg hc] at hA hB
    refine at_code mixed Tryd.func3 (by kernel_rfl) rfl (by kernel_rfl) (by kernel_rfl) rfl fun Q hQ => ?_
    repeat (first | simp | with_reducible refine And.intro (by omega) ?_ | with_reducible refine optK_if (by omega) ?_ | with_reducible refine optD_if (by omega) ?_ | simp (disch := omega) only [wrap_i64, if_pos, if_neg] | with_reducible refine gsel_pure (by with_unfolding_all rfl) _ (fun hg => by (try simp at hg); simp [hg]; rfl) ?_ | with_reducible refine dsel_pure (by with_unfolding_all rfl) _ (fun hg => by (try simp at hg); simp [hg]; rfl) ?_ | with_reducible refine awp_draw (by kernel_rfl) (by decide +kernel) ?_)
    (with_reducible refine condK_intro (fun hh => ?_) (fun hh => ?_)) <;> (try simp only [hh]) <;> (try simp [andB, orB, eqI, ltI, Int.natCast_inj] at hh)
    · repeat (first | simp [hh] | with_reducible refine And.intro (by omega) ?_ | with_reducible refine optK_if (by omega) ?_ | with_reducible refine optD_if (by omega) ?_ | simp (disch := omega) only [wrap_i64, if_pos, if_neg] | with_reducible refine gsel_pure (by with_unfolding_all rfl) _ (fun hg => by (try simp at hg); simp [hg, hh]; rfl) ?_ | with_reducible refine dsel_pure (by with_unfolding_all rfl) _ (fun hg => by (try simp at hg); simp [hg, hh]; rfl) ?_ | with_reducible refine awp_draw (by kernel_rfl) (by decide +kernel) ?_)
      refine gop_call (at_example) (by (first | simp [hh] | simp (disch := omega) [hh, wrap_i64]); try rfl) (by simp) (by simp) ?_
      repeat (first | simp [hh] | with_reducible refine And.intro (by omega) ?_ | with_reducible refine optK_if (by omega) ?_ | with_reducible refine optD_if (by omega) ?_ | simp (disch := omega) only [wrap_i64, if_pos, if_neg] | with_reducible refine gsel_pure (by with_unfolding_all rfl) _ (fun hg => by (try simp at hg); simp [hg, hh]; rfl) ?_ | with_reducible refine dsel_pure (by with_unfolding_all rfl) _ (fun hg => by (try simp at hg); simp [hg, hh]; rfl) ?_ | with_reducible refine awp_draw (by kernel_rfl) (by decide +kernel) ?_)
      refine hQ _ _ (ret2 (by simp [retAV, resAV]; rfl) (by simp; rfl) ?_)
      rfl
    · repeat (first | simp [hh] | with_reducible refine And.intro (by omega) ?_ | with_reducible refine optK_if (by omega) ?_ | with_reducible refine optD_if (by omega) ?_ | simp (disch := omega) only [wrap_i64, if_pos, if_neg] | with_reducible refine gsel_pure (by with_unfolding_all rfl) _ (fun hg => by (try simp at hg); simp [hg, hh]; rfl) ?_ | with_reducible refine dsel_pure (by with_unfolding_all rfl) _ (fun hg => by (try simp at hg); simp [hg, hh]; rfl) ?_ | with_reducible refine awp_draw (by kernel_rfl) (by decide +kernel) ?_)
      refine gop_call (hA) (by (first | simp [hh] | simp (disch := omega) [hh, wrap_i64]); try rfl) (by simp) (by simp) ?_
      repeat (first | simp [hh] | with_reducible refine And.intro (by omega) ?_ | with_reducible refine optK_if (by omega) ?_ | with_reducible refine optD_if (by omega) ?_ | simp (disch := omega) only [wrap_i64, if_pos, if_neg] | with_reducible refine gsel_pure (by with_unfolding_all rfl) _ (fun hg => by (try simp at hg); simp [hg, hh]; rfl) ?_ | with_reducible refine dsel_pure (by with_unfolding_all rfl) _ (fun hg => by (try simp at hg); simp [hg, hh]; rfl) ?_ | with_reducible refine awp_draw (by kernel_rfl) (by decide +kernel) ?_)
      refine gop_call (hB) (by (first | simp [hh] | simp (disch := omega) [hh, wrap_i64]); try rfl) (by simp) (by simp) ?_
      repeat (first | simp [hh] | with_reducible refine And.intro (by omega) ?_ | with_reducible refine optK_if (by omega) ?_ | with_reducible refine optD_if (by omega) ?_ | simp (disch := omega) only [wrap_i64, if_pos, if_neg] | with_reducible refine gsel_pure (by with_unfolding_all rfl) _ (fun hg => by (try simp at hg); simp [hg, hh]; rfl) ?_ | with_reducible refine dsel_pure (by with_unfolding_all rfl) _ (fun hg => by (try simp at hg); simp [hg, hh]; rfl) ?_ | with_reducible refine awp_draw (by kernel_rfl) (by decide +kernel) ?_)
      refine gop_call (at_intsz) (by (first | simp [hh] | simp (disch := omega) [hh, wrap_i64]); try rfl) (by simp) (by simp) ?_
      repeat (first | simp [hh] | with_reducible refine And.intro (by omega) ?_ | with_reducible refine optK_if (by omega) ?_ | with_reducible refine optD_if (by omega) ?_ | simp (disch := omega) only [wrap_i64, if_pos, if_neg] | with_reducible refine gsel_pure (by with_unfolding_all rfl) _ (fun hg => by (try simp at hg); simp [hg, hh]; rfl) ?_ | with_reducible refine dsel_pure (by with_unfolding_all rfl) _ (fun hg => by (try simp at hg); simp [hg, hh]; rfl) ?_ | with_reducible refine awp_draw (by kernel_rfl) (by decide +kernel) ?_)
      refine gop_call (at_example) (by (first | simp [hh] | simp (disch := omega) [hh, wrap_i64]); try rfl) (by simp) (by simp) ?_
      repeat (first | simp [hh] | with_reducible refine And.intro (by omega) ?_ | with_reducible refine optK_if (by omega) ?_ | with_reducible refine optD_if (by omega) ?_ | simp (disch := omega) only [wrap_i64, if_pos, if_neg] | with_reducible refine gsel_pure (by with_unfolding_all rfl) _ (fun hg => by (try simp at hg); simp [hg, hh]; rfl) ?_ | with_reducible refine dsel_pure (by with_unfolding_all rfl) _ (fun hg => by (try simp at hg); simp [hg, hh]; rfl) ?_ | with_reducible refine awp_draw (by kernel_rfl) (by decide +kernel) ?_)
      refine hQ _ _ (ret2 (by simp [retAV, resAV]; rfl) (by simp; rfl) ?_)
      simp
theorem at_lawLeaders (name : ByteArray) (l : List I8) : At Tryd.prog 4 [fAV name l] (bV true) := by
  have hA := at_leaders name l
  have hB := at_r12leaders name l
  by_cases hc : funcE l = 0
  · rw [if_pos hc] at hA hB
    have hlen := (okL hc).len
    have hsl := sortL_len (leadK l l.length) l.length
    have hI := at_ints (natI (sortL (leadK l l.length) l.length)) (natI (sortL (leadK l l.length) l.length)) (by simp; omega)
    refine at_code mixed Tryd.func4 (by kernel_rfl) rfl (by kernel_rfl) (by kernel_rfl) rfl fun Q hQ => ?_
    repeat (first | simp | with_reducible refine And.intro (by omega) ?_ | with_reducible refine optK_if (by omega) ?_ | with_reducible refine optD_if (by omega) ?_ | simp (disch := omega) only [wrap_i64, if_pos, if_neg] | with_reducible refine gsel_pure (by with_unfolding_all rfl) _ (fun hg => by (try simp at hg); simp [hg]; rfl) ?_ | with_reducible refine dsel_pure (by with_unfolding_all rfl) _ (fun hg => by (try simp at hg); simp [hg]; rfl) ?_ | with_reducible refine awp_draw (by kernel_rfl) (by decide +kernel) ?_)
    (with_reducible refine condK_intro (fun hh => ?_) (fun hh => ?_)) <;> (try simp only [hh]) <;> (try simp [andB, orB, eqI, ltI, Int.natCast_inj] at hh)
    · repeat (first | simp [hh] | with_reducible refine And.intro (by omega) ?_ | with_reducible refine optK_if (by omega) ?_ | with_reducible refine optD_if (by omega) ?_ | simp (disch := omega) only [wrap_i64, if_pos, if_neg] | with_reducible refine gsel_pure (by with_unfolding_all rfl) _ (fun hg => by (try simp at hg); simp [hg, hh]; rfl) ?_ | with_reducible refine dsel_pure (by with_unfolding_all rfl) _ (fun hg => by (try simp at hg); simp [hg, hh]; rfl) ?_ | with_reducible refine awp_draw (by kernel_rfl) (by decide +kernel) ?_)
      refine gop_call (at_example) (by (first | simp [hh] | simp (disch := omega) [hh, wrap_i64]); try rfl) (by simp) (by simp) ?_
      repeat (first | simp [hh] | with_reducible refine And.intro (by omega) ?_ | with_reducible refine optK_if (by omega) ?_ | with_reducible refine optD_if (by omega) ?_ | simp (disch := omega) only [wrap_i64, if_pos, if_neg] | with_reducible refine gsel_pure (by with_unfolding_all rfl) _ (fun hg => by (try simp at hg); simp [hg, hh]; rfl) ?_ | with_reducible refine dsel_pure (by with_unfolding_all rfl) _ (fun hg => by (try simp at hg); simp [hg, hh]; rfl) ?_ | with_reducible refine awp_draw (by kernel_rfl) (by decide +kernel) ?_)
      refine hQ _ _ (ret2 (by simp [retAV, resAV]; rfl) (by simp; rfl) ?_)
      rfl
    · repeat (first | simp [hh] | with_reducible refine And.intro (by omega) ?_ | with_reducible refine optK_if (by omega) ?_ | with_reducible refine optD_if (by omega) ?_ | simp (disch := omega) only [wrap_i64, if_pos, if_neg] | with_reducible refine gsel_pure (by with_unfolding_all rfl) _ (fun hg => by (try simp at hg); simp [hg, hh]; rfl) ?_ | with_reducible refine dsel_pure (by with_unfolding_all rfl) _ (fun hg => by (try simp at hg); simp [hg, hh]; rfl) ?_ | with_reducible refine awp_draw (by kernel_rfl) (by decide +kernel) ?_)
      refine gop_call' (hA) (by (first | simp [hh] | simp (disch := omega) [hh, wrap_i64]); try rfl) (by simp) (by simp) ?_
      repeat (first | simp [hh] | with_reducible refine And.intro (by omega) ?_ | with_reducible refine optK_if (by omega) ?_ | with_reducible refine optD_if (by omega) ?_ | simp (disch := omega) only [wrap_i64, if_pos, if_neg] | with_reducible refine gsel_pure (by with_unfolding_all rfl) _ (fun hg => by (try simp at hg); simp [hg, hh]; rfl) ?_ | with_reducible refine dsel_pure (by with_unfolding_all rfl) _ (fun hg => by (try simp at hg); simp [hg, hh]; rfl) ?_ | with_reducible refine awp_draw (by kernel_rfl) (by decide +kernel) ?_)
      refine gop_call' (hB) (by (first | simp [hh] | simp (disch := omega) [hh, wrap_i64]); try rfl) (by simp) (by simp) ?_
      repeat (first | simp [hh] | with_reducible refine And.intro (by omega) ?_ | with_reducible refine optK_if (by omega) ?_ | with_reducible refine optD_if (by omega) ?_ | simp (disch := omega) only [wrap_i64, if_pos, if_neg] | with_reducible refine gsel_pure (by with_unfolding_all rfl) _ (fun hg => by (try simp at hg); simp [hg, hh]; rfl) ?_ | with_reducible refine dsel_pure (by with_unfolding_all rfl) _ (fun hg => by (try simp at hg); simp [hg, hh]; rfl) ?_ | with_reducible refine awp_draw (by kernel_rfl) (by decide +kernel) ?_)
      refine gop_call (hI) (by (first | simp [hh] | simp (disch := omega) [hh, wrap_i64]); try rfl) (by simp) (by simp) ?_
      repeat (first | simp [hh] | with_reducible refine And.intro (by omega) ?_ | with_reducible refine optK_if (by omega) ?_ | with_reducible refine optD_if (by omega) ?_ | simp (disch := omega) only [wrap_i64, if_pos, if_neg] | with_reducible refine gsel_pure (by with_unfolding_all rfl) _ (fun hg => by (try simp at hg); simp [hg, hh]; rfl) ?_ | with_reducible refine dsel_pure (by with_unfolding_all rfl) _ (fun hg => by (try simp at hg); simp [hg, hh]; rfl) ?_ | with_reducible refine awp_draw (by kernel_rfl) (by decide +kernel) ?_)
      refine gop_call (at_example) (by (first | simp [hh] | simp (disch := omega) [hh, wrap_i64]); try rfl) (by simp) (by simp) ?_
      repeat (first | simp [hh] | with_reducible refine And.intro (by omega) ?_ | with_reducible refine optK_if (by omega) ?_ | with_reducible refine optD_if (by omega) ?_ | simp (disch := omega) only [wrap_i64, if_pos, if_neg] | with_reducible refine gsel_pure (by with_unfolding_all rfl) _ (fun hg => by (try simp at hg); simp [hg, hh]; rfl) ?_ | with_reducible refine dsel_pure (by with_unfolding_all rfl) _ (fun hg => by (try simp at hg); simp [hg, hh]; rfl) ?_ | with_reducible refine awp_draw (by kernel_rfl) (by decide +kernel) ?_)
      refine hQ _ _ (ret2 (by simp [retAV, resAV]; rfl) (by simp; rfl) ?_)
      simp
  · rw [if_neg hc] at hA hB
    refine at_code mixed Tryd.func4 (by kernel_rfl) rfl (by kernel_rfl) (by kernel_rfl) rfl fun Q hQ => ?_
    repeat (first | simp | with_reducible refine And.intro (by omega) ?_ | with_reducible refine optK_if (by omega) ?_ | with_reducible refine optD_if (by omega) ?_ | simp (disch := omega) only [wrap_i64, if_pos, if_neg] | with_reducible refine gsel_pure (by with_unfolding_all rfl) _ (fun hg => by (try simp at hg); simp [hg]; rfl) ?_ | with_reducible refine dsel_pure (by with_unfolding_all rfl) _ (fun hg => by (try simp at hg); simp [hg]; rfl) ?_ | with_reducible refine awp_draw (by kernel_rfl) (by decide +kernel) ?_)
    (with_reducible refine condK_intro (fun hh => ?_) (fun hh => ?_)) <;> (try simp only [hh]) <;> (try simp [andB, orB, eqI, ltI, Int.natCast_inj] at hh)
    · repeat (first | simp [hh] | with_reducible refine And.intro (by omega) ?_ | with_reducible refine optK_if (by omega) ?_ | with_reducible refine optD_if (by omega) ?_ | simp (disch := omega) only [wrap_i64, if_pos, if_neg] | with_reducible refine gsel_pure (by with_unfolding_all rfl) _ (fun hg => by (try simp at hg); simp [hg, hh]; rfl) ?_ | with_reducible refine dsel_pure (by with_unfolding_all rfl) _ (fun hg => by (try simp at hg); simp [hg, hh]; rfl) ?_ | with_reducible refine awp_draw (by kernel_rfl) (by decide +kernel) ?_)
      refine gop_call (at_example) (by (first | simp [hh] | simp (disch := omega) [hh, wrap_i64]); try rfl) (by simp) (by simp) ?_
      repeat (first | simp [hh] | with_reducible refine And.intro (by omega) ?_ | with_reducible refine optK_if (by omega) ?_ | with_reducible refine optD_if (by omega) ?_ | simp (disch := omega) only [wrap_i64, if_pos, if_neg] | with_reducible refine gsel_pure (by with_unfolding_all rfl) _ (fun hg => by (try simp at hg); simp [hg, hh]; rfl) ?_ | with_reducible refine dsel_pure (by with_unfolding_all rfl) _ (fun hg => by (try simp at hg); simp [hg, hh]; rfl) ?_ | with_reducible refine awp_draw (by kernel_rfl) (by decide +kernel) ?_)
      refine hQ _ _ (ret2 (by simp [retAV, resAV]; rfl) (by simp; rfl) ?_)
      rfl
    · repeat (first | simp [hh] | with_reducible refine And.intro (by omega) ?_ | with_reducible refine optK_if (by omega) ?_ | with_reducible refine optD_if (by omega) ?_ | simp (disch := omega) only [wrap_i64, if_pos, if_neg] | with_reducible refine gsel_pure (by with_unfolding_all rfl) _ (fun hg => by (try simp at hg); simp [hg, hh]; rfl) ?_ | with_reducible refine dsel_pure (by with_unfolding_all rfl) _ (fun hg => by (try simp at hg); simp [hg, hh]; rfl) ?_ | with_reducible refine awp_draw (by kernel_rfl) (by decide +kernel) ?_)
      refine gop_call (hA) (by (first | simp [hh] | simp (disch := omega) [hh, wrap_i64]); try rfl) (by simp) (by simp) ?_
      repeat (first | simp [hh] | with_reducible refine And.intro (by omega) ?_ | with_reducible refine optK_if (by omega) ?_ | with_reducible refine optD_if (by omega) ?_ | simp (disch := omega) only [wrap_i64, if_pos, if_neg] | with_reducible refine gsel_pure (by with_unfolding_all rfl) _ (fun hg => by (try simp at hg); simp [hg, hh]; rfl) ?_ | with_reducible refine dsel_pure (by with_unfolding_all rfl) _ (fun hg => by (try simp at hg); simp [hg, hh]; rfl) ?_ | with_reducible refine awp_draw (by kernel_rfl) (by decide +kernel) ?_)
      refine gop_call (hB) (by (first | simp [hh] | simp (disch := omega) [hh, wrap_i64]); try rfl) (by simp) (by simp) ?_
      repeat (first | simp [hh] | with_reducible refine And.intro (by omega) ?_ | with_reducible refine optK_if (by omega) ?_ | with_reducible refine optD_if (by omega) ?_ | simp (disch := omega) only [wrap_i64, if_pos, if_neg] | with_reducible refine gsel_pure (by with_unfolding_all rfl) _ (fun hg => by (try simp at hg); simp [hg, hh]; rfl) ?_ | with_reducible refine dsel_pure (by with_unfolding_all rfl) _ (fun hg => by (try simp at hg); simp [hg, hh]; rfl) ?_ | with_reducible refine awp_draw (by kernel_rfl) (by decide +kernel) ?_)
      refine gop_call (at_intsz) (by (first | simp [hh] | simp (disch := omega) [hh, wrap_i64]); try rfl) (by simp) (by simp) ?_
      repeat (first | simp [hh] | with_reducible refine And.intro (by omega) ?_ | with_reducible refine optK_if (by omega) ?_ | with_reducible refine optD_if (by omega) ?_ | simp (disch := omega) only [wrap_i64, if_pos, if_neg] | with_reducible refine gsel_pure (by with_unfolding_all rfl) _ (fun hg => by (try simp at hg); simp [hg, hh]; rfl) ?_ | with_reducible refine dsel_pure (by with_unfolding_all rfl) _ (fun hg => by (try simp at hg); simp [hg, hh]; rfl) ?_ | with_reducible refine awp_draw (by kernel_rfl) (by decide +kernel) ?_)
      refine gop_call (at_example) (by (first | simp [hh] | simp (disch := omega) [hh, wrap_i64]); try rfl) (by simp) (by simp) ?_
      repeat (first | simp [hh] | with_reducible refine And.intro (by omega) ?_ | with_reducible refine optK_if (by omega) ?_ | with_reducible refine optD_if (by omega) ?_ | simp (disch := omega) only [wrap_i64, if_pos, if_neg] | with_reducible refine gsel_pure (by with_unfolding_all rfl) _ (fun hg => by (try simp at hg); simp [hg, hh]; rfl) ?_ | with_reducible refine dsel_pure (by with_unfolding_all rfl) _ (fun hg => by (try simp at hg); simp [hg, hh]; rfl) ?_ | with_reducible refine awp_draw (by kernel_rfl) (by decide +kernel) ?_)
      refine hQ _ _ (ret2 (by simp [retAV, resAV]; rfl) (by simp; rfl) ?_)
      simp
end Go.Proofs
end
section
set_option linter.all false
namespace Go.Dr
open Go.Fw
@[simp] theorem natI_get (l : List Nat) {i : Nat} (h : i < (natI l).length) : (natI l)[i] = ((l[i]'(by simpa using h) : Nat) : Int) := by simp [natI]
abbrev boolsA (n : Nat) (S : Nat → Bool) : AV := .cell (.p (.sl n (bl n S)))
/-- The matrix of what dominates what. -/
def domM (l : List I8) (j : Nat) : Bool := domR l (j / l.length) (j % l.length)
def domP (l : List I8) (m j : Nat) : Bool := decide (j < m) && domM l j
theorem domP_set {l : List I8} {N m : Nat} {b : Bool} (h : b = domM l m) : (bl N (domP l m)).set m (bC b) = bl N (domP l (m + 1)) := by
  subst h
  rw [bl_set]
  apply bl_congr
  intro j _
  unfold upB domP
  split
  · rename_i e; subst e; simp
  · rename_i e
    have : decide (j < m + 1) = decide (j < m) := by rw [decide_eq_decide]; omega
    rw [this]
theorem domP_zero {l : List I8} {N : Nat} : bl N (domP l 0) = bl N fun _ => false := bl_congr fun j _ => by simp [domP]
theorem domP_full {l : List I8} {N : Nat} : bl N (domP l N) = bl N (domM l) := bl_congr fun j h => by simp [domP, h]
theorem domM_at {l : List I8} {d i m : Nat} (hd : d < l.length) (hi : i < l.length) (hm : m = d * l.length + i) : domM l m = domR l d i := by
  subst hm
  unfold domM
  have h1 : (d * l.length + i) / l.length = d := by
    rw [Nat.mul_comm, Nat.mul_add_div (by omega), Nat.div_eq_of_lt hi]; omega
  have h2 : (d * l.length + i) % l.length = i := by
    rw [Nat.mul_comm, Nat.mul_add_mod, Nat.mod_eq_of_lt hi]
  rw [h1, h2]
theorem mat_lt {n d i : Nat} (hd : d < n) (hi : i < n) : d * n + i < n * n := by
  have := Nat.mul_le_mul_right n (show d + 1 ≤ n from hd)
  rw [Nat.succ_mul] at this; omega
theorem mat_le {n d i : Nat} (hn : n ≤ 64) (hd : d ≤ n) (hi : i ≤ n) : d * n + i ≤ 64 * 64 + 64 := by
  have := Nat.mul_le_mul (Nat.le_trans hd hn) hn
  omega
theorem mat_wrap1 {n d : Nat} (hn : n ≤ 64) (hd : d ≤ n) : IntKind.i64.wrap ((d : Int) * (n : Int)) = (d : Int) * (n : Int) := by
  have h := mat_le hn hd (Nat.zero_le n)
  have e : (d : Int) * (n : Int) = ((d * n : Nat) : Int) := by simp
  rw [e, wrap_i64 (by omega) (by omega)]
theorem mat_wrap2 {n d i m : Nat} (hn : n ≤ 64) (hd : d ≤ n) (hi : i ≤ n) (hm : m = d * n + i) : IntKind.i64.wrap ((d : Int) * (n : Int) + (i : Int)) = (m : Int) := by
  have h := mat_le hn hd hi
  have e : (d : Int) * (n : Int) + (i : Int) = (m : Int) := by rw [hm]; simp
  rw [e, wrap_i64 (by omega) (by omega)]
def domsL (l : List I8) (k : Nat) : List Int := (List.range k).map fun (i : Nat) => idomF (domB l) i l.length
theorem domsL_len (l : List I8) (k : Nat) : (domsL l k).length = k := by simp [domsL]
theorem domsL_succ (l : List I8) (k : Nat) : domsL l (k + 1) = domsL l k ++ [idomF (domB l) k l.length] := by simp [domsL, List.range_succ]
theorem domsL_full (l : List I8) : domsL l l.length = idomL (domB l) l.length l.length := by simp [domsL, idomL]
theorem domM_B {l : List I8} {d i m : Nat} (hd : d < l.length) (hi : i < l.length) (hm : m = d * l.length + i) : domM l m = domB l d i := (domM_at hd hi hm).trans (domR_eq hd hi)
end Go.Dr
namespace Go.Proofs
open Go.Fw Go.Dr
set_option maxRecDepth 100000

set_option maxHeartbeats 2000000 in
theorem at_without (name : ByteArray) (l : List I8) (ok : OkL l) (w : Int) : At Tryd.prog 62 [fAV name l, iV .i64 w] (boolsA l.length (wOn l w)) := by
  have hlen := ok.len
  have ew : (!eqI w 0) = decide (w ≠ 0) := by by_cases h : w = 0 <;> simp [eqI, h]
  have hW0 : WP l w 0 (upB (fun _ => false) 0 (decide (w ≠ 0))) := WP.start
  refine at_pure (r := .cell (.own 0 1 l.length (bl l.length (wOn l w)))) ?_ (by simp)
  refine at_code mixed Tryd.func62 (by kernel_rfl) rfl (by kernel_rfl) (by kernel_rfl) rfl fun Q hQ => ?_
  repeat (first | simp [repC_bl] | with_reducible refine And.intro (by omega) ?_ | with_reducible refine optK_if (by omega) ?_ | with_reducible refine optD_if (by omega) ?_ | simp (disch := omega) only [wrap_i64, if_pos, if_neg] | with_reducible refine gsel_pure (by with_unfolding_all rfl) _ (fun hg => by (try simp at hg); simp [hg, repC_bl]; rfl) ?_ | with_reducible refine dsel_pure (by with_unfolding_all rfl) _ (fun hg => by (try simp at hg); simp [hg, repC_bl]; rfl) ?_ | with_reducible refine awp_draw (by kernel_rfl) (by decide +kernel) ?_)
  refine awp_loopV (fun ((p, S) : Nat × (Nat → Bool)) (s : St) => (p ≤ l.length) ∧ (WP l w p S) ∧ s.env 6 = iV .i64 p ∧ s.env 1 = iV .i64 w ∧ s.env 5 = .cell (.own 65792 1 (l.length + 1) (bl (l.length + 1) S)) ∧ s.env 2 = .cell (.ptr 0 0) ∧ s.box 0 = some ([.p (sC name), .p (.sl l.length (codeC l))])) (fun ((p, S) : Nat × (Nat → Bool)) => l.length - p) ((0, upB (fun _ => false) 0 (decide (w ≠ 0)))) ⟨by first | omega | assumption | (simp [repC_bl, bl_set, ew]; done) | (simp [repC_bl, bl_set, ew]; omega), by first | omega | assumption | (simp [repC_bl, bl_set, ew]; done) | (simp [repC_bl, bl_set, ew]; omega), by simp [repC_bl, bl_set, ew], by simp [repC_bl, bl_set, ew], by simp [repC_bl, bl_set, ew], by simp [repC_bl, bl_set, ew], by simp [repC_bl, bl_set, ew]⟩ fun (p, S) s hsA LA hLA => ?_
  obtain ⟨hp, hW, h6, h1, h5, h2, b0⟩ := hsA
  repeat (first | simp [h6, h1, h5, h2, b0] | with_reducible refine And.intro (by omega) ?_ | with_reducible refine optK_if (by omega) ?_ | with_reducible refine optD_if (by omega) ?_ | simp (disch := omega) only [wrap_i64, if_pos, if_neg] | with_reducible refine gsel_pure (by with_unfolding_all rfl) _ (fun hg => by (try simp at hg); simp [hg, h6, h1, h5, h2, b0]; rfl) ?_ | with_reducible refine dsel_pure (by with_unfolding_all rfl) _ (fun hg => by (try simp at hg); simp [hg, h6, h1, h5, h2, b0]; rfl) ?_ | with_reducible refine awp_draw (by kernel_rfl) (by decide +kernel) ?_)
  (with_reducible refine condK_intro (fun hlt => ?_) (fun hlt => ?_)) <;> (try simp only [hlt]) <;> (try simp [andB, orB, eqI, ltI, Int.natCast_inj] at hlt)
  · repeat (first | simp [h6, h1, h5, h2, b0, hlt] | with_reducible refine And.intro (by omega) ?_ | with_reducible refine optK_if (by omega) ?_ | with_reducible refine optD_if (by omega) ?_ | simp (disch := omega) only [wrap_i64, if_pos, if_neg] | with_reducible refine gsel_pure (by with_unfolding_all rfl) _ (fun hg => by (try simp at hg); simp [hg, h6, h1, h5, h2, b0, hlt]; rfl) ?_ | with_reducible refine dsel_pure (by with_unfolding_all rfl) _ (fun hg => by (try simp at hg); simp [hg, h6, h1, h5, h2, b0, hlt]; rfl) ?_ | with_reducible refine awp_draw (by kernel_rfl) (by decide +kernel) ?_)
    have hI0 := WI.start hW
    refine awp_loopV (fun ((i, S) : Nat × (Nat → Bool)) (s : St) => (i ≤ l.length) ∧ (WI l w p i 0 S) ∧ s.env 7 = iV .i64 i ∧ s.env 6 = iV .i64 p ∧ s.env 1 = iV .i64 w ∧ s.env 5 = .cell (.own 65792 1 (l.length + 1) (bl (l.length + 1) S)) ∧ s.env 2 = .cell (.ptr 0 0) ∧ s.box 0 = some ([.p (sC name), .p (.sl l.length (codeC l))])) (fun ((i, S) : Nat × (Nat → Bool)) => l.length - i) ((0, S)) ⟨by first | omega | assumption | (simp; done) | (simp; omega), by first | omega | assumption | (simp; done) | (simp; omega), by simp [h6, h1, h5, h2, b0, hlt], by simp [h6, h1, h5, h2, b0, hlt], by simp [h6, h1, h5, h2, b0, hlt], by simp [h6, h1, h5, h2, b0, hlt], by simp [h6, h1, h5, h2, b0, hlt], by simp [h6, h1, h5, h2, b0, hlt]⟩ fun (i, S) s hsB LB hLB => ?_
    obtain ⟨hi, hI, h7, h6, h1, h5, h2, b0⟩ := hsB
    repeat (first | simp [h7, h6, h1, h5, h2, b0, hlt] | with_reducible refine And.intro (by omega) ?_ | with_reducible refine optK_if (by omega) ?_ | with_reducible refine optD_if (by omega) ?_ | simp (disch := omega) only [wrap_i64, if_pos, if_neg] | with_reducible refine gsel_pure (by with_unfolding_all rfl) _ (fun hg => by (try simp at hg); simp [hg, h7, h6, h1, h5, h2, b0, hlt]; rfl) ?_ | with_reducible refine dsel_pure (by with_unfolding_all rfl) _ (fun hg => by (try simp at hg); simp [hg, h7, h6, h1, h5, h2, b0, hlt]; rfl) ?_ | with_reducible refine awp_draw (by kernel_rfl) (by decide +kernel) ?_)
    (with_reducible refine condK_intro (fun hli => ?_) (fun hli => ?_)) <;> (try simp only [hli]) <;> (try simp [andB, orB, eqI, ltI, Int.natCast_inj] at hli)
    · repeat (first | simp [h7, h6, h1, h5, h2, b0, hlt, hli] | with_reducible refine And.intro (by omega) ?_ | with_reducible refine optK_if (by omega) ?_ | with_reducible refine optD_if (by omega) ?_ | simp (disch := omega) only [wrap_i64, if_pos, if_neg] | with_reducible refine gsel_pure (by with_unfolding_all rfl) _ (fun hg => by (try simp at hg); simp [hg, h7, h6, h1, h5, h2, b0, hlt, hli]; rfl) ?_ | with_reducible refine dsel_pure (by with_unfolding_all rfl) _ (fun hg => by (try simp at hg); simp [hg, h7, h6, h1, h5, h2, b0, hlt, hli]; rfl) ?_ | with_reducible refine awp_draw (by kernel_rfl) (by decide +kernel) ?_)
      refine gop_call' (at_r12succ name l ok i hli) (by (first | simp [h7, h6, h1, h5, h2, b0, hlt, hli] | simp (disch := omega) [h7, h6, h1, h5, h2, b0, hlt, hli, wrap_i64]); try rfl) (by simp) (by simp) ?_
      repeat (first | simp [h7, h6, h1, h5, h2, b0, hlt, hli] | with_reducible refine And.intro (by omega) ?_ | with_reducible refine optK_if (by omega) ?_ | with_reducible refine optD_if (by omega) ?_ | simp (disch := omega) only [wrap_i64, if_pos, if_neg] | with_reducible refine gsel_pure (by with_unfolding_all rfl) _ (fun hg => by (try simp at hg); simp [hg, h7, h6, h1, h5, h2, b0, hlt, hli]; rfl) ?_ | with_reducible refine dsel_pure (by with_unfolding_all rfl) _ (fun hg => by (try simp at hg); simp [hg, h7, h6, h1, h5, h2, b0, hlt, hli]; rfl) ?_ | with_reducible refine awp_draw (by kernel_rfl) (by decide +kernel) ?_)
      have hsl := sucs_len l i
      have hsn : ∀ x ∈ sucs l i, x ≤ l.length := fun x hx => sucs_le ok hx
      refine awp_loopV (fun ((k, S) : Nat × (Nat → Bool)) (s : St) => (k ≤ (sucs l i).length) ∧ (WI l w p i k S) ∧ s.env 9 = iV .i64 k ∧ s.env 8 = intsA (natI (sucs l i)) ∧ s.env 7 = iV .i64 i ∧ s.env 6 = iV .i64 p ∧ s.env 1 = iV .i64 w ∧ s.env 5 = .cell (.own 65792 1 (l.length + 1) (bl (l.length + 1) S)) ∧ s.env 2 = .cell (.ptr 0 0) ∧ s.box 0 = some ([.p (sC name), .p (.sl l.length (codeC l))])) (fun ((k, S) : Nat × (Nat → Bool)) => (sucs l i).length - k) ((0, S)) ⟨by first | omega | assumption | (simp; done) | (simp; omega), by first | omega | assumption | (simp; done) | (simp; omega), by simp [h7, h6, h1, h5, h2, b0, hlt, hli], by simp [h7, h6, h1, h5, h2, b0, hlt, hli], by simp [h7, h6, h1, h5, h2, b0, hlt, hli], by simp [h7, h6, h1, h5, h2, b0, hlt, hli], by simp [h7, h6, h1, h5, h2, b0, hlt, hli], by simp [h7, h6, h1, h5, h2, b0, hlt, hli], by simp [h7, h6, h1, h5, h2, b0, hlt, hli], by simp [h7, h6, h1, h5, h2, b0, hlt, hli]⟩ fun (k, S) s hsC LC hLC => ?_
      obtain ⟨hk, hJ, h9, h8, h7, h6, h1, h5, h2, b0⟩ := hsC
      by_cases hkk : k < (sucs l i).length
      · have e : ltI (k : Int) (sucs l i).length = true := by simp [ltI, hkk]
        have hg : (bl (l.length + 1) S)[i]? = some (bC (S i)) := bl_get? (by omega)
        have hx : (intsC (natI (sucs l i)))[k]? = some (iC (sucs l i)[k]) := by rw [intsC_get? _ (by simpa using hkk)]; simp [natI]
        have hxn : (sucs l i)[k] ≤ l.length := hsn _ (List.getElem_mem hkk)
        repeat (first | simp [h9, h8, h7, h6, h1, h5, h2, b0, hlt, hli, e, hg, hkk] | with_reducible refine And.intro (by omega) ?_ | with_reducible refine optK_if (by omega) ?_ | with_reducible refine optD_if (by omega) ?_ | simp (disch := omega) only [wrap_i64, if_pos, if_neg] | with_reducible refine gsel_pure (by with_unfolding_all rfl) _ (fun hg => by (try simp at hg); simp [hg, h9, h8, h7, h6, h1, h5, h2, b0, hlt, hli, e, hg, hkk]; rfl) ?_ | with_reducible refine dsel_pure (by with_unfolding_all rfl) _ (fun hg => by (try simp at hg); simp [hg, h9, h8, h7, h6, h1, h5, h2, b0, hlt, hli, e, hg, hkk]; rfl) ?_ | with_reducible refine awp_draw (by kernel_rfl) (by decide +kernel) ?_)
        (with_reducible refine condK_intro (fun hS => ?_) (fun hS => ?_)) <;> (try simp only [hS]) <;> (try simp [andB, orB, eqI, ltI, Int.natCast_inj] at hS)
        · repeat (first | simp [h9, h8, h7, h6, h1, h5, h2, b0, hlt, hli, hS, hx, hkk] | with_reducible refine And.intro (by omega) ?_ | with_reducible refine optK_if (by omega) ?_ | with_reducible refine optD_if (by omega) ?_ | simp (disch := omega) only [wrap_i64, if_pos, if_neg] | with_reducible refine gsel_pure (by with_unfolding_all rfl) _ (fun hg => by (try simp at hg); simp [hg, h9, h8, h7, h6, h1, h5, h2, b0, hlt, hli, hS, hx, hkk]; rfl) ?_ | with_reducible refine dsel_pure (by with_unfolding_all rfl) _ (fun hg => by (try simp at hg); simp [hg, h9, h8, h7, h6, h1, h5, h2, b0, hlt, hli, hS, hx, hkk]; rfl) ?_ | with_reducible refine awp_draw (by kernel_rfl) (by decide +kernel) ?_)
          by_cases hw : ((sucs l i)[k] : Int) = w
          · have e2 : eqI ((sucs l i)[k] : Int) w = true := by simp [eqI, hw]
            repeat (first | simp [h9, h8, h7, h6, h1, h5, h2, b0, hlt, hli, hS, hx, hkk, e2] | with_reducible refine And.intro (by omega) ?_ | with_reducible refine optK_if (by omega) ?_ | with_reducible refine optD_if (by omega) ?_ | simp (disch := omega) only [wrap_i64, if_pos, if_neg] | with_reducible refine gsel_pure (by with_unfolding_all rfl) _ (fun hg => by (try simp at hg); simp [hg, h9, h8, h7, h6, h1, h5, h2, b0, hlt, hli, hS, hx, hkk, e2]; rfl) ?_ | with_reducible refine dsel_pure (by with_unfolding_all rfl) _ (fun hg => by (try simp at hg); simp [hg, h9, h8, h7, h6, h1, h5, h2, b0, hlt, hli, hS, hx, hkk, e2]; rfl) ?_ | with_reducible refine awp_draw (by kernel_rfl) (by decide +kernel) ?_)
            refine hLC ((k + 1, S)) _ ⟨by first | omega | assumption | (simp; done) | (simp; omega), by exact hJ.skip hkk hw, by simp [h9, h8, h7, h6, h1, h5, h2, b0, hlt, hli, hS], by simp [h9, h8, h7, h6, h1, h5, h2, b0, hlt, hli, hS], by simp [h9, h8, h7, h6, h1, h5, h2, b0, hlt, hli, hS], by simp [h9, h8, h7, h6, h1, h5, h2, b0, hlt, hli, hS], by simp [h9, h8, h7, h6, h1, h5, h2, b0, hlt, hli, hS], by simp [h9, h8, h7, h6, h1, h5, h2, b0, hlt, hli, hS], by simp [h9, h8, h7, h6, h1, h5, h2, b0, hlt, hli, hS], by simp [h9, h8, h7, h6, h1, h5, h2, b0, hlt, hli, hS]⟩ (by first | omega | (simp; omega))
          · have e2 : eqI ((sucs l i)[k] : Int) w = false := by simp [eqI, hw]
            have hM := hJ.mark hli hS hkk hw
            have hxn1 : (sucs l i)[k] < l.length + 1 := by omega
            repeat (first | simp [h9, h8, h7, h6, h1, h5, h2, b0, hlt, hli, hS, hkk, e2, hxn1] | with_reducible refine And.intro (by omega) ?_ | with_reducible refine optK_if (by omega) ?_ | with_reducible refine optD_if (by omega) ?_ | simp (disch := omega) only [wrap_i64, if_pos, if_neg] | with_reducible refine gsel_pure (by with_unfolding_all rfl) _ (fun hg => by (try simp at hg); simp [hg, h9, h8, h7, h6, h1, h5, h2, b0, hlt, hli, hS, hkk, e2, hxn1]; rfl) ?_ | with_reducible refine dsel_pure (by with_unfolding_all rfl) _ (fun hg => by (try simp at hg); simp [hg, h9, h8, h7, h6, h1, h5, h2, b0, hlt, hli, hS, hkk, e2, hxn1]; rfl) ?_ | with_reducible refine awp_draw (by kernel_rfl) (by decide +kernel) ?_)
            refine hLC ((k + 1, upB S (sucs l i)[k] true)) _ ⟨by first | omega | assumption | (simp [bl_set]; done) | (simp [bl_set]; omega), by exact hM, by simp [h9, h8, h7, h6, h1, h5, h2, b0, hlt, hli, hS, bl_set], by simp [h9, h8, h7, h6, h1, h5, h2, b0, hlt, hli, hS, bl_set], by simp [h9, h8, h7, h6, h1, h5, h2, b0, hlt, hli, hS, bl_set], by simp [h9, h8, h7, h6, h1, h5, h2, b0, hlt, hli, hS, bl_set], by simp [h9, h8, h7, h6, h1, h5, h2, b0, hlt, hli, hS, bl_set], by simp [h9, h8, h7, h6, h1, h5, h2, b0, hlt, hli, hS, bl_set], by simp [h9, h8, h7, h6, h1, h5, h2, b0, hlt, hli, hS, bl_set], by simp [h9, h8, h7, h6, h1, h5, h2, b0, hlt, hli, hS, bl_set]⟩ (by first | omega | (simp; omega))
        · repeat (first | simp [h9, h8, h7, h6, h1, h5, h2, b0, hlt, hli, hS] | with_reducible refine And.intro (by omega) ?_ | with_reducible refine optK_if (by omega) ?_ | with_reducible refine optD_if (by omega) ?_ | simp (disch := omega) only [wrap_i64, if_pos, if_neg] | with_reducible refine gsel_pure (by with_unfolding_all rfl) _ (fun hg => by (try simp at hg); simp [hg, h9, h8, h7, h6, h1, h5, h2, b0, hlt, hli, hS]; rfl) ?_ | with_reducible refine dsel_pure (by with_unfolding_all rfl) _ (fun hg => by (try simp at hg); simp [hg, h9, h8, h7, h6, h1, h5, h2, b0, hlt, hli, hS]; rfl) ?_ | with_reducible refine awp_draw (by kernel_rfl) (by decide +kernel) ?_)
          refine hLB ((i + 1, S)) _ ⟨by first | omega | assumption | (simp; done) | (simp; omega), by exact hJ.next (.inr hS), by simp [h9, h8, h7, h6, h1, h5, h2, b0, hlt, hli, hS], by simp [h9, h8, h7, h6, h1, h5, h2, b0, hlt, hli, hS], by simp [h9, h8, h7, h6, h1, h5, h2, b0, hlt, hli, hS], by simp [h9, h8, h7, h6, h1, h5, h2, b0, hlt, hli, hS], by simp [h9, h8, h7, h6, h1, h5, h2, b0, hlt, hli, hS], by simp [h9, h8, h7, h6, h1, h5, h2, b0, hlt, hli, hS]⟩ (by first | omega | (simp; omega))
      · have e : ltI (k : Int) (sucs l i).length = false := by simp [ltI, hkk]
        repeat (first | simp [h9, h8, h7, h6, h1, h5, h2, b0, hlt, hli, e] | with_reducible refine And.intro (by omega) ?_ | with_reducible refine optK_if (by omega) ?_ | with_reducible refine optD_if (by omega) ?_ | simp (disch := omega) only [wrap_i64, if_pos, if_neg] | with_reducible refine gsel_pure (by with_unfolding_all rfl) _ (fun hg => by (try simp at hg); simp [hg, h9, h8, h7, h6, h1, h5, h2, b0, hlt, hli, e]; rfl) ?_ | with_reducible refine dsel_pure (by with_unfolding_all rfl) _ (fun hg => by (try simp at hg); simp [hg, h9, h8, h7, h6, h1, h5, h2, b0, hlt, hli, e]; rfl) ?_ | with_reducible refine awp_draw (by kernel_rfl) (by decide +kernel) ?_)
        refine hLB ((i + 1, S)) _ ⟨by first | omega | assumption | (simp; done) | (simp; omega), by exact hJ.next (.inl (by omega)), by simp [h9, h8, h7, h6, h1, h5, h2, b0, hlt, hli], by simp [h9, h8, h7, h6, h1, h5, h2, b0, hlt, hli], by simp [h9, h8, h7, h6, h1, h5, h2, b0, hlt, hli], by simp [h9, h8, h7, h6, h1, h5, h2, b0, hlt, hli], by simp [h9, h8, h7, h6, h1, h5, h2, b0, hlt, hli], by simp [h9, h8, h7, h6, h1, h5, h2, b0, hlt, hli]⟩ (by first | omega | (simp; omega))
    · have : i = l.length := by omega
      subst this
      repeat (first | simp [h7, h6, h1, h5, h2, b0, hlt, hli] | with_reducible refine And.intro (by omega) ?_ | with_reducible refine optK_if (by omega) ?_ | with_reducible refine optD_if (by omega) ?_ | simp (disch := omega) only [wrap_i64, if_pos, if_neg] | with_reducible refine gsel_pure (by with_unfolding_all rfl) _ (fun hg => by (try simp at hg); simp [hg, h7, h6, h1, h5, h2, b0, hlt, hli]; rfl) ?_ | with_reducible refine dsel_pure (by with_unfolding_all rfl) _ (fun hg => by (try simp at hg); simp [hg, h7, h6, h1, h5, h2, b0, hlt, hli]; rfl) ?_ | with_reducible refine awp_draw (by kernel_rfl) (by decide +kernel) ?_)
      refine hLA ((p + 1, S)) _ ⟨by first | omega | assumption | (simp; done) | (simp; omega), by exact hI.done, by simp [h7, h6, h1, h5, h2, b0, hlt, hli], by simp [h7, h6, h1, h5, h2, b0, hlt, hli], by simp [h7, h6, h1, h5, h2, b0, hlt, hli], by simp [h7, h6, h1, h5, h2, b0, hlt, hli], by simp [h7, h6, h1, h5, h2, b0, hlt, hli]⟩ (by first | omega | (simp; omega))
  · have : p = l.length := by omega
    subst this
    have hF := hW.fin
    repeat (first | simp [h6, h1, h5, h2, b0, hlt] | with_reducible refine And.intro (by omega) ?_ | with_reducible refine optK_if (by omega) ?_ | with_reducible refine optD_if (by omega) ?_ | simp (disch := omega) only [wrap_i64, if_pos, if_neg] | with_reducible refine gsel_pure (by with_unfolding_all rfl) _ (fun hg => by (try simp at hg); simp [hg, h6, h1, h5, h2, b0, hlt]; rfl) ?_ | with_reducible refine dsel_pure (by with_unfolding_all rfl) _ (fun hg => by (try simp at hg); simp [hg, h6, h1, h5, h2, b0, hlt]; rfl) ?_ | with_reducible refine awp_draw (by kernel_rfl) (by decide +kernel) ?_)
    refine hQ _ _ (ret2 (by simp [retAV, resAV]; rfl) (by simp; rfl) ?_)
    rw [bl_take (by omega), hF]
set_option maxHeartbeats 2000000 in
theorem at_dominates (name : ByteArray) (l : List I8) (ok : OkL l) : At Tryd.prog 54 [fAV name l] (boolsA (l.length * l.length) (domM l)) := by
  have hlen := ok.len
  have eN := mat_wrap1 hlen (Nat.le_refl l.length)
  refine at_pure (r := .cell (.own 0 1 (l.length * l.length) (bl (l.length * l.length) (domM l)))) ?_ (by simp)
  obtain ⟨N, hN⟩ : ∃ N, N = l.length * l.length := ⟨_, rfl⟩
  have hN2 : N ≤ 64 * 64 := by rw [hN]; exact Nat.mul_le_mul hlen hlen
  have eN2 : (l.length : Int) * l.length = N := by rw [hN]; simp
  rw [eN2] at eN
  rw [← hN]
  refine at_code mixed Tryd.func54 (by kernel_rfl) rfl (by kernel_rfl) (by kernel_rfl) rfl fun Q hQ => ?_
  repeat (first | simp [repC_bl, eN, eN2] | with_reducible refine And.intro (by omega) ?_ | with_reducible refine optK_if (by omega) ?_ | with_reducible refine optD_if (by omega) ?_ | simp (disch := omega) only [wrap_i64, if_pos, if_neg] | with_reducible refine gsel_pure (by with_unfolding_all rfl) _ (fun hg => by (try simp at hg); simp [hg, repC_bl, eN, eN2]; rfl) ?_ | with_reducible refine dsel_pure (by with_unfolding_all rfl) _ (fun hg => by (try simp at hg); simp [hg, repC_bl, eN, eN2]; rfl) ?_ | with_reducible refine awp_draw (by kernel_rfl) (by decide +kernel) ?_)
  refine gop_call' (at_without name l ok (-1)) (by (first | simp [repC_bl] | simp (disch := omega) [repC_bl, wrap_i64]); try rfl) (by simp) (by simp) ?_
  repeat (first | simp [repC_bl] | with_reducible refine And.intro (by omega) ?_ | with_reducible refine optK_if (by omega) ?_ | with_reducible refine optD_if (by omega) ?_ | simp (disch := omega) only [wrap_i64, if_pos, if_neg] | with_reducible refine gsel_pure (by with_unfolding_all rfl) _ (fun hg => by (try simp at hg); simp [hg, repC_bl]; rfl) ?_ | with_reducible refine dsel_pure (by with_unfolding_all rfl) _ (fun hg => by (try simp at hg); simp [hg, repC_bl]; rfl) ?_ | with_reducible refine awp_draw (by kernel_rfl) (by decide +kernel) ?_)
  refine awp_loopV (fun (d : Nat) (s : St) => (d ≤ l.length) ∧ s.env 6 = iV .i64 d ∧ s.env 3 = iV .i64 l.length ∧ s.env 5 = boolsA l.length (wOn l (-1)) ∧ s.env 4 = .cell (.own 131264 1 N (bl N (domP l (d * l.length)))) ∧ s.env 1 = .cell (.ptr 0 0) ∧ s.box 0 = some ([.p (sC name), .p (.sl l.length (codeC l))])) (fun (d : Nat) => l.length - d) (0) ⟨by first | omega | assumption | (simp [repC_bl, domP_zero]; done) | (simp [repC_bl, domP_zero]; omega), by simp [repC_bl, domP_zero], by simp [repC_bl, domP_zero], by simp [repC_bl, domP_zero], by simp [repC_bl, domP_zero], by simp [repC_bl, domP_zero], by simp [repC_bl, domP_zero]⟩ fun d s hsA LA hLA => ?_
  obtain ⟨hd, h6, h3, h5, h4, h1, b0⟩ := hsA
  repeat (first | simp [h6, h3, h5, h4, h1, b0] | with_reducible refine And.intro (by omega) ?_ | with_reducible refine optK_if (by omega) ?_ | with_reducible refine optD_if (by omega) ?_ | simp (disch := omega) only [wrap_i64, if_pos, if_neg] | with_reducible refine gsel_pure (by with_unfolding_all rfl) _ (fun hg => by (try simp at hg); simp [hg, h6, h3, h5, h4, h1, b0]; rfl) ?_ | with_reducible refine dsel_pure (by with_unfolding_all rfl) _ (fun hg => by (try simp at hg); simp [hg, h6, h3, h5, h4, h1, b0]; rfl) ?_ | with_reducible refine awp_draw (by kernel_rfl) (by decide +kernel) ?_)
  (with_reducible refine condK_intro (fun hlt => ?_) (fun hlt => ?_)) <;> (try simp only [hlt]) <;> (try simp [andB, orB, eqI, ltI, Int.natCast_inj] at hlt)
  · repeat (first | simp [h6, h3, h5, h4, h1, b0, hlt] | with_reducible refine And.intro (by omega) ?_ | with_reducible refine optK_if (by omega) ?_ | with_reducible refine optD_if (by omega) ?_ | simp (disch := omega) only [wrap_i64, if_pos, if_neg] | with_reducible refine gsel_pure (by with_unfolding_all rfl) _ (fun hg => by (try simp at hg); simp [hg, h6, h3, h5, h4, h1, b0, hlt]; rfl) ?_ | with_reducible refine dsel_pure (by with_unfolding_all rfl) _ (fun hg => by (try simp at hg); simp [hg, h6, h3, h5, h4, h1, b0, hlt]; rfl) ?_ | with_reducible refine awp_draw (by kernel_rfl) (by decide +kernel) ?_)
    refine gop_call' (at_without name l ok d) (by (first | simp [h6, h3, h5, h4, h1, b0, hlt] | simp (disch := omega) [h6, h3, h5, h4, h1, b0, hlt, wrap_i64]); try rfl) (by simp) (by simp) ?_
    repeat (first | simp [h6, h3, h5, h4, h1, b0, hlt] | with_reducible refine And.intro (by omega) ?_ | with_reducible refine optK_if (by omega) ?_ | with_reducible refine optD_if (by omega) ?_ | simp (disch := omega) only [wrap_i64, if_pos, if_neg] | with_reducible refine gsel_pure (by with_unfolding_all rfl) _ (fun hg => by (try simp at hg); simp [hg, h6, h3, h5, h4, h1, b0, hlt]; rfl) ?_ | with_reducible refine dsel_pure (by with_unfolding_all rfl) _ (fun hg => by (try simp at hg); simp [hg, h6, h3, h5, h4, h1, b0, hlt]; rfl) ?_ | with_reducible refine awp_draw (by kernel_rfl) (by decide +kernel) ?_)
    refine awp_loopV (fun (i : Nat) (s : St) => (i ≤ l.length) ∧ s.env 8 = iV .i64 i ∧ s.env 7 = boolsA l.length (wOn l d) ∧ s.env 6 = iV .i64 d ∧ s.env 3 = iV .i64 l.length ∧ s.env 5 = boolsA l.length (wOn l (-1)) ∧ s.env 4 = .cell (.own 131264 1 N (bl N (domP l (d * l.length + i)))) ∧ s.env 1 = .cell (.ptr 0 0) ∧ s.box 0 = some ([.p (sC name), .p (.sl l.length (codeC l))])) (fun (i : Nat) => l.length - i) (0) ⟨by first | omega | assumption | (simp; done) | (simp; omega), by simp [h6, h3, h5, h4, h1, b0, hlt], by simp [h6, h3, h5, h4, h1, b0, hlt], by simp [h6, h3, h5, h4, h1, b0, hlt], by simp [h6, h3, h5, h4, h1, b0, hlt], by simp [h6, h3, h5, h4, h1, b0, hlt], by simp [h6, h3, h5, h4, h1, b0, hlt], by simp [h6, h3, h5, h4, h1, b0, hlt], by simp [h6, h3, h5, h4, h1, b0, hlt]⟩ fun i s hsB LB hLB => ?_
    obtain ⟨hi, h8, h7, h6, h3, h5, h4, h1, b0⟩ := hsB
    repeat (first | simp [h8, h7, h6, h3, h5, h4, h1, b0, hlt] | with_reducible refine And.intro (by omega) ?_ | with_reducible refine optK_if (by omega) ?_ | with_reducible refine optD_if (by omega) ?_ | simp (disch := omega) only [wrap_i64, if_pos, if_neg] | with_reducible refine gsel_pure (by with_unfolding_all rfl) _ (fun hg => by (try simp at hg); simp [hg, h8, h7, h6, h3, h5, h4, h1, b0, hlt]; rfl) ?_ | with_reducible refine dsel_pure (by with_unfolding_all rfl) _ (fun hg => by (try simp at hg); simp [hg, h8, h7, h6, h3, h5, h4, h1, b0, hlt]; rfl) ?_ | with_reducible refine awp_draw (by kernel_rfl) (by decide +kernel) ?_)
    (with_reducible refine condK_intro (fun hli => ?_) (fun hli => ?_)) <;> (try simp only [hli]) <;> (try simp [andB, orB, eqI, ltI, Int.natCast_inj] at hli)
    · obtain ⟨m, hm⟩ : ∃ m, m = d * l.length + i := ⟨_, rfl⟩
      have hml : m < N := by rw [hm, hN]; exact mat_lt hlt hli
      have w1 := mat_wrap1 hlen (Nat.le_of_lt hlt)
      have w2 := mat_wrap2 hlen (Nat.le_of_lt hlt) (Nat.le_of_lt hli) hm
      have g1 : (bl l.length (wOn l (-1)))[d]? = some (bC (wOn l (-1) d)) := bl_get? hlt
      have g2 : (bl l.length (wOn l (-1)))[i]? = some (bC (wOn l (-1) i)) := bl_get? hli
      have g3 : (bl l.length (wOn l d))[i]? = some (bC (wOn l d i)) := bl_get? hli
      have hset : domM l m = domR l d i := domM_at hlt hli hm
      have hm1 : d * l.length + (i + 1) = m + 1 := by omega
      have hv : andB (andB (wOn l (-1) d) (wOn l (-1) i)) (!wOn l d i) = domM l m := by rw [hset]; simp [domR, andB]
      have hse : (bl N (domP l m)).set m (bC (domM l m)) = bl N (domP l (m + 1)) := domP_set rfl
      rw [← hm] at h4
      repeat (first | simp [h8, h7, h6, h3, h5, h4, h1, b0, hlt, hli, w1, w2, g1, g2, g3, hlt, hli] | with_reducible refine And.intro (by omega) ?_ | with_reducible refine optK_if (by omega) ?_ | with_reducible refine optD_if (by omega) ?_ | simp (disch := omega) only [wrap_i64, if_pos, if_neg] | with_reducible refine gsel_pure (by with_unfolding_all rfl) _ (fun hg => by (try simp at hg); simp [hg, h8, h7, h6, h3, h5, h4, h1, b0, hlt, hli, w1, w2, g1, g2, g3, hlt, hli]; rfl) ?_ | with_reducible refine dsel_pure (by with_unfolding_all rfl) _ (fun hg => by (try simp at hg); simp [hg, h8, h7, h6, h3, h5, h4, h1, b0, hlt, hli, w1, w2, g1, g2, g3, hlt, hli]; rfl) ?_ | with_reducible refine awp_draw (by kernel_rfl) (by decide +kernel) ?_)
      refine hLB (i + 1) _ ⟨by first | omega | assumption | (simp [hm1, hv, hse]; done) | (simp [hm1, hv, hse]; omega), by simp [h8, h7, h6, h3, h5, h4, h1, b0, hlt, hli, hm1, hv, hse], by simp [h8, h7, h6, h3, h5, h4, h1, b0, hlt, hli, hm1, hv, hse], by simp [h8, h7, h6, h3, h5, h4, h1, b0, hlt, hli, hm1, hv, hse], by simp [h8, h7, h6, h3, h5, h4, h1, b0, hlt, hli, hm1, hv, hse], by simp [h8, h7, h6, h3, h5, h4, h1, b0, hlt, hli, hm1, hv, hse], by simp [h8, h7, h6, h3, h5, h4, h1, b0, hlt, hli, hm1, hv, hse], by simp [h8, h7, h6, h3, h5, h4, h1, b0, hlt, hli, hm1, hv, hse], by simp [h8, h7, h6, h3, h5, h4, h1, b0, hlt, hli, hm1, hv, hse]⟩ (by first | omega | (simp; omega))
    · have : i = l.length := by omega
      subst this
      have hd1 : (d + 1) * l.length = d * l.length + l.length := Nat.succ_mul _ _
      repeat (first | simp [h8, h7, h6, h3, h5, h4, h1, b0, hlt, hli] | with_reducible refine And.intro (by omega) ?_ | with_reducible refine optK_if (by omega) ?_ | with_reducible refine optD_if (by omega) ?_ | simp (disch := omega) only [wrap_i64, if_pos, if_neg] | with_reducible refine gsel_pure (by with_unfolding_all rfl) _ (fun hg => by (try simp at hg); simp [hg, h8, h7, h6, h3, h5, h4, h1, b0, hlt, hli]; rfl) ?_ | with_reducible refine dsel_pure (by with_unfolding_all rfl) _ (fun hg => by (try simp at hg); simp [hg, h8, h7, h6, h3, h5, h4, h1, b0, hlt, hli]; rfl) ?_ | with_reducible refine awp_draw (by kernel_rfl) (by decide +kernel) ?_)
      refine hLA (d + 1) _ ⟨by first | omega | assumption | (simp [hd1]; done) | (simp [hd1]; omega), by simp [h8, h7, h6, h3, h5, h4, h1, b0, hlt, hli, hd1], by simp [h8, h7, h6, h3, h5, h4, h1, b0, hlt, hli, hd1], by simp [h8, h7, h6, h3, h5, h4, h1, b0, hlt, hli, hd1], by simp [h8, h7, h6, h3, h5, h4, h1, b0, hlt, hli, hd1], by simp [h8, h7, h6, h3, h5, h4, h1, b0, hlt, hli, hd1], by simp [h8, h7, h6, h3, h5, h4, h1, b0, hlt, hli, hd1]⟩ (by first | omega | (simp; omega))
  · have : d = l.length := by omega
    subst this
    rw [← hN, domP_full] at h4
    repeat (first | simp [h6, h3, h5, h4, h1, b0, hlt] | with_reducible refine And.intro (by omega) ?_ | with_reducible refine optK_if (by omega) ?_ | with_reducible refine optD_if (by omega) ?_ | simp (disch := omega) only [wrap_i64, if_pos, if_neg] | with_reducible refine gsel_pure (by with_unfolding_all rfl) _ (fun hg => by (try simp at hg); simp [hg, h6, h3, h5, h4, h1, b0, hlt]; rfl) ?_ | with_reducible refine dsel_pure (by with_unfolding_all rfl) _ (fun hg => by (try simp at hg); simp [hg, h6, h3, h5, h4, h1, b0, hlt]; rfl) ?_ | with_reducible refine awp_draw (by kernel_rfl) (by decide +kernel) ?_)
    refine hQ _ _ (ret2 (by simp [retAV, resAV]; rfl) (by simp; rfl) ?_)
    rfl
set_option maxHeartbeats 2000000 in
theorem at_r12dominators (name : ByteArray) (l : List I8) : At Tryd.prog 21 [fAV name l] (.tup [if funcE l = 0 then intsA (idomL (domB l) l.length l.length) else .cell .z, iV .i64 (funcE l)]) := by
  by_cases hf : funcE l = 0
  rotate_left
  · have e1 : eqI (funcE l) 0 = false := by simp [eqI, hf]
    refine at_code mixed Tryd.func21 (by kernel_rfl) rfl (by kernel_rfl) (by kernel_rfl) rfl fun Q hQ => ?_
    repeat (first | simp | with_reducible refine And.intro (by omega) ?_ | with_reducible refine optK_if (by omega) ?_ | with_reducible refine optD_if (by omega) ?_ | simp (disch := omega) only [wrap_i64, if_pos, if_neg] | with_reducible refine gsel_pure (by with_unfolding_all rfl) _ (fun hg => by (try simp at hg); simp [hg]; rfl) ?_ | with_reducible refine dsel_pure (by with_unfolding_all rfl) _ (fun hg => by (try simp at hg); simp [hg]; rfl) ?_ | with_reducible refine awp_draw (by kernel_rfl) (by decide +kernel) ?_)
    refine gop_call (at_r12Check name l) (by (first | simp [wrap_i64] | simp (disch := omega) [wrap_i64]); try rfl) (by simp) (by simp) ?_
    repeat (first | simp [e1] | with_reducible refine And.intro (by omega) ?_ | with_reducible refine optK_if (by omega) ?_ | with_reducible refine optD_if (by omega) ?_ | simp (disch := omega) only [wrap_i64, if_pos, if_neg] | with_reducible refine gsel_pure (by with_unfolding_all rfl) _ (fun hg => by (try simp at hg); simp [hg, e1]; rfl) ?_ | with_reducible refine dsel_pure (by with_unfolding_all rfl) _ (fun hg => by (try simp at hg); simp [hg, e1]; rfl) ?_ | with_reducible refine awp_draw (by kernel_rfl) (by decide +kernel) ?_)
    refine hQ _ _ (ret2 (by simp [retAV, resAV]; rfl) (by simp; rfl) ?_)
    simp [hf]
  have ok := okL hf
  have hlen := ok.len
  refine at_pure (r := .tup [.cell (.own 0 1 l.length (intsC (domsL l l.length))), iV .i64 (funcE l)]) ?_ (by rw [domsL_full]; simp [hf, idomL_length])
  obtain ⟨N, hN⟩ : ∃ N, N = l.length * l.length := ⟨_, rfl⟩
  have hDom := at_dominates name l ok
  rw [← hN] at hDom
  refine at_code mixed Tryd.func21 (by kernel_rfl) rfl (by kernel_rfl) (by kernel_rfl) rfl fun Q hQ => ?_
  repeat (first | simp | with_reducible refine And.intro (by omega) ?_ | with_reducible refine optK_if (by omega) ?_ | with_reducible refine optD_if (by omega) ?_ | simp (disch := omega) only [wrap_i64, if_pos, if_neg] | with_reducible refine gsel_pure (by with_unfolding_all rfl) _ (fun hg => by (try simp at hg); simp [hg]; rfl) ?_ | with_reducible refine dsel_pure (by with_unfolding_all rfl) _ (fun hg => by (try simp at hg); simp [hg]; rfl) ?_ | with_reducible refine awp_draw (by kernel_rfl) (by decide +kernel) ?_)
  refine gop_call (at_r12Check name l) (by (first | simp [wrap_i64] | simp (disch := omega) [wrap_i64]); try rfl) (by simp) (by simp) ?_
  repeat (first | simp [hf] | with_reducible refine And.intro (by omega) ?_ | with_reducible refine optK_if (by omega) ?_ | with_reducible refine optD_if (by omega) ?_ | simp (disch := omega) only [wrap_i64, if_pos, if_neg] | with_reducible refine gsel_pure (by with_unfolding_all rfl) _ (fun hg => by (try simp at hg); simp [hg, hf]; rfl) ?_ | with_reducible refine dsel_pure (by with_unfolding_all rfl) _ (fun hg => by (try simp at hg); simp [hg, hf]; rfl) ?_ | with_reducible refine awp_draw (by kernel_rfl) (by decide +kernel) ?_)
  refine gop_call' (hDom) (by (first | simp [wrap_i64] | simp (disch := omega) [wrap_i64]); try rfl) (by simp) (by simp) ?_
  repeat (first | simp | with_reducible refine And.intro (by omega) ?_ | with_reducible refine optK_if (by omega) ?_ | with_reducible refine optD_if (by omega) ?_ | simp (disch := omega) only [wrap_i64, if_pos, if_neg] | with_reducible refine gsel_pure (by with_unfolding_all rfl) _ (fun hg => by (try simp at hg); simp [hg]; rfl) ?_ | with_reducible refine dsel_pure (by with_unfolding_all rfl) _ (fun hg => by (try simp at hg); simp [hg]; rfl) ?_ | with_reducible refine awp_draw (by kernel_rfl) (by decide +kernel) ?_)
  refine awp_loopW (fun (k : Nat) (s : St) => (k ≤ l.length) ∧ s.env 8 = iV .i64 k ∧ s.env 7 = .cell (.own 655360000 1 k (intsC (domsL l k))) ∧ s.env 6 = boolsA N (domM l) ∧ s.env 5 = iV .i64 l.length) (fun (k : Nat) => l.length - k) _ (Weak.own 7 655360000 1 (by simp)) (0) ⟨by first | omega | assumption | (simp [domsL]; done) | (simp [domsL]; omega), by simp [domsL], by simp [domsL], by simp [domsL], by simp [domsL]⟩ fun k s hsA LA hLA => ?_
  obtain ⟨hk, h8, h7, h6, h5⟩ := hsA
  repeat (first | simp [h8, h7, h6, h5] | with_reducible refine And.intro (by omega) ?_ | with_reducible refine optK_if (by omega) ?_ | with_reducible refine optD_if (by omega) ?_ | simp (disch := omega) only [wrap_i64, if_pos, if_neg] | with_reducible refine gsel_pure (by with_unfolding_all rfl) _ (fun hg => by (try simp at hg); simp [hg, h8, h7, h6, h5]; rfl) ?_ | with_reducible refine dsel_pure (by with_unfolding_all rfl) _ (fun hg => by (try simp at hg); simp [hg, h8, h7, h6, h5]; rfl) ?_ | with_reducible refine awp_draw (by kernel_rfl) (by decide +kernel) ?_)
  (with_reducible refine condK_intro (fun hlt => ?_) (fun hlt => ?_)) <;> (try simp only [hlt]) <;> (try simp [andB, orB, eqI, ltI, Int.natCast_inj] at hlt)
  · repeat (first | simp [h8, h7, h6, h5, hlt] | with_reducible refine And.intro (by omega) ?_ | with_reducible refine optK_if (by omega) ?_ | with_reducible refine optD_if (by omega) ?_ | simp (disch := omega) only [wrap_i64, if_pos, if_neg] | with_reducible refine gsel_pure (by with_unfolding_all rfl) _ (fun hg => by (try simp at hg); simp [hg, h8, h7, h6, h5, hlt]; rfl) ?_ | with_reducible refine dsel_pure (by with_unfolding_all rfl) _ (fun hg => by (try simp at hg); simp [hg, h8, h7, h6, h5, hlt]; rfl) ?_ | with_reducible refine awp_draw (by kernel_rfl) (by decide +kernel) ?_)
    refine awp_loopV (fun (m : Nat) (s : St) => (m ≤ l.length) ∧ s.env 10 = iV .i64 m ∧ s.env 9 = iV .i64 (idomF (domB l) k m) ∧ s.env 8 = iV .i64 k ∧ s.env 7 = .cell (.own 655360000 1 k (intsC (domsL l k))) ∧ s.env 6 = boolsA N (domM l) ∧ s.env 5 = iV .i64 l.length) (fun (m : Nat) => l.length - m) (0) ⟨by first | omega | assumption | (simp [idomF]; done) | (simp [idomF]; omega), by simp [h8, h7, h6, h5, hlt, idomF], by simp [h8, h7, h6, h5, hlt, idomF], by simp [h8, h7, h6, h5, hlt, idomF], by simp [h8, h7, h6, h5, hlt, idomF], by simp [h8, h7, h6, h5, hlt, idomF], by simp [h8, h7, h6, h5, hlt, idomF]⟩ fun m s hsB LB hLB => ?_
    obtain ⟨hm, h10, h9, h8, h7, h6, h5⟩ := hsB
    repeat (first | simp [h10, h9, h8, h7, h6, h5, hlt] | with_reducible refine And.intro (by omega) ?_ | with_reducible refine optK_if (by omega) ?_ | with_reducible refine optD_if (by omega) ?_ | simp (disch := omega) only [wrap_i64, if_pos, if_neg] | with_reducible refine gsel_pure (by with_unfolding_all rfl) _ (fun hg => by (try simp at hg); simp [hg, h10, h9, h8, h7, h6, h5, hlt]; rfl) ?_ | with_reducible refine dsel_pure (by with_unfolding_all rfl) _ (fun hg => by (try simp at hg); simp [hg, h10, h9, h8, h7, h6, h5, hlt]; rfl) ?_ | with_reducible refine awp_draw (by kernel_rfl) (by decide +kernel) ?_)
    (with_reducible refine condK_intro (fun hml => ?_) (fun hml => ?_)) <;> (try simp only [hml]) <;> (try simp [andB, orB, eqI, ltI, Int.natCast_inj] at hml)
    · have hlt2 := idomF_lt (dom := domB l) (i := k) m
      have hstep : idomF (domB l) k (m + 1) = domStep (domB l) k (idomF (domB l) k m) m := rfl
      generalize idomF (domB l) k m = b at *
      by_cases hmk : m = k
      · have e : eqI (m : Int) k = true := by simp [eqI, hmk]
        have hs : domStep (domB l) k b m = b := by unfold domStep; rw [if_neg (by simp [hmk])]
        rw [hs] at hstep
        repeat (first | simp [h10, h9, h8, h7, h6, h5, hlt, hml, e] | with_reducible refine And.intro (by omega) ?_ | with_reducible refine optK_if (by omega) ?_ | with_reducible refine optD_if (by omega) ?_ | simp (disch := omega) only [wrap_i64, if_pos, if_neg] | with_reducible refine gsel_pure (by with_unfolding_all rfl) _ (fun hg => by (try simp at hg); simp [hg, h10, h9, h8, h7, h6, h5, hlt, hml, e]; rfl) ?_ | with_reducible refine dsel_pure (by with_unfolding_all rfl) _ (fun hg => by (try simp at hg); simp [hg, h10, h9, h8, h7, h6, h5, hlt, hml, e]; rfl) ?_ | with_reducible refine awp_draw (by kernel_rfl) (by decide +kernel) ?_)
        refine hLB (m + 1) _ ⟨by first | omega | assumption | (simp [hstep]; done) | (simp [hstep]; omega), by simp [h10, h9, h8, h7, h6, h5, hlt, hml, hstep], by simp [h10, h9, h8, h7, h6, h5, hlt, hml, hstep], by simp [h10, h9, h8, h7, h6, h5, hlt, hml, hstep], by simp [h10, h9, h8, h7, h6, h5, hlt, hml, hstep], by simp [h10, h9, h8, h7, h6, h5, hlt, hml, hstep], by simp [h10, h9, h8, h7, h6, h5, hlt, hml, hstep]⟩ (by first | omega | (simp; omega))
      have e : eqI (m : Int) k = false := by simp [eqI]; omega
      obtain ⟨j, hj⟩ : ∃ j, j = m * l.length + k := ⟨_, rfl⟩
      have hjN : j < N := by rw [hj, hN]; exact mat_lt hml hlt
      have w1 := mat_wrap1 hlen (Nat.le_of_lt hml)
      have w2 := mat_wrap2 hlen (Nat.le_of_lt hml) (Nat.le_of_lt hlt) hj
      have hd := domM_B hml hlt hj
      have g1 : (bl N (domM l))[j]? = some (bC (domM l j)) := bl_get? hjN
      by_cases hdb : domB l m k = true
      rotate_left
      · have hd2 : domM l j = false := by rw [hd]; simpa using hdb
        have hs : domStep (domB l) k b m = b := by unfold domStep; rw [if_neg (fun h => hdb h.2.1)]
        rw [hs] at hstep
        repeat (first | simp [h10, h9, h8, h7, h6, h5, hlt, hml, e, w1, w2, g1, hjN, hd2] | with_reducible refine And.intro (by omega) ?_ | with_reducible refine optK_if (by omega) ?_ | with_reducible refine optD_if (by omega) ?_ | simp (disch := omega) only [wrap_i64, if_pos, if_neg] | with_reducible refine gsel_pure (by with_unfolding_all rfl) _ (fun hg => by (try simp at hg); simp [hg, h10, h9, h8, h7, h6, h5, hlt, hml, e, w1, w2, g1, hjN, hd2]; rfl) ?_ | with_reducible refine dsel_pure (by with_unfolding_all rfl) _ (fun hg => by (try simp at hg); simp [hg, h10, h9, h8, h7, h6, h5, hlt, hml, e, w1, w2, g1, hjN, hd2]; rfl) ?_ | with_reducible refine awp_draw (by kernel_rfl) (by decide +kernel) ?_)
        refine hLB (m + 1) _ ⟨by first | omega | assumption | (simp [hstep]; done) | (simp [hstep]; omega), by simp [h10, h9, h8, h7, h6, h5, hlt, hml, hstep], by simp [h10, h9, h8, h7, h6, h5, hlt, hml, hstep], by simp [h10, h9, h8, h7, h6, h5, hlt, hml, hstep], by simp [h10, h9, h8, h7, h6, h5, hlt, hml, hstep], by simp [h10, h9, h8, h7, h6, h5, hlt, hml, hstep], by simp [h10, h9, h8, h7, h6, h5, hlt, hml, hstep]⟩ (by first | omega | (simp; omega))
      have hd2 : domM l j = true := by rw [hd]; exact hdb
      by_cases hb0 : b < 0
      · have e0 : ltI b 0 = true := by simp [ltI, hb0]
        have hs : domStep (domB l) k b m = m := by unfold domStep; rw [if_pos ⟨by omega, hdb, .inl hb0⟩]
        rw [hs] at hstep
        repeat (first | simp [h10, h9, h8, h7, h6, h5, hlt, hml, e, w1, w2, g1, hjN, hd2, e0] | with_reducible refine And.intro (by omega) ?_ | with_reducible refine optK_if (by omega) ?_ | with_reducible refine optD_if (by omega) ?_ | simp (disch := omega) only [wrap_i64, if_pos, if_neg] | with_reducible refine gsel_pure (by with_unfolding_all rfl) _ (fun hg => by (try simp at hg); simp [hg, h10, h9, h8, h7, h6, h5, hlt, hml, e, w1, w2, g1, hjN, hd2, e0]; rfl) ?_ | with_reducible refine dsel_pure (by with_unfolding_all rfl) _ (fun hg => by (try simp at hg); simp [hg, h10, h9, h8, h7, h6, h5, hlt, hml, e, w1, w2, g1, hjN, hd2, e0]; rfl) ?_ | with_reducible refine awp_draw (by kernel_rfl) (by decide +kernel) ?_)
        refine hLB (m + 1) _ ⟨by first | omega | assumption | (simp [hstep]; done) | (simp [hstep]; omega), by simp [h10, h9, h8, h7, h6, h5, hlt, hml, hstep], by simp [h10, h9, h8, h7, h6, h5, hlt, hml, hstep], by simp [h10, h9, h8, h7, h6, h5, hlt, hml, hstep], by simp [h10, h9, h8, h7, h6, h5, hlt, hml, hstep], by simp [h10, h9, h8, h7, h6, h5, hlt, hml, hstep], by simp [h10, h9, h8, h7, h6, h5, hlt, hml, hstep]⟩ (by first | omega | (simp; omega))
      obtain ⟨c, rfl⟩ : ∃ c : Nat, b = c := ⟨b.toNat, by omega⟩
      have e0 : ltI (c : Int) 0 = false := by simp [ltI]
      have hcl : c < l.length := by omega
      obtain ⟨q, hq⟩ : ∃ q, q = c * l.length + m := ⟨_, rfl⟩
      have hqN : q < N := by rw [hq, hN]; exact mat_lt hcl hml
      have w3 := mat_wrap1 hlen (Nat.le_of_lt hcl)
      have w4 := mat_wrap2 hlen (Nat.le_of_lt hcl) (Nat.le_of_lt hml) hq
      have hdq := domM_B hcl hml hq
      have g2 : (bl N (domM l))[q]? = some (bC (domM l q)) := bl_get? hqN
      by_cases hdc : domB l c m = true
      · have hd3 : domM l q = true := by rw [hdq]; exact hdc
        have hs : domStep (domB l) k c m = m := by unfold domStep; rw [if_pos ⟨by omega, hdb, .inr hdc⟩]
        rw [hs] at hstep
        repeat (first | simp [h10, h9, h8, h7, h6, h5, hlt, hml, e, w1, w2, g1, hjN, hd2, e0, w3, w4, g2, hqN, hd3] | with_reducible refine And.intro (by omega) ?_ | with_reducible refine optK_if (by omega) ?_ | with_reducible refine optD_if (by omega) ?_ | simp (disch := omega) only [wrap_i64, if_pos, if_neg] | with_reducible refine gsel_pure (by with_unfolding_all rfl) _ (fun hg => by (try simp at hg); simp [hg, h10, h9, h8, h7, h6, h5, hlt, hml, e, w1, w2, g1, hjN, hd2, e0, w3, w4, g2, hqN, hd3]; rfl) ?_ | with_reducible refine dsel_pure (by with_unfolding_all rfl) _ (fun hg => by (try simp at hg); simp [hg, h10, h9, h8, h7, h6, h5, hlt, hml, e, w1, w2, g1, hjN, hd2, e0, w3, w4, g2, hqN, hd3]; rfl) ?_ | with_reducible refine awp_draw (by kernel_rfl) (by decide +kernel) ?_)
        refine hLB (m + 1) _ ⟨by first | omega | assumption | (simp [hstep]; done) | (simp [hstep]; omega), by simp [h10, h9, h8, h7, h6, h5, hlt, hml, hstep], by simp [h10, h9, h8, h7, h6, h5, hlt, hml, hstep], by simp [h10, h9, h8, h7, h6, h5, hlt, hml, hstep], by simp [h10, h9, h8, h7, h6, h5, hlt, hml, hstep], by simp [h10, h9, h8, h7, h6, h5, hlt, hml, hstep], by simp [h10, h9, h8, h7, h6, h5, hlt, hml, hstep]⟩ (by first | omega | (simp; omega))
      · have hd3 : domM l q = false := by rw [hdq]; simpa using hdc
        have hs : domStep (domB l) k c m = c := by unfold domStep; rw [if_neg (fun h => by rcases h.2.2 with h | h; omega; exact hdc h)]
        rw [hs] at hstep
        repeat (first | simp [h10, h9, h8, h7, h6, h5, hlt, hml, e, w1, w2, g1, hjN, hd2, e0, w3, w4, g2, hqN, hd3] | with_reducible refine And.intro (by omega) ?_ | with_reducible refine optK_if (by omega) ?_ | with_reducible refine optD_if (by omega) ?_ | simp (disch := omega) only [wrap_i64, if_pos, if_neg] | with_reducible refine gsel_pure (by with_unfolding_all rfl) _ (fun hg => by (try simp at hg); simp [hg, h10, h9, h8, h7, h6, h5, hlt, hml, e, w1, w2, g1, hjN, hd2, e0, w3, w4, g2, hqN, hd3]; rfl) ?_ | with_reducible refine dsel_pure (by with_unfolding_all rfl) _ (fun hg => by (try simp at hg); simp [hg, h10, h9, h8, h7, h6, h5, hlt, hml, e, w1, w2, g1, hjN, hd2, e0, w3, w4, g2, hqN, hd3]; rfl) ?_ | with_reducible refine awp_draw (by kernel_rfl) (by decide +kernel) ?_)
        refine hLB (m + 1) _ ⟨by first | omega | assumption | (simp [hstep]; done) | (simp [hstep]; omega), by simp [h10, h9, h8, h7, h6, h5, hlt, hml, hstep], by simp [h10, h9, h8, h7, h6, h5, hlt, hml, hstep], by simp [h10, h9, h8, h7, h6, h5, hlt, hml, hstep], by simp [h10, h9, h8, h7, h6, h5, hlt, hml, hstep], by simp [h10, h9, h8, h7, h6, h5, hlt, hml, hstep], by simp [h10, h9, h8, h7, h6, h5, hlt, hml, hstep]⟩ (by first | omega | (simp; omega))
    · have : m = l.length := by omega
      subst this
      have hdl := domsL_len l k
      repeat (first | simp [h10, h9, h8, h7, h6, h5, hlt, hml] | with_reducible refine And.intro (by omega) ?_ | with_reducible refine optK_if (by omega) ?_ | with_reducible refine optD_if (by omega) ?_ | simp (disch := omega) only [wrap_i64, if_pos, if_neg] | with_reducible refine gsel_pure (by with_unfolding_all rfl) _ (fun hg => by (try simp at hg); simp [hg, h10, h9, h8, h7, h6, h5, hlt, hml]; rfl) ?_ | with_reducible refine dsel_pure (by with_unfolding_all rfl) _ (fun hg => by (try simp at hg); simp [hg, h10, h9, h8, h7, h6, h5, hlt, hml]; rfl) ?_ | with_reducible refine awp_draw (by kernel_rfl) (by decide +kernel) ?_)
      refine hLA (k + 1) _ ⟨by first | omega | assumption | (simp [domsL_succ, intsC_append]; done) | (simp [domsL_succ, intsC_append]; omega), by simp [h10, h9, h8, h7, h6, h5, hlt, hml, domsL_succ, intsC_append], by simp [h10, h9, h8, h7, h6, h5, hlt, hml, domsL_succ, intsC_append], by simp [h10, h9, h8, h7, h6, h5, hlt, hml, domsL_succ, intsC_append], by simp [h10, h9, h8, h7, h6, h5, hlt, hml, domsL_succ, intsC_append]⟩ (by first | omega | (simp; omega))
  · have : k = l.length := by omega
    subst this
    repeat (first | simp [h8, h7, h6, h5, hlt] | with_reducible refine And.intro (by omega) ?_ | with_reducible refine optK_if (by omega) ?_ | with_reducible refine optD_if (by omega) ?_ | simp (disch := omega) only [wrap_i64, if_pos, if_neg] | with_reducible refine gsel_pure (by with_unfolding_all rfl) _ (fun hg => by (try simp at hg); simp [hg, h8, h7, h6, h5, hlt]; rfl) ?_ | with_reducible refine dsel_pure (by with_unfolding_all rfl) _ (fun hg => by (try simp at hg); simp [hg, h8, h7, h6, h5, hlt]; rfl) ?_ | with_reducible refine awp_draw (by kernel_rfl) (by decide +kernel) ?_)
    refine hQ _ _ (ret2 (by simp [retAV, resAV]; rfl) (by simp; rfl) ?_)
    simp [hf]
end Go.Proofs
end
section
set_option linter.all false
namespace Go.Dr
open Go.Fw
/-- Where loops of h end, as found so far. -/
def enS (l : List I8) (h i k x : Nat) : Bool := (decide (x < i) && enR l h x (sucs l x).length) || (decide (x = i) && enR l h i k)
theorem enS_zero {l : List I8} {h n : Nat} : bl n (enS l h 0 0) = bl n fun _ => false := bl_congr fun i _ => by simp [enS, enR]
theorem enS_next {l : List I8} {h i n : Nat} : bl n (enS l h (i + 1) 0) = bl n (enS l h i (sucs l i).length) := by
  apply bl_congr
  intro x _
  unfold enS
  have h0 : enR l h (i + 1) 0 = false := by simp [enR]
  rw [h0]
  by_cases e : x = i
  · subst e; simp
  · have : decide (x < i + 1) = decide (x < i) := by rw [decide_eq_decide]; omega
    rw [this]; simp [e]
theorem enR_succ {l : List I8} {h i k : Nat} (hk : k < (sucs l i).length) : enR l h i (k + 1) = (enR l h i k || (decide ((sucs l i)[k] = h) && domR l h i)) := by
  unfold enR
  rw [List.take_succ_eq_append_getElem hk]
  by_cases e : (sucs l i)[k] = h
  · simp [e]
  · have : ¬ h = (sucs l i)[k] := fun x => e x.symm
    simp only [List.mem_append, List.mem_singleton, this, or_false, e, decide_false, Bool.false_and, Bool.or_false]
theorem enS_hit {l : List I8} {h i k n : Nat} (hk : k < (sucs l i).length) (e : (sucs l i)[k] = h) (d : domR l h i = true) : (bl n (enS l h i k)).set i (bC true) = bl n (enS l h i (k + 1)) := by
  rw [bl_set]
  apply bl_congr
  intro x _
  unfold upB enS
  rw [enR_succ hk]
  split
  · rename_i ex; simp [ex, e, d]
  · rename_i ex; simp [ex]
theorem enS_miss {l : List I8} {h i k n : Nat} (hk : k < (sucs l i).length) (e : ¬ (sucs l i)[k] = h ∨ domR l h i = false) : bl n (enS l h i (k + 1)) = bl n (enS l h i k) := by
  apply bl_congr
  intro x _
  unfold enS
  rw [enR_succ hk]
  rcases e with e | e <;> simp [e]
abbrev EndP (l : List I8) (h x : Nat) : Prop := x ∈ endsL l (domB l) h l.length
theorem enS_start {l : List I8} {h : Nat} (hh : h < l.length) : LPs l h (EndP l h) 0 (enS l h l.length 0) := by
  have h0 : ∀ x, enS l h l.length 0 x = true ↔ EndP l h x := by
    intro x
    rw [EndP, ends_iff hh]
    unfold enS
    have : enR l h l.length 0 = false := by simp [enR]
    rw [this]; simp
  exact ⟨fun x hx => ⟨0, (h0 x).1 hx⟩, fun x hx => (h0 x).2 hx⟩
abbrev listsA (L : List (List Nat)) : AV := .cell (.p (.sl L.length (listsC L)))
end Go.Dr
namespace Go.Proofs
open Go.Fw Go.Dr
set_option maxRecDepth 100000

set_option maxHeartbeats 4000000 in
theorem at_loop (name : ByteArray) (l : List I8) (ok : OkL l) (h : Nat) (hh : h < l.length) : At Tryd.prog 56 [fAV name l, boolsA (l.length * l.length) (domM l), iV .i64 h] (intsA (natI (loopL l h))) := by
  have hlen := ok.len
  refine at_pure (r := .cell (.own 0 1 (loopL l h).length (intsC (natI (loopL l h))))) ?_ (by simp)
  obtain ⟨N, hN⟩ : ∃ N, N = l.length * l.length := ⟨_, rfl⟩
  rw [← hN]
  refine at_code mixed Tryd.func56 (by kernel_rfl) rfl (by kernel_rfl) (by kernel_rfl) rfl fun Q hQ => ?_
  repeat (first | simp [repC_bl] | with_reducible refine And.intro (by omega) ?_ | with_reducible refine optK_if (by omega) ?_ | with_reducible refine optD_if (by omega) ?_ | simp (disch := omega) only [wrap_i64, if_pos, if_neg] | with_reducible refine gsel_pure (by with_unfolding_all rfl) _ (fun hg => by (try simp at hg); simp [hg, repC_bl]; rfl) ?_ | with_reducible refine dsel_pure (by with_unfolding_all rfl) _ (fun hg => by (try simp at hg); simp [hg, repC_bl]; rfl) ?_ | with_reducible refine awp_draw (by kernel_rfl) (by decide +kernel) ?_)
  refine awp_loopV (fun (i : Nat) (s : St) => (i ≤ l.length) ∧ s.env 9 = iV .i64 i ∧ s.env 8 = .cell (.own 131136 1 l.length (bl l.length (enS l h i 0))) ∧ s.env 7 = iV .i64 l.length ∧ s.env 2 = iV .i64 h ∧ s.env 1 = boolsA N (domM l) ∧ s.env 3 = .cell (.ptr 0 0) ∧ s.box 0 = some ([.p (sC name), .p (.sl l.length (codeC l))])) (fun (i : Nat) => l.length - i) (0) ⟨by first | omega | assumption | (simp [repC_bl, enS_zero]; done) | (simp [repC_bl, enS_zero]; omega), by simp [repC_bl, enS_zero], by simp [repC_bl, enS_zero], by simp [repC_bl, enS_zero], by simp [repC_bl, enS_zero], by simp [repC_bl, enS_zero], by simp [repC_bl, enS_zero], by simp [repC_bl, enS_zero]⟩ fun i s hsA LA hLA => ?_
  obtain ⟨hi, h9, h8, h7, h2, h1, h3, b0⟩ := hsA
  repeat (first | simp [h9, h8, h7, h2, h1, h3, b0] | with_reducible refine And.intro (by omega) ?_ | with_reducible refine optK_if (by omega) ?_ | with_reducible refine optD_if (by omega) ?_ | simp (disch := omega) only [wrap_i64, if_pos, if_neg] | with_reducible refine gsel_pure (by with_unfolding_all rfl) _ (fun hg => by (try simp at hg); simp [hg, h9, h8, h7, h2, h1, h3, b0]; rfl) ?_ | with_reducible refine dsel_pure (by with_unfolding_all rfl) _ (fun hg => by (try simp at hg); simp [hg, h9, h8, h7, h2, h1, h3, b0]; rfl) ?_ | with_reducible refine awp_draw (by kernel_rfl) (by decide +kernel) ?_)
  (with_reducible refine condK_intro (fun hli => ?_) (fun hli => ?_)) <;> (try simp only [hli]) <;> (try simp [andB, orB, eqI, ltI, Int.natCast_inj] at hli)
  · repeat (first | simp [h9, h8, h7, h2, h1, h3, b0, hli] | with_reducible refine And.intro (by omega) ?_ | with_reducible refine optK_if (by omega) ?_ | with_reducible refine optD_if (by omega) ?_ | simp (disch := omega) only [wrap_i64, if_pos, if_neg] | with_reducible refine gsel_pure (by with_unfolding_all rfl) _ (fun hg => by (try simp at hg); simp [hg, h9, h8, h7, h2, h1, h3, b0, hli]; rfl) ?_ | with_reducible refine dsel_pure (by with_unfolding_all rfl) _ (fun hg => by (try simp at hg); simp [hg, h9, h8, h7, h2, h1, h3, b0, hli]; rfl) ?_ | with_reducible refine awp_draw (by kernel_rfl) (by decide +kernel) ?_)
    refine gop_call' (at_r12succ name l ok i hli) (by (first | simp [h9, h8, h7, h2, h1, h3, b0, hli] | simp (disch := omega) [h9, h8, h7, h2, h1, h3, b0, hli, wrap_i64]); try rfl) (by simp) (by simp) ?_
    repeat (first | simp [h9, h8, h7, h2, h1, h3, b0, hli] | with_reducible refine And.intro (by omega) ?_ | with_reducible refine optK_if (by omega) ?_ | with_reducible refine optD_if (by omega) ?_ | simp (disch := omega) only [wrap_i64, if_pos, if_neg] | with_reducible refine gsel_pure (by with_unfolding_all rfl) _ (fun hg => by (try simp at hg); simp [hg, h9, h8, h7, h2, h1, h3, b0, hli]; rfl) ?_ | with_reducible refine dsel_pure (by with_unfolding_all rfl) _ (fun hg => by (try simp at hg); simp [hg, h9, h8, h7, h2, h1, h3, b0, hli]; rfl) ?_ | with_reducible refine awp_draw (by kernel_rfl) (by decide +kernel) ?_)
    have hsl := sucs_len l i
    refine awp_loopV (fun (k : Nat) (s : St) => (k ≤ (sucs l i).length) ∧ s.env 11 = iV .i64 k ∧ s.env 10 = intsA (natI (sucs l i)) ∧ s.env 9 = iV .i64 i ∧ s.env 8 = .cell (.own 131136 1 l.length (bl l.length (enS l h i k))) ∧ s.env 7 = iV .i64 l.length ∧ s.env 2 = iV .i64 h ∧ s.env 1 = boolsA N (domM l) ∧ s.env 3 = .cell (.ptr 0 0) ∧ s.box 0 = some ([.p (sC name), .p (.sl l.length (codeC l))])) (fun (k : Nat) => (sucs l i).length - k) (0) ⟨by first | omega | assumption | (simp; done) | (simp; omega), by simp [h9, h8, h7, h2, h1, h3, b0, hli], by simp [h9, h8, h7, h2, h1, h3, b0, hli], by simp [h9, h8, h7, h2, h1, h3, b0, hli], by simp [h9, h8, h7, h2, h1, h3, b0, hli], by simp [h9, h8, h7, h2, h1, h3, b0, hli], by simp [h9, h8, h7, h2, h1, h3, b0, hli], by simp [h9, h8, h7, h2, h1, h3, b0, hli], by simp [h9, h8, h7, h2, h1, h3, b0, hli], by simp [h9, h8, h7, h2, h1, h3, b0, hli]⟩ fun k s hsB LB hLB => ?_
    obtain ⟨hk, h11, h10, h9, h8, h7, h2, h1, h3, b0⟩ := hsB
    repeat (first | simp [h11, h10, h9, h8, h7, h2, h1, h3, b0, hli] | with_reducible refine And.intro (by omega) ?_ | with_reducible refine optK_if (by omega) ?_ | with_reducible refine optD_if (by omega) ?_ | simp (disch := omega) only [wrap_i64, if_pos, if_neg] | with_reducible refine gsel_pure (by with_unfolding_all rfl) _ (fun hg => by (try simp at hg); simp [hg, h11, h10, h9, h8, h7, h2, h1, h3, b0, hli]; rfl) ?_ | with_reducible refine dsel_pure (by with_unfolding_all rfl) _ (fun hg => by (try simp at hg); simp [hg, h11, h10, h9, h8, h7, h2, h1, h3, b0, hli]; rfl) ?_ | with_reducible refine awp_draw (by kernel_rfl) (by decide +kernel) ?_)
    (with_reducible refine condK_intro (fun hkk => ?_) (fun hkk => ?_)) <;> (try simp only [hkk]) <;> (try simp [andB, orB, eqI, ltI, Int.natCast_inj] at hkk)
    · obtain ⟨m, hm⟩ : ∃ m, m = h * l.length + i := ⟨_, rfl⟩
      have hml : m < N := by rw [hm, hN]; exact mat_lt hh hli
      have w1 := mat_wrap1 hlen (Nat.le_of_lt hh)
      have w2 := mat_wrap2 hlen (Nat.le_of_lt hh) (Nat.le_of_lt hli) hm
      have hd := domM_at hh hli hm
      have g1 : (bl N (domM l))[m]? = some (bC (domM l m)) := bl_get? hml
      have hx : (intsC (natI (sucs l i)))[k]? = some (iC (sucs l i)[k]) := by rw [intsC_get? _ (by simpa using hkk)]; simp [natI]
      have hX : (natI (sucs l i))[k]'(by simpa using hkk) = ((sucs l i)[k] : Int) := by simp [natI]
      by_cases e : (sucs l i)[k] = h
      · have e2 : eqI ((sucs l i)[k] : Int) h = true := by simp [eqI, e]
        by_cases d : domR l h i = true
        · have hs := enS_hit (n := l.length) hkk e d
          have d2 : domM l m = true := hd.trans d
          repeat (first | simp [h11, h10, h9, h8, h7, h2, h1, h3, b0, hli, hkk, hx, hX, hkk, e2, w1, w2, g1, hml, d2] | with_reducible refine And.intro (by omega) ?_ | with_reducible refine optK_if (by omega) ?_ | with_reducible refine optD_if (by omega) ?_ | simp (disch := omega) only [wrap_i64, if_pos, if_neg] | with_reducible refine gsel_pure (by with_unfolding_all rfl) _ (fun hg => by (try simp at hg); simp [hg, h11, h10, h9, h8, h7, h2, h1, h3, b0, hli, hkk, hx, hX, hkk, e2, w1, w2, g1, hml, d2]; rfl) ?_ | with_reducible refine dsel_pure (by with_unfolding_all rfl) _ (fun hg => by (try simp at hg); simp [hg, h11, h10, h9, h8, h7, h2, h1, h3, b0, hli, hkk, hx, hX, hkk, e2, w1, w2, g1, hml, d2]; rfl) ?_ | with_reducible refine awp_draw (by kernel_rfl) (by decide +kernel) ?_)
          refine hLB (k + 1) _ ⟨by first | omega | assumption | (simp [hs]; done) | (simp [hs]; omega), by simp [h11, h10, h9, h8, h7, h2, h1, h3, b0, hli, hkk, hs], by simp [h11, h10, h9, h8, h7, h2, h1, h3, b0, hli, hkk, hs], by simp [h11, h10, h9, h8, h7, h2, h1, h3, b0, hli, hkk, hs], by simp [h11, h10, h9, h8, h7, h2, h1, h3, b0, hli, hkk, hs], by simp [h11, h10, h9, h8, h7, h2, h1, h3, b0, hli, hkk, hs], by simp [h11, h10, h9, h8, h7, h2, h1, h3, b0, hli, hkk, hs], by simp [h11, h10, h9, h8, h7, h2, h1, h3, b0, hli, hkk, hs], by simp [h11, h10, h9, h8, h7, h2, h1, h3, b0, hli, hkk, hs], by simp [h11, h10, h9, h8, h7, h2, h1, h3, b0, hli, hkk, hs]⟩ (by first | omega | (simp; omega))
        · have d1 : domR l h i = false := by simpa using d
          have d2 : domM l m = false := hd.trans d1
          have hs := enS_miss (n := l.length) hkk (.inr d1)
          repeat (first | simp [h11, h10, h9, h8, h7, h2, h1, h3, b0, hli, hkk, hx, hX, hkk, e2, w1, w2, g1, hml, d2] | with_reducible refine And.intro (by omega) ?_ | with_reducible refine optK_if (by omega) ?_ | with_reducible refine optD_if (by omega) ?_ | simp (disch := omega) only [wrap_i64, if_pos, if_neg] | with_reducible refine gsel_pure (by with_unfolding_all rfl) _ (fun hg => by (try simp at hg); simp [hg, h11, h10, h9, h8, h7, h2, h1, h3, b0, hli, hkk, hx, hX, hkk, e2, w1, w2, g1, hml, d2]; rfl) ?_ | with_reducible refine dsel_pure (by with_unfolding_all rfl) _ (fun hg => by (try simp at hg); simp [hg, h11, h10, h9, h8, h7, h2, h1, h3, b0, hli, hkk, hx, hX, hkk, e2, w1, w2, g1, hml, d2]; rfl) ?_ | with_reducible refine awp_draw (by kernel_rfl) (by decide +kernel) ?_)
          refine hLB (k + 1) _ ⟨by first | omega | assumption | (simp [hs]; done) | (simp [hs]; omega), by simp [h11, h10, h9, h8, h7, h2, h1, h3, b0, hli, hkk, hs], by simp [h11, h10, h9, h8, h7, h2, h1, h3, b0, hli, hkk, hs], by simp [h11, h10, h9, h8, h7, h2, h1, h3, b0, hli, hkk, hs], by simp [h11, h10, h9, h8, h7, h2, h1, h3, b0, hli, hkk, hs], by simp [h11, h10, h9, h8, h7, h2, h1, h3, b0, hli, hkk, hs], by simp [h11, h10, h9, h8, h7, h2, h1, h3, b0, hli, hkk, hs], by simp [h11, h10, h9, h8, h7, h2, h1, h3, b0, hli, hkk, hs], by simp [h11, h10, h9, h8, h7, h2, h1, h3, b0, hli, hkk, hs], by simp [h11, h10, h9, h8, h7, h2, h1, h3, b0, hli, hkk, hs]⟩ (by first | omega | (simp; omega))
      · have e2 : eqI ((sucs l i)[k] : Int) h = false := by simp [eqI]; omega
        have hs := enS_miss (n := l.length) hkk (.inl e)
        repeat (first | simp [h11, h10, h9, h8, h7, h2, h1, h3, b0, hli, hkk, hx, hX, hkk, e2] | with_reducible refine And.intro (by omega) ?_ | with_reducible refine optK_if (by omega) ?_ | with_reducible refine optD_if (by omega) ?_ | simp (disch := omega) only [wrap_i64, if_pos, if_neg] | with_reducible refine gsel_pure (by with_unfolding_all rfl) _ (fun hg => by (try simp at hg); simp [hg, h11, h10, h9, h8, h7, h2, h1, h3, b0, hli, hkk, hx, hX, hkk, e2]; rfl) ?_ | with_reducible refine dsel_pure (by with_unfolding_all rfl) _ (fun hg => by (try simp at hg); simp [hg, h11, h10, h9, h8, h7, h2, h1, h3, b0, hli, hkk, hx, hX, hkk, e2]; rfl) ?_ | with_reducible refine awp_draw (by kernel_rfl) (by decide +kernel) ?_)
        refine hLB (k + 1) _ ⟨by first | omega | assumption | (simp [hs]; done) | (simp [hs]; omega), by simp [h11, h10, h9, h8, h7, h2, h1, h3, b0, hli, hkk, hs], by simp [h11, h10, h9, h8, h7, h2, h1, h3, b0, hli, hkk, hs], by simp [h11, h10, h9, h8, h7, h2, h1, h3, b0, hli, hkk, hs], by simp [h11, h10, h9, h8, h7, h2, h1, h3, b0, hli, hkk, hs], by simp [h11, h10, h9, h8, h7, h2, h1, h3, b0, hli, hkk, hs], by simp [h11, h10, h9, h8, h7, h2, h1, h3, b0, hli, hkk, hs], by simp [h11, h10, h9, h8, h7, h2, h1, h3, b0, hli, hkk, hs], by simp [h11, h10, h9, h8, h7, h2, h1, h3, b0, hli, hkk, hs], by simp [h11, h10, h9, h8, h7, h2, h1, h3, b0, hli, hkk, hs]⟩ (by first | omega | (simp; omega))
    · have : k = (sucs l i).length := by omega
      subst this
      repeat (first | simp [h11, h10, h9, h8, h7, h2, h1, h3, b0, hli, hkk] | with_reducible refine And.intro (by omega) ?_ | with_reducible refine optK_if (by omega) ?_ | with_reducible refine optD_if (by omega) ?_ | simp (disch := omega) only [wrap_i64, if_pos, if_neg] | with_reducible refine gsel_pure (by with_unfolding_all rfl) _ (fun hg => by (try simp at hg); simp [hg, h11, h10, h9, h8, h7, h2, h1, h3, b0, hli, hkk]; rfl) ?_ | with_reducible refine dsel_pure (by with_unfolding_all rfl) _ (fun hg => by (try simp at hg); simp [hg, h11, h10, h9, h8, h7, h2, h1, h3, b0, hli, hkk]; rfl) ?_ | with_reducible refine awp_draw (by kernel_rfl) (by decide +kernel) ?_)
      refine hLA (i + 1) _ ⟨by first | omega | assumption | (simp [enS_next]; done) | (simp [enS_next]; omega), by simp [h11, h10, h9, h8, h7, h2, h1, h3, b0, hli, hkk, enS_next], by simp [h11, h10, h9, h8, h7, h2, h1, h3, b0, hli, hkk, enS_next], by simp [h11, h10, h9, h8, h7, h2, h1, h3, b0, hli, hkk, enS_next], by simp [h11, h10, h9, h8, h7, h2, h1, h3, b0, hli, hkk, enS_next], by simp [h11, h10, h9, h8, h7, h2, h1, h3, b0, hli, hkk, enS_next], by simp [h11, h10, h9, h8, h7, h2, h1, h3, b0, hli, hkk, enS_next], by simp [h11, h10, h9, h8, h7, h2, h1, h3, b0, hli, hkk, enS_next]⟩ (by first | omega | (simp; omega))
  · have : i = l.length := by omega
    subst this
    have hS0 := enS_start hh
    generalize enS l h l.length 0 = S0 at *
    repeat (first | simp [h9, h8, h7, h2, h1, h3, b0, hli] | with_reducible refine And.intro (by omega) ?_ | with_reducible refine optK_if (by omega) ?_ | with_reducible refine optD_if (by omega) ?_ | simp (disch := omega) only [wrap_i64, if_pos, if_neg] | with_reducible refine gsel_pure (by with_unfolding_all rfl) _ (fun hg => by (try simp at hg); simp [hg, h9, h8, h7, h2, h1, h3, b0, hli]; rfl) ?_ | with_reducible refine dsel_pure (by with_unfolding_all rfl) _ (fun hg => by (try simp at hg); simp [hg, h9, h8, h7, h2, h1, h3, b0, hli]; rfl) ?_ | with_reducible refine awp_draw (by kernel_rfl) (by decide +kernel) ?_)
    refine gop_call' (at_without name l ok (-1)) (by (first | simp [h9, h8, h7, h2, h1, h3, b0, hli] | simp (disch := omega) [h9, h8, h7, h2, h1, h3, b0, hli, wrap_i64]); try rfl) (by simp) (by simp) ?_
    repeat (first | simp [h9, h8, h7, h2, h1, h3, b0, hli] | with_reducible refine And.intro (by omega) ?_ | with_reducible refine optK_if (by omega) ?_ | with_reducible refine optD_if (by omega) ?_ | simp (disch := omega) only [wrap_i64, if_pos, if_neg] | with_reducible refine gsel_pure (by with_unfolding_all rfl) _ (fun hg => by (try simp at hg); simp [hg, h9, h8, h7, h2, h1, h3, b0, hli]; rfl) ?_ | with_reducible refine dsel_pure (by with_unfolding_all rfl) _ (fun hg => by (try simp at hg); simp [hg, h9, h8, h7, h2, h1, h3, b0, hli]; rfl) ?_ | with_reducible refine awp_draw (by kernel_rfl) (by decide +kernel) ?_)
    refine awp_loopV (fun ((p, S) : Nat × (Nat → Bool)) (s : St) => (p ≤ l.length) ∧ (LPs l h (EndP l h) p S) ∧ s.env 13 = iV .i64 p ∧ s.env 12 = boolsA l.length (wOn l (-1)) ∧ s.env 8 = .cell (.own 131136 1 l.length (bl l.length S)) ∧ s.env 7 = iV .i64 l.length ∧ s.env 2 = iV .i64 h ∧ s.env 3 = .cell (.ptr 0 0) ∧ s.box 0 = some ([.p (sC name), .p (.sl l.length (codeC l))])) (fun ((p, S) : Nat × (Nat → Bool)) => l.length - p) ((0, S0)) ⟨by first | omega | assumption | (simp [hS0]; done) | (simp [hS0]; omega), by first | omega | assumption | (simp [hS0]; done) | (simp [hS0]; omega), by simp [h9, h8, h7, h2, h1, h3, b0, hli, hS0], by simp [h9, h8, h7, h2, h1, h3, b0, hli, hS0], by simp [h9, h8, h7, h2, h1, h3, b0, hli, hS0], by simp [h9, h8, h7, h2, h1, h3, b0, hli, hS0], by simp [h9, h8, h7, h2, h1, h3, b0, hli, hS0], by simp [h9, h8, h7, h2, h1, h3, b0, hli, hS0], by simp [h9, h8, h7, h2, h1, h3, b0, hli, hS0]⟩ fun (p, S) s hsC LC hLC => ?_
    obtain ⟨hp, hW, h13, h12, h8, h7, h2, h3, b0⟩ := hsC
    repeat (first | simp [h13, h12, h8, h7, h2, h3, b0, hli] | with_reducible refine And.intro (by omega) ?_ | with_reducible refine optK_if (by omega) ?_ | with_reducible refine optD_if (by omega) ?_ | simp (disch := omega) only [wrap_i64, if_pos, if_neg] | with_reducible refine gsel_pure (by with_unfolding_all rfl) _ (fun hg => by (try simp at hg); simp [hg, h13, h12, h8, h7, h2, h3, b0, hli]; rfl) ?_ | with_reducible refine dsel_pure (by with_unfolding_all rfl) _ (fun hg => by (try simp at hg); simp [hg, h13, h12, h8, h7, h2, h3, b0, hli]; rfl) ?_ | with_reducible refine awp_draw (by kernel_rfl) (by decide +kernel) ?_)
    (with_reducible refine condK_intro (fun hlp => ?_) (fun hlp => ?_)) <;> (try simp only [hlp]) <;> (try simp [andB, orB, eqI, ltI, Int.natCast_inj] at hlp)
    · repeat (first | simp [h13, h12, h8, h7, h2, h3, b0, hli, hlp] | with_reducible refine And.intro (by omega) ?_ | with_reducible refine optK_if (by omega) ?_ | with_reducible refine optD_if (by omega) ?_ | simp (disch := omega) only [wrap_i64, if_pos, if_neg] | with_reducible refine gsel_pure (by with_unfolding_all rfl) _ (fun hg => by (try simp at hg); simp [hg, h13, h12, h8, h7, h2, h3, b0, hli, hlp]; rfl) ?_ | with_reducible refine dsel_pure (by with_unfolding_all rfl) _ (fun hg => by (try simp at hg); simp [hg, h13, h12, h8, h7, h2, h3, b0, hli, hlp]; rfl) ?_ | with_reducible refine awp_draw (by kernel_rfl) (by decide +kernel) ?_)
      have hD0 := LI.start hW
      refine awp_loopV (fun ((i, S) : Nat × (Nat → Bool)) (s : St) => (i ≤ l.length) ∧ (LI l h (EndP l h) p i 0 S) ∧ s.env 14 = iV .i64 i ∧ s.env 13 = iV .i64 p ∧ s.env 12 = boolsA l.length (wOn l (-1)) ∧ s.env 8 = .cell (.own 131136 1 l.length (bl l.length S)) ∧ s.env 7 = iV .i64 l.length ∧ s.env 2 = iV .i64 h ∧ s.env 3 = .cell (.ptr 0 0) ∧ s.box 0 = some ([.p (sC name), .p (.sl l.length (codeC l))])) (fun ((i, S) : Nat × (Nat → Bool)) => l.length - i) ((0, S)) ⟨by first | omega | assumption | (simp; done) | (simp; omega), by first | omega | assumption | (simp; done) | (simp; omega), by simp [h13, h12, h8, h7, h2, h3, b0, hli, hlp], by simp [h13, h12, h8, h7, h2, h3, b0, hli, hlp], by simp [h13, h12, h8, h7, h2, h3, b0, hli, hlp], by simp [h13, h12, h8, h7, h2, h3, b0, hli, hlp], by simp [h13, h12, h8, h7, h2, h3, b0, hli, hlp], by simp [h13, h12, h8, h7, h2, h3, b0, hli, hlp], by simp [h13, h12, h8, h7, h2, h3, b0, hli, hlp], by simp [h13, h12, h8, h7, h2, h3, b0, hli, hlp]⟩ fun (i, S) s hsD LD hLD => ?_
      obtain ⟨hi, hI, h14, h13, h12, h8, h7, h2, h3, b0⟩ := hsD
      repeat (first | simp [h14, h13, h12, h8, h7, h2, h3, b0, hli, hlp] | with_reducible refine And.intro (by omega) ?_ | with_reducible refine optK_if (by omega) ?_ | with_reducible refine optD_if (by omega) ?_ | simp (disch := omega) only [wrap_i64, if_pos, if_neg] | with_reducible refine gsel_pure (by with_unfolding_all rfl) _ (fun hg => by (try simp at hg); simp [hg, h14, h13, h12, h8, h7, h2, h3, b0, hli, hlp]; rfl) ?_ | with_reducible refine dsel_pure (by with_unfolding_all rfl) _ (fun hg => by (try simp at hg); simp [hg, h14, h13, h12, h8, h7, h2, h3, b0, hli, hlp]; rfl) ?_ | with_reducible refine awp_draw (by kernel_rfl) (by decide +kernel) ?_)
      (with_reducible refine condK_intro (fun hli => ?_) (fun hli => ?_)) <;> (try simp only [hli]) <;> (try simp [andB, orB, eqI, ltI, Int.natCast_inj] at hli)
      · repeat (first | simp [h14, h13, h12, h8, h7, h2, h3, b0, hlp, hli] | with_reducible refine And.intro (by omega) ?_ | with_reducible refine optK_if (by omega) ?_ | with_reducible refine optD_if (by omega) ?_ | simp (disch := omega) only [wrap_i64, if_pos, if_neg] | with_reducible refine gsel_pure (by with_unfolding_all rfl) _ (fun hg => by (try simp at hg); simp [hg, h14, h13, h12, h8, h7, h2, h3, b0, hlp, hli]; rfl) ?_ | with_reducible refine dsel_pure (by with_unfolding_all rfl) _ (fun hg => by (try simp at hg); simp [hg, h14, h13, h12, h8, h7, h2, h3, b0, hlp, hli]; rfl) ?_ | with_reducible refine awp_draw (by kernel_rfl) (by decide +kernel) ?_)
        refine gop_call' (at_r12succ name l ok i hli) (by (first | simp [h14, h13, h12, h8, h7, h2, h3, b0, hlp, hli] | simp (disch := omega) [h14, h13, h12, h8, h7, h2, h3, b0, hlp, hli, wrap_i64]); try rfl) (by simp) (by simp) ?_
        repeat (first | simp [h14, h13, h12, h8, h7, h2, h3, b0, hlp, hli] | with_reducible refine And.intro (by omega) ?_ | with_reducible refine optK_if (by omega) ?_ | with_reducible refine optD_if (by omega) ?_ | simp (disch := omega) only [wrap_i64, if_pos, if_neg] | with_reducible refine gsel_pure (by with_unfolding_all rfl) _ (fun hg => by (try simp at hg); simp [hg, h14, h13, h12, h8, h7, h2, h3, b0, hlp, hli]; rfl) ?_ | with_reducible refine dsel_pure (by with_unfolding_all rfl) _ (fun hg => by (try simp at hg); simp [hg, h14, h13, h12, h8, h7, h2, h3, b0, hlp, hli]; rfl) ?_ | with_reducible refine awp_draw (by kernel_rfl) (by decide +kernel) ?_)
        have hsl := sucs_len l i
        have hsn : ∀ x ∈ sucs l i, x ≤ l.length := fun x hx => sucs_le ok hx
        refine awp_loopV (fun ((k, S) : Nat × (Nat → Bool)) (s : St) => (k ≤ (sucs l i).length) ∧ (LI l h (EndP l h) p i k S) ∧ s.env 16 = iV .i64 k ∧ s.env 15 = intsA (natI (sucs l i)) ∧ s.env 14 = iV .i64 i ∧ s.env 13 = iV .i64 p ∧ s.env 12 = boolsA l.length (wOn l (-1)) ∧ s.env 8 = .cell (.own 131136 1 l.length (bl l.length S)) ∧ s.env 7 = iV .i64 l.length ∧ s.env 2 = iV .i64 h ∧ s.env 3 = .cell (.ptr 0 0) ∧ s.box 0 = some ([.p (sC name), .p (.sl l.length (codeC l))])) (fun ((k, S) : Nat × (Nat → Bool)) => (sucs l i).length - k) ((0, S)) ⟨by first | omega | assumption | (simp; done) | (simp; omega), by first | omega | assumption | (simp; done) | (simp; omega), by simp [h14, h13, h12, h8, h7, h2, h3, b0, hlp, hli], by simp [h14, h13, h12, h8, h7, h2, h3, b0, hlp, hli], by simp [h14, h13, h12, h8, h7, h2, h3, b0, hlp, hli], by simp [h14, h13, h12, h8, h7, h2, h3, b0, hlp, hli], by simp [h14, h13, h12, h8, h7, h2, h3, b0, hlp, hli], by simp [h14, h13, h12, h8, h7, h2, h3, b0, hlp, hli], by simp [h14, h13, h12, h8, h7, h2, h3, b0, hlp, hli], by simp [h14, h13, h12, h8, h7, h2, h3, b0, hlp, hli], by simp [h14, h13, h12, h8, h7, h2, h3, b0, hlp, hli], by simp [h14, h13, h12, h8, h7, h2, h3, b0, hlp, hli]⟩ fun (k, S) s hsE LE hLE => ?_
        obtain ⟨hk, hJ, h16, h15, h14, h13, h12, h8, h7, h2, h3, b0⟩ := hsE
        repeat (first | simp [h16, h15, h14, h13, h12, h8, h7, h2, h3, b0, hlp, hli] | with_reducible refine And.intro (by omega) ?_ | with_reducible refine optK_if (by omega) ?_ | with_reducible refine optD_if (by omega) ?_ | simp (disch := omega) only [wrap_i64, if_pos, if_neg] | with_reducible refine gsel_pure (by with_unfolding_all rfl) _ (fun hg => by (try simp at hg); simp [hg, h16, h15, h14, h13, h12, h8, h7, h2, h3, b0, hlp, hli]; rfl) ?_ | with_reducible refine dsel_pure (by with_unfolding_all rfl) _ (fun hg => by (try simp at hg); simp [hg, h16, h15, h14, h13, h12, h8, h7, h2, h3, b0, hlp, hli]; rfl) ?_ | with_reducible refine awp_draw (by kernel_rfl) (by decide +kernel) ?_)
        (with_reducible refine condK_intro (fun hkk => ?_) (fun hkk => ?_)) <;> (try simp only [hkk]) <;> (try simp [andB, orB, eqI, ltI, Int.natCast_inj] at hkk)
        · have g0 : (bl l.length (wOn l (-1)))[i]? = some (bC (wOn l (-1) i)) := bl_get? hli
          have hx : (intsC (natI (sucs l i)))[k]? = some (iC (sucs l i)[k]) := by rw [intsC_get? _ (by simpa using hkk)]; simp [natI]
          have hX : (natI (sucs l i))[k]'(by simpa using hkk) = ((sucs l i)[k] : Int) := by simp [natI]
          by_cases ho : wOn l (-1) i = true
          rotate_left
          · have o2 : wOn l (-1) i = false := by simpa using ho
            repeat (first | simp [h16, h15, h14, h13, h12, h8, h7, h2, h3, b0, hlp, hli, hkk, hli, g0, o2] | with_reducible refine And.intro (by omega) ?_ | with_reducible refine optK_if (by omega) ?_ | with_reducible refine optD_if (by omega) ?_ | simp (disch := omega) only [wrap_i64, if_pos, if_neg] | with_reducible refine gsel_pure (by with_unfolding_all rfl) _ (fun hg => by (try simp at hg); simp [hg, h16, h15, h14, h13, h12, h8, h7, h2, h3, b0, hlp, hli, hkk, hli, g0, o2]; rfl) ?_ | with_reducible refine dsel_pure (by with_unfolding_all rfl) _ (fun hg => by (try simp at hg); simp [hg, h16, h15, h14, h13, h12, h8, h7, h2, h3, b0, hlp, hli, hkk, hli, g0, o2]; rfl) ?_ | with_reducible refine awp_draw (by kernel_rfl) (by decide +kernel) ?_)
            refine hLE ((k + 1, S)) _ ⟨by first | omega | assumption | (simp; done) | (simp; omega), by exact hJ.skip hkk (.inl o2), by simp [h16, h15, h14, h13, h12, h8, h7, h2, h3, b0, hlp, hli, hkk], by simp [h16, h15, h14, h13, h12, h8, h7, h2, h3, b0, hlp, hli, hkk], by simp [h16, h15, h14, h13, h12, h8, h7, h2, h3, b0, hlp, hli, hkk], by simp [h16, h15, h14, h13, h12, h8, h7, h2, h3, b0, hlp, hli, hkk], by simp [h16, h15, h14, h13, h12, h8, h7, h2, h3, b0, hlp, hli, hkk], by simp [h16, h15, h14, h13, h12, h8, h7, h2, h3, b0, hlp, hli, hkk], by simp [h16, h15, h14, h13, h12, h8, h7, h2, h3, b0, hlp, hli, hkk], by simp [h16, h15, h14, h13, h12, h8, h7, h2, h3, b0, hlp, hli, hkk], by simp [h16, h15, h14, h13, h12, h8, h7, h2, h3, b0, hlp, hli, hkk], by simp [h16, h15, h14, h13, h12, h8, h7, h2, h3, b0, hlp, hli, hkk]⟩ (by first | omega | (simp; omega))
          by_cases hXn : (sucs l i)[k] < l.length
          rotate_left
          · have x2 : ltI ((sucs l i)[k] : Int) l.length = false := by simp [ltI]; omega
            repeat (first | simp [h16, h15, h14, h13, h12, h8, h7, h2, h3, b0, hlp, hli, hkk, hli, g0, ho, hx, hX, hkk, x2] | with_reducible refine And.intro (by omega) ?_ | with_reducible refine optK_if (by omega) ?_ | with_reducible refine optD_if (by omega) ?_ | simp (disch := omega) only [wrap_i64, if_pos, if_neg] | with_reducible refine gsel_pure (by with_unfolding_all rfl) _ (fun hg => by (try simp at hg); simp [hg, h16, h15, h14, h13, h12, h8, h7, h2, h3, b0, hlp, hli, hkk, hli, g0, ho, hx, hX, hkk, x2]; rfl) ?_ | with_reducible refine dsel_pure (by with_unfolding_all rfl) _ (fun hg => by (try simp at hg); simp [hg, h16, h15, h14, h13, h12, h8, h7, h2, h3, b0, hlp, hli, hkk, hli, g0, ho, hx, hX, hkk, x2]; rfl) ?_ | with_reducible refine awp_draw (by kernel_rfl) (by decide +kernel) ?_)
            refine hLE ((k + 1, S)) _ ⟨by first | omega | assumption | (simp; done) | (simp; omega), by exact hJ.skip hkk (.inr (.inl hXn)), by simp [h16, h15, h14, h13, h12, h8, h7, h2, h3, b0, hlp, hli, hkk], by simp [h16, h15, h14, h13, h12, h8, h7, h2, h3, b0, hlp, hli, hkk], by simp [h16, h15, h14, h13, h12, h8, h7, h2, h3, b0, hlp, hli, hkk], by simp [h16, h15, h14, h13, h12, h8, h7, h2, h3, b0, hlp, hli, hkk], by simp [h16, h15, h14, h13, h12, h8, h7, h2, h3, b0, hlp, hli, hkk], by simp [h16, h15, h14, h13, h12, h8, h7, h2, h3, b0, hlp, hli, hkk], by simp [h16, h15, h14, h13, h12, h8, h7, h2, h3, b0, hlp, hli, hkk], by simp [h16, h15, h14, h13, h12, h8, h7, h2, h3, b0, hlp, hli, hkk], by simp [h16, h15, h14, h13, h12, h8, h7, h2, h3, b0, hlp, hli, hkk], by simp [h16, h15, h14, h13, h12, h8, h7, h2, h3, b0, hlp, hli, hkk]⟩ (by first | omega | (simp; omega))
          have x2 : ltI ((sucs l i)[k] : Int) l.length = true := by simp [ltI]; omega
          by_cases hXh : (sucs l i)[k] = h
          · have e2 : eqI ((sucs l i)[k] : Int) h = true := by simp [eqI, hXh]
            repeat (first | simp [h16, h15, h14, h13, h12, h8, h7, h2, h3, b0, hlp, hli, hkk, hli, g0, ho, hx, hX, hkk, x2, e2] | with_reducible refine And.intro (by omega) ?_ | with_reducible refine optK_if (by omega) ?_ | with_reducible refine optD_if (by omega) ?_ | simp (disch := omega) only [wrap_i64, if_pos, if_neg] | with_reducible refine gsel_pure (by with_unfolding_all rfl) _ (fun hg => by (try simp at hg); simp [hg, h16, h15, h14, h13, h12, h8, h7, h2, h3, b0, hlp, hli, hkk, hli, g0, ho, hx, hX, hkk, x2, e2]; rfl) ?_ | with_reducible refine dsel_pure (by with_unfolding_all rfl) _ (fun hg => by (try simp at hg); simp [hg, h16, h15, h14, h13, h12, h8, h7, h2, h3, b0, hlp, hli, hkk, hli, g0, ho, hx, hX, hkk, x2, e2]; rfl) ?_ | with_reducible refine awp_draw (by kernel_rfl) (by decide +kernel) ?_)
            refine hLE ((k + 1, S)) _ ⟨by first | omega | assumption | (simp; done) | (simp; omega), by exact hJ.skip hkk (.inr (.inr (.inl hXh))), by simp [h16, h15, h14, h13, h12, h8, h7, h2, h3, b0, hlp, hli, hkk], by simp [h16, h15, h14, h13, h12, h8, h7, h2, h3, b0, hlp, hli, hkk], by simp [h16, h15, h14, h13, h12, h8, h7, h2, h3, b0, hlp, hli, hkk], by simp [h16, h15, h14, h13, h12, h8, h7, h2, h3, b0, hlp, hli, hkk], by simp [h16, h15, h14, h13, h12, h8, h7, h2, h3, b0, hlp, hli, hkk], by simp [h16, h15, h14, h13, h12, h8, h7, h2, h3, b0, hlp, hli, hkk], by simp [h16, h15, h14, h13, h12, h8, h7, h2, h3, b0, hlp, hli, hkk], by simp [h16, h15, h14, h13, h12, h8, h7, h2, h3, b0, hlp, hli, hkk], by simp [h16, h15, h14, h13, h12, h8, h7, h2, h3, b0, hlp, hli, hkk], by simp [h16, h15, h14, h13, h12, h8, h7, h2, h3, b0, hlp, hli, hkk]⟩ (by first | omega | (simp; omega))
          have e2 : eqI ((sucs l i)[k] : Int) h = false := by simp [eqI]; omega
          have g1 : (bl l.length S)[(sucs l i)[k]]? = some (bC (S (sucs l i)[k])) := bl_get? hXn
          by_cases hS : S (sucs l i)[k] = true
          · have hM := hJ.mark hli hkk ho hXn hXh hS
            repeat (first | simp [h16, h15, h14, h13, h12, h8, h7, h2, h3, b0, hlp, hli, hkk, hli, g0, ho, hx, hX, hkk, x2, e2, g1, hS, hXn] | with_reducible refine And.intro (by omega) ?_ | with_reducible refine optK_if (by omega) ?_ | with_reducible refine optD_if (by omega) ?_ | simp (disch := omega) only [wrap_i64, if_pos, if_neg] | with_reducible refine gsel_pure (by with_unfolding_all rfl) _ (fun hg => by (try simp at hg); simp [hg, h16, h15, h14, h13, h12, h8, h7, h2, h3, b0, hlp, hli, hkk, hli, g0, ho, hx, hX, hkk, x2, e2, g1, hS, hXn]; rfl) ?_ | with_reducible refine dsel_pure (by with_unfolding_all rfl) _ (fun hg => by (try simp at hg); simp [hg, h16, h15, h14, h13, h12, h8, h7, h2, h3, b0, hlp, hli, hkk, hli, g0, ho, hx, hX, hkk, x2, e2, g1, hS, hXn]; rfl) ?_ | with_reducible refine awp_draw (by kernel_rfl) (by decide +kernel) ?_)
            refine hLE ((k + 1, upB S i true)) _ ⟨by first | omega | assumption | (simp [bl_set]; done) | (simp [bl_set]; omega), by exact hM, by simp [h16, h15, h14, h13, h12, h8, h7, h2, h3, b0, hlp, hli, hkk, bl_set], by simp [h16, h15, h14, h13, h12, h8, h7, h2, h3, b0, hlp, hli, hkk, bl_set], by simp [h16, h15, h14, h13, h12, h8, h7, h2, h3, b0, hlp, hli, hkk, bl_set], by simp [h16, h15, h14, h13, h12, h8, h7, h2, h3, b0, hlp, hli, hkk, bl_set], by simp [h16, h15, h14, h13, h12, h8, h7, h2, h3, b0, hlp, hli, hkk, bl_set], by simp [h16, h15, h14, h13, h12, h8, h7, h2, h3, b0, hlp, hli, hkk, bl_set], by simp [h16, h15, h14, h13, h12, h8, h7, h2, h3, b0, hlp, hli, hkk, bl_set], by simp [h16, h15, h14, h13, h12, h8, h7, h2, h3, b0, hlp, hli, hkk, bl_set], by simp [h16, h15, h14, h13, h12, h8, h7, h2, h3, b0, hlp, hli, hkk, bl_set], by simp [h16, h15, h14, h13, h12, h8, h7, h2, h3, b0, hlp, hli, hkk, bl_set]⟩ (by first | omega | (simp; omega))
          · have hS2 : S (sucs l i)[k] = false := by simpa using hS
            repeat (first | simp [h16, h15, h14, h13, h12, h8, h7, h2, h3, b0, hlp, hli, hkk, hli, g0, ho, hx, hX, hkk, x2, e2, g1, hS2, hXn] | with_reducible refine And.intro (by omega) ?_ | with_reducible refine optK_if (by omega) ?_ | with_reducible refine optD_if (by omega) ?_ | simp (disch := omega) only [wrap_i64, if_pos, if_neg] | with_reducible refine gsel_pure (by with_unfolding_all rfl) _ (fun hg => by (try simp at hg); simp [hg, h16, h15, h14, h13, h12, h8, h7, h2, h3, b0, hlp, hli, hkk, hli, g0, ho, hx, hX, hkk, x2, e2, g1, hS2, hXn]; rfl) ?_ | with_reducible refine dsel_pure (by with_unfolding_all rfl) _ (fun hg => by (try simp at hg); simp [hg, h16, h15, h14, h13, h12, h8, h7, h2, h3, b0, hlp, hli, hkk, hli, g0, ho, hx, hX, hkk, x2, e2, g1, hS2, hXn]; rfl) ?_ | with_reducible refine awp_draw (by kernel_rfl) (by decide +kernel) ?_)
            refine hLE ((k + 1, S)) _ ⟨by first | omega | assumption | (simp; done) | (simp; omega), by exact hJ.skip hkk (.inr (.inr (.inr hS2))), by simp [h16, h15, h14, h13, h12, h8, h7, h2, h3, b0, hlp, hli, hkk], by simp [h16, h15, h14, h13, h12, h8, h7, h2, h3, b0, hlp, hli, hkk], by simp [h16, h15, h14, h13, h12, h8, h7, h2, h3, b0, hlp, hli, hkk], by simp [h16, h15, h14, h13, h12, h8, h7, h2, h3, b0, hlp, hli, hkk], by simp [h16, h15, h14, h13, h12, h8, h7, h2, h3, b0, hlp, hli, hkk], by simp [h16, h15, h14, h13, h12, h8, h7, h2, h3, b0, hlp, hli, hkk], by simp [h16, h15, h14, h13, h12, h8, h7, h2, h3, b0, hlp, hli, hkk], by simp [h16, h15, h14, h13, h12, h8, h7, h2, h3, b0, hlp, hli, hkk], by simp [h16, h15, h14, h13, h12, h8, h7, h2, h3, b0, hlp, hli, hkk], by simp [h16, h15, h14, h13, h12, h8, h7, h2, h3, b0, hlp, hli, hkk]⟩ (by first | omega | (simp; omega))
        · have : k = (sucs l i).length := by omega
          subst this
          repeat (first | simp [h16, h15, h14, h13, h12, h8, h7, h2, h3, b0, hlp, hli, hkk] | with_reducible refine And.intro (by omega) ?_ | with_reducible refine optK_if (by omega) ?_ | with_reducible refine optD_if (by omega) ?_ | simp (disch := omega) only [wrap_i64, if_pos, if_neg] | with_reducible refine gsel_pure (by with_unfolding_all rfl) _ (fun hg => by (try simp at hg); simp [hg, h16, h15, h14, h13, h12, h8, h7, h2, h3, b0, hlp, hli, hkk]; rfl) ?_ | with_reducible refine dsel_pure (by with_unfolding_all rfl) _ (fun hg => by (try simp at hg); simp [hg, h16, h15, h14, h13, h12, h8, h7, h2, h3, b0, hlp, hli, hkk]; rfl) ?_ | with_reducible refine awp_draw (by kernel_rfl) (by decide +kernel) ?_)
          refine hLD ((i + 1, S)) _ ⟨by first | omega | assumption | (simp; done) | (simp; omega), by exact hJ.next, by simp [h16, h15, h14, h13, h12, h8, h7, h2, h3, b0, hlp, hli, hkk], by simp [h16, h15, h14, h13, h12, h8, h7, h2, h3, b0, hlp, hli, hkk], by simp [h16, h15, h14, h13, h12, h8, h7, h2, h3, b0, hlp, hli, hkk], by simp [h16, h15, h14, h13, h12, h8, h7, h2, h3, b0, hlp, hli, hkk], by simp [h16, h15, h14, h13, h12, h8, h7, h2, h3, b0, hlp, hli, hkk], by simp [h16, h15, h14, h13, h12, h8, h7, h2, h3, b0, hlp, hli, hkk], by simp [h16, h15, h14, h13, h12, h8, h7, h2, h3, b0, hlp, hli, hkk], by simp [h16, h15, h14, h13, h12, h8, h7, h2, h3, b0, hlp, hli, hkk]⟩ (by first | omega | (simp; omega))
      · have : i = l.length := by omega
        subst this
        repeat (first | simp [h14, h13, h12, h8, h7, h2, h3, b0, hlp, hli] | with_reducible refine And.intro (by omega) ?_ | with_reducible refine optK_if (by omega) ?_ | with_reducible refine optD_if (by omega) ?_ | simp (disch := omega) only [wrap_i64, if_pos, if_neg] | with_reducible refine gsel_pure (by with_unfolding_all rfl) _ (fun hg => by (try simp at hg); simp [hg, h14, h13, h12, h8, h7, h2, h3, b0, hlp, hli]; rfl) ?_ | with_reducible refine dsel_pure (by with_unfolding_all rfl) _ (fun hg => by (try simp at hg); simp [hg, h14, h13, h12, h8, h7, h2, h3, b0, hlp, hli]; rfl) ?_ | with_reducible refine awp_draw (by kernel_rfl) (by decide +kernel) ?_)
        refine hLC ((p + 1, S)) _ ⟨by first | omega | assumption | (simp; done) | (simp; omega), by exact hI.done, by simp [h14, h13, h12, h8, h7, h2, h3, b0, hlp, hli], by simp [h14, h13, h12, h8, h7, h2, h3, b0, hlp, hli], by simp [h14, h13, h12, h8, h7, h2, h3, b0, hlp, hli], by simp [h14, h13, h12, h8, h7, h2, h3, b0, hlp, hli], by simp [h14, h13, h12, h8, h7, h2, h3, b0, hlp, hli], by simp [h14, h13, h12, h8, h7, h2, h3, b0, hlp, hli], by simp [h14, h13, h12, h8, h7, h2, h3, b0, hlp, hli]⟩ (by first | omega | (simp; omega))
    · have : p = l.length := by omega
      subst this
      have hF := loop_ref hh hW
      have hsl := selL_len (fun i => S i && decide (i ≠ h)) l.length
      generalize hfS : (fun i => S i && decide (i ≠ h)) = G at *
      repeat (first | simp [h13, h12, h8, h7, h2, h3, b0, hlp] | with_reducible refine And.intro (by omega) ?_ | with_reducible refine optK_if (by omega) ?_ | with_reducible refine optD_if (by omega) ?_ | simp (disch := omega) only [wrap_i64, if_pos, if_neg] | with_reducible refine gsel_pure (by with_unfolding_all rfl) _ (fun hg => by (try simp at hg); simp [hg, h13, h12, h8, h7, h2, h3, b0, hlp]; rfl) ?_ | with_reducible refine dsel_pure (by with_unfolding_all rfl) _ (fun hg => by (try simp at hg); simp [hg, h13, h12, h8, h7, h2, h3, b0, hlp]; rfl) ?_ | with_reducible refine awp_draw (by kernel_rfl) (by decide +kernel) ?_)
      refine awp_loopV (fun (i : Nat) (s : St) => (i ≤ l.length) ∧ s.env 18 = iV .i64 i ∧ s.env 17 = .cell (.own 1638464 1 (selL G i).length.succ (intsC (natI (h :: selL G i)))) ∧ s.env 8 = .cell (.own 131136 1 l.length (bl l.length S)) ∧ s.env 7 = iV .i64 l.length ∧ s.env 2 = iV .i64 h) (fun (i : Nat) => l.length - i) (0) ⟨by first | omega | assumption | (simp [selL]; done) | (simp [selL]; omega), by simp [h13, h12, h8, h7, h2, h3, b0, hlp, selL], by simp [h13, h12, h8, h7, h2, h3, b0, hlp, selL], by simp [h13, h12, h8, h7, h2, h3, b0, hlp, selL], by simp [h13, h12, h8, h7, h2, h3, b0, hlp, selL], by simp [h13, h12, h8, h7, h2, h3, b0, hlp, selL]⟩ fun i s hsF LF hLF => ?_
      obtain ⟨hi, h18, h17, h8, h7, h2⟩ := hsF
      repeat (first | simp [h18, h17, h8, h7, h2, hlp] | with_reducible refine And.intro (by omega) ?_ | with_reducible refine optK_if (by omega) ?_ | with_reducible refine optD_if (by omega) ?_ | simp (disch := omega) only [wrap_i64, if_pos, if_neg] | with_reducible refine gsel_pure (by with_unfolding_all rfl) _ (fun hg => by (try simp at hg); simp [hg, h18, h17, h8, h7, h2, hlp]; rfl) ?_ | with_reducible refine dsel_pure (by with_unfolding_all rfl) _ (fun hg => by (try simp at hg); simp [hg, h18, h17, h8, h7, h2, hlp]; rfl) ?_ | with_reducible refine awp_draw (by kernel_rfl) (by decide +kernel) ?_)
      (with_reducible refine condK_intro (fun hli => ?_) (fun hli => ?_)) <;> (try simp only [hli]) <;> (try simp [andB, orB, eqI, ltI, Int.natCast_inj] at hli)
      · have hs1 := selL_succ G i
        have hsl := selL_len G i
        have g1 : (bl l.length S)[i]? = some (bC (S i)) := bl_get? hli
        have hG : G i = (S i && decide (i ≠ h)) := by rw [← hfS]
        by_cases hS : S i = true
        rotate_left
        · have hS2 : S i = false := by simpa using hS
          rw [hG, hS2] at hs1
          simp at hs1
          repeat (first | simp [h18, h17, h8, h7, h2, hlp, hli, hli, g1, hS2] | with_reducible refine And.intro (by omega) ?_ | with_reducible refine optK_if (by omega) ?_ | with_reducible refine optD_if (by omega) ?_ | simp (disch := omega) only [wrap_i64, if_pos, if_neg] | with_reducible refine gsel_pure (by with_unfolding_all rfl) _ (fun hg => by (try simp at hg); simp [hg, h18, h17, h8, h7, h2, hlp, hli, hli, g1, hS2]; rfl) ?_ | with_reducible refine dsel_pure (by with_unfolding_all rfl) _ (fun hg => by (try simp at hg); simp [hg, h18, h17, h8, h7, h2, hlp, hli, hli, g1, hS2]; rfl) ?_ | with_reducible refine awp_draw (by kernel_rfl) (by decide +kernel) ?_)
          refine hLF (i + 1) _ ⟨by first | omega | assumption | (simp [hs1]; done) | (simp [hs1]; omega), by simp [h18, h17, h8, h7, h2, hlp, hli, hs1], by simp [h18, h17, h8, h7, h2, hlp, hli, hs1], by simp [h18, h17, h8, h7, h2, hlp, hli, hs1], by simp [h18, h17, h8, h7, h2, hlp, hli, hs1], by simp [h18, h17, h8, h7, h2, hlp, hli, hs1]⟩ (by first | omega | (simp; omega))
        by_cases hih : i = h
        · have e2 : eqI (i : Int) h = true := by simp [eqI, hih]
          rw [hG] at hs1
          simp [hih] at hs1
          repeat (first | simp [h18, h17, h8, h7, h2, hlp, hli, hli, g1, hS, e2] | with_reducible refine And.intro (by omega) ?_ | with_reducible refine optK_if (by omega) ?_ | with_reducible refine optD_if (by omega) ?_ | simp (disch := omega) only [wrap_i64, if_pos, if_neg] | with_reducible refine gsel_pure (by with_unfolding_all rfl) _ (fun hg => by (try simp at hg); simp [hg, h18, h17, h8, h7, h2, hlp, hli, hli, g1, hS, e2]; rfl) ?_ | with_reducible refine dsel_pure (by with_unfolding_all rfl) _ (fun hg => by (try simp at hg); simp [hg, h18, h17, h8, h7, h2, hlp, hli, hli, g1, hS, e2]; rfl) ?_ | with_reducible refine awp_draw (by kernel_rfl) (by decide +kernel) ?_)
          refine hLF (i + 1) _ ⟨by first | omega | assumption | (simp [hih, hs1]; done) | (simp [hih, hs1]; omega), by simp [h18, h17, h8, h7, h2, hlp, hli, hih, hs1], by simp [h18, h17, h8, h7, h2, hlp, hli, hih, hs1], by simp [h18, h17, h8, h7, h2, hlp, hli, hih, hs1], by simp [h18, h17, h8, h7, h2, hlp, hli, hih, hs1], by simp [h18, h17, h8, h7, h2, hlp, hli, hih, hs1]⟩ (by first | omega | (simp; omega))
        · have e2 : eqI (i : Int) h = false := by simp [eqI]; omega
          rw [hG, hS] at hs1
          simp [hih] at hs1
          repeat (first | simp [h18, h17, h8, h7, h2, hlp, hli, hli, g1, hS, e2] | with_reducible refine And.intro (by omega) ?_ | with_reducible refine optK_if (by omega) ?_ | with_reducible refine optD_if (by omega) ?_ | simp (disch := omega) only [wrap_i64, if_pos, if_neg] | with_reducible refine gsel_pure (by with_unfolding_all rfl) _ (fun hg => by (try simp at hg); simp [hg, h18, h17, h8, h7, h2, hlp, hli, hli, g1, hS, e2]; rfl) ?_ | with_reducible refine dsel_pure (by with_unfolding_all rfl) _ (fun hg => by (try simp at hg); simp [hg, h18, h17, h8, h7, h2, hlp, hli, hli, g1, hS, e2]; rfl) ?_ | with_reducible refine awp_draw (by kernel_rfl) (by decide +kernel) ?_)
          refine hLF (i + 1) _ ⟨by first | omega | assumption | (simp [hs1, natI_append, intsC_append]; done) | (simp [hs1, natI_append, intsC_append]; omega), by simp [h18, h17, h8, h7, h2, hlp, hli, hs1, natI_append, intsC_append], by simp [h18, h17, h8, h7, h2, hlp, hli, hs1, natI_append, intsC_append], by simp [h18, h17, h8, h7, h2, hlp, hli, hs1, natI_append, intsC_append], by simp [h18, h17, h8, h7, h2, hlp, hli, hs1, natI_append, intsC_append], by simp [h18, h17, h8, h7, h2, hlp, hli, hs1, natI_append, intsC_append]⟩ (by first | omega | (simp; omega))
      · have : i = l.length := by omega
        subst this
        repeat (first | simp [h18, h17, h8, h7, h2, hlp, hli] | with_reducible refine And.intro (by omega) ?_ | with_reducible refine optK_if (by omega) ?_ | with_reducible refine optD_if (by omega) ?_ | simp (disch := omega) only [wrap_i64, if_pos, if_neg] | with_reducible refine gsel_pure (by with_unfolding_all rfl) _ (fun hg => by (try simp at hg); simp [hg, h18, h17, h8, h7, h2, hlp, hli]; rfl) ?_ | with_reducible refine dsel_pure (by with_unfolding_all rfl) _ (fun hg => by (try simp at hg); simp [hg, h18, h17, h8, h7, h2, hlp, hli]; rfl) ?_ | with_reducible refine awp_draw (by kernel_rfl) (by decide +kernel) ?_)
        refine hQ _ _ (ret2 (by simp [retAV, resAV]; rfl) (by simp; rfl) ?_)
        rw [hF]
        rfl
set_option maxHeartbeats 4000000 in
theorem at_r12loops (name : ByteArray) (l : List I8) : At Tryd.prog 23 [fAV name l] (.tup [if funcE l = 0 then listsA (loopsL l l.length) else .cell .z, iV .i64 (funcE l)]) := by
  by_cases hf : funcE l = 0
  rotate_left
  · have e1 : eqI (funcE l) 0 = false := by simp [eqI, hf]
    refine at_code mixed Tryd.func23 (by kernel_rfl) rfl (by kernel_rfl) (by kernel_rfl) rfl fun Q hQ => ?_
    repeat (first | simp | with_reducible refine And.intro (by omega) ?_ | with_reducible refine optK_if (by omega) ?_ | with_reducible refine optD_if (by omega) ?_ | simp (disch := omega) only [wrap_i64, if_pos, if_neg] | with_reducible refine gsel_pure (by with_unfolding_all rfl) _ (fun hg => by (try simp at hg); simp [hg]; rfl) ?_ | with_reducible refine dsel_pure (by with_unfolding_all rfl) _ (fun hg => by (try simp at hg); simp [hg]; rfl) ?_ | with_reducible refine awp_draw (by kernel_rfl) (by decide +kernel) ?_)
    refine gop_call (at_r12Check name l) (by (first | simp [wrap_i64] | simp (disch := omega) [wrap_i64]); try rfl) (by simp) (by simp) ?_
    repeat (first | simp [e1] | with_reducible refine And.intro (by omega) ?_ | with_reducible refine optK_if (by omega) ?_ | with_reducible refine optD_if (by omega) ?_ | simp (disch := omega) only [wrap_i64, if_pos, if_neg] | with_reducible refine gsel_pure (by with_unfolding_all rfl) _ (fun hg => by (try simp at hg); simp [hg, e1]; rfl) ?_ | with_reducible refine dsel_pure (by with_unfolding_all rfl) _ (fun hg => by (try simp at hg); simp [hg, e1]; rfl) ?_ | with_reducible refine awp_draw (by kernel_rfl) (by decide +kernel) ?_)
    refine hQ _ _ (ret2 (by simp [retAV, resAV]; rfl) (by simp; rfl) ?_)
    simp [hf]
  have ok := okL hf
  have hlen := ok.len
  refine at_pure (r := .tup [.cell (.own 0 1 (loopsL l l.length).length (listsC (loopsL l l.length))), iV .i64 (funcE l)]) ?_ (by simp [hf])
  obtain ⟨N, hN⟩ : ∃ N, N = l.length * l.length := ⟨_, rfl⟩
  have hDom := at_dominates name l ok
  rw [← hN] at hDom
  refine at_code mixed Tryd.func23 (by kernel_rfl) rfl (by kernel_rfl) (by kernel_rfl) rfl fun Q hQ => ?_
  repeat (first | simp | with_reducible refine And.intro (by omega) ?_ | with_reducible refine optK_if (by omega) ?_ | with_reducible refine optD_if (by omega) ?_ | simp (disch := omega) only [wrap_i64, if_pos, if_neg] | with_reducible refine gsel_pure (by with_unfolding_all rfl) _ (fun hg => by (try simp at hg); simp [hg]; rfl) ?_ | with_reducible refine dsel_pure (by with_unfolding_all rfl) _ (fun hg => by (try simp at hg); simp [hg]; rfl) ?_ | with_reducible refine awp_draw (by kernel_rfl) (by decide +kernel) ?_)
  refine gop_call (at_r12Check name l) (by (first | simp [wrap_i64] | simp (disch := omega) [wrap_i64]); try rfl) (by simp) (by simp) ?_
  repeat (first | simp [hf] | with_reducible refine And.intro (by omega) ?_ | with_reducible refine optK_if (by omega) ?_ | with_reducible refine optD_if (by omega) ?_ | simp (disch := omega) only [wrap_i64, if_pos, if_neg] | with_reducible refine gsel_pure (by with_unfolding_all rfl) _ (fun hg => by (try simp at hg); simp [hg, hf]; rfl) ?_ | with_reducible refine dsel_pure (by with_unfolding_all rfl) _ (fun hg => by (try simp at hg); simp [hg, hf]; rfl) ?_ | with_reducible refine awp_draw (by kernel_rfl) (by decide +kernel) ?_)
  refine gop_call' (hDom) (by (first | simp [wrap_i64] | simp (disch := omega) [wrap_i64]); try rfl) (by simp) (by simp) ?_
  repeat (first | simp | with_reducible refine And.intro (by omega) ?_ | with_reducible refine optK_if (by omega) ?_ | with_reducible refine optD_if (by omega) ?_ | simp (disch := omega) only [wrap_i64, if_pos, if_neg] | with_reducible refine gsel_pure (by with_unfolding_all rfl) _ (fun hg => by (try simp at hg); simp [hg]; rfl) ?_ | with_reducible refine dsel_pure (by with_unfolding_all rfl) _ (fun hg => by (try simp at hg); simp [hg]; rfl) ?_ | with_reducible refine awp_draw (by kernel_rfl) (by decide +kernel) ?_)
  refine awp_loopW (fun (h : Nat) (s : St) => (h ≤ l.length) ∧ s.env 8 = iV .i64 h ∧ s.env 7 = .cell (.own 655360000 1 (loopsL l h).length (listsC (loopsL l h))) ∧ s.env 6 = boolsA N (domM l) ∧ s.env 5 = iV .i64 l.length ∧ s.env 1 = .cell (.ptr 0 0) ∧ s.box 0 = some ([.p (sC name), .p (.sl l.length (codeC l))])) (fun (h : Nat) => l.length - h) _ (Weak.own 7 655360000 1 (by simp)) (0) ⟨by first | omega | assumption | (simp [loopsL, listsC]; done) | (simp [loopsL, listsC]; omega), by simp [loopsL, listsC], by simp [loopsL, listsC], by simp [loopsL, listsC], by simp [loopsL, listsC], by simp [loopsL, listsC], by simp [loopsL, listsC]⟩ fun h s hsA LA hLA => ?_
  obtain ⟨hh, h8, h7, h6, h5, h1, b0⟩ := hsA
  repeat (first | simp [h8, h7, h6, h5, h1, b0] | with_reducible refine And.intro (by omega) ?_ | with_reducible refine optK_if (by omega) ?_ | with_reducible refine optD_if (by omega) ?_ | simp (disch := omega) only [wrap_i64, if_pos, if_neg] | with_reducible refine gsel_pure (by with_unfolding_all rfl) _ (fun hg => by (try simp at hg); simp [hg, h8, h7, h6, h5, h1, b0]; rfl) ?_ | with_reducible refine dsel_pure (by with_unfolding_all rfl) _ (fun hg => by (try simp at hg); simp [hg, h8, h7, h6, h5, h1, b0]; rfl) ?_ | with_reducible refine awp_draw (by kernel_rfl) (by decide +kernel) ?_)
  (with_reducible refine condK_intro (fun hlt => ?_) (fun hlt => ?_)) <;> (try simp only [hlt]) <;> (try simp [andB, orB, eqI, ltI, Int.natCast_inj] at hlt)
  · repeat (first | simp [h8, h7, h6, h5, h1, b0, hlt] | with_reducible refine And.intro (by omega) ?_ | with_reducible refine optK_if (by omega) ?_ | with_reducible refine optD_if (by omega) ?_ | simp (disch := omega) only [wrap_i64, if_pos, if_neg] | with_reducible refine gsel_pure (by with_unfolding_all rfl) _ (fun hg => by (try simp at hg); simp [hg, h8, h7, h6, h5, h1, b0, hlt]; rfl) ?_ | with_reducible refine dsel_pure (by with_unfolding_all rfl) _ (fun hg => by (try simp at hg); simp [hg, h8, h7, h6, h5, h1, b0, hlt]; rfl) ?_ | with_reducible refine awp_draw (by kernel_rfl) (by decide +kernel) ?_)
    refine awp_loopV (fun (i : Nat) (s : St) => (i ≤ l.length) ∧ s.env 10 = iV .i64 i ∧ s.env 9 = bV (decide (endsL l (domB l) h i ≠ [])) ∧ s.env 8 = iV .i64 h ∧ s.env 7 = .cell (.own 655360000 1 (loopsL l h).length (listsC (loopsL l h))) ∧ s.env 6 = boolsA N (domM l) ∧ s.env 5 = iV .i64 l.length ∧ s.env 1 = .cell (.ptr 0 0) ∧ s.box 0 = some ([.p (sC name), .p (.sl l.length (codeC l))])) (fun (i : Nat) => l.length - i) (0) ⟨by first | omega | assumption | (simp [endsL]; done) | (simp [endsL]; omega), by simp [h8, h7, h6, h5, h1, b0, hlt, endsL], by simp [h8, h7, h6, h5, h1, b0, hlt, endsL], by simp [h8, h7, h6, h5, h1, b0, hlt, endsL], by simp [h8, h7, h6, h5, h1, b0, hlt, endsL], by simp [h8, h7, h6, h5, h1, b0, hlt, endsL], by simp [h8, h7, h6, h5, h1, b0, hlt, endsL], by simp [h8, h7, h6, h5, h1, b0, hlt, endsL], by simp [h8, h7, h6, h5, h1, b0, hlt, endsL]⟩ fun i s hsB LB hLB => ?_
    obtain ⟨hi, h10, h9, h8, h7, h6, h5, h1, b0⟩ := hsB
    repeat (first | simp [h10, h9, h8, h7, h6, h5, h1, b0, hlt] | with_reducible refine And.intro (by omega) ?_ | with_reducible refine optK_if (by omega) ?_ | with_reducible refine optD_if (by omega) ?_ | simp (disch := omega) only [wrap_i64, if_pos, if_neg] | with_reducible refine gsel_pure (by with_unfolding_all rfl) _ (fun hg => by (try simp at hg); simp [hg, h10, h9, h8, h7, h6, h5, h1, b0, hlt]; rfl) ?_ | with_reducible refine dsel_pure (by with_unfolding_all rfl) _ (fun hg => by (try simp at hg); simp [hg, h10, h9, h8, h7, h6, h5, h1, b0, hlt]; rfl) ?_ | with_reducible refine awp_draw (by kernel_rfl) (by decide +kernel) ?_)
    (with_reducible refine condK_intro (fun hli => ?_) (fun hli => ?_)) <;> (try simp only [hli]) <;> (try simp [andB, orB, eqI, ltI, Int.natCast_inj] at hli)
    · repeat (first | simp [h10, h9, h8, h7, h6, h5, h1, b0, hlt, hli] | with_reducible refine And.intro (by omega) ?_ | with_reducible refine optK_if (by omega) ?_ | with_reducible refine optD_if (by omega) ?_ | simp (disch := omega) only [wrap_i64, if_pos, if_neg] | with_reducible refine gsel_pure (by with_unfolding_all rfl) _ (fun hg => by (try simp at hg); simp [hg, h10, h9, h8, h7, h6, h5, h1, b0, hlt, hli]; rfl) ?_ | with_reducible refine dsel_pure (by with_unfolding_all rfl) _ (fun hg => by (try simp at hg); simp [hg, h10, h9, h8, h7, h6, h5, h1, b0, hlt, hli]; rfl) ?_ | with_reducible refine awp_draw (by kernel_rfl) (by decide +kernel) ?_)
      refine gop_call' (at_r12succ name l ok i hli) (by (first | simp [h10, h9, h8, h7, h6, h5, h1, b0, hlt, hli] | simp (disch := omega) [h10, h9, h8, h7, h6, h5, h1, b0, hlt, hli, wrap_i64]); try rfl) (by simp) (by simp) ?_
      repeat (first | simp [h10, h9, h8, h7, h6, h5, h1, b0, hlt, hli] | with_reducible refine And.intro (by omega) ?_ | with_reducible refine optK_if (by omega) ?_ | with_reducible refine optD_if (by omega) ?_ | simp (disch := omega) only [wrap_i64, if_pos, if_neg] | with_reducible refine gsel_pure (by with_unfolding_all rfl) _ (fun hg => by (try simp at hg); simp [hg, h10, h9, h8, h7, h6, h5, h1, b0, hlt, hli]; rfl) ?_ | with_reducible refine dsel_pure (by with_unfolding_all rfl) _ (fun hg => by (try simp at hg); simp [hg, h10, h9, h8, h7, h6, h5, h1, b0, hlt, hli]; rfl) ?_ | with_reducible refine awp_draw (by kernel_rfl) (by decide +kernel) ?_)
      have hsl := sucs_len l i
      refine awp_loopV (fun (k : Nat) (s : St) => (k ≤ (sucs l i).length) ∧ s.env 12 = iV .i64 k ∧ s.env 11 = intsA (natI (sucs l i)) ∧ s.env 10 = iV .i64 i ∧ s.env 9 = bV (decide (endsK l (domB l) h i k ≠ [])) ∧ s.env 8 = iV .i64 h ∧ s.env 7 = .cell (.own 655360000 1 (loopsL l h).length (listsC (loopsL l h))) ∧ s.env 6 = boolsA N (domM l) ∧ s.env 5 = iV .i64 l.length ∧ s.env 1 = .cell (.ptr 0 0) ∧ s.box 0 = some ([.p (sC name), .p (.sl l.length (codeC l))])) (fun (k : Nat) => (sucs l i).length - k) (0) ⟨by first | omega | assumption | (simp [endsK]; done) | (simp [endsK]; omega), by simp [h10, h9, h8, h7, h6, h5, h1, b0, hlt, hli, endsK], by simp [h10, h9, h8, h7, h6, h5, h1, b0, hlt, hli, endsK], by simp [h10, h9, h8, h7, h6, h5, h1, b0, hlt, hli, endsK], by simp [h10, h9, h8, h7, h6, h5, h1, b0, hlt, hli, endsK], by simp [h10, h9, h8, h7, h6, h5, h1, b0, hlt, hli, endsK], by simp [h10, h9, h8, h7, h6, h5, h1, b0, hlt, hli, endsK], by simp [h10, h9, h8, h7, h6, h5, h1, b0, hlt, hli, endsK], by simp [h10, h9, h8, h7, h6, h5, h1, b0, hlt, hli, endsK], by simp [h10, h9, h8, h7, h6, h5, h1, b0, hlt, hli, endsK], by simp [h10, h9, h8, h7, h6, h5, h1, b0, hlt, hli, endsK]⟩ fun k s hsC LC hLC => ?_
      obtain ⟨hk, h12, h11, h10, h9, h8, h7, h6, h5, h1, b0⟩ := hsC
      repeat (first | simp [h12, h11, h10, h9, h8, h7, h6, h5, h1, b0, hlt, hli] | with_reducible refine And.intro (by omega) ?_ | with_reducible refine optK_if (by omega) ?_ | with_reducible refine optD_if (by omega) ?_ | simp (disch := omega) only [wrap_i64, if_pos, if_neg] | with_reducible refine gsel_pure (by with_unfolding_all rfl) _ (fun hg => by (try simp at hg); simp [hg, h12, h11, h10, h9, h8, h7, h6, h5, h1, b0, hlt, hli]; rfl) ?_ | with_reducible refine dsel_pure (by with_unfolding_all rfl) _ (fun hg => by (try simp at hg); simp [hg, h12, h11, h10, h9, h8, h7, h6, h5, h1, b0, hlt, hli]; rfl) ?_ | with_reducible refine awp_draw (by kernel_rfl) (by decide +kernel) ?_)
      (with_reducible refine condK_intro (fun hkk => ?_) (fun hkk => ?_)) <;> (try simp only [hkk]) <;> (try simp [andB, orB, eqI, ltI, Int.natCast_inj] at hkk)
      · obtain ⟨m, hm⟩ : ∃ m, m = h * l.length + i := ⟨_, rfl⟩
        have hml : m < N := by rw [hm, hN]; exact mat_lt hlt hli
        have w1 := mat_wrap1 hlen (Nat.le_of_lt hlt)
        have w2 := mat_wrap2 hlen (Nat.le_of_lt hlt) (Nat.le_of_lt hli) hm
        have hd := domM_B hlt hli hm
        have g1 : (bl N (domM l))[m]? = some (bC (domM l m)) := bl_get? hml
        have hx : (intsC (natI (sucs l i)))[k]? = some (iC (sucs l i)[k]) := by rw [intsC_get? _ (by simpa using hkk)]; simp
        by_cases e : (sucs l i)[k] = h
        · have e2 : eqI ((sucs l i)[k] : Int) h = true := by simp [eqI, e]
          by_cases d : domB l h i = true
          · obtain ⟨hm1, hm2⟩ := endsK_hit hkk e d
            have d2 : domM l m = true := hd.trans d
            have hne : decide (endsK l (domB l) h i (k + 1) ≠ []) = true := by rw [hm2]; simp
            have hne2 : ¬ endsK l (domB l) h i (k + 1) = [] := by rw [hm2]; simp
            repeat (first | simp [h12, h11, h10, h9, h8, h7, h6, h5, h1, b0, hlt, hli, hkk, hx, hkk, e2, w1, w2, g1, hml, d2] | with_reducible refine And.intro (by omega) ?_ | with_reducible refine optK_if (by omega) ?_ | with_reducible refine optD_if (by omega) ?_ | simp (disch := omega) only [wrap_i64, if_pos, if_neg] | with_reducible refine gsel_pure (by with_unfolding_all rfl) _ (fun hg => by (try simp at hg); simp [hg, h12, h11, h10, h9, h8, h7, h6, h5, h1, b0, hlt, hli, hkk, hx, hkk, e2, w1, w2, g1, hml, d2]; rfl) ?_ | with_reducible refine dsel_pure (by with_unfolding_all rfl) _ (fun hg => by (try simp at hg); simp [hg, h12, h11, h10, h9, h8, h7, h6, h5, h1, b0, hlt, hli, hkk, hx, hkk, e2, w1, w2, g1, hml, d2]; rfl) ?_ | with_reducible refine awp_draw (by kernel_rfl) (by decide +kernel) ?_)
            refine hLC (k + 1) _ ⟨by first | omega | assumption | (simp [hne2]; done) | (simp [hne2]; omega), by simp [h12, h11, h10, h9, h8, h7, h6, h5, h1, b0, hlt, hli, hkk, hne2], by simp [h12, h11, h10, h9, h8, h7, h6, h5, h1, b0, hlt, hli, hkk, hne2], by simp [h12, h11, h10, h9, h8, h7, h6, h5, h1, b0, hlt, hli, hkk, hne2], by simp [h12, h11, h10, h9, h8, h7, h6, h5, h1, b0, hlt, hli, hkk, hne2], by simp [h12, h11, h10, h9, h8, h7, h6, h5, h1, b0, hlt, hli, hkk, hne2], by simp [h12, h11, h10, h9, h8, h7, h6, h5, h1, b0, hlt, hli, hkk, hne2], by simp [h12, h11, h10, h9, h8, h7, h6, h5, h1, b0, hlt, hli, hkk, hne2], by simp [h12, h11, h10, h9, h8, h7, h6, h5, h1, b0, hlt, hli, hkk, hne2], by simp [h12, h11, h10, h9, h8, h7, h6, h5, h1, b0, hlt, hli, hkk, hne2], by simp [h12, h11, h10, h9, h8, h7, h6, h5, h1, b0, hlt, hli, hkk, hne2]⟩ (by first | omega | (simp; omega))
          · have d1 : domB l h i = false := by simpa using d
            have d2 : domM l m = false := hd.trans d1
            have hs := endsK_miss (dom := domB l) hkk (.inr d1)
            repeat (first | simp [h12, h11, h10, h9, h8, h7, h6, h5, h1, b0, hlt, hli, hkk, hx, hkk, e2, w1, w2, g1, hml, d2] | with_reducible refine And.intro (by omega) ?_ | with_reducible refine optK_if (by omega) ?_ | with_reducible refine optD_if (by omega) ?_ | simp (disch := omega) only [wrap_i64, if_pos, if_neg] | with_reducible refine gsel_pure (by with_unfolding_all rfl) _ (fun hg => by (try simp at hg); simp [hg, h12, h11, h10, h9, h8, h7, h6, h5, h1, b0, hlt, hli, hkk, hx, hkk, e2, w1, w2, g1, hml, d2]; rfl) ?_ | with_reducible refine dsel_pure (by with_unfolding_all rfl) _ (fun hg => by (try simp at hg); simp [hg, h12, h11, h10, h9, h8, h7, h6, h5, h1, b0, hlt, hli, hkk, hx, hkk, e2, w1, w2, g1, hml, d2]; rfl) ?_ | with_reducible refine awp_draw (by kernel_rfl) (by decide +kernel) ?_)
            refine hLC (k + 1) _ ⟨by first | omega | assumption | (simp [hs]; done) | (simp [hs]; omega), by simp [h12, h11, h10, h9, h8, h7, h6, h5, h1, b0, hlt, hli, hkk, hs], by simp [h12, h11, h10, h9, h8, h7, h6, h5, h1, b0, hlt, hli, hkk, hs], by simp [h12, h11, h10, h9, h8, h7, h6, h5, h1, b0, hlt, hli, hkk, hs], by simp [h12, h11, h10, h9, h8, h7, h6, h5, h1, b0, hlt, hli, hkk, hs], by simp [h12, h11, h10, h9, h8, h7, h6, h5, h1, b0, hlt, hli, hkk, hs], by simp [h12, h11, h10, h9, h8, h7, h6, h5, h1, b0, hlt, hli, hkk, hs], by simp [h12, h11, h10, h9, h8, h7, h6, h5, h1, b0, hlt, hli, hkk, hs], by simp [h12, h11, h10, h9, h8, h7, h6, h5, h1, b0, hlt, hli, hkk, hs], by simp [h12, h11, h10, h9, h8, h7, h6, h5, h1, b0, hlt, hli, hkk, hs], by simp [h12, h11, h10, h9, h8, h7, h6, h5, h1, b0, hlt, hli, hkk, hs]⟩ (by first | omega | (simp; omega))
        · have e2 : eqI ((sucs l i)[k] : Int) h = false := by simp [eqI]; omega
          have hs := endsK_miss (dom := domB l) hkk (.inl e)
          repeat (first | simp [h12, h11, h10, h9, h8, h7, h6, h5, h1, b0, hlt, hli, hkk, hx, hkk, e2] | with_reducible refine And.intro (by omega) ?_ | with_reducible refine optK_if (by omega) ?_ | with_reducible refine optD_if (by omega) ?_ | simp (disch := omega) only [wrap_i64, if_pos, if_neg] | with_reducible refine gsel_pure (by with_unfolding_all rfl) _ (fun hg => by (try simp at hg); simp [hg, h12, h11, h10, h9, h8, h7, h6, h5, h1, b0, hlt, hli, hkk, hx, hkk, e2]; rfl) ?_ | with_reducible refine dsel_pure (by with_unfolding_all rfl) _ (fun hg => by (try simp at hg); simp [hg, h12, h11, h10, h9, h8, h7, h6, h5, h1, b0, hlt, hli, hkk, hx, hkk, e2]; rfl) ?_ | with_reducible refine awp_draw (by kernel_rfl) (by decide +kernel) ?_)
          refine hLC (k + 1) _ ⟨by first | omega | assumption | (simp [hs]; done) | (simp [hs]; omega), by simp [h12, h11, h10, h9, h8, h7, h6, h5, h1, b0, hlt, hli, hkk, hs], by simp [h12, h11, h10, h9, h8, h7, h6, h5, h1, b0, hlt, hli, hkk, hs], by simp [h12, h11, h10, h9, h8, h7, h6, h5, h1, b0, hlt, hli, hkk, hs], by simp [h12, h11, h10, h9, h8, h7, h6, h5, h1, b0, hlt, hli, hkk, hs], by simp [h12, h11, h10, h9, h8, h7, h6, h5, h1, b0, hlt, hli, hkk, hs], by simp [h12, h11, h10, h9, h8, h7, h6, h5, h1, b0, hlt, hli, hkk, hs], by simp [h12, h11, h10, h9, h8, h7, h6, h5, h1, b0, hlt, hli, hkk, hs], by simp [h12, h11, h10, h9, h8, h7, h6, h5, h1, b0, hlt, hli, hkk, hs], by simp [h12, h11, h10, h9, h8, h7, h6, h5, h1, b0, hlt, hli, hkk, hs], by simp [h12, h11, h10, h9, h8, h7, h6, h5, h1, b0, hlt, hli, hkk, hs]⟩ (by first | omega | (simp; omega))
      · have : k = (sucs l i).length := by omega
        subst this
        rw [endsK_end] at h9
        repeat (first | simp [h12, h11, h10, h9, h8, h7, h6, h5, h1, b0, hlt, hli, hkk] | with_reducible refine And.intro (by omega) ?_ | with_reducible refine optK_if (by omega) ?_ | with_reducible refine optD_if (by omega) ?_ | simp (disch := omega) only [wrap_i64, if_pos, if_neg] | with_reducible refine gsel_pure (by with_unfolding_all rfl) _ (fun hg => by (try simp at hg); simp [hg, h12, h11, h10, h9, h8, h7, h6, h5, h1, b0, hlt, hli, hkk]; rfl) ?_ | with_reducible refine dsel_pure (by with_unfolding_all rfl) _ (fun hg => by (try simp at hg); simp [hg, h12, h11, h10, h9, h8, h7, h6, h5, h1, b0, hlt, hli, hkk]; rfl) ?_ | with_reducible refine awp_draw (by kernel_rfl) (by decide +kernel) ?_)
        refine hLB (i + 1) _ ⟨by first | omega | assumption | (simp; done) | (simp; omega), by simp [h12, h11, h10, h9, h8, h7, h6, h5, h1, b0, hlt, hli, hkk], by simp [h12, h11, h10, h9, h8, h7, h6, h5, h1, b0, hlt, hli, hkk], by simp [h12, h11, h10, h9, h8, h7, h6, h5, h1, b0, hlt, hli, hkk], by simp [h12, h11, h10, h9, h8, h7, h6, h5, h1, b0, hlt, hli, hkk], by simp [h12, h11, h10, h9, h8, h7, h6, h5, h1, b0, hlt, hli, hkk], by simp [h12, h11, h10, h9, h8, h7, h6, h5, h1, b0, hlt, hli, hkk], by simp [h12, h11, h10, h9, h8, h7, h6, h5, h1, b0, hlt, hli, hkk], by simp [h12, h11, h10, h9, h8, h7, h6, h5, h1, b0, hlt, hli, hkk]⟩ (by first | omega | (simp; omega))
    · have : i = l.length := by omega
      subst this
      have hls : loopsL l (h + 1) = if endsL l (domB l) h l.length = [] then loopsL l h else loopsL l h ++ [loopL l h] := rfl
      have hll := loopsL_len l h
      by_cases hE : endsL l (domB l) h l.length = []
      · rw [if_pos hE] at hls
        repeat (first | simp [h10, h9, h8, h7, h6, h5, h1, b0, hlt, hli, hE] | with_reducible refine And.intro (by omega) ?_ | with_reducible refine optK_if (by omega) ?_ | with_reducible refine optD_if (by omega) ?_ | simp (disch := omega) only [wrap_i64, if_pos, if_neg] | with_reducible refine gsel_pure (by with_unfolding_all rfl) _ (fun hg => by (try simp at hg); simp [hg, h10, h9, h8, h7, h6, h5, h1, b0, hlt, hli, hE]; rfl) ?_ | with_reducible refine dsel_pure (by with_unfolding_all rfl) _ (fun hg => by (try simp at hg); simp [hg, h10, h9, h8, h7, h6, h5, h1, b0, hlt, hli, hE]; rfl) ?_ | with_reducible refine awp_draw (by kernel_rfl) (by decide +kernel) ?_)
        refine hLA (h + 1) _ ⟨by first | omega | assumption | (simp [hls]; done) | (simp [hls]; omega), by simp [h10, h9, h8, h7, h6, h5, h1, b0, hlt, hli, hls], by simp [h10, h9, h8, h7, h6, h5, h1, b0, hlt, hli, hls], by simp [h10, h9, h8, h7, h6, h5, h1, b0, hlt, hli, hls], by simp [h10, h9, h8, h7, h6, h5, h1, b0, hlt, hli, hls], by simp [h10, h9, h8, h7, h6, h5, h1, b0, hlt, hli, hls], by simp [h10, h9, h8, h7, h6, h5, h1, b0, hlt, hli, hls]⟩ (by first | omega | (simp; omega))
      · rw [if_neg hE] at hls
        have hL := at_loop name l ok h hlt
        rw [← hN] at hL
        repeat (first | simp [h10, h9, h8, h7, h6, h5, h1, b0, hlt, hli, hE] | with_reducible refine And.intro (by omega) ?_ | with_reducible refine optK_if (by omega) ?_ | with_reducible refine optD_if (by omega) ?_ | simp (disch := omega) only [wrap_i64, if_pos, if_neg] | with_reducible refine gsel_pure (by with_unfolding_all rfl) _ (fun hg => by (try simp at hg); simp [hg, h10, h9, h8, h7, h6, h5, h1, b0, hlt, hli, hE]; rfl) ?_ | with_reducible refine dsel_pure (by with_unfolding_all rfl) _ (fun hg => by (try simp at hg); simp [hg, h10, h9, h8, h7, h6, h5, h1, b0, hlt, hli, hE]; rfl) ?_ | with_reducible refine awp_draw (by kernel_rfl) (by decide +kernel) ?_)
        refine gop_call' (hL) (by (first | simp [h10, h9, h8, h7, h6, h5, h1, b0, hlt, hli] | simp (disch := omega) [h10, h9, h8, h7, h6, h5, h1, b0, hlt, hli, wrap_i64]); try rfl) (by simp) (by simp) ?_
        repeat (first | simp [h10, h9, h8, h7, h6, h5, h1, b0, hlt, hli] | with_reducible refine And.intro (by omega) ?_ | with_reducible refine optK_if (by omega) ?_ | with_reducible refine optD_if (by omega) ?_ | simp (disch := omega) only [wrap_i64, if_pos, if_neg] | with_reducible refine gsel_pure (by with_unfolding_all rfl) _ (fun hg => by (try simp at hg); simp [hg, h10, h9, h8, h7, h6, h5, h1, b0, hlt, hli]; rfl) ?_ | with_reducible refine dsel_pure (by with_unfolding_all rfl) _ (fun hg => by (try simp at hg); simp [hg, h10, h9, h8, h7, h6, h5, h1, b0, hlt, hli]; rfl) ?_ | with_reducible refine awp_draw (by kernel_rfl) (by decide +kernel) ?_)
        refine hLA (h + 1) _ ⟨by first | omega | assumption | (simp [hls, listsC_append, listsC]; done) | (simp [hls, listsC_append, listsC]; omega), by simp [h10, h9, h8, h7, h6, h5, h1, b0, hlt, hli, hls, listsC_append, listsC], by simp [h10, h9, h8, h7, h6, h5, h1, b0, hlt, hli, hls, listsC_append, listsC], by simp [h10, h9, h8, h7, h6, h5, h1, b0, hlt, hli, hls, listsC_append, listsC], by simp [h10, h9, h8, h7, h6, h5, h1, b0, hlt, hli, hls, listsC_append, listsC], by simp [h10, h9, h8, h7, h6, h5, h1, b0, hlt, hli, hls, listsC_append, listsC], by simp [h10, h9, h8, h7, h6, h5, h1, b0, hlt, hli, hls, listsC_append, listsC]⟩ (by first | omega | (simp; omega))
  · have : h = l.length := by omega
    subst this
    repeat (first | simp [h8, h7, h6, h5, h1, b0, hlt] | with_reducible refine And.intro (by omega) ?_ | with_reducible refine optK_if (by omega) ?_ | with_reducible refine optD_if (by omega) ?_ | simp (disch := omega) only [wrap_i64, if_pos, if_neg] | with_reducible refine gsel_pure (by with_unfolding_all rfl) _ (fun hg => by (try simp at hg); simp [hg, h8, h7, h6, h5, h1, b0, hlt]; rfl) ?_ | with_reducible refine dsel_pure (by with_unfolding_all rfl) _ (fun hg => by (try simp at hg); simp [hg, h8, h7, h6, h5, h1, b0, hlt]; rfl) ?_ | with_reducible refine awp_draw (by kernel_rfl) (by decide +kernel) ?_)
    refine hQ _ _ (ret2 (by simp [retAV, resAV]; rfl) (by simp; rfl) ?_)
    simp [hf]
theorem listsC_get (L : List (List Nat)) {k : Nat} (h : k < L.length) : (listsC L)[k]? = some (.sl L[k].length (intsC (natI L[k]))) := by simp [listsC, h]
theorem at_listsN (L : List (List Nat)) (hL : L.length ≤ 1000000) (hE : ∀ x ∈ L, x.length ≤ 1000000) : At Tryd.prog 24 [listsA L, listsA L] (bV true) := by
  refine at_code mixed Tryd.func24 (by kernel_rfl) rfl (by kernel_rfl) (by kernel_rfl) rfl fun Q hQ => ?_
  repeat (first | simp | with_reducible refine And.intro (by omega) ?_ | with_reducible refine optK_if (by omega) ?_ | with_reducible refine optD_if (by omega) ?_ | simp (disch := omega) only [wrap_i64, if_pos, if_neg] | with_reducible refine gsel_pure (by with_unfolding_all rfl) _ (fun hg => by (try simp at hg); simp [hg]; rfl) ?_ | with_reducible refine dsel_pure (by with_unfolding_all rfl) _ (fun hg => by (try simp at hg); simp [hg]; rfl) ?_ | with_reducible refine awp_draw (by kernel_rfl) (by decide +kernel) ?_)
  refine awp_loopV (fun (k : Nat) (s : St) => (k ≤ L.length) ∧ s.env 5 = iV .i64 k ∧ s.env 0 = listsA L ∧ s.env 1 = listsA L) (fun (k : Nat) => L.length - k) (0) ⟨by first | omega | assumption | (simp; done) | (simp; omega), by simp, by simp, by simp⟩ fun k s hsA LA hLA => ?_
  obtain ⟨hk, h5, h0, h1⟩ := hsA
  repeat (first | simp [h5, h0, h1] | with_reducible refine And.intro (by omega) ?_ | with_reducible refine optK_if (by omega) ?_ | with_reducible refine optD_if (by omega) ?_ | simp (disch := omega) only [wrap_i64, if_pos, if_neg] | with_reducible refine gsel_pure (by with_unfolding_all rfl) _ (fun hg => by (try simp at hg); simp [hg, h5, h0, h1]; rfl) ?_ | with_reducible refine dsel_pure (by with_unfolding_all rfl) _ (fun hg => by (try simp at hg); simp [hg, h5, h0, h1]; rfl) ?_ | with_reducible refine awp_draw (by kernel_rfl) (by decide +kernel) ?_)
  (with_reducible refine condK_intro (fun hlt => ?_) (fun hlt => ?_)) <;> (try simp only [hlt]) <;> (try simp [andB, orB, eqI, ltI, Int.natCast_inj] at hlt)
  · have g := listsC_get L hlt
    have g2 : (listsC L)[k]'(by simpa using hlt) = .sl L[k].length (intsC (natI L[k])) := by simp [listsC]
    have hEk := hE L[k] (List.getElem_mem hlt)
    repeat (first | simp [h5, h0, h1, hlt, g, hlt] | with_reducible refine And.intro (by omega) ?_ | with_reducible refine optK_if (by omega) ?_ | with_reducible refine optD_if (by omega) ?_ | simp (disch := omega) only [wrap_i64, if_pos, if_neg] | with_reducible refine gsel_pure (by with_unfolding_all rfl) _ (fun hg => by (try simp at hg); simp [hg, h5, h0, h1, hlt, g, hlt]; rfl) ?_ | with_reducible refine dsel_pure (by with_unfolding_all rfl) _ (fun hg => by (try simp at hg); simp [hg, h5, h0, h1, hlt, g, hlt]; rfl) ?_ | with_reducible refine awp_draw (by kernel_rfl) (by decide +kernel) ?_)
    refine dq_at (at_ints (natI L[k]) (natI L[k]) (by simpa using hEk)) (by (first | simp [h5, h0, h1, hlt, g2] | simp (disch := omega) [h5, h0, h1, hlt, g2, wrap_i64]); try rfl) (by simp) (by simp) ?_
    repeat (first | simp [h5, h0, h1, hlt] | with_reducible refine And.intro (by omega) ?_ | with_reducible refine optK_if (by omega) ?_ | with_reducible refine optD_if (by omega) ?_ | simp (disch := omega) only [wrap_i64, if_pos, if_neg] | with_reducible refine gsel_pure (by with_unfolding_all rfl) _ (fun hg => by (try simp at hg); simp [hg, h5, h0, h1, hlt]; rfl) ?_ | with_reducible refine dsel_pure (by with_unfolding_all rfl) _ (fun hg => by (try simp at hg); simp [hg, h5, h0, h1, hlt]; rfl) ?_ | with_reducible refine awp_draw (by kernel_rfl) (by decide +kernel) ?_)
    refine hLA (k + 1) _ ⟨by first | omega | assumption | (simp; done) | (simp; omega), by simp [h5, h0, h1, hlt], by simp [h5, h0, h1, hlt], by simp [h5, h0, h1, hlt]⟩ (by first | omega | (simp; omega))
  · repeat (first | simp [h5, h0, h1, hlt] | with_reducible refine And.intro (by omega) ?_ | with_reducible refine optK_if (by omega) ?_ | with_reducible refine optD_if (by omega) ?_ | simp (disch := omega) only [wrap_i64, if_pos, if_neg] | with_reducible refine gsel_pure (by with_unfolding_all rfl) _ (fun hg => by (try simp at hg); simp [hg, h5, h0, h1, hlt]; rfl) ?_ | with_reducible refine dsel_pure (by with_unfolding_all rfl) _ (fun hg => by (try simp at hg); simp [hg, h5, h0, h1, hlt]; rfl) ?_ | with_reducible refine awp_draw (by kernel_rfl) (by decide +kernel) ?_)
    refine hQ _ _ (ret2 (by simp [retAV, resAV]; rfl) (by simp; rfl) ?_)
    rfl
end Go.Proofs
end
section
set_option linter.all false
namespace Go.Dr
open Go.Fw
theorem loopL_len (l : List I8) (h : Nat) : (loopL l h).length ≤ l.length + 1 := by
  unfold loopL
  exact Nat.le_trans (loopT_len _ _ _) (by have := sortL_len (natI (bodyL l h (endsL l (domB l) h l.length))) l.length; omega)
theorem loopsL_elem (l : List I8) : ∀ m, ∀ x ∈ loopsL l m, x.length ≤ l.length + 1
  | 0, x, hx => by simp [loopsL] at hx
  | m + 1, x, hx => by
    rw [loopsL] at hx
    split at hx
    · exact loopsL_elem l m x hx
    · rw [List.mem_append, List.mem_singleton] at hx
      rcases hx with hx | rfl
      · exact loopsL_elem l m x hx
      · exact loopL_len l m
end Go.Dr
namespace Go.Proofs
open Go.Fw Go.Dr
set_option maxRecDepth 100000
theorem at_listsz : At Tryd.prog 24 [.cell .z, .cell .z] (bV true) := at_unz rfl (at_listsN [] (by simp) (by simp))
set_option maxHeartbeats 1000000 in
theorem at_lawLoops (name : ByteArray) (l : List I8) : At Tryd.prog 5 [fAV name l] (bV true) := by
  have hA := at_dominators name l
  have hB := at_r12dominators name l
  have hC := at_loops name l
  have hD := at_r12loops name l
  by_cases hc : funcE l = 0
  · rw [if_pos hc] at hA hB hC hD
    have hlen := (okL hc).len
    have hA' := at_pure hA (r' := .tup [intsA (idomL (domB l) l.length l.length), iV .i64 (funcE l)]) (by simp [idomL_length])
    have hC' := at_pure hC (r' := .tup [listsA (loopsL l l.length), iV .i64 (funcE l)]) (by simp)
    have hI := at_ints (idomL (domB l) l.length l.length) (idomL (domB l) l.length l.length) (by rw [idomL_length (Nat.le_refl _)]; omega)
    have hL := at_listsN (loopsL l l.length) (by have := loopsL_len l l.length; omega) (fun x hx => by have := loopsL_elem l _ x hx; omega)
    clear hA hC
    generalize idomL (domB l) l.length l.length = D at *
    generalize loopsL l l.length = L at *
    refine at_code mixed Tryd.func5 (by kernel_rfl) rfl (by kernel_rfl) (by kernel_rfl) rfl fun Q hQ => ?_
    repeat (first | simp | with_reducible refine And.intro (by omega) ?_ | with_reducible refine optK_if (by omega) ?_ | with_reducible refine optD_if (by omega) ?_ | simp (disch := omega) only [wrap_i64, if_pos, if_neg] | with_reducible refine gsel_pure (by with_unfolding_all rfl) _ (fun hg => by (try simp at hg); simp [hg]; rfl) ?_ | with_reducible refine dsel_pure (by with_unfolding_all rfl) _ (fun hg => by (try simp at hg); simp [hg]; rfl) ?_ | with_reducible refine awp_draw (by kernel_rfl) (by decide +kernel) ?_)
    (with_reducible refine condK_intro (fun hh => ?_) (fun hh => ?_)) <;> (try simp only [hh]) <;> (try simp [andB, orB, eqI, ltI, Int.natCast_inj] at hh)
    · repeat (first | simp [hh] | with_reducible refine And.intro (by omega) ?_ | with_reducible refine optK_if (by omega) ?_ | with_reducible refine optD_if (by omega) ?_ | simp (disch := omega) only [wrap_i64, if_pos, if_neg] | with_reducible refine gsel_pure (by with_unfolding_all rfl) _ (fun hg => by (try simp at hg); simp [hg, hh]; rfl) ?_ | with_reducible refine dsel_pure (by with_unfolding_all rfl) _ (fun hg => by (try simp at hg); simp [hg, hh]; rfl) ?_ | with_reducible refine awp_draw (by kernel_rfl) (by decide +kernel) ?_)
      refine gop_call (at_example) (by (first | simp [hh] | simp (disch := omega) [hh, wrap_i64]); try rfl) (by simp) (by simp) ?_
      repeat (first | simp [hh] | with_reducible refine And.intro (by omega) ?_ | with_reducible refine optK_if (by omega) ?_ | with_reducible refine optD_if (by omega) ?_ | simp (disch := omega) only [wrap_i64, if_pos, if_neg] | with_reducible refine gsel_pure (by with_unfolding_all rfl) _ (fun hg => by (try simp at hg); simp [hg, hh]; rfl) ?_ | with_reducible refine dsel_pure (by with_unfolding_all rfl) _ (fun hg => by (try simp at hg); simp [hg, hh]; rfl) ?_ | with_reducible refine awp_draw (by kernel_rfl) (by decide +kernel) ?_)
      refine hQ _ _ (ret2 (by simp [retAV, resAV]; rfl) (by simp; rfl) ?_)
      rfl
    · repeat (first | simp [hh] | with_reducible refine And.intro (by omega) ?_ | with_reducible refine optK_if (by omega) ?_ | with_reducible refine optD_if (by omega) ?_ | simp (disch := omega) only [wrap_i64, if_pos, if_neg] | with_reducible refine gsel_pure (by with_unfolding_all rfl) _ (fun hg => by (try simp at hg); simp [hg, hh]; rfl) ?_ | with_reducible refine dsel_pure (by with_unfolding_all rfl) _ (fun hg => by (try simp at hg); simp [hg, hh]; rfl) ?_ | with_reducible refine awp_draw (by kernel_rfl) (by decide +kernel) ?_)
      refine gop_call' (hA') (by (first | simp [hh] | simp (disch := omega) [hh, wrap_i64]); try rfl) (by simp) (by simp) ?_
      repeat (first | simp [hh] | with_reducible refine And.intro (by omega) ?_ | with_reducible refine optK_if (by omega) ?_ | with_reducible refine optD_if (by omega) ?_ | simp (disch := omega) only [wrap_i64, if_pos, if_neg] | with_reducible refine gsel_pure (by with_unfolding_all rfl) _ (fun hg => by (try simp at hg); simp [hg, hh]; rfl) ?_ | with_reducible refine dsel_pure (by with_unfolding_all rfl) _ (fun hg => by (try simp at hg); simp [hg, hh]; rfl) ?_ | with_reducible refine awp_draw (by kernel_rfl) (by decide +kernel) ?_)
      refine gop_call' (hB) (by (first | simp [hh] | simp (disch := omega) [hh, wrap_i64]); try rfl) (by simp) (by simp) ?_
      repeat (first | simp [hh] | with_reducible refine And.intro (by omega) ?_ | with_reducible refine optK_if (by omega) ?_ | with_reducible refine optD_if (by omega) ?_ | simp (disch := omega) only [wrap_i64, if_pos, if_neg] | with_reducible refine gsel_pure (by with_unfolding_all rfl) _ (fun hg => by (try simp at hg); simp [hg, hh]; rfl) ?_ | with_reducible refine dsel_pure (by with_unfolding_all rfl) _ (fun hg => by (try simp at hg); simp [hg, hh]; rfl) ?_ | with_reducible refine awp_draw (by kernel_rfl) (by decide +kernel) ?_)
      refine gop_call' (hC') (by (first | simp [hh] | simp (disch := omega) [hh, wrap_i64]); try rfl) (by simp) (by simp) ?_
      repeat (first | simp [hh] | with_reducible refine And.intro (by omega) ?_ | with_reducible refine optK_if (by omega) ?_ | with_reducible refine optD_if (by omega) ?_ | simp (disch := omega) only [wrap_i64, if_pos, if_neg] | with_reducible refine gsel_pure (by with_unfolding_all rfl) _ (fun hg => by (try simp at hg); simp [hg, hh]; rfl) ?_ | with_reducible refine dsel_pure (by with_unfolding_all rfl) _ (fun hg => by (try simp at hg); simp [hg, hh]; rfl) ?_ | with_reducible refine awp_draw (by kernel_rfl) (by decide +kernel) ?_)
      refine gop_call' (hD) (by (first | simp [hh] | simp (disch := omega) [hh, wrap_i64]); try rfl) (by simp) (by simp) ?_
      repeat (first | simp [hh] | with_reducible refine And.intro (by omega) ?_ | with_reducible refine optK_if (by omega) ?_ | with_reducible refine optD_if (by omega) ?_ | simp (disch := omega) only [wrap_i64, if_pos, if_neg] | with_reducible refine gsel_pure (by with_unfolding_all rfl) _ (fun hg => by (try simp at hg); simp [hg, hh]; rfl) ?_ | with_reducible refine dsel_pure (by with_unfolding_all rfl) _ (fun hg => by (try simp at hg); simp [hg, hh]; rfl) ?_ | with_reducible refine awp_draw (by kernel_rfl) (by decide +kernel) ?_)
      refine gop_call (hI) (by (first | simp [hh] | simp (disch := omega) [hh, wrap_i64]); try rfl) (by simp) (by simp) ?_
      repeat (first | simp [hh] | with_reducible refine And.intro (by omega) ?_ | with_reducible refine optK_if (by omega) ?_ | with_reducible refine optD_if (by omega) ?_ | simp (disch := omega) only [wrap_i64, if_pos, if_neg] | with_reducible refine gsel_pure (by with_unfolding_all rfl) _ (fun hg => by (try simp at hg); simp [hg, hh]; rfl) ?_ | with_reducible refine dsel_pure (by with_unfolding_all rfl) _ (fun hg => by (try simp at hg); simp [hg, hh]; rfl) ?_ | with_reducible refine awp_draw (by kernel_rfl) (by decide +kernel) ?_)
      refine gop_call (hL) (by (first | simp [hh] | simp (disch := omega) [hh, wrap_i64]); try rfl) (by simp) (by simp) ?_
      repeat (first | simp [hh] | with_reducible refine And.intro (by omega) ?_ | with_reducible refine optK_if (by omega) ?_ | with_reducible refine optD_if (by omega) ?_ | simp (disch := omega) only [wrap_i64, if_pos, if_neg] | with_reducible refine gsel_pure (by with_unfolding_all rfl) _ (fun hg => by (try simp at hg); simp [hg, hh]; rfl) ?_ | with_reducible refine dsel_pure (by with_unfolding_all rfl) _ (fun hg => by (try simp at hg); simp [hg, hh]; rfl) ?_ | with_reducible refine awp_draw (by kernel_rfl) (by decide +kernel) ?_)
      refine gop_call (at_example) (by (first | simp [hh] | simp (disch := omega) [hh, wrap_i64]); try rfl) (by simp) (by simp) ?_
      repeat (first | simp [hh] | with_reducible refine And.intro (by omega) ?_ | with_reducible refine optK_if (by omega) ?_ | with_reducible refine optD_if (by omega) ?_ | simp (disch := omega) only [wrap_i64, if_pos, if_neg] | with_reducible refine gsel_pure (by with_unfolding_all rfl) _ (fun hg => by (try simp at hg); simp [hg, hh]; rfl) ?_ | with_reducible refine dsel_pure (by with_unfolding_all rfl) _ (fun hg => by (try simp at hg); simp [hg, hh]; rfl) ?_ | with_reducible refine awp_draw (by kernel_rfl) (by decide +kernel) ?_)
      refine hQ _ _ (ret2 (by simp [retAV, resAV]; rfl) (by simp; rfl) ?_)
      simp
  · rw [if_neg hc] at hA hB hC hD
    refine at_code mixed Tryd.func5 (by kernel_rfl) rfl (by kernel_rfl) (by kernel_rfl) rfl fun Q hQ => ?_
    repeat (first | simp | with_reducible refine And.intro (by omega) ?_ | with_reducible refine optK_if (by omega) ?_ | with_reducible refine optD_if (by omega) ?_ | simp (disch := omega) only [wrap_i64, if_pos, if_neg] | with_reducible refine gsel_pure (by with_unfolding_all rfl) _ (fun hg => by (try simp at hg); simp [hg]; rfl) ?_ | with_reducible refine dsel_pure (by with_unfolding_all rfl) _ (fun hg => by (try simp at hg); simp [hg]; rfl) ?_ | with_reducible refine awp_draw (by kernel_rfl) (by decide +kernel) ?_)
    (with_reducible refine condK_intro (fun hh => ?_) (fun hh => ?_)) <;> (try simp only [hh]) <;> (try simp [andB, orB, eqI, ltI, Int.natCast_inj] at hh)
    · repeat (first | simp [hh] | with_reducible refine And.intro (by omega) ?_ | with_reducible refine optK_if (by omega) ?_ | with_reducible refine optD_if (by omega) ?_ | simp (disch := omega) only [wrap_i64, if_pos, if_neg] | with_reducible refine gsel_pure (by with_unfolding_all rfl) _ (fun hg => by (try simp at hg); simp [hg, hh]; rfl) ?_ | with_reducible refine dsel_pure (by with_unfolding_all rfl) _ (fun hg => by (try simp at hg); simp [hg, hh]; rfl) ?_ | with_reducible refine awp_draw (by kernel_rfl) (by decide +kernel) ?_)
      refine gop_call (at_example) (by (first | simp [hh] | simp (disch := omega) [hh, wrap_i64]); try rfl) (by simp) (by simp) ?_
      repeat (first | simp [hh] | with_reducible refine And.intro (by omega) ?_ | with_reducible refine optK_if (by omega) ?_ | with_reducible refine optD_if (by omega) ?_ | simp (disch := omega) only [wrap_i64, if_pos, if_neg] | with_reducible refine gsel_pure (by with_unfolding_all rfl) _ (fun hg => by (try simp at hg); simp [hg, hh]; rfl) ?_ | with_reducible refine dsel_pure (by with_unfolding_all rfl) _ (fun hg => by (try simp at hg); simp [hg, hh]; rfl) ?_ | with_reducible refine awp_draw (by kernel_rfl) (by decide +kernel) ?_)
      refine hQ _ _ (ret2 (by simp [retAV, resAV]; rfl) (by simp; rfl) ?_)
      rfl
    · repeat (first | simp [hh] | with_reducible refine And.intro (by omega) ?_ | with_reducible refine optK_if (by omega) ?_ | with_reducible refine optD_if (by omega) ?_ | simp (disch := omega) only [wrap_i64, if_pos, if_neg] | with_reducible refine gsel_pure (by with_unfolding_all rfl) _ (fun hg => by (try simp at hg); simp [hg, hh]; rfl) ?_ | with_reducible refine dsel_pure (by with_unfolding_all rfl) _ (fun hg => by (try simp at hg); simp [hg, hh]; rfl) ?_ | with_reducible refine awp_draw (by kernel_rfl) (by decide +kernel) ?_)
      refine gop_call (hA) (by (first | simp [hh] | simp (disch := omega) [hh, wrap_i64]); try rfl) (by simp) (by simp) ?_
      repeat (first | simp [hh] | with_reducible refine And.intro (by omega) ?_ | with_reducible refine optK_if (by omega) ?_ | with_reducible refine optD_if (by omega) ?_ | simp (disch := omega) only [wrap_i64, if_pos, if_neg] | with_reducible refine gsel_pure (by with_unfolding_all rfl) _ (fun hg => by (try simp at hg); simp [hg, hh]; rfl) ?_ | with_reducible refine dsel_pure (by with_unfolding_all rfl) _ (fun hg => by (try simp at hg); simp [hg, hh]; rfl) ?_ | with_reducible refine awp_draw (by kernel_rfl) (by decide +kernel) ?_)
      refine gop_call (hB) (by (first | simp [hh] | simp (disch := omega) [hh, wrap_i64]); try rfl) (by simp) (by simp) ?_
      repeat (first | simp [hh] | with_reducible refine And.intro (by omega) ?_ | with_reducible refine optK_if (by omega) ?_ | with_reducible refine optD_if (by omega) ?_ | simp (disch := omega) only [wrap_i64, if_pos, if_neg] | with_reducible refine gsel_pure (by with_unfolding_all rfl) _ (fun hg => by (try simp at hg); simp [hg, hh]; rfl) ?_ | with_reducible refine dsel_pure (by with_unfolding_all rfl) _ (fun hg => by (try simp at hg); simp [hg, hh]; rfl) ?_ | with_reducible refine awp_draw (by kernel_rfl) (by decide +kernel) ?_)
      refine gop_call (hC) (by (first | simp [hh] | simp (disch := omega) [hh, wrap_i64]); try rfl) (by simp) (by simp) ?_
      repeat (first | simp [hh] | with_reducible refine And.intro (by omega) ?_ | with_reducible refine optK_if (by omega) ?_ | with_reducible refine optD_if (by omega) ?_ | simp (disch := omega) only [wrap_i64, if_pos, if_neg] | with_reducible refine gsel_pure (by with_unfolding_all rfl) _ (fun hg => by (try simp at hg); simp [hg, hh]; rfl) ?_ | with_reducible refine dsel_pure (by with_unfolding_all rfl) _ (fun hg => by (try simp at hg); simp [hg, hh]; rfl) ?_ | with_reducible refine awp_draw (by kernel_rfl) (by decide +kernel) ?_)
      refine gop_call (hD) (by (first | simp [hh] | simp (disch := omega) [hh, wrap_i64]); try rfl) (by simp) (by simp) ?_
      repeat (first | simp [hh] | with_reducible refine And.intro (by omega) ?_ | with_reducible refine optK_if (by omega) ?_ | with_reducible refine optD_if (by omega) ?_ | simp (disch := omega) only [wrap_i64, if_pos, if_neg] | with_reducible refine gsel_pure (by with_unfolding_all rfl) _ (fun hg => by (try simp at hg); simp [hg, hh]; rfl) ?_ | with_reducible refine dsel_pure (by with_unfolding_all rfl) _ (fun hg => by (try simp at hg); simp [hg, hh]; rfl) ?_ | with_reducible refine awp_draw (by kernel_rfl) (by decide +kernel) ?_)
      refine gop_call (at_intsz) (by (first | simp [hh] | simp (disch := omega) [hh, wrap_i64]); try rfl) (by simp) (by simp) ?_
      repeat (first | simp [hh] | with_reducible refine And.intro (by omega) ?_ | with_reducible refine optK_if (by omega) ?_ | with_reducible refine optD_if (by omega) ?_ | simp (disch := omega) only [wrap_i64, if_pos, if_neg] | with_reducible refine gsel_pure (by with_unfolding_all rfl) _ (fun hg => by (try simp at hg); simp [hg, hh]; rfl) ?_ | with_reducible refine dsel_pure (by with_unfolding_all rfl) _ (fun hg => by (try simp at hg); simp [hg, hh]; rfl) ?_ | with_reducible refine awp_draw (by kernel_rfl) (by decide +kernel) ?_)
      refine gop_call (at_listsz) (by (first | simp [hh] | simp (disch := omega) [hh, wrap_i64]); try rfl) (by simp) (by simp) ?_
      repeat (first | simp [hh] | with_reducible refine And.intro (by omega) ?_ | with_reducible refine optK_if (by omega) ?_ | with_reducible refine optD_if (by omega) ?_ | simp (disch := omega) only [wrap_i64, if_pos, if_neg] | with_reducible refine gsel_pure (by with_unfolding_all rfl) _ (fun hg => by (try simp at hg); simp [hg, hh]; rfl) ?_ | with_reducible refine dsel_pure (by with_unfolding_all rfl) _ (fun hg => by (try simp at hg); simp [hg, hh]; rfl) ?_ | with_reducible refine awp_draw (by kernel_rfl) (by decide +kernel) ?_)
      refine gop_call (at_example) (by (first | simp [hh] | simp (disch := omega) [hh, wrap_i64]); try rfl) (by simp) (by simp) ?_
      repeat (first | simp [hh] | with_reducible refine And.intro (by omega) ?_ | with_reducible refine optK_if (by omega) ?_ | with_reducible refine optD_if (by omega) ?_ | simp (disch := omega) only [wrap_i64, if_pos, if_neg] | with_reducible refine gsel_pure (by with_unfolding_all rfl) _ (fun hg => by (try simp at hg); simp [hg, hh]; rfl) ?_ | with_reducible refine dsel_pure (by with_unfolding_all rfl) _ (fun hg => by (try simp at hg); simp [hg, hh]; rfl) ?_ | with_reducible refine awp_draw (by kernel_rfl) (by decide +kernel) ?_)
      refine hQ _ _ (ret2 (by simp [retAV, resAV]; rfl) (by simp; rfl) ?_)
      simp
end Go.Proofs
end
section
set_option linter.all false
namespace Go.Dr
open Go.Fw

/-- d dominates i. -/
structure Dm (l : List I8) (d i : Nat) : Prop where
  d_lt : d < l.length
  i_lt : i < l.length
  d_on : RE l (-1) d
  i_on : RE l (-1) i
  cut : ¬ RE l d i
theorem domB_iff {l : List I8} {d i : Nat} : domB l d i = true ↔ Dm l d i := by
  rw [domB_nat]
  unfold domD domK
  rw [Bool.and_eq_true, decide_eq_true_iff, decide_eq_true_iff, List.mem_filter, List.mem_filter, Bool.and_eq_true, decide_eq_true_iff, decide_eq_true_iff, Bool.not_eq_true', decide_eq_false_iff_not, visit_iff, visit_iff, visit_iff, List.mem_range, List.mem_range]
  constructor
  · rintro ⟨⟨h1, h2, h3⟩, h4, ⟨h5, h6⟩, h7⟩
    exact ⟨h1, h4, h3, h6, fun h => h7 ⟨h4, h⟩⟩
  · rintro ⟨h1, h2, h3, h4, h5⟩
    exact ⟨⟨h1, h1, h3⟩, h2, ⟨h2, h4⟩, fun h => h5 h.2⟩
theorem RE_zero_false {l : List I8} {x : Nat} (h : RE l 0 x) : False := RE_sub (S := fun _ => False) (fun h => h rfl) (fun _ _ _ h _ _ => h) h
theorem RE_all {l : List I8} {w : Int} {x : Nat} (h : RE l w x) : RE l (-1) x :=
  RE_sub (S := fun x => RE l (-1) x) (fun _ => RE_zero (by omega)) (fun y x hy hS hs _ => RE_step hy hS hs (by omega)) h
theorem Dm.refl {l : List I8} {d : Nat} (h : d < l.length) (ho : RE l (-1) d) : Dm l d d := ⟨h, h, ho, ho, fun h => RE_ne h rfl⟩
/-- What is reached without a, is reached without b if b is not reached without a. -/
theorem RE_avoid {l : List I8} {a b c : Nat} (h : RE l a c) (hn : ¬ RE l a b) : RE l b c := by
  have := RE_sub (S := fun x => RE l a x ∧ RE l b x) (fun h0 => ?_) (fun y x hy hS hs hw => ?_) h
  · exact this.2
  · refine ⟨RE_zero h0, RE_zero fun hb => hn ?_⟩
    have : b = 0 := by omega
    subst this
    exact RE_zero h0
  · have hx := RE_step hy hS.1 hs hw
    refine ⟨hx, RE_step hy hS.2 hs fun e => hn ?_⟩
    have : x = b := by omega
    exact this ▸ hx
theorem Dm.trans {l : List I8} {a b c : Nat} (h : Dm l a b) (k : Dm l b c) : Dm l a c := ⟨h.d_lt, k.i_lt, h.d_on, k.i_on, fun hr => k.cut (RE_avoid hr h.cut)⟩
theorem Dm.total {l : List I8} {a b c : Nat} (h : Dm l a c) (k : Dm l b c) : Dm l a b ∨ Dm l b a := by
  by_cases h1 : RE l a b
  · by_cases h2 : RE l b a
    · have := RE_sub (S := fun x => RE l a x ∨ RE l b x) (fun _ => ?_) (fun y x hy hS hs _ => ?_) h.i_on
      · rcases this with e | e
        · exact (h.cut e).elim
        · exact (k.cut e).elim
      · refine .inl (RE_zero fun e => ?_)
        rw [e] at h1
        exact RE_zero_false h1
      · rcases hS with hS | hS
        · by_cases e : (x : Int) = a
          · have : x = a := by omega
            subst this; exact .inr h2
          · exact .inl (RE_step hy hS hs e)
        · by_cases e : (x : Int) = b
          · have : x = b := by omega
            subst this; exact .inl h1
          · exact .inr (RE_step hy hS hs e)
    · exact .inr ⟨k.d_lt, h.d_lt, k.d_on, h.d_on, h2⟩
  · exact .inl ⟨h.d_lt, k.d_lt, h.d_on, k.d_on, h1⟩
theorem Dm.anti {l : List I8} {a b : Nat} (h : Dm l a b) (k : Dm l b a) : a = b := by
  apply Classical.byContradiction
  intro hne
  have := RE_sub (S := fun x => (RE l a x ∧ RE l b x) ∨ RE l a b ∨ RE l b a) (fun _ => ?_) (fun y x hy hS hs _ => ?_) h.i_on
  · rcases this with e | e | e
    · exact RE_ne e.2 rfl
    · exact h.cut e
    · exact k.cut e
  · by_cases ha : a = 0
    · subst ha; exact .inr (.inr (RE_zero (by omega)))
    · by_cases hb : b = 0
      · subst hb; exact .inr (.inl (RE_zero (by omega)))
      · exact .inl ⟨RE_zero (by omega), RE_zero (by omega)⟩
  · rcases hS with hS | hS
    · by_cases ea : x = a
      · subst ea; exact .inr (.inr (RE_step hy hS.2 hs (by omega)))
      · by_cases eb : x = b
        · subst eb; exact .inr (.inl (RE_step hy hS.1 hs (by omega)))
        · exact .inl ⟨RE_step hy hS.1 hs (by omega), RE_step hy hS.2 hs (by omega)⟩
    · exact .inr hS

/-! The closest of those that dominate. -/
structure IdI (l : List I8) (i : Nat) (m : Nat) (b : Int) : Prop where
  none : b < 0 → b = -1 ∧ ∀ d, d < m → d ≠ i → ¬ Dm l d i
  some : ∀ c : Nat, b = c → c < m ∧ c ≠ i ∧ Dm l c i ∧ ∀ d, d < m → d ≠ i → Dm l d i → Dm l d c
theorem idom_inv (l : List I8) (i : Nat) : ∀ m, IdI l i m (idomF (domB l) i m)
  | 0 => ⟨fun _ => ⟨rfl, fun d hd => by omega⟩, fun c hc => by simp [idomF] at hc⟩
  | m + 1 => by
    have h := idom_inv l i m
    have hlt := idomF_lt (dom := domB l) (i := i) m
    rw [idomF]
    generalize idomF (domB l) i m = b at *
    unfold domStep
    split
    · rename_i hc
      obtain ⟨h1, h2, h3⟩ := hc
      have hD := domB_iff.1 h2
      have hmi : m ≠ i := fun e => h1 (by rw [e])
      refine ⟨fun hb => by omega, fun c hcm => ?_⟩
      have : m = c := by omega
      subst this
      refine ⟨by omega, hmi, hD, fun d hd hdi hDd => ?_⟩
      by_cases e : d = m
      · subst e; exact Dm.refl hD.d_lt hD.d_on
      · rcases h3 with h3 | h3
        · exact ((h.none h3).2 d (by omega) hdi hDd).elim
        · rcases Int.lt_or_le b 0 with hb | hb
          · exact ((h.none hb).2 d (by omega) hdi hDd).elim
          · obtain ⟨c, rfl⟩ : ∃ c : Nat, b = c := ⟨b.toNat, by omega⟩
            exact ((h.some c rfl).2.2.2 d (by omega) hdi hDd).trans (domB_iff.1 h3)
    · rename_i hc
      refine ⟨fun hb => ⟨(h.none hb).1, fun d hd hdi hDd => ?_⟩, fun c hbc => ?_⟩
      · by_cases e : d = m
        · subst e; exact hc ⟨by omega, domB_iff.2 hDd, .inl hb⟩
        · exact (h.none hb).2 d (by omega) hdi hDd
      · obtain ⟨h1, h2, h3, h4⟩ := h.some c hbc
        refine ⟨by omega, h2, h3, fun d hd hdi hDd => ?_⟩
        by_cases e : d = m
        · subst e
          rcases hDd.total h3 with hx | hx
          · exact hx
          · exact (hc ⟨by omega, domB_iff.2 hDd, .inr (by rw [hbc]; exact domB_iff.2 hx)⟩).elim
        · exact h4 d (by omega) hdi hDd
def idm (l : List I8) (i : Nat) : Int := idomF (domB l) i l.length
theorem idm_none {l : List I8} {i : Nat} (h : idm l i < 0) {d : Nat} (hd : Dm l d i) : d = i := Classical.byContradiction fun hn => ((idom_inv l i l.length).none h).2 d hd.d_lt hn hd
theorem idm_some {l : List I8} {i c : Nat} (h : idm l i = c) : c ≠ i ∧ Dm l c i ∧ ∀ d, d ≠ i → Dm l d i → Dm l d c := by
  obtain ⟨_, h1, h2, h3⟩ := (idom_inv l i l.length).some c h
  exact ⟨h1, h2, fun d hd hD => h3 d hD.d_lt hd hD⟩
theorem idm_lt (l : List I8) (i : Nat) : -1 ≤ idm l i ∧ idm l i < l.length := idomF_lt _
/-- Following the closest of those that dominate. -/
def abvF (l : List I8) (d : Int) : Nat → Int → Bool
  | 0, _ => false
  | f + 1, x => if 0 ≤ x ∧ x < l.length then (if x = d then true else abvF l d f (idm l x.toNat)) else false
/-- How many dominate i. -/
def cntD (l : List I8) (i : Nat) : Nat := ((List.range l.length).filter fun (d : Nat) => domB l d i).length
theorem filter_lt {α : Type} {p q : α → Bool} : ∀ {l : List α}, (∀ x ∈ l, p x = true → q x = true) → (∃ x ∈ l, q x = true ∧ p x = false) → (l.filter p).length < (l.filter q).length
  | [], _, ⟨x, hx, _⟩ => by simp at hx
  | a :: l, h, ⟨x, hx, hq, hp⟩ => by
    have hle : (l.filter p).length ≤ (l.filter q).length := by
      have : ∀ (l : List α), (∀ x ∈ l, p x = true → q x = true) → (l.filter p).length ≤ (l.filter q).length := by
        intro l
        induction l with
        | nil => simp
        | cons a l ih =>
          intro h
          have := ih (fun x hx => h x (by simp [hx]))
          rw [List.filter_cons, List.filter_cons]
          cases hpa : p a
          · cases q a <;> simp <;> omega
          · rw [h a (by simp) hpa]; simp; omega
      exact this l (fun x hx => h x (by simp [hx]))
    rw [List.filter_cons, List.filter_cons]
    rcases List.mem_cons.1 hx with rfl | hx
    · rw [hp, hq]; simp; omega
    · have := filter_lt (fun x hx => h x (by simp [hx])) ⟨x, hx, hq, hp⟩
      cases hpa : p a
      · cases q a <;> simp <;> omega
      · rw [h a (by simp) hpa]; simp; omega
theorem cntD_lt {l : List I8} {c i : Nat} (h : Dm l c i) (hne : c ≠ i) : cntD l c < cntD l i := by
  unfold cntD
  apply filter_lt
  · intro x _ hx
    exact domB_iff.2 ((domB_iff.1 hx).trans h)
  · refine ⟨i, by simpa using h.i_lt, domB_iff.2 (Dm.refl h.i_lt h.i_on), ?_⟩
    rw [Bool.eq_false_iff]
    intro hx
    exact hne (h.anti (domB_iff.1 hx))
theorem cntD_le (l : List I8) (i : Nat) : cntD l i ≤ l.length := by
  unfold cntD
  exact Nat.le_trans (List.length_filter_le _ _) (by simp)
theorem cntD_pos {l : List I8} {i : Nat} (h : i < l.length) (ho : RE l (-1) i) : 0 < cntD l i := by
  unfold cntD
  apply List.length_pos_of_mem (a := i)
  rw [List.mem_filter]
  exact ⟨by simpa using h, domB_iff.2 (Dm.refl h ho)⟩
theorem abv_iff {l : List I8} {d : Nat} : ∀ (f : Nat) {i : Nat}, i < l.length → RE l (-1) i → cntD l i ≤ f → (abvF l d f i = true ↔ Dm l d i)
  | 0, i, hi, ho, hc => by have := cntD_pos hi ho; omega
  | f + 1, i, hi, ho, hc => by
    rw [abvF, if_pos (by omega)]
    by_cases e : d = i
    · subst e; simp; exact Dm.refl hi ho
    · rw [if_neg (by omega)]
      have ht : ((i : Int)).toNat = i := by omega
      rw [ht]
      rcases Int.lt_or_le (idm l i) 0 with hn | hs
      · have h1 : abvF l d f (idm l i) = false := by
          cases f with
          | zero => rfl
          | succ f => rw [abvF, if_neg (by omega)]
        rw [h1]
        exact ⟨fun h => (Bool.false_ne_true h).elim, fun h => (e (idm_none hn h)).elim⟩
      · obtain ⟨c, hcc⟩ : ∃ c : Nat, idm l i = c := ⟨(idm l i).toNat, by omega⟩
        obtain ⟨h1, h2, h3⟩ := idm_some hcc
        rw [hcc, abv_iff f h2.d_lt h2.d_on (by have := cntD_lt h2 h1; omega)]
        exact ⟨fun h => h.trans h2, fun h => h3 d e h⟩

/-! Loops. -/
theorem end_Dm {l : List I8} {h x : Nat} (hx : x ∈ endsL l (domB l) h l.length) : h ∈ sucs l x ∧ Dm l h x := by
  unfold endsL at hx
  simp at hx
  exact ⟨hx.2.1, domB_iff.1 hx.2.2⟩
abbrev LE (l : List I8) (h x : Nat) : Prop := LP l h (fun x => x ∈ endsL l (domB l) h l.length) x
theorem LE_Dm {l : List I8} {h x : Nat} (hx : LE l h x) : Dm l h x :=
  LP_sub (S := fun x => Dm l h x) (fun x hx => (end_Dm hx).2) (fun x y hx ho hs hy hyh hD => ⟨hD.d_lt, hx, hD.d_on, (wOn_iff.1 ho).2, fun hr => hD.cut (RE_step hx hr hs (by omega))⟩) hx
theorem wOn_of {l : List I8} {x : Nat} (h : x < l.length) (ho : RE l (-1) x) : wOn l (-1) x = true := wOn_iff.2 ⟨h, ho⟩
/-- A header below another one whose loops meet lies in its loop. -/
theorem header_in {l : List I8} {a b x : Nat} (hne : a ≠ b) (hab : Dm l a b) (hxa : LE l a x) (hxb : Dm l b x) : LE l a b := by
  apply Classical.byContradiction
  intro hn
  have hba : RE l b a := Classical.byContradiction fun h => hne (hab.anti ⟨hab.i_lt, hab.d_lt, hab.i_on, hab.d_on, h⟩)
  have hD := LE_Dm hxa
  have hb0 : b ≠ 0 := by
    intro e
    subst e
    exact RE_zero_false hba
  have := RE_sub (S := fun z => RE l (-1) z ∧ (LE l a z → RE l b z)) (fun h => ⟨RE_zero h, fun _ => RE_zero (by omega)⟩) (fun y z hy hS hs hw => ⟨RE_step hy hS.1 hs hw, fun hz => ?_⟩) hD.i_on
  · exact hxb.cut (this.2 hxa)
  · by_cases e1 : z = a
    · subst e1; exact hba
    · have hzD := LE_Dm hz
      have hy' := hS.2 (LP_step hy (wOn_of hy hS.1) hs hzD.i_lt e1 hz)
      by_cases e2 : z = b
      · subst e2; exact (hn hz).elim
      · exact RE_step hy hy' hs (by omega)
/-- Then its loop lies in that loop. -/
theorem loop_in {l : List I8} {a b : Nat} (hne : a ≠ b) (hab : Dm l a b) (hb : LE l a b) {y : Nat} (hy : LE l b y) : LE l a y := by
  have := LP_sub (S := fun y => LE l a y ∧ Dm l b y) (fun y hy => ?_) (fun x y hx ho hs hyn hyb hS => ?_) hy
  · exact this.1
  · obtain ⟨h1, h2⟩ := end_Dm hy
    exact ⟨LP_step h2.i_lt (wOn_of h2.i_lt h2.i_on) h1 hab.i_lt (fun e => hne e.symm) hb, h2⟩
  · obtain ⟨h1, h2⟩ := hS
    have hya : y ≠ a := by
      intro e
      subst e
      exact hne (hab.anti h2)
    exact ⟨LP_step hx ho hs hyn hya h1, ⟨h2.d_lt, hx, h2.d_on, (wOn_iff.1 ho).2, fun hr => h2.cut (RE_step hx hr hs (by omega))⟩⟩
theorem loopL_mem {l : List I8} {h x : Nat} (hh : h < l.length) : x ∈ loopL l h ↔ x = h ∨ LE l h x := by
  unfold loopL loopT
  unfold sortL
  rw [List.take_of_length_le (Nat.le_trans (List.length_filter_le _ _) (by simp))]
  rw [List.mem_cons, List.mem_filter, List.mem_filter]
  constructor
  · rintro (e | ⟨⟨h1, h2⟩, h3⟩)
    · exact .inl e
    · have h1 : x < l.length := by simpa using h1
      have h3 : x ≠ h := by simpa using h3
      simp [mem_natI] at h2
      exact .inr ((body_iff (ends := endsL l (domB l) h l.length) hh (fun x hx => endsL_lt hx) x h1 h3).1 h2)
  · rintro (e | e)
    · exact .inl e
    · by_cases hx : x = h
      · exact .inl hx
      · have hD := LE_Dm e
        refine .inr ⟨⟨by simpa using hD.i_lt, ?_⟩, by simpa using hx⟩
        simp [mem_natI]
        exact (body_iff (ends := endsL l (domB l) h l.length) hh (fun x hx => endsL_lt hx) x hD.i_lt hx).2 e
/-- Two loops with different headers are disjoint or nested. -/
theorem loops_nest {l : List I8} {a b : Nat} (ha : a < l.length) (hb : b < l.length) (hea : endsL l (domB l) a l.length ≠ []) (heb : endsL l (domB l) b l.length ≠ []) {x : Nat} (hxa : x ∈ loopL l a) (hxb : x ∈ loopL l b) :
    (∀ y ∈ loopL l a, y ∈ loopL l b) ∨ (∀ y ∈ loopL l b, y ∈ loopL l a) := by
  by_cases hne : a = b
  · subst hne; exact .inl fun y h => h
  have hself : ∀ {h : Nat}, h < l.length → endsL l (domB l) h l.length ≠ [] → ∀ {x}, x ∈ loopL l h → Dm l h x := by
    intro h hh he x hx
    rcases (loopL_mem hh).1 hx with e | e
    · subst e
      obtain ⟨y, hy⟩ := List.exists_mem_of_ne_nil _ he
      have := (end_Dm hy).2
      exact Dm.refl this.d_lt this.d_on
    · exact LE_Dm e
  have key : ∀ {a b x : Nat}, a ≠ b → a < l.length → b < l.length → x ∈ loopL l a → x ∈ loopL l b → Dm l a b → Dm l b x → ∀ y ∈ loopL l b, y ∈ loopL l a := by
    intro a b x hne ha hb hxa hxb hab hbx y hy
    rcases (loopL_mem ha).1 hxa with e | e
    · subst e; exact (hne (hab.anti hbx)).elim
    · have hin := header_in hne hab e hbx
      rcases (loopL_mem hb).1 hy with e2 | e2
      · subst e2; exact (loopL_mem ha).2 (.inr hin)
      · exact (loopL_mem ha).2 (.inr (loop_in hne hab hin e2))
  have hDa := hself ha hea hxa
  have hDb := hself hb heb hxb
  rcases hDa.total hDb with h | h
  · exact .inr (key hne ha hb hxa hxb h hDb)
  · exact .inl (key (fun e => hne e.symm) hb ha hxb hxa h hDa)
end Go.Dr
end
section
set_option linter.all false
namespace Go.Dr
open Go.Fw
theorem idomL_get {l : List I8} {j : Nat} (h : j < l.length) : (idomL (domB l) l.length l.length)[j]? = some (idm l j) := by
  unfold idomL
  rw [List.getElem?_append_left (by simpa using h)]
  simp [h, idm]
theorem makL_nil {x : List Int} : (makL x).length = 0 ↔ x = [] := by
  constructor
  · intro h
    cases x with
    | nil => rfl
    | cons a x =>
      exfalso
      have h1 : ∀ (l : List Int) (o : List Int), o ≠ [] → l.foldl makI o ≠ [] := by
        intro l
        induction l with
        | nil => exact fun o h => h
        | cons b l ih =>
          intro o ho
          refine ih _ ?_
          unfold makI
          split
          · exact ho
          · intro e
            have := insL_len o b
            rw [e] at this
            simp at this
      have h2 : makL (a :: x) ≠ [] := by
        unfold makL
        rw [List.foldl_cons]
        refine h1 x _ ?_
        unfold makI
        simp [insL]
      exact h2 (List.eq_nil_of_length_eq_zero h)
  · rintro rfl; rfl
theorem loopsL_mem {l : List I8} : ∀ {m : Nat}, ∀ {x : List Nat}, x ∈ loopsL l m → ∃ h, h < m ∧ endsL l (domB l) h l.length ≠ [] ∧ x = loopL l h
  | 0, x, hx => by simp [loopsL] at hx
  | m + 1, x, hx => by
    rw [loopsL] at hx
    split at hx
    · obtain ⟨h, h1, h2, h3⟩ := loopsL_mem hx
      exact ⟨h, by omega, h2, h3⟩
    · rename_i hE
      rw [List.mem_append, List.mem_singleton] at hx
      rcases hx with hx | rfl
      · obtain ⟨h, h1, h2, h3⟩ := loopsL_mem hx
        exact ⟨h, by omega, h2, h3⟩
      · exact ⟨m, by omega, hE, rfl⟩
theorem loopL_Dm {l : List I8} {h : Nat} (hh : h < l.length) (he : endsL l (domB l) h l.length ≠ []) {x : Nat} (hx : x ∈ loopL l h) : Dm l h x := by
  rcases (loopL_mem hh).1 hx with e | e
  · subst e
    obtain ⟨y, hy⟩ := List.exists_mem_of_ne_nil _ he
    have := (end_Dm hy).2
    exact Dm.refl this.d_lt this.d_on
  · exact LE_Dm e
theorem loopL_cons (l : List I8) (h : Nat) : ∃ t, loopL l h = h :: t := ⟨_, rfl⟩
theorem sub_natI {a b : List Nat} (h : ∀ x ∈ a, x ∈ b) : (natI a).all (fun x => decide (x ∈ natI b)) = true := by
  rw [List.all_eq_true]
  intro x hx
  obtain ⟨y, hy, rfl⟩ := List.mem_map.1 hx
  exact decide_eq_true (mem_natI.2 (h y hy))
end Go.Dr
namespace Go.Proofs
open Go.Fw Go.Dr
set_option maxRecDepth 100000

theorem at_above (l : List I8) (hlen : l.length ≤ 64) (d x : Int) : At Tryd.prog 26 [intsA (idomL (domB l) l.length l.length), iV .i64 d, iV .i64 x] (bV (abvF l d (l.length + 1) x)) := by
  have hDl := idomL_length (dom := domB l) (Nat.le_refl l.length)
  obtain ⟨D, hD⟩ : ∃ D, D = idomL (domB l) l.length l.length := ⟨_, rfl⟩
  rw [← hD] at hDl ⊢
  obtain ⟨res, h0⟩ : ∃ r, r = abvF l d (l.length + 1 - 0) x := ⟨_, rfl⟩
  have e0 : abvF l d (l.length + 1) x = res := h0.symm
  rw [e0]
  refine at_code mixed Tryd.func26 (by kernel_rfl) rfl (by kernel_rfl) (by kernel_rfl) rfl fun Q hQ => ?_
  repeat (first | simp | with_reducible refine And.intro (by omega) ?_ | with_reducible refine optK_if (by omega) ?_ | with_reducible refine optD_if (by omega) ?_ | simp (disch := omega) only [wrap_i64, if_pos, if_neg] | with_reducible refine gsel_pure (by with_unfolding_all rfl) _ (fun hg => by (try simp at hg); simp [hg]; rfl) ?_ | with_reducible refine dsel_pure (by with_unfolding_all rfl) _ (fun hg => by (try simp at hg); simp [hg]; rfl) ?_ | with_reducible refine awp_draw (by kernel_rfl) (by decide +kernel) ?_)
  refine awp_loopV (fun ((k, y) : Nat × Int) (s : St) => (k ≤ l.length + 1) ∧ (res = abvF l d (l.length + 1 - k) y) ∧ s.env 7 = iV .i64 k ∧ s.env 2 = iV .i64 y ∧ s.env 1 = iV .i64 d ∧ s.env 0 = intsA D) (fun ((k, y) : Nat × Int) => l.length + 1 - k) ((0, x)) ⟨by first | omega | assumption | (simp [hDl]; done) | (simp [hDl]; omega), by first | omega | assumption | (simp [hDl]; done) | (simp [hDl]; omega), by simp [hDl], by simp [hDl], by simp [hDl], by simp [hDl]⟩ fun (k, y) s hsA LA hLA => ?_
  obtain ⟨hk, ha, h7, h2, h1, h0⟩ := hsA
  repeat (first | simp [h7, h2, h1, h0, hDl] | with_reducible refine And.intro (by omega) ?_ | with_reducible refine optK_if (by omega) ?_ | with_reducible refine optD_if (by omega) ?_ | simp (disch := omega) only [wrap_i64, if_pos, if_neg] | with_reducible refine gsel_pure (by with_unfolding_all rfl) _ (fun hg => by (try simp at hg); simp [hg, h7, h2, h1, h0, hDl]; rfl) ?_ | with_reducible refine dsel_pure (by with_unfolding_all rfl) _ (fun hg => by (try simp at hg); simp [hg, h7, h2, h1, h0, hDl]; rfl) ?_ | with_reducible refine awp_draw (by kernel_rfl) (by decide +kernel) ?_)
  (with_reducible refine condK_intro (fun hc => ?_) (fun hc => ?_)) <;> (try simp only [hc]) <;> (try simp [andB, orB, eqI, ltI, Int.natCast_inj] at hc)
  · have hc2 := hc
    obtain ⟨⟨q1, q2⟩, q3⟩ := hc2
    obtain ⟨j, rfl⟩ : ∃ j : Nat, y = j := ⟨y.toNat, by omega⟩
    have hj : j < l.length := by omega
    have hjD : j < D.length := by omega
    have g := idomL_get hj
    rw [← hD] at g
    have g2 : D[j]'hjD = idm l j := by rw [List.getElem?_eq_getElem hjD] at g; exact Option.some.inj g
    have hf : l.length + 1 - k = (l.length - k) + 1 := by omega
    rw [hf, abvF, if_pos (by omega)] at ha
    by_cases e : (j : Int) = d
    · have e2 : eqI (j : Int) d = true := by simp [eqI, e]
      rw [if_pos e] at ha
      repeat (first | simp [h7, h2, h1, h0, hc, e2] | with_reducible refine And.intro (by omega) ?_ | with_reducible refine optK_if (by omega) ?_ | with_reducible refine optD_if (by omega) ?_ | simp (disch := omega) only [wrap_i64, if_pos, if_neg] | with_reducible refine gsel_pure (by with_unfolding_all rfl) _ (fun hg => by (try simp at hg); simp [hg, h7, h2, h1, h0, hc, e2]; rfl) ?_ | with_reducible refine dsel_pure (by with_unfolding_all rfl) _ (fun hg => by (try simp at hg); simp [hg, h7, h2, h1, h0, hc, e2]; rfl) ?_ | with_reducible refine awp_draw (by kernel_rfl) (by decide +kernel) ?_)
      refine hQ _ _ (ret2 (by simp [retAV, resAV]; rfl) (by simp; rfl) ?_)
      rw [ha]
    · have e2 : eqI (j : Int) d = false := by simp [eqI, e]
      rw [if_neg e] at ha
      have ht : ((j : Int)).toNat = j := by omega
      have hk1 : l.length + 1 - (k + 1) = l.length - k := by omega
      rw [ht] at ha
      repeat (first | simp [h7, h2, h1, h0, hc, e2, g2, hjD] | with_reducible refine And.intro (by omega) ?_ | with_reducible refine optK_if (by omega) ?_ | with_reducible refine optD_if (by omega) ?_ | simp (disch := omega) only [wrap_i64, if_pos, if_neg] | with_reducible refine gsel_pure (by with_unfolding_all rfl) _ (fun hg => by (try simp at hg); simp [hg, h7, h2, h1, h0, hc, e2, g2, hjD]; rfl) ?_ | with_reducible refine dsel_pure (by with_unfolding_all rfl) _ (fun hg => by (try simp at hg); simp [hg, h7, h2, h1, h0, hc, e2, g2, hjD]; rfl) ?_ | with_reducible refine awp_draw (by kernel_rfl) (by decide +kernel) ?_)
      refine hLA ((k + 1, idm l j)) _ ⟨by first | omega | assumption | (simp; done) | (simp; omega), by rw [hk1]; exact ha, by simp [h7, h2, h1, h0, hc], by simp [h7, h2, h1, h0, hc], by simp [h7, h2, h1, h0, hc], by simp [h7, h2, h1, h0, hc]⟩ (by first | omega | (simp; omega))
  · have hf : abvF l d (l.length + 1 - k) y = false := by
      by_cases hk2 : k = l.length + 1
      · rw [hk2, Nat.sub_self]; rfl
      · have : l.length + 1 - k = (l.length - k) + 1 := by omega
        rw [this, abvF, if_neg (by omega)]
    rw [hf] at ha
    repeat (first | simp [h7, h2, h1, h0, hc] | with_reducible refine And.intro (by omega) ?_ | with_reducible refine optK_if (by omega) ?_ | with_reducible refine optD_if (by omega) ?_ | simp (disch := omega) only [wrap_i64, if_pos, if_neg] | with_reducible refine gsel_pure (by with_unfolding_all rfl) _ (fun hg => by (try simp at hg); simp [hg, h7, h2, h1, h0, hc]; rfl) ?_ | with_reducible refine dsel_pure (by with_unfolding_all rfl) _ (fun hg => by (try simp at hg); simp [hg, h7, h2, h1, h0, hc]; rfl) ?_ | with_reducible refine awp_draw (by kernel_rfl) (by decide +kernel) ?_)
    refine hQ _ _ (ret2 (by simp [retAV, resAV]; rfl) (by simp; rfl) ?_)
    rw [ha]
theorem at_subset (a b : List Int) (ha : a.length ≤ 1000) (hb : b.length ≤ 1000) : At Tryd.prog 28 [intsA a, intsA b] (bV (a.all fun x => decide (x ∈ b))) := by
  refine at_code mixed Tryd.func28 (by kernel_rfl) rfl (by kernel_rfl) (by kernel_rfl) rfl fun Q hQ => ?_
  repeat (first | simp | with_reducible refine And.intro (by omega) ?_ | with_reducible refine optK_if (by omega) ?_ | with_reducible refine optD_if (by omega) ?_ | simp (disch := omega) only [wrap_i64, if_pos, if_neg] | with_reducible refine gsel_pure (by with_unfolding_all rfl) _ (fun hg => by (try simp at hg); simp [hg]; rfl) ?_ | with_reducible refine dsel_pure (by with_unfolding_all rfl) _ (fun hg => by (try simp at hg); simp [hg]; rfl) ?_ | with_reducible refine awp_draw (by kernel_rfl) (by decide +kernel) ?_)
  refine awp_loopV (fun (k : Nat) (s : St) => (k ≤ a.length) ∧ ((a.all fun x => decide (x ∈ b)) = ((a.drop k).all fun x => decide (x ∈ b))) ∧ s.env 5 = iV .i64 k ∧ s.env 0 = intsA a ∧ s.env 1 = intsA b) (fun (k : Nat) => a.length - k) (0) ⟨by first | omega | assumption | (simp; done) | (simp; omega), by first | omega | assumption | (simp; done) | (simp; omega), by simp, by simp, by simp⟩ fun k s hsA LA hLA => ?_
  obtain ⟨hk, hr, h5, h0, h1⟩ := hsA
  repeat (first | simp [h5, h0, h1] | with_reducible refine And.intro (by omega) ?_ | with_reducible refine optK_if (by omega) ?_ | with_reducible refine optD_if (by omega) ?_ | simp (disch := omega) only [wrap_i64, if_pos, if_neg] | with_reducible refine gsel_pure (by with_unfolding_all rfl) _ (fun hg => by (try simp at hg); simp [hg, h5, h0, h1]; rfl) ?_ | with_reducible refine dsel_pure (by with_unfolding_all rfl) _ (fun hg => by (try simp at hg); simp [hg, h5, h0, h1]; rfl) ?_ | with_reducible refine awp_draw (by kernel_rfl) (by decide +kernel) ?_)
  (with_reducible refine condK_intro (fun hlt => ?_) (fun hlt => ?_)) <;> (try simp only [hlt]) <;> (try simp [andB, orB, eqI, ltI, Int.natCast_inj] at hlt)
  · rw [List.drop_eq_getElem_cons hlt, List.all_cons] at hr
    repeat (first | simp [h5, h0, h1, hlt, hlt] | with_reducible refine And.intro (by omega) ?_ | with_reducible refine optK_if (by omega) ?_ | with_reducible refine optD_if (by omega) ?_ | simp (disch := omega) only [wrap_i64, if_pos, if_neg] | with_reducible refine gsel_pure (by with_unfolding_all rfl) _ (fun hg => by (try simp at hg); simp [hg, h5, h0, h1, hlt, hlt]; rfl) ?_ | with_reducible refine dsel_pure (by with_unfolding_all rfl) _ (fun hg => by (try simp at hg); simp [hg, h5, h0, h1, hlt, hlt]; rfl) ?_ | with_reducible refine awp_draw (by kernel_rfl) (by decide +kernel) ?_)
    refine gop_call (at_hasI b a[k] (by omega)) (by (first | simp [h5, h0, h1, hlt, hlt] | simp (disch := omega) [h5, h0, h1, hlt, hlt, wrap_i64]); try rfl) (by simp) (by simp) ?_
    repeat (first | simp [h5, h0, h1, hlt] | with_reducible refine And.intro (by omega) ?_ | with_reducible refine optK_if (by omega) ?_ | with_reducible refine optD_if (by omega) ?_ | simp (disch := omega) only [wrap_i64, if_pos, if_neg] | with_reducible refine gsel_pure (by with_unfolding_all rfl) _ (fun hg => by (try simp at hg); simp [hg, h5, h0, h1, hlt]; rfl) ?_ | with_reducible refine dsel_pure (by with_unfolding_all rfl) _ (fun hg => by (try simp at hg); simp [hg, h5, h0, h1, hlt]; rfl) ?_ | with_reducible refine awp_draw (by kernel_rfl) (by decide +kernel) ?_)
    by_cases e : a[k] ∈ b
    · rw [decide_eq_true e, Bool.true_and] at hr
      repeat (first | simp [h5, h0, h1, hlt, e] | with_reducible refine And.intro (by omega) ?_ | with_reducible refine optK_if (by omega) ?_ | with_reducible refine optD_if (by omega) ?_ | simp (disch := omega) only [wrap_i64, if_pos, if_neg] | with_reducible refine gsel_pure (by with_unfolding_all rfl) _ (fun hg => by (try simp at hg); simp [hg, h5, h0, h1, hlt, e]; rfl) ?_ | with_reducible refine dsel_pure (by with_unfolding_all rfl) _ (fun hg => by (try simp at hg); simp [hg, h5, h0, h1, hlt, e]; rfl) ?_ | with_reducible refine awp_draw (by kernel_rfl) (by decide +kernel) ?_)
      refine hLA (k + 1) _ ⟨by first | omega | assumption | (simp; done) | (simp; omega), by exact hr, by simp [h5, h0, h1, hlt], by simp [h5, h0, h1, hlt], by simp [h5, h0, h1, hlt]⟩ (by first | omega | (simp; omega))
    · rw [decide_eq_false e, Bool.false_and] at hr
      repeat (first | simp [h5, h0, h1, hlt, e] | with_reducible refine And.intro (by omega) ?_ | with_reducible refine optK_if (by omega) ?_ | with_reducible refine optD_if (by omega) ?_ | simp (disch := omega) only [wrap_i64, if_pos, if_neg] | with_reducible refine gsel_pure (by with_unfolding_all rfl) _ (fun hg => by (try simp at hg); simp [hg, h5, h0, h1, hlt, e]; rfl) ?_ | with_reducible refine dsel_pure (by with_unfolding_all rfl) _ (fun hg => by (try simp at hg); simp [hg, h5, h0, h1, hlt, e]; rfl) ?_ | with_reducible refine awp_draw (by kernel_rfl) (by decide +kernel) ?_)
      refine hQ _ _ (ret2 (by simp [retAV, resAV]; rfl) (by simp; rfl) ?_)
      rw [hr]
  · rw [List.drop_eq_nil_of_le (by omega)] at hr
    repeat (first | simp [h5, h0, h1, hlt] | with_reducible refine And.intro (by omega) ?_ | with_reducible refine optK_if (by omega) ?_ | with_reducible refine optD_if (by omega) ?_ | simp (disch := omega) only [wrap_i64, if_pos, if_neg] | with_reducible refine gsel_pure (by with_unfolding_all rfl) _ (fun hg => by (try simp at hg); simp [hg, h5, h0, h1, hlt]; rfl) ?_ | with_reducible refine dsel_pure (by with_unfolding_all rfl) _ (fun hg => by (try simp at hg); simp [hg, h5, h0, h1, hlt]; rfl) ?_ | with_reducible refine awp_draw (by kernel_rfl) (by decide +kernel) ?_)
    refine hQ _ _ (ret2 (by simp [retAV, resAV]; rfl) (by simp; rfl) ?_)
    rw [hr]; rfl
theorem at_inter (a b : List Int) (ha : a.length ≤ 1000) (hb : b.length ≤ 1000) : At Tryd.prog 27 [intsA a, intsA b] (intsA (makL (a.filter fun x => decide (x ∈ b)))) := by
  refine at_code mixed Tryd.func27 (by kernel_rfl) rfl (by kernel_rfl) (by kernel_rfl) rfl fun Q hQ => ?_
  repeat (first | simp | with_reducible refine And.intro (by omega) ?_ | with_reducible refine optK_if (by omega) ?_ | with_reducible refine optD_if (by omega) ?_ | simp (disch := omega) only [wrap_i64, if_pos, if_neg] | with_reducible refine gsel_pure (by with_unfolding_all rfl) _ (fun hg => by (try simp at hg); simp [hg]; rfl) ?_ | with_reducible refine dsel_pure (by with_unfolding_all rfl) _ (fun hg => by (try simp at hg); simp [hg]; rfl) ?_ | with_reducible refine awp_draw (by kernel_rfl) (by decide +kernel) ?_)
  refine awp_loopW (fun (k : Nat) (s : St) => (k ≤ a.length) ∧ s.env 6 = iV .i64 k ∧ s.env 5 = .cell (.own 655360000 1 ((a.take k).filter fun x => decide (x ∈ b)).length (intsC ((a.take k).filter fun x => decide (x ∈ b)))) ∧ s.env 0 = intsA a ∧ s.env 1 = intsA b) (fun (k : Nat) => a.length - k) _ (Weak.own 5 655360000 1 (by simp)) (0) ⟨by first | omega | assumption | (simp; done) | (simp; omega), by simp, by simp, by simp, by simp⟩ fun k s hsA LA hLA => ?_
  obtain ⟨hk, h6, h5, h0, h1⟩ := hsA
  repeat (first | simp [h6, h5, h0, h1] | with_reducible refine And.intro (by omega) ?_ | with_reducible refine optK_if (by omega) ?_ | with_reducible refine optD_if (by omega) ?_ | simp (disch := omega) only [wrap_i64, if_pos, if_neg] | with_reducible refine gsel_pure (by with_unfolding_all rfl) _ (fun hg => by (try simp at hg); simp [hg, h6, h5, h0, h1]; rfl) ?_ | with_reducible refine dsel_pure (by with_unfolding_all rfl) _ (fun hg => by (try simp at hg); simp [hg, h6, h5, h0, h1]; rfl) ?_ | with_reducible refine awp_draw (by kernel_rfl) (by decide +kernel) ?_)
  (with_reducible refine condK_intro (fun hlt => ?_) (fun hlt => ?_)) <;> (try simp only [hlt]) <;> (try simp [andB, orB, eqI, ltI, Int.natCast_inj] at hlt)
  · have hfl : ((a.take k).filter fun x => decide (x ∈ b)).length ≤ k := Nat.le_trans (List.length_filter_le _ _) (by rw [List.length_take]; omega)
    have ht : ((a.take (k + 1)).filter fun x => decide (x ∈ b)) = ((a.take k).filter fun x => decide (x ∈ b)) ++ if a[k] ∈ b then [a[k]] else [] := by
      rw [List.take_succ_eq_append_getElem hlt, List.filter_append]
      by_cases e : a[k] ∈ b <;> simp [e]
    generalize ((a.take k).filter fun x => decide (x ∈ b)) = F at *
    repeat (first | simp [h6, h5, h0, h1, hlt, hlt] | with_reducible refine And.intro (by omega) ?_ | with_reducible refine optK_if (by omega) ?_ | with_reducible refine optD_if (by omega) ?_ | simp (disch := omega) only [wrap_i64, if_pos, if_neg] | with_reducible refine gsel_pure (by with_unfolding_all rfl) _ (fun hg => by (try simp at hg); simp [hg, h6, h5, h0, h1, hlt, hlt]; rfl) ?_ | with_reducible refine dsel_pure (by with_unfolding_all rfl) _ (fun hg => by (try simp at hg); simp [hg, h6, h5, h0, h1, hlt, hlt]; rfl) ?_ | with_reducible refine awp_draw (by kernel_rfl) (by decide +kernel) ?_)
    refine gop_call (at_hasI b a[k] (by omega)) (by (first | simp [h6, h5, h0, h1, hlt, hlt] | simp (disch := omega) [h6, h5, h0, h1, hlt, hlt, wrap_i64]); try rfl) (by simp) (by simp) ?_
    repeat (first | simp [h6, h5, h0, h1, hlt] | with_reducible refine And.intro (by omega) ?_ | with_reducible refine optK_if (by omega) ?_ | with_reducible refine optD_if (by omega) ?_ | simp (disch := omega) only [wrap_i64, if_pos, if_neg] | with_reducible refine gsel_pure (by with_unfolding_all rfl) _ (fun hg => by (try simp at hg); simp [hg, h6, h5, h0, h1, hlt]; rfl) ?_ | with_reducible refine dsel_pure (by with_unfolding_all rfl) _ (fun hg => by (try simp at hg); simp [hg, h6, h5, h0, h1, hlt]; rfl) ?_ | with_reducible refine awp_draw (by kernel_rfl) (by decide +kernel) ?_)
    by_cases e : a[k] ∈ b
    · rw [if_pos e] at ht
      repeat (first | simp [h6, h5, h0, h1, hlt, e, hlt] | with_reducible refine And.intro (by omega) ?_ | with_reducible refine optK_if (by omega) ?_ | with_reducible refine optD_if (by omega) ?_ | simp (disch := omega) only [wrap_i64, if_pos, if_neg] | with_reducible refine gsel_pure (by with_unfolding_all rfl) _ (fun hg => by (try simp at hg); simp [hg, h6, h5, h0, h1, hlt, e, hlt]; rfl) ?_ | with_reducible refine dsel_pure (by with_unfolding_all rfl) _ (fun hg => by (try simp at hg); simp [hg, h6, h5, h0, h1, hlt, e, hlt]; rfl) ?_ | with_reducible refine awp_draw (by kernel_rfl) (by decide +kernel) ?_)
      refine hLA (k + 1) _ ⟨by first | omega | assumption | (simp [ht, intsC_append]; done) | (simp [ht, intsC_append]; omega), by simp [h6, h5, h0, h1, hlt, ht, intsC_append], by simp [h6, h5, h0, h1, hlt, ht, intsC_append], by simp [h6, h5, h0, h1, hlt, ht, intsC_append], by simp [h6, h5, h0, h1, hlt, ht, intsC_append]⟩ (by first | omega | (simp; omega))
    · rw [if_neg e, List.append_nil] at ht
      repeat (first | simp [h6, h5, h0, h1, hlt, e] | with_reducible refine And.intro (by omega) ?_ | with_reducible refine optK_if (by omega) ?_ | with_reducible refine optD_if (by omega) ?_ | simp (disch := omega) only [wrap_i64, if_pos, if_neg] | with_reducible refine gsel_pure (by with_unfolding_all rfl) _ (fun hg => by (try simp at hg); simp [hg, h6, h5, h0, h1, hlt, e]; rfl) ?_ | with_reducible refine dsel_pure (by with_unfolding_all rfl) _ (fun hg => by (try simp at hg); simp [hg, h6, h5, h0, h1, hlt, e]; rfl) ?_ | with_reducible refine awp_draw (by kernel_rfl) (by decide +kernel) ?_)
      refine hLA (k + 1) _ ⟨by first | omega | assumption | (simp [ht]; done) | (simp [ht]; omega), by simp [h6, h5, h0, h1, hlt, ht], by simp [h6, h5, h0, h1, hlt, ht], by simp [h6, h5, h0, h1, hlt, ht], by simp [h6, h5, h0, h1, hlt, ht]⟩ (by first | omega | (simp; omega))
  · have : k = a.length := by omega
    subst this
    rw [List.take_of_length_le (Nat.le_refl _)] at h5
    have hfl : (a.filter fun x => decide (x ∈ b)).length ≤ 1000 := Nat.le_trans (List.length_filter_le _ _) ha
    generalize (a.filter fun x => decide (x ∈ b)) = F at *
    repeat (first | simp [h6, h5, h0, h1, hlt] | with_reducible refine And.intro (by omega) ?_ | with_reducible refine optK_if (by omega) ?_ | with_reducible refine optD_if (by omega) ?_ | simp (disch := omega) only [wrap_i64, if_pos, if_neg] | with_reducible refine gsel_pure (by with_unfolding_all rfl) _ (fun hg => by (try simp at hg); simp [hg, h6, h5, h0, h1, hlt]; rfl) ?_ | with_reducible refine dsel_pure (by with_unfolding_all rfl) _ (fun hg => by (try simp at hg); simp [hg, h6, h5, h0, h1, hlt]; rfl) ?_ | with_reducible refine awp_draw (by kernel_rfl) (by decide +kernel) ?_)
    refine gop_call' (at_make F hfl) (by (first | simp [h6, h5, h0, h1, hlt] | simp (disch := omega) [h6, h5, h0, h1, hlt, wrap_i64]); try rfl) (by simp) (by simp) ?_
    repeat (first | simp [h6, h5, h0, h1, hlt] | with_reducible refine And.intro (by omega) ?_ | with_reducible refine optK_if (by omega) ?_ | with_reducible refine optD_if (by omega) ?_ | simp (disch := omega) only [wrap_i64, if_pos, if_neg] | with_reducible refine gsel_pure (by with_unfolding_all rfl) _ (fun hg => by (try simp at hg); simp [hg, h6, h5, h0, h1, hlt]; rfl) ?_ | with_reducible refine dsel_pure (by with_unfolding_all rfl) _ (fun hg => by (try simp at hg); simp [hg, h6, h5, h0, h1, hlt]; rfl) ?_ | with_reducible refine awp_draw (by kernel_rfl) (by decide +kernel) ?_)
    refine hQ _ _ (ret2 (by simp [retAV, resAV]; rfl) (by simp; rfl) ?_)
    rfl
theorem listsC_at (L : List (List Nat)) {k : Nat} (h : k < (listsC L).length) : (listsC L)[k] = .sl (L[k]'(by simpa using h)).length (intsC (natI (L[k]'(by simpa using h)))) := by simp [listsC]
set_option maxHeartbeats 4000000 in
theorem at_lawHeaders (name : ByteArray) (l : List I8) : At Tryd.prog 7 [fAV name l] (bV true) := by
  have hA := at_dominators name l
  have hC := at_loops name l
  by_cases hc : funcE l = 0
  rotate_left
  · rw [if_neg hc] at hA hC
    have e1 : eqI (funcE l) 0 = false := by simp [eqI, hc]
    refine at_code mixed Tryd.func7 (by kernel_rfl) rfl (by kernel_rfl) (by kernel_rfl) rfl fun Q hQ => ?_
    repeat (first | simp | with_reducible refine And.intro (by omega) ?_ | with_reducible refine optK_if (by omega) ?_ | with_reducible refine optD_if (by omega) ?_ | simp (disch := omega) only [wrap_i64, if_pos, if_neg] | with_reducible refine gsel_pure (by with_unfolding_all rfl) _ (fun hg => by (try simp at hg); simp [hg]; rfl) ?_ | with_reducible refine dsel_pure (by with_unfolding_all rfl) _ (fun hg => by (try simp at hg); simp [hg]; rfl) ?_ | with_reducible refine awp_draw (by kernel_rfl) (by decide +kernel) ?_)
    (with_reducible refine condK_intro (fun hh => ?_) (fun hh => ?_)) <;> (try simp only [hh]) <;> (try simp [andB, orB, eqI, ltI, Int.natCast_inj] at hh)
    · repeat (first | simp [hh] | with_reducible refine And.intro (by omega) ?_ | with_reducible refine optK_if (by omega) ?_ | with_reducible refine optD_if (by omega) ?_ | simp (disch := omega) only [wrap_i64, if_pos, if_neg] | with_reducible refine gsel_pure (by with_unfolding_all rfl) _ (fun hg => by (try simp at hg); simp [hg, hh]; rfl) ?_ | with_reducible refine dsel_pure (by with_unfolding_all rfl) _ (fun hg => by (try simp at hg); simp [hg, hh]; rfl) ?_ | with_reducible refine awp_draw (by kernel_rfl) (by decide +kernel) ?_)
      refine gop_call (at_example) (by (first | simp [hh] | simp (disch := omega) [hh, wrap_i64]); try rfl) (by simp) (by simp) ?_
      repeat (first | simp [hh] | with_reducible refine And.intro (by omega) ?_ | with_reducible refine optK_if (by omega) ?_ | with_reducible refine optD_if (by omega) ?_ | simp (disch := omega) only [wrap_i64, if_pos, if_neg] | with_reducible refine gsel_pure (by with_unfolding_all rfl) _ (fun hg => by (try simp at hg); simp [hg, hh]; rfl) ?_ | with_reducible refine dsel_pure (by with_unfolding_all rfl) _ (fun hg => by (try simp at hg); simp [hg, hh]; rfl) ?_ | with_reducible refine awp_draw (by kernel_rfl) (by decide +kernel) ?_)
      refine hQ _ _ (ret2 (by simp [retAV, resAV]; rfl) (by simp; rfl) ?_)
      rfl
    · repeat (first | simp [hh] | with_reducible refine And.intro (by omega) ?_ | with_reducible refine optK_if (by omega) ?_ | with_reducible refine optD_if (by omega) ?_ | simp (disch := omega) only [wrap_i64, if_pos, if_neg] | with_reducible refine gsel_pure (by with_unfolding_all rfl) _ (fun hg => by (try simp at hg); simp [hg, hh]; rfl) ?_ | with_reducible refine dsel_pure (by with_unfolding_all rfl) _ (fun hg => by (try simp at hg); simp [hg, hh]; rfl) ?_ | with_reducible refine awp_draw (by kernel_rfl) (by decide +kernel) ?_)
      refine gop_call (hC) (by (first | simp [hh] | simp (disch := omega) [hh, wrap_i64]); try rfl) (by simp) (by simp) ?_
      repeat (first | simp [hh] | with_reducible refine And.intro (by omega) ?_ | with_reducible refine optK_if (by omega) ?_ | with_reducible refine optD_if (by omega) ?_ | simp (disch := omega) only [wrap_i64, if_pos, if_neg] | with_reducible refine gsel_pure (by with_unfolding_all rfl) _ (fun hg => by (try simp at hg); simp [hg, hh]; rfl) ?_ | with_reducible refine dsel_pure (by with_unfolding_all rfl) _ (fun hg => by (try simp at hg); simp [hg, hh]; rfl) ?_ | with_reducible refine awp_draw (by kernel_rfl) (by decide +kernel) ?_)
      refine gop_call (hA) (by (first | simp [hh] | simp (disch := omega) [hh, wrap_i64]); try rfl) (by simp) (by simp) ?_
      repeat (first | simp [hh, e1] | with_reducible refine And.intro (by omega) ?_ | with_reducible refine optK_if (by omega) ?_ | with_reducible refine optD_if (by omega) ?_ | simp (disch := omega) only [wrap_i64, if_pos, if_neg] | with_reducible refine gsel_pure (by with_unfolding_all rfl) _ (fun hg => by (try simp at hg); simp [hg, hh, e1]; rfl) ?_ | with_reducible refine dsel_pure (by with_unfolding_all rfl) _ (fun hg => by (try simp at hg); simp [hg, hh, e1]; rfl) ?_ | with_reducible refine awp_draw (by kernel_rfl) (by decide +kernel) ?_)
      refine gop_call (at_example) (by (first | simp [hh] | simp (disch := omega) [hh, wrap_i64]); try rfl) (by simp) (by simp) ?_
      repeat (first | simp [hh] | with_reducible refine And.intro (by omega) ?_ | with_reducible refine optK_if (by omega) ?_ | with_reducible refine optD_if (by omega) ?_ | simp (disch := omega) only [wrap_i64, if_pos, if_neg] | with_reducible refine gsel_pure (by with_unfolding_all rfl) _ (fun hg => by (try simp at hg); simp [hg, hh]; rfl) ?_ | with_reducible refine dsel_pure (by with_unfolding_all rfl) _ (fun hg => by (try simp at hg); simp [hg, hh]; rfl) ?_ | with_reducible refine awp_draw (by kernel_rfl) (by decide +kernel) ?_)
      refine hQ _ _ (ret2 (by simp [retAV, resAV]; rfl) (by simp; rfl) ?_)
      simp
  
  rw [if_pos hc] at hA hC
  have ok := okL hc
  have hlen := ok.len
  have hA' := at_pure hA (r' := .tup [intsA (idomL (domB l) l.length l.length), iV .i64 (funcE l)]) (by simp [idomL_length])
  have hC' := at_pure hC (r' := .tup [listsA (loopsL l l.length), iV .i64 (funcE l)]) (by simp)
  have hAb := at_above l hlen
  have hDl := idomL_length (dom := domB l) (Nat.le_refl l.length)
  have hLm := @loopsL_mem l l.length
  have hLe := loopsL_elem l l.length
  have hLl := loopsL_len l l.length
  clear hA hC
  generalize idomL (domB l) l.length l.length = D at *
  generalize loopsL l l.length = L at *
  refine at_code mixed Tryd.func7 (by kernel_rfl) rfl (by kernel_rfl) (by kernel_rfl) rfl fun Q hQ => ?_
  repeat (first | simp | with_reducible refine And.intro (by omega) ?_ | with_reducible refine optK_if (by omega) ?_ | with_reducible refine optD_if (by omega) ?_ | simp (disch := omega) only [wrap_i64, if_pos, if_neg] | with_reducible refine gsel_pure (by with_unfolding_all rfl) _ (fun hg => by (try simp at hg); simp [hg]; rfl) ?_ | with_reducible refine dsel_pure (by with_unfolding_all rfl) _ (fun hg => by (try simp at hg); simp [hg]; rfl) ?_ | with_reducible refine awp_draw (by kernel_rfl) (by decide +kernel) ?_)
  (with_reducible refine condK_intro (fun hh => ?_) (fun hh => ?_)) <;> (try simp only [hh]) <;> (try simp [andB, orB, eqI, ltI, Int.natCast_inj] at hh)
  · repeat (first | simp [hh] | with_reducible refine And.intro (by omega) ?_ | with_reducible refine optK_if (by omega) ?_ | with_reducible refine optD_if (by omega) ?_ | simp (disch := omega) only [wrap_i64, if_pos, if_neg] | with_reducible refine gsel_pure (by with_unfolding_all rfl) _ (fun hg => by (try simp at hg); simp [hg, hh]; rfl) ?_ | with_reducible refine dsel_pure (by with_unfolding_all rfl) _ (fun hg => by (try simp at hg); simp [hg, hh]; rfl) ?_ | with_reducible refine awp_draw (by kernel_rfl) (by decide +kernel) ?_)
    refine gop_call (at_example) (by (first | simp [hh] | simp (disch := omega) [hh, wrap_i64]); try rfl) (by simp) (by simp) ?_
    repeat (first | simp [hh] | with_reducible refine And.intro (by omega) ?_ | with_reducible refine optK_if (by omega) ?_ | with_reducible refine optD_if (by omega) ?_ | simp (disch := omega) only [wrap_i64, if_pos, if_neg] | with_reducible refine gsel_pure (by with_unfolding_all rfl) _ (fun hg => by (try simp at hg); simp [hg, hh]; rfl) ?_ | with_reducible refine dsel_pure (by with_unfolding_all rfl) _ (fun hg => by (try simp at hg); simp [hg, hh]; rfl) ?_ | with_reducible refine awp_draw (by kernel_rfl) (by decide +kernel) ?_)
    refine hQ _ _ (ret2 (by simp [retAV, resAV]; rfl) (by simp; rfl) ?_)
    rfl
  repeat (first | simp [hh] | with_reducible refine And.intro (by omega) ?_ | with_reducible refine optK_if (by omega) ?_ | with_reducible refine optD_if (by omega) ?_ | simp (disch := omega) only [wrap_i64, if_pos, if_neg] | with_reducible refine gsel_pure (by with_unfolding_all rfl) _ (fun hg => by (try simp at hg); simp [hg, hh]; rfl) ?_ | with_reducible refine dsel_pure (by with_unfolding_all rfl) _ (fun hg => by (try simp at hg); simp [hg, hh]; rfl) ?_ | with_reducible refine awp_draw (by kernel_rfl) (by decide +kernel) ?_)
  refine gop_call' (hC') (by (first | simp [hh] | simp (disch := omega) [hh, wrap_i64]); try rfl) (by simp) (by simp) ?_
  repeat (first | simp [hh] | with_reducible refine And.intro (by omega) ?_ | with_reducible refine optK_if (by omega) ?_ | with_reducible refine optD_if (by omega) ?_ | simp (disch := omega) only [wrap_i64, if_pos, if_neg] | with_reducible refine gsel_pure (by with_unfolding_all rfl) _ (fun hg => by (try simp at hg); simp [hg, hh]; rfl) ?_ | with_reducible refine dsel_pure (by with_unfolding_all rfl) _ (fun hg => by (try simp at hg); simp [hg, hh]; rfl) ?_ | with_reducible refine awp_draw (by kernel_rfl) (by decide +kernel) ?_)
  refine gop_call' (hA') (by (first | simp [hh] | simp (disch := omega) [hh, wrap_i64]); try rfl) (by simp) (by simp) ?_
  repeat (first | simp [hh, hc] | with_reducible refine And.intro (by omega) ?_ | with_reducible refine optK_if (by omega) ?_ | with_reducible refine optD_if (by omega) ?_ | simp (disch := omega) only [wrap_i64, if_pos, if_neg] | with_reducible refine gsel_pure (by with_unfolding_all rfl) _ (fun hg => by (try simp at hg); simp [hg, hh, hc]; rfl) ?_ | with_reducible refine dsel_pure (by with_unfolding_all rfl) _ (fun hg => by (try simp at hg); simp [hg, hh, hc]; rfl) ?_ | with_reducible refine awp_draw (by kernel_rfl) (by decide +kernel) ?_)
  refine awp_loopV (fun (i : Nat) (s : St) => (i ≤ L.length) ∧ s.env 54 = iV .i64 i ∧ s.env 53 = iV .i64 L.length ∧ s.env 52 = listsA L ∧ s.env 3 = listsA L ∧ s.env 5 = intsA D) (fun (i : Nat) => L.length - i) (0) ⟨by first | omega | assumption | (simp; done) | (simp; omega), by simp [hh], by simp [hh], by simp [hh], by simp [hh], by simp [hh]⟩ fun i s hsA LA hLA => ?_
  obtain ⟨hi, h54, h53, h52, h3, h5⟩ := hsA
  repeat (first | simp [h54, h53, h52, h3, h5, hh] | with_reducible refine And.intro (by omega) ?_ | with_reducible refine optK_if (by omega) ?_ | with_reducible refine optD_if (by omega) ?_ | simp (disch := omega) only [wrap_i64, if_pos, if_neg] | with_reducible refine gsel_pure (by with_unfolding_all rfl) _ (fun hg => by (try simp at hg); simp [hg, h54, h53, h52, h3, h5, hh]; rfl) ?_ | with_reducible refine dsel_pure (by with_unfolding_all rfl) _ (fun hg => by (try simp at hg); simp [hg, h54, h53, h52, h3, h5, hh]; rfl) ?_ | with_reducible refine awp_draw (by kernel_rfl) (by decide +kernel) ?_)
  (with_reducible refine condK_intro (fun hli => ?_) (fun hli => ?_)) <;> (try simp only [hli]) <;> (try simp [andB, orB, eqI, ltI, Int.natCast_inj] at hli)
  · obtain ⟨h, hhl, hen, hLi⟩ := hLm (List.getElem_mem hli)
    obtain ⟨t, ht⟩ := loopL_cons l h
    have hal := hLe L[i] (List.getElem_mem hli)
    have hDm : ∀ x ∈ L[i], Dm l h x := fun x hx => loopL_Dm hhl hen (hLi ▸ hx)
    have hgL := listsC_at L (k := i) (by simpa using hli)
    have hpos : L[i] = h :: t := hLi.trans ht
    have hnest : ∀ b ∈ L, ∀ x, x ∈ L[i] → x ∈ b → (∀ y ∈ L[i], y ∈ b) ∨ (∀ y ∈ b, y ∈ L[i]) := by
      intro b hb x hx hxb
      obtain ⟨h', hh', hen', hb'⟩ := hLm hb
      subst hb'
      rw [hLi] at hx ⊢
      exact loops_nest hhl hh' hen hen' hx hxb
    generalize L[i] = a at *
    have hap : 0 < a.length := by rw [hpos]; simp
    have e0 : eqI (a.length : Int) 0 = false := by rw [hpos]; simp [eqI]; omega
    have ha0 : (intsC (natI a))[0]? = some (iC h) := by rw [hpos]; rfl
    have ha0' : (natI a)[0]'(by simpa using hap) = (h : Int) := by subst hpos; rfl
    repeat (first | simp [h54, h53, h52, h3, h5, hh, hli, hgL, hli, e0] | with_reducible refine And.intro (by omega) ?_ | with_reducible refine optK_if (by omega) ?_ | with_reducible refine optD_if (by omega) ?_ | simp (disch := omega) only [wrap_i64, if_pos, if_neg] | with_reducible refine gsel_pure (by with_unfolding_all rfl) _ (fun hg => by (try simp at hg); simp [hg, h54, h53, h52, h3, h5, hh, hli, hgL, hli, e0]; rfl) ?_ | with_reducible refine dsel_pure (by with_unfolding_all rfl) _ (fun hg => by (try simp at hg); simp [hg, h54, h53, h52, h3, h5, hh, hli, hgL, hli, e0]; rfl) ?_ | with_reducible refine awp_draw (by kernel_rfl) (by decide +kernel) ?_)
    refine awp_loopV (fun (k : Nat) (s : St) => (k ≤ a.length) ∧ s.env 64 = iV .i64 k ∧ s.env 63 = iV .i64 a.length ∧ s.env 62 = intsA (natI a) ∧ s.env 8 = intsA (natI a) ∧ s.env 7 = iV .i64 i ∧ s.env 54 = iV .i64 i ∧ s.env 53 = iV .i64 L.length ∧ s.env 52 = listsA L ∧ s.env 3 = listsA L ∧ s.env 5 = intsA D) (fun (k : Nat) => a.length - k) (0) ⟨by first | omega | assumption | (simp; done) | (simp; omega), by simp [h54, h53, h52, h3, h5, hh, hli], by simp [h54, h53, h52, h3, h5, hh, hli], by simp [h54, h53, h52, h3, h5, hh, hli], by simp [h54, h53, h52, h3, h5, hh, hli], by simp [h54, h53, h52, h3, h5, hh, hli], by simp [h54, h53, h52, h3, h5, hh, hli], by simp [h54, h53, h52, h3, h5, hh, hli], by simp [h54, h53, h52, h3, h5, hh, hli], by simp [h54, h53, h52, h3, h5, hh, hli], by simp [h54, h53, h52, h3, h5, hh, hli]⟩ fun k s hsB LB hLB => ?_
    obtain ⟨hk, h64, h63, h62, h8, h7, h54, h53, h52, h3, h5⟩ := hsB
    repeat (first | simp [h64, h63, h62, h8, h7, h54, h53, h52, h3, h5, hh, hli] | with_reducible refine And.intro (by omega) ?_ | with_reducible refine optK_if (by omega) ?_ | with_reducible refine optD_if (by omega) ?_ | simp (disch := omega) only [wrap_i64, if_pos, if_neg] | with_reducible refine gsel_pure (by with_unfolding_all rfl) _ (fun hg => by (try simp at hg); simp [hg, h64, h63, h62, h8, h7, h54, h53, h52, h3, h5, hh, hli]; rfl) ?_ | with_reducible refine dsel_pure (by with_unfolding_all rfl) _ (fun hg => by (try simp at hg); simp [hg, h64, h63, h62, h8, h7, h54, h53, h52, h3, h5, hh, hli]; rfl) ?_ | with_reducible refine awp_draw (by kernel_rfl) (by decide +kernel) ?_)
    (with_reducible refine condK_intro (fun hka => ?_) (fun hka => ?_)) <;> (try simp only [hka]) <;> (try simp [andB, orB, eqI, ltI, Int.natCast_inj] at hka)
    · have hX := hDm a[k] (List.getElem_mem hka)
      have hab := (abv_iff (l := l) (d := h) (l.length + 1) hX.i_lt hX.i_on (by have := cntD_le l a[k]; omega)).2 hX
      have hxl := hX.i_lt
      have c1 : ltI (a[k] : Int) 0 = false := by simp [ltI]
      have c2 : ltI (a[k] : Int) l.length = true := by simp [ltI, hxl]
      repeat (first | simp [h64, h63, h62, h8, h7, h54, h53, h52, h3, h5, hh, hli, hka, hka, c1, c2, hDl, ha0, ha0', hap] | with_reducible refine And.intro (by omega) ?_ | with_reducible refine optK_if (by omega) ?_ | with_reducible refine optD_if (by omega) ?_ | simp (disch := omega) only [wrap_i64, if_pos, if_neg] | with_reducible refine gsel_pure (by with_unfolding_all rfl) _ (fun hg => by (try simp at hg); simp [hg, h64, h63, h62, h8, h7, h54, h53, h52, h3, h5, hh, hli, hka, hka, c1, c2, hDl, ha0, ha0', hap]; rfl) ?_ | with_reducible refine dsel_pure (by with_unfolding_all rfl) _ (fun hg => by (try simp at hg); simp [hg, h64, h63, h62, h8, h7, h54, h53, h52, h3, h5, hh, hli, hka, hka, c1, c2, hDl, ha0, ha0', hap]; rfl) ?_ | with_reducible refine awp_draw (by kernel_rfl) (by decide +kernel) ?_)
      refine gop_call (hAb h a[k]) (by (first | simp [h64, h63, h62, h8, h7, h54, h53, h52, h3, h5, hh, hli, hka, ha0', hap, hka] | simp (disch := omega) [h64, h63, h62, h8, h7, h54, h53, h52, h3, h5, hh, hli, hka, ha0', hap, hka, wrap_i64]); try rfl) (by simp) (by simp) ?_
      repeat (first | simp [h64, h63, h62, h8, h7, h54, h53, h52, h3, h5, hh, hli, hka, hab] | with_reducible refine And.intro (by omega) ?_ | with_reducible refine optK_if (by omega) ?_ | with_reducible refine optD_if (by omega) ?_ | simp (disch := omega) only [wrap_i64, if_pos, if_neg] | with_reducible refine gsel_pure (by with_unfolding_all rfl) _ (fun hg => by (try simp at hg); simp [hg, h64, h63, h62, h8, h7, h54, h53, h52, h3, h5, hh, hli, hka, hab]; rfl) ?_ | with_reducible refine dsel_pure (by with_unfolding_all rfl) _ (fun hg => by (try simp at hg); simp [hg, h64, h63, h62, h8, h7, h54, h53, h52, h3, h5, hh, hli, hka, hab]; rfl) ?_ | with_reducible refine awp_draw (by kernel_rfl) (by decide +kernel) ?_)
      refine hLB (k + 1) _ ⟨by first | omega | assumption | (simp; done) | (simp; omega), by simp [h64, h63, h62, h8, h7, h54, h53, h52, h3, h5, hh, hli, hka], by simp [h64, h63, h62, h8, h7, h54, h53, h52, h3, h5, hh, hli, hka], by simp [h64, h63, h62, h8, h7, h54, h53, h52, h3, h5, hh, hli, hka], by simp [h64, h63, h62, h8, h7, h54, h53, h52, h3, h5, hh, hli, hka], by simp [h64, h63, h62, h8, h7, h54, h53, h52, h3, h5, hh, hli, hka], by simp [h64, h63, h62, h8, h7, h54, h53, h52, h3, h5, hh, hli, hka], by simp [h64, h63, h62, h8, h7, h54, h53, h52, h3, h5, hh, hli, hka], by simp [h64, h63, h62, h8, h7, h54, h53, h52, h3, h5, hh, hli, hka], by simp [h64, h63, h62, h8, h7, h54, h53, h52, h3, h5, hh, hli, hka], by simp [h64, h63, h62, h8, h7, h54, h53, h52, h3, h5, hh, hli, hka]⟩ (by first | omega | (simp; omega))
    · have : k = a.length := by omega
      subst this
      have hLt : ((listsC L).take i).length = i := by simp; omega
      repeat (first | simp [h64, h63, h62, h8, h7, h54, h53, h52, h3, h5, hh, hli, hka] | with_reducible refine And.intro (by omega) ?_ | with_reducible refine optK_if (by omega) ?_ | with_reducible refine optD_if (by omega) ?_ | simp (disch := omega) only [wrap_i64, if_pos, if_neg] | with_reducible refine gsel_pure (by with_unfolding_all rfl) _ (fun hg => by (try simp at hg); simp [hg, h64, h63, h62, h8, h7, h54, h53, h52, h3, h5, hh, hli, hka]; rfl) ?_ | with_reducible refine dsel_pure (by with_unfolding_all rfl) _ (fun hg => by (try simp at hg); simp [hg, h64, h63, h62, h8, h7, h54, h53, h52, h3, h5, hh, hli, hka]; rfl) ?_ | with_reducible refine awp_draw (by kernel_rfl) (by decide +kernel) ?_)
      refine awp_loopV (fun (j : Nat) (s : St) => (j ≤ i) ∧ s.env 90 = iV .i64 j ∧ s.env 89 = iV .i64 i ∧ s.env 88 = .cell (.p (.sl i ((listsC L).take i))) ∧ s.env 8 = intsA (natI a) ∧ s.env 7 = iV .i64 i ∧ s.env 54 = iV .i64 i ∧ s.env 53 = iV .i64 L.length ∧ s.env 52 = listsA L ∧ s.env 3 = listsA L ∧ s.env 5 = intsA D) (fun (j : Nat) => i - j) (0) ⟨by first | omega | assumption | (simp; done) | (simp; omega), by simp [h64, h63, h62, h8, h7, h54, h53, h52, h3, h5, hh, hli, hka], by simp [h64, h63, h62, h8, h7, h54, h53, h52, h3, h5, hh, hli, hka], by simp [h64, h63, h62, h8, h7, h54, h53, h52, h3, h5, hh, hli, hka], by simp [h64, h63, h62, h8, h7, h54, h53, h52, h3, h5, hh, hli, hka], by simp [h64, h63, h62, h8, h7, h54, h53, h52, h3, h5, hh, hli, hka], by simp [h64, h63, h62, h8, h7, h54, h53, h52, h3, h5, hh, hli, hka], by simp [h64, h63, h62, h8, h7, h54, h53, h52, h3, h5, hh, hli, hka], by simp [h64, h63, h62, h8, h7, h54, h53, h52, h3, h5, hh, hli, hka], by simp [h64, h63, h62, h8, h7, h54, h53, h52, h3, h5, hh, hli, hka], by simp [h64, h63, h62, h8, h7, h54, h53, h52, h3, h5, hh, hli, hka]⟩ fun j s hsC LC hLC => ?_
      obtain ⟨hj, h90, h89, h88, h8, h7, h54, h53, h52, h3, h5⟩ := hsC
      repeat (first | simp [h90, h89, h88, h8, h7, h54, h53, h52, h3, h5, hh, hli, hka] | with_reducible refine And.intro (by omega) ?_ | with_reducible refine optK_if (by omega) ?_ | with_reducible refine optD_if (by omega) ?_ | simp (disch := omega) only [wrap_i64, if_pos, if_neg] | with_reducible refine gsel_pure (by with_unfolding_all rfl) _ (fun hg => by (try simp at hg); simp [hg, h90, h89, h88, h8, h7, h54, h53, h52, h3, h5, hh, hli, hka]; rfl) ?_ | with_reducible refine dsel_pure (by with_unfolding_all rfl) _ (fun hg => by (try simp at hg); simp [hg, h90, h89, h88, h8, h7, h54, h53, h52, h3, h5, hh, hli, hka]; rfl) ?_ | with_reducible refine awp_draw (by kernel_rfl) (by decide +kernel) ?_)
      (with_reducible refine condK_intro (fun hji => ?_) (fun hji => ?_)) <;> (try simp only [hji]) <;> (try simp [andB, orB, eqI, ltI, Int.natCast_inj] at hji)
      · have hjL : j < L.length := by omega
        have hbl := hLe L[j] (List.getElem_mem hjL)
        have hg1 : ((listsC L).take i)[j]'(by rw [hLt]; exact hji) = .sl L[j].length (intsC (natI L[j])) := by
          rw [List.getElem_take]; exact listsC_at L (by simpa using hjL)
        have hg2 : ((listsC L).take i)[j]? = some (.sl L[j].length (intsC (natI L[j]))) := by
          rw [List.getElem?_eq_getElem (by rw [hLt]; exact hji), hg1]
        have hg3 : (listsC L)[j]'(by simpa using hjL) = .sl L[j].length (intsC (natI L[j])) := listsC_at L (by simpa using hjL)
        have hnb := hnest L[j] (List.getElem_mem hjL)
        generalize L[j] = b at *
        have hI := at_inter (natI a) (natI b) (by simp; omega) (by simp; omega)
        have hS1 := at_subset (natI a) (natI b) (by simp; omega) (by simp; omega)
        have hS2 := at_subset (natI b) (natI a) (by simp; omega) (by simp; omega)
        have hcom : (natI a).filter (fun x => decide (x ∈ natI b)) ≠ [] → (∀ y ∈ a, y ∈ b) ∨ (∀ y ∈ b, y ∈ a) := by
          intro hne
          obtain ⟨x, hx⟩ := List.exists_mem_of_ne_nil _ hne
          rw [List.mem_filter] at hx
          obtain ⟨y, hy, rfl⟩ := List.mem_map.1 hx.1
          exact hnb y hy (mem_natI.1 (by simpa using hx.2))
        generalize (natI a).filter (fun x => decide (x ∈ natI b)) = F at *
        repeat (first | simp [h90, h89, h88, h8, h7, h54, h53, h52, h3, h5, hh, hli, hka, hji, hg1, hg2, hg3, hji, hjL] | with_reducible refine And.intro (by omega) ?_ | with_reducible refine optK_if (by omega) ?_ | with_reducible refine optD_if (by omega) ?_ | simp (disch := omega) only [wrap_i64, if_pos, if_neg] | with_reducible refine gsel_pure (by with_unfolding_all rfl) _ (fun hg => by (try simp at hg); simp [hg, h90, h89, h88, h8, h7, h54, h53, h52, h3, h5, hh, hli, hka, hji, hg1, hg2, hg3, hji, hjL]; rfl) ?_ | with_reducible refine dsel_pure (by with_unfolding_all rfl) _ (fun hg => by (try simp at hg); simp [hg, h90, h89, h88, h8, h7, h54, h53, h52, h3, h5, hh, hli, hka, hji, hg1, hg2, hg3, hji, hjL]; rfl) ?_ | with_reducible refine awp_draw (by kernel_rfl) (by decide +kernel) ?_)
        refine gop_call' (hI) (by (first | simp [h90, h89, h88, h8, h7, h54, h53, h52, h3, h5, hh, hli, hka, hji] | simp (disch := omega) [h90, h89, h88, h8, h7, h54, h53, h52, h3, h5, hh, hli, hka, hji, wrap_i64]); try rfl) (by simp) (by simp) ?_
        repeat (first | simp [h90, h89, h88, h8, h7, h54, h53, h52, h3, h5, hh, hli, hka, hji] | with_reducible refine And.intro (by omega) ?_ | with_reducible refine optK_if (by omega) ?_ | with_reducible refine optD_if (by omega) ?_ | simp (disch := omega) only [wrap_i64, if_pos, if_neg] | with_reducible refine gsel_pure (by with_unfolding_all rfl) _ (fun hg => by (try simp at hg); simp [hg, h90, h89, h88, h8, h7, h54, h53, h52, h3, h5, hh, hli, hka, hji]; rfl) ?_ | with_reducible refine dsel_pure (by with_unfolding_all rfl) _ (fun hg => by (try simp at hg); simp [hg, h90, h89, h88, h8, h7, h54, h53, h52, h3, h5, hh, hli, hka, hji]; rfl) ?_ | with_reducible refine awp_draw (by kernel_rfl) (by decide +kernel) ?_)
        by_cases hF : F = []
        · have hm := (makL_nil (x := F)).2 hF
          have e9 : ltI 0 ((makL F).length : Int) = false := by simp [ltI, hm]
          repeat (first | simp [h90, h89, h88, h8, h7, h54, h53, h52, h3, h5, hh, hli, hka, hji, e9] | with_reducible refine And.intro (by omega) ?_ | with_reducible refine optK_if (by omega) ?_ | with_reducible refine optD_if (by omega) ?_ | simp (disch := omega) only [wrap_i64, if_pos, if_neg] | with_reducible refine gsel_pure (by with_unfolding_all rfl) _ (fun hg => by (try simp at hg); simp [hg, h90, h89, h88, h8, h7, h54, h53, h52, h3, h5, hh, hli, hka, hji, e9]; rfl) ?_ | with_reducible refine dsel_pure (by with_unfolding_all rfl) _ (fun hg => by (try simp at hg); simp [hg, h90, h89, h88, h8, h7, h54, h53, h52, h3, h5, hh, hli, hka, hji, e9]; rfl) ?_ | with_reducible refine awp_draw (by kernel_rfl) (by decide +kernel) ?_)
          refine hLC (j + 1) _ ⟨by first | omega | assumption | (simp; done) | (simp; omega), by simp [h90, h89, h88, h8, h7, h54, h53, h52, h3, h5, hh, hli, hka, hji], by simp [h90, h89, h88, h8, h7, h54, h53, h52, h3, h5, hh, hli, hka, hji], by simp [h90, h89, h88, h8, h7, h54, h53, h52, h3, h5, hh, hli, hka, hji], by simp [h90, h89, h88, h8, h7, h54, h53, h52, h3, h5, hh, hli, hka, hji], by simp [h90, h89, h88, h8, h7, h54, h53, h52, h3, h5, hh, hli, hka, hji], by simp [h90, h89, h88, h8, h7, h54, h53, h52, h3, h5, hh, hli, hka, hji], by simp [h90, h89, h88, h8, h7, h54, h53, h52, h3, h5, hh, hli, hka, hji], by simp [h90, h89, h88, h8, h7, h54, h53, h52, h3, h5, hh, hli, hka, hji], by simp [h90, h89, h88, h8, h7, h54, h53, h52, h3, h5, hh, hli, hka, hji], by simp [h90, h89, h88, h8, h7, h54, h53, h52, h3, h5, hh, hli, hka, hji]⟩ (by first | omega | (simp; omega))
        · have hm : 0 < (makL F).length := by
            rcases Nat.eq_zero_or_pos (makL F).length with h | h
            · exact (hF (makL_nil.1 h)).elim
            · exact h
          have e9 : ltI 0 ((makL F).length : Int) = true := by simp [ltI, hm]
          repeat (first | simp [h90, h89, h88, h8, h7, h54, h53, h52, h3, h5, hh, hli, hka, hji, e9] | with_reducible refine And.intro (by omega) ?_ | with_reducible refine optK_if (by omega) ?_ | with_reducible refine optD_if (by omega) ?_ | simp (disch := omega) only [wrap_i64, if_pos, if_neg] | with_reducible refine gsel_pure (by with_unfolding_all rfl) _ (fun hg => by (try simp at hg); simp [hg, h90, h89, h88, h8, h7, h54, h53, h52, h3, h5, hh, hli, hka, hji, e9]; rfl) ?_ | with_reducible refine dsel_pure (by with_unfolding_all rfl) _ (fun hg => by (try simp at hg); simp [hg, h90, h89, h88, h8, h7, h54, h53, h52, h3, h5, hh, hli, hka, hji, e9]; rfl) ?_ | with_reducible refine awp_draw (by kernel_rfl) (by decide +kernel) ?_)
          refine gop_call (hS1) (by (first | simp [h90, h89, h88, h8, h7, h54, h53, h52, h3, h5, hh, hli, hka, hji] | simp (disch := omega) [h90, h89, h88, h8, h7, h54, h53, h52, h3, h5, hh, hli, hka, hji, wrap_i64]); try rfl) (by simp) (by simp) ?_
          by_cases hs1 : (natI a).all (fun x => decide (x ∈ natI b)) = true
          · repeat (first | simp [h90, h89, h88, h8, h7, h54, h53, h52, h3, h5, hh, hli, hka, hji, hs1] | with_reducible refine And.intro (by omega) ?_ | with_reducible refine optK_if (by omega) ?_ | with_reducible refine optD_if (by omega) ?_ | simp (disch := omega) only [wrap_i64, if_pos, if_neg] | with_reducible refine gsel_pure (by with_unfolding_all rfl) _ (fun hg => by (try simp at hg); simp [hg, h90, h89, h88, h8, h7, h54, h53, h52, h3, h5, hh, hli, hka, hji, hs1]; rfl) ?_ | with_reducible refine dsel_pure (by with_unfolding_all rfl) _ (fun hg => by (try simp at hg); simp [hg, h90, h89, h88, h8, h7, h54, h53, h52, h3, h5, hh, hli, hka, hji, hs1]; rfl) ?_ | with_reducible refine awp_draw (by kernel_rfl) (by decide +kernel) ?_)
            refine hLC (j + 1) _ ⟨by first | omega | assumption | (simp; done) | (simp; omega), by simp [h90, h89, h88, h8, h7, h54, h53, h52, h3, h5, hh, hli, hka, hji], by simp [h90, h89, h88, h8, h7, h54, h53, h52, h3, h5, hh, hli, hka, hji], by simp [h90, h89, h88, h8, h7, h54, h53, h52, h3, h5, hh, hli, hka, hji], by simp [h90, h89, h88, h8, h7, h54, h53, h52, h3, h5, hh, hli, hka, hji], by simp [h90, h89, h88, h8, h7, h54, h53, h52, h3, h5, hh, hli, hka, hji], by simp [h90, h89, h88, h8, h7, h54, h53, h52, h3, h5, hh, hli, hka, hji], by simp [h90, h89, h88, h8, h7, h54, h53, h52, h3, h5, hh, hli, hka, hji], by simp [h90, h89, h88, h8, h7, h54, h53, h52, h3, h5, hh, hli, hka, hji], by simp [h90, h89, h88, h8, h7, h54, h53, h52, h3, h5, hh, hli, hka, hji], by simp [h90, h89, h88, h8, h7, h54, h53, h52, h3, h5, hh, hli, hka, hji]⟩ (by first | omega | (simp; omega))
          · have hs1' : (natI a).all (fun x => decide (x ∈ natI b)) = false := by simpa using hs1
            have hs2 : (natI b).all (fun x => decide (x ∈ natI a)) = true := by
              rcases hcom hF with h | h
              · exact (hs1 (sub_natI h)).elim
              · exact sub_natI h
            repeat (first | simp [h90, h89, h88, h8, h7, h54, h53, h52, h3, h5, hh, hli, hka, hji, hs1'] | with_reducible refine And.intro (by omega) ?_ | with_reducible refine optK_if (by omega) ?_ | with_reducible refine optD_if (by omega) ?_ | simp (disch := omega) only [wrap_i64, if_pos, if_neg] | with_reducible refine gsel_pure (by with_unfolding_all rfl) _ (fun hg => by (try simp at hg); simp [hg, h90, h89, h88, h8, h7, h54, h53, h52, h3, h5, hh, hli, hka, hji, hs1']; rfl) ?_ | with_reducible refine dsel_pure (by with_unfolding_all rfl) _ (fun hg => by (try simp at hg); simp [hg, h90, h89, h88, h8, h7, h54, h53, h52, h3, h5, hh, hli, hka, hji, hs1']; rfl) ?_ | with_reducible refine awp_draw (by kernel_rfl) (by decide +kernel) ?_)
            refine gop_call (hS2) (by (first | simp [h90, h89, h88, h8, h7, h54, h53, h52, h3, h5, hh, hli, hka, hji] | simp (disch := omega) [h90, h89, h88, h8, h7, h54, h53, h52, h3, h5, hh, hli, hka, hji, wrap_i64]); try rfl) (by simp) (by simp) ?_
            repeat (first | simp [h90, h89, h88, h8, h7, h54, h53, h52, h3, h5, hh, hli, hka, hji, hs2] | with_reducible refine And.intro (by omega) ?_ | with_reducible refine optK_if (by omega) ?_ | with_reducible refine optD_if (by omega) ?_ | simp (disch := omega) only [wrap_i64, if_pos, if_neg] | with_reducible refine gsel_pure (by with_unfolding_all rfl) _ (fun hg => by (try simp at hg); simp [hg, h90, h89, h88, h8, h7, h54, h53, h52, h3, h5, hh, hli, hka, hji, hs2]; rfl) ?_ | with_reducible refine dsel_pure (by with_unfolding_all rfl) _ (fun hg => by (try simp at hg); simp [hg, h90, h89, h88, h8, h7, h54, h53, h52, h3, h5, hh, hli, hka, hji, hs2]; rfl) ?_ | with_reducible refine awp_draw (by kernel_rfl) (by decide +kernel) ?_)
            refine hLC (j + 1) _ ⟨by first | omega | assumption | (simp; done) | (simp; omega), by simp [h90, h89, h88, h8, h7, h54, h53, h52, h3, h5, hh, hli, hka, hji], by simp [h90, h89, h88, h8, h7, h54, h53, h52, h3, h5, hh, hli, hka, hji], by simp [h90, h89, h88, h8, h7, h54, h53, h52, h3, h5, hh, hli, hka, hji], by simp [h90, h89, h88, h8, h7, h54, h53, h52, h3, h5, hh, hli, hka, hji], by simp [h90, h89, h88, h8, h7, h54, h53, h52, h3, h5, hh, hli, hka, hji], by simp [h90, h89, h88, h8, h7, h54, h53, h52, h3, h5, hh, hli, hka, hji], by simp [h90, h89, h88, h8, h7, h54, h53, h52, h3, h5, hh, hli, hka, hji], by simp [h90, h89, h88, h8, h7, h54, h53, h52, h3, h5, hh, hli, hka, hji], by simp [h90, h89, h88, h8, h7, h54, h53, h52, h3, h5, hh, hli, hka, hji], by simp [h90, h89, h88, h8, h7, h54, h53, h52, h3, h5, hh, hli, hka, hji]⟩ (by first | omega | (simp; omega))
      · have : j = i := by omega
        subst this
        repeat (first | simp [h90, h89, h88, h8, h7, h54, h53, h52, h3, h5, hh, hli, hka, hji] | with_reducible refine And.intro (by omega) ?_ | with_reducible refine optK_if (by omega) ?_ | with_reducible refine optD_if (by omega) ?_ | simp (disch := omega) only [wrap_i64, if_pos, if_neg] | with_reducible refine gsel_pure (by with_unfolding_all rfl) _ (fun hg => by (try simp at hg); simp [hg, h90, h89, h88, h8, h7, h54, h53, h52, h3, h5, hh, hli, hka, hji]; rfl) ?_ | with_reducible refine dsel_pure (by with_unfolding_all rfl) _ (fun hg => by (try simp at hg); simp [hg, h90, h89, h88, h8, h7, h54, h53, h52, h3, h5, hh, hli, hka, hji]; rfl) ?_ | with_reducible refine awp_draw (by kernel_rfl) (by decide +kernel) ?_)
        refine hLA (j + 1) _ ⟨by first | omega | assumption | (simp; done) | (simp; omega), by simp [h90, h89, h88, h8, h7, h54, h53, h52, h3, h5, hh, hli, hka, hji], by simp [h90, h89, h88, h8, h7, h54, h53, h52, h3, h5, hh, hli, hka, hji], by simp [h90, h89, h88, h8, h7, h54, h53, h52, h3, h5, hh, hli, hka, hji], by simp [h90, h89, h88, h8, h7, h54, h53, h52, h3, h5, hh, hli, hka, hji], by simp [h90, h89, h88, h8, h7, h54, h53, h52, h3, h5, hh, hli, hka, hji]⟩ (by first | omega | (simp; omega))
  · repeat (first | simp [h54, h53, h52, h3, h5, hh, hli] | with_reducible refine And.intro (by omega) ?_ | with_reducible refine optK_if (by omega) ?_ | with_reducible refine optD_if (by omega) ?_ | simp (disch := omega) only [wrap_i64, if_pos, if_neg] | with_reducible refine gsel_pure (by with_unfolding_all rfl) _ (fun hg => by (try simp at hg); simp [hg, h54, h53, h52, h3, h5, hh, hli]; rfl) ?_ | with_reducible refine dsel_pure (by with_unfolding_all rfl) _ (fun hg => by (try simp at hg); simp [hg, h54, h53, h52, h3, h5, hh, hli]; rfl) ?_ | with_reducible refine awp_draw (by kernel_rfl) (by decide +kernel) ?_)
    refine gop_call (at_example) (by (first | simp [h54, h53, h52, h3, h5, hh, hli] | simp (disch := omega) [h54, h53, h52, h3, h5, hh, hli, wrap_i64]); try rfl) (by simp) (by simp) ?_
    repeat (first | simp [h54, h53, h52, h3, h5, hh, hli] | with_reducible refine And.intro (by omega) ?_ | with_reducible refine optK_if (by omega) ?_ | with_reducible refine optD_if (by omega) ?_ | simp (disch := omega) only [wrap_i64, if_pos, if_neg] | with_reducible refine gsel_pure (by with_unfolding_all rfl) _ (fun hg => by (try simp at hg); simp [hg, h54, h53, h52, h3, h5, hh, hli]; rfl) ?_ | with_reducible refine dsel_pure (by with_unfolding_all rfl) _ (fun hg => by (try simp at hg); simp [hg, h54, h53, h52, h3, h5, hh, hli]; rfl) ?_ | with_reducible refine awp_draw (by kernel_rfl) (by decide +kernel) ?_)
    refine hQ _ _ (ret2 (by simp [retAV, resAV]; rfl) (by simp; rfl) ?_)
    rfl
end Go.Proofs
end
