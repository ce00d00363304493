/- Contracts of functions, by their numbers, and the laws that walk them. Conditions: as each states. -/
import Derived.Test.YtgcinmhiohlmiaaDoorG4
set_option linter.all false
section
set_option linter.all false
namespace Go.Proofs
open Go.Fw Go.Dr
set_option maxRecDepth 100000

abbrev fC (name : ByteArray) (l : List I8) : List CV := [sC name, .sl l.length (codeC l)]
abbrev fP (name : ByteArray) (l : List I8) : List AC := [.p (sC name), .p (.sl l.length (codeC l))]
set_option maxHeartbeats 1000000 in
theorem at_visit (name : ByteArray) (l : List I8) (ok : OkL l) (w : Int) : At Tryd.prog 61 [fAV name l, iV .i64 w] (.cell (.p (.mp (natI (visitL l w)) (cstC (natI (visitL l w)))))) := by
  have hlen := ok.len
  refine at_code mixed Tryd.func61 (by kernel_rfl) rfl (by kernel_rfl) (by kernel_rfl) rfl fun Q hQ => ?_
  repeat (first | simp | with_reducible refine And.intro (by omega) ?_ | with_reducible refine optK_if (by omega) ?_ | with_reducible refine optD_if (by omega) ?_ | simp (disch := omega) only [wrap_i64, if_pos, if_neg] | with_reducible refine gsel_pure (by with_unfolding_all rfl) _ (fun hg => by (try simp at hg); simp [hg]; rfl) ?_ | with_reducible refine dsel_pure (by with_unfolding_all rfl) _ (fun hg => by (try simp at hg); simp [hg]; rfl) ?_ | with_reducible refine awp_draw (by kernel_rfl) (by decide +kernel) ?_)
  (with_reducible refine condK_intro (fun hc => ?_) (fun hc => ?_)) <;> (try simp only [hc]) <;> (try simp [andB, orB, eqI, ltI, Int.natCast_inj] at hc)
  · repeat (first | simp [hc] | with_reducible refine And.intro (by omega) ?_ | with_reducible refine optK_if (by omega) ?_ | with_reducible refine optD_if (by omega) ?_ | simp (disch := omega) only [wrap_i64, if_pos, if_neg] | with_reducible refine gsel_pure (by with_unfolding_all rfl) _ (fun hg => by (try simp at hg); simp [hg, hc]; rfl) ?_ | with_reducible refine dsel_pure (by with_unfolding_all rfl) _ (fun hg => by (try simp at hg); simp [hg, hc]; rfl) ?_ | with_reducible refine awp_draw (by kernel_rfl) (by decide +kernel) ?_)
    refine hQ _ _ (ret2 (by simp [retAV, resAV]; rfl) (by simp; rfl) ?_)
    have : visitL l w = [] := by unfold visitL; rw [if_pos (by simpa using hc)]
    rw [this]; rfl
  · have hv : visitL l w = visitF l w (2 * l.length + 2) [0] [0] := by unfold visitL; rw [if_neg (by simpa using hc)]
    have hpos : 0 < l.length := List.length_pos_iff.2 hc.1
    have hV0 : VOk l.length ([0], [0]) := ⟨by simp, by simp; omega, by simp; omega, by simp⟩
    repeat (first | simp [hc] | with_reducible refine And.intro (by omega) ?_ | with_reducible refine optK_if (by omega) ?_ | with_reducible refine optD_if (by omega) ?_ | simp (disch := omega) only [wrap_i64, if_pos, if_neg] | with_reducible refine gsel_pure (by with_unfolding_all rfl) _ (fun hg => by (try simp at hg); simp [hg, hc]; rfl) ?_ | with_reducible refine dsel_pure (by with_unfolding_all rfl) _ (fun hg => by (try simp at hg); simp [hg, hc]; rfl) ?_ | with_reducible refine awp_draw (by kernel_rfl) (by decide +kernel) ?_)
    refine awp_loopV (fun ((F, seen, todo) : Nat × List Nat × List Nat) (s : St) => (VOk l.length (seen, todo)) ∧ (vms l.length (seen, todo) < F) ∧ (visitL l w = visitF l w F seen todo) ∧ s.env 2 = .cell (.ptr 0 0) ∧ s.box 0 = some (fP name l) ∧ s.env 3 = .cell (.ptr 64 0) ∧ s.box 64 = some ([.p (iC w)]) ∧ s.env 5 = .cell (.ptr 65600 0) ∧ s.box 65600 = some ([.mown 65536 (natI seen) (cstM (natI seen))]) ∧ s.env 6 = .cell (.ptr 327744 0) ∧ s.box 327744 = some ([.own 327680 1 todo.length (intsC (natI todo))])) (fun ((F, seen, todo) : Nat × List Nat × List Nat) => F) ((2 * l.length + 2, [0], [0])) ⟨by first | omega | assumption | (simp [addK, mputV, mfind, cstM, hV0, hv, vms]; done) | (simp [addK, mputV, mfind, cstM, hV0, hv, vms]; omega), by first | omega | assumption | (simp [addK, mputV, mfind, cstM, hV0, hv, vms]; done) | (simp [addK, mputV, mfind, cstM, hV0, hv, vms]; omega), by first | omega | assumption | (simp [addK, mputV, mfind, cstM, hV0, hv, vms]; done) | (simp [addK, mputV, mfind, cstM, hV0, hv, vms]; omega), by simp [hc, addK, mputV, mfind, cstM, hV0, hv, vms], by simp [hc, addK, mputV, mfind, cstM, hV0, hv, vms], by simp [hc, addK, mputV, mfind, cstM, hV0, hv, vms], by simp [hc, addK, mputV, mfind, cstM, hV0, hv, vms], by simp [hc, addK, mputV, mfind, cstM, hV0, hv, vms], by simp [hc, addK, mputV, mfind, cstM, hV0, hv, vms], by simp [hc, addK, mputV, mfind, cstM, hV0, hv, vms], by simp [hc, addK, mputV, mfind, cstM, hV0, hv, vms]⟩ fun (F, seen, todo) s hsA LA hLA => ?_
    obtain ⟨hV, hF, hr, h2, b0, h3, b64, h5, b65600, h6, b327744⟩ := hsA
    rcases todo.eq_nil_or_concat with rfl | ⟨pre, i, rfl⟩
    · repeat (first | simp [h2, b0, h3, b64, h5, b65600, h6, b327744, hc] | with_reducible refine And.intro (by omega) ?_ | with_reducible refine optK_if (by omega) ?_ | with_reducible refine optD_if (by omega) ?_ | simp (disch := omega) only [wrap_i64, if_pos, if_neg] | with_reducible refine gsel_pure (by with_unfolding_all rfl) _ (fun hg => by (try simp at hg); simp [hg, h2, b0, h3, b64, h5, b65600, h6, b327744, hc]; rfl) ?_ | with_reducible refine dsel_pure (by with_unfolding_all rfl) _ (fun hg => by (try simp at hg); simp [hg, h2, b0, h3, b64, h5, b65600, h6, b327744, hc]; rfl) ?_ | with_reducible refine awp_draw (by kernel_rfl) (by decide +kernel) ?_)
      refine hQ _ _ (ret2 (by simp [retAV, resAV]; rfl) (by simp; rfl) ?_)
      have : F = F - 1 + 1 := by omega
      rw [hr, this]; simp [visitF]
    · have hi : i < l.length := hV.todo i (by simp)
      have hV' : VOk l.length (seen, pre) := ⟨hV.nodup, hV.seen, fun x hx => hV.todo x (by simp; exact .inl hx), by have := hV.len; simp at this; simp; omega⟩
      have hsn : seen.length ≤ l.length := nodup_len hV.nodup hV.seen
      have hpl : pre.length ≤ seen.length := hV'.len
      have eA : intsC (natI (pre.concat i)) = intsC (natI pre) ++ [iC i] := by rw [List.concat_eq_append, natI_append, intsC_append]; rfl
      have eT : (intsC (natI pre) ++ [iC i]).take pre.length = intsC (natI pre) := by rw [List.take_append_of_le_length (by simp), List.take_of_length_le (by simp)]
      have eG : (intsC (natI pre) ++ [iC i])[pre.length]? = some (iC i) := by rw [List.getElem?_append_right (by simp)]; simp
      rw [eA] at b327744
      have e1 : ((pre ++ [i]).length : Int) = pre.length + 1 := by simp
      repeat (first | simp [h2, b0, h3, b64, h5, b65600, h6, b327744, hc, e1, eT, eG] | with_reducible refine And.intro (by omega) ?_ | with_reducible refine optK_if (by omega) ?_ | with_reducible refine optD_if (by omega) ?_ | simp (disch := omega) only [wrap_i64, if_pos, if_neg] | with_reducible refine gsel_pure (by with_unfolding_all rfl) _ (fun hg => by (try simp at hg); simp [hg, h2, b0, h3, b64, h5, b65600, h6, b327744, hc, e1, eT, eG]; rfl) ?_ | with_reducible refine dsel_pure (by with_unfolding_all rfl) _ (fun hg => by (try simp at hg); simp [hg, h2, b0, h3, b64, h5, b65600, h6, b327744, hc, e1, eT, eG]; rfl) ?_ | with_reducible refine awp_draw (by kernel_rfl) (by decide +kernel) ?_)
      refine gop_call' (at_successors name l i) (by (first | simp [h2, b0, h3, b64, h5, b65600, h6, b327744, hc] | simp (disch := omega) [h2, b0, h3, b64, h5, b65600, h6, b327744, hc, wrap_i64]); try rfl) (by simp) (by simp) ?_
      repeat (first | simp [h2, b0, h3, b64, h5, b65600, h6, b327744, hc, e1, eT, eG] | with_reducible refine And.intro (by omega) ?_ | with_reducible refine optK_if (by omega) ?_ | with_reducible refine optD_if (by omega) ?_ | simp (disch := omega) only [wrap_i64, if_pos, if_neg] | with_reducible refine gsel_pure (by with_unfolding_all rfl) _ (fun hg => by (try simp at hg); simp [hg, h2, b0, h3, b64, h5, b65600, h6, b327744, hc, e1, eT, eG]; rfl) ?_ | with_reducible refine dsel_pure (by with_unfolding_all rfl) _ (fun hg => by (try simp at hg); simp [hg, h2, b0, h3, b64, h5, b65600, h6, b327744, hc, e1, eT, eG]; rfl) ?_ | with_reducible refine awp_draw (by kernel_rfl) (by decide +kernel) ?_)
      refine awp_range (T := [10, 11, 12, 13]) (gf := 74) (cs := [.bx (fC name l), .bx [iC i]]) (evs (natI (sucs l i))) (fun (k : Nat) (bx : Nat → Option (List AC)) => bx 0 = some (fP name l) ∧ bx 64 = some ([.p (iC w)]) ∧ bx 65600 = some ([.mown 65536 (natI (pushL l w seen pre i k).1) (cstM (natI (pushL l w seen pre i k).1))]) ∧ bx 327744 = some ([.own 327680 1 (pushL l w seen pre i k).2.length (intsC (natI (pushL l w seen pre i k).2))])) rfl (by simp [h2, b0, h3, b64, h5, b65600, h6, b327744, hc, pushL, eT]) (by simpa [fC] using seq_successors name l ok i hi) (fun x hx => by simp [evs] at hx; obtain ⟨y, _, rfl⟩ := hx; rfl) ⟨by simp [h2, b0, h3, b64, h5, b65600, h6, b327744, hc, pushL, eT], by simp [h2, b0, h3, b64, h5, b65600, h6, b327744, hc, pushL, eT], by simp [h2, b0, h3, b64, h5, b65600, h6, b327744, hc, pushL, eT], by simp [h2, b0, h3, b64, h5, b65600, h6, b327744, hc, pushL, eT]⟩ (fun k x bx hx ⟨b0, b64, b65600, b327744⟩ => ?_) (fun bx ⟨b0, b64, b65600, b327744⟩ => ?_)
      · obtain ⟨hk, rfl⟩ := evs_get hx
        have hk' : k < (sucs l i).length := by simpa using hk
        have hx' : (natI (sucs l i))[k] = (((sucs l i)[k] : Nat) : Int) := by simp [natI]
        have hps := pushL_succ (w := w) (seen := seen) (todo := pre) hk'
        have hpo := pushL_ok w i hV' k (by omega)
        have hTl := hpo.1.len
        have hSl := nodup_len hpo.1.nodup hpo.1.seen
        rw [hx']
        clear hx'
        generalize hst : pushL l w seen pre i k = st at *
        obtain ⟨S, T⟩ := st
        generalize (sucs l i)[k] = X at *
        simp only at hTl hSl b65600 b327744
        by_cases hm : X ∈ S
        · have hg := mgetM_in (mem_natI.2 hm)
          have hpv : pushV l.length w (S, T) X = (S, T) := by unfold pushV; rw [if_neg (by simp [hm])]
          rw [hpv] at hps
          repeat (first | simp [h2, h3, h5, h6, b0, b64, b65600, b327744, hc, hg] | with_reducible refine And.intro (by omega) ?_ | with_reducible refine optK_if (by omega) ?_ | with_reducible refine optD_if (by omega) ?_ | simp (disch := omega) only [wrap_i64, if_pos, if_neg] | with_reducible refine gsel_pure (by with_unfolding_all rfl) _ (fun hg => by (try simp at hg); simp [hg, h2, h3, h5, h6, b0, b64, b65600, b327744, hc, hg]; rfl) ?_ | with_reducible refine dsel_pure (by with_unfolding_all rfl) _ (fun hg => by (try simp at hg); simp [hg, h2, h3, h5, h6, b0, b64, b65600, b327744, hc, hg]; rfl) ?_ | with_reducible refine awp_draw (by kernel_rfl) (by decide +kernel) ?_)
          refine rPost_normal ⟨by simp [h2, h3, h5, h6, b0, b64, b65600, b327744, hc, hps], by simp [h2, h3, h5, h6, b0, b64, b65600, b327744, hc, hps], by simp [h2, h3, h5, h6, b0, b64, b65600, b327744, hc, hps], by simp [h2, h3, h5, h6, b0, b64, b65600, b327744, hc, hps]⟩
        · have hg := mget_out (cstM (natI S)) (fun h => hm (mem_natI.1 h))
          repeat (first | simp [h2, h3, h5, h6, b0, b64, b65600, b327744, hc, hg] | with_reducible refine And.intro (by omega) ?_ | with_reducible refine optK_if (by omega) ?_ | with_reducible refine optD_if (by omega) ?_ | simp (disch := omega) only [wrap_i64, if_pos, if_neg] | with_reducible refine gsel_pure (by with_unfolding_all rfl) _ (fun hg => by (try simp at hg); simp [hg, h2, h3, h5, h6, b0, b64, b65600, b327744, hc, hg]; rfl) ?_ | with_reducible refine dsel_pure (by with_unfolding_all rfl) _ (fun hg => by (try simp at hg); simp [hg, h2, h3, h5, h6, b0, b64, b65600, b327744, hc, hg]; rfl) ?_ | with_reducible refine awp_draw (by kernel_rfl) (by decide +kernel) ?_)
          (with_reducible refine condK_intro (fun hc2 => ?_) (fun hc2 => ?_)) <;> (try simp only [hc2]) <;> (try simp [andB, orB, eqI, ltI, Int.natCast_inj] at hc2)
          · have hpv : pushV l.length w (S, T) X = (S ++ [X], T ++ [X]) := by unfold pushV; rw [if_pos (by simp [hm]; omega)]
            rw [hpv] at hps
            have hak : addK (natI S) X = natI (S ++ [X]) := by rw [addK_natI, addN, if_neg hm]
            repeat (first | simp [h2, h3, h5, h6, b0, b64, b65600, b327744, hc, hc2, hg, hak] | with_reducible refine And.intro (by omega) ?_ | with_reducible refine optK_if (by omega) ?_ | with_reducible refine optD_if (by omega) ?_ | simp (disch := omega) only [wrap_i64, if_pos, if_neg] | with_reducible refine gsel_pure (by with_unfolding_all rfl) _ (fun hg => by (try simp at hg); simp [hg, h2, h3, h5, h6, b0, b64, b65600, b327744, hc, hc2, hg, hak]; rfl) ?_ | with_reducible refine dsel_pure (by with_unfolding_all rfl) _ (fun hg => by (try simp at hg); simp [hg, h2, h3, h5, h6, b0, b64, b65600, b327744, hc, hc2, hg, hak]; rfl) ?_ | with_reducible refine awp_draw (by kernel_rfl) (by decide +kernel) ?_)
            refine rPost_normal ⟨by simp [h2, h3, h5, h6, b0, b64, b65600, b327744, hc, hc2, hps, hak, natI_append, intsC_append], by simp [h2, h3, h5, h6, b0, b64, b65600, b327744, hc, hc2, hps, hak, natI_append, intsC_append], by simp [h2, h3, h5, h6, b0, b64, b65600, b327744, hc, hc2, hps, hak, natI_append, intsC_append], by simp [h2, h3, h5, h6, b0, b64, b65600, b327744, hc, hc2, hps, hak, natI_append, intsC_append]⟩
          · have hpv : pushV l.length w (S, T) X = (S, T) := by unfold pushV; rw [if_neg (by simp; omega)]
            rw [hpv] at hps
            repeat (first | simp [h2, h3, h5, h6, b0, b64, b65600, b327744, hc, hc2, hg] | with_reducible refine And.intro (by omega) ?_ | with_reducible refine optK_if (by omega) ?_ | with_reducible refine optD_if (by omega) ?_ | simp (disch := omega) only [wrap_i64, if_pos, if_neg] | with_reducible refine gsel_pure (by with_unfolding_all rfl) _ (fun hg => by (try simp at hg); simp [hg, h2, h3, h5, h6, b0, b64, b65600, b327744, hc, hc2, hg]; rfl) ?_ | with_reducible refine dsel_pure (by with_unfolding_all rfl) _ (fun hg => by (try simp at hg); simp [hg, h2, h3, h5, h6, b0, b64, b65600, b327744, hc, hc2, hg]; rfl) ?_ | with_reducible refine awp_draw (by kernel_rfl) (by decide +kernel) ?_)
            refine rPost_normal ⟨by simp [h2, h3, h5, h6, b0, b64, b65600, b327744, hc, hc2, hps], by simp [h2, h3, h5, h6, b0, b64, b65600, b327744, hc, hc2, hps], by simp [h2, h3, h5, h6, b0, b64, b65600, b327744, hc, hc2, hps], by simp [h2, h3, h5, h6, b0, b64, b65600, b327744, hc, hc2, hps]⟩
      · simp only [evs_length, natI_length] at b65600 b327744
        have hpo := pushL_ok w i hV' _ (Nat.le_refl _)
        have hF1 : F = (F - 1) + 1 := by omega
        have hms : vms l.length (seen, pre.concat i) = vms l.length (seen, pre) + 1 := by simp [vms]; omega
        have g1 : (pre.concat i).getLast? = some i := by simp
        have g2 : (pre.concat i).dropLast = pre := by simp
        rw [hF1, visitF, g1] at hr
        simp only [g2] at hr
        generalize hst : pushL l w seen pre i (sucs l i).length = st at *
        obtain ⟨S, T⟩ := st
        simp only at b65600 b327744 hr
        repeat (first | simp [h2, h3, h5, h6, b0, b64, b65600, b327744, hc] | with_reducible refine And.intro (by omega) ?_ | with_reducible refine optK_if (by omega) ?_ | with_reducible refine optD_if (by omega) ?_ | simp (disch := omega) only [wrap_i64, if_pos, if_neg] | with_reducible refine gsel_pure (by with_unfolding_all rfl) _ (fun hg => by (try simp at hg); simp [hg, h2, h3, h5, h6, b0, b64, b65600, b327744, hc]; rfl) ?_ | with_reducible refine dsel_pure (by with_unfolding_all rfl) _ (fun hg => by (try simp at hg); simp [hg, h2, h3, h5, h6, b0, b64, b65600, b327744, hc]; rfl) ?_ | with_reducible refine awp_draw (by kernel_rfl) (by decide +kernel) ?_)
        refine hLA ((F - 1, S, T)) _ ⟨by exact hpo.1, by have := hpo.2; omega, by exact hr, by simp [h2, h3, h5, h6, b0, b64, b65600, b327744, hc], by simp [h2, h3, h5, h6, b0, b64, b65600, b327744, hc], by simp [h2, h3, h5, h6, b0, b64, b65600, b327744, hc], by simp [h2, h3, h5, h6, b0, b64, b65600, b327744, hc], by simp [h2, h3, h5, h6, b0, b64, b65600, b327744, hc], by simp [h2, h3, h5, h6, b0, b64, b65600, b327744, hc], by simp [h2, h3, h5, h6, b0, b64, b65600, b327744, hc], by simp [h2, h3, h5, h6, b0, b64, b65600, b327744, hc]⟩ (by first | omega | (simp; omega))
theorem at_sorted (name : ByteArray) (l : List I8) (hlen : l.length ≤ 1000000) (ks : List Int) (hks : posK ks = true) : At Tryd.prog 52 [fAV name l, .cell (.p (.mp ks (cstC ks)))] (intsA (natI (sortL ks l.length))) := by
  refine at_pure (r := .cell (.own 0 1 (sortL ks l.length).length (intsC (natI (sortL ks l.length))))) ?_ (by simp)
  refine at_code mixed Tryd.func52 (by kernel_rfl) rfl (by kernel_rfl) (by kernel_rfl) rfl fun Q hQ => ?_
  repeat (first | simp | with_reducible refine And.intro (by omega) ?_ | with_reducible refine optK_if (by omega) ?_ | with_reducible refine optD_if (by omega) ?_ | simp (disch := omega) only [wrap_i64, if_pos, if_neg] | with_reducible refine gsel_pure (by with_unfolding_all rfl) _ (fun hg => by (try simp at hg); simp [hg]; rfl) ?_ | with_reducible refine dsel_pure (by with_unfolding_all rfl) _ (fun hg => by (try simp at hg); simp [hg]; rfl) ?_ | with_reducible refine awp_draw (by kernel_rfl) (by decide +kernel) ?_)
  refine awp_loopW (fun (k : Nat) (s : St) => (k ≤ l.length) ∧ s.env 10 = iV .i64 k ∧ s.env 8 = .cell (.p (.sl l.length (codeC l))) ∧ s.env 9 = iV .i64 l.length ∧ s.env 1 = .cell (.p (.mp ks (cstC ks))) ∧ s.env 5 = .cell (.own 655360000 1 (sortL ks k).length (intsC (natI (sortL ks k))))) (fun (k : Nat) => l.length - k) _ (Weak.own 5 655360000 1 (by simp)) (0) ⟨by first | omega | assumption | (simp [sortL]; done) | (simp [sortL]; omega), by simp [sortL], by simp [sortL], by simp [sortL], by simp [sortL], by simp [sortL]⟩ fun k s hsA LA hLA => ?_
  obtain ⟨hk, h10, h8, h9, h1, h5⟩ := hsA
  repeat (first | simp [h10, h8, h9, h1, h5] | with_reducible refine And.intro (by omega) ?_ | with_reducible refine optK_if (by omega) ?_ | with_reducible refine optD_if (by omega) ?_ | simp (disch := omega) only [wrap_i64, if_pos, if_neg] | with_reducible refine gsel_pure (by with_unfolding_all rfl) _ (fun hg => by (try simp at hg); simp [hg, h10, h8, h9, h1, h5]; rfl) ?_ | with_reducible refine dsel_pure (by with_unfolding_all rfl) _ (fun hg => by (try simp at hg); simp [hg, h10, h8, h9, h1, h5]; rfl) ?_ | with_reducible refine awp_draw (by kernel_rfl) (by decide +kernel) ?_)
  (with_reducible refine condK_intro (fun hlt => ?_) (fun hlt => ?_)) <;> (try simp only [hlt]) <;> (try simp [andB, orB, eqI, ltI, Int.natCast_inj] at hlt)
  · have hsl := sortL_len ks k
    by_cases hm : (k : Int) ∈ ks
    · have hg := mgetC_in hm
      repeat (first | simp [h10, h8, h9, h1, h5, hlt, hg, hks] | with_reducible refine And.intro (by omega) ?_ | with_reducible refine optK_if (by omega) ?_ | with_reducible refine optD_if (by omega) ?_ | simp (disch := omega) only [wrap_i64, if_pos, if_neg] | with_reducible refine gsel_pure (by with_unfolding_all rfl) _ (fun hg => by (try simp at hg); simp [hg, h10, h8, h9, h1, h5, hlt, hg, hks]; rfl) ?_ | with_reducible refine dsel_pure (by with_unfolding_all rfl) _ (fun hg => by (try simp at hg); simp [hg, h10, h8, h9, h1, h5, hlt, hg, hks]; rfl) ?_ | with_reducible refine awp_draw (by kernel_rfl) (by decide +kernel) ?_)
      refine hLA (k + 1) _ ⟨by first | omega | assumption | (simp [sortL_in hm, natI_append, intsC_append]; done) | (simp [sortL_in hm, natI_append, intsC_append]; omega), by simp [h10, h8, h9, h1, h5, hlt, sortL_in hm, natI_append, intsC_append], by simp [h10, h8, h9, h1, h5, hlt, sortL_in hm, natI_append, intsC_append], by simp [h10, h8, h9, h1, h5, hlt, sortL_in hm, natI_append, intsC_append], by simp [h10, h8, h9, h1, h5, hlt, sortL_in hm, natI_append, intsC_append], by simp [h10, h8, h9, h1, h5, hlt, sortL_in hm, natI_append, intsC_append]⟩ (by first | omega | (simp; omega))
    · have hg := mget_out (cstC ks) hm
      repeat (first | simp [h10, h8, h9, h1, h5, hlt, hg, hks] | with_reducible refine And.intro (by omega) ?_ | with_reducible refine optK_if (by omega) ?_ | with_reducible refine optD_if (by omega) ?_ | simp (disch := omega) only [wrap_i64, if_pos, if_neg] | with_reducible refine gsel_pure (by with_unfolding_all rfl) _ (fun hg => by (try simp at hg); simp [hg, h10, h8, h9, h1, h5, hlt, hg, hks]; rfl) ?_ | with_reducible refine dsel_pure (by with_unfolding_all rfl) _ (fun hg => by (try simp at hg); simp [hg, h10, h8, h9, h1, h5, hlt, hg, hks]; rfl) ?_ | with_reducible refine awp_draw (by kernel_rfl) (by decide +kernel) ?_)
      refine hLA (k + 1) _ ⟨by first | omega | assumption | (simp [sortL_out hm]; done) | (simp [sortL_out hm]; omega), by simp [h10, h8, h9, h1, h5, hlt, sortL_out hm], by simp [h10, h8, h9, h1, h5, hlt, sortL_out hm], by simp [h10, h8, h9, h1, h5, hlt, sortL_out hm], by simp [h10, h8, h9, h1, h5, hlt, sortL_out hm], by simp [h10, h8, h9, h1, h5, hlt, sortL_out hm]⟩ (by first | omega | (simp; omega))
  · have : k = l.length := by omega
    subst this
    repeat (first | simp [h10, h8, h9, h1, h5, hlt] | with_reducible refine And.intro (by omega) ?_ | with_reducible refine optK_if (by omega) ?_ | with_reducible refine optD_if (by omega) ?_ | simp (disch := omega) only [wrap_i64, if_pos, if_neg] | with_reducible refine gsel_pure (by with_unfolding_all rfl) _ (fun hg => by (try simp at hg); simp [hg, h10, h8, h9, h1, h5, hlt]; rfl) ?_ | with_reducible refine dsel_pure (by with_unfolding_all rfl) _ (fun hg => by (try simp at hg); simp [hg, h10, h8, h9, h1, h5, hlt]; rfl) ?_ | with_reducible refine awp_draw (by kernel_rfl) (by decide +kernel) ?_)
    refine hQ _ _ (ret2 (by simp [retAV, resAV]; rfl) (by simp; rfl) ?_)
    rfl
theorem at_leaders (name : ByteArray) (l : List I8) : At Tryd.prog 18 [fAV name l] (.tup [if funcE l = 0 then intsA (natI (sortL (leadK l l.length) l.length)) else .cell .z, iV .i64 (funcE l)]) := by
  by_cases hf : funcE l = 0
  rotate_left
  · have e1 : eqI (funcE l) 0 = false := by simp [eqI, hf]
    refine at_code mixed Tryd.func18 (by kernel_rfl) rfl (by kernel_rfl) (by kernel_rfl) rfl fun Q hQ => ?_
    repeat (first | simp | with_reducible refine And.intro (by omega) ?_ | with_reducible refine optK_if (by omega) ?_ | with_reducible refine optD_if (by omega) ?_ | simp (disch := omega) only [wrap_i64, if_pos, if_neg] | with_reducible refine gsel_pure (by with_unfolding_all rfl) _ (fun hg => by (try simp at hg); simp [hg]; rfl) ?_ | with_reducible refine dsel_pure (by with_unfolding_all rfl) _ (fun hg => by (try simp at hg); simp [hg]; rfl) ?_ | with_reducible refine awp_draw (by kernel_rfl) (by decide +kernel) ?_)
    refine gop_call (at_cfgCheck name l) (by (first | simp [wrap_i64] | simp (disch := omega) [wrap_i64]); try rfl) (by simp) (by simp) ?_
    repeat (first | simp [e1] | with_reducible refine And.intro (by omega) ?_ | with_reducible refine optK_if (by omega) ?_ | with_reducible refine optD_if (by omega) ?_ | simp (disch := omega) only [wrap_i64, if_pos, if_neg] | with_reducible refine gsel_pure (by with_unfolding_all rfl) _ (fun hg => by (try simp at hg); simp [hg, e1]; rfl) ?_ | with_reducible refine dsel_pure (by with_unfolding_all rfl) _ (fun hg => by (try simp at hg); simp [hg, e1]; rfl) ?_ | with_reducible refine awp_draw (by kernel_rfl) (by decide +kernel) ?_)
    refine hQ _ _ (ret2 (by simp [retAV, resAV]; rfl) (by simp; rfl) ?_)
    simp [hf]
  have ok := okL hf
  have hlen := ok.len
  refine at_code mixed Tryd.func18 (by kernel_rfl) rfl (by kernel_rfl) (by kernel_rfl) rfl fun Q hQ => ?_
  repeat (first | simp | with_reducible refine And.intro (by omega) ?_ | with_reducible refine optK_if (by omega) ?_ | with_reducible refine optD_if (by omega) ?_ | simp (disch := omega) only [wrap_i64, if_pos, if_neg] | with_reducible refine gsel_pure (by with_unfolding_all rfl) _ (fun hg => by (try simp at hg); simp [hg]; rfl) ?_ | with_reducible refine dsel_pure (by with_unfolding_all rfl) _ (fun hg => by (try simp at hg); simp [hg]; rfl) ?_ | with_reducible refine awp_draw (by kernel_rfl) (by decide +kernel) ?_)
  refine gop_call (at_cfgCheck name l) (by (first | simp [wrap_i64] | simp (disch := omega) [wrap_i64]); try rfl) (by simp) (by simp) ?_
  repeat (first | simp [hf] | with_reducible refine And.intro (by omega) ?_ | with_reducible refine optK_if (by omega) ?_ | with_reducible refine optD_if (by omega) ?_ | simp (disch := omega) only [wrap_i64, if_pos, if_neg] | with_reducible refine gsel_pure (by with_unfolding_all rfl) _ (fun hg => by (try simp at hg); simp [hg, hf]; rfl) ?_ | with_reducible refine dsel_pure (by with_unfolding_all rfl) _ (fun hg => by (try simp at hg); simp [hg, hf]; rfl) ?_ | with_reducible refine awp_draw (by kernel_rfl) (by decide +kernel) ?_)
  refine awp_loopV (fun (k : Nat) (s : St) => (k ≤ l.length) ∧ s.env 18 = iV .i64 k ∧ s.env 16 = .cell (.p (.sl l.length (codeC l))) ∧ s.env 17 = iV .i64 l.length ∧ s.env 5 = .cell (.mown 262144 (leadK l k) (cstM (leadK l k))) ∧ s.env 1 = .cell (.ptr 0 0) ∧ s.box 0 = some (fP name l)) (fun (k : Nat) => l.length - k) (0) ⟨by first | omega | assumption | (simp [leadK, addK, mputV, mfind, cstM]; done) | (simp [leadK, addK, mputV, mfind, cstM]; omega), by simp [leadK, addK, mputV, mfind, cstM], by simp [leadK, addK, mputV, mfind, cstM], by simp [leadK, addK, mputV, mfind, cstM], by simp [leadK, addK, mputV, mfind, cstM], by simp [leadK, addK, mputV, mfind, cstM], by simp [leadK, addK, mputV, mfind, cstM]⟩ fun k s hsA LA hLA => ?_
  obtain ⟨hk, h18, h16, h17, h5, h1, b0⟩ := hsA
  repeat (first | simp [h18, h16, h17, h5, h1, b0] | with_reducible refine And.intro (by omega) ?_ | with_reducible refine optK_if (by omega) ?_ | with_reducible refine optD_if (by omega) ?_ | simp (disch := omega) only [wrap_i64, if_pos, if_neg] | with_reducible refine gsel_pure (by with_unfolding_all rfl) _ (fun hg => by (try simp at hg); simp [hg, h18, h16, h17, h5, h1, b0]; rfl) ?_ | with_reducible refine dsel_pure (by with_unfolding_all rfl) _ (fun hg => by (try simp at hg); simp [hg, h18, h16, h17, h5, h1, b0]; rfl) ?_ | with_reducible refine awp_draw (by kernel_rfl) (by decide +kernel) ?_)
  (with_reducible refine condK_intro (fun hlt => ?_) (fun hlt => ?_)) <;> (try simp only [hlt]) <;> (try simp [andB, orB, eqI, ltI, Int.natCast_inj] at hlt)
  · have hle := leadK_succ (l := l) hlt
    have hpk := posK_leadK ok k (by omega)
    have ht := ok.tgt k hlt
    have hkp : (0 : Int) ≤ (k : Int) + 1 := by omega
    repeat (first | simp [h18, h16, h17, h5, h1, b0, hlt] | with_reducible refine And.intro (by omega) ?_ | with_reducible refine optK_if (by omega) ?_ | with_reducible refine optD_if (by omega) ?_ | simp (disch := omega) only [wrap_i64, if_pos, if_neg] | with_reducible refine gsel_pure (by with_unfolding_all rfl) _ (fun hg => by (try simp at hg); simp [hg, h18, h16, h17, h5, h1, b0, hlt]; rfl) ?_ | with_reducible refine dsel_pure (by with_unfolding_all rfl) _ (fun hg => by (try simp at hg); simp [hg, h18, h16, h17, h5, h1, b0, hlt]; rfl) ?_ | with_reducible refine awp_draw (by kernel_rfl) (by decide +kernel) ?_)
    by_cases g4 : l[k].op = 4
    · have t4 : eqI l[k].op 4 = true := by simp [eqI, g4]
      rw [if_pos (.inl g4)] at hle
      have hn := (ht (.inl g4)).1
      repeat (first | simp [h18, h16, h17, h5, h1, b0, hlt, t4, hpk, hn, hkp] | with_reducible refine And.intro (by omega) ?_ | with_reducible refine optK_if (by omega) ?_ | with_reducible refine optD_if (by omega) ?_ | simp (disch := omega) only [wrap_i64, if_pos, if_neg] | with_reducible refine gsel_pure (by with_unfolding_all rfl) _ (fun hg => by (try simp at hg); simp [hg, h18, h16, h17, h5, h1, b0, hlt, t4, hpk, hn, hkp]; rfl) ?_ | with_reducible refine dsel_pure (by with_unfolding_all rfl) _ (fun hg => by (try simp at hg); simp [hg, h18, h16, h17, h5, h1, b0, hlt, t4, hpk, hn, hkp]; rfl) ?_ | with_reducible refine awp_draw (by kernel_rfl) (by decide +kernel) ?_)
      refine hLA (k + 1) _ ⟨by first | omega | assumption | (simp [hle]; done) | (simp [hle]; omega), by simp [h18, h16, h17, h5, h1, b0, hlt, hle], by simp [h18, h16, h17, h5, h1, b0, hlt, hle], by simp [h18, h16, h17, h5, h1, b0, hlt, hle], by simp [h18, h16, h17, h5, h1, b0, hlt, hle], by simp [h18, h16, h17, h5, h1, b0, hlt, hle], by simp [h18, h16, h17, h5, h1, b0, hlt, hle]⟩ (by first | omega | (simp; omega))
    have t4 : eqI l[k].op 4 = false := by simp [eqI, g4]
    by_cases g5 : l[k].op = 5
    · have t5 : eqI l[k].op 5 = true := by simp [eqI, g5]
      rw [if_pos (.inr g5)] at hle
      have hn := (ht (.inr g5)).1
      repeat (first | simp [h18, h16, h17, h5, h1, b0, hlt, t4, t5, hpk, hn, hkp] | with_reducible refine And.intro (by omega) ?_ | with_reducible refine optK_if (by omega) ?_ | with_reducible refine optD_if (by omega) ?_ | simp (disch := omega) only [wrap_i64, if_pos, if_neg] | with_reducible refine gsel_pure (by with_unfolding_all rfl) _ (fun hg => by (try simp at hg); simp [hg, h18, h16, h17, h5, h1, b0, hlt, t4, t5, hpk, hn, hkp]; rfl) ?_ | with_reducible refine dsel_pure (by with_unfolding_all rfl) _ (fun hg => by (try simp at hg); simp [hg, h18, h16, h17, h5, h1, b0, hlt, t4, t5, hpk, hn, hkp]; rfl) ?_ | with_reducible refine awp_draw (by kernel_rfl) (by decide +kernel) ?_)
      refine hLA (k + 1) _ ⟨by first | omega | assumption | (simp [hle]; done) | (simp [hle]; omega), by simp [h18, h16, h17, h5, h1, b0, hlt, hle], by simp [h18, h16, h17, h5, h1, b0, hlt, hle], by simp [h18, h16, h17, h5, h1, b0, hlt, hle], by simp [h18, h16, h17, h5, h1, b0, hlt, hle], by simp [h18, h16, h17, h5, h1, b0, hlt, hle], by simp [h18, h16, h17, h5, h1, b0, hlt, hle]⟩ (by first | omega | (simp; omega))
    have t5 : eqI l[k].op 5 = false := by simp [eqI, g5]
    rw [if_neg (by omega)] at hle
    by_cases g7 : l[k].op = 7
    · have t7 : eqI l[k].op 7 = true := by simp [eqI, g7]
      rw [if_pos g7] at hle
      repeat (first | simp [h18, h16, h17, h5, h1, b0, hlt, t4, t5, t7, hpk, hkp] | with_reducible refine And.intro (by omega) ?_ | with_reducible refine optK_if (by omega) ?_ | with_reducible refine optD_if (by omega) ?_ | simp (disch := omega) only [wrap_i64, if_pos, if_neg] | with_reducible refine gsel_pure (by with_unfolding_all rfl) _ (fun hg => by (try simp at hg); simp [hg, h18, h16, h17, h5, h1, b0, hlt, t4, t5, t7, hpk, hkp]; rfl) ?_ | with_reducible refine dsel_pure (by with_unfolding_all rfl) _ (fun hg => by (try simp at hg); simp [hg, h18, h16, h17, h5, h1, b0, hlt, t4, t5, t7, hpk, hkp]; rfl) ?_ | with_reducible refine awp_draw (by kernel_rfl) (by decide +kernel) ?_)
      refine hLA (k + 1) _ ⟨by first | omega | assumption | (simp [hle]; done) | (simp [hle]; omega), by simp [h18, h16, h17, h5, h1, b0, hlt, hle], by simp [h18, h16, h17, h5, h1, b0, hlt, hle], by simp [h18, h16, h17, h5, h1, b0, hlt, hle], by simp [h18, h16, h17, h5, h1, b0, hlt, hle], by simp [h18, h16, h17, h5, h1, b0, hlt, hle], by simp [h18, h16, h17, h5, h1, b0, hlt, hle]⟩ (by first | omega | (simp; omega))
    have t7 : eqI l[k].op 7 = false := by simp [eqI, g7]
    rw [if_neg g7] at hle
    repeat (first | simp [h18, h16, h17, h5, h1, b0, hlt, t4, t5, t7] | with_reducible refine And.intro (by omega) ?_ | with_reducible refine optK_if (by omega) ?_ | with_reducible refine optD_if (by omega) ?_ | simp (disch := omega) only [wrap_i64, if_pos, if_neg] | with_reducible refine gsel_pure (by with_unfolding_all rfl) _ (fun hg => by (try simp at hg); simp [hg, h18, h16, h17, h5, h1, b0, hlt, t4, t5, t7]; rfl) ?_ | with_reducible refine dsel_pure (by with_unfolding_all rfl) _ (fun hg => by (try simp at hg); simp [hg, h18, h16, h17, h5, h1, b0, hlt, t4, t5, t7]; rfl) ?_ | with_reducible refine awp_draw (by kernel_rfl) (by decide +kernel) ?_)
    refine hLA (k + 1) _ ⟨by first | omega | assumption | (simp [hle]; done) | (simp [hle]; omega), by simp [h18, h16, h17, h5, h1, b0, hlt, hle], by simp [h18, h16, h17, h5, h1, b0, hlt, hle], by simp [h18, h16, h17, h5, h1, b0, hlt, hle], by simp [h18, h16, h17, h5, h1, b0, hlt, hle], by simp [h18, h16, h17, h5, h1, b0, hlt, hle], by simp [h18, h16, h17, h5, h1, b0, hlt, hle]⟩ (by first | omega | (simp; omega))
  · have : k = l.length := by omega
    subst this
    repeat (first | simp [h18, h16, h17, h5, h1, b0, hlt] | with_reducible refine And.intro (by omega) ?_ | with_reducible refine optK_if (by omega) ?_ | with_reducible refine optD_if (by omega) ?_ | simp (disch := omega) only [wrap_i64, if_pos, if_neg] | with_reducible refine gsel_pure (by with_unfolding_all rfl) _ (fun hg => by (try simp at hg); simp [hg, h18, h16, h17, h5, h1, b0, hlt]; rfl) ?_ | with_reducible refine dsel_pure (by with_unfolding_all rfl) _ (fun hg => by (try simp at hg); simp [hg, h18, h16, h17, h5, h1, b0, hlt]; rfl) ?_ | with_reducible refine awp_draw (by kernel_rfl) (by decide +kernel) ?_)
    refine gop_call' (at_sorted name l (by omega) (leadK l l.length) (posK_leadK ok _ (Nat.le_refl _))) (by (first | simp [h18, h16, h17, h5, h1, b0, hlt] | simp (disch := omega) [h18, h16, h17, h5, h1, b0, hlt, wrap_i64]); try rfl) (by simp) (by simp) ?_
    repeat (first | simp [h18, h16, h17, h5, h1, b0, hlt] | with_reducible refine And.intro (by omega) ?_ | with_reducible refine optK_if (by omega) ?_ | with_reducible refine optD_if (by omega) ?_ | simp (disch := omega) only [wrap_i64, if_pos, if_neg] | with_reducible refine gsel_pure (by with_unfolding_all rfl) _ (fun hg => by (try simp at hg); simp [hg, h18, h16, h17, h5, h1, b0, hlt]; rfl) ?_ | with_reducible refine dsel_pure (by with_unfolding_all rfl) _ (fun hg => by (try simp at hg); simp [hg, h18, h16, h17, h5, h1, b0, hlt]; rfl) ?_ | with_reducible refine awp_draw (by kernel_rfl) (by decide +kernel) ?_)
    refine hQ _ _ (ret2 (by simp [retAV, resAV]; rfl) (by simp; rfl) ?_)
    simp [hf]
end Go.Proofs
end
section
set_option linter.all false
namespace Go.Proofs
open Go.Fw Go.Dr
set_option maxRecDepth 100000

abbrev setA (s : List Nat) : AV := .cell (.p (.mp (natI s) (cstC (natI s))))
set_option maxHeartbeats 1000000 in
theorem at_dominated (name : ByteArray) (l : List I8) (ok : OkL l) : At Tryd.prog 53 [fAV name l] (.cell (.p (.mp (natI (domD l l.length)) (domV l l.length)))) := by
  have hlen := ok.len
  refine at_code mixed Tryd.func53 (by kernel_rfl) rfl (by kernel_rfl) (by kernel_rfl) rfl fun Q hQ => ?_
  repeat (first | simp | with_reducible refine And.intro (by omega) ?_ | with_reducible refine optK_if (by omega) ?_ | with_reducible refine optD_if (by omega) ?_ | simp (disch := omega) only [wrap_i64, if_pos, if_neg] | with_reducible refine gsel_pure (by with_unfolding_all rfl) _ (fun hg => by (try simp at hg); simp [hg]; rfl) ?_ | with_reducible refine dsel_pure (by with_unfolding_all rfl) _ (fun hg => by (try simp at hg); simp [hg]; rfl) ?_ | with_reducible refine awp_draw (by kernel_rfl) (by decide +kernel) ?_)
  refine gop_call' (at_visit name l ok (-1)) (by (first | simp [wrap_i64] | simp (disch := omega) [wrap_i64]); try rfl) (by simp) (by simp) ?_
  repeat (first | simp | with_reducible refine And.intro (by omega) ?_ | with_reducible refine optK_if (by omega) ?_ | with_reducible refine optD_if (by omega) ?_ | simp (disch := omega) only [wrap_i64, if_pos, if_neg] | with_reducible refine gsel_pure (by with_unfolding_all rfl) _ (fun hg => by (try simp at hg); simp [hg]; rfl) ?_ | with_reducible refine dsel_pure (by with_unfolding_all rfl) _ (fun hg => by (try simp at hg); simp [hg]; rfl) ?_ | with_reducible refine awp_draw (by kernel_rfl) (by decide +kernel) ?_)
  refine awp_loopV (fun ((k, vs) : Nat × List MV) (s : St) => (k ≤ l.length) ∧ (LastIn 524416 vs (domV l k)) ∧ s.env 14 = iV .i64 k ∧ s.env 12 = .cell (.p (.sl l.length (codeC l))) ∧ s.env 13 = iV .i64 l.length ∧ s.env 3 = setA (visitL l (-1)) ∧ s.env 4 = .cell (.mown 131072 (natI (domD l k)) vs) ∧ s.env 1 = .cell (.ptr 0 0) ∧ s.box 0 = some (fP name l)) (fun ((k, vs) : Nat × List MV) => l.length - k) ((0, [])) ⟨by first | omega | assumption | (simp [domD, domV, LastIn]; done) | (simp [domD, domV, LastIn]; omega), by first | omega | assumption | (simp [domD, domV, LastIn]; done) | (simp [domD, domV, LastIn]; omega), by simp [domD, domV, LastIn], by simp [domD, domV, LastIn], by simp [domD, domV, LastIn], by simp [domD, domV, LastIn], by simp [domD, domV, LastIn], by simp [domD, domV, LastIn], by simp [domD, domV, LastIn]⟩ fun (k, vs) s hsA LA hLA => ?_
  obtain ⟨hk, hvs, h14, h12, h13, h3, h4, h1, b0⟩ := hsA
  repeat (first | simp [h14, h12, h13, h3, h4, h1, b0] | with_reducible refine And.intro (by omega) ?_ | with_reducible refine optK_if (by omega) ?_ | with_reducible refine optD_if (by omega) ?_ | simp (disch := omega) only [wrap_i64, if_pos, if_neg] | with_reducible refine gsel_pure (by with_unfolding_all rfl) _ (fun hg => by (try simp at hg); simp [hg, h14, h12, h13, h3, h4, h1, b0]; rfl) ?_ | with_reducible refine dsel_pure (by with_unfolding_all rfl) _ (fun hg => by (try simp at hg); simp [hg, h14, h12, h13, h3, h4, h1, b0]; rfl) ?_ | with_reducible refine awp_draw (by kernel_rfl) (by decide +kernel) ?_)
  (with_reducible refine condK_intro (fun hlt => ?_) (fun hlt => ?_)) <;> (try simp only [hlt]) <;> (try simp [andB, orB, eqI, ltI, Int.natCast_inj] at hlt)
  · by_cases hm : k ∈ visitL l (-1)
    rotate_left
    · have hg := mget_out (cstC (natI (visitL l (-1)))) (fun h => hm (mem_natI.1 h))
      repeat (first | simp [h14, h12, h13, h3, h4, h1, b0, hlt, hg] | with_reducible refine And.intro (by omega) ?_ | with_reducible refine optK_if (by omega) ?_ | with_reducible refine optD_if (by omega) ?_ | simp (disch := omega) only [wrap_i64, if_pos, if_neg] | with_reducible refine gsel_pure (by with_unfolding_all rfl) _ (fun hg => by (try simp at hg); simp [hg, h14, h12, h13, h3, h4, h1, b0, hlt, hg]; rfl) ?_ | with_reducible refine dsel_pure (by with_unfolding_all rfl) _ (fun hg => by (try simp at hg); simp [hg, h14, h12, h13, h3, h4, h1, b0, hlt, hg]; rfl) ?_ | with_reducible refine awp_draw (by kernel_rfl) (by decide +kernel) ?_)
      refine hLA ((k + 1, vs)) _ ⟨by first | omega | assumption | (simp [domD_out hm, domV]; done) | (simp [domD_out hm, domV]; omega), by rw [show domV l (k + 1) = domV l k by simp [domV, domD_out hm]]; exact hvs, by simp [h14, h12, h13, h3, h4, h1, b0, hlt, domD_out hm, domV], by simp [h14, h12, h13, h3, h4, h1, b0, hlt, domD_out hm, domV], by simp [h14, h12, h13, h3, h4, h1, b0, hlt, domD_out hm, domV], by simp [h14, h12, h13, h3, h4, h1, b0, hlt, domD_out hm, domV], by simp [h14, h12, h13, h3, h4, h1, b0, hlt, domD_out hm, domV], by simp [h14, h12, h13, h3, h4, h1, b0, hlt, domD_out hm, domV], by simp [h14, h12, h13, h3, h4, h1, b0, hlt, domD_out hm, domV]⟩ (by first | omega | (simp; omega))
    have hg := mgetC_in (mem_natI.2 hm)
    repeat (first | simp [h14, h12, h13, h3, h4, h1, b0, hlt, hg] | with_reducible refine And.intro (by omega) ?_ | with_reducible refine optK_if (by omega) ?_ | with_reducible refine optD_if (by omega) ?_ | simp (disch := omega) only [wrap_i64, if_pos, if_neg] | with_reducible refine gsel_pure (by with_unfolding_all rfl) _ (fun hg => by (try simp at hg); simp [hg, h14, h12, h13, h3, h4, h1, b0, hlt, hg]; rfl) ?_ | with_reducible refine dsel_pure (by with_unfolding_all rfl) _ (fun hg => by (try simp at hg); simp [hg, h14, h12, h13, h3, h4, h1, b0, hlt, hg]; rfl) ?_ | with_reducible refine awp_draw (by kernel_rfl) (by decide +kernel) ?_)
    refine gop_call' (at_visit name l ok k) (by (first | simp [h14, h12, h13, h3, h4, h1, b0, hlt] | simp (disch := omega) [h14, h12, h13, h3, h4, h1, b0, hlt, wrap_i64]); try rfl) (by simp) (by simp) ?_
    repeat (first | simp [h14, h12, h13, h3, h4, h1, b0, hlt] | with_reducible refine And.intro (by omega) ?_ | with_reducible refine optK_if (by omega) ?_ | with_reducible refine optD_if (by omega) ?_ | simp (disch := omega) only [wrap_i64, if_pos, if_neg] | with_reducible refine gsel_pure (by with_unfolding_all rfl) _ (fun hg => by (try simp at hg); simp [hg, h14, h12, h13, h3, h4, h1, b0, hlt]; rfl) ?_ | with_reducible refine dsel_pure (by with_unfolding_all rfl) _ (fun hg => by (try simp at hg); simp [hg, h14, h12, h13, h3, h4, h1, b0, hlt]; rfl) ?_ | with_reducible refine awp_draw (by kernel_rfl) (by decide +kernel) ?_)
    have hno := @domD_out' l k
    have hdl : (domV l k).length = (natI (domD l k)).length := by simp [domV]
    have hap := fun c : MV => mget_app (vs := (domV l k).map MV.v) (c := c) hno (by simpa using hdl)
    have hvs' : List.map ((fun x => MV.poison (eqF 131072) x) ∘ (fun x => MV.retire (isId 524416) x) ∘ (fun x => MV.retire (inL []) x) ∘ fun x => MV.retire (isId 458880) x) vs = _ := hvs _ (fun c => by simp) (fun ks vs => by simp)
    refine awp_loopV (fun (m : Nat) (s : St) => (m ≤ l.length) ∧ s.env 30 = iV .i64 m ∧ s.env 28 = .cell (.p (.sl l.length (codeC l))) ∧ s.env 29 = iV .i64 l.length ∧ s.env 14 = iV .i64 k ∧ s.env 12 = .cell (.p (.sl l.length (codeC l))) ∧ s.env 13 = iV .i64 l.length ∧ s.env 3 = setA (visitL l (-1)) ∧ s.env 6 = setA (visitL l k) ∧ s.env 5 = iV .i64 k ∧ s.env 4 = .cell (.mown 131072 (natI (domD l k) ++ [(k : Int)]) ((domV l k).map .v ++ [.inner 524416 (natI (domK l k m)) (cstC (natI (domK l k m)))])) ∧ s.env 1 = .cell (.ptr 0 0) ∧ s.box 0 = some (fP name l)) (fun (m : Nat) => l.length - m) (0) ⟨by first | omega | assumption | (simp [domK, addK_new hno, mputV_new _ _ hno, hvs', cstC]; done) | (simp [domK, addK_new hno, mputV_new _ _ hno, hvs', cstC]; omega), by simp [h14, h12, h13, h3, h4, h1, b0, hlt, domK, addK_new hno, mputV_new _ _ hno, hvs', cstC], by simp [h14, h12, h13, h3, h4, h1, b0, hlt, domK, addK_new hno, mputV_new _ _ hno, hvs', cstC], by simp [h14, h12, h13, h3, h4, h1, b0, hlt, domK, addK_new hno, mputV_new _ _ hno, hvs', cstC], by simp [h14, h12, h13, h3, h4, h1, b0, hlt, domK, addK_new hno, mputV_new _ _ hno, hvs', cstC], by simp [h14, h12, h13, h3, h4, h1, b0, hlt, domK, addK_new hno, mputV_new _ _ hno, hvs', cstC], by simp [h14, h12, h13, h3, h4, h1, b0, hlt, domK, addK_new hno, mputV_new _ _ hno, hvs', cstC], by simp [h14, h12, h13, h3, h4, h1, b0, hlt, domK, addK_new hno, mputV_new _ _ hno, hvs', cstC], by simp [h14, h12, h13, h3, h4, h1, b0, hlt, domK, addK_new hno, mputV_new _ _ hno, hvs', cstC], by simp [h14, h12, h13, h3, h4, h1, b0, hlt, domK, addK_new hno, mputV_new _ _ hno, hvs', cstC], by simp [h14, h12, h13, h3, h4, h1, b0, hlt, domK, addK_new hno, mputV_new _ _ hno, hvs', cstC], by simp [h14, h12, h13, h3, h4, h1, b0, hlt, domK, addK_new hno, mputV_new _ _ hno, hvs', cstC], by simp [h14, h12, h13, h3, h4, h1, b0, hlt, domK, addK_new hno, mputV_new _ _ hno, hvs', cstC]⟩ fun m s hsB LB hLB => ?_
    obtain ⟨hmm, h30, h28, h29, h14, h12, h13, h3, h6, h5, h4, h1, b0⟩ := hsB
    repeat (first | simp [h30, h28, h29, h14, h12, h13, h3, h6, h5, h4, h1, b0, hlt] | with_reducible refine And.intro (by omega) ?_ | with_reducible refine optK_if (by omega) ?_ | with_reducible refine optD_if (by omega) ?_ | simp (disch := omega) only [wrap_i64, if_pos, if_neg] | with_reducible refine gsel_pure (by with_unfolding_all rfl) _ (fun hg => by (try simp at hg); simp [hg, h30, h28, h29, h14, h12, h13, h3, h6, h5, h4, h1, b0, hlt]; rfl) ?_ | with_reducible refine dsel_pure (by with_unfolding_all rfl) _ (fun hg => by (try simp at hg); simp [hg, h30, h28, h29, h14, h12, h13, h3, h6, h5, h4, h1, b0, hlt]; rfl) ?_ | with_reducible refine awp_draw (by kernel_rfl) (by decide +kernel) ?_)
    (with_reducible refine condK_intro (fun hlm => ?_) (fun hlm => ?_)) <;> (try simp only [hlm]) <;> (try simp [andB, orB, eqI, ltI, Int.natCast_inj] at hlm)
    · by_cases hc : m ∈ visitL l (-1) ∧ m ∉ visitL l k
      · have hg1 := mgetC_in (mem_natI.2 hc.1)
        have hg2 := mget_out (cstC (natI (visitL l k))) (fun h => hc.2 (mem_natI.1 h))
        have hak := domK_addK hc.1 hc.2
        repeat (first | simp [h30, h28, h29, h14, h12, h13, h3, h6, h5, h4, h1, b0, hlt, hlm, hg1, hg2, hap, cstC_map, hak] | with_reducible refine And.intro (by omega) ?_ | with_reducible refine optK_if (by omega) ?_ | with_reducible refine optD_if (by omega) ?_ | simp (disch := omega) only [wrap_i64, if_pos, if_neg] | with_reducible refine gsel_pure (by with_unfolding_all rfl) _ (fun hg => by (try simp at hg); simp [hg, h30, h28, h29, h14, h12, h13, h3, h6, h5, h4, h1, b0, hlt, hlm, hg1, hg2, hap, cstC_map, hak]; rfl) ?_ | with_reducible refine dsel_pure (by with_unfolding_all rfl) _ (fun hg => by (try simp at hg); simp [hg, h30, h28, h29, h14, h12, h13, h3, h6, h5, h4, h1, b0, hlt, hlm, hg1, hg2, hap, cstC_map, hak]; rfl) ?_ | with_reducible refine awp_draw (by kernel_rfl) (by decide +kernel) ?_)
        refine hLB (m + 1) _ ⟨by first | omega | assumption | (simp [hak]; done) | (simp [hak]; omega), by simp [h30, h28, h29, h14, h12, h13, h3, h6, h5, h4, h1, b0, hlt, hlm, hak], by simp [h30, h28, h29, h14, h12, h13, h3, h6, h5, h4, h1, b0, hlt, hlm, hak], by simp [h30, h28, h29, h14, h12, h13, h3, h6, h5, h4, h1, b0, hlt, hlm, hak], by simp [h30, h28, h29, h14, h12, h13, h3, h6, h5, h4, h1, b0, hlt, hlm, hak], by simp [h30, h28, h29, h14, h12, h13, h3, h6, h5, h4, h1, b0, hlt, hlm, hak], by simp [h30, h28, h29, h14, h12, h13, h3, h6, h5, h4, h1, b0, hlt, hlm, hak], by simp [h30, h28, h29, h14, h12, h13, h3, h6, h5, h4, h1, b0, hlt, hlm, hak], by simp [h30, h28, h29, h14, h12, h13, h3, h6, h5, h4, h1, b0, hlt, hlm, hak], by simp [h30, h28, h29, h14, h12, h13, h3, h6, h5, h4, h1, b0, hlt, hlm, hak], by simp [h30, h28, h29, h14, h12, h13, h3, h6, h5, h4, h1, b0, hlt, hlm, hak], by simp [h30, h28, h29, h14, h12, h13, h3, h6, h5, h4, h1, b0, hlt, hlm, hak], by simp [h30, h28, h29, h14, h12, h13, h3, h6, h5, h4, h1, b0, hlt, hlm, hak]⟩ (by first | omega | (simp; omega))
      · have hdo := domK_out hc
        by_cases h1m : m ∈ visitL l (-1)
        · have h2m : m ∈ visitL l k := Classical.byContradiction fun h => hc ⟨h1m, h⟩
          have hg1 := mgetC_in (mem_natI.2 h1m)
          have hg2 := mgetC_in (mem_natI.2 h2m)
          repeat (first | simp [h30, h28, h29, h14, h12, h13, h3, h6, h5, h4, h1, b0, hlt, hlm, hg1, hg2] | with_reducible refine And.intro (by omega) ?_ | with_reducible refine optK_if (by omega) ?_ | with_reducible refine optD_if (by omega) ?_ | simp (disch := omega) only [wrap_i64, if_pos, if_neg] | with_reducible refine gsel_pure (by with_unfolding_all rfl) _ (fun hg => by (try simp at hg); simp [hg, h30, h28, h29, h14, h12, h13, h3, h6, h5, h4, h1, b0, hlt, hlm, hg1, hg2]; rfl) ?_ | with_reducible refine dsel_pure (by with_unfolding_all rfl) _ (fun hg => by (try simp at hg); simp [hg, h30, h28, h29, h14, h12, h13, h3, h6, h5, h4, h1, b0, hlt, hlm, hg1, hg2]; rfl) ?_ | with_reducible refine awp_draw (by kernel_rfl) (by decide +kernel) ?_)
          refine hLB (m + 1) _ ⟨by first | omega | assumption | (simp [hdo]; done) | (simp [hdo]; omega), by simp [h30, h28, h29, h14, h12, h13, h3, h6, h5, h4, h1, b0, hlt, hlm, hdo], by simp [h30, h28, h29, h14, h12, h13, h3, h6, h5, h4, h1, b0, hlt, hlm, hdo], by simp [h30, h28, h29, h14, h12, h13, h3, h6, h5, h4, h1, b0, hlt, hlm, hdo], by simp [h30, h28, h29, h14, h12, h13, h3, h6, h5, h4, h1, b0, hlt, hlm, hdo], by simp [h30, h28, h29, h14, h12, h13, h3, h6, h5, h4, h1, b0, hlt, hlm, hdo], by simp [h30, h28, h29, h14, h12, h13, h3, h6, h5, h4, h1, b0, hlt, hlm, hdo], by simp [h30, h28, h29, h14, h12, h13, h3, h6, h5, h4, h1, b0, hlt, hlm, hdo], by simp [h30, h28, h29, h14, h12, h13, h3, h6, h5, h4, h1, b0, hlt, hlm, hdo], by simp [h30, h28, h29, h14, h12, h13, h3, h6, h5, h4, h1, b0, hlt, hlm, hdo], by simp [h30, h28, h29, h14, h12, h13, h3, h6, h5, h4, h1, b0, hlt, hlm, hdo], by simp [h30, h28, h29, h14, h12, h13, h3, h6, h5, h4, h1, b0, hlt, hlm, hdo], by simp [h30, h28, h29, h14, h12, h13, h3, h6, h5, h4, h1, b0, hlt, hlm, hdo]⟩ (by first | omega | (simp; omega))
        · have hg1 := mget_out (cstC (natI (visitL l (-1)))) (fun h => h1m (mem_natI.1 h))
          repeat (first | simp [h30, h28, h29, h14, h12, h13, h3, h6, h5, h4, h1, b0, hlt, hlm, hg1] | with_reducible refine And.intro (by omega) ?_ | with_reducible refine optK_if (by omega) ?_ | with_reducible refine optD_if (by omega) ?_ | simp (disch := omega) only [wrap_i64, if_pos, if_neg] | with_reducible refine gsel_pure (by with_unfolding_all rfl) _ (fun hg => by (try simp at hg); simp [hg, h30, h28, h29, h14, h12, h13, h3, h6, h5, h4, h1, b0, hlt, hlm, hg1]; rfl) ?_ | with_reducible refine dsel_pure (by with_unfolding_all rfl) _ (fun hg => by (try simp at hg); simp [hg, h30, h28, h29, h14, h12, h13, h3, h6, h5, h4, h1, b0, hlt, hlm, hg1]; rfl) ?_ | with_reducible refine awp_draw (by kernel_rfl) (by decide +kernel) ?_)
          refine hLB (m + 1) _ ⟨by first | omega | assumption | (simp [hdo]; done) | (simp [hdo]; omega), by simp [h30, h28, h29, h14, h12, h13, h3, h6, h5, h4, h1, b0, hlt, hlm, hdo], by simp [h30, h28, h29, h14, h12, h13, h3, h6, h5, h4, h1, b0, hlt, hlm, hdo], by simp [h30, h28, h29, h14, h12, h13, h3, h6, h5, h4, h1, b0, hlt, hlm, hdo], by simp [h30, h28, h29, h14, h12, h13, h3, h6, h5, h4, h1, b0, hlt, hlm, hdo], by simp [h30, h28, h29, h14, h12, h13, h3, h6, h5, h4, h1, b0, hlt, hlm, hdo], by simp [h30, h28, h29, h14, h12, h13, h3, h6, h5, h4, h1, b0, hlt, hlm, hdo], by simp [h30, h28, h29, h14, h12, h13, h3, h6, h5, h4, h1, b0, hlt, hlm, hdo], by simp [h30, h28, h29, h14, h12, h13, h3, h6, h5, h4, h1, b0, hlt, hlm, hdo], by simp [h30, h28, h29, h14, h12, h13, h3, h6, h5, h4, h1, b0, hlt, hlm, hdo], by simp [h30, h28, h29, h14, h12, h13, h3, h6, h5, h4, h1, b0, hlt, hlm, hdo], by simp [h30, h28, h29, h14, h12, h13, h3, h6, h5, h4, h1, b0, hlt, hlm, hdo], by simp [h30, h28, h29, h14, h12, h13, h3, h6, h5, h4, h1, b0, hlt, hlm, hdo]⟩ (by first | omega | (simp; omega))
    · have : m = l.length := by omega
      subst this
      have hD := domD_in hm
      have hV : domV l (k + 1) = domV l k ++ [domC l k] := by simp [domV, hD]
      repeat (first | simp [h30, h28, h29, h14, h12, h13, h3, h6, h5, h4, h1, b0, hlt, hlm] | with_reducible refine And.intro (by omega) ?_ | with_reducible refine optK_if (by omega) ?_ | with_reducible refine optD_if (by omega) ?_ | simp (disch := omega) only [wrap_i64, if_pos, if_neg] | with_reducible refine gsel_pure (by with_unfolding_all rfl) _ (fun hg => by (try simp at hg); simp [hg, h30, h28, h29, h14, h12, h13, h3, h6, h5, h4, h1, b0, hlt, hlm]; rfl) ?_ | with_reducible refine dsel_pure (by with_unfolding_all rfl) _ (fun hg => by (try simp at hg); simp [hg, h30, h28, h29, h14, h12, h13, h3, h6, h5, h4, h1, b0, hlt, hlm]; rfl) ?_ | with_reducible refine awp_draw (by kernel_rfl) (by decide +kernel) ?_)
      refine hLA ((k + 1, (domV l k).map .v ++ [.inner 524416 (natI (domK l k l.length)) (cstC (natI (domK l k l.length)))])) _ ⟨by first | omega | assumption | (simp [hD, natI_append]; done) | (simp [hD, natI_append]; omega), by rw [hV]; exact LastIn.snoc _ _ _ _, by simp [h30, h28, h29, h14, h12, h13, h3, h6, h5, h4, h1, b0, hlt, hlm, hD, natI_append], by simp [h30, h28, h29, h14, h12, h13, h3, h6, h5, h4, h1, b0, hlt, hlm, hD, natI_append], by simp [h30, h28, h29, h14, h12, h13, h3, h6, h5, h4, h1, b0, hlt, hlm, hD, natI_append], by simp [h30, h28, h29, h14, h12, h13, h3, h6, h5, h4, h1, b0, hlt, hlm, hD, natI_append], by simp [h30, h28, h29, h14, h12, h13, h3, h6, h5, h4, h1, b0, hlt, hlm, hD, natI_append], by simp [h30, h28, h29, h14, h12, h13, h3, h6, h5, h4, h1, b0, hlt, hlm, hD, natI_append], by simp [h30, h28, h29, h14, h12, h13, h3, h6, h5, h4, h1, b0, hlt, hlm, hD, natI_append]⟩ (by first | omega | (simp; omega))
  · have : k = l.length := by omega
    subst this
    repeat (first | simp [h14, h12, h13, h3, h4, h1, b0, hlt] | with_reducible refine And.intro (by omega) ?_ | with_reducible refine optK_if (by omega) ?_ | with_reducible refine optD_if (by omega) ?_ | simp (disch := omega) only [wrap_i64, if_pos, if_neg] | with_reducible refine gsel_pure (by with_unfolding_all rfl) _ (fun hg => by (try simp at hg); simp [hg, h14, h12, h13, h3, h4, h1, b0, hlt]; rfl) ?_ | with_reducible refine dsel_pure (by with_unfolding_all rfl) _ (fun hg => by (try simp at hg); simp [hg, h14, h12, h13, h3, h4, h1, b0, hlt]; rfl) ?_ | with_reducible refine awp_draw (by kernel_rfl) (by decide +kernel) ?_)
    refine hQ _ _ (ret2 (by simp [retAV, resAV]; rfl) (by simp; rfl) ?_)
    rw [relab_mown (hvs _ (fun _ => rfl) (fun _ _ => rfl))]
abbrev domA (l : List I8) : AV := .cell (.p (.mp (natI (domD l l.length)) (domV l l.length)))
set_option maxHeartbeats 1000000 in
theorem at_dominators (name : ByteArray) (l : List I8) : At Tryd.prog 20 [fAV name l] (.tup [if funcE l = 0 then .cell (.own 0 1 l.length (intsC (idomL (domB l) l.length l.length))) else .cell .z, iV .i64 (funcE l)]) := by
  by_cases hf : funcE l = 0
  rotate_left
  · have e1 : eqI (funcE l) 0 = false := by simp [eqI, hf]
    refine at_code mixed Tryd.func20 (by kernel_rfl) rfl (by kernel_rfl) (by kernel_rfl) rfl fun Q hQ => ?_
    repeat (first | simp | with_reducible refine And.intro (by omega) ?_ | with_reducible refine optK_if (by omega) ?_ | with_reducible refine optD_if (by omega) ?_ | simp (disch := omega) only [wrap_i64, if_pos, if_neg] | with_reducible refine gsel_pure (by with_unfolding_all rfl) _ (fun hg => by (try simp at hg); simp [hg]; rfl) ?_ | with_reducible refine dsel_pure (by with_unfolding_all rfl) _ (fun hg => by (try simp at hg); simp [hg]; rfl) ?_ | with_reducible refine awp_draw (by kernel_rfl) (by decide +kernel) ?_)
    refine gop_call (at_cfgCheck name l) (by (first | simp [wrap_i64] | simp (disch := omega) [wrap_i64]); try rfl) (by simp) (by simp) ?_
    repeat (first | simp [e1] | with_reducible refine And.intro (by omega) ?_ | with_reducible refine optK_if (by omega) ?_ | with_reducible refine optD_if (by omega) ?_ | simp (disch := omega) only [wrap_i64, if_pos, if_neg] | with_reducible refine gsel_pure (by with_unfolding_all rfl) _ (fun hg => by (try simp at hg); simp [hg, e1]; rfl) ?_ | with_reducible refine dsel_pure (by with_unfolding_all rfl) _ (fun hg => by (try simp at hg); simp [hg, e1]; rfl) ?_ | with_reducible refine awp_draw (by kernel_rfl) (by decide +kernel) ?_)
    refine hQ _ _ (ret2 (by simp [retAV, resAV]; rfl) (by simp; rfl) ?_)
    simp [hf]
  have ok := okL hf
  have hlen := ok.len
  refine at_code mixed Tryd.func20 (by kernel_rfl) rfl (by kernel_rfl) (by kernel_rfl) rfl fun Q hQ => ?_
  repeat (first | simp | with_reducible refine And.intro (by omega) ?_ | with_reducible refine optK_if (by omega) ?_ | with_reducible refine optD_if (by omega) ?_ | simp (disch := omega) only [wrap_i64, if_pos, if_neg] | with_reducible refine gsel_pure (by with_unfolding_all rfl) _ (fun hg => by (try simp at hg); simp [hg]; rfl) ?_ | with_reducible refine dsel_pure (by with_unfolding_all rfl) _ (fun hg => by (try simp at hg); simp [hg]; rfl) ?_ | with_reducible refine awp_draw (by kernel_rfl) (by decide +kernel) ?_)
  refine gop_call (at_cfgCheck name l) (by (first | simp [wrap_i64] | simp (disch := omega) [wrap_i64]); try rfl) (by simp) (by simp) ?_
  repeat (first | simp [hf] | with_reducible refine And.intro (by omega) ?_ | with_reducible refine optK_if (by omega) ?_ | with_reducible refine optD_if (by omega) ?_ | simp (disch := omega) only [wrap_i64, if_pos, if_neg] | with_reducible refine gsel_pure (by with_unfolding_all rfl) _ (fun hg => by (try simp at hg); simp [hg, hf]; rfl) ?_ | with_reducible refine dsel_pure (by with_unfolding_all rfl) _ (fun hg => by (try simp at hg); simp [hg, hf]; rfl) ?_ | with_reducible refine awp_draw (by kernel_rfl) (by decide +kernel) ?_)
  refine gop_call' (at_dominated name l ok) (by (first | simp [wrap_i64] | simp (disch := omega) [wrap_i64]); try rfl) (by simp) (by simp) ?_
  repeat (first | simp | with_reducible refine And.intro (by omega) ?_ | with_reducible refine optK_if (by omega) ?_ | with_reducible refine optD_if (by omega) ?_ | simp (disch := omega) only [wrap_i64, if_pos, if_neg] | with_reducible refine gsel_pure (by with_unfolding_all rfl) _ (fun hg => by (try simp at hg); simp [hg]; rfl) ?_ | with_reducible refine dsel_pure (by with_unfolding_all rfl) _ (fun hg => by (try simp at hg); simp [hg]; rfl) ?_ | with_reducible refine awp_draw (by kernel_rfl) (by decide +kernel) ?_)
  refine awp_loopV (fun (k : Nat) (s : St) => (k ≤ l.length) ∧ s.env 22 = iV .i64 k ∧ s.env 21 = iV .i64 l.length ∧ s.env 6 = .cell (.own 327872 1 l.length (intsC (idomL (domB l) l.length k))) ∧ s.env 5 = domA l ∧ s.env 1 = .cell (.ptr 0 0) ∧ s.box 0 = some (fP name l)) (fun (k : Nat) => l.length - k) (0) ⟨by first | omega | assumption | (simp [repC_ints, idomL]; done) | (simp [repC_ints, idomL]; omega), by simp [repC_ints, idomL], by simp [repC_ints, idomL], by simp [repC_ints, idomL], by simp [repC_ints, idomL], by simp [repC_ints, idomL], by simp [repC_ints, idomL]⟩ fun k s hsA LA hLA => ?_
  obtain ⟨hk, h22, h21, h6, h5, h1, b0⟩ := hsA
  repeat (first | simp [h22, h21, h6, h5, h1, b0] | with_reducible refine And.intro (by omega) ?_ | with_reducible refine optK_if (by omega) ?_ | with_reducible refine optD_if (by omega) ?_ | simp (disch := omega) only [wrap_i64, if_pos, if_neg] | with_reducible refine gsel_pure (by with_unfolding_all rfl) _ (fun hg => by (try simp at hg); simp [hg, h22, h21, h6, h5, h1, b0]; rfl) ?_ | with_reducible refine dsel_pure (by with_unfolding_all rfl) _ (fun hg => by (try simp at hg); simp [hg, h22, h21, h6, h5, h1, b0]; rfl) ?_ | with_reducible refine awp_draw (by kernel_rfl) (by decide +kernel) ?_)
  (with_reducible refine condK_intro (fun hlt => ?_) (fun hlt => ?_)) <;> (try simp only [hlt]) <;> (try simp [andB, orB, eqI, ltI, Int.natCast_inj] at hlt)
  · have hil := idomL_length (dom := domB l) (Nat.le_of_lt hlt)
    repeat (first | simp [h22, h21, h6, h5, h1, b0, hlt, hil] | with_reducible refine And.intro (by omega) ?_ | with_reducible refine optK_if (by omega) ?_ | with_reducible refine optD_if (by omega) ?_ | simp (disch := omega) only [wrap_i64, if_pos, if_neg] | with_reducible refine gsel_pure (by with_unfolding_all rfl) _ (fun hg => by (try simp at hg); simp [hg, h22, h21, h6, h5, h1, b0, hlt, hil]; rfl) ?_ | with_reducible refine dsel_pure (by with_unfolding_all rfl) _ (fun hg => by (try simp at hg); simp [hg, h22, h21, h6, h5, h1, b0, hlt, hil]; rfl) ?_ | with_reducible refine awp_draw (by kernel_rfl) (by decide +kernel) ?_)
    refine awp_loopV (fun (m : Nat) (s : St) => (m ≤ l.length) ∧ s.env 31 = iV .i64 m ∧ s.env 30 = iV .i64 l.length ∧ s.env 7 = iV .i64 k ∧ s.env 22 = iV .i64 k ∧ s.env 21 = iV .i64 l.length ∧ s.env 6 = .cell (.own 327872 1 l.length (intsC ((idomL (domB l) l.length k).set k (idomF (domB l) k m)))) ∧ s.env 5 = domA l ∧ s.env 1 = .cell (.ptr 0 0) ∧ s.box 0 = some (fP name l)) (fun (m : Nat) => l.length - m) (0) ⟨by first | omega | assumption | (simp [intsC_set, idomF]; done) | (simp [intsC_set, idomF]; omega), by simp [h22, h21, h6, h5, h1, b0, hlt, intsC_set, idomF], by simp [h22, h21, h6, h5, h1, b0, hlt, intsC_set, idomF], by simp [h22, h21, h6, h5, h1, b0, hlt, intsC_set, idomF], by simp [h22, h21, h6, h5, h1, b0, hlt, intsC_set, idomF], by simp [h22, h21, h6, h5, h1, b0, hlt, intsC_set, idomF], by simp [h22, h21, h6, h5, h1, b0, hlt, intsC_set, idomF], by simp [h22, h21, h6, h5, h1, b0, hlt, intsC_set, idomF], by simp [h22, h21, h6, h5, h1, b0, hlt, intsC_set, idomF], by simp [h22, h21, h6, h5, h1, b0, hlt, intsC_set, idomF]⟩ fun m s hsB LB hLB => ?_
    obtain ⟨hm, h31, h30, h7, h22, h21, h6, h5, h1, b0⟩ := hsB
    repeat (first | simp [h31, h30, h7, h22, h21, h6, h5, h1, b0, hlt] | with_reducible refine And.intro (by omega) ?_ | with_reducible refine optK_if (by omega) ?_ | with_reducible refine optD_if (by omega) ?_ | simp (disch := omega) only [wrap_i64, if_pos, if_neg] | with_reducible refine gsel_pure (by with_unfolding_all rfl) _ (fun hg => by (try simp at hg); simp [hg, h31, h30, h7, h22, h21, h6, h5, h1, b0, hlt]; rfl) ?_ | with_reducible refine dsel_pure (by with_unfolding_all rfl) _ (fun hg => by (try simp at hg); simp [hg, h31, h30, h7, h22, h21, h6, h5, h1, b0, hlt]; rfl) ?_ | with_reducible refine awp_draw (by kernel_rfl) (by decide +kernel) ?_)
    (with_reducible refine condK_intro (fun hlm => ?_) (fun hlm => ?_)) <;> (try simp only [hlm]) <;> (try simp [andB, orB, eqI, ltI, Int.natCast_inj] at hlm)
    · have hstep : idomF (domB l) k (m + 1) = domStep (domB l) k (idomF (domB l) k m) m := rfl
      have hbl := idomF_lt (dom := domB l) (i := k) m
      generalize hb : idomF (domB l) k m = b at *
      have hkk : ((idomL (domB l) l.length k).set k b)[k]? = some b := by rw [List.getElem?_set_self (by rw [hil]; exact hlt)]
      by_cases hmk : m = k
      · have e : eqI (m : Int) k = true := by simp [eqI, hmk]
        have hs : domStep (domB l) k b m = b := by unfold domStep; rw [if_neg (by simp [hmk])]
        rw [hs] at hstep
        repeat (first | simp [h31, h30, h7, h22, h21, h6, h5, h1, b0, hlt, hlm, e] | with_reducible refine And.intro (by omega) ?_ | with_reducible refine optK_if (by omega) ?_ | with_reducible refine optD_if (by omega) ?_ | simp (disch := omega) only [wrap_i64, if_pos, if_neg] | with_reducible refine gsel_pure (by with_unfolding_all rfl) _ (fun hg => by (try simp at hg); simp [hg, h31, h30, h7, h22, h21, h6, h5, h1, b0, hlt, hlm, e]; rfl) ?_ | with_reducible refine dsel_pure (by with_unfolding_all rfl) _ (fun hg => by (try simp at hg); simp [hg, h31, h30, h7, h22, h21, h6, h5, h1, b0, hlt, hlm, e]; rfl) ?_ | with_reducible refine awp_draw (by kernel_rfl) (by decide +kernel) ?_)
        refine hLB (m + 1) _ ⟨by first | omega | assumption | (simp [hstep]; done) | (simp [hstep]; omega), by simp [h31, h30, h7, h22, h21, h6, h5, h1, b0, hlt, hlm, hstep], by simp [h31, h30, h7, h22, h21, h6, h5, h1, b0, hlt, hlm, hstep], by simp [h31, h30, h7, h22, h21, h6, h5, h1, b0, hlt, hlm, hstep], by simp [h31, h30, h7, h22, h21, h6, h5, h1, b0, hlt, hlm, hstep], by simp [h31, h30, h7, h22, h21, h6, h5, h1, b0, hlt, hlm, hstep], by simp [h31, h30, h7, h22, h21, h6, h5, h1, b0, hlt, hlm, hstep], by simp [h31, h30, h7, h22, h21, h6, h5, h1, b0, hlt, hlm, hstep], by simp [h31, h30, h7, h22, h21, h6, h5, h1, b0, hlt, hlm, hstep], by simp [h31, h30, h7, h22, h21, h6, h5, h1, b0, hlt, hlm, hstep]⟩ (by first | omega | (simp; omega))
      have e : eqI (m : Int) k = false := by simp [eqI]; omega
      by_cases hD : m ∈ domD l l.length
      rotate_left
      · have hg := mget_out (domV l l.length) (fun h => hD (mem_natI.1 h))
        have hs : domStep (domB l) k b m = b := by unfold domStep; rw [domB_nat, if_neg (by simp [hD])]
        rw [hs] at hstep
        repeat (first | simp [h31, h30, h7, h22, h21, h6, h5, h1, b0, hlt, hlm, e, hg] | with_reducible refine And.intro (by omega) ?_ | with_reducible refine optK_if (by omega) ?_ | with_reducible refine optD_if (by omega) ?_ | simp (disch := omega) only [wrap_i64, if_pos, if_neg] | with_reducible refine gsel_pure (by with_unfolding_all rfl) _ (fun hg => by (try simp at hg); simp [hg, h31, h30, h7, h22, h21, h6, h5, h1, b0, hlt, hlm, e, hg]; rfl) ?_ | with_reducible refine dsel_pure (by with_unfolding_all rfl) _ (fun hg => by (try simp at hg); simp [hg, h31, h30, h7, h22, h21, h6, h5, h1, b0, hlt, hlm, e, hg]; rfl) ?_ | with_reducible refine awp_draw (by kernel_rfl) (by decide +kernel) ?_)
        refine hLB (m + 1) _ ⟨by first | omega | assumption | (simp [hstep]; done) | (simp [hstep]; omega), by simp [h31, h30, h7, h22, h21, h6, h5, h1, b0, hlt, hlm, hstep], by simp [h31, h30, h7, h22, h21, h6, h5, h1, b0, hlt, hlm, hstep], by simp [h31, h30, h7, h22, h21, h6, h5, h1, b0, hlt, hlm, hstep], by simp [h31, h30, h7, h22, h21, h6, h5, h1, b0, hlt, hlm, hstep], by simp [h31, h30, h7, h22, h21, h6, h5, h1, b0, hlt, hlm, hstep], by simp [h31, h30, h7, h22, h21, h6, h5, h1, b0, hlt, hlm, hstep], by simp [h31, h30, h7, h22, h21, h6, h5, h1, b0, hlt, hlm, hstep], by simp [h31, h30, h7, h22, h21, h6, h5, h1, b0, hlt, hlm, hstep], by simp [h31, h30, h7, h22, h21, h6, h5, h1, b0, hlt, hlm, hstep]⟩ (by first | omega | (simp; omega))
      have hg : mget (natI (domD l l.length)) (domV l l.length) m = some (domC l m) := mget_map (domC l) hD
      by_cases hK : k ∈ domK l m l.length
      rotate_left
      · have hg2 := mget_out (cstC (natI (domK l m l.length))) (fun h => hK (mem_natI.1 h))
        have hs : domStep (domB l) k b m = b := by unfold domStep; rw [domB_nat, if_neg (by simp [hK])]
        rw [hs] at hstep
        repeat (first | simp [h31, h30, h7, h22, h21, h6, h5, h1, b0, hlt, hlm, e, hg, hg2, domC] | with_reducible refine And.intro (by omega) ?_ | with_reducible refine optK_if (by omega) ?_ | with_reducible refine optD_if (by omega) ?_ | simp (disch := omega) only [wrap_i64, if_pos, if_neg] | with_reducible refine gsel_pure (by with_unfolding_all rfl) _ (fun hg => by (try simp at hg); simp [hg, h31, h30, h7, h22, h21, h6, h5, h1, b0, hlt, hlm, e, hg, hg2, domC]; rfl) ?_ | with_reducible refine dsel_pure (by with_unfolding_all rfl) _ (fun hg => by (try simp at hg); simp [hg, h31, h30, h7, h22, h21, h6, h5, h1, b0, hlt, hlm, e, hg, hg2, domC]; rfl) ?_ | with_reducible refine awp_draw (by kernel_rfl) (by decide +kernel) ?_)
        refine hLB (m + 1) _ ⟨by first | omega | assumption | (simp [hstep]; done) | (simp [hstep]; omega), by simp [h31, h30, h7, h22, h21, h6, h5, h1, b0, hlt, hlm, hstep], by simp [h31, h30, h7, h22, h21, h6, h5, h1, b0, hlt, hlm, hstep], by simp [h31, h30, h7, h22, h21, h6, h5, h1, b0, hlt, hlm, hstep], by simp [h31, h30, h7, h22, h21, h6, h5, h1, b0, hlt, hlm, hstep], by simp [h31, h30, h7, h22, h21, h6, h5, h1, b0, hlt, hlm, hstep], by simp [h31, h30, h7, h22, h21, h6, h5, h1, b0, hlt, hlm, hstep], by simp [h31, h30, h7, h22, h21, h6, h5, h1, b0, hlt, hlm, hstep], by simp [h31, h30, h7, h22, h21, h6, h5, h1, b0, hlt, hlm, hstep], by simp [h31, h30, h7, h22, h21, h6, h5, h1, b0, hlt, hlm, hstep]⟩ (by first | omega | (simp; omega))
      have hg2 := mgetC_in (mem_natI.2 hK)
      have hdb : domB l m k = true := by rw [domB_nat]; simp [hD, hK]
      by_cases hb0 : b < 0
      · have e0 : ltI b 0 = true := by simp [ltI, hb0]
        have hs : domStep (domB l) k b m = m := by unfold domStep; rw [if_pos ⟨by omega, hdb, .inl hb0⟩]
        rw [hs] at hstep
        repeat (first | simp [h31, h30, h7, h22, h21, h6, h5, h1, b0, hlt, hlm, e, hg, hg2, domC, hil, hkk, e0] | with_reducible refine And.intro (by omega) ?_ | with_reducible refine optK_if (by omega) ?_ | with_reducible refine optD_if (by omega) ?_ | simp (disch := omega) only [wrap_i64, if_pos, if_neg] | with_reducible refine gsel_pure (by with_unfolding_all rfl) _ (fun hg => by (try simp at hg); simp [hg, h31, h30, h7, h22, h21, h6, h5, h1, b0, hlt, hlm, e, hg, hg2, domC, hil, hkk, e0]; rfl) ?_ | with_reducible refine dsel_pure (by with_unfolding_all rfl) _ (fun hg => by (try simp at hg); simp [hg, h31, h30, h7, h22, h21, h6, h5, h1, b0, hlt, hlm, e, hg, hg2, domC, hil, hkk, e0]; rfl) ?_ | with_reducible refine awp_draw (by kernel_rfl) (by decide +kernel) ?_)
        refine hLB (m + 1) _ ⟨by first | omega | assumption | (simp [hstep, intsC_set]; done) | (simp [hstep, intsC_set]; omega), by simp [h31, h30, h7, h22, h21, h6, h5, h1, b0, hlt, hlm, hstep, intsC_set], by simp [h31, h30, h7, h22, h21, h6, h5, h1, b0, hlt, hlm, hstep, intsC_set], by simp [h31, h30, h7, h22, h21, h6, h5, h1, b0, hlt, hlm, hstep, intsC_set], by simp [h31, h30, h7, h22, h21, h6, h5, h1, b0, hlt, hlm, hstep, intsC_set], by simp [h31, h30, h7, h22, h21, h6, h5, h1, b0, hlt, hlm, hstep, intsC_set], by simp [h31, h30, h7, h22, h21, h6, h5, h1, b0, hlt, hlm, hstep, intsC_set], by simp [h31, h30, h7, h22, h21, h6, h5, h1, b0, hlt, hlm, hstep, intsC_set], by simp [h31, h30, h7, h22, h21, h6, h5, h1, b0, hlt, hlm, hstep, intsC_set], by simp [h31, h30, h7, h22, h21, h6, h5, h1, b0, hlt, hlm, hstep, intsC_set]⟩ (by first | omega | (simp; omega))
      obtain ⟨c, rfl⟩ : ∃ c : Nat, b = c := ⟨b.toNat, by omega⟩
      have e0 : ltI (c : Int) 0 = false := by simp [ltI]
      by_cases hD2 : c ∈ domD l l.length
      rotate_left
      · have hg3 := mget_out (domV l l.length) (fun h => hD2 (mem_natI.1 h))
        have hs : domStep (domB l) k c m = c := by unfold domStep; rw [domB_nat, domB_nat, if_neg (by simp [hD2])]
        rw [hs] at hstep
        repeat (first | simp [h31, h30, h7, h22, h21, h6, h5, h1, b0, hlt, hlm, e, hg, hg2, domC, hil, hkk, e0, hg3] | with_reducible refine And.intro (by omega) ?_ | with_reducible refine optK_if (by omega) ?_ | with_reducible refine optD_if (by omega) ?_ | simp (disch := omega) only [wrap_i64, if_pos, if_neg] | with_reducible refine gsel_pure (by with_unfolding_all rfl) _ (fun hg => by (try simp at hg); simp [hg, h31, h30, h7, h22, h21, h6, h5, h1, b0, hlt, hlm, e, hg, hg2, domC, hil, hkk, e0, hg3]; rfl) ?_ | with_reducible refine dsel_pure (by with_unfolding_all rfl) _ (fun hg => by (try simp at hg); simp [hg, h31, h30, h7, h22, h21, h6, h5, h1, b0, hlt, hlm, e, hg, hg2, domC, hil, hkk, e0, hg3]; rfl) ?_ | with_reducible refine awp_draw (by kernel_rfl) (by decide +kernel) ?_)
        refine hLB (m + 1) _ ⟨by first | omega | assumption | (simp [hstep]; done) | (simp [hstep]; omega), by simp [h31, h30, h7, h22, h21, h6, h5, h1, b0, hlt, hlm, hstep], by simp [h31, h30, h7, h22, h21, h6, h5, h1, b0, hlt, hlm, hstep], by simp [h31, h30, h7, h22, h21, h6, h5, h1, b0, hlt, hlm, hstep], by simp [h31, h30, h7, h22, h21, h6, h5, h1, b0, hlt, hlm, hstep], by simp [h31, h30, h7, h22, h21, h6, h5, h1, b0, hlt, hlm, hstep], by simp [h31, h30, h7, h22, h21, h6, h5, h1, b0, hlt, hlm, hstep], by simp [h31, h30, h7, h22, h21, h6, h5, h1, b0, hlt, hlm, hstep], by simp [h31, h30, h7, h22, h21, h6, h5, h1, b0, hlt, hlm, hstep], by simp [h31, h30, h7, h22, h21, h6, h5, h1, b0, hlt, hlm, hstep]⟩ (by first | omega | (simp; omega))
      have hg3 : mget (natI (domD l l.length)) (domV l l.length) c = some (domC l c) := mget_map (domC l) hD2
      by_cases hK2 : m ∈ domK l c l.length
      · have hg4 := mgetC_in (mem_natI.2 hK2)
        have hs : domStep (domB l) k c m = m := by unfold domStep; rw [if_pos ⟨by omega, hdb, .inr (by rw [domB_nat]; simp [hD2, hK2])⟩]
        rw [hs] at hstep
        repeat (first | simp [h31, h30, h7, h22, h21, h6, h5, h1, b0, hlt, hlm, e, hg, hg2, domC, hil, hkk, e0, hg3, hg4] | with_reducible refine And.intro (by omega) ?_ | with_reducible refine optK_if (by omega) ?_ | with_reducible refine optD_if (by omega) ?_ | simp (disch := omega) only [wrap_i64, if_pos, if_neg] | with_reducible refine gsel_pure (by with_unfolding_all rfl) _ (fun hg => by (try simp at hg); simp [hg, h31, h30, h7, h22, h21, h6, h5, h1, b0, hlt, hlm, e, hg, hg2, domC, hil, hkk, e0, hg3, hg4]; rfl) ?_ | with_reducible refine dsel_pure (by with_unfolding_all rfl) _ (fun hg => by (try simp at hg); simp [hg, h31, h30, h7, h22, h21, h6, h5, h1, b0, hlt, hlm, e, hg, hg2, domC, hil, hkk, e0, hg3, hg4]; rfl) ?_ | with_reducible refine awp_draw (by kernel_rfl) (by decide +kernel) ?_)
        refine hLB (m + 1) _ ⟨by first | omega | assumption | (simp [hstep, intsC_set]; done) | (simp [hstep, intsC_set]; omega), by simp [h31, h30, h7, h22, h21, h6, h5, h1, b0, hlt, hlm, hstep, intsC_set], by simp [h31, h30, h7, h22, h21, h6, h5, h1, b0, hlt, hlm, hstep, intsC_set], by simp [h31, h30, h7, h22, h21, h6, h5, h1, b0, hlt, hlm, hstep, intsC_set], by simp [h31, h30, h7, h22, h21, h6, h5, h1, b0, hlt, hlm, hstep, intsC_set], by simp [h31, h30, h7, h22, h21, h6, h5, h1, b0, hlt, hlm, hstep, intsC_set], by simp [h31, h30, h7, h22, h21, h6, h5, h1, b0, hlt, hlm, hstep, intsC_set], by simp [h31, h30, h7, h22, h21, h6, h5, h1, b0, hlt, hlm, hstep, intsC_set], by simp [h31, h30, h7, h22, h21, h6, h5, h1, b0, hlt, hlm, hstep, intsC_set], by simp [h31, h30, h7, h22, h21, h6, h5, h1, b0, hlt, hlm, hstep, intsC_set]⟩ (by first | omega | (simp; omega))
      · have hg4 := mget_out (cstC (natI (domK l c l.length))) (fun h => hK2 (mem_natI.1 h))
        have hs : domStep (domB l) k c m = c := by unfold domStep; rw [domB_nat, domB_nat, if_neg (by simp [hK2])]
        rw [hs] at hstep
        repeat (first | simp [h31, h30, h7, h22, h21, h6, h5, h1, b0, hlt, hlm, e, hg, hg2, domC, hil, hkk, e0, hg3, hg4] | with_reducible refine And.intro (by omega) ?_ | with_reducible refine optK_if (by omega) ?_ | with_reducible refine optD_if (by omega) ?_ | simp (disch := omega) only [wrap_i64, if_pos, if_neg] | with_reducible refine gsel_pure (by with_unfolding_all rfl) _ (fun hg => by (try simp at hg); simp [hg, h31, h30, h7, h22, h21, h6, h5, h1, b0, hlt, hlm, e, hg, hg2, domC, hil, hkk, e0, hg3, hg4]; rfl) ?_ | with_reducible refine dsel_pure (by with_unfolding_all rfl) _ (fun hg => by (try simp at hg); simp [hg, h31, h30, h7, h22, h21, h6, h5, h1, b0, hlt, hlm, e, hg, hg2, domC, hil, hkk, e0, hg3, hg4]; rfl) ?_ | with_reducible refine awp_draw (by kernel_rfl) (by decide +kernel) ?_)
        refine hLB (m + 1) _ ⟨by first | omega | assumption | (simp [hstep]; done) | (simp [hstep]; omega), by simp [h31, h30, h7, h22, h21, h6, h5, h1, b0, hlt, hlm, hstep], by simp [h31, h30, h7, h22, h21, h6, h5, h1, b0, hlt, hlm, hstep], by simp [h31, h30, h7, h22, h21, h6, h5, h1, b0, hlt, hlm, hstep], by simp [h31, h30, h7, h22, h21, h6, h5, h1, b0, hlt, hlm, hstep], by simp [h31, h30, h7, h22, h21, h6, h5, h1, b0, hlt, hlm, hstep], by simp [h31, h30, h7, h22, h21, h6, h5, h1, b0, hlt, hlm, hstep], by simp [h31, h30, h7, h22, h21, h6, h5, h1, b0, hlt, hlm, hstep], by simp [h31, h30, h7, h22, h21, h6, h5, h1, b0, hlt, hlm, hstep], by simp [h31, h30, h7, h22, h21, h6, h5, h1, b0, hlt, hlm, hstep]⟩ (by first | omega | (simp; omega))
    · have : m = l.length := by omega
      subst this
      repeat (first | simp [h31, h30, h7, h22, h21, h6, h5, h1, b0, hlt, hlm] | with_reducible refine And.intro (by omega) ?_ | with_reducible refine optK_if (by omega) ?_ | with_reducible refine optD_if (by omega) ?_ | simp (disch := omega) only [wrap_i64, if_pos, if_neg] | with_reducible refine gsel_pure (by with_unfolding_all rfl) _ (fun hg => by (try simp at hg); simp [hg, h31, h30, h7, h22, h21, h6, h5, h1, b0, hlt, hlm]; rfl) ?_ | with_reducible refine dsel_pure (by with_unfolding_all rfl) _ (fun hg => by (try simp at hg); simp [hg, h31, h30, h7, h22, h21, h6, h5, h1, b0, hlt, hlm]; rfl) ?_ | with_reducible refine awp_draw (by kernel_rfl) (by decide +kernel) ?_)
      refine hLA (k + 1) _ ⟨by first | omega | assumption | (simp [idomL_succ hlt]; done) | (simp [idomL_succ hlt]; omega), by simp [h31, h30, h7, h22, h21, h6, h5, h1, b0, hlt, hlm, idomL_succ hlt], by simp [h31, h30, h7, h22, h21, h6, h5, h1, b0, hlt, hlm, idomL_succ hlt], by simp [h31, h30, h7, h22, h21, h6, h5, h1, b0, hlt, hlm, idomL_succ hlt], by simp [h31, h30, h7, h22, h21, h6, h5, h1, b0, hlt, hlm, idomL_succ hlt], by simp [h31, h30, h7, h22, h21, h6, h5, h1, b0, hlt, hlm, idomL_succ hlt], by simp [h31, h30, h7, h22, h21, h6, h5, h1, b0, hlt, hlm, idomL_succ hlt]⟩ (by first | omega | (simp; omega))
  · have : k = l.length := by omega
    subst this
    repeat (first | simp [h22, h21, h6, h5, h1, b0, hlt] | with_reducible refine And.intro (by omega) ?_ | with_reducible refine optK_if (by omega) ?_ | with_reducible refine optD_if (by omega) ?_ | simp (disch := omega) only [wrap_i64, if_pos, if_neg] | with_reducible refine gsel_pure (by with_unfolding_all rfl) _ (fun hg => by (try simp at hg); simp [hg, h22, h21, h6, h5, h1, b0, hlt]; rfl) ?_ | with_reducible refine dsel_pure (by with_unfolding_all rfl) _ (fun hg => by (try simp at hg); simp [hg, h22, h21, h6, h5, h1, b0, hlt]; rfl) ?_ | with_reducible refine awp_draw (by kernel_rfl) (by decide +kernel) ?_)
    refine hQ _ _ (ret2 (by simp [retAV, resAV]; rfl) (by simp; rfl) ?_)
    simp [hf]
end Go.Proofs
end
section
set_option linter.all false
namespace Go.Proofs
open Go.Fw Go.Dr
set_option maxRecDepth 100000

set_option maxHeartbeats 2000000 in
theorem at_body (name : ByteArray) (l : List I8) (ok : OkL l) (h : Nat) (hh : h < l.length) (ends : List Nat) (hen : ends.length ≤ 1000000) (he : ∀ x ∈ ends, x < l.length) : At Tryd.prog 55 [fAV name l, iV .i64 h, intsA (natI ends)] (setA (bodyL l h ends)) := by
  have hlen := ok.len
  refine at_code mixed Tryd.func55 (by kernel_rfl) rfl (by kernel_rfl) (by kernel_rfl) rfl fun Q hQ => ?_
  repeat (first | simp | with_reducible refine And.intro (by omega) ?_ | with_reducible refine optK_if (by omega) ?_ | with_reducible refine optD_if (by omega) ?_ | simp (disch := omega) only [wrap_i64, if_pos, if_neg] | with_reducible refine gsel_pure (by with_unfolding_all rfl) _ (fun hg => by (try simp at hg); simp [hg]; rfl) ?_ | with_reducible refine dsel_pure (by with_unfolding_all rfl) _ (fun hg => by (try simp at hg); simp [hg]; rfl) ?_ | with_reducible refine awp_draw (by kernel_rfl) (by decide +kernel) ?_)
  refine gop_call' (at_visit name l ok (-1)) (by (first | simp [wrap_i64] | simp (disch := omega) [wrap_i64]); try rfl) (by simp) (by simp) ?_
  repeat (first | simp | with_reducible refine And.intro (by omega) ?_ | with_reducible refine optK_if (by omega) ?_ | with_reducible refine optD_if (by omega) ?_ | simp (disch := omega) only [wrap_i64, if_pos, if_neg] | with_reducible refine gsel_pure (by with_unfolding_all rfl) _ (fun hg => by (try simp at hg); simp [hg]; rfl) ?_ | with_reducible refine dsel_pure (by with_unfolding_all rfl) _ (fun hg => by (try simp at hg); simp [hg]; rfl) ?_ | with_reducible refine awp_draw (by kernel_rfl) (by decide +kernel) ?_)
  refine awp_loopV (fun (k : Nat) (s : St) => (k ≤ ends.length) ∧ s.env 21 = iV .i64 k ∧ s.env 20 = iV .i64 ends.length ∧ s.env 19 = intsA (natI ends) ∧ s.env 7 = setA (visitL l (-1)) ∧ s.env 3 = .cell (.ptr 0 0) ∧ s.box 0 = some (fP name l) ∧ s.env 4 = .cell (.ptr 64 0) ∧ s.box 64 = some ([.p (iC h)]) ∧ s.env 8 = .cell (.ptr 131328 0) ∧ s.box 131328 = some ([.mown 131072 (natI (endsS h ends k)) (cstM (natI (endsS h ends k)))])) (fun (k : Nat) => ends.length - k) (0) ⟨by first | omega | assumption | (simp [endsS, addK, mputV, mfind, cstM]; done) | (simp [endsS, addK, mputV, mfind, cstM]; omega), by simp [endsS, addK, mputV, mfind, cstM], by simp [endsS, addK, mputV, mfind, cstM], by simp [endsS, addK, mputV, mfind, cstM], by simp [endsS, addK, mputV, mfind, cstM], by simp [endsS, addK, mputV, mfind, cstM], by simp [endsS, addK, mputV, mfind, cstM], by simp [endsS, addK, mputV, mfind, cstM], by simp [endsS, addK, mputV, mfind, cstM], by simp [endsS, addK, mputV, mfind, cstM], by simp [endsS, addK, mputV, mfind, cstM]⟩ fun k s hsA LA hLA => ?_
  obtain ⟨hk, h21, h20, h19, h7, h3, b0, h4, b64, h8, b131328⟩ := hsA
  repeat (first | simp [h21, h20, h19, h7, h3, b0, h4, b64, h8, b131328] | with_reducible refine And.intro (by omega) ?_ | with_reducible refine optK_if (by omega) ?_ | with_reducible refine optD_if (by omega) ?_ | simp (disch := omega) only [wrap_i64, if_pos, if_neg] | with_reducible refine gsel_pure (by with_unfolding_all rfl) _ (fun hg => by (try simp at hg); simp [hg, h21, h20, h19, h7, h3, b0, h4, b64, h8, b131328]; rfl) ?_ | with_reducible refine dsel_pure (by with_unfolding_all rfl) _ (fun hg => by (try simp at hg); simp [hg, h21, h20, h19, h7, h3, b0, h4, b64, h8, b131328]; rfl) ?_ | with_reducible refine awp_draw (by kernel_rfl) (by decide +kernel) ?_)
  (with_reducible refine condK_intro (fun hlt => ?_) (fun hlt => ?_)) <;> (try simp only [hlt]) <;> (try simp [andB, orB, eqI, ltI, Int.natCast_inj] at hlt)
  · have hes := endsS_succ (h := h) hlt
    have hgi : (natI ends)[k]'(by simpa using hlt) = (ends[k] : Int) := by simp [natI]
    repeat (first | simp [h21, h20, h19, h7, h3, b0, h4, b64, h8, b131328, hlt, hgi] | with_reducible refine And.intro (by omega) ?_ | with_reducible refine optK_if (by omega) ?_ | with_reducible refine optD_if (by omega) ?_ | simp (disch := omega) only [wrap_i64, if_pos, if_neg] | with_reducible refine gsel_pure (by with_unfolding_all rfl) _ (fun hg => by (try simp at hg); simp [hg, h21, h20, h19, h7, h3, b0, h4, b64, h8, b131328, hlt, hgi]; rfl) ?_ | with_reducible refine dsel_pure (by with_unfolding_all rfl) _ (fun hg => by (try simp at hg); simp [hg, h21, h20, h19, h7, h3, b0, h4, b64, h8, b131328, hlt, hgi]; rfl) ?_ | with_reducible refine awp_draw (by kernel_rfl) (by decide +kernel) ?_)
    refine hLA (k + 1) _ ⟨by first | omega | assumption | (simp [hes, addK_natI]; done) | (simp [hes, addK_natI]; omega), by simp [h21, h20, h19, h7, h3, b0, h4, b64, h8, b131328, hlt, hes, addK_natI], by simp [h21, h20, h19, h7, h3, b0, h4, b64, h8, b131328, hlt, hes, addK_natI], by simp [h21, h20, h19, h7, h3, b0, h4, b64, h8, b131328, hlt, hes, addK_natI], by simp [h21, h20, h19, h7, h3, b0, h4, b64, h8, b131328, hlt, hes, addK_natI], by simp [h21, h20, h19, h7, h3, b0, h4, b64, h8, b131328, hlt, hes, addK_natI], by simp [h21, h20, h19, h7, h3, b0, h4, b64, h8, b131328, hlt, hes, addK_natI], by simp [h21, h20, h19, h7, h3, b0, h4, b64, h8, b131328, hlt, hes, addK_natI], by simp [h21, h20, h19, h7, h3, b0, h4, b64, h8, b131328, hlt, hes, addK_natI], by simp [h21, h20, h19, h7, h3, b0, h4, b64, h8, b131328, hlt, hes, addK_natI], by simp [h21, h20, h19, h7, h3, b0, h4, b64, h8, b131328, hlt, hes, addK_natI]⟩ (by first | omega | (simp; omega))
  · have : k = ends.length := by omega
    subst this
    have hS0 := endsS_ok hh he _ (Nat.le_refl ends.length)
    have hbl : bodyL l h ends = bodyG l h (2 * l.length + 2) true (endsS h ends ends.length) := rfl
    generalize endsS h ends ends.length = S0 at *
    repeat (first | simp [h21, h20, h19, h7, h3, b0, h4, b64, h8, b131328, hlt] | with_reducible refine And.intro (by omega) ?_ | with_reducible refine optK_if (by omega) ?_ | with_reducible refine optD_if (by omega) ?_ | simp (disch := omega) only [wrap_i64, if_pos, if_neg] | with_reducible refine gsel_pure (by with_unfolding_all rfl) _ (fun hg => by (try simp at hg); simp [hg, h21, h20, h19, h7, h3, b0, h4, b64, h8, b131328, hlt]; rfl) ?_ | with_reducible refine dsel_pure (by with_unfolding_all rfl) _ (fun hg => by (try simp at hg); simp [hg, h21, h20, h19, h7, h3, b0, h4, b64, h8, b131328, hlt]; rfl) ?_ | with_reducible refine awp_draw (by kernel_rfl) (by decide +kernel) ?_)
    refine awp_loopV (fun ((F, g, S, b) : Nat × Bool × List Nat × Nat) (s : St) => (SOk l.length S) ∧ (2 * (l.length - S.length) + (if g = true then 1 else 0) < F) ∧ (bodyL l h ends = bodyG l h F g S) ∧ (b = 524288 ∨ b = 1441792) ∧ s.env 7 = setA (visitL l (-1)) ∧ s.env 3 = .cell (.ptr 0 0) ∧ s.box 0 = some (fP name l) ∧ s.env 4 = .cell (.ptr 64 0) ∧ s.box 64 = some ([.p (iC h)]) ∧ s.env 8 = .cell (.ptr 131328 0) ∧ s.box 131328 = some ([.mown 131072 (natI S) (cstM (natI S))]) ∧ s.env 11 = .cell (.ptr b 0) ∧ s.box b = some ([.p (bC g)])) (fun ((F, g, S, b) : Nat × Bool × List Nat × Nat) => 2 * (l.length - S.length) + (if g = true then 1 else 0)) ((2 * l.length + 2, true, S0, 524288)) ⟨by first | omega | assumption | (simp; done) | (simp; omega), by first | omega | assumption | (simp; done) | (simp; omega), by first | omega | assumption | (simp; done) | (simp; omega), by first | omega | assumption | (simp; done) | (simp; omega), by simp [h21, h20, h19, h7, h3, b0, h4, b64, h8, b131328, hlt], by simp [h21, h20, h19, h7, h3, b0, h4, b64, h8, b131328, hlt], by simp [h21, h20, h19, h7, h3, b0, h4, b64, h8, b131328, hlt], by simp [h21, h20, h19, h7, h3, b0, h4, b64, h8, b131328, hlt], by simp [h21, h20, h19, h7, h3, b0, h4, b64, h8, b131328, hlt], by simp [h21, h20, h19, h7, h3, b0, h4, b64, h8, b131328, hlt], by simp [h21, h20, h19, h7, h3, b0, h4, b64, h8, b131328, hlt], by simp [h21, h20, h19, h7, h3, b0, h4, b64, h8, b131328, hlt], by simp [h21, h20, h19, h7, h3, b0, h4, b64, h8, b131328, hlt]⟩ fun (F, g, S, b) s hsB LB hLB => ?_
    obtain ⟨hS, hF, hr, hb, h7, h3, b0, h4, b64, h8, b131328, h11, bb⟩ := hsB
    have hb0 : b ≠ 0 ∧ b ≠ 64 ∧ b ≠ 131328 ∧ b ≠ 852032 ∧ 0 ≠ b ∧ 64 ≠ b ∧ 131328 ≠ b ∧ 852032 ≠ b := by omega
    have hb65 : b / 65536 ≠ 16 ∧ b / 65536 ≠ 17 ∧ b / 65536 ≠ 18 ∧ b / 65536 ≠ 19 := by omega
    
    
    have hF1 : F = (F - 1) + 1 := by omega
    rw [hF1, bodyG] at hr
    cases g
    · simp only [Bool.false_eq_true, if_false] at hr
      repeat (first | simp [h7, h3, b0, h4, b64, h8, b131328, h11, bb, hlt, hb0, hb65] | with_reducible refine And.intro (by omega) ?_ | with_reducible refine optK_if (by omega) ?_ | with_reducible refine optD_if (by omega) ?_ | simp (disch := omega) only [wrap_i64, if_pos, if_neg] | with_reducible refine gsel_pure (by with_unfolding_all rfl) _ (fun hg => by (try simp at hg); simp [hg, h7, h3, b0, h4, b64, h8, b131328, h11, bb, hlt, hb0, hb65]; rfl) ?_ | with_reducible refine dsel_pure (by with_unfolding_all rfl) _ (fun hg => by (try simp at hg); simp [hg, h7, h3, b0, h4, b64, h8, b131328, h11, bb, hlt, hb0, hb65]; rfl) ?_ | with_reducible refine awp_draw (by kernel_rfl) (by decide +kernel) ?_)
      refine hQ _ _ (ret2 (by simp [retAV, resAV]; rfl) (by simp; rfl) ?_)
      rw [hr]
    · simp only [if_true] at hr
      repeat (first | simp [h7, h3, b0, h4, b64, h8, b131328, h11, bb, hlt, hb0, hb65] | with_reducible refine And.intro (by omega) ?_ | with_reducible refine optK_if (by omega) ?_ | with_reducible refine optD_if (by omega) ?_ | simp (disch := omega) only [wrap_i64, if_pos, if_neg] | with_reducible refine gsel_pure (by with_unfolding_all rfl) _ (fun hg => by (try simp at hg); simp [hg, h7, h3, b0, h4, b64, h8, b131328, h11, bb, hlt, hb0, hb65]; rfl) ?_ | with_reducible refine dsel_pure (by with_unfolding_all rfl) _ (fun hg => by (try simp at hg); simp [hg, h7, h3, b0, h4, b64, h8, b131328, h11, bb, hlt, hb0, hb65]; rfl) ?_ | with_reducible refine awp_draw (by kernel_rfl) (by decide +kernel) ?_)
      refine awp_loopV (fun (i : Nat) (s : St) => (i ≤ l.length) ∧ s.env 32 = iV .i64 i ∧ s.env 31 = iV .i64 l.length ∧ s.env 7 = setA (visitL l (-1)) ∧ s.env 3 = .cell (.ptr 0 0) ∧ s.box 0 = some (fP name l) ∧ s.env 4 = .cell (.ptr 64 0) ∧ s.box 64 = some ([.p (iC h)]) ∧ s.env 8 = .cell (.ptr 131328 0) ∧ s.box 131328 = some ([.mown 131072 (natI (growP l h S i)) (cstM (natI (growP l h S i)))]) ∧ s.env 11 = .cell (.ptr b 0) ∧ s.box b = some ([.p (bC (decide ((growP l h S i).length ≠ S.length)))])) (fun (i : Nat) => l.length - i) (0) ⟨by first | omega | assumption | (simp [growP]; done) | (simp [growP]; omega), by simp [h7, h3, b0, h4, b64, h8, b131328, h11, bb, hlt, hb0, hb65, growP], by simp [h7, h3, b0, h4, b64, h8, b131328, h11, bb, hlt, hb0, hb65, growP], by simp [h7, h3, b0, h4, b64, h8, b131328, h11, bb, hlt, hb0, hb65, growP], by simp [h7, h3, b0, h4, b64, h8, b131328, h11, bb, hlt, hb0, hb65, growP], by simp [h7, h3, b0, h4, b64, h8, b131328, h11, bb, hlt, hb0, hb65, growP], by simp [h7, h3, b0, h4, b64, h8, b131328, h11, bb, hlt, hb0, hb65, growP], by simp [h7, h3, b0, h4, b64, h8, b131328, h11, bb, hlt, hb0, hb65, growP], by simp [h7, h3, b0, h4, b64, h8, b131328, h11, bb, hlt, hb0, hb65, growP], by simp [h7, h3, b0, h4, b64, h8, b131328, h11, bb, hlt, hb0, hb65, growP], by simp [h7, h3, b0, h4, b64, h8, b131328, h11, bb, hlt, hb0, hb65, growP], by simp [h7, h3, b0, h4, b64, h8, b131328, h11, bb, hlt, hb0, hb65, growP]⟩ fun i s hsC LC hLC => ?_
      obtain ⟨hi, h32, h31, h7, h3, b0, h4, b64, h8, b131328, h11, bb⟩ := hsC
      repeat (first | simp [h32, h31, h7, h3, b0, h4, b64, h8, b131328, h11, bb, hlt, hb0, hb65] | with_reducible refine And.intro (by omega) ?_ | with_reducible refine optK_if (by omega) ?_ | with_reducible refine optD_if (by omega) ?_ | simp (disch := omega) only [wrap_i64, if_pos, if_neg] | with_reducible refine gsel_pure (by with_unfolding_all rfl) _ (fun hg => by (try simp at hg); simp [hg, h32, h31, h7, h3, b0, h4, b64, h8, b131328, h11, bb, hlt, hb0, hb65]; rfl) ?_ | with_reducible refine dsel_pure (by with_unfolding_all rfl) _ (fun hg => by (try simp at hg); simp [hg, h32, h31, h7, h3, b0, h4, b64, h8, b131328, h11, bb, hlt, hb0, hb65]; rfl) ?_ | with_reducible refine awp_draw (by kernel_rfl) (by decide +kernel) ?_)
      (with_reducible refine condK_intro (fun hli => ?_) (fun hli => ?_)) <;> (try simp only [hli]) <;> (try simp [andB, orB, eqI, ltI, Int.natCast_inj] at hli)
      · have hgs : growP l h S (i + 1) = growI l h (growP l h S i) i := rfl
        obtain ⟨hT, hTl⟩ := growP_ok (h := h) hS i hi
        generalize growP l h S i = T at *
        by_cases hal : i ∈ visitL l (-1)
        rotate_left
        · have hg := mget_out (cstC (natI (visitL l (-1)))) (fun h => hal (mem_natI.1 h))
          have hgi : growI l h T i = T := by unfold growI; rw [if_neg (by simp [hal])]
          rw [hgi] at hgs
          repeat (first | simp [h32, h31, h7, h3, b0, h4, b64, h8, b131328, h11, bb, hlt, hb0, hb65, hli, hg] | with_reducible refine And.intro (by omega) ?_ | with_reducible refine optK_if (by omega) ?_ | with_reducible refine optD_if (by omega) ?_ | simp (disch := omega) only [wrap_i64, if_pos, if_neg] | with_reducible refine gsel_pure (by with_unfolding_all rfl) _ (fun hg => by (try simp at hg); simp [hg, h32, h31, h7, h3, b0, h4, b64, h8, b131328, h11, bb, hlt, hb0, hb65, hli, hg]; rfl) ?_ | with_reducible refine dsel_pure (by with_unfolding_all rfl) _ (fun hg => by (try simp at hg); simp [hg, h32, h31, h7, h3, b0, h4, b64, h8, b131328, h11, bb, hlt, hb0, hb65, hli, hg]; rfl) ?_ | with_reducible refine awp_draw (by kernel_rfl) (by decide +kernel) ?_)
          refine hLC (i + 1) _ ⟨by first | omega | assumption | (simp [hgs]; done) | (simp [hgs]; omega), by simp [h32, h31, h7, h3, b0, h4, b64, h8, b131328, h11, bb, hlt, hb0, hb65, hli, hgs], by simp [h32, h31, h7, h3, b0, h4, b64, h8, b131328, h11, bb, hlt, hb0, hb65, hli, hgs], by simp [h32, h31, h7, h3, b0, h4, b64, h8, b131328, h11, bb, hlt, hb0, hb65, hli, hgs], by simp [h32, h31, h7, h3, b0, h4, b64, h8, b131328, h11, bb, hlt, hb0, hb65, hli, hgs], by simp [h32, h31, h7, h3, b0, h4, b64, h8, b131328, h11, bb, hlt, hb0, hb65, hli, hgs], by simp [h32, h31, h7, h3, b0, h4, b64, h8, b131328, h11, bb, hlt, hb0, hb65, hli, hgs], by simp [h32, h31, h7, h3, b0, h4, b64, h8, b131328, h11, bb, hlt, hb0, hb65, hli, hgs], by simp [h32, h31, h7, h3, b0, h4, b64, h8, b131328, h11, bb, hlt, hb0, hb65, hli, hgs], by simp [h32, h31, h7, h3, b0, h4, b64, h8, b131328, h11, bb, hlt, hb0, hb65, hli, hgs], by simp [h32, h31, h7, h3, b0, h4, b64, h8, b131328, h11, bb, hlt, hb0, hb65, hli, hgs], by simp [h32, h31, h7, h3, b0, h4, b64, h8, b131328, h11, bb, hlt, hb0, hb65, hli, hgs]⟩ (by first | omega | (simp; omega))
        have hg := mgetC_in (mem_natI.2 hal)
        by_cases hiT : i ∈ T
        · have hg2 := mgetM_in (mem_natI.2 hiT)
          have hgi : growI l h T i = T := by unfold growI; rw [if_neg (by simp [hiT])]
          rw [hgi] at hgs
          repeat (first | simp [h32, h31, h7, h3, b0, h4, b64, h8, b131328, h11, bb, hlt, hb0, hb65, hli, hg, hg2] | with_reducible refine And.intro (by omega) ?_ | with_reducible refine optK_if (by omega) ?_ | with_reducible refine optD_if (by omega) ?_ | simp (disch := omega) only [wrap_i64, if_pos, if_neg] | with_reducible refine gsel_pure (by with_unfolding_all rfl) _ (fun hg => by (try simp at hg); simp [hg, h32, h31, h7, h3, b0, h4, b64, h8, b131328, h11, bb, hlt, hb0, hb65, hli, hg, hg2]; rfl) ?_ | with_reducible refine dsel_pure (by with_unfolding_all rfl) _ (fun hg => by (try simp at hg); simp [hg, h32, h31, h7, h3, b0, h4, b64, h8, b131328, h11, bb, hlt, hb0, hb65, hli, hg, hg2]; rfl) ?_ | with_reducible refine awp_draw (by kernel_rfl) (by decide +kernel) ?_)
          refine hLC (i + 1) _ ⟨by first | omega | assumption | (simp [hgs]; done) | (simp [hgs]; omega), by simp [h32, h31, h7, h3, b0, h4, b64, h8, b131328, h11, bb, hlt, hb0, hb65, hli, hgs], by simp [h32, h31, h7, h3, b0, h4, b64, h8, b131328, h11, bb, hlt, hb0, hb65, hli, hgs], by simp [h32, h31, h7, h3, b0, h4, b64, h8, b131328, h11, bb, hlt, hb0, hb65, hli, hgs], by simp [h32, h31, h7, h3, b0, h4, b64, h8, b131328, h11, bb, hlt, hb0, hb65, hli, hgs], by simp [h32, h31, h7, h3, b0, h4, b64, h8, b131328, h11, bb, hlt, hb0, hb65, hli, hgs], by simp [h32, h31, h7, h3, b0, h4, b64, h8, b131328, h11, bb, hlt, hb0, hb65, hli, hgs], by simp [h32, h31, h7, h3, b0, h4, b64, h8, b131328, h11, bb, hlt, hb0, hb65, hli, hgs], by simp [h32, h31, h7, h3, b0, h4, b64, h8, b131328, h11, bb, hlt, hb0, hb65, hli, hgs], by simp [h32, h31, h7, h3, b0, h4, b64, h8, b131328, h11, bb, hlt, hb0, hb65, hli, hgs], by simp [h32, h31, h7, h3, b0, h4, b64, h8, b131328, h11, bb, hlt, hb0, hb65, hli, hgs], by simp [h32, h31, h7, h3, b0, h4, b64, h8, b131328, h11, bb, hlt, hb0, hb65, hli, hgs]⟩ (by first | omega | (simp; omega))
        have hg2 := mget_out (cstM (natI T)) (fun h => hiT (mem_natI.1 h))
        have hgi : growI l h T i = growK l h T i (sucs l i).length := by unfold growI; rw [if_pos ⟨hal, hiT⟩]
        rw [hgi] at hgs
        repeat (first | simp [h32, h31, h7, h3, b0, h4, b64, h8, b131328, h11, bb, hlt, hb0, hb65, hli, hg, hg2] | with_reducible refine And.intro (by omega) ?_ | with_reducible refine optK_if (by omega) ?_ | with_reducible refine optD_if (by omega) ?_ | simp (disch := omega) only [wrap_i64, if_pos, if_neg] | with_reducible refine gsel_pure (by with_unfolding_all rfl) _ (fun hg => by (try simp at hg); simp [hg, h32, h31, h7, h3, b0, h4, b64, h8, b131328, h11, bb, hlt, hb0, hb65, hli, hg, hg2]; rfl) ?_ | with_reducible refine dsel_pure (by with_unfolding_all rfl) _ (fun hg => by (try simp at hg); simp [hg, h32, h31, h7, h3, b0, h4, b64, h8, b131328, h11, bb, hlt, hb0, hb65, hli, hg, hg2]; rfl) ?_ | with_reducible refine awp_draw (by kernel_rfl) (by decide +kernel) ?_)
        refine gop_call' (at_successors name l i) (by (first | simp [h32, h31, h7, h3, b0, h4, b64, h8, b131328, h11, bb, hlt, hb0, hb65, hli] | simp (disch := omega) [h32, h31, h7, h3, b0, h4, b64, h8, b131328, h11, bb, hlt, hb0, hb65, hli, wrap_i64]); try rfl) (by simp) (by simp) ?_
        repeat (first | simp [h32, h31, h7, h3, b0, h4, b64, h8, b131328, h11, bb, hlt, hb0, hb65, hli] | with_reducible refine And.intro (by omega) ?_ | with_reducible refine optK_if (by omega) ?_ | with_reducible refine optD_if (by omega) ?_ | simp (disch := omega) only [wrap_i64, if_pos, if_neg] | with_reducible refine gsel_pure (by with_unfolding_all rfl) _ (fun hg => by (try simp at hg); simp [hg, h32, h31, h7, h3, b0, h4, b64, h8, b131328, h11, bb, hlt, hb0, hb65, hli]; rfl) ?_ | with_reducible refine dsel_pure (by with_unfolding_all rfl) _ (fun hg => by (try simp at hg); simp [hg, h32, h31, h7, h3, b0, h4, b64, h8, b131328, h11, bb, hlt, hb0, hb65, hli]; rfl) ?_ | with_reducible refine awp_draw (by kernel_rfl) (by decide +kernel) ?_)
        refine awp_range (T := [16, 17, 18, 19]) (gf := 74) (cs := [.bx (fC name l), .bx [iC i]]) (evs (natI (sucs l i))) (fun (k : Nat) (bx : Nat → Option (List AC)) => bx 0 = some (fP name l) ∧ bx 64 = some ([.p (iC h)]) ∧ bx 131328 = some ([.mown 131072 (natI (growK l h T i k)) (cstM (natI (growK l h T i k)))]) ∧ bx b = some ([.p (bC (decide ((growK l h T i k).length ≠ S.length)))]) ∧ bx 852032 = some ([.p (iC i)])) rfl (by simp [h32, h31, h7, h3, b0, h4, b64, h8, b131328, h11, bb, hlt, hb0, hb65, hli, growK, hitK]) (by simpa [fC] using seq_successors name l ok i hli) (fun x hx => by simp [evs] at hx; obtain ⟨y, _, rfl⟩ := hx; rfl) ⟨by simp [h32, h31, h7, h3, b0, h4, b64, h8, b131328, h11, bb, hlt, hb0, hb65, hli, growK, hitK], by simp [h32, h31, h7, h3, b0, h4, b64, h8, b131328, h11, bb, hlt, hb0, hb65, hli, growK, hitK], by simp [h32, h31, h7, h3, b0, h4, b64, h8, b131328, h11, bb, hlt, hb0, hb65, hli, growK, hitK], by simp [h32, h31, h7, h3, b0, h4, b64, h8, b131328, h11, bb, hlt, hb0, hb65, hli, growK, hitK], by simp [h32, h31, h7, h3, b0, h4, b64, h8, b131328, h11, bb, hlt, hb0, hb65, hli, growK, hitK]⟩ (fun k x bx hx ⟨b0, b64, b131328, bb, b852032⟩ => ?_) (fun bx ⟨b0, b64, b131328, bb, b852032⟩ => ?_)
        · obtain ⟨hk, rfl⟩ := evs_get hx
          have hk' : k < (sucs l i).length := by simpa using hk
          have hx' : (natI (sucs l i))[k] = (((sucs l i)[k] : Nat) : Int) := by simp [natI]
          rw [hx']
          clear hx'
          have hhs := hitK_succ (h := h) (S := T) hk'
          generalize (sucs l i)[k] = X at *
          by_cases hXh : X = h
          · have e : eqI (X : Int) h = true := by simp [eqI, hXh]
            have hgk : growK l h T i (k + 1) = growK l h T i k := by unfold growK; rw [hhs]; simp [hXh]
            repeat (first | simp [h32, h31, h7, h3, h4, h8, h11, b0, b64, b131328, bb, b852032, hlt, hb0, hb65, hli, e] | with_reducible refine And.intro (by omega) ?_ | with_reducible refine optK_if (by omega) ?_ | with_reducible refine optD_if (by omega) ?_ | simp (disch := omega) only [wrap_i64, if_pos, if_neg] | with_reducible refine gsel_pure (by with_unfolding_all rfl) _ (fun hg => by (try simp at hg); simp [hg, h32, h31, h7, h3, h4, h8, h11, b0, b64, b131328, bb, b852032, hlt, hb0, hb65, hli, e]; rfl) ?_ | with_reducible refine dsel_pure (by with_unfolding_all rfl) _ (fun hg => by (try simp at hg); simp [hg, h32, h31, h7, h3, h4, h8, h11, b0, b64, b131328, bb, b852032, hlt, hb0, hb65, hli, e]; rfl) ?_ | with_reducible refine awp_draw (by kernel_rfl) (by decide +kernel) ?_)
            refine rPost_normal ⟨by simp [h32, h31, h7, h3, h4, h8, h11, b0, b64, b131328, bb, b852032, hlt, hb0, hb65, hli, hgk], by simp [h32, h31, h7, h3, h4, h8, h11, b0, b64, b131328, bb, b852032, hlt, hb0, hb65, hli, hgk], by simp [h32, h31, h7, h3, h4, h8, h11, b0, b64, b131328, bb, b852032, hlt, hb0, hb65, hli, hgk], by simp [h32, h31, h7, h3, h4, h8, h11, b0, b64, b131328, bb, b852032, hlt, hb0, hb65, hli, hgk], by simp [h32, h31, h7, h3, h4, h8, h11, b0, b64, b131328, bb, b852032, hlt, hb0, hb65, hli, hgk]⟩
          have e : eqI (X : Int) h = false := by simp [eqI]; omega
          by_cases hXT : X ∈ growK l h T i k
          · have hg3 := mgetM_in (mem_natI.2 hXT)
            have hgk : growK l h T i (k + 1) = T ++ [i] := by
              unfold growK
              rw [if_pos]
              rw [hhs]
              cases hh : hitK l h T i k
              · unfold growK at hXT
                rw [hh] at hXT
                simp at hXT
                simp [hXh, hXT]
              · simp
            have hak : addK (natI (growK l h T i k)) i = natI (T ++ [i]) := by
              rw [addK_natI]
              unfold growK
              split
              · rw [addN, if_pos (by simp)]
              · rw [addN, if_neg hiT]
            have hfl : ¬ T.length + 1 = S.length := by omega
            repeat (first | simp [h32, h31, h7, h3, h4, h8, h11, b0, b64, b131328, bb, b852032, hlt, hb0, hb65, hli, e, hg3, hak] | with_reducible refine And.intro (by omega) ?_ | with_reducible refine optK_if (by omega) ?_ | with_reducible refine optD_if (by omega) ?_ | simp (disch := omega) only [wrap_i64, if_pos, if_neg] | with_reducible refine gsel_pure (by with_unfolding_all rfl) _ (fun hg => by (try simp at hg); simp [hg, h32, h31, h7, h3, h4, h8, h11, b0, b64, b131328, bb, b852032, hlt, hb0, hb65, hli, e, hg3, hak]; rfl) ?_ | with_reducible refine dsel_pure (by with_unfolding_all rfl) _ (fun hg => by (try simp at hg); simp [hg, h32, h31, h7, h3, h4, h8, h11, b0, b64, b131328, bb, b852032, hlt, hb0, hb65, hli, e, hg3, hak]; rfl) ?_ | with_reducible refine awp_draw (by kernel_rfl) (by decide +kernel) ?_)
            refine rPost_normal ⟨by simp [h32, h31, h7, h3, h4, h8, h11, b0, b64, b131328, bb, b852032, hlt, hb0, hb65, hli, hgk, hak, hfl], by simp [h32, h31, h7, h3, h4, h8, h11, b0, b64, b131328, bb, b852032, hlt, hb0, hb65, hli, hgk, hak, hfl], by simp [h32, h31, h7, h3, h4, h8, h11, b0, b64, b131328, bb, b852032, hlt, hb0, hb65, hli, hgk, hak, hfl], by simp [h32, h31, h7, h3, h4, h8, h11, b0, b64, b131328, bb, b852032, hlt, hb0, hb65, hli, hgk, hak, hfl], by simp [h32, h31, h7, h3, h4, h8, h11, b0, b64, b131328, bb, b852032, hlt, hb0, hb65, hli, hgk, hak, hfl]⟩
          · have hg3 := mget_out (cstM (natI (growK l h T i k))) (fun h => hXT (mem_natI.1 h))
            have hgk : growK l h T i (k + 1) = growK l h T i k := by
              have hn : X ∉ T := by
                intro hc
                apply hXT
                unfold growK
                split
                · simp [hc]
                · exact hc
              unfold growK; rw [hhs]; simp [hn]
            repeat (first | simp [h32, h31, h7, h3, h4, h8, h11, b0, b64, b131328, bb, b852032, hlt, hb0, hb65, hli, e, hg3] | with_reducible refine And.intro (by omega) ?_ | with_reducible refine optK_if (by omega) ?_ | with_reducible refine optD_if (by omega) ?_ | simp (disch := omega) only [wrap_i64, if_pos, if_neg] | with_reducible refine gsel_pure (by with_unfolding_all rfl) _ (fun hg => by (try simp at hg); simp [hg, h32, h31, h7, h3, h4, h8, h11, b0, b64, b131328, bb, b852032, hlt, hb0, hb65, hli, e, hg3]; rfl) ?_ | with_reducible refine dsel_pure (by with_unfolding_all rfl) _ (fun hg => by (try simp at hg); simp [hg, h32, h31, h7, h3, h4, h8, h11, b0, b64, b131328, bb, b852032, hlt, hb0, hb65, hli, e, hg3]; rfl) ?_ | with_reducible refine awp_draw (by kernel_rfl) (by decide +kernel) ?_)
            refine rPost_normal ⟨by simp [h32, h31, h7, h3, h4, h8, h11, b0, b64, b131328, bb, b852032, hlt, hb0, hb65, hli, hgk], by simp [h32, h31, h7, h3, h4, h8, h11, b0, b64, b131328, bb, b852032, hlt, hb0, hb65, hli, hgk], by simp [h32, h31, h7, h3, h4, h8, h11, b0, b64, b131328, bb, b852032, hlt, hb0, hb65, hli, hgk], by simp [h32, h31, h7, h3, h4, h8, h11, b0, b64, b131328, bb, b852032, hlt, hb0, hb65, hli, hgk], by simp [h32, h31, h7, h3, h4, h8, h11, b0, b64, b131328, bb, b852032, hlt, hb0, hb65, hli, hgk]⟩
        · repeat (first | simp [h32, h31, h7, h3, h4, h8, h11, b0, b64, b131328, bb, b852032, hlt, hb0, hb65, hli] | with_reducible refine And.intro (by omega) ?_ | with_reducible refine optK_if (by omega) ?_ | with_reducible refine optD_if (by omega) ?_ | simp (disch := omega) only [wrap_i64, if_pos, if_neg] | with_reducible refine gsel_pure (by with_unfolding_all rfl) _ (fun hg => by (try simp at hg); simp [hg, h32, h31, h7, h3, h4, h8, h11, b0, b64, b131328, bb, b852032, hlt, hb0, hb65, hli]; rfl) ?_ | with_reducible refine dsel_pure (by with_unfolding_all rfl) _ (fun hg => by (try simp at hg); simp [hg, h32, h31, h7, h3, h4, h8, h11, b0, b64, b131328, bb, b852032, hlt, hb0, hb65, hli]; rfl) ?_ | with_reducible refine awp_draw (by kernel_rfl) (by decide +kernel) ?_)
          simp only [evs_length, natI_length] at b131328 bb
          refine hLC (i + 1) _ ⟨by first | omega | assumption | (simp [hgs]; done) | (simp [hgs]; omega), by simp [h32, h31, h7, h3, h4, h8, h11, b0, b64, b131328, bb, b852032, hlt, hb0, hb65, hli, hgs], by simp [h32, h31, h7, h3, h4, h8, h11, b0, b64, b131328, bb, b852032, hlt, hb0, hb65, hli, hgs], by simp [h32, h31, h7, h3, h4, h8, h11, b0, b64, b131328, bb, b852032, hlt, hb0, hb65, hli, hgs], by simp [h32, h31, h7, h3, h4, h8, h11, b0, b64, b131328, bb, b852032, hlt, hb0, hb65, hli, hgs], by simp [h32, h31, h7, h3, h4, h8, h11, b0, b64, b131328, bb, b852032, hlt, hb0, hb65, hli, hgs], by simp [h32, h31, h7, h3, h4, h8, h11, b0, b64, b131328, bb, b852032, hlt, hb0, hb65, hli, hgs], by simp [h32, h31, h7, h3, h4, h8, h11, b0, b64, b131328, bb, b852032, hlt, hb0, hb65, hli, hgs], by simp [h32, h31, h7, h3, h4, h8, h11, b0, b64, b131328, bb, b852032, hlt, hb0, hb65, hli, hgs], by simp [h32, h31, h7, h3, h4, h8, h11, b0, b64, b131328, bb, b852032, hlt, hb0, hb65, hli, hgs], by simp [h32, h31, h7, h3, h4, h8, h11, b0, b64, b131328, bb, b852032, hlt, hb0, hb65, hli, hgs], by simp [h32, h31, h7, h3, h4, h8, h11, b0, b64, b131328, bb, b852032, hlt, hb0, hb65, hli, hgs]⟩ (by first | omega | (simp; omega))
      · have : i = l.length := by omega
        subst this
        obtain ⟨hT, hTl⟩ := growP_ok (h := h) hS l.length (Nat.le_refl _)
        have hn1 := nodup_len hT.nodup hT.lt
        have hn2 := nodup_len hS.nodup hS.lt
        have hms : 2 * (l.length - (growP l h S l.length).length) + (if decide ((growP l h S l.length).length ≠ S.length) = true then 1 else 0) < 2 * (l.length - S.length) + 1 := by
          by_cases e : (growP l h S l.length).length = S.length
          · simp [e]
          · simp [e]; omega
        repeat (first | simp [h32, h31, h7, h3, b0, h4, b64, h8, b131328, h11, bb, hlt, hb0, hb65, hli] | with_reducible refine And.intro (by omega) ?_ | with_reducible refine optK_if (by omega) ?_ | with_reducible refine optD_if (by omega) ?_ | simp (disch := omega) only [wrap_i64, if_pos, if_neg] | with_reducible refine gsel_pure (by with_unfolding_all rfl) _ (fun hg => by (try simp at hg); simp [hg, h32, h31, h7, h3, b0, h4, b64, h8, b131328, h11, bb, hlt, hb0, hb65, hli]; rfl) ?_ | with_reducible refine dsel_pure (by with_unfolding_all rfl) _ (fun hg => by (try simp at hg); simp [hg, h32, h31, h7, h3, b0, h4, b64, h8, b131328, h11, bb, hlt, hb0, hb65, hli]; rfl) ?_ | with_reducible refine awp_draw (by kernel_rfl) (by decide +kernel) ?_)
        refine hLB ((F - 1, decide ((growP l h S l.length).length ≠ S.length), growP l h S l.length, 1441792)) _ ⟨by exact hT, by simp only [if_true] at hF; omega, by exact hr, by right; rfl, by simp [h32, h31, h7, h3, b0, h4, b64, h8, b131328, h11, bb, hlt, hb0, hb65, hli], by simp [h32, h31, h7, h3, b0, h4, b64, h8, b131328, h11, bb, hlt, hb0, hb65, hli], by simp [h32, h31, h7, h3, b0, h4, b64, h8, b131328, h11, bb, hlt, hb0, hb65, hli], by simp [h32, h31, h7, h3, b0, h4, b64, h8, b131328, h11, bb, hlt, hb0, hb65, hli], by simp [h32, h31, h7, h3, b0, h4, b64, h8, b131328, h11, bb, hlt, hb0, hb65, hli], by simp [h32, h31, h7, h3, b0, h4, b64, h8, b131328, h11, bb, hlt, hb0, hb65, hli], by simp [h32, h31, h7, h3, b0, h4, b64, h8, b131328, h11, bb, hlt, hb0, hb65, hli], by simp [h32, h31, h7, h3, b0, h4, b64, h8, b131328, h11, bb, hlt, hb0, hb65, hli], by simp [h32, h31, h7, h3, b0, h4, b64, h8, b131328, h11, bb, hlt, hb0, hb65, hli]⟩ (by simpa using hms)
set_option maxHeartbeats 2000000 in
theorem at_loops (name : ByteArray) (l : List I8) : At Tryd.prog 22 [fAV name l] (.tup [if funcE l = 0 then .cell (.own 0 1 (loopsL l l.length).length (listsC (loopsL l l.length))) else .cell .z, iV .i64 (funcE l)]) := by
  by_cases hf : funcE l = 0
  rotate_left
  · have e1 : eqI (funcE l) 0 = false := by simp [eqI, hf]
    refine at_code mixed Tryd.func22 (by kernel_rfl) rfl (by kernel_rfl) (by kernel_rfl) rfl fun Q hQ => ?_
    repeat (first | simp | with_reducible refine And.intro (by omega) ?_ | with_reducible refine optK_if (by omega) ?_ | with_reducible refine optD_if (by omega) ?_ | simp (disch := omega) only [wrap_i64, if_pos, if_neg] | with_reducible refine gsel_pure (by with_unfolding_all rfl) _ (fun hg => by (try simp at hg); simp [hg]; rfl) ?_ | with_reducible refine dsel_pure (by with_unfolding_all rfl) _ (fun hg => by (try simp at hg); simp [hg]; rfl) ?_ | with_reducible refine awp_draw (by kernel_rfl) (by decide +kernel) ?_)
    refine gop_call (at_cfgCheck name l) (by (first | simp [wrap_i64] | simp (disch := omega) [wrap_i64]); try rfl) (by simp) (by simp) ?_
    repeat (first | simp [e1] | with_reducible refine And.intro (by omega) ?_ | with_reducible refine optK_if (by omega) ?_ | with_reducible refine optD_if (by omega) ?_ | simp (disch := omega) only [wrap_i64, if_pos, if_neg] | with_reducible refine gsel_pure (by with_unfolding_all rfl) _ (fun hg => by (try simp at hg); simp [hg, e1]; rfl) ?_ | with_reducible refine dsel_pure (by with_unfolding_all rfl) _ (fun hg => by (try simp at hg); simp [hg, e1]; rfl) ?_ | with_reducible refine awp_draw (by kernel_rfl) (by decide +kernel) ?_)
    refine hQ _ _ (ret2 (by simp [retAV, resAV]; rfl) (by simp; rfl) ?_)
    simp [hf]
  have ok := okL hf
  have hlen := ok.len
  refine at_code mixed Tryd.func22 (by kernel_rfl) rfl (by kernel_rfl) (by kernel_rfl) rfl fun Q hQ => ?_
  repeat (first | simp | with_reducible refine And.intro (by omega) ?_ | with_reducible refine optK_if (by omega) ?_ | with_reducible refine optD_if (by omega) ?_ | simp (disch := omega) only [wrap_i64, if_pos, if_neg] | with_reducible refine gsel_pure (by with_unfolding_all rfl) _ (fun hg => by (try simp at hg); simp [hg]; rfl) ?_ | with_reducible refine dsel_pure (by with_unfolding_all rfl) _ (fun hg => by (try simp at hg); simp [hg]; rfl) ?_ | with_reducible refine awp_draw (by kernel_rfl) (by decide +kernel) ?_)
  refine gop_call (at_cfgCheck name l) (by (first | simp [wrap_i64] | simp (disch := omega) [wrap_i64]); try rfl) (by simp) (by simp) ?_
  repeat (first | simp [hf] | with_reducible refine And.intro (by omega) ?_ | with_reducible refine optK_if (by omega) ?_ | with_reducible refine optD_if (by omega) ?_ | simp (disch := omega) only [wrap_i64, if_pos, if_neg] | with_reducible refine gsel_pure (by with_unfolding_all rfl) _ (fun hg => by (try simp at hg); simp [hg, hf]; rfl) ?_ | with_reducible refine dsel_pure (by with_unfolding_all rfl) _ (fun hg => by (try simp at hg); simp [hg, hf]; rfl) ?_ | with_reducible refine awp_draw (by kernel_rfl) (by decide +kernel) ?_)
  refine gop_call' (at_dominated name l ok) (by (first | simp [wrap_i64] | simp (disch := omega) [wrap_i64]); try rfl) (by simp) (by simp) ?_
  repeat (first | simp | with_reducible refine And.intro (by omega) ?_ | with_reducible refine optK_if (by omega) ?_ | with_reducible refine optD_if (by omega) ?_ | simp (disch := omega) only [wrap_i64, if_pos, if_neg] | with_reducible refine gsel_pure (by with_unfolding_all rfl) _ (fun hg => by (try simp at hg); simp [hg]; rfl) ?_ | with_reducible refine dsel_pure (by with_unfolding_all rfl) _ (fun hg => by (try simp at hg); simp [hg]; rfl) ?_ | with_reducible refine awp_draw (by kernel_rfl) (by decide +kernel) ?_)
  refine awp_loopW (fun (h : Nat) (s : St) => (h ≤ l.length) ∧ s.env 24 = iV .i64 h ∧ s.env 22 = .cell (.p (.sl l.length (codeC l))) ∧ s.env 23 = iV .i64 l.length ∧ s.env 6 = .cell (.own 655360000 1 (loopsL l h).length (listsC (loopsL l h))) ∧ s.env 1 = .cell (.ptr 0 0) ∧ s.box 0 = some (fP name l) ∧ s.env 5 = .cell (.ptr 262272 0) ∧ s.box 262272 = some ([.p (.mp (natI (domD l l.length)) (domV l l.length))])) (fun (h : Nat) => l.length - h) _ (Weak.own 6 655360000 1 (by simp)) (0) ⟨by first | omega | assumption | (simp [loopsL, listsC]; done) | (simp [loopsL, listsC]; omega), by simp [loopsL, listsC], by simp [loopsL, listsC], by simp [loopsL, listsC], by simp [loopsL, listsC], by simp [loopsL, listsC], by simp [loopsL, listsC], by simp [loopsL, listsC], by simp [loopsL, listsC]⟩ fun h s hsA LA hLA => ?_
  obtain ⟨hh, h24, h22, h23, h6, h1, b0, h5, b262272⟩ := hsA
  repeat (first | simp [h24, h22, h23, h6, h1, b0, h5, b262272] | with_reducible refine And.intro (by omega) ?_ | with_reducible refine optK_if (by omega) ?_ | with_reducible refine optD_if (by omega) ?_ | simp (disch := omega) only [wrap_i64, if_pos, if_neg] | with_reducible refine gsel_pure (by with_unfolding_all rfl) _ (fun hg => by (try simp at hg); simp [hg, h24, h22, h23, h6, h1, b0, h5, b262272]; rfl) ?_ | with_reducible refine dsel_pure (by with_unfolding_all rfl) _ (fun hg => by (try simp at hg); simp [hg, h24, h22, h23, h6, h1, b0, h5, b262272]; rfl) ?_ | with_reducible refine awp_draw (by kernel_rfl) (by decide +kernel) ?_)
  (with_reducible refine condK_intro (fun hlt => ?_) (fun hlt => ?_)) <;> (try simp only [hlt]) <;> (try simp [andB, orB, eqI, ltI, Int.natCast_inj] at hlt)
  · repeat (first | simp [h24, h22, h23, h6, h1, b0, h5, b262272, hlt] | with_reducible refine And.intro (by omega) ?_ | with_reducible refine optK_if (by omega) ?_ | with_reducible refine optD_if (by omega) ?_ | simp (disch := omega) only [wrap_i64, if_pos, if_neg] | with_reducible refine gsel_pure (by with_unfolding_all rfl) _ (fun hg => by (try simp at hg); simp [hg, h24, h22, h23, h6, h1, b0, h5, b262272, hlt]; rfl) ?_ | with_reducible refine dsel_pure (by with_unfolding_all rfl) _ (fun hg => by (try simp at hg); simp [hg, h24, h22, h23, h6, h1, b0, h5, b262272, hlt]; rfl) ?_ | with_reducible refine awp_draw (by kernel_rfl) (by decide +kernel) ?_)
    refine awp_loopW (fun (i : Nat) (s : St) => (i ≤ l.length) ∧ s.env 30 = iV .i64 i ∧ s.env 29 = iV .i64 l.length ∧ s.env 24 = iV .i64 h ∧ s.env 22 = .cell (.p (.sl l.length (codeC l))) ∧ s.env 23 = iV .i64 l.length ∧ s.env 6 = .cell (.own 655360000 1 (loopsL l h).length (listsC (loopsL l h))) ∧ s.env 1 = .cell (.ptr 0 0) ∧ s.box 0 = some (fP name l) ∧ s.env 5 = .cell (.ptr 262272 0) ∧ s.box 262272 = some ([.p (.mp (natI (domD l l.length)) (domV l l.length))]) ∧ s.env 7 = .cell (.ptr 524352 0) ∧ s.box 524352 = some ([.p (iC h)]) ∧ s.env 8 = .cell (.ptr 589824 0) ∧ s.box 589824 = some ([.own 1370000 1 (endsL l (domB l) h i).length (intsC (natI (endsL l (domB l) h i)))])) (fun (i : Nat) => l.length - i) _ (Weak.ownB 589824 1370000 1 (by simp)) (0) ⟨by first | omega | assumption | (simp [endsL]; done) | (simp [endsL]; omega), by simp [h24, h22, h23, h6, h1, b0, h5, b262272, hlt, endsL], by simp [h24, h22, h23, h6, h1, b0, h5, b262272, hlt, endsL], by simp [h24, h22, h23, h6, h1, b0, h5, b262272, hlt, endsL], by simp [h24, h22, h23, h6, h1, b0, h5, b262272, hlt, endsL], by simp [h24, h22, h23, h6, h1, b0, h5, b262272, hlt, endsL], by simp [h24, h22, h23, h6, h1, b0, h5, b262272, hlt, endsL], by simp [h24, h22, h23, h6, h1, b0, h5, b262272, hlt, endsL], by simp [h24, h22, h23, h6, h1, b0, h5, b262272, hlt, endsL], by simp [h24, h22, h23, h6, h1, b0, h5, b262272, hlt, endsL], by simp [h24, h22, h23, h6, h1, b0, h5, b262272, hlt, endsL], by simp [h24, h22, h23, h6, h1, b0, h5, b262272, hlt, endsL], by simp [h24, h22, h23, h6, h1, b0, h5, b262272, hlt, endsL], by simp [h24, h22, h23, h6, h1, b0, h5, b262272, hlt, endsL], by simp [h24, h22, h23, h6, h1, b0, h5, b262272, hlt, endsL]⟩ fun i s hsB LB hLB => ?_
    obtain ⟨hi, h30, h29, h24, h22, h23, h6, h1, b0, h5, b262272, h7, b524352, h8, b589824⟩ := hsB
    repeat (first | simp [h30, h29, h24, h22, h23, h6, h1, b0, h5, b262272, h7, b524352, h8, b589824, hlt] | with_reducible refine And.intro (by omega) ?_ | with_reducible refine optK_if (by omega) ?_ | with_reducible refine optD_if (by omega) ?_ | simp (disch := omega) only [wrap_i64, if_pos, if_neg] | with_reducible refine gsel_pure (by with_unfolding_all rfl) _ (fun hg => by (try simp at hg); simp [hg, h30, h29, h24, h22, h23, h6, h1, b0, h5, b262272, h7, b524352, h8, b589824, hlt]; rfl) ?_ | with_reducible refine dsel_pure (by with_unfolding_all rfl) _ (fun hg => by (try simp at hg); simp [hg, h30, h29, h24, h22, h23, h6, h1, b0, h5, b262272, h7, b524352, h8, b589824, hlt]; rfl) ?_ | with_reducible refine awp_draw (by kernel_rfl) (by decide +kernel) ?_)
    (with_reducible refine condK_intro (fun hli => ?_) (fun hli => ?_)) <;> (try simp only [hli]) <;> (try simp [andB, orB, eqI, ltI, Int.natCast_inj] at hli)
    · repeat (first | simp [h30, h29, h24, h22, h23, h6, h1, b0, h5, b262272, h7, b524352, h8, b589824, hlt, hli] | with_reducible refine And.intro (by omega) ?_ | with_reducible refine optK_if (by omega) ?_ | with_reducible refine optD_if (by omega) ?_ | simp (disch := omega) only [wrap_i64, if_pos, if_neg] | with_reducible refine gsel_pure (by with_unfolding_all rfl) _ (fun hg => by (try simp at hg); simp [hg, h30, h29, h24, h22, h23, h6, h1, b0, h5, b262272, h7, b524352, h8, b589824, hlt, hli]; rfl) ?_ | with_reducible refine dsel_pure (by with_unfolding_all rfl) _ (fun hg => by (try simp at hg); simp [hg, h30, h29, h24, h22, h23, h6, h1, b0, h5, b262272, h7, b524352, h8, b589824, hlt, hli]; rfl) ?_ | with_reducible refine awp_draw (by kernel_rfl) (by decide +kernel) ?_)
      refine gop_call' (at_successors name l i) (by (first | simp [h30, h29, h24, h22, h23, h6, h1, b0, h5, b262272, h7, b524352, h8, b589824, hlt, hli] | simp (disch := omega) [h30, h29, h24, h22, h23, h6, h1, b0, h5, b262272, h7, b524352, h8, b589824, hlt, hli, wrap_i64]); try rfl) (by simp) (by simp) ?_
      repeat (first | simp [h30, h29, h24, h22, h23, h6, h1, b0, h5, b262272, h7, b524352, h8, b589824, hlt, hli] | with_reducible refine And.intro (by omega) ?_ | with_reducible refine optK_if (by omega) ?_ | with_reducible refine optD_if (by omega) ?_ | simp (disch := omega) only [wrap_i64, if_pos, if_neg] | with_reducible refine gsel_pure (by with_unfolding_all rfl) _ (fun hg => by (try simp at hg); simp [hg, h30, h29, h24, h22, h23, h6, h1, b0, h5, b262272, h7, b524352, h8, b589824, hlt, hli]; rfl) ?_ | with_reducible refine dsel_pure (by with_unfolding_all rfl) _ (fun hg => by (try simp at hg); simp [hg, h30, h29, h24, h22, h23, h6, h1, b0, h5, b262272, h7, b524352, h8, b589824, hlt, hli]; rfl) ?_ | with_reducible refine awp_draw (by kernel_rfl) (by decide +kernel) ?_)
      refine awp_rangeK [655360000] (T := [14, 15, 16]) (gf := 74) (cs := [.bx (fC name l), .bx [iC i]]) (evs (natI (sucs l i))) (fun (k : Nat) (bx : Nat → Option (List AC)) => bx 0 = some (fP name l) ∧ bx 262272 = some ([.p (.mp (natI (domD l l.length)) (domV l l.length))]) ∧ bx 524352 = some ([.p (iC h)]) ∧ bx 589824 = some ([.own 1370000 1 (endsK l (domB l) h i k).length (intsC (natI (endsK l (domB l) h i k)))]) ∧ bx 786496 = some ([.p (iC i)])) rfl (by simp [h30, h29, h24, h22, h23, h6, h1, b0, h5, b262272, h7, b524352, h8, b589824, hlt, hli, endsK]) (by simpa [fC] using seq_successors name l ok i hli) (fun x hx => by simp [evs] at hx; obtain ⟨y, _, rfl⟩ := hx; rfl) ⟨by simp [h30, h29, h24, h22, h23, h6, h1, b0, h5, b262272, h7, b524352, h8, b589824, hlt, hli, endsK], by simp [h30, h29, h24, h22, h23, h6, h1, b0, h5, b262272, h7, b524352, h8, b589824, hlt, hli, endsK], by simp [h30, h29, h24, h22, h23, h6, h1, b0, h5, b262272, h7, b524352, h8, b589824, hlt, hli, endsK], by simp [h30, h29, h24, h22, h23, h6, h1, b0, h5, b262272, h7, b524352, h8, b589824, hlt, hli, endsK], by simp [h30, h29, h24, h22, h23, h6, h1, b0, h5, b262272, h7, b524352, h8, b589824, hlt, hli, endsK]⟩ (fun k x bx hx ⟨b0, b262272, b524352, b589824, b786496⟩ => ?_) (fun bx ⟨b0, b262272, b524352, b589824, b786496⟩ => ?_)
      · obtain ⟨hk, rfl⟩ := evs_get hx
        have hk' : k < (sucs l i).length := by simpa using hk
        have hx' : (natI (sucs l i))[k] = (((sucs l i)[k] : Nat) : Int) := by simp [natI]
        rw [hx']
        clear hx'
        by_cases hX : (sucs l i)[k] = h
        rotate_left
        · have e : eqI ((sucs l i)[k] : Int) h = false := by simp [eqI]; omega
          have hm := endsK_miss (dom := domB l) hk' (.inl hX)
          repeat (first | simp [h30, h29, h24, h22, h23, h6, h1, h5, h7, h8, b0, b262272, b524352, b589824, b786496, hlt, hli, e] | with_reducible refine And.intro (by omega) ?_ | with_reducible refine optK_if (by omega) ?_ | with_reducible refine optD_if (by omega) ?_ | simp (disch := omega) only [wrap_i64, if_pos, if_neg] | with_reducible refine gsel_pure (by with_unfolding_all rfl) _ (fun hg => by (try simp at hg); simp [hg, h30, h29, h24, h22, h23, h6, h1, h5, h7, h8, b0, b262272, b524352, b589824, b786496, hlt, hli, e]; rfl) ?_ | with_reducible refine dsel_pure (by with_unfolding_all rfl) _ (fun hg => by (try simp at hg); simp [hg, h30, h29, h24, h22, h23, h6, h1, h5, h7, h8, b0, b262272, b524352, b589824, b786496, hlt, hli, e]; rfl) ?_ | with_reducible refine awp_draw (by kernel_rfl) (by decide +kernel) ?_)
          refine rPost_normal ⟨by simp [h30, h29, h24, h22, h23, h6, h1, h5, h7, h8, b0, b262272, b524352, b589824, b786496, hlt, hli, hm], by simp [h30, h29, h24, h22, h23, h6, h1, h5, h7, h8, b0, b262272, b524352, b589824, b786496, hlt, hli, hm], by simp [h30, h29, h24, h22, h23, h6, h1, h5, h7, h8, b0, b262272, b524352, b589824, b786496, hlt, hli, hm], by simp [h30, h29, h24, h22, h23, h6, h1, h5, h7, h8, b0, b262272, b524352, b589824, b786496, hlt, hli, hm], by simp [h30, h29, h24, h22, h23, h6, h1, h5, h7, h8, b0, b262272, b524352, b589824, b786496, hlt, hli, hm]⟩
        have e : eqI ((sucs l i)[k] : Int) h = true := by simp [eqI]; omega
        by_cases hD : h ∈ domD l l.length
        rotate_left
        · have hg := mget_out (domV l l.length) (fun h => hD (mem_natI.1 h))
          have hm := endsK_miss (dom := domB l) (h := h) hk' (.inr (by rw [domB_nat]; simp [hD]))
          repeat (first | simp [h30, h29, h24, h22, h23, h6, h1, h5, h7, h8, b0, b262272, b524352, b589824, b786496, hlt, hli, e, hg] | with_reducible refine And.intro (by omega) ?_ | with_reducible refine optK_if (by omega) ?_ | with_reducible refine optD_if (by omega) ?_ | simp (disch := omega) only [wrap_i64, if_pos, if_neg] | with_reducible refine gsel_pure (by with_unfolding_all rfl) _ (fun hg => by (try simp at hg); simp [hg, h30, h29, h24, h22, h23, h6, h1, h5, h7, h8, b0, b262272, b524352, b589824, b786496, hlt, hli, e, hg]; rfl) ?_ | with_reducible refine dsel_pure (by with_unfolding_all rfl) _ (fun hg => by (try simp at hg); simp [hg, h30, h29, h24, h22, h23, h6, h1, h5, h7, h8, b0, b262272, b524352, b589824, b786496, hlt, hli, e, hg]; rfl) ?_ | with_reducible refine awp_draw (by kernel_rfl) (by decide +kernel) ?_)
          refine rPost_normal ⟨by simp [h30, h29, h24, h22, h23, h6, h1, h5, h7, h8, b0, b262272, b524352, b589824, b786496, hlt, hli, hm], by simp [h30, h29, h24, h22, h23, h6, h1, h5, h7, h8, b0, b262272, b524352, b589824, b786496, hlt, hli, hm], by simp [h30, h29, h24, h22, h23, h6, h1, h5, h7, h8, b0, b262272, b524352, b589824, b786496, hlt, hli, hm], by simp [h30, h29, h24, h22, h23, h6, h1, h5, h7, h8, b0, b262272, b524352, b589824, b786496, hlt, hli, hm], by simp [h30, h29, h24, h22, h23, h6, h1, h5, h7, h8, b0, b262272, b524352, b589824, b786496, hlt, hli, hm]⟩
        have hg : mget (natI (domD l l.length)) (domV l l.length) h = some (domC l h) := mget_map (domC l) hD
        by_cases hK : i ∈ domK l h l.length
        · have hg2 := mgetC_in (mem_natI.2 hK)
          obtain ⟨hm1, hm2⟩ := endsK_hit (dom := domB l) hk' hX (by rw [domB_nat]; simp [hD, hK])
          have hel := endsL_len l (domB l) h i
          rw [hm1] at b589824
          repeat (first | simp [h30, h29, h24, h22, h23, h6, h1, h5, h7, h8, b0, b262272, b524352, b589824, b786496, hlt, hli, e, hg, hg2, domC] | with_reducible refine And.intro (by omega) ?_ | with_reducible refine optK_if (by omega) ?_ | with_reducible refine optD_if (by omega) ?_ | simp (disch := omega) only [wrap_i64, if_pos, if_neg] | with_reducible refine gsel_pure (by with_unfolding_all rfl) _ (fun hg => by (try simp at hg); simp [hg, h30, h29, h24, h22, h23, h6, h1, h5, h7, h8, b0, b262272, b524352, b589824, b786496, hlt, hli, e, hg, hg2, domC]; rfl) ?_ | with_reducible refine dsel_pure (by with_unfolding_all rfl) _ (fun hg => by (try simp at hg); simp [hg, h30, h29, h24, h22, h23, h6, h1, h5, h7, h8, b0, b262272, b524352, b589824, b786496, hlt, hli, e, hg, hg2, domC]; rfl) ?_ | with_reducible refine awp_draw (by kernel_rfl) (by decide +kernel) ?_)
          refine rPost_normal ⟨by simp [h30, h29, h24, h22, h23, h6, h1, h5, h7, h8, b0, b262272, b524352, b589824, b786496, hlt, hli, hm2, natI_append, intsC_append], by simp [h30, h29, h24, h22, h23, h6, h1, h5, h7, h8, b0, b262272, b524352, b589824, b786496, hlt, hli, hm2, natI_append, intsC_append], by simp [h30, h29, h24, h22, h23, h6, h1, h5, h7, h8, b0, b262272, b524352, b589824, b786496, hlt, hli, hm2, natI_append, intsC_append], by simp [h30, h29, h24, h22, h23, h6, h1, h5, h7, h8, b0, b262272, b524352, b589824, b786496, hlt, hli, hm2, natI_append, intsC_append], by simp [h30, h29, h24, h22, h23, h6, h1, h5, h7, h8, b0, b262272, b524352, b589824, b786496, hlt, hli, hm2, natI_append, intsC_append]⟩
        · have hg2 := mget_out (cstC (natI (domK l h l.length))) (fun h => hK (mem_natI.1 h))
          have hm := endsK_miss (dom := domB l) (h := h) hk' (.inr (by rw [domB_nat]; simp [hK]))
          repeat (first | simp [h30, h29, h24, h22, h23, h6, h1, h5, h7, h8, b0, b262272, b524352, b589824, b786496, hlt, hli, e, hg, hg2, domC] | with_reducible refine And.intro (by omega) ?_ | with_reducible refine optK_if (by omega) ?_ | with_reducible refine optD_if (by omega) ?_ | simp (disch := omega) only [wrap_i64, if_pos, if_neg] | with_reducible refine gsel_pure (by with_unfolding_all rfl) _ (fun hg => by (try simp at hg); simp [hg, h30, h29, h24, h22, h23, h6, h1, h5, h7, h8, b0, b262272, b524352, b589824, b786496, hlt, hli, e, hg, hg2, domC]; rfl) ?_ | with_reducible refine dsel_pure (by with_unfolding_all rfl) _ (fun hg => by (try simp at hg); simp [hg, h30, h29, h24, h22, h23, h6, h1, h5, h7, h8, b0, b262272, b524352, b589824, b786496, hlt, hli, e, hg, hg2, domC]; rfl) ?_ | with_reducible refine awp_draw (by kernel_rfl) (by decide +kernel) ?_)
          refine rPost_normal ⟨by simp [h30, h29, h24, h22, h23, h6, h1, h5, h7, h8, b0, b262272, b524352, b589824, b786496, hlt, hli, hm], by simp [h30, h29, h24, h22, h23, h6, h1, h5, h7, h8, b0, b262272, b524352, b589824, b786496, hlt, hli, hm], by simp [h30, h29, h24, h22, h23, h6, h1, h5, h7, h8, b0, b262272, b524352, b589824, b786496, hlt, hli, hm], by simp [h30, h29, h24, h22, h23, h6, h1, h5, h7, h8, b0, b262272, b524352, b589824, b786496, hlt, hli, hm], by simp [h30, h29, h24, h22, h23, h6, h1, h5, h7, h8, b0, b262272, b524352, b589824, b786496, hlt, hli, hm]⟩
      · simp only [evs_length, natI_length, endsK_end] at b589824
        repeat (first | simp [h30, h29, h24, h22, h23, h6, h1, h5, h7, h8, b0, b262272, b524352, b589824, b786496, hlt, hli] | with_reducible refine And.intro (by omega) ?_ | with_reducible refine optK_if (by omega) ?_ | with_reducible refine optD_if (by omega) ?_ | simp (disch := omega) only [wrap_i64, if_pos, if_neg] | with_reducible refine gsel_pure (by with_unfolding_all rfl) _ (fun hg => by (try simp at hg); simp [hg, h30, h29, h24, h22, h23, h6, h1, h5, h7, h8, b0, b262272, b524352, b589824, b786496, hlt, hli]; rfl) ?_ | with_reducible refine dsel_pure (by with_unfolding_all rfl) _ (fun hg => by (try simp at hg); simp [hg, h30, h29, h24, h22, h23, h6, h1, h5, h7, h8, b0, b262272, b524352, b589824, b786496, hlt, hli]; rfl) ?_ | with_reducible refine awp_draw (by kernel_rfl) (by decide +kernel) ?_)
        refine hLB (i + 1) _ ⟨by first | omega | assumption | (simp; done) | (simp; omega), by simp [h30, h29, h24, h22, h23, h6, h1, h5, h7, h8, b0, b262272, b524352, b589824, b786496, hlt, hli], by simp [h30, h29, h24, h22, h23, h6, h1, h5, h7, h8, b0, b262272, b524352, b589824, b786496, hlt, hli], by simp [h30, h29, h24, h22, h23, h6, h1, h5, h7, h8, b0, b262272, b524352, b589824, b786496, hlt, hli], by simp [h30, h29, h24, h22, h23, h6, h1, h5, h7, h8, b0, b262272, b524352, b589824, b786496, hlt, hli], by simp [h30, h29, h24, h22, h23, h6, h1, h5, h7, h8, b0, b262272, b524352, b589824, b786496, hlt, hli], by simp [h30, h29, h24, h22, h23, h6, h1, h5, h7, h8, b0, b262272, b524352, b589824, b786496, hlt, hli], by simp [h30, h29, h24, h22, h23, h6, h1, h5, h7, h8, b0, b262272, b524352, b589824, b786496, hlt, hli], by simp [h30, h29, h24, h22, h23, h6, h1, h5, h7, h8, b0, b262272, b524352, b589824, b786496, hlt, hli], by simp [h30, h29, h24, h22, h23, h6, h1, h5, h7, h8, b0, b262272, b524352, b589824, b786496, hlt, hli], by simp [h30, h29, h24, h22, h23, h6, h1, h5, h7, h8, b0, b262272, b524352, b589824, b786496, hlt, hli], by simp [h30, h29, h24, h22, h23, h6, h1, h5, h7, h8, b0, b262272, b524352, b589824, b786496, hlt, hli], by simp [h30, h29, h24, h22, h23, h6, h1, h5, h7, h8, b0, b262272, b524352, b589824, b786496, hlt, hli], by simp [h30, h29, h24, h22, h23, h6, h1, h5, h7, h8, b0, b262272, b524352, b589824, b786496, hlt, hli], by simp [h30, h29, h24, h22, h23, h6, h1, h5, h7, h8, b0, b262272, b524352, b589824, b786496, hlt, hli]⟩ (by first | omega | (simp; omega))
    · have : i = l.length := by omega
      subst this
      have hel := endsL_len l (domB l) h l.length
      have helt : ∀ x ∈ endsL l (domB l) h l.length, x < l.length := fun x hx => endsL_lt hx
      have hls : loopsL l (h + 1) = if endsL l (domB l) h l.length = [] then loopsL l h else loopsL l h ++ [loopL l h] := rfl
      have hll : loopL l h = loopT h (sortL (natI (bodyL l h (endsL l (domB l) h l.length))) l.length) l.length := rfl
      generalize endsL l (domB l) h l.length = E at *
      by_cases hE : E = []
      · rw [if_pos hE] at hls
        have e : eqI (E.length : Int) 0 = true := by simp [eqI, hE]
        repeat (first | simp [h30, h29, h24, h22, h23, h6, h1, b0, h5, b262272, h7, b524352, h8, b589824, hlt, hli, e] | with_reducible refine And.intro (by omega) ?_ | with_reducible refine optK_if (by omega) ?_ | with_reducible refine optD_if (by omega) ?_ | simp (disch := omega) only [wrap_i64, if_pos, if_neg] | with_reducible refine gsel_pure (by with_unfolding_all rfl) _ (fun hg => by (try simp at hg); simp [hg, h30, h29, h24, h22, h23, h6, h1, b0, h5, b262272, h7, b524352, h8, b589824, hlt, hli, e]; rfl) ?_ | with_reducible refine dsel_pure (by with_unfolding_all rfl) _ (fun hg => by (try simp at hg); simp [hg, h30, h29, h24, h22, h23, h6, h1, b0, h5, b262272, h7, b524352, h8, b589824, hlt, hli, e]; rfl) ?_ | with_reducible refine awp_draw (by kernel_rfl) (by decide +kernel) ?_)
        refine hLA (h + 1) _ ⟨by first | omega | assumption | (simp [hls]; done) | (simp [hls]; omega), by simp [h30, h29, h24, h22, h23, h6, h1, b0, h5, b262272, h7, b524352, h8, b589824, hlt, hli, hls], by simp [h30, h29, h24, h22, h23, h6, h1, b0, h5, b262272, h7, b524352, h8, b589824, hlt, hli, hls], by simp [h30, h29, h24, h22, h23, h6, h1, b0, h5, b262272, h7, b524352, h8, b589824, hlt, hli, hls], by simp [h30, h29, h24, h22, h23, h6, h1, b0, h5, b262272, h7, b524352, h8, b589824, hlt, hli, hls], by simp [h30, h29, h24, h22, h23, h6, h1, b0, h5, b262272, h7, b524352, h8, b589824, hlt, hli, hls], by simp [h30, h29, h24, h22, h23, h6, h1, b0, h5, b262272, h7, b524352, h8, b589824, hlt, hli, hls], by simp [h30, h29, h24, h22, h23, h6, h1, b0, h5, b262272, h7, b524352, h8, b589824, hlt, hli, hls], by simp [h30, h29, h24, h22, h23, h6, h1, b0, h5, b262272, h7, b524352, h8, b589824, hlt, hli, hls]⟩ (by first | omega | (simp; omega))
      rw [if_neg hE] at hls
      have e : eqI (E.length : Int) 0 = false := by simp [eqI, hE]
      repeat (first | simp [h30, h29, h24, h22, h23, h6, h1, b0, h5, b262272, h7, b524352, h8, b589824, hlt, hli, e] | with_reducible refine And.intro (by omega) ?_ | with_reducible refine optK_if (by omega) ?_ | with_reducible refine optD_if (by omega) ?_ | simp (disch := omega) only [wrap_i64, if_pos, if_neg] | with_reducible refine gsel_pure (by with_unfolding_all rfl) _ (fun hg => by (try simp at hg); simp [hg, h30, h29, h24, h22, h23, h6, h1, b0, h5, b262272, h7, b524352, h8, b589824, hlt, hli, e]; rfl) ?_ | with_reducible refine dsel_pure (by with_unfolding_all rfl) _ (fun hg => by (try simp at hg); simp [hg, h30, h29, h24, h22, h23, h6, h1, b0, h5, b262272, h7, b524352, h8, b589824, hlt, hli, e]; rfl) ?_ | with_reducible refine awp_draw (by kernel_rfl) (by decide +kernel) ?_)
      refine dq_at' (at_body name l ok h hlt E (by omega) helt) (by (first | simp [h30, h29, h24, h22, h23, h6, h1, b0, h5, b262272, h7, b524352, h8, b589824, hlt, hli] | simp (disch := omega) [h30, h29, h24, h22, h23, h6, h1, b0, h5, b262272, h7, b524352, h8, b589824, hlt, hli, wrap_i64]); try rfl) (by simp) (by (first | simp [h30, h29, h24, h22, h23, h6, h1, b0, h5, b262272, h7, b524352, h8, b589824, hlt, hli] | simp (disch := omega) [h30, h29, h24, h22, h23, h6, h1, b0, h5, b262272, h7, b524352, h8, b589824, hlt, hli, wrap_i64])) ?_
      repeat (first | simp [h30, h29, h24, h22, h23, h6, h1, b0, h5, b262272, h7, b524352, h8, b589824, hlt, hli] | with_reducible refine And.intro (by omega) ?_ | with_reducible refine optK_if (by omega) ?_ | with_reducible refine optD_if (by omega) ?_ | simp (disch := omega) only [wrap_i64, if_pos, if_neg] | with_reducible refine gsel_pure (by with_unfolding_all rfl) _ (fun hg => by (try simp at hg); simp [hg, h30, h29, h24, h22, h23, h6, h1, b0, h5, b262272, h7, b524352, h8, b589824, hlt, hli]; rfl) ?_ | with_reducible refine dsel_pure (by with_unfolding_all rfl) _ (fun hg => by (try simp at hg); simp [hg, h30, h29, h24, h22, h23, h6, h1, b0, h5, b262272, h7, b524352, h8, b589824, hlt, hli]; rfl) ?_ | with_reducible refine awp_draw (by kernel_rfl) (by decide +kernel) ?_)
      refine dq_at' (at_sorted name l (by omega) (natI (bodyL l h E)) (posK_natI _)) (by (first | simp [h30, h29, h24, h22, h23, h6, h1, b0, h5, b262272, h7, b524352, h8, b589824, hlt, hli] | simp (disch := omega) [h30, h29, h24, h22, h23, h6, h1, b0, h5, b262272, h7, b524352, h8, b589824, hlt, hli, wrap_i64]); try rfl) (by simp) (by (first | simp [h30, h29, h24, h22, h23, h6, h1, b0, h5, b262272, h7, b524352, h8, b589824, hlt, hli] | simp (disch := omega) [h30, h29, h24, h22, h23, h6, h1, b0, h5, b262272, h7, b524352, h8, b589824, hlt, hli, wrap_i64])) ?_
      repeat (first | simp [h30, h29, h24, h22, h23, h6, h1, b0, h5, b262272, h7, b524352, h8, b589824, hlt, hli] | with_reducible refine And.intro (by omega) ?_ | with_reducible refine optK_if (by omega) ?_ | with_reducible refine optD_if (by omega) ?_ | simp (disch := omega) only [wrap_i64, if_pos, if_neg] | with_reducible refine gsel_pure (by with_unfolding_all rfl) _ (fun hg => by (try simp at hg); simp [hg, h30, h29, h24, h22, h23, h6, h1, b0, h5, b262272, h7, b524352, h8, b589824, hlt, hli]; rfl) ?_ | with_reducible refine dsel_pure (by with_unfolding_all rfl) _ (fun hg => by (try simp at hg); simp [hg, h30, h29, h24, h22, h23, h6, h1, b0, h5, b262272, h7, b524352, h8, b589824, hlt, hli]; rfl) ?_ | with_reducible refine awp_draw (by kernel_rfl) (by decide +kernel) ?_)
      have hsl := sortL_len (natI (bodyL l h E)) l.length
      have hsm : ∀ j (hj : j < (sortL (natI (bodyL l h E)) l.length).length), (natI (sortL (natI (bodyL l h E)) l.length))[j]'(by simpa using hj) = ((sortL (natI (bodyL l h E)) l.length)[j] : Int) := fun j hj => by simp [natI]
      have hlt0 : loopT h (sortL (natI (bodyL l h E)) l.length) l.length = loopT h (sortL (natI (bodyL l h E)) l.length) (sortL (natI (bodyL l h E)) l.length).length := by
        unfold loopT; rw [List.take_of_length_le hsl, List.take_of_length_le (Nat.le_refl _)]
      rw [hlt0] at hll
      generalize sortL (natI (bodyL l h E)) l.length = SL at *
      refine awp_loopV (fun (j : Nat) (s : St) => (j ≤ SL.length) ∧ s.env 64 = iV .i64 j ∧ s.env 63 = iV .i64 SL.length ∧ s.env 62 = intsA (natI SL) ∧ s.env 11 = .cell (.own 1245248 1 (loopT h SL j).length (intsC (natI (loopT h SL j)))) ∧ s.env 24 = iV .i64 h ∧ s.env 22 = .cell (.p (.sl l.length (codeC l))) ∧ s.env 23 = iV .i64 l.length ∧ s.env 6 = .cell (.own 655360000 1 (loopsL l h).length (listsC (loopsL l h))) ∧ s.env 1 = .cell (.ptr 0 0) ∧ s.box 0 = some (fP name l) ∧ s.env 5 = .cell (.ptr 262272 0) ∧ s.box 262272 = some ([.p (.mp (natI (domD l l.length)) (domV l l.length))]) ∧ s.env 7 = .cell (.ptr 524352 0) ∧ s.box 524352 = some ([.p (iC h)])) (fun (j : Nat) => SL.length - j) (0) ⟨by first | omega | assumption | (simp [loopT]; done) | (simp [loopT]; omega), by simp [h30, h29, h24, h22, h23, h6, h1, b0, h5, b262272, h7, b524352, h8, b589824, hlt, hli, loopT], by simp [h30, h29, h24, h22, h23, h6, h1, b0, h5, b262272, h7, b524352, h8, b589824, hlt, hli, loopT], by simp [h30, h29, h24, h22, h23, h6, h1, b0, h5, b262272, h7, b524352, h8, b589824, hlt, hli, loopT], by simp [h30, h29, h24, h22, h23, h6, h1, b0, h5, b262272, h7, b524352, h8, b589824, hlt, hli, loopT], by simp [h30, h29, h24, h22, h23, h6, h1, b0, h5, b262272, h7, b524352, h8, b589824, hlt, hli, loopT], by simp [h30, h29, h24, h22, h23, h6, h1, b0, h5, b262272, h7, b524352, h8, b589824, hlt, hli, loopT], by simp [h30, h29, h24, h22, h23, h6, h1, b0, h5, b262272, h7, b524352, h8, b589824, hlt, hli, loopT], by simp [h30, h29, h24, h22, h23, h6, h1, b0, h5, b262272, h7, b524352, h8, b589824, hlt, hli, loopT], by simp [h30, h29, h24, h22, h23, h6, h1, b0, h5, b262272, h7, b524352, h8, b589824, hlt, hli, loopT], by simp [h30, h29, h24, h22, h23, h6, h1, b0, h5, b262272, h7, b524352, h8, b589824, hlt, hli, loopT], by simp [h30, h29, h24, h22, h23, h6, h1, b0, h5, b262272, h7, b524352, h8, b589824, hlt, hli, loopT], by simp [h30, h29, h24, h22, h23, h6, h1, b0, h5, b262272, h7, b524352, h8, b589824, hlt, hli, loopT], by simp [h30, h29, h24, h22, h23, h6, h1, b0, h5, b262272, h7, b524352, h8, b589824, hlt, hli, loopT], by simp [h30, h29, h24, h22, h23, h6, h1, b0, h5, b262272, h7, b524352, h8, b589824, hlt, hli, loopT]⟩ fun j s hsF LF hLF => ?_
      obtain ⟨hj, h64, h63, h62, h11, h24, h22, h23, h6, h1, b0, h5, b262272, h7, b524352⟩ := hsF
      repeat (first | simp [h64, h63, h62, h11, h24, h22, h23, h6, h1, b0, h5, b262272, h7, b524352, hlt, hli] | with_reducible refine And.intro (by omega) ?_ | with_reducible refine optK_if (by omega) ?_ | with_reducible refine optD_if (by omega) ?_ | simp (disch := omega) only [wrap_i64, if_pos, if_neg] | with_reducible refine gsel_pure (by with_unfolding_all rfl) _ (fun hg => by (try simp at hg); simp [hg, h64, h63, h62, h11, h24, h22, h23, h6, h1, b0, h5, b262272, h7, b524352, hlt, hli]; rfl) ?_ | with_reducible refine dsel_pure (by with_unfolding_all rfl) _ (fun hg => by (try simp at hg); simp [hg, h64, h63, h62, h11, h24, h22, h23, h6, h1, b0, h5, b262272, h7, b524352, hlt, hli]; rfl) ?_ | with_reducible refine awp_draw (by kernel_rfl) (by decide +kernel) ?_)
      (with_reducible refine condK_intro (fun hlj => ?_) (fun hlj => ?_)) <;> (try simp only [hlj]) <;> (try simp [andB, orB, eqI, ltI, Int.natCast_inj] at hlj)
      · have hsj := hsm j hlj
        have hlp := loopT_succ (h := h) hlj
        have hln := loopT_len h SL j
        repeat (first | simp [h64, h63, h62, h11, h24, h22, h23, h6, h1, b0, h5, b262272, h7, b524352, hlt, hli, hlj, hsj] | with_reducible refine And.intro (by omega) ?_ | with_reducible refine optK_if (by omega) ?_ | with_reducible refine optD_if (by omega) ?_ | simp (disch := omega) only [wrap_i64, if_pos, if_neg] | with_reducible refine gsel_pure (by with_unfolding_all rfl) _ (fun hg => by (try simp at hg); simp [hg, h64, h63, h62, h11, h24, h22, h23, h6, h1, b0, h5, b262272, h7, b524352, hlt, hli, hlj, hsj]; rfl) ?_ | with_reducible refine dsel_pure (by with_unfolding_all rfl) _ (fun hg => by (try simp at hg); simp [hg, h64, h63, h62, h11, h24, h22, h23, h6, h1, b0, h5, b262272, h7, b524352, hlt, hli, hlj, hsj]; rfl) ?_ | with_reducible refine awp_draw (by kernel_rfl) (by decide +kernel) ?_)
        by_cases e2 : SL[j] = h
        · have e3 : eqI (SL[j] : Int) h = true := by simp [eqI, e2]
          rw [if_pos e2, List.append_nil] at hlp
          repeat (first | simp [h64, h63, h62, h11, h24, h22, h23, h6, h1, b0, h5, b262272, h7, b524352, hlt, hli, hlj, hsj, e3] | with_reducible refine And.intro (by omega) ?_ | with_reducible refine optK_if (by omega) ?_ | with_reducible refine optD_if (by omega) ?_ | simp (disch := omega) only [wrap_i64, if_pos, if_neg] | with_reducible refine gsel_pure (by with_unfolding_all rfl) _ (fun hg => by (try simp at hg); simp [hg, h64, h63, h62, h11, h24, h22, h23, h6, h1, b0, h5, b262272, h7, b524352, hlt, hli, hlj, hsj, e3]; rfl) ?_ | with_reducible refine dsel_pure (by with_unfolding_all rfl) _ (fun hg => by (try simp at hg); simp [hg, h64, h63, h62, h11, h24, h22, h23, h6, h1, b0, h5, b262272, h7, b524352, hlt, hli, hlj, hsj, e3]; rfl) ?_ | with_reducible refine awp_draw (by kernel_rfl) (by decide +kernel) ?_)
          refine hLF (j + 1) _ ⟨by first | omega | assumption | (simp [hlp]; done) | (simp [hlp]; omega), by simp [h64, h63, h62, h11, h24, h22, h23, h6, h1, b0, h5, b262272, h7, b524352, hlt, hli, hlj, hlp], by simp [h64, h63, h62, h11, h24, h22, h23, h6, h1, b0, h5, b262272, h7, b524352, hlt, hli, hlj, hlp], by simp [h64, h63, h62, h11, h24, h22, h23, h6, h1, b0, h5, b262272, h7, b524352, hlt, hli, hlj, hlp], by simp [h64, h63, h62, h11, h24, h22, h23, h6, h1, b0, h5, b262272, h7, b524352, hlt, hli, hlj, hlp], by simp [h64, h63, h62, h11, h24, h22, h23, h6, h1, b0, h5, b262272, h7, b524352, hlt, hli, hlj, hlp], by simp [h64, h63, h62, h11, h24, h22, h23, h6, h1, b0, h5, b262272, h7, b524352, hlt, hli, hlj, hlp], by simp [h64, h63, h62, h11, h24, h22, h23, h6, h1, b0, h5, b262272, h7, b524352, hlt, hli, hlj, hlp], by simp [h64, h63, h62, h11, h24, h22, h23, h6, h1, b0, h5, b262272, h7, b524352, hlt, hli, hlj, hlp], by simp [h64, h63, h62, h11, h24, h22, h23, h6, h1, b0, h5, b262272, h7, b524352, hlt, hli, hlj, hlp], by simp [h64, h63, h62, h11, h24, h22, h23, h6, h1, b0, h5, b262272, h7, b524352, hlt, hli, hlj, hlp], by simp [h64, h63, h62, h11, h24, h22, h23, h6, h1, b0, h5, b262272, h7, b524352, hlt, hli, hlj, hlp], by simp [h64, h63, h62, h11, h24, h22, h23, h6, h1, b0, h5, b262272, h7, b524352, hlt, hli, hlj, hlp], by simp [h64, h63, h62, h11, h24, h22, h23, h6, h1, b0, h5, b262272, h7, b524352, hlt, hli, hlj, hlp], by simp [h64, h63, h62, h11, h24, h22, h23, h6, h1, b0, h5, b262272, h7, b524352, hlt, hli, hlj, hlp]⟩ (by first | omega | (simp; omega))
        · have e3 : eqI (SL[j] : Int) h = false := by simp [eqI]; omega
          rw [if_neg e2] at hlp
          repeat (first | simp [h64, h63, h62, h11, h24, h22, h23, h6, h1, b0, h5, b262272, h7, b524352, hlt, hli, hlj, hsj, e3] | with_reducible refine And.intro (by omega) ?_ | with_reducible refine optK_if (by omega) ?_ | with_reducible refine optD_if (by omega) ?_ | simp (disch := omega) only [wrap_i64, if_pos, if_neg] | with_reducible refine gsel_pure (by with_unfolding_all rfl) _ (fun hg => by (try simp at hg); simp [hg, h64, h63, h62, h11, h24, h22, h23, h6, h1, b0, h5, b262272, h7, b524352, hlt, hli, hlj, hsj, e3]; rfl) ?_ | with_reducible refine dsel_pure (by with_unfolding_all rfl) _ (fun hg => by (try simp at hg); simp [hg, h64, h63, h62, h11, h24, h22, h23, h6, h1, b0, h5, b262272, h7, b524352, hlt, hli, hlj, hsj, e3]; rfl) ?_ | with_reducible refine awp_draw (by kernel_rfl) (by decide +kernel) ?_)
          refine hLF (j + 1) _ ⟨by first | omega | assumption | (simp [hlp, natI_append, intsC_append]; done) | (simp [hlp, natI_append, intsC_append]; omega), by simp [h64, h63, h62, h11, h24, h22, h23, h6, h1, b0, h5, b262272, h7, b524352, hlt, hli, hlj, hlp, natI_append, intsC_append], by simp [h64, h63, h62, h11, h24, h22, h23, h6, h1, b0, h5, b262272, h7, b524352, hlt, hli, hlj, hlp, natI_append, intsC_append], by simp [h64, h63, h62, h11, h24, h22, h23, h6, h1, b0, h5, b262272, h7, b524352, hlt, hli, hlj, hlp, natI_append, intsC_append], by simp [h64, h63, h62, h11, h24, h22, h23, h6, h1, b0, h5, b262272, h7, b524352, hlt, hli, hlj, hlp, natI_append, intsC_append], by simp [h64, h63, h62, h11, h24, h22, h23, h6, h1, b0, h5, b262272, h7, b524352, hlt, hli, hlj, hlp, natI_append, intsC_append], by simp [h64, h63, h62, h11, h24, h22, h23, h6, h1, b0, h5, b262272, h7, b524352, hlt, hli, hlj, hlp, natI_append, intsC_append], by simp [h64, h63, h62, h11, h24, h22, h23, h6, h1, b0, h5, b262272, h7, b524352, hlt, hli, hlj, hlp, natI_append, intsC_append], by simp [h64, h63, h62, h11, h24, h22, h23, h6, h1, b0, h5, b262272, h7, b524352, hlt, hli, hlj, hlp, natI_append, intsC_append], by simp [h64, h63, h62, h11, h24, h22, h23, h6, h1, b0, h5, b262272, h7, b524352, hlt, hli, hlj, hlp, natI_append, intsC_append], by simp [h64, h63, h62, h11, h24, h22, h23, h6, h1, b0, h5, b262272, h7, b524352, hlt, hli, hlj, hlp, natI_append, intsC_append], by simp [h64, h63, h62, h11, h24, h22, h23, h6, h1, b0, h5, b262272, h7, b524352, hlt, hli, hlj, hlp, natI_append, intsC_append], by simp [h64, h63, h62, h11, h24, h22, h23, h6, h1, b0, h5, b262272, h7, b524352, hlt, hli, hlj, hlp, natI_append, intsC_append], by simp [h64, h63, h62, h11, h24, h22, h23, h6, h1, b0, h5, b262272, h7, b524352, hlt, hli, hlj, hlp, natI_append, intsC_append], by simp [h64, h63, h62, h11, h24, h22, h23, h6, h1, b0, h5, b262272, h7, b524352, hlt, hli, hlj, hlp, natI_append, intsC_append]⟩ (by first | omega | (simp; omega))
      · have : j = SL.length := by omega
        subst this
        have hol := loopsL_len l h
        repeat (first | simp [h64, h63, h62, h11, h24, h22, h23, h6, h1, b0, h5, b262272, h7, b524352, hlt, hli, hlj] | with_reducible refine And.intro (by omega) ?_ | with_reducible refine optK_if (by omega) ?_ | with_reducible refine optD_if (by omega) ?_ | simp (disch := omega) only [wrap_i64, if_pos, if_neg] | with_reducible refine gsel_pure (by with_unfolding_all rfl) _ (fun hg => by (try simp at hg); simp [hg, h64, h63, h62, h11, h24, h22, h23, h6, h1, b0, h5, b262272, h7, b524352, hlt, hli, hlj]; rfl) ?_ | with_reducible refine dsel_pure (by with_unfolding_all rfl) _ (fun hg => by (try simp at hg); simp [hg, h64, h63, h62, h11, h24, h22, h23, h6, h1, b0, h5, b262272, h7, b524352, hlt, hli, hlj]; rfl) ?_ | with_reducible refine awp_draw (by kernel_rfl) (by decide +kernel) ?_)
        refine hLA (h + 1) _ ⟨by first | omega | assumption | (simp [hls, hll, listsC_append, listsC]; done) | (simp [hls, hll, listsC_append, listsC]; omega), by simp [h64, h63, h62, h11, h24, h22, h23, h6, h1, b0, h5, b262272, h7, b524352, hlt, hli, hlj, hls, hll, listsC_append, listsC], by simp [h64, h63, h62, h11, h24, h22, h23, h6, h1, b0, h5, b262272, h7, b524352, hlt, hli, hlj, hls, hll, listsC_append, listsC], by simp [h64, h63, h62, h11, h24, h22, h23, h6, h1, b0, h5, b262272, h7, b524352, hlt, hli, hlj, hls, hll, listsC_append, listsC], by simp [h64, h63, h62, h11, h24, h22, h23, h6, h1, b0, h5, b262272, h7, b524352, hlt, hli, hlj, hls, hll, listsC_append, listsC], by simp [h64, h63, h62, h11, h24, h22, h23, h6, h1, b0, h5, b262272, h7, b524352, hlt, hli, hlj, hls, hll, listsC_append, listsC], by simp [h64, h63, h62, h11, h24, h22, h23, h6, h1, b0, h5, b262272, h7, b524352, hlt, hli, hlj, hls, hll, listsC_append, listsC], by simp [h64, h63, h62, h11, h24, h22, h23, h6, h1, b0, h5, b262272, h7, b524352, hlt, hli, hlj, hls, hll, listsC_append, listsC], by simp [h64, h63, h62, h11, h24, h22, h23, h6, h1, b0, h5, b262272, h7, b524352, hlt, hli, hlj, hls, hll, listsC_append, listsC]⟩ (by first | omega | (simp; omega))
  · have : h = l.length := by omega
    subst this
    repeat (first | simp [h24, h22, h23, h6, h1, b0, h5, b262272, hlt] | with_reducible refine And.intro (by omega) ?_ | with_reducible refine optK_if (by omega) ?_ | with_reducible refine optD_if (by omega) ?_ | simp (disch := omega) only [wrap_i64, if_pos, if_neg] | with_reducible refine gsel_pure (by with_unfolding_all rfl) _ (fun hg => by (try simp at hg); simp [hg, h24, h22, h23, h6, h1, b0, h5, b262272, hlt]; rfl) ?_ | with_reducible refine dsel_pure (by with_unfolding_all rfl) _ (fun hg => by (try simp at hg); simp [hg, h24, h22, h23, h6, h1, b0, h5, b262272, hlt]; rfl) ?_ | with_reducible refine awp_draw (by kernel_rfl) (by decide +kernel) ?_)
    refine hQ _ _ (ret2 (by simp [retAV, resAV]; rfl) (by simp; rfl) ?_)
    simp [hf]
end Go.Proofs
end
section
set_option linter.all false
namespace Go.Proofs
open Go.Fw Go.Dr
set_option maxRecDepth 100000

def exL : List I8 := [⟨1, 0, 0, 0, 0, 1, 0, 0⟩, ⟨5, 0, 0, 0, 0, 3, 0, 0⟩, ⟨4, 0, 0, 0, 0, 1, 0, 0⟩, ⟨7, 0, 0, 0, 0, 0, 0, 0⟩]
theorem ex0 : funcE exL = 0 := by decide +kernel
theorem ex1 : sucs exL 1 = [2, 3] := by decide +kernel
theorem ex2 : sortL (leadK exL exL.length) exL.length = [0, 1, 2, 3] := by decide +kernel
theorem ex3 : idomL (domB exL) exL.length exL.length = [-1, 0, 1, 1] := by decide +kernel
theorem ex4 : loopsL exL exL.length = [[1, 2]] := by decide +kernel
theorem exN : At Tryd.prog 15 [fAV ⟨#[]⟩ exL, iV .i64 1] (.tup [intsA [2, 3], iV .i64 0]) := by
  have := at_next ⟨#[]⟩ exL 1
  rw [if_pos (by decide +kernel), ex0, if_pos rfl, if_pos (by decide +kernel)] at this
  exact this
theorem exM : At Tryd.prog 15 [fAV ⟨#[]⟩ exL, iV .i64 4] (.tup [.cell .z, iV .i64 2]) := by
  have := at_next ⟨#[]⟩ exL 4
  rw [if_neg (by decide +kernel), ex0, if_pos rfl, if_neg (by decide +kernel)] at this
  exact this
theorem exD : At Tryd.prog 18 [fAV ⟨#[]⟩ exL] (.tup [intsA [0, 1, 2, 3], iV .i64 0]) := by
  have := at_leaders ⟨#[]⟩ exL
  rw [if_pos ex0, ex0, ex2] at this
  exact this
theorem exO : At Tryd.prog 20 [fAV ⟨#[]⟩ exL] (.tup [.cell (.own 0 1 4 (intsC [-1, 0, 1, 1])), iV .i64 0]) := by
  have := at_dominators ⟨#[]⟩ exL
  rw [if_pos ex0, ex0, ex3] at this
  exact this
theorem exP : At Tryd.prog 22 [fAV ⟨#[]⟩ exL] (.tup [.cell (.own 0 1 1 [.sl 2 [iC 1, iC 2]]), iV .i64 0]) := by
  have := at_loops ⟨#[]⟩ exL
  rw [if_pos ex0, ex0, ex4] at this
  exact this
set_option maxHeartbeats 2000000 in
theorem at_example : At Tryd.prog 14 [] (bV true) := by
  refine at_code mixed Tryd.func14 (by kernel_rfl) rfl (by kernel_rfl) (by kernel_rfl) rfl fun Q hQ => ?_
  repeat (first | simp | with_reducible refine And.intro (by omega) ?_ | with_reducible refine optK_if (by omega) ?_ | with_reducible refine optD_if (by omega) ?_ | simp (disch := omega) only [wrap_i64, if_pos, if_neg] | with_reducible refine gsel_pure (by with_unfolding_all rfl) _ (fun hg => by (try simp at hg); simp [hg]; rfl) ?_ | with_reducible refine dsel_pure (by with_unfolding_all rfl) _ (fun hg => by (try simp at hg); simp [hg]; rfl) ?_ | with_reducible refine awp_draw (by kernel_rfl) (by decide +kernel) ?_)
  refine gop_call' (exN) (by (first | simp [exL, codeC, I8.cvs] | simp (disch := omega) [exL, codeC, I8.cvs, wrap_i64]); try rfl) (by simp) (by simp) ?_
  repeat (first | simp | with_reducible refine And.intro (by omega) ?_ | with_reducible refine optK_if (by omega) ?_ | with_reducible refine optD_if (by omega) ?_ | simp (disch := omega) only [wrap_i64, if_pos, if_neg] | with_reducible refine gsel_pure (by with_unfolding_all rfl) _ (fun hg => by (try simp at hg); simp [hg]; rfl) ?_ | with_reducible refine dsel_pure (by with_unfolding_all rfl) _ (fun hg => by (try simp at hg); simp [hg]; rfl) ?_ | with_reducible refine awp_draw (by kernel_rfl) (by decide +kernel) ?_)
  refine gop_call' (exD) (by (first | simp [exL, codeC, I8.cvs] | simp (disch := omega) [exL, codeC, I8.cvs, wrap_i64]); try rfl) (by simp) (by simp) ?_
  repeat (first | simp | with_reducible refine And.intro (by omega) ?_ | with_reducible refine optK_if (by omega) ?_ | with_reducible refine optD_if (by omega) ?_ | simp (disch := omega) only [wrap_i64, if_pos, if_neg] | with_reducible refine gsel_pure (by with_unfolding_all rfl) _ (fun hg => by (try simp at hg); simp [hg]; rfl) ?_ | with_reducible refine dsel_pure (by with_unfolding_all rfl) _ (fun hg => by (try simp at hg); simp [hg]; rfl) ?_ | with_reducible refine awp_draw (by kernel_rfl) (by decide +kernel) ?_)
  refine gop_call (exO) (by (first | simp [exL, codeC, I8.cvs] | simp (disch := omega) [exL, codeC, I8.cvs, wrap_i64]); try rfl) (by simp) (by simp) ?_
  repeat (first | simp | with_reducible refine And.intro (by omega) ?_ | with_reducible refine optK_if (by omega) ?_ | with_reducible refine optD_if (by omega) ?_ | simp (disch := omega) only [wrap_i64, if_pos, if_neg] | with_reducible refine gsel_pure (by with_unfolding_all rfl) _ (fun hg => by (try simp at hg); simp [hg]; rfl) ?_ | with_reducible refine dsel_pure (by with_unfolding_all rfl) _ (fun hg => by (try simp at hg); simp [hg]; rfl) ?_ | with_reducible refine awp_draw (by kernel_rfl) (by decide +kernel) ?_)
  refine gop_call' (exP) (by (first | simp [exL, codeC, I8.cvs] | simp (disch := omega) [exL, codeC, I8.cvs, wrap_i64]); try rfl) (by simp) (by simp) ?_
  repeat (first | simp | with_reducible refine And.intro (by omega) ?_ | with_reducible refine optK_if (by omega) ?_ | with_reducible refine optD_if (by omega) ?_ | simp (disch := omega) only [wrap_i64, if_pos, if_neg] | with_reducible refine gsel_pure (by with_unfolding_all rfl) _ (fun hg => by (try simp at hg); simp [hg]; rfl) ?_ | with_reducible refine dsel_pure (by with_unfolding_all rfl) _ (fun hg => by (try simp at hg); simp [hg]; rfl) ?_ | with_reducible refine awp_draw (by kernel_rfl) (by decide +kernel) ?_)
  refine gop_call (exM) (by (first | simp [exL, codeC, I8.cvs] | simp (disch := omega) [exL, codeC, I8.cvs, wrap_i64]); try rfl) (by simp) (by simp) ?_
  repeat (first | simp | with_reducible refine And.intro (by omega) ?_ | with_reducible refine optK_if (by omega) ?_ | with_reducible refine optD_if (by omega) ?_ | simp (disch := omega) only [wrap_i64, if_pos, if_neg] | with_reducible refine gsel_pure (by with_unfolding_all rfl) _ (fun hg => by (try simp at hg); simp [hg]; rfl) ?_ | with_reducible refine dsel_pure (by with_unfolding_all rfl) _ (fun hg => by (try simp at hg); simp [hg]; rfl) ?_ | with_reducible refine awp_draw (by kernel_rfl) (by decide +kernel) ?_)
  refine gop_call (at_ints [2, 3] [2, 3] (by simp)) (by (first | simp [wrap_i64] | simp (disch := omega) [wrap_i64]); try rfl) (by simp) (by simp) ?_
  repeat (first | simp | with_reducible refine And.intro (by omega) ?_ | with_reducible refine optK_if (by omega) ?_ | with_reducible refine optD_if (by omega) ?_ | simp (disch := omega) only [wrap_i64, if_pos, if_neg] | with_reducible refine gsel_pure (by with_unfolding_all rfl) _ (fun hg => by (try simp at hg); simp [hg]; rfl) ?_ | with_reducible refine dsel_pure (by with_unfolding_all rfl) _ (fun hg => by (try simp at hg); simp [hg]; rfl) ?_ | with_reducible refine awp_draw (by kernel_rfl) (by decide +kernel) ?_)
  refine gop_call (at_ints [0, 1, 2, 3] [0, 1, 2, 3] (by simp)) (by (first | simp [wrap_i64] | simp (disch := omega) [wrap_i64]); try rfl) (by simp) (by simp) ?_
  repeat (first | simp | with_reducible refine And.intro (by omega) ?_ | with_reducible refine optK_if (by omega) ?_ | with_reducible refine optD_if (by omega) ?_ | simp (disch := omega) only [wrap_i64, if_pos, if_neg] | with_reducible refine gsel_pure (by with_unfolding_all rfl) _ (fun hg => by (try simp at hg); simp [hg]; rfl) ?_ | with_reducible refine dsel_pure (by with_unfolding_all rfl) _ (fun hg => by (try simp at hg); simp [hg]; rfl) ?_ | with_reducible refine awp_draw (by kernel_rfl) (by decide +kernel) ?_)
  refine gop_call (at_ints [-1, 0, 1, 1] [-1, 0, 1, 1] (by simp)) (by (first | simp [wrap_i64] | simp (disch := omega) [wrap_i64]); try rfl) (by simp) (by simp) ?_
  repeat (first | simp | with_reducible refine And.intro (by omega) ?_ | with_reducible refine optK_if (by omega) ?_ | with_reducible refine optD_if (by omega) ?_ | simp (disch := omega) only [wrap_i64, if_pos, if_neg] | with_reducible refine gsel_pure (by with_unfolding_all rfl) _ (fun hg => by (try simp at hg); simp [hg]; rfl) ?_ | with_reducible refine dsel_pure (by with_unfolding_all rfl) _ (fun hg => by (try simp at hg); simp [hg]; rfl) ?_ | with_reducible refine awp_draw (by kernel_rfl) (by decide +kernel) ?_)
  refine gop_call (at_ints [1, 2] [1, 2] (by simp)) (by (first | simp [wrap_i64] | simp (disch := omega) [wrap_i64]); try rfl) (by simp) (by simp) ?_
  repeat (first | simp | with_reducible refine And.intro (by omega) ?_ | with_reducible refine optK_if (by omega) ?_ | with_reducible refine optD_if (by omega) ?_ | simp (disch := omega) only [wrap_i64, if_pos, if_neg] | with_reducible refine gsel_pure (by with_unfolding_all rfl) _ (fun hg => by (try simp at hg); simp [hg]; rfl) ?_ | with_reducible refine dsel_pure (by with_unfolding_all rfl) _ (fun hg => by (try simp at hg); simp [hg]; rfl) ?_ | with_reducible refine awp_draw (by kernel_rfl) (by decide +kernel) ?_)
  refine hQ _ _ (ret2 (by simp [retAV, resAV]; rfl) (by simp; rfl) ?_)
  rfl
end Go.Proofs
end
section
set_option linter.all false
namespace Go.Dr
open Go.Fw

/-- A growing family of sets of numbers below N, each made of the one before, stands still after N steps. -/
theorem stable_of (N : Nat) (A : Nat → Nat → Prop) (mono : ∀ p x, A p x → A (p + 1) x)
    (stab : ∀ p, (∀ x, x < N → A (p + 1) x → A p x) → ∀ q x, p ≤ q → x < N → A q x → A p x) (q x : Nat) (hx : x < N) (h : A q x) : A N x := by
  have mono' : ∀ p r, ∀ x, A p x → A (p + r) x := by
    intro p r
    induction r with
    | zero => exact fun x h => h
    | succ r ih => exact fun x h => mono _ _ (ih x h)
  by_cases hs : ∃ p, p < N ∧ ∀ x, x < N → A (p + 1) x → A p x
  · obtain ⟨p, hp, hs⟩ := hs
    have : A p x := by
      rcases Nat.le_total p q with hq | hq
      · exact stab p hs q x hq hx h
      · have := mono' q (p - q) x h
        rwa [show q + (p - q) = p by omega] at this
    have := mono' p (N - p) x this
    rwa [show p + (N - p) = N by omega] at this
  · have hb : ∀ p, p ≤ N → ∃ L : List Nat, L.Nodup ∧ (∀ x ∈ L, x < N) ∧ (∀ x ∈ L, A p x) ∧ L.length = p := by
      intro p
      induction p with
      | zero => exact fun _ => ⟨[], by simp, by simp, by simp, rfl⟩
      | succ p ih =>
        intro hp
        obtain ⟨L, h1, h2, h3, h4⟩ := ih (by omega)
        have : ∃ y, y < N ∧ A (p + 1) y ∧ ¬ A p y := by
          apply Classical.byContradiction
          intro hn
          exact hs ⟨p, hp, fun y hy hA => Classical.byContradiction fun hna => hn ⟨y, hy, hA, hna⟩⟩
        obtain ⟨y, hy, hA, hna⟩ := this
        refine ⟨L ++ [y], ?_, ?_, ?_, by simp [h4]⟩
        · rw [List.nodup_append]
          exact ⟨h1, by simp, fun a ha b hb => by simp at hb; subst hb; rintro rfl; exact hna (h3 a ha)⟩
        · intro z hz; simp at hz; rcases hz with hz | rfl; exact h2 z hz; exact hy
        · intro z hz; simp at hz; rcases hz with hz | rfl; exact mono _ _ (h3 z hz); exact hA
    obtain ⟨L, h1, h2, h3, h4⟩ := hb N (Nat.le_refl _)
    by_cases hL : x ∈ L
    · exact h3 x hL
    · have := nodup_len (n := N) (l := L ++ [x]) (by
        rw [List.nodup_append]
        exact ⟨h1, by simp, fun a ha b hb => by simp at hb; subst hb; rintro rfl; exact hL ha⟩) (by intro z hz; simp at hz; rcases hz with hz | rfl; exact h2 z hz; exact hx)
      simp at this; omega

/-- What is reached in at most p steps without w. -/
def rd (l : List I8) (w : Int) : Nat → Nat → Prop
  | 0, x => x = 0 ∧ w ≠ 0
  | p + 1, x => rd l w p x ∨ ∃ y, y < l.length ∧ rd l w p y ∧ x ∈ sucs l y ∧ (x : Int) ≠ w
def RE (l : List I8) (w : Int) (x : Nat) : Prop := ∃ p, rd l w p x
theorem rd_mono {l : List I8} {w : Int} {p x : Nat} (h : rd l w p x) : rd l w (p + 1) x := .inl h
theorem rd_stab {l : List I8} {w : Int} {p : Nat} (h : ∀ x, x < l.length → rd l w (p + 1) x → rd l w p x) : ∀ q x, p ≤ q → x < l.length → rd l w q x → rd l w p x
  | 0, x, hq, hx, hr => by have : p = 0 := by omega
                           subst this; exact hr
  | q + 1, x, hq, hx, hr => by
    by_cases e : p = q + 1
    · subst e; exact hr
    · rcases hr with hr | ⟨y, hy, hr, hs, hw⟩
      · exact rd_stab h q x (by omega) hx hr
      · exact h x hx (.inr ⟨y, hy, rd_stab h q y (by omega) hy hr, hs, hw⟩)
theorem RE_rd {l : List I8} {w : Int} {x : Nat} (hx : x < l.length) : RE l w x ↔ rd l w l.length x :=
  ⟨fun ⟨q, h⟩ => stable_of l.length (rd l w) (fun _ _ h => rd_mono h) (fun p h q x hq hx hr => rd_stab h q x hq hx hr) q x hx h, fun h => ⟨_, h⟩⟩
theorem RE_zero {l : List I8} {w : Int} (h : w ≠ 0) : RE l w 0 := ⟨0, rfl, h⟩
theorem RE_step {l : List I8} {w : Int} {x y : Nat} (hy : y < l.length) (h : RE l w y) (hs : x ∈ sucs l y) (hw : (x : Int) ≠ w) : RE l w x := by
  obtain ⟨p, h⟩ := h
  exact ⟨p + 1, .inr ⟨y, hy, h, hs, hw⟩⟩
theorem RE_ne {l : List I8} {w : Int} {x : Nat} (h : RE l w x) : (x : Int) ≠ w := by
  obtain ⟨p, h⟩ := h
  induction p with
  | zero => rw [h.1]; exact fun e => h.2 (by simpa using e.symm)
  | succ p ih => rcases h with h | ⟨y, _, _, _, h⟩; exact ih h; exact h
/-- What is closed and holds the start holds all that is reached. -/
theorem RE_sub {l : List I8} {w : Int} {S : Nat → Prop} (h0 : w ≠ 0 → S 0) (hc : ∀ y x, y < l.length → S y → x ∈ sucs l y → (x : Int) ≠ w → S x) {x : Nat} (h : RE l w x) : S x := by
  obtain ⟨p, h⟩ := h
  induction p generalizing x with
  | zero => rw [h.1]; exact h0 h.2
  | succ p ih => rcases h with h | ⟨y, hy, h, hs, hw⟩; exact ih h; exact hc y x hy (ih h) hs hw

theorem pushV_fold {n : Nat} {w : Int} : ∀ (L : List Nat) (st : List Nat × List Nat),
    (∀ x ∈ st.1, x ∈ (L.foldl (pushV n w) st).1) ∧ (∀ x ∈ st.2, x ∈ (L.foldl (pushV n w) st).2) ∧
    (∀ x ∈ (L.foldl (pushV n w) st).1, x ∈ st.1 ∨ (x ∈ (L.foldl (pushV n w) st).2 ∧ x ∈ L ∧ x < n ∧ (x : Int) ≠ w)) ∧
    (∀ x ∈ (L.foldl (pushV n w) st).2, x ∈ st.2 ∨ x ∈ (L.foldl (pushV n w) st).1) ∧
    (∀ x ∈ L, x < n → (x : Int) ≠ w → x ∈ (L.foldl (pushV n w) st).1)
  | [], st => ⟨fun x h => h, fun x h => h, fun x h => .inl h, fun x h => .inl h, by simp⟩
  | a :: L, st => by
    obtain ⟨h1, h2, h3, h4, h5⟩ := pushV_fold L (pushV n w st a)
    rw [List.foldl_cons]
    have p1 : ∀ x ∈ st.1, x ∈ (pushV n w st a).1 := by unfold pushV; split; simp; intro x hx; exact .inl hx; exact fun x h => h
    have p2 : ∀ x ∈ st.2, x ∈ (pushV n w st a).2 := by unfold pushV; split; simp; intro x hx; exact .inl hx; exact fun x h => h
    have p3 : ∀ x ∈ (pushV n w st a).1, x ∈ st.1 ∨ (x ∈ (pushV n w st a).2 ∧ x = a ∧ x < n ∧ (x : Int) ≠ w) := by
      unfold pushV; split
      · rename_i hc
        intro x hx; simp at hx; rcases hx with hx | rfl
        · exact .inl hx
        · exact .inr ⟨by simp, rfl, hc.1, hc.2.1⟩
      · exact fun x h => .inl h
    have p4 : ∀ x ∈ (pushV n w st a).2, x ∈ st.2 ∨ x ∈ (pushV n w st a).1 := by
      unfold pushV; split
      · intro x hx; simp at hx; rcases hx with hx | rfl
        · exact .inl hx
        · exact .inr (by simp)
      · exact fun x h => .inl h
    have p5 : a < n → (a : Int) ≠ w → a ∈ (pushV n w st a).1 := by
      intro ha hw
      unfold pushV; split
      · simp
      · rename_i hc; exact Classical.byContradiction fun hn => hc ⟨ha, hw, hn⟩
    refine ⟨fun x h => h1 x (p1 x h), fun x h => h2 x (p2 x h), fun x h => ?_, fun x h => ?_, fun x h hn hw => ?_⟩
    · rcases h3 x h with h | ⟨ha, hb, hc⟩
      · rcases p3 x h with h | ⟨ha, hb, hc⟩
        · exact .inl h
        · exact .inr ⟨h2 x ha, by simp [hb], hc⟩
      · exact .inr ⟨ha, by simp [hb], hc⟩
    · rcases h4 x h with h | h
      · rcases p4 x h with h | h
        · exact .inl h
        · exact .inr (h1 x h)
      · exact .inr h
    · rcases List.mem_cons.1 h with rfl | h
      · exact h1 x (p5 hn hw)
      · exact h5 x h hn hw
structure VInv (l : List I8) (w : Int) (seen todo : List Nat) : Prop where
  ok : VOk l.length (seen, todo)
  sub : ∀ x ∈ todo, x ∈ seen
  re : ∀ x ∈ seen, RE l w x
  cl : ∀ y ∈ seen, y ∉ todo → ∀ x ∈ sucs l y, x < l.length → (x : Int) ≠ w → x ∈ seen
theorem visitF_inv {l : List I8} {w : Int} : ∀ (F : Nat) {seen todo : List Nat}, VInv l w seen todo → vms l.length (seen, todo) < F →
    (∀ x ∈ seen, x ∈ visitF l w F seen todo) ∧ VInv l w (visitF l w F seen todo) []
  | 0, _, _, _, h => by omega
  | F + 1, seen, todo, hI, hF => by
    rw [visitF]
    rcases todo.eq_nil_or_concat with rfl | ⟨pre, i, rfl⟩
    · simp; exact hI
    · have g1 : (pre.concat i).getLast? = some i := by simp
      have g2 : (pre.concat i).dropLast = pre := by simp
      rw [g1]
      simp only [g2]
      have hV := hI.ok
      have hV' : VOk l.length (seen, pre) := ⟨hV.nodup, hV.seen, fun x hx => hV.todo x (by simp; exact .inl hx), by have := hV.len; simp at this; simp; omega⟩
      have hi : i < l.length := hV.todo i (by simp)
      have his : i ∈ seen := hI.sub i (by simp)
      have hp := pushL_ok w i hV' _ (Nat.le_refl _)
      have hms : vms l.length (seen, pre.concat i) = vms l.length (seen, pre) + 1 := by simp [vms]; omega
      have hfold := pushV_fold (n := l.length) (w := w) (sucs l i) (seen, pre)
      have ht : (sucs l i).take (sucs l i).length = sucs l i := List.take_of_length_le (Nat.le_refl _)
      have e : pushL l w seen pre i (sucs l i).length = (sucs l i).foldl (pushV l.length w) (seen, pre) := by unfold pushL; rw [ht]
      rw [e] at hp ⊢
      generalize (sucs l i).foldl (pushV l.length w) (seen, pre) = st at *
      obtain ⟨S, T⟩ := st
      simp only at hp hfold ⊢
      obtain ⟨f1, f2, f3, f4, f5⟩ := hfold
      have hI' : VInv l w S T := by
        refine ⟨hp.1, fun x hx => ?_, fun x hx => ?_, fun y hy hyT x hx hxn hxw => ?_⟩
        · rcases f4 x hx with h | h
          · exact f1 x (hI.sub x (by simp; exact .inl h))
          · exact h
        · rcases f3 x hx with h | ⟨_, h2, _, h4⟩
          · exact hI.re x h
          · exact RE_step hi (hI.re i his) h2 h4
        · rcases f3 y hy with h | ⟨h, _⟩
          · by_cases hyi : y = i
            · subst hyi; exact f5 x hx hxn hxw
            · refine f1 x (hI.cl y h ?_ x hx hxn hxw)
              simp
              exact ⟨fun hc => hyT (f2 y hc), hyi⟩
          · exact (hyT h).elim
      have := visitF_inv F hI' (by omega)
      exact ⟨fun x hx => this.1 x (f1 x hx), this.2⟩
/-- What is visited is what is reached. -/
theorem visit_iff {l : List I8} {w : Int} {x : Nat} : x ∈ visitL l w ↔ x < l.length ∧ RE l w x := by
  unfold visitL
  by_cases hc : l.length = 0 ∨ w = 0
  · rw [if_pos hc]
    simp
    intro hx hr
    rcases hc with hc | hc
    · omega
    · subst hc
      have : False := RE_sub (S := fun _ => False) (fun h => h rfl) (fun _ _ _ h _ _ => h) hr
      exact this
  · rw [if_neg hc]
    have hpos : 0 < l.length := by omega
    have hw : w ≠ 0 := fun e => hc (.inr e)
    have hI : VInv l w [0] [0] := ⟨⟨by simp, by simp; omega, by simp; omega, by simp⟩, by simp, by intro x hx; simp at hx; subst hx; exact RE_zero hw, by intro y hy hn; exact (hn hy).elim⟩
    have := visitF_inv (2 * l.length + 2) hI (by simp [vms]; omega)
    generalize visitF l w (2 * l.length + 2) [0] [0] = R at *
    obtain ⟨h1, h2⟩ := this
    constructor
    · exact fun h => ⟨h2.ok.seen x h, h2.re x h⟩
    · rintro ⟨hx, hr⟩
      have := RE_sub (S := fun x => x < l.length → x ∈ R) (fun _ _ => h1 0 (by simp)) (fun y x hy hS hs hw hx => h2.cl y (hS hy) (by simp) x hs hx hw) hr
      exact this hx

/-! Rows of truth values. -/
def bl (n : Nat) (S : Nat → Bool) : List CV := (List.range n).map fun i => bC (S i)
@[simp] theorem bl_length (n : Nat) (S : Nat → Bool) : (bl n S).length = n := by simp [bl]
@[simp] theorem bl_get? {n : Nat} {S : Nat → Bool} {i : Nat} (h : i < n) : (bl n S)[i]? = some (bC (S i)) := by simp [bl, h]
@[simp] theorem bl_get {n : Nat} {S : Nat → Bool} {i : Nat} (h : i < (bl n S).length) : (bl n S)[i] = bC (S i) := by simp [bl]
@[simp] theorem bl_isC (n : Nat) (S : Nat → Bool) : (bl n S).all CV.isC = true := by simp [bl]
def upB (S : Nat → Bool) (i : Nat) (b : Bool) : Nat → Bool := fun j => if j = i then b else S j
theorem bl_set {n : Nat} {S : Nat → Bool} {i : Nat} {b : Bool} : (bl n S).set i (bC b) = bl n (upB S i b) := by
  apply List.ext_getElem
  · simp
  · intro j h1 h2
    rw [List.getElem_set]
    simp [bl, upB]
    by_cases e : i = j
    · simp [e]
    · have : ¬ j = i := fun h => e h.symm
      simp [e, this]
theorem bl_congr {n : Nat} {S S' : Nat → Bool} (h : ∀ i, i < n → S i = S' i) : bl n S = bl n S' := by
  unfold bl
  apply List.map_congr_left
  intro i hi
  rw [h i (by simpa using hi)]
theorem bl_take {n m : Nat} {S : Nat → Bool} (h : m ≤ n) : (bl n S).take m = bl m S := by
  unfold bl
  rw [← List.map_take, List.take_range, Nat.min_eq_left h]
theorem repC_bl : ∀ n : Nat, repC n [bC false] = bl n fun _ => false
  | 0 => rfl
  | n + 1 => by
    rw [repC, repC_bl n]
    unfold bl
    rw [List.range_succ_eq_map]
    simp
/-- Those below n that hold, in increasing order. -/
def selL (S : Nat → Bool) (n : Nat) : List Nat := (List.range n).filter S
theorem selL_succ (S : Nat → Bool) (n : Nat) : selL S (n + 1) = selL S n ++ if S n = true then [n] else [] := by
  unfold selL
  rw [List.range_succ, List.filter_append]
  cases h : S n <;> simp [h]
theorem selL_len (S : Nat → Bool) (n : Nat) : (selL S n).length ≤ n := by
  unfold selL
  exact Nat.le_trans (List.length_filter_le _ _) (by simp)
theorem selL_congr {S S' : Nat → Bool} {n : Nat} (h : ∀ i, i < n → S i = S' i) : selL S n = selL S' n := by
  unfold selL
  apply List.filter_congr
  intro i hi
  exact h i (by simpa using hi)

/-! One pass over the instructions, marking what is reached without w. -/
def wOn (l : List I8) (w : Int) (i : Nat) : Bool := decide (i ∈ visitL l w)
theorem wOn_iff {l : List I8} {w : Int} {i : Nat} : wOn l w i = true ↔ i < l.length ∧ RE l w i := by unfold wOn; rw [decide_eq_true_iff, visit_iff]
/-- S marks no more than what is reached, and at least what is reached in p steps. -/
structure WP (l : List I8) (w : Int) (p : Nat) (S : Nat → Bool) : Prop where
  re : ∀ x, S x = true → RE l w x
  rd : ∀ x, rd l w p x → S x = true
/-- The same, and the successors of what is reached in p steps are marked too, for those below i; and k successors of i. -/
structure WI (l : List I8) (w : Int) (p i k : Nat) (S : Nat → Bool) : Prop where
  re : ∀ x, S x = true → RE l w x
  rd : ∀ x, Dr.rd l w p x → S x = true
  lo : ∀ y, y < i → Dr.rd l w p y → ∀ x ∈ sucs l y, (x : Int) ≠ w → S x = true
  at_ : Dr.rd l w p i → ∀ x ∈ (sucs l i).take k, (x : Int) ≠ w → S x = true
theorem WI.start {l : List I8} {w : Int} {p : Nat} {S : Nat → Bool} (h : WP l w p S) : WI l w p 0 0 S := ⟨h.re, h.rd, fun y hy => by omega, by simp⟩
theorem WI.done {l : List I8} {w : Int} {p : Nat} {S : Nat → Bool} (h : WI l w p l.length 0 S) : WP l w (p + 1) S :=
  ⟨h.re, fun x hx => by
    rcases hx with hx | ⟨y, hy, hr, hs, hw⟩
    · exact h.rd x hx
    · exact h.lo y hy hr x hs hw⟩
theorem WI.next {l : List I8} {w : Int} {p i k : Nat} {S : Nat → Bool} (h : WI l w p i k S) (hk : (sucs l i).length ≤ k ∨ S i = false) : WI l w p (i + 1) 0 S :=
  ⟨h.re, h.rd, fun y hy hr x hs hw => by
    by_cases e : y = i
    · subst e
      rcases hk with hk | hk
      · exact h.at_ hr x (by rw [List.take_of_length_le hk]; exact hs) hw
      · rw [h.rd y hr] at hk; cases hk
    · exact h.lo y (by omega) hr x hs hw, by simp⟩
theorem WI.skip {l : List I8} {w : Int} {p i k : Nat} {S : Nat → Bool} (h : WI l w p i k S) (hk : k < (sucs l i).length) (hw : ((sucs l i)[k] : Int) = w) : WI l w p i (k + 1) S :=
  ⟨h.re, h.rd, h.lo, fun hr x hx hxw => by
    rw [List.take_succ_eq_append_getElem hk, List.mem_append, List.mem_singleton] at hx
    rcases hx with hx | rfl
    · exact h.at_ hr x hx hxw
    · exact (hxw hw).elim⟩
theorem WI.mark {l : List I8} {w : Int} {p i k : Nat} {S : Nat → Bool} (h : WI l w p i k S) (hi : i < l.length) (hS : S i = true) (hk : k < (sucs l i).length) (hw : ((sucs l i)[k] : Int) ≠ w) : WI l w p i (k + 1) (upB S (sucs l i)[k] true) := by
  have up : ∀ x, S x = true → upB S (sucs l i)[k] true x = true := by intro x hx; unfold upB; split; rfl; exact hx
  refine ⟨fun x hx => ?_, fun x hx => up x (h.rd x hx), fun y hy hr x hs hxw => up x (h.lo y hy hr x hs hxw), fun hr x hx hxw => ?_⟩
  · unfold upB at hx
    split at hx
    · rename_i e; subst e; exact RE_step hi (h.re i hS) (List.getElem_mem hk) hw
    · exact h.re x hx
  · rw [List.take_succ_eq_append_getElem hk, List.mem_append, List.mem_singleton] at hx
    rcases hx with hx | rfl
    · exact up x (h.at_ hr x hx hxw)
    · simp [upB]
theorem WP.start {l : List I8} {w : Int} : WP l w 0 (upB (fun _ => false) 0 (decide (w ≠ 0))) := by
  refine ⟨fun x hx => ?_, fun x hx => ?_⟩
  · unfold upB at hx
    split at hx
    · rename_i e; subst e; exact RE_zero (by simpa using hx)
    · cases hx
  · rw [hx.1]; simp [upB, hx.2]
theorem WP.fin {l : List I8} {w : Int} {S : Nat → Bool} (h : WP l w l.length S) : bl l.length S = bl l.length (wOn l w) := by
  apply bl_congr
  intro i hi
  rw [Bool.eq_iff_iff, wOn_iff]
  exact ⟨fun hs => ⟨hi, h.re i hs⟩, fun ⟨_, hr⟩ => h.rd i ((RE_rd hi).1 hr)⟩
end Go.Dr
end
section
set_option linter.all false
namespace Go.Dr
open Go.Fw

/-- In the loop of h after p passes: E at first. -/
def lp (l : List I8) (h : Nat) (E : Nat → Prop) : Nat → Nat → Prop
  | 0, x => E x
  | p + 1, x => lp l h E p x ∨ (x < l.length ∧ wOn l (-1) x = true ∧ ∃ y ∈ sucs l x, y < l.length ∧ y ≠ h ∧ lp l h E p y)
def LP (l : List I8) (h : Nat) (E : Nat → Prop) (x : Nat) : Prop := ∃ p, lp l h E p x
theorem lp_mono {l : List I8} {h : Nat} {E : Nat → Prop} {p x : Nat} (h' : lp l h E p x) : lp l h E (p + 1) x := .inl h'
theorem lp_stab {l : List I8} {h : Nat} {E : Nat → Prop} {p : Nat} (hs : ∀ x, x < l.length → lp l h E (p + 1) x → lp l h E p x) : ∀ q x, p ≤ q → x < l.length → lp l h E q x → lp l h E p x
  | 0, x, hq, hx, hr => by have : p = 0 := by omega
                           subst this; exact hr
  | q + 1, x, hq, hx, hr => by
    by_cases e : p = q + 1
    · subst e; exact hr
    · rcases hr with hr | ⟨hy, ho, y, hys, hyn, hyh, hr⟩
      · exact lp_stab hs q x (by omega) hx hr
      · exact hs x hx (.inr ⟨hy, ho, y, hys, hyn, hyh, lp_stab hs q y (by omega) hyn hr⟩)
theorem LP_lp {l : List I8} {h : Nat} {E : Nat → Prop} {x : Nat} (hx : x < l.length) : LP l h E x ↔ lp l h E l.length x :=
  ⟨fun ⟨q, h'⟩ => stable_of l.length (lp l h E) (fun _ _ h => lp_mono h) (fun p h q x hq hx hr => lp_stab h q x hq hx hr) q x hx h', fun h => ⟨_, h⟩⟩
theorem LP_step {l : List I8} {h : Nat} {E : Nat → Prop} {x y : Nat} (hx : x < l.length) (ho : wOn l (-1) x = true) (hs : y ∈ sucs l x) (hy : y < l.length) (hyh : y ≠ h) (hr : LP l h E y) : LP l h E x := by
  obtain ⟨p, hr⟩ := hr
  exact ⟨p + 1, .inr ⟨hx, ho, y, hs, hy, hyh, hr⟩⟩
theorem LP_sub {l : List I8} {h : Nat} {E : Nat → Prop} {S : Nat → Prop} (h0 : ∀ x, E x → S x) (hc : ∀ x y, x < l.length → wOn l (-1) x = true → y ∈ sucs l x → y < l.length → y ≠ h → S y → S x) {x : Nat} (hr : LP l h E x) : S x := by
  obtain ⟨p, hr⟩ := hr
  induction p generalizing x with
  | zero => exact h0 x hr
  | succ p ih => rcases hr with hr | ⟨hx, ho, y, hs, hy, hyh, hr⟩; exact ih hr; exact hc x y hx ho hs hy hyh (ih hr)

/-! The body that is grown. -/
structure GInv (l : List I8) (h : Nat) (E : Nat → Prop) (S : List Nat) : Prop where
  ok : SOk l.length S
  sub : ∀ x, E x → x ∈ S
  snd : ∀ x ∈ S, x = h ∨ LP l h E x
theorem wOn_mem {l : List I8} {w : Int} {i : Nat} : wOn l w i = true ↔ i ∈ visitL l w := by unfold wOn; rw [decide_eq_true_iff]
theorem growI_inv {l : List I8} {h : Nat} {E : Nat → Prop} {S : List Nat} {i : Nat} (hI : GInv l h E S) (hi : i < l.length) : GInv l h E (growI l h S i) := by
  have hok := (growI_ok (h := h) hI.ok hi).1
  unfold growI growK at *
  split
  · rename_i hc
    rw [if_pos hc] at hok
    split
    · rename_i hh
      rw [if_pos hh] at hok
      refine ⟨hok, fun x hx => by simp; exact .inl (hI.sub x hx), fun x hx => ?_⟩
      simp at hx
      rcases hx with hx | rfl
      · exact hI.snd x hx
      · unfold hitK at hh
        rw [List.take_of_length_le (Nat.le_refl _), List.any_eq_true] at hh
        obtain ⟨y, hys, hy⟩ := hh
        simp at hy
        rcases hI.snd y hy.2 with e | e
        · exact (hy.1 e).elim
        · exact .inr (LP_step hi (wOn_mem.2 hc.1) hys (hI.ok.lt y hy.2) hy.1 e)
    · exact hI
  · exact hI
theorem growP_inv {l : List I8} {h : Nat} {E : Nat → Prop} {S : List Nat} (hI : GInv l h E S) : ∀ m, m ≤ l.length → GInv l h E (growP l h S m)
  | 0, _ => hI
  | m + 1, hm => growI_inv (growP_inv hI m (by omega)) (by omega)
theorem growI_same {l : List I8} {h : Nat} {S : List Nat} {i : Nat} (he : (growI l h S i).length = S.length) : growI l h S i = S ∧ (i ∈ visitL l (-1) → i ∉ S → ∀ y ∈ sucs l i, y ≠ h → y ∉ S) := by
  unfold growI growK at *
  split
  · rename_i hc
    rw [if_pos hc] at he
    split
    · rename_i hh; rw [if_pos hh] at he; simp at he
    · rename_i hh
      refine ⟨rfl, fun _ _ y hy hyh hyS => hh ?_⟩
      unfold hitK
      rw [List.take_of_length_le (Nat.le_refl _), List.any_eq_true]
      exact ⟨y, hy, by simp [hyh, hyS]⟩
  · rename_i hc
    exact ⟨rfl, fun h1 h2 => (hc ⟨h1, h2⟩).elim⟩
theorem growP_len {l : List I8} {h : Nat} {S : List Nat} (ho : SOk l.length S) {m : Nat} (hm : m < l.length) : (growP l h S m).length ≤ (growP l h S (m + 1)).length := by
  have := growP_ok (h := h) ho m (by omega)
  exact (growI_ok this.1 hm).2
theorem growP_same {l : List I8} {h : Nat} {S : List Nat} (ho : SOk l.length S) : ∀ m, m ≤ l.length → (growP l h S m).length = S.length → growP l h S m = S ∧ ∀ i, i < m → i ∈ visitL l (-1) → i ∉ S → ∀ y ∈ sucs l i, y ≠ h → y ∉ S
  | 0, _, _ => ⟨rfl, fun i hi => by omega⟩
  | m + 1, hm, he => by
    have h1 := growP_len (h := h) ho (m := m) (by omega)
    have h2 := (growP_ok (h := h) ho m (by omega)).2
    obtain ⟨h3, h4⟩ := growP_same (h := h) ho m (by omega) (by omega)
    rw [growP] at he ⊢
    rw [h3] at he ⊢
    obtain ⟨h5, h6⟩ := growI_same he
    refine ⟨h5, fun i hi => ?_⟩
    by_cases e : i = m
    · subst e; exact h6
    · exact h4 i (by omega)
theorem bodyG_inv {l : List I8} {h : Nat} {E : Nat → Prop} : ∀ (F : Nat) (g : Bool) {S : List Nat}, GInv l h E S → 2 * (l.length - S.length) + (if g = true then 1 else 0) < F →
    (g = false → ∀ i, i < l.length → i ∈ visitL l (-1) → i ∉ S → ∀ y ∈ sucs l i, y ≠ h → y ∉ S) →
    GInv l h E (bodyG l h F g S) ∧ (∀ x ∈ S, x ∈ bodyG l h F g S) ∧ ∀ i, i < l.length → i ∈ visitL l (-1) → i ∉ bodyG l h F g S → ∀ y ∈ sucs l i, y ≠ h → y ∉ bodyG l h F g S
  | 0, _, _, _, hF, _ => by omega
  | F + 1, g, S, hI, hF, hg => by
    rw [bodyG]
    cases g
    · simp only [Bool.false_eq_true, if_false]; exact ⟨hI, fun x h => h, hg rfl⟩
    · simp only [if_true] at hF ⊢
      have hI' := growP_inv hI l.length (Nat.le_refl _)
      have hok := growP_ok (h := h) hI.ok l.length (Nat.le_refl _)
      have hn1 := nodup_len hok.1.nodup hok.1.lt
      have hn2 := nodup_len hI.ok.nodup hI.ok.lt
      have hsub : ∀ m, ∀ x ∈ S, x ∈ growP l h S m := by
        intro m
        induction m with
        | zero => exact fun x h => h
        | succ m ih =>
          intro x hx
          rw [growP]; unfold growI growK
          split
          · split
            · simp; exact .inl (ih x hx)
            · exact ih x hx
          · exact ih x hx
      have := bodyG_inv F (decide ((growP l h S l.length).length ≠ S.length)) hI' (by
        by_cases e : (growP l h S l.length).length = S.length
        · simp [e]; omega
        · simp [e]; omega) (by
        intro he
        have he : (growP l h S l.length).length = S.length := by simpa using he
        obtain ⟨h3, h4⟩ := growP_same hI.ok l.length (Nat.le_refl _) he
        rw [h3]; exact h4)
      exact ⟨this.1, fun x hx => this.2.1 x (hsub _ x hx), this.2.2⟩
theorem endsS_mem {h : Nat} {ends : List Nat} : ∀ k, k ≤ ends.length → ∀ x, x ∈ endsS h ends k ↔ x = h ∨ x ∈ ends.take k
  | 0, _, x => by simp [endsS]
  | k + 1, hk, x => by
    rw [endsS_succ hk, List.take_succ_eq_append_getElem hk, List.mem_append, ← or_assoc, ← endsS_mem k (by omega) x]
    unfold addN
    split
    · rename_i hc
      constructor
      · exact .inl
      · rintro (h | h)
        · exact h
        · simp at h; subst h; exact hc
    · simp
/-- Who is in the body. -/
theorem body_iff {l : List I8} {h : Nat} {ends : List Nat} (hh : h < l.length) (he : ∀ x ∈ ends, x < l.length) (x : Nat) (hx : x < l.length) (hxh : x ≠ h) : x ∈ bodyL l h ends ↔ LP l h (fun x => x ∈ ends) x := by
  have hS := endsS_ok hh he _ (Nat.le_refl ends.length)
  have hm := endsS_mem (h := h) (ends := ends) _ (Nat.le_refl ends.length)
  rw [List.take_of_length_le (Nat.le_refl _)] at hm
  have hI : GInv l h (fun x => x ∈ ends) (endsS h ends ends.length) := by
    refine ⟨hS, fun x hx => (hm x).2 (.inr hx), fun x hx => ?_⟩
    rcases (hm x).1 hx with h | h
    · exact .inl h
    · exact .inr ⟨0, h⟩
  have hb : bodyL l h ends = bodyG l h (2 * l.length + 2) true (endsS h ends ends.length) := rfl
  have hG := bodyG_inv (2 * l.length + 2) true hI (by simp; omega) (by simp)
  rw [← hb] at hG
  obtain ⟨h1, h2, h3⟩ := hG
  constructor
  · intro hxb
    rcases h1.snd x hxb with e | e
    · exact (hxh e).elim
    · exact e
  · intro hr
    exact LP_sub (S := fun x => x ∈ bodyL l h ends) (fun x hx => h1.sub x hx) (fun x y hx ho hs hy hyh hyb => Classical.byContradiction fun hn => h3 x hx (wOn_mem.1 ho) hn y hs hyh hyb) hr

/-! The reference's passes. -/
structure LI (l : List I8) (h : Nat) (E : Nat → Prop) (p i k : Nat) (S : Nat → Bool) : Prop where
  snd : ∀ x, S x = true → LP l h E x
  cp : ∀ x, lp l h E p x → S x = true
  lo : ∀ x, x < i → wOn l (-1) x = true → (∃ y ∈ sucs l x, y < l.length ∧ y ≠ h ∧ lp l h E p y) → S x = true
  at_ : wOn l (-1) i = true → (∃ y ∈ (sucs l i).take k, y < l.length ∧ y ≠ h ∧ lp l h E p y) → S i = true
structure LPs (l : List I8) (h : Nat) (E : Nat → Prop) (p : Nat) (S : Nat → Bool) : Prop where
  snd : ∀ x, S x = true → LP l h E x
  cp : ∀ x, lp l h E p x → S x = true
theorem LI.start {l : List I8} {h : Nat} {E : Nat → Prop} {p : Nat} {S : Nat → Bool} (H : LPs l h E p S) : LI l h E p 0 0 S := ⟨H.snd, H.cp, fun x hx => by omega, by simp⟩
theorem LI.done {l : List I8} {h : Nat} {E : Nat → Prop} {p : Nat} {S : Nat → Bool} (H : LI l h E p l.length 0 S) : LPs l h E (p + 1) S :=
  ⟨H.snd, fun x hx => by
    rcases hx with hx | ⟨hx, ho, hr⟩
    · exact H.cp x hx
    · exact H.lo x hx ho hr⟩
theorem LI.next {l : List I8} {h : Nat} {E : Nat → Prop} {p i : Nat} {S : Nat → Bool} (H : LI l h E p i (sucs l i).length S) : LI l h E p (i + 1) 0 S :=
  ⟨H.snd, H.cp, fun x hx ho hr => by
    by_cases e : x = i
    · subst e; exact H.at_ ho (by rw [List.take_of_length_le (Nat.le_refl _)]; exact hr)
    · exact H.lo x (by omega) ho hr, by simp⟩
theorem LI.skip {l : List I8} {h : Nat} {E : Nat → Prop} {p i k : Nat} {S : Nat → Bool} (H : LI l h E p i k S) (hk : k < (sucs l i).length)
    (hn : wOn l (-1) i = false ∨ ¬ (sucs l i)[k] < l.length ∨ (sucs l i)[k] = h ∨ S (sucs l i)[k] = false) : LI l h E p i (k + 1) S :=
  ⟨H.snd, H.cp, H.lo, fun ho ⟨y, hys, hy, hyh, hr⟩ => by
    rw [List.take_succ_eq_append_getElem hk, List.mem_append, List.mem_singleton] at hys
    rcases hys with hys | rfl
    · exact H.at_ ho ⟨y, hys, hy, hyh, hr⟩
    · have := H.cp _ hr
      rcases hn with hn | hn | hn | hn
      · rw [hn] at ho; cases ho
      · exact (hn hy).elim
      · exact (hyh hn).elim
      · rw [hn] at this; cases this⟩
theorem LI.mark {l : List I8} {h : Nat} {E : Nat → Prop} {p i k : Nat} {S : Nat → Bool} (H : LI l h E p i k S) (hi : i < l.length) (hk : k < (sucs l i).length) (ho : wOn l (-1) i = true) (hy : (sucs l i)[k] < l.length) (hyh : (sucs l i)[k] ≠ h) (hS : S (sucs l i)[k] = true) : LI l h E p i (k + 1) (upB S i true) := by
  have up : ∀ x, S x = true → upB S i true x = true := by intro x hx; unfold upB; split; rfl; exact hx
  refine ⟨fun x hx => ?_, fun x hx => up x (H.cp x hx), fun x hx ho hr => up x (H.lo x hx ho hr), fun _ _ => by simp [upB]⟩
  unfold upB at hx
  split at hx
  · rename_i e; subst e; exact LP_step hi ho (List.getElem_mem hk) hy hyh (H.snd _ hS)
  · exact H.snd x hx
theorem LPs.fin {l : List I8} {h : Nat} {E : Nat → Prop} {S : Nat → Bool} (H : LPs l h E l.length S) {x : Nat} (hx : x < l.length) : S x = true ↔ LP l h E x :=
  ⟨H.snd x, fun hr => H.cp x ((LP_lp hx).1 hr)⟩

/-- Which instructions d dominates, as the reference tells it. -/
def domR (l : List I8) (d i : Nat) : Bool := wOn l (-1) d && wOn l (-1) i && !wOn l d i
theorem wOn_lt {l : List I8} {w : Int} {i : Nat} (h : wOn l w i = true) : i < l.length := (wOn_iff.1 h).1
theorem domR_eq {l : List I8} {d i : Nat} (hd : d < l.length) (hi : i < l.length) : domR l d i = domB l d i := by
  rw [domB_nat, Bool.eq_iff_iff]
  unfold domR domD domK
  simp [wOn_mem, ← wOn_mem, hd, hi]
  constructor
  · rintro ⟨⟨h1, h2⟩, h3⟩; exact ⟨h1, h2, h3⟩
  · rintro ⟨h1, h2, h3⟩; exact ⟨⟨h1, h2⟩, h3⟩
/-- Where a loop of h ends. -/
def enR (l : List I8) (h i k : Nat) : Bool := decide (h ∈ (sucs l i).take k) && domR l h i
theorem ends_iff {l : List I8} {h x : Nat} (hh : h < l.length) : x ∈ endsL l (domB l) h l.length ↔ x < l.length ∧ enR l h x (sucs l x).length = true := by
  unfold endsL enR
  rw [List.take_of_length_le (Nat.le_refl _)]
  simp
  intro hx
  rw [domR_eq hh hx]
  exact fun _ => rfl
/-- The loop of a header, as the reference tells it. -/
theorem loop_ref {l : List I8} {h : Nat} (hh : h < l.length) {S : Nat → Bool} (H : LPs l h (fun x => x ∈ endsL l (domB l) h l.length) l.length S) : loopL l h = h :: selL (fun i => S i && decide (i ≠ h)) l.length := by
  unfold loopL loopT sortL selL
  rw [List.take_of_length_le (Nat.le_trans (List.length_filter_le _ _) (by simp)), List.filter_filter]
  congr 1
  apply List.filter_congr
  intro i hi
  have hi : i < l.length := by simpa using hi
  by_cases e : i = h
  · simp [e]
  · have := body_iff (ends := endsL l (domB l) h l.length) hh (fun x hx => endsL_lt hx) i hi e
    rw [Bool.eq_iff_iff]
    simp [e, mem_natI, this, H.fin hi]
end Go.Dr
end
section
set_option linter.all false
namespace Go.Dr
open Go.Fw
def insL : List Int → Int → List Int
  | [], n => [n]
  | x :: s, n => if x < n then x :: insL s n else n :: x :: s
theorem insL_stop {s : List Int} {n : Int} {k : Nat} (h : ∀ hk : k < s.length, ¬ s[k] < n) : insL (s.drop k) n = n :: s.drop k := by
  rcases Nat.lt_or_ge k s.length with hk | hk
  · rw [List.drop_eq_getElem_cons hk, insL, if_neg (h hk)]
  · rw [List.drop_eq_nil_of_le hk]; rfl
theorem insL_go {s : List Int} {n : Int} {k : Nat} (hk : k < s.length) (h : s[k] < n) (he : insL s n = s.take k ++ insL (s.drop k) n) : insL s n = s.take (k + 1) ++ insL (s.drop (k + 1)) n := by
  rw [he, List.drop_eq_getElem_cons hk, insL, if_pos h, List.take_succ_eq_append_getElem hk, List.append_assoc]; rfl
theorem insL_fin {x : List Int} {n : Int} {k : Nat} (hk : k ≤ x.length) (he : insL x n = x.take k ++ n :: x.drop k) :
    AV.cell (.own 0 1 (k + 1 + (x.length - k)) ((intsC x).take k ++ .c (.int .i64 n) :: ((intsC x).drop k).take (x.length - k))) = .cell (.own 0 1 (x.length + 1) (intsC (insL x n))) := by
  have h1 : k + 1 + (x.length - k) = x.length + 1 := by omega
  have h2 : ((intsC x).drop k).take (x.length - k) = intsC (x.drop k) := by
    rw [intsC_drop, List.take_of_length_le (by simp)]
  rw [h1, h2, he, intsC_append, intsC_take]; rfl
theorem insL_len : ∀ (s : List Int) (n : Int), (insL s n).length = s.length + 1
  | [], n => rfl
  | x :: s, n => by rw [insL]; split <;> simp [insL_len]
def makI (out : List Int) (x : Int) : List Int := if x ∈ out then out else insL out x
def makL (l : List Int) : List Int := l.foldl makI []
theorem makL_succ {l : List Int} {k : Nat} (h : k < l.length) : makL (l.take (k + 1)) = makI (makL (l.take k)) l[k] := by
  unfold makL
  rw [List.take_succ_eq_append_getElem h, List.foldl_append]; rfl
theorem makL_len : ∀ (l : List Int) (k : Nat), k ≤ l.length → (makL (l.take k)).length ≤ k
  | l, 0, _ => by simp [makL]
  | l, k + 1, h => by
    rw [makL_succ h]
    have := makL_len l k (by omega)
    unfold makI
    split
    · omega
    · rw [insL_len]; omega
theorem make_two (a b : Int) : makL [a, b] = if a = b then [b] else if a < b then [a, b] else [b, a] := by
  simp only [makL, List.foldl, makI, insL, List.not_mem_nil, if_false, List.mem_singleton]
  by_cases e : a = b
  · simp [e]
  · have e' : ¬ b = a := fun h => e h.symm
    rw [if_neg e', if_neg e]
def inB (ks : List Int) : Nat → Bool := fun i => decide ((i : Int) ∈ ks)
theorem inB_add {n : Nat} (ks : List Int) (i : Nat) : (bl n (inB ks)).set i (bC true) = bl n (inB (addK ks i)) := by
  rw [bl_set]
  apply bl_congr
  intro j hj
  unfold upB inB addK
  by_cases h : (i : Int) ∈ ks
  · rw [if_pos h]
    split
    · rename_i e; subst e; simp [h]
    · rfl
  · rw [if_neg h]
    split
    · rename_i e; subst e; simp
    · rename_i e
      have : ¬ (j : Int) = i := by omega
      simp [this]
theorem inB_add1 {n : Nat} (ks : List Int) (i : Nat) : (bl n (inB ks)).set (i + 1) (bC true) = bl n (inB (addK ks ((i : Int) + 1))) := inB_add ks (i + 1)
theorem inB_start {n : Nat} : (bl n fun _ => false).set 0 (bC true) = bl n (inB [0]) := by
  have := inB_add (n := n) [] 0
  have e : bl n (inB []) = bl n fun _ => false := bl_congr fun i _ => by simp [inB]
  rw [e] at this
  exact this
end Go.Dr
namespace Go.Proofs
open Go.Fw Go.Dr
set_option maxRecDepth 100000

theorem at_hasI (x : List Int) (n : Int) (hs : x.length ≤ 1000000) : At Tryd.prog 57 [intsA x, iV .i64 n] (bV (decide (n ∈ x))) := by
  refine at_code mixed Tryd.func57 (by kernel_rfl) rfl (by kernel_rfl) (by kernel_rfl) rfl fun Q hQ => ?_
  repeat (first | simp | with_reducible refine And.intro (by omega) ?_ | with_reducible refine optK_if (by omega) ?_ | with_reducible refine optD_if (by omega) ?_ | simp (disch := omega) only [wrap_i64, if_pos, if_neg] | with_reducible refine gsel_pure (by with_unfolding_all rfl) _ (fun hg => by (try simp at hg); simp [hg]; rfl) ?_ | with_reducible refine dsel_pure (by with_unfolding_all rfl) _ (fun hg => by (try simp at hg); simp [hg]; rfl) ?_ | with_reducible refine awp_draw (by kernel_rfl) (by decide +kernel) ?_)
  refine awp_loopV (fun (k : Nat) (s : St) => (k ≤ x.length) ∧ (n ∉ x.take k) ∧ s.env 5 = iV .i64 k ∧ s.env 0 = intsA x ∧ s.env 1 = iV .i64 n) (fun (k : Nat) => x.length - k) (0) ⟨by first | omega | assumption | (simp; done) | (simp; omega), by first | omega | assumption | (simp; done) | (simp; omega), by simp, by simp, by simp⟩ fun k s hsA LA hLA => ?_
  obtain ⟨hk, ht, h5, h0, h1⟩ := hsA
  repeat (first | simp [h5, h0, h1] | with_reducible refine And.intro (by omega) ?_ | with_reducible refine optK_if (by omega) ?_ | with_reducible refine optD_if (by omega) ?_ | simp (disch := omega) only [wrap_i64, if_pos, if_neg] | with_reducible refine gsel_pure (by with_unfolding_all rfl) _ (fun hg => by (try simp at hg); simp [hg, h5, h0, h1]; rfl) ?_ | with_reducible refine dsel_pure (by with_unfolding_all rfl) _ (fun hg => by (try simp at hg); simp [hg, h5, h0, h1]; rfl) ?_ | with_reducible refine awp_draw (by kernel_rfl) (by decide +kernel) ?_)
  (with_reducible refine condK_intro (fun hlt => ?_) (fun hlt => ?_)) <;> (try simp only [hlt]) <;> (try simp [andB, orB, eqI, ltI, Int.natCast_inj] at hlt)
  · repeat (first | simp [h5, h0, h1, hlt, hlt] | with_reducible refine And.intro (by omega) ?_ | with_reducible refine optK_if (by omega) ?_ | with_reducible refine optD_if (by omega) ?_ | simp (disch := omega) only [wrap_i64, if_pos, if_neg] | with_reducible refine gsel_pure (by with_unfolding_all rfl) _ (fun hg => by (try simp at hg); simp [hg, h5, h0, h1, hlt, hlt]; rfl) ?_ | with_reducible refine dsel_pure (by with_unfolding_all rfl) _ (fun hg => by (try simp at hg); simp [hg, h5, h0, h1, hlt, hlt]; rfl) ?_ | with_reducible refine awp_draw (by kernel_rfl) (by decide +kernel) ?_)
    (with_reducible refine condK_intro (fun he => ?_) (fun he => ?_)) <;> (try simp only [he]) <;> (try simp [andB, orB, eqI, ltI, Int.natCast_inj] at he)
    · repeat (first | simp [h5, h0, h1, hlt, he] | with_reducible refine And.intro (by omega) ?_ | with_reducible refine optK_if (by omega) ?_ | with_reducible refine optD_if (by omega) ?_ | simp (disch := omega) only [wrap_i64, if_pos, if_neg] | with_reducible refine gsel_pure (by with_unfolding_all rfl) _ (fun hg => by (try simp at hg); simp [hg, h5, h0, h1, hlt, he]; rfl) ?_ | with_reducible refine dsel_pure (by with_unfolding_all rfl) _ (fun hg => by (try simp at hg); simp [hg, h5, h0, h1, hlt, he]; rfl) ?_ | with_reducible refine awp_draw (by kernel_rfl) (by decide +kernel) ?_)
      refine hQ _ _ (ret2 (by simp [retAV, resAV]; rfl) (by simp; rfl) ?_)
      rw [← he]; simp
    · repeat (first | simp [h5, h0, h1, hlt, he] | with_reducible refine And.intro (by omega) ?_ | with_reducible refine optK_if (by omega) ?_ | with_reducible refine optD_if (by omega) ?_ | simp (disch := omega) only [wrap_i64, if_pos, if_neg] | with_reducible refine gsel_pure (by with_unfolding_all rfl) _ (fun hg => by (try simp at hg); simp [hg, h5, h0, h1, hlt, he]; rfl) ?_ | with_reducible refine dsel_pure (by with_unfolding_all rfl) _ (fun hg => by (try simp at hg); simp [hg, h5, h0, h1, hlt, he]; rfl) ?_ | with_reducible refine awp_draw (by kernel_rfl) (by decide +kernel) ?_)
      refine hLA (k + 1) _ ⟨by first | omega | assumption | (simp; done) | (simp; omega), by rw [List.take_succ_eq_append_getElem hlt]; rw [List.mem_append, not_or]; exact ⟨ht, by simp; exact fun h => he h.symm⟩, by simp [h5, h0, h1, hlt, he], by simp [h5, h0, h1, hlt, he], by simp [h5, h0, h1, hlt, he]⟩ (by first | omega | (simp; omega))
  · repeat (first | simp [h5, h0, h1, hlt] | with_reducible refine And.intro (by omega) ?_ | with_reducible refine optK_if (by omega) ?_ | with_reducible refine optD_if (by omega) ?_ | simp (disch := omega) only [wrap_i64, if_pos, if_neg] | with_reducible refine gsel_pure (by with_unfolding_all rfl) _ (fun hg => by (try simp at hg); simp [hg, h5, h0, h1, hlt]; rfl) ?_ | with_reducible refine dsel_pure (by with_unfolding_all rfl) _ (fun hg => by (try simp at hg); simp [hg, h5, h0, h1, hlt]; rfl) ?_ | with_reducible refine awp_draw (by kernel_rfl) (by decide +kernel) ?_)
    refine hQ _ _ (ret2 (by simp [retAV, resAV]; rfl) (by simp; rfl) ?_)
    rw [List.take_of_length_le (by omega)] at ht
    simp [ht]
theorem at_insert (x : List Int) (n : Int) (hs : x.length ≤ 1000000) : At Tryd.prog 76 [intsA x, iV .i64 n] (.cell (.own 0 1 (x.length + 1) (intsC (insL x n)))) := by
  refine at_code mixed Tryd.func76 (by kernel_rfl) rfl (by kernel_rfl) (by kernel_rfl) rfl fun Q hQ => ?_
  repeat (first | simp | with_reducible refine And.intro (by omega) ?_ | with_reducible refine optK_if (by omega) ?_ | with_reducible refine optD_if (by omega) ?_ | simp (disch := omega) only [wrap_i64, if_pos, if_neg] | with_reducible refine gsel_pure (by with_unfolding_all rfl) _ (fun hg => by (try simp at hg); simp [hg]; rfl) ?_ | with_reducible refine dsel_pure (by with_unfolding_all rfl) _ (fun hg => by (try simp at hg); simp [hg]; rfl) ?_ | with_reducible refine awp_draw (by kernel_rfl) (by decide +kernel) ?_)
  refine awp_loopV (fun (k : Nat) (s : St) => (k ≤ x.length) ∧ (insL x n = x.take k ++ insL (x.drop k) n) ∧ s.env 5 = iV .i64 k ∧ s.env 0 = intsA x ∧ s.env 1 = iV .i64 n) (fun (k : Nat) => x.length - k) (0) ⟨by first | omega | assumption | (simp; done) | (simp; omega), by first | omega | assumption | (simp; done) | (simp; omega), by simp, by simp, by simp⟩ fun k s hsA LA hLA => ?_
  obtain ⟨hk, he, h5, h0, h1⟩ := hsA
  by_cases hlt : k < x.length
  · have e : ltI (k : Int) x.length = true := by simp [ltI, hlt]
    repeat (first | simp [h5, h0, h1, e, hlt] | with_reducible refine And.intro (by omega) ?_ | with_reducible refine optK_if (by omega) ?_ | with_reducible refine optD_if (by omega) ?_ | simp (disch := omega) only [wrap_i64, if_pos, if_neg] | with_reducible refine gsel_pure (by with_unfolding_all rfl) _ (fun hg => by (try simp at hg); simp [hg, h5, h0, h1, e, hlt]; rfl) ?_ | with_reducible refine dsel_pure (by with_unfolding_all rfl) _ (fun hg => by (try simp at hg); simp [hg, h5, h0, h1, e, hlt]; rfl) ?_ | with_reducible refine awp_draw (by kernel_rfl) (by decide +kernel) ?_)
    (with_reducible refine condK_intro (fun hc => ?_) (fun hc => ?_)) <;> (try simp only [hc]) <;> (try simp [andB, orB, eqI, ltI, Int.natCast_inj] at hc)
    · repeat (first | simp [h5, h0, h1, hc] | with_reducible refine And.intro (by omega) ?_ | with_reducible refine optK_if (by omega) ?_ | with_reducible refine optD_if (by omega) ?_ | simp (disch := omega) only [wrap_i64, if_pos, if_neg] | with_reducible refine gsel_pure (by with_unfolding_all rfl) _ (fun hg => by (try simp at hg); simp [hg, h5, h0, h1, hc]; rfl) ?_ | with_reducible refine dsel_pure (by with_unfolding_all rfl) _ (fun hg => by (try simp at hg); simp [hg, h5, h0, h1, hc]; rfl) ?_ | with_reducible refine awp_draw (by kernel_rfl) (by decide +kernel) ?_)
      refine hLA (k + 1) _ ⟨by first | omega | assumption | (simp; done) | (simp; omega), by exact insL_go hlt hc he, by simp [h5, h0, h1, hc], by simp [h5, h0, h1, hc], by simp [h5, h0, h1, hc]⟩ (by first | omega | (simp; omega))
    · have hx := insL_stop (s := x) (n := n) (k := k) (fun _ => by omega)
      rw [hx] at he
      repeat (first | simp [h5, h0, h1, hc] | with_reducible refine And.intro (by omega) ?_ | with_reducible refine optK_if (by omega) ?_ | with_reducible refine optD_if (by omega) ?_ | simp (disch := omega) only [wrap_i64, if_pos, if_neg] | with_reducible refine gsel_pure (by with_unfolding_all rfl) _ (fun hg => by (try simp at hg); simp [hg, h5, h0, h1, hc]; rfl) ?_ | with_reducible refine dsel_pure (by with_unfolding_all rfl) _ (fun hg => by (try simp at hg); simp [hg, h5, h0, h1, hc]; rfl) ?_ | with_reducible refine awp_draw (by kernel_rfl) (by decide +kernel) ?_)
      refine hQ _ _ (ret2 (by simp [retAV, resAV]; rfl) (by simp; rfl) ?_)
      exact insL_fin hk he
  · have e : ltI (k : Int) x.length = false := by simp [ltI, hlt]
    have hx := insL_stop (s := x) (n := n) (k := k) (fun h => (hlt h).elim)
    rw [hx] at he
    repeat (first | simp [h5, h0, h1, e] | with_reducible refine And.intro (by omega) ?_ | with_reducible refine optK_if (by omega) ?_ | with_reducible refine optD_if (by omega) ?_ | simp (disch := omega) only [wrap_i64, if_pos, if_neg] | with_reducible refine gsel_pure (by with_unfolding_all rfl) _ (fun hg => by (try simp at hg); simp [hg, h5, h0, h1, e]; rfl) ?_ | with_reducible refine dsel_pure (by with_unfolding_all rfl) _ (fun hg => by (try simp at hg); simp [hg, h5, h0, h1, e]; rfl) ?_ | with_reducible refine awp_draw (by kernel_rfl) (by decide +kernel) ?_)
    refine hQ _ _ (ret2 (by simp [retAV, resAV]; rfl) (by simp; rfl) ?_)
    exact insL_fin hk he
theorem at_make (x : List Int) (hx : x.length ≤ 1000) : At Tryd.prog 58 [intsA x] (intsA (makL x)) := by
  refine at_pure (r := .cell (.own 0 1 (makL x).length (intsC (makL x)))) ?_ (by simp)
  refine at_code mixed Tryd.func58 (by kernel_rfl) rfl (by kernel_rfl) (by kernel_rfl) rfl fun Q hQ => ?_
  repeat (first | simp | with_reducible refine And.intro (by omega) ?_ | with_reducible refine optK_if (by omega) ?_ | with_reducible refine optD_if (by omega) ?_ | simp (disch := omega) only [wrap_i64, if_pos, if_neg] | with_reducible refine gsel_pure (by with_unfolding_all rfl) _ (fun hg => by (try simp at hg); simp [hg]; rfl) ?_ | with_reducible refine dsel_pure (by with_unfolding_all rfl) _ (fun hg => by (try simp at hg); simp [hg]; rfl) ?_ | with_reducible refine awp_draw (by kernel_rfl) (by decide +kernel) ?_)
  refine awp_loopW (fun (k : Nat) (s : St) => (k ≤ x.length) ∧ s.env 4 = iV .i64 k ∧ s.env 0 = intsA x ∧ s.env 3 = .cell (.own 393536 1 (makL (x.take k)).length (intsC (makL (x.take k))))) (fun (k : Nat) => x.length - k) _ (Weak.own 3 393536 1 (by simp)) (0) ⟨by first | omega | assumption | (simp [makL]; done) | (simp [makL]; omega), by simp [makL], by simp [makL], by simp [makL]⟩ fun k s hsA LA hLA => ?_
  obtain ⟨hk, h4, h0, h3⟩ := hsA
  repeat (first | simp [h4, h0, h3] | with_reducible refine And.intro (by omega) ?_ | with_reducible refine optK_if (by omega) ?_ | with_reducible refine optD_if (by omega) ?_ | simp (disch := omega) only [wrap_i64, if_pos, if_neg] | with_reducible refine gsel_pure (by with_unfolding_all rfl) _ (fun hg => by (try simp at hg); simp [hg, h4, h0, h3]; rfl) ?_ | with_reducible refine dsel_pure (by with_unfolding_all rfl) _ (fun hg => by (try simp at hg); simp [hg, h4, h0, h3]; rfl) ?_ | with_reducible refine awp_draw (by kernel_rfl) (by decide +kernel) ?_)
  (with_reducible refine condK_intro (fun hlt => ?_) (fun hlt => ?_)) <;> (try simp only [hlt]) <;> (try simp [andB, orB, eqI, ltI, Int.natCast_inj] at hlt)
  · have hm := makL_succ hlt
    have hml := makL_len x k (by omega)
    have hg : (intsC x)[k]? = some (iC x[k]) := intsC_get? x hlt
    repeat (first | simp [h4, h0, h3, hlt, hlt] | with_reducible refine And.intro (by omega) ?_ | with_reducible refine optK_if (by omega) ?_ | with_reducible refine optD_if (by omega) ?_ | simp (disch := omega) only [wrap_i64, if_pos, if_neg] | with_reducible refine gsel_pure (by with_unfolding_all rfl) _ (fun hg => by (try simp at hg); simp [hg, h4, h0, h3, hlt, hlt]; rfl) ?_ | with_reducible refine dsel_pure (by with_unfolding_all rfl) _ (fun hg => by (try simp at hg); simp [hg, h4, h0, h3, hlt, hlt]; rfl) ?_ | with_reducible refine awp_draw (by kernel_rfl) (by decide +kernel) ?_)
    refine gop_call (at_hasI (makL (x.take k)) x[k] (by omega)) (by (first | simp [h4, h0, h3, hlt, hlt] | simp (disch := omega) [h4, h0, h3, hlt, hlt, wrap_i64]); try rfl) (by simp) (by simp) ?_
    repeat (first | simp [h4, h0, h3, hlt, hlt] | with_reducible refine And.intro (by omega) ?_ | with_reducible refine optK_if (by omega) ?_ | with_reducible refine optD_if (by omega) ?_ | simp (disch := omega) only [wrap_i64, if_pos, if_neg] | with_reducible refine gsel_pure (by with_unfolding_all rfl) _ (fun hg => by (try simp at hg); simp [hg, h4, h0, h3, hlt, hlt]; rfl) ?_ | with_reducible refine dsel_pure (by with_unfolding_all rfl) _ (fun hg => by (try simp at hg); simp [hg, h4, h0, h3, hlt, hlt]; rfl) ?_ | with_reducible refine awp_draw (by kernel_rfl) (by decide +kernel) ?_)
    by_cases hh : x[k] ∈ makL (x.take k)
    · have hm2 : makL (x.take (k + 1)) = makL (x.take k) := by rw [hm, makI, if_pos hh]
      repeat (first | simp [h4, h0, h3, hlt, hlt, hh] | with_reducible refine And.intro (by omega) ?_ | with_reducible refine optK_if (by omega) ?_ | with_reducible refine optD_if (by omega) ?_ | simp (disch := omega) only [wrap_i64, if_pos, if_neg] | with_reducible refine gsel_pure (by with_unfolding_all rfl) _ (fun hg => by (try simp at hg); simp [hg, h4, h0, h3, hlt, hlt, hh]; rfl) ?_ | with_reducible refine dsel_pure (by with_unfolding_all rfl) _ (fun hg => by (try simp at hg); simp [hg, h4, h0, h3, hlt, hlt, hh]; rfl) ?_ | with_reducible refine awp_draw (by kernel_rfl) (by decide +kernel) ?_)
      refine hLA (k + 1) _ ⟨by first | omega | assumption | (simp [hm2]; done) | (simp [hm2]; omega), by simp [h4, h0, h3, hlt, hm2], by simp [h4, h0, h3, hlt, hm2], by simp [h4, h0, h3, hlt, hm2]⟩ (by first | omega | (simp; omega))
    · have hm2 : makL (x.take (k + 1)) = insL (makL (x.take k)) x[k] := by rw [hm, makI, if_neg hh]
      repeat (first | simp [h4, h0, h3, hlt, hlt, hh] | with_reducible refine And.intro (by omega) ?_ | with_reducible refine optK_if (by omega) ?_ | with_reducible refine optD_if (by omega) ?_ | simp (disch := omega) only [wrap_i64, if_pos, if_neg] | with_reducible refine gsel_pure (by with_unfolding_all rfl) _ (fun hg => by (try simp at hg); simp [hg, h4, h0, h3, hlt, hlt, hh]; rfl) ?_ | with_reducible refine dsel_pure (by with_unfolding_all rfl) _ (fun hg => by (try simp at hg); simp [hg, h4, h0, h3, hlt, hlt, hh]; rfl) ?_ | with_reducible refine awp_draw (by kernel_rfl) (by decide +kernel) ?_)
      refine gop_call (at_insert (makL (x.take k)) x[k] (by omega)) (by (first | simp [h4, h0, h3, hlt, hlt] | simp (disch := omega) [h4, h0, h3, hlt, hlt, wrap_i64]); try rfl) (by simp) (by simp) ?_
      repeat (first | simp [h4, h0, h3, hlt] | with_reducible refine And.intro (by omega) ?_ | with_reducible refine optK_if (by omega) ?_ | with_reducible refine optD_if (by omega) ?_ | simp (disch := omega) only [wrap_i64, if_pos, if_neg] | with_reducible refine gsel_pure (by with_unfolding_all rfl) _ (fun hg => by (try simp at hg); simp [hg, h4, h0, h3, hlt]; rfl) ?_ | with_reducible refine dsel_pure (by with_unfolding_all rfl) _ (fun hg => by (try simp at hg); simp [hg, h4, h0, h3, hlt]; rfl) ?_ | with_reducible refine awp_draw (by kernel_rfl) (by decide +kernel) ?_)
      refine hLA (k + 1) _ ⟨by first | omega | assumption | (simp [hm2, insL_len]; done) | (simp [hm2, insL_len]; omega), by simp [h4, h0, h3, hlt, hm2, insL_len], by simp [h4, h0, h3, hlt, hm2, insL_len], by simp [h4, h0, h3, hlt, hm2, insL_len]⟩ (by first | omega | (simp; omega))
  · have : k = x.length := by omega
    subst this
    rw [List.take_of_length_le (Nat.le_refl _)] at h3
    repeat (first | simp [h4, h0, h3, hlt] | with_reducible refine And.intro (by omega) ?_ | with_reducible refine optK_if (by omega) ?_ | with_reducible refine optD_if (by omega) ?_ | simp (disch := omega) only [wrap_i64, if_pos, if_neg] | with_reducible refine gsel_pure (by with_unfolding_all rfl) _ (fun hg => by (try simp at hg); simp [hg, h4, h0, h3, hlt]; rfl) ?_ | with_reducible refine dsel_pure (by with_unfolding_all rfl) _ (fun hg => by (try simp at hg); simp [hg, h4, h0, h3, hlt]; rfl) ?_ | with_reducible refine awp_draw (by kernel_rfl) (by decide +kernel) ?_)
    refine hQ _ _ (ret2 (by simp [retAV, resAV]; rfl) (by simp; rfl) ?_)
    rfl
theorem at_r12succ (name : ByteArray) (l : List I8) (ok : OkL l) (k : Nat) (hk : k < l.length) : At Tryd.prog 51 [fAV name l, iV .i64 k] (intsA (natI (sucs l k))) := by
  have hlen := ok.len
  have ht := ok.tgt k hk
  have hs : sucs l k = if l[k].op = 4 then [l[k].n.toNat] else if l[k].op = 5 then (if l[k].n.toNat = k + 1 then [k + 1] else if l[k].n.toNat < k + 1 then [l[k].n.toNat, k + 1] else [k + 1, l[k].n.toNat]) else if l[k].op = 7 then [l.length] else [k + 1] := by
    unfold sucs; rw [List.getElem?_eq_getElem hk]
  by_cases h5 : l[k].op = 5
  · have h0 := ht (.inr h5)
    have e4 : eqI l[k].op 4 = false := by simp [eqI, h5]
    have e7 : eqI l[k].op 7 = false := by simp [eqI, h5]
    have e5 : eqI l[k].op 5 = true := by simp [eqI, h5]
    have hm : makL [l[k].n, (k : Int) + 1] = natI (sucs l k) := by
      rw [hs, if_neg (by omega), if_pos h5, make_two]
      by_cases c1 : l[k].n = k + 1
      · rw [if_pos c1, if_pos (by omega)]; rfl
      · by_cases c2 : l[k].n < k + 1
        · rw [if_neg c1, if_pos c2, if_neg (by omega), if_pos (by omega)]; simp; omega
        · rw [if_neg c1, if_neg c2, if_neg (by omega), if_neg (by omega)]; simp; omega
    refine at_code mixed Tryd.func51 (by kernel_rfl) rfl (by kernel_rfl) (by kernel_rfl) rfl fun Q hQ => ?_
    repeat (first | simp [hk, e4, e5, e7] | with_reducible refine And.intro (by omega) ?_ | with_reducible refine optK_if (by omega) ?_ | with_reducible refine optD_if (by omega) ?_ | simp (disch := omega) only [wrap_i64, if_pos, if_neg] | with_reducible refine gsel_pure (by with_unfolding_all rfl) _ (fun hg => by (try simp at hg); simp [hg, hk, e4, e5, e7]; rfl) ?_ | with_reducible refine dsel_pure (by with_unfolding_all rfl) _ (fun hg => by (try simp at hg); simp [hg, hk, e4, e5, e7]; rfl) ?_ | with_reducible refine awp_draw (by kernel_rfl) (by decide +kernel) ?_)
    refine gop_call' (at_make [l[k].n, (k : Int) + 1] (by simp)) (by (first | simp [wrap_i64] | simp (disch := omega) [wrap_i64]); try rfl) (by simp) (by simp) ?_
    repeat (first | simp | with_reducible refine And.intro (by omega) ?_ | with_reducible refine optK_if (by omega) ?_ | with_reducible refine optD_if (by omega) ?_ | simp (disch := omega) only [wrap_i64, if_pos, if_neg] | with_reducible refine gsel_pure (by with_unfolding_all rfl) _ (fun hg => by (try simp at hg); simp [hg]; rfl) ?_ | with_reducible refine dsel_pure (by with_unfolding_all rfl) _ (fun hg => by (try simp at hg); simp [hg]; rfl) ?_ | with_reducible refine awp_draw (by kernel_rfl) (by decide +kernel) ?_)
    refine hQ _ _ (ret2 (by simp [retAV, resAV]; rfl) (by simp; rfl) ?_)
    rw [hm]
  · refine at_pure (r := .cell (.own 0 1 (sucs l k).length (intsC (natI (sucs l k))))) ?_ (by simp)
    have e5 : eqI l[k].op 5 = false := by simp [eqI, h5]
    by_cases h4 : l[k].op = 4
    · have h0 := (ht (.inl h4)).1
      have en : max l[k].n 0 = l[k].n := by omega
      have e4 : eqI l[k].op 4 = true := by simp [eqI, h4]
      have hs1 : sucs l k = [l[k].n.toNat] := by rw [hs, if_pos h4]
      refine at_code mixed Tryd.func51 (by kernel_rfl) rfl (by kernel_rfl) (by kernel_rfl) rfl fun Q hQ => ?_
      repeat (first | simp [hk, e4, e5] | with_reducible refine And.intro (by omega) ?_ | with_reducible refine optK_if (by omega) ?_ | with_reducible refine optD_if (by omega) ?_ | simp (disch := omega) only [wrap_i64, if_pos, if_neg] | with_reducible refine gsel_pure (by with_unfolding_all rfl) _ (fun hg => by (try simp at hg); simp [hg, hk, e4, e5]; rfl) ?_ | with_reducible refine dsel_pure (by with_unfolding_all rfl) _ (fun hg => by (try simp at hg); simp [hg, hk, e4, e5]; rfl) ?_ | with_reducible refine awp_draw (by kernel_rfl) (by decide +kernel) ?_)
      refine hQ _ _ (ret2 (by simp [retAV, resAV]; rfl) (by simp; rfl) ?_)
      simp [hs1, en]
    have e4 : eqI l[k].op 4 = false := by simp [eqI, h4]
    by_cases h7 : l[k].op = 7
    · have e7 : eqI l[k].op 7 = true := by simp [eqI, h7]
      have hs1 : sucs l k = [l.length] := by rw [hs, if_neg h4, if_neg h5, if_pos h7]
      refine at_code mixed Tryd.func51 (by kernel_rfl) rfl (by kernel_rfl) (by kernel_rfl) rfl fun Q hQ => ?_
      repeat (first | simp [hk, e4, e5, e7] | with_reducible refine And.intro (by omega) ?_ | with_reducible refine optK_if (by omega) ?_ | with_reducible refine optD_if (by omega) ?_ | simp (disch := omega) only [wrap_i64, if_pos, if_neg] | with_reducible refine gsel_pure (by with_unfolding_all rfl) _ (fun hg => by (try simp at hg); simp [hg, hk, e4, e5, e7]; rfl) ?_ | with_reducible refine dsel_pure (by with_unfolding_all rfl) _ (fun hg => by (try simp at hg); simp [hg, hk, e4, e5, e7]; rfl) ?_ | with_reducible refine awp_draw (by kernel_rfl) (by decide +kernel) ?_)
      refine hQ _ _ (ret2 (by simp [retAV, resAV]; rfl) (by simp; rfl) ?_)
      simp [hs1]
    · have e7 : eqI l[k].op 7 = false := by simp [eqI, h7]
      have hs1 : sucs l k = [k + 1] := by rw [hs, if_neg h4, if_neg h5, if_neg h7]
      refine at_code mixed Tryd.func51 (by kernel_rfl) rfl (by kernel_rfl) (by kernel_rfl) rfl fun Q hQ => ?_
      repeat (first | simp [hk, e4, e5, e7] | with_reducible refine And.intro (by omega) ?_ | with_reducible refine optK_if (by omega) ?_ | with_reducible refine optD_if (by omega) ?_ | simp (disch := omega) only [wrap_i64, if_pos, if_neg] | with_reducible refine gsel_pure (by with_unfolding_all rfl) _ (fun hg => by (try simp at hg); simp [hg, hk, e4, e5, e7]; rfl) ?_ | with_reducible refine dsel_pure (by with_unfolding_all rfl) _ (fun hg => by (try simp at hg); simp [hg, hk, e4, e5, e7]; rfl) ?_ | with_reducible refine awp_draw (by kernel_rfl) (by decide +kernel) ?_)
      refine hQ _ _ (ret2 (by simp [retAV, resAV]; rfl) (by simp; rfl) ?_)
      simp [hs1]
theorem at_r12next (name : ByteArray) (l : List I8) (k : Int) : At Tryd.prog 16 [fAV name l, iV .i64 k] (.tup [if funcE l = 0 ∧ 0 ≤ k ∧ k < l.length then intsA (natI (sucs l k.toNat)) else .cell .z, iV .i64 (if funcE l = 0 then (if 0 ≤ k ∧ k < l.length then 0 else 2) else funcE l)]) := by
  by_cases hf : funcE l = 0
  rotate_left
  · have e1 : eqI (funcE l) 0 = false := by simp [eqI, hf]
    refine at_code mixed Tryd.func16 (by kernel_rfl) rfl (by kernel_rfl) (by kernel_rfl) rfl fun Q hQ => ?_
    repeat (first | simp | with_reducible refine And.intro (by omega) ?_ | with_reducible refine optK_if (by omega) ?_ | with_reducible refine optD_if (by omega) ?_ | simp (disch := omega) only [wrap_i64, if_pos, if_neg] | with_reducible refine gsel_pure (by with_unfolding_all rfl) _ (fun hg => by (try simp at hg); simp [hg]; rfl) ?_ | with_reducible refine dsel_pure (by with_unfolding_all rfl) _ (fun hg => by (try simp at hg); simp [hg]; rfl) ?_ | with_reducible refine awp_draw (by kernel_rfl) (by decide +kernel) ?_)
    refine gop_call (at_r12Check name l) (by (first | simp [wrap_i64] | simp (disch := omega) [wrap_i64]); try rfl) (by simp) (by simp) ?_
    repeat (first | simp [e1] | with_reducible refine And.intro (by omega) ?_ | with_reducible refine optK_if (by omega) ?_ | with_reducible refine optD_if (by omega) ?_ | simp (disch := omega) only [wrap_i64, if_pos, if_neg] | with_reducible refine gsel_pure (by with_unfolding_all rfl) _ (fun hg => by (try simp at hg); simp [hg, e1]; rfl) ?_ | with_reducible refine dsel_pure (by with_unfolding_all rfl) _ (fun hg => by (try simp at hg); simp [hg, e1]; rfl) ?_ | with_reducible refine awp_draw (by kernel_rfl) (by decide +kernel) ?_)
    refine hQ _ _ (ret2 (by simp [retAV, resAV]; rfl) (by simp; rfl) ?_)
    simp [hf]
  have ok := okL hf
  have hlen := ok.len
  refine at_code mixed Tryd.func16 (by kernel_rfl) rfl (by kernel_rfl) (by kernel_rfl) rfl fun Q hQ => ?_
  repeat (first | simp | with_reducible refine And.intro (by omega) ?_ | with_reducible refine optK_if (by omega) ?_ | with_reducible refine optD_if (by omega) ?_ | simp (disch := omega) only [wrap_i64, if_pos, if_neg] | with_reducible refine gsel_pure (by with_unfolding_all rfl) _ (fun hg => by (try simp at hg); simp [hg]; rfl) ?_ | with_reducible refine dsel_pure (by with_unfolding_all rfl) _ (fun hg => by (try simp at hg); simp [hg]; rfl) ?_ | with_reducible refine awp_draw (by kernel_rfl) (by decide +kernel) ?_)
  refine gop_call (at_r12Check name l) (by (first | simp [wrap_i64] | simp (disch := omega) [wrap_i64]); try rfl) (by simp) (by simp) ?_
  repeat (first | simp [hf] | with_reducible refine And.intro (by omega) ?_ | with_reducible refine optK_if (by omega) ?_ | with_reducible refine optD_if (by omega) ?_ | simp (disch := omega) only [wrap_i64, if_pos, if_neg] | with_reducible refine gsel_pure (by with_unfolding_all rfl) _ (fun hg => by (try simp at hg); simp [hg, hf]; rfl) ?_ | with_reducible refine dsel_pure (by with_unfolding_all rfl) _ (fun hg => by (try simp at hg); simp [hg, hf]; rfl) ?_ | with_reducible refine awp_draw (by kernel_rfl) (by decide +kernel) ?_)
  (with_reducible refine condK_intro (fun hk => ?_) (fun hk => ?_)) <;> (try simp only [hk]) <;> (try simp [andB, orB, eqI, ltI, Int.natCast_inj] at hk)
  · repeat (first | simp [hk] | with_reducible refine And.intro (by omega) ?_ | with_reducible refine optK_if (by omega) ?_ | with_reducible refine optD_if (by omega) ?_ | simp (disch := omega) only [wrap_i64, if_pos, if_neg] | with_reducible refine gsel_pure (by with_unfolding_all rfl) _ (fun hg => by (try simp at hg); simp [hg, hk]; rfl) ?_ | with_reducible refine dsel_pure (by with_unfolding_all rfl) _ (fun hg => by (try simp at hg); simp [hg, hk]; rfl) ?_ | with_reducible refine awp_draw (by kernel_rfl) (by decide +kernel) ?_)
    refine hQ _ _ (ret2 (by simp [retAV, resAV]; rfl) (by simp; rfl) ?_)
    have : ¬ (0 ≤ k ∧ k < l.length) := by omega
    simp [hf, this]
  · obtain ⟨m, rfl⟩ : ∃ m : Nat, k = m := ⟨k.toNat, by omega⟩
    have hm : m < l.length := by omega
    repeat (first | simp [hk] | with_reducible refine And.intro (by omega) ?_ | with_reducible refine optK_if (by omega) ?_ | with_reducible refine optD_if (by omega) ?_ | simp (disch := omega) only [wrap_i64, if_pos, if_neg] | with_reducible refine gsel_pure (by with_unfolding_all rfl) _ (fun hg => by (try simp at hg); simp [hg, hk]; rfl) ?_ | with_reducible refine dsel_pure (by with_unfolding_all rfl) _ (fun hg => by (try simp at hg); simp [hg, hk]; rfl) ?_ | with_reducible refine awp_draw (by kernel_rfl) (by decide +kernel) ?_)
    refine gop_call' (at_r12succ name l ok m hm) (by (first | simp [hk] | simp (disch := omega) [hk, wrap_i64]); try rfl) (by simp) (by simp) ?_
    repeat (first | simp [hk] | with_reducible refine And.intro (by omega) ?_ | with_reducible refine optK_if (by omega) ?_ | with_reducible refine optD_if (by omega) ?_ | simp (disch := omega) only [wrap_i64, if_pos, if_neg] | with_reducible refine gsel_pure (by with_unfolding_all rfl) _ (fun hg => by (try simp at hg); simp [hg, hk]; rfl) ?_ | with_reducible refine dsel_pure (by with_unfolding_all rfl) _ (fun hg => by (try simp at hg); simp [hg, hk]; rfl) ?_ | with_reducible refine awp_draw (by kernel_rfl) (by decide +kernel) ?_)
    refine hQ _ _ (ret2 (by simp [retAV, resAV]; rfl) (by simp; rfl) ?_)
    simp [hf, hm]
theorem at_r12leaders (name : ByteArray) (l : List I8) : At Tryd.prog 19 [fAV name l] (.tup [if funcE l = 0 then intsA (natI (sortL (leadK l l.length) l.length)) else .cell .z, iV .i64 (funcE l)]) := by
  by_cases hf : funcE l = 0
  rotate_left
  · have e1 : eqI (funcE l) 0 = false := by simp [eqI, hf]
    refine at_code mixed Tryd.func19 (by kernel_rfl) rfl (by kernel_rfl) (by kernel_rfl) rfl fun Q hQ => ?_
    repeat (first | simp | with_reducible refine And.intro (by omega) ?_ | with_reducible refine optK_if (by omega) ?_ | with_reducible refine optD_if (by omega) ?_ | simp (disch := omega) only [wrap_i64, if_pos, if_neg] | with_reducible refine gsel_pure (by with_unfolding_all rfl) _ (fun hg => by (try simp at hg); simp [hg]; rfl) ?_ | with_reducible refine dsel_pure (by with_unfolding_all rfl) _ (fun hg => by (try simp at hg); simp [hg]; rfl) ?_ | with_reducible refine awp_draw (by kernel_rfl) (by decide +kernel) ?_)
    refine gop_call (at_r12Check name l) (by (first | simp [wrap_i64] | simp (disch := omega) [wrap_i64]); try rfl) (by simp) (by simp) ?_
    repeat (first | simp [e1] | with_reducible refine And.intro (by omega) ?_ | with_reducible refine optK_if (by omega) ?_ | with_reducible refine optD_if (by omega) ?_ | simp (disch := omega) only [wrap_i64, if_pos, if_neg] | with_reducible refine gsel_pure (by with_unfolding_all rfl) _ (fun hg => by (try simp at hg); simp [hg, e1]; rfl) ?_ | with_reducible refine dsel_pure (by with_unfolding_all rfl) _ (fun hg => by (try simp at hg); simp [hg, e1]; rfl) ?_ | with_reducible refine awp_draw (by kernel_rfl) (by decide +kernel) ?_)
    refine hQ _ _ (ret2 (by simp [retAV, resAV]; rfl) (by simp; rfl) ?_)
    simp [hf]
  have ok := okL hf
  have hlen := ok.len
  refine at_pure (r := .tup [.cell (.own 0 1 (sortL (leadK l l.length) l.length).length (intsC (natI (sortL (leadK l l.length) l.length)))), iV .i64 (funcE l)]) ?_ (by simp [hf])
  refine at_code mixed Tryd.func19 (by kernel_rfl) rfl (by kernel_rfl) (by kernel_rfl) rfl fun Q hQ => ?_
  repeat (first | simp | with_reducible refine And.intro (by omega) ?_ | with_reducible refine optK_if (by omega) ?_ | with_reducible refine optD_if (by omega) ?_ | simp (disch := omega) only [wrap_i64, if_pos, if_neg] | with_reducible refine gsel_pure (by with_unfolding_all rfl) _ (fun hg => by (try simp at hg); simp [hg]; rfl) ?_ | with_reducible refine dsel_pure (by with_unfolding_all rfl) _ (fun hg => by (try simp at hg); simp [hg]; rfl) ?_ | with_reducible refine awp_draw (by kernel_rfl) (by decide +kernel) ?_)
  refine gop_call (at_r12Check name l) (by (first | simp [wrap_i64] | simp (disch := omega) [wrap_i64]); try rfl) (by simp) (by simp) ?_
  repeat (first | simp [hf, repC_bl] | with_reducible refine And.intro (by omega) ?_ | with_reducible refine optK_if (by omega) ?_ | with_reducible refine optD_if (by omega) ?_ | simp (disch := omega) only [wrap_i64, if_pos, if_neg] | with_reducible refine gsel_pure (by with_unfolding_all rfl) _ (fun hg => by (try simp at hg); simp [hg, hf, repC_bl]; rfl) ?_ | with_reducible refine dsel_pure (by with_unfolding_all rfl) _ (fun hg => by (try simp at hg); simp [hg, hf, repC_bl]; rfl) ?_ | with_reducible refine awp_draw (by kernel_rfl) (by decide +kernel) ?_)
  refine awp_loopV (fun (k : Nat) (s : St) => (k ≤ l.length) ∧ s.env 6 = iV .i64 k ∧ s.env 5 = .cell (.own 262400 1 (l.length + 1) (bl (l.length + 1) (inB (leadK l k)))) ∧ s.env 1 = .cell (.ptr 0 0) ∧ s.box 0 = some (fP name l)) (fun (k : Nat) => l.length - k) (0) ⟨by first | omega | assumption | (simp [repC_bl, leadK, inB_start]; done) | (simp [repC_bl, leadK, inB_start]; omega), by simp [repC_bl, leadK, inB_start], by simp [repC_bl, leadK, inB_start], by simp [repC_bl, leadK, inB_start], by simp [repC_bl, leadK, inB_start]⟩ fun k s hsA LA hLA => ?_
  obtain ⟨hk, h6, h5, h1, b0⟩ := hsA
  repeat (first | simp [h6, h5, h1, b0] | with_reducible refine And.intro (by omega) ?_ | with_reducible refine optK_if (by omega) ?_ | with_reducible refine optD_if (by omega) ?_ | simp (disch := omega) only [wrap_i64, if_pos, if_neg] | with_reducible refine gsel_pure (by with_unfolding_all rfl) _ (fun hg => by (try simp at hg); simp [hg, h6, h5, h1, b0]; rfl) ?_ | with_reducible refine dsel_pure (by with_unfolding_all rfl) _ (fun hg => by (try simp at hg); simp [hg, h6, h5, h1, b0]; rfl) ?_ | with_reducible refine awp_draw (by kernel_rfl) (by decide +kernel) ?_)
  (with_reducible refine condK_intro (fun hlt => ?_) (fun hlt => ?_)) <;> (try simp only [hlt]) <;> (try simp [andB, orB, eqI, ltI, Int.natCast_inj] at hlt)
  · have hls := leadK_succ hlt
    have htk := ok.tgt k hlt
    by_cases h45 : l[k].op = 4 ∨ l[k].op = 5
    · have ht := htk h45
      obtain ⟨m, hm⟩ : ∃ m : Nat, l[k].n = m := ⟨l[k].n.toNat, by omega⟩
      rw [if_pos h45, hm] at hls
      rcases h45 with o4 | o5
      · have e4 : eqI l[k].op 4 = true := by simp [eqI, o4]
        repeat (first | simp [h6, h5, h1, b0, hlt, hlt, e4] | with_reducible refine And.intro (by omega) ?_ | with_reducible refine optK_if (by omega) ?_ | with_reducible refine optD_if (by omega) ?_ | simp (disch := omega) only [wrap_i64, if_pos, if_neg] | with_reducible refine gsel_pure (by with_unfolding_all rfl) _ (fun hg => by (try simp at hg); simp [hg, h6, h5, h1, b0, hlt, hlt, e4]; rfl) ?_ | with_reducible refine dsel_pure (by with_unfolding_all rfl) _ (fun hg => by (try simp at hg); simp [hg, h6, h5, h1, b0, hlt, hlt, e4]; rfl) ?_ | with_reducible refine awp_draw (by kernel_rfl) (by decide +kernel) ?_)
        refine hLA (k + 1) _ ⟨by first | omega | assumption | (simp [hls, hm, inB_add, inB_add1]; done) | (simp [hls, hm, inB_add, inB_add1]; omega), by simp [h6, h5, h1, b0, hlt, hls, hm, inB_add, inB_add1], by simp [h6, h5, h1, b0, hlt, hls, hm, inB_add, inB_add1], by simp [h6, h5, h1, b0, hlt, hls, hm, inB_add, inB_add1], by simp [h6, h5, h1, b0, hlt, hls, hm, inB_add, inB_add1]⟩ (by first | omega | (simp; omega))
      · have e5 : eqI l[k].op 5 = true := by simp [eqI, o5]
        have e4 : eqI l[k].op 4 = false := by simp [eqI, o5]
        repeat (first | simp [h6, h5, h1, b0, hlt, hlt, e4, e5] | with_reducible refine And.intro (by omega) ?_ | with_reducible refine optK_if (by omega) ?_ | with_reducible refine optD_if (by omega) ?_ | simp (disch := omega) only [wrap_i64, if_pos, if_neg] | with_reducible refine gsel_pure (by with_unfolding_all rfl) _ (fun hg => by (try simp at hg); simp [hg, h6, h5, h1, b0, hlt, hlt, e4, e5]; rfl) ?_ | with_reducible refine dsel_pure (by with_unfolding_all rfl) _ (fun hg => by (try simp at hg); simp [hg, h6, h5, h1, b0, hlt, hlt, e4, e5]; rfl) ?_ | with_reducible refine awp_draw (by kernel_rfl) (by decide +kernel) ?_)
        refine hLA (k + 1) _ ⟨by first | omega | assumption | (simp [hls, hm, inB_add, inB_add1]; done) | (simp [hls, hm, inB_add, inB_add1]; omega), by simp [h6, h5, h1, b0, hlt, hls, hm, inB_add, inB_add1], by simp [h6, h5, h1, b0, hlt, hls, hm, inB_add, inB_add1], by simp [h6, h5, h1, b0, hlt, hls, hm, inB_add, inB_add1], by simp [h6, h5, h1, b0, hlt, hls, hm, inB_add, inB_add1]⟩ (by first | omega | (simp; omega))
    · have e4 : eqI l[k].op 4 = false := by simp [eqI]; omega
      have e5 : eqI l[k].op 5 = false := by simp [eqI]; omega
      rw [if_neg h45] at hls
      by_cases h7 : l[k].op = 7
      · have e7 : eqI l[k].op 7 = true := by simp [eqI, h7]
        rw [if_pos h7] at hls
        repeat (first | simp [h6, h5, h1, b0, hlt, hlt, e4, e5, e7] | with_reducible refine And.intro (by omega) ?_ | with_reducible refine optK_if (by omega) ?_ | with_reducible refine optD_if (by omega) ?_ | simp (disch := omega) only [wrap_i64, if_pos, if_neg] | with_reducible refine gsel_pure (by with_unfolding_all rfl) _ (fun hg => by (try simp at hg); simp [hg, h6, h5, h1, b0, hlt, hlt, e4, e5, e7]; rfl) ?_ | with_reducible refine dsel_pure (by with_unfolding_all rfl) _ (fun hg => by (try simp at hg); simp [hg, h6, h5, h1, b0, hlt, hlt, e4, e5, e7]; rfl) ?_ | with_reducible refine awp_draw (by kernel_rfl) (by decide +kernel) ?_)
        refine hLA (k + 1) _ ⟨by first | omega | assumption | (simp [hls, inB_add, inB_add1]; done) | (simp [hls, inB_add, inB_add1]; omega), by simp [h6, h5, h1, b0, hlt, hls, inB_add, inB_add1], by simp [h6, h5, h1, b0, hlt, hls, inB_add, inB_add1], by simp [h6, h5, h1, b0, hlt, hls, inB_add, inB_add1], by simp [h6, h5, h1, b0, hlt, hls, inB_add, inB_add1]⟩ (by first | omega | (simp; omega))
      · have e7 : eqI l[k].op 7 = false := by simp [eqI, h7]
        rw [if_neg h7] at hls
        repeat (first | simp [h6, h5, h1, b0, hlt, hlt, e4, e5, e7] | with_reducible refine And.intro (by omega) ?_ | with_reducible refine optK_if (by omega) ?_ | with_reducible refine optD_if (by omega) ?_ | simp (disch := omega) only [wrap_i64, if_pos, if_neg] | with_reducible refine gsel_pure (by with_unfolding_all rfl) _ (fun hg => by (try simp at hg); simp [hg, h6, h5, h1, b0, hlt, hlt, e4, e5, e7]; rfl) ?_ | with_reducible refine dsel_pure (by with_unfolding_all rfl) _ (fun hg => by (try simp at hg); simp [hg, h6, h5, h1, b0, hlt, hlt, e4, e5, e7]; rfl) ?_ | with_reducible refine awp_draw (by kernel_rfl) (by decide +kernel) ?_)
        refine hLA (k + 1) _ ⟨by first | omega | assumption | (simp [hls]; done) | (simp [hls]; omega), by simp [h6, h5, h1, b0, hlt, hls], by simp [h6, h5, h1, b0, hlt, hls], by simp [h6, h5, h1, b0, hlt, hls], by simp [h6, h5, h1, b0, hlt, hls]⟩ (by first | omega | (simp; omega))
  · have : k = l.length := by omega
    subst this
    repeat (first | simp [h6, h5, h1, b0, hlt] | with_reducible refine And.intro (by omega) ?_ | with_reducible refine optK_if (by omega) ?_ | with_reducible refine optD_if (by omega) ?_ | simp (disch := omega) only [wrap_i64, if_pos, if_neg] | with_reducible refine gsel_pure (by with_unfolding_all rfl) _ (fun hg => by (try simp at hg); simp [hg, h6, h5, h1, b0, hlt]; rfl) ?_ | with_reducible refine dsel_pure (by with_unfolding_all rfl) _ (fun hg => by (try simp at hg); simp [hg, h6, h5, h1, b0, hlt]; rfl) ?_ | with_reducible refine awp_draw (by kernel_rfl) (by decide +kernel) ?_)
    refine awp_loopW (fun (k : Nat) (s : St) => (k ≤ l.length) ∧ s.env 9 = iV .i64 k ∧ s.env 5 = .cell (.own 262400 1 (l.length + 1) (bl (l.length + 1) (inB (leadK l l.length)))) ∧ s.env 8 = .cell (.own 655360000 1 (sortL (leadK l l.length) k).length (intsC (natI (sortL (leadK l l.length) k)))) ∧ s.env 1 = .cell (.ptr 0 0) ∧ s.box 0 = some (fP name l)) (fun (k : Nat) => l.length - k) _ (Weak.own 8 655360000 1 (by simp)) (0) ⟨by first | omega | assumption | (simp [sortL]; done) | (simp [sortL]; omega), by simp [h6, h5, h1, b0, hlt, sortL], by simp [h6, h5, h1, b0, hlt, sortL], by simp [h6, h5, h1, b0, hlt, sortL], by simp [h6, h5, h1, b0, hlt, sortL], by simp [h6, h5, h1, b0, hlt, sortL]⟩ fun k s hsB LB hLB => ?_
    obtain ⟨hk, h9, h5, h8, h1, b0⟩ := hsB
    repeat (first | simp [h9, h5, h8, h1, b0, hlt] | with_reducible refine And.intro (by omega) ?_ | with_reducible refine optK_if (by omega) ?_ | with_reducible refine optD_if (by omega) ?_ | simp (disch := omega) only [wrap_i64, if_pos, if_neg] | with_reducible refine gsel_pure (by with_unfolding_all rfl) _ (fun hg => by (try simp at hg); simp [hg, h9, h5, h8, h1, b0, hlt]; rfl) ?_ | with_reducible refine dsel_pure (by with_unfolding_all rfl) _ (fun hg => by (try simp at hg); simp [hg, h9, h5, h8, h1, b0, hlt]; rfl) ?_ | with_reducible refine awp_draw (by kernel_rfl) (by decide +kernel) ?_)
    (with_reducible refine condK_intro (fun hlt => ?_) (fun hlt => ?_)) <;> (try simp only [hlt]) <;> (try simp [andB, orB, eqI, ltI, Int.natCast_inj] at hlt)
    · have hsl := sortL_len (leadK l l.length) k
      by_cases hm : (k : Int) ∈ leadK l l.length
      · have hg : (bl (l.length + 1) (inB (leadK l l.length)))[k]? = some (bC true) := by rw [bl_get? (by omega)]; simp [inB, hm]
        repeat (first | simp [h9, h5, h8, h1, b0, hlt, hg] | with_reducible refine And.intro (by omega) ?_ | with_reducible refine optK_if (by omega) ?_ | with_reducible refine optD_if (by omega) ?_ | simp (disch := omega) only [wrap_i64, if_pos, if_neg] | with_reducible refine gsel_pure (by with_unfolding_all rfl) _ (fun hg => by (try simp at hg); simp [hg, h9, h5, h8, h1, b0, hlt, hg]; rfl) ?_ | with_reducible refine dsel_pure (by with_unfolding_all rfl) _ (fun hg => by (try simp at hg); simp [hg, h9, h5, h8, h1, b0, hlt, hg]; rfl) ?_ | with_reducible refine awp_draw (by kernel_rfl) (by decide +kernel) ?_)
        refine hLB (k + 1) _ ⟨by first | omega | assumption | (simp [sortL_in hm, natI_append, intsC_append]; done) | (simp [sortL_in hm, natI_append, intsC_append]; omega), by simp [h9, h5, h8, h1, b0, hlt, sortL_in hm, natI_append, intsC_append], by simp [h9, h5, h8, h1, b0, hlt, sortL_in hm, natI_append, intsC_append], by simp [h9, h5, h8, h1, b0, hlt, sortL_in hm, natI_append, intsC_append], by simp [h9, h5, h8, h1, b0, hlt, sortL_in hm, natI_append, intsC_append], by simp [h9, h5, h8, h1, b0, hlt, sortL_in hm, natI_append, intsC_append]⟩ (by first | omega | (simp; omega))
      · have hg : (bl (l.length + 1) (inB (leadK l l.length)))[k]? = some (bC false) := by rw [bl_get? (by omega)]; simp [inB, hm]
        repeat (first | simp [h9, h5, h8, h1, b0, hlt, hg] | with_reducible refine And.intro (by omega) ?_ | with_reducible refine optK_if (by omega) ?_ | with_reducible refine optD_if (by omega) ?_ | simp (disch := omega) only [wrap_i64, if_pos, if_neg] | with_reducible refine gsel_pure (by with_unfolding_all rfl) _ (fun hg => by (try simp at hg); simp [hg, h9, h5, h8, h1, b0, hlt, hg]; rfl) ?_ | with_reducible refine dsel_pure (by with_unfolding_all rfl) _ (fun hg => by (try simp at hg); simp [hg, h9, h5, h8, h1, b0, hlt, hg]; rfl) ?_ | with_reducible refine awp_draw (by kernel_rfl) (by decide +kernel) ?_)
        refine hLB (k + 1) _ ⟨by first | omega | assumption | (simp [sortL_out hm]; done) | (simp [sortL_out hm]; omega), by simp [h9, h5, h8, h1, b0, hlt, sortL_out hm], by simp [h9, h5, h8, h1, b0, hlt, sortL_out hm], by simp [h9, h5, h8, h1, b0, hlt, sortL_out hm], by simp [h9, h5, h8, h1, b0, hlt, sortL_out hm], by simp [h9, h5, h8, h1, b0, hlt, sortL_out hm]⟩ (by first | omega | (simp; omega))
    · have : k = l.length := by omega
      subst this
      repeat (first | simp [h9, h5, h8, h1, b0, hlt] | with_reducible refine And.intro (by omega) ?_ | with_reducible refine optK_if (by omega) ?_ | with_reducible refine optD_if (by omega) ?_ | simp (disch := omega) only [wrap_i64, if_pos, if_neg] | with_reducible refine gsel_pure (by with_unfolding_all rfl) _ (fun hg => by (try simp at hg); simp [hg, h9, h5, h8, h1, b0, hlt]; rfl) ?_ | with_reducible refine dsel_pure (by with_unfolding_all rfl) _ (fun hg => by (try simp at hg); simp [hg, h9, h5, h8, h1, b0, hlt]; rfl) ?_ | with_reducible refine awp_draw (by kernel_rfl) (by decide +kernel) ?_)
      refine hQ _ _ (ret2 (by simp [retAV, resAV]; rfl) (by simp; rfl) ?_)
      simp [hf]
end Go.Proofs
end
