/- Contracts of functions, by their numbers, and the laws that walk them. Conditions: as each states. -/
import Derived.Test.YtgcinmhiohlmiaaDoorG6
import Derived.Test.YtgcinmhiohlmiaaDoorRows
import Derived.LaidMore
import Derived.Test.YtgcinmhiohlmiaaDoorG3
set_option linter.all false
section
set_option linter.all false
namespace Go.Dr
open Go.Fw
theorem vinv_step {l : List I8} {w : Int} {seen todo pre : List Nat} {i : Nat} (hI : VInv l w seen todo) (hm : ∀ x, x ∈ todo ↔ x = i ∨ x ∈ pre) (hl : todo.length = pre.length + 1) :
    i < l.length ∧ VOk l.length (seen, pre) ∧ VInv l w (pushL l w seen pre i (sucs l i).length).1 (pushL l w seen pre i (sucs l i).length).2 ∧ vms l.length (pushL l w seen pre i (sucs l i).length) < vms l.length (seen, todo) := by
  have hV := hI.ok
  have hlen := hV.len
  simp only at hlen
  have hV' : VOk l.length (seen, pre) := ⟨hV.nodup, hV.seen, fun x hx => hV.todo x ((hm x).2 (.inr hx)), by simp only; omega⟩
  have hi : i < l.length := hV.todo i ((hm i).2 (.inl rfl))
  have his : i ∈ seen := hI.sub i ((hm i).2 (.inl rfl))
  have hp := pushL_ok w i hV' _ (Nat.le_refl _)
  have hms : vms l.length (seen, todo) = vms l.length (seen, pre) + 1 := by simp [vms]; omega
  have hfold := pushV_fold (n := l.length) (w := w) (sucs l i) (seen, pre)
  have ht : (sucs l i).take (sucs l i).length = sucs l i := List.take_of_length_le (Nat.le_refl _)
  have e : pushL l w seen pre i (sucs l i).length = (sucs l i).foldl (pushV l.length w) (seen, pre) := by unfold pushL; rw [ht]
  rw [e] at hp ⊢
  generalize (sucs l i).foldl (pushV l.length w) (seen, pre) = st at *
  obtain ⟨S, T⟩ := st
  simp only at hp hfold ⊢
  obtain ⟨f1, f2, f3, f4, f5⟩ := hfold
  refine ⟨hi, hV', ⟨hp.1, fun x hx => ?_, fun x hx => ?_, fun y hy hyT x hx hxn hxw => ?_⟩, by omega⟩
  · rcases f4 x hx with h | h
    · exact f1 x (hI.sub x ((hm x).2 (.inr h)))
    · exact h
  · rcases f3 x hx with h | ⟨_, h2, _, h4⟩
    · exact hI.re x h
    · exact RE_step hi (hI.re i his) h2 h4
  · rcases f3 y hy with h | ⟨h, _⟩
    · by_cases hyi : y = i
      · subst hyi; exact f5 x hx hxn hxw
      · refine f1 x (hI.cl y h ?_ x hx hxn hxw)
        intro hc
        rcases (hm y).1 hc with h | h
        · exact hyi h
        · exact hyT (f2 y h)
    · exact (hyT h).elim
theorem pushL_sub {l : List I8} {w : Int} {seen pre : List Nat} {i m x : Nat} (h : x ∈ seen) : x ∈ (pushL l w seen pre i m).1 := by
  have hf := pushV_fold (n := l.length) (w := w) ((sucs l i).take m) (seen, pre)
  exact hf.1 x h
def inN (seen : List Nat) (j : Nat) : Bool := decide (j ∈ seen)
theorem inN_add {n : Nat} (seen : List Nat) (i : Nat) : (bl n (inN seen)).set i (bC true) = bl n (inN (seen ++ [i])) := by
  rw [bl_set]
  apply bl_congr
  intro j _
  unfold upB inN
  split
  · rename_i e; subst e; simp
  · rename_i e; simp [e]
theorem inN_start {n : Nat} : (bl n fun _ => false).set 0 (bC true) = bl n (inN [0]) := by
  have := inN_add (n := n) [] 0
  have e : bl n (inN []) = bl n fun _ => false := bl_congr fun i _ => by simp [inN]
  rw [e] at this
  exact this
theorem vinv_start {l : List I8} {w : Int} (hpos : 0 < l.length) (hw : w ≠ 0) : VInv l w [0] [0] :=
  ⟨⟨by simp, by simp; omega, by simp; omega, by simp⟩, by simp, by intro x hx; simp at hx; subst hx; exact RE_zero hw, by intro y hy hn; exact (hn hy).elim⟩
theorem vinv_end {l : List I8} {w : Int} {seen : List Nat} (hI : VInv l w seen []) (h0 : 0 ∈ seen) : bl l.length (inN seen) = bl l.length (wOn l w) := by
  apply bl_congr
  intro x hx
  rw [Bool.eq_iff_iff, wOn_iff]
  unfold inN
  rw [decide_eq_true_iff]
  constructor
  · exact fun h => ⟨hx, hI.re x h⟩
  · rintro ⟨_, hr⟩
    exact RE_sub (S := fun x => x < l.length → x ∈ seen) (fun _ _ => h0) (fun y x hy hS hs hw hx => hI.cl y (hS hy) (by simp) x hs hx hw) hr hx
theorem wOn_zero {l : List I8} {n : Nat} : bl n (wOn l 0) = bl n fun _ => false := by
  apply bl_congr
  intro i _
  rw [Bool.eq_false_iff]
  exact fun h => RE_zero_false (wOn_iff.1 h).2
theorem idm_zero (l : List I8) : idm l 0 = -1 := by
  have h := idm_lt l 0
  rcases Int.lt_or_le (idm l 0) 0 with hn | hs
  · exact ((idom_inv l 0 l.length).none hn).1
  · obtain ⟨c, hc⟩ : ∃ c : Nat, idm l 0 = c := ⟨(idm l 0).toNat, by omega⟩
    obtain ⟨h1, h2, _⟩ := idm_some hc
    exact (h2.cut (RE_zero (by omega))).elim
theorem idm_off {l : List I8} {i : Nat} (h : ¬ RE l (-1) i) : idm l i = -1 := by
  have hl := idm_lt l i
  rcases Int.lt_or_le (idm l i) 0 with hn | hs
  · exact ((idom_inv l i l.length).none hn).1
  · obtain ⟨c, hc⟩ : ∃ c : Nat, idm l i = c := ⟨(idm l i).toNat, by omega⟩
    exact (h (idm_some hc).2.1.i_on).elim
theorem left_above {l : List I8} {d i : Nat} (hd : d < l.length) (hi : i < l.length) (ho : RE l (-1) i) : wOn l d i = !abvF l d (l.length + 1) i := by
  have h := abv_iff (l := l) (d := d) (l.length + 1) hi ho (by have := cntD_le l i; omega)
  cases hb : abvF l d (l.length + 1) i
  · have hn : ¬ Dm l d i := fun hD => by rw [h.2 hD] at hb; cases hb
    show wOn l d i = true
    rw [wOn_iff]
    refine ⟨hi, ?_⟩
    by_cases hdo : RE l (-1) d
    · exact Classical.byContradiction fun hc => hn ⟨hd, hi, hdo, ho, hc⟩
    · have := RE_sub (S := fun x => RE l (-1) x ∧ RE l d x) (fun h0 => ⟨RE_zero h0, RE_zero fun e => hdo (by
        have : d = 0 := by omega
        subst this
        exact RE_zero (by omega))⟩) (fun y x hy hS hs hw => ⟨RE_step hy hS.1 hs hw, RE_step hy hS.2 hs fun e => hdo (by
        have : x = d := by omega
        subst this
        exact RE_step hy hS.1 hs (by omega))⟩) ho
      exact this.2
  · have hD := h.1 hb
    show wOn l d i = false
    rw [Bool.eq_false_iff]
    exact fun hw => hD.cut (wOn_iff.1 hw).2
end Go.Dr
namespace Go.Proofs
open Go.Fw Go.Dr
set_option maxRecDepth 100000

set_option maxHeartbeats 2000000 in
theorem at_reached (name : ByteArray) (l : List I8) (hf : funcE l = 0) (hpos : 0 < l.length) (w : Int) : At Tryd.prog 25 [fAV name l, iV .i64 w] (boolsA l.length (wOn l w)) := by
  have ok := okL hf
  have hlen := ok.len
  refine at_pure (r := .cell (.own 0 1 l.length (bl l.length (wOn l w)))) ?_ (by simp)
  by_cases hw : w = 0
  · subst hw
    refine at_code mixed Tryd.func25 (by kernel_rfl) rfl (by kernel_rfl) (by kernel_rfl) rfl fun Q hQ => ?_
    repeat (first | simp [repC_bl] | with_reducible refine And.intro (by omega) ?_ | with_reducible refine optK_if (by omega) ?_ | with_reducible refine optD_if (by omega) ?_ | simp (disch := omega) only [wrap_i64, if_pos, if_neg] | with_reducible refine gsel_pure (by with_unfolding_all rfl) _ (fun hg => by (try simp at hg); simp [hg, repC_bl]; rfl) ?_ | with_reducible refine dsel_pure (by with_unfolding_all rfl) _ (fun hg => by (try simp at hg); simp [hg, repC_bl]; rfl) ?_ | with_reducible refine awp_draw (by kernel_rfl) (by decide +kernel) ?_)
    refine hQ _ _ (ret2 (by simp [retAV, resAV, repC_bl]; rfl) (by simp [repC_bl]; rfl) ?_)
    rw [wOn_zero]
  have ew : eqI w 0 = false := by simp [eqI, hw]
  have hI0 := vinv_start (l := l) hpos hw
  have hNx : ∀ k : Nat, k < l.length → At Tryd.prog 15 [fAV name l, iV .i64 k] (.tup [intsA (natI (sucs l k)), iV .i64 0]) := by
    intro k hk
    have := at_next name l k
    rw [if_pos ⟨hf, by omega, by omega⟩, if_pos hf, if_pos (by omega)] at this
    exact this
  refine at_code mixed Tryd.func25 (by kernel_rfl) rfl (by kernel_rfl) (by kernel_rfl) rfl fun Q hQ => ?_
  repeat (first | simp [repC_bl, ew, hpos] | with_reducible refine And.intro (by omega) ?_ | with_reducible refine optK_if (by omega) ?_ | with_reducible refine optD_if (by omega) ?_ | simp (disch := omega) only [wrap_i64, if_pos, if_neg] | with_reducible refine gsel_pure (by with_unfolding_all rfl) _ (fun hg => by (try simp at hg); simp [hg, repC_bl, ew, hpos]; rfl) ?_ | with_reducible refine dsel_pure (by with_unfolding_all rfl) _ (fun hg => by (try simp at hg); simp [hg, repC_bl, ew, hpos]; rfl) ?_ | with_reducible refine awp_draw (by kernel_rfl) (by decide +kernel) ?_)
  have hX0 : AC.own 262144 1 1 [iC 0] = .own 262144 1 ([0] : List Nat).length (intsC (natI [0])) ∨ AC.own 262144 1 1 [iC 0] = .tl 262144 1 ([0] : List Nat).length (intsC (natI [0])) := .inl rfl
  have h00 : 0 ∈ ([0] : List Nat) := by simp
  refine awp_loopV (fun ((seen, todo, X) : List Nat × List Nat × AC) (s : St) => (VInv l w seen todo) ∧ (0 ∈ seen) ∧ (X = .own 262144 1 todo.length (intsC (natI todo)) ∨ X = .tl 262144 1 todo.length (intsC (natI todo))) ∧ s.env 6 = .cell X ∧ s.env 5 = .cell (.own 65728 1 l.length (bl l.length (inN seen))) ∧ s.env 1 = iV .i64 w ∧ s.env 2 = .cell (.ptr 0 0) ∧ s.box 0 = some ([.p (sC name), .p (.sl l.length (codeC l))])) (fun ((seen, todo, X) : List Nat × List Nat × AC) => vms l.length (seen, todo)) (([0], [0], .own 262144 1 1 [iC 0])) ⟨by first | omega | assumption | (simp [repC_bl, inN_start]; done) | (simp [repC_bl, inN_start]; omega), by first | omega | assumption | (simp [repC_bl, inN_start]; done) | (simp [repC_bl, inN_start]; omega), by first | omega | assumption | (simp [repC_bl, inN_start]; done) | (simp [repC_bl, inN_start]; omega), by simp [repC_bl, inN_start], by simp [repC_bl, inN_start], by simp [repC_bl, inN_start], by simp [repC_bl, inN_start], by simp [repC_bl, inN_start]⟩ fun (seen, todo, X) s hsA LA hLA => ?_
  obtain ⟨hI, h0s, hX, h6, h5, h1, h2, b0⟩ := hsA
  rcases hX with rfl | rfl
  all_goals
    rcases todo with _ | ⟨i, rest⟩
    · have e0 : ltI 0 ((([] : List Nat).length : Nat) : Int) = false := rfl
      repeat (first | simp [h6, h5, h1, h2, b0, e0] | with_reducible refine And.intro (by omega) ?_ | with_reducible refine optK_if (by omega) ?_ | with_reducible refine optD_if (by omega) ?_ | simp (disch := omega) only [wrap_i64, if_pos, if_neg] | with_reducible refine gsel_pure (by with_unfolding_all rfl) _ (fun hg => by (try simp at hg); simp [hg, h6, h5, h1, h2, b0, e0]; rfl) ?_ | with_reducible refine dsel_pure (by with_unfolding_all rfl) _ (fun hg => by (try simp at hg); simp [hg, h6, h5, h1, h2, b0, e0]; rfl) ?_ | with_reducible refine awp_draw (by kernel_rfl) (by decide +kernel) ?_)
      refine hQ _ _ (ret2 (by simp [retAV, resAV, repC_bl, ew]; rfl) (by simp [repC_bl, ew]; rfl) ?_)
      rw [vinv_end hI h0s]
    · obtain ⟨hin, hV, hI', hms⟩ := vinv_step (i := i) (pre := rest) hI (by simp) (by simp)
      have hs2 := sucs_len l i
      have hV' := hI.ok
      have hrl : rest.length < l.length := by
        have h1 := hV'.len
        have h2 := nodup_len hV'.nodup hV'.seen
        simp at h1 h2; omega
      have e0 : ltI 0 ((i :: rest).length : Int) = true := by simp [ltI] <;> omega
      repeat (first | simp [h6, h5, h1, h2, b0, e0] | with_reducible refine And.intro (by omega) ?_ | with_reducible refine optK_if (by omega) ?_ | with_reducible refine optD_if (by omega) ?_ | simp (disch := omega) only [wrap_i64, if_pos, if_neg] | with_reducible refine gsel_pure (by with_unfolding_all rfl) _ (fun hg => by (try simp at hg); simp [hg, h6, h5, h1, h2, b0, e0]; rfl) ?_ | with_reducible refine dsel_pure (by with_unfolding_all rfl) _ (fun hg => by (try simp at hg); simp [hg, h6, h5, h1, h2, b0, e0]; rfl) ?_ | with_reducible refine awp_draw (by kernel_rfl) (by decide +kernel) ?_)
      refine gop_call' (hNx i hin) (by (first | simp [h6, h5, h1, h2, b0] | simp (disch := omega) [h6, h5, h1, h2, b0, wrap_i64]); try rfl) (by simp) (by simp) ?_
      repeat (first | simp [h6, h5, h1, h2, b0] | with_reducible refine And.intro (by omega) ?_ | with_reducible refine optK_if (by omega) ?_ | with_reducible refine optD_if (by omega) ?_ | simp (disch := omega) only [wrap_i64, if_pos, if_neg] | with_reducible refine gsel_pure (by with_unfolding_all rfl) _ (fun hg => by (try simp at hg); simp [hg, h6, h5, h1, h2, b0]; rfl) ?_ | with_reducible refine dsel_pure (by with_unfolding_all rfl) _ (fun hg => by (try simp at hg); simp [hg, h6, h5, h1, h2, b0]; rfl) ?_ | with_reducible refine awp_draw (by kernel_rfl) (by decide +kernel) ?_)
      refine awp_loopV (fun (m : Nat) (s : St) => (m ≤ (sucs l i).length) ∧ s.env 38 = iV .i64 m ∧ s.env 37 = iV .i64 (sucs l i).length ∧ s.env 36 = intsA (natI (sucs l i)) ∧ s.env 5 = .cell (.own 65728 1 l.length (bl l.length (inN (pushL l w seen rest i m).1))) ∧ s.env 6 = .cell (.tl 262144 1 (pushL l w seen rest i m).2.length (intsC (natI (pushL l w seen rest i m).2))) ∧ s.env 1 = iV .i64 w ∧ s.env 2 = .cell (.ptr 0 0) ∧ s.box 0 = some ([.p (sC name), .p (.sl l.length (codeC l))])) (fun (m : Nat) => (sucs l i).length - m) (0) ⟨by first | omega | assumption | (simp [pushL]; done) | (simp [pushL]; omega), by simp [h6, h5, h1, h2, b0, pushL], by simp [h6, h5, h1, h2, b0, pushL], by simp [h6, h5, h1, h2, b0, pushL], by simp [h6, h5, h1, h2, b0, pushL], by simp [h6, h5, h1, h2, b0, pushL], by simp [h6, h5, h1, h2, b0, pushL], by simp [h6, h5, h1, h2, b0, pushL], by simp [h6, h5, h1, h2, b0, pushL]⟩ fun m s hsB LB hLB => ?_
      obtain ⟨hm, h38, h37, h36, h5, h6, h1, h2, b0⟩ := hsB
      repeat (first | simp [h38, h37, h36, h5, h6, h1, h2, b0] | with_reducible refine And.intro (by omega) ?_ | with_reducible refine optK_if (by omega) ?_ | with_reducible refine optD_if (by omega) ?_ | simp (disch := omega) only [wrap_i64, if_pos, if_neg] | with_reducible refine gsel_pure (by with_unfolding_all rfl) _ (fun hg => by (try simp at hg); simp [hg, h38, h37, h36, h5, h6, h1, h2, b0]; rfl) ?_ | with_reducible refine dsel_pure (by with_unfolding_all rfl) _ (fun hg => by (try simp at hg); simp [hg, h38, h37, h36, h5, h6, h1, h2, b0]; rfl) ?_ | with_reducible refine awp_draw (by kernel_rfl) (by decide +kernel) ?_)
      (with_reducible refine condK_intro (fun hml => ?_) (fun hml => ?_)) <;> (try simp only [hml]) <;> (try simp [andB, orB, eqI, ltI, Int.natCast_inj] at hml)
      · have hps := pushL_succ (w := w) (seen := seen) (todo := rest) hml
        have hpo := pushL_ok w i hV m (by omega)
        have hTl := hpo.1.len
        have hSl := nodup_len hpo.1.nodup hpo.1.seen
        obtain ⟨x, hx⟩ : ∃ x, (sucs l i)[m] = x := ⟨_, rfl⟩
        rw [hx] at hps
        generalize hst : pushL l w seen rest i m = st at *
        obtain ⟨S, T⟩ := st
        simp only at hTl hSl h5 h6
        have c1 : ltI (x : Int) 0 = false := by simp [ltI]
        by_cases hx1 : x < l.length
        rotate_left
        · have c2 : ltI (x : Int) l.length = false := by simp [ltI]; omega
          have hpv : pushV l.length w (S, T) x = (S, T) := by unfold pushV; rw [if_neg (by simp; omega)]
          rw [hpv] at hps
          repeat (first | simp [h38, h37, h36, h5, h6, h1, h2, b0, hml, hml, hx, c1, c2] | with_reducible refine And.intro (by omega) ?_ | with_reducible refine optK_if (by omega) ?_ | with_reducible refine optD_if (by omega) ?_ | simp (disch := omega) only [wrap_i64, if_pos, if_neg] | with_reducible refine gsel_pure (by with_unfolding_all rfl) _ (fun hg => by (try simp at hg); simp [hg, h38, h37, h36, h5, h6, h1, h2, b0, hml, hml, hx, c1, c2]; rfl) ?_ | with_reducible refine dsel_pure (by with_unfolding_all rfl) _ (fun hg => by (try simp at hg); simp [hg, h38, h37, h36, h5, h6, h1, h2, b0, hml, hml, hx, c1, c2]; rfl) ?_ | with_reducible refine awp_draw (by kernel_rfl) (by decide +kernel) ?_)
          refine hLB (m + 1) _ ⟨by first | omega | assumption | (simp [hps]; done) | (simp [hps]; omega), by simp [h38, h37, h36, h5, h6, h1, h2, b0, hml, hps], by simp [h38, h37, h36, h5, h6, h1, h2, b0, hml, hps], by simp [h38, h37, h36, h5, h6, h1, h2, b0, hml, hps], by simp [h38, h37, h36, h5, h6, h1, h2, b0, hml, hps], by simp [h38, h37, h36, h5, h6, h1, h2, b0, hml, hps], by simp [h38, h37, h36, h5, h6, h1, h2, b0, hml, hps], by simp [h38, h37, h36, h5, h6, h1, h2, b0, hml, hps], by simp [h38, h37, h36, h5, h6, h1, h2, b0, hml, hps]⟩ (by first | omega | (simp; omega))
        have c2 : ltI (x : Int) l.length = true := by simp [ltI]; omega
        by_cases hx2 : (x : Int) = w
        · have c3 : eqI (x : Int) w = true := by simp [eqI, hx2]
          have hpv : pushV l.length w (S, T) x = (S, T) := by unfold pushV; rw [if_neg (by simp; omega)]
          rw [hpv] at hps
          repeat (first | simp [h38, h37, h36, h5, h6, h1, h2, b0, hml, hml, hx, c1, c2, c3] | with_reducible refine And.intro (by omega) ?_ | with_reducible refine optK_if (by omega) ?_ | with_reducible refine optD_if (by omega) ?_ | simp (disch := omega) only [wrap_i64, if_pos, if_neg] | with_reducible refine gsel_pure (by with_unfolding_all rfl) _ (fun hg => by (try simp at hg); simp [hg, h38, h37, h36, h5, h6, h1, h2, b0, hml, hml, hx, c1, c2, c3]; rfl) ?_ | with_reducible refine dsel_pure (by with_unfolding_all rfl) _ (fun hg => by (try simp at hg); simp [hg, h38, h37, h36, h5, h6, h1, h2, b0, hml, hml, hx, c1, c2, c3]; rfl) ?_ | with_reducible refine awp_draw (by kernel_rfl) (by decide +kernel) ?_)
          refine hLB (m + 1) _ ⟨by first | omega | assumption | (simp [hps]; done) | (simp [hps]; omega), by simp [h38, h37, h36, h5, h6, h1, h2, b0, hml, hps], by simp [h38, h37, h36, h5, h6, h1, h2, b0, hml, hps], by simp [h38, h37, h36, h5, h6, h1, h2, b0, hml, hps], by simp [h38, h37, h36, h5, h6, h1, h2, b0, hml, hps], by simp [h38, h37, h36, h5, h6, h1, h2, b0, hml, hps], by simp [h38, h37, h36, h5, h6, h1, h2, b0, hml, hps], by simp [h38, h37, h36, h5, h6, h1, h2, b0, hml, hps], by simp [h38, h37, h36, h5, h6, h1, h2, b0, hml, hps]⟩ (by first | omega | (simp; omega))
        have c3 : eqI (x : Int) w = false := by simp [eqI, hx2]
        have g1 : (bl l.length (inN S))[x]? = some (bC (inN S x)) := bl_get? hx1
        by_cases hx3 : x ∈ S
        · have c4 : inN S x = true := by simp [inN, hx3]
          have hpv : pushV l.length w (S, T) x = (S, T) := by unfold pushV; rw [if_neg (by simp [hx3])]
          rw [hpv] at hps
          repeat (first | simp [h38, h37, h36, h5, h6, h1, h2, b0, hml, hml, hx, c1, c2, c3, g1, c4, hx1] | with_reducible refine And.intro (by omega) ?_ | with_reducible refine optK_if (by omega) ?_ | with_reducible refine optD_if (by omega) ?_ | simp (disch := omega) only [wrap_i64, if_pos, if_neg] | with_reducible refine gsel_pure (by with_unfolding_all rfl) _ (fun hg => by (try simp at hg); simp [hg, h38, h37, h36, h5, h6, h1, h2, b0, hml, hml, hx, c1, c2, c3, g1, c4, hx1]; rfl) ?_ | with_reducible refine dsel_pure (by with_unfolding_all rfl) _ (fun hg => by (try simp at hg); simp [hg, h38, h37, h36, h5, h6, h1, h2, b0, hml, hml, hx, c1, c2, c3, g1, c4, hx1]; rfl) ?_ | with_reducible refine awp_draw (by kernel_rfl) (by decide +kernel) ?_)
          refine hLB (m + 1) _ ⟨by first | omega | assumption | (simp [hps]; done) | (simp [hps]; omega), by simp [h38, h37, h36, h5, h6, h1, h2, b0, hml, hps], by simp [h38, h37, h36, h5, h6, h1, h2, b0, hml, hps], by simp [h38, h37, h36, h5, h6, h1, h2, b0, hml, hps], by simp [h38, h37, h36, h5, h6, h1, h2, b0, hml, hps], by simp [h38, h37, h36, h5, h6, h1, h2, b0, hml, hps], by simp [h38, h37, h36, h5, h6, h1, h2, b0, hml, hps], by simp [h38, h37, h36, h5, h6, h1, h2, b0, hml, hps], by simp [h38, h37, h36, h5, h6, h1, h2, b0, hml, hps]⟩ (by first | omega | (simp; omega))
        · have c4 : inN S x = false := by simp [inN, hx3]
          have hpv : pushV l.length w (S, T) x = (S ++ [x], T ++ [x]) := by unfold pushV; rw [if_pos ⟨hx1, hx2, hx3⟩]
          rw [hpv] at hps
          repeat (first | simp [h38, h37, h36, h5, h6, h1, h2, b0, hml, hml, hx, c1, c2, c3, g1, c4, hx1] | with_reducible refine And.intro (by omega) ?_ | with_reducible refine optK_if (by omega) ?_ | with_reducible refine optD_if (by omega) ?_ | simp (disch := omega) only [wrap_i64, if_pos, if_neg] | with_reducible refine gsel_pure (by with_unfolding_all rfl) _ (fun hg => by (try simp at hg); simp [hg, h38, h37, h36, h5, h6, h1, h2, b0, hml, hml, hx, c1, c2, c3, g1, c4, hx1]; rfl) ?_ | with_reducible refine dsel_pure (by with_unfolding_all rfl) _ (fun hg => by (try simp at hg); simp [hg, h38, h37, h36, h5, h6, h1, h2, b0, hml, hml, hx, c1, c2, c3, g1, c4, hx1]; rfl) ?_ | with_reducible refine awp_draw (by kernel_rfl) (by decide +kernel) ?_)
          refine hLB (m + 1) _ ⟨by first | omega | assumption | (simp [hps, inN_add, natI_append, intsC_append]; done) | (simp [hps, inN_add, natI_append, intsC_append]; omega), by simp [h38, h37, h36, h5, h6, h1, h2, b0, hml, hps, inN_add, natI_append, intsC_append], by simp [h38, h37, h36, h5, h6, h1, h2, b0, hml, hps, inN_add, natI_append, intsC_append], by simp [h38, h37, h36, h5, h6, h1, h2, b0, hml, hps, inN_add, natI_append, intsC_append], by simp [h38, h37, h36, h5, h6, h1, h2, b0, hml, hps, inN_add, natI_append, intsC_append], by simp [h38, h37, h36, h5, h6, h1, h2, b0, hml, hps, inN_add, natI_append, intsC_append], by simp [h38, h37, h36, h5, h6, h1, h2, b0, hml, hps, inN_add, natI_append, intsC_append], by simp [h38, h37, h36, h5, h6, h1, h2, b0, hml, hps, inN_add, natI_append, intsC_append], by simp [h38, h37, h36, h5, h6, h1, h2, b0, hml, hps, inN_add, natI_append, intsC_append]⟩ (by first | omega | (simp; omega))
      · have : m = (sucs l i).length := by omega
        subst this
        have h0S := pushL_sub (l := l) (w := w) (pre := rest) (i := i) (m := (sucs l i).length) h0s
        generalize hst : pushL l w seen rest i (sucs l i).length = st at *
        obtain ⟨S, T⟩ := st
        simp only at h5 h6 h0S
        repeat (first | simp [h38, h37, h36, h5, h6, h1, h2, b0, hml] | with_reducible refine And.intro (by omega) ?_ | with_reducible refine optK_if (by omega) ?_ | with_reducible refine optD_if (by omega) ?_ | simp (disch := omega) only [wrap_i64, if_pos, if_neg] | with_reducible refine gsel_pure (by with_unfolding_all rfl) _ (fun hg => by (try simp at hg); simp [hg, h38, h37, h36, h5, h6, h1, h2, b0, hml]; rfl) ?_ | with_reducible refine dsel_pure (by with_unfolding_all rfl) _ (fun hg => by (try simp at hg); simp [hg, h38, h37, h36, h5, h6, h1, h2, b0, hml]; rfl) ?_ | with_reducible refine awp_draw (by kernel_rfl) (by decide +kernel) ?_)
        refine hLA ((S, T, .tl 262144 1 T.length (intsC (natI T)))) _ ⟨by exact hI', by exact h0S, by exact .inr rfl, by simp [h38, h37, h36, h5, h6, h1, h2, b0, hml], by simp [h38, h37, h36, h5, h6, h1, h2, b0, hml], by simp [h38, h37, h36, h5, h6, h1, h2, b0, hml], by simp [h38, h37, h36, h5, h6, h1, h2, b0, hml], by simp [h38, h37, h36, h5, h6, h1, h2, b0, hml]⟩ (by  exact hms)
set_option maxHeartbeats 4000000 in
theorem at_lawDominators (name : ByteArray) (l : List I8) : At Tryd.prog 6 [fAV name l] (bV true) := by
  have hA := at_dominators name l
  by_cases hc : funcE l = 0
  rotate_left
  · rw [if_neg hc] at hA
    have e1 : eqI (funcE l) 0 = false := by simp [eqI, hc]
    refine at_code mixed Tryd.func6 (by kernel_rfl) rfl (by kernel_rfl) (by kernel_rfl) rfl fun Q hQ => ?_
    repeat (first | simp | with_reducible refine And.intro (by omega) ?_ | with_reducible refine optK_if (by omega) ?_ | with_reducible refine optD_if (by omega) ?_ | simp (disch := omega) only [wrap_i64, if_pos, if_neg] | with_reducible refine gsel_pure (by with_unfolding_all rfl) _ (fun hg => by (try simp at hg); simp [hg]; rfl) ?_ | with_reducible refine dsel_pure (by with_unfolding_all rfl) _ (fun hg => by (try simp at hg); simp [hg]; rfl) ?_ | with_reducible refine awp_draw (by kernel_rfl) (by decide +kernel) ?_)
    (with_reducible refine condK_intro (fun hh => ?_) (fun hh => ?_)) <;> (try simp only [hh]) <;> (try simp [andB, orB, eqI, ltI, Int.natCast_inj] at hh)
    · repeat (first | simp [hh] | with_reducible refine And.intro (by omega) ?_ | with_reducible refine optK_if (by omega) ?_ | with_reducible refine optD_if (by omega) ?_ | simp (disch := omega) only [wrap_i64, if_pos, if_neg] | with_reducible refine gsel_pure (by with_unfolding_all rfl) _ (fun hg => by (try simp at hg); simp [hg, hh]; rfl) ?_ | with_reducible refine dsel_pure (by with_unfolding_all rfl) _ (fun hg => by (try simp at hg); simp [hg, hh]; rfl) ?_ | with_reducible refine awp_draw (by kernel_rfl) (by decide +kernel) ?_)
      refine gop_call (at_example) (by (first | simp [hh] | simp (disch := omega) [hh, wrap_i64]); try rfl) (by simp) (by simp) ?_
      repeat (first | simp [hh] | with_reducible refine And.intro (by omega) ?_ | with_reducible refine optK_if (by omega) ?_ | with_reducible refine optD_if (by omega) ?_ | simp (disch := omega) only [wrap_i64, if_pos, if_neg] | with_reducible refine gsel_pure (by with_unfolding_all rfl) _ (fun hg => by (try simp at hg); simp [hg, hh]; rfl) ?_ | with_reducible refine dsel_pure (by with_unfolding_all rfl) _ (fun hg => by (try simp at hg); simp [hg, hh]; rfl) ?_ | with_reducible refine awp_draw (by kernel_rfl) (by decide +kernel) ?_)
      refine hQ _ _ (ret2 (by simp [retAV, resAV]; rfl) (by simp; rfl) ?_)
      rfl
    · repeat (first | simp [hh] | with_reducible refine And.intro (by omega) ?_ | with_reducible refine optK_if (by omega) ?_ | with_reducible refine optD_if (by omega) ?_ | simp (disch := omega) only [wrap_i64, if_pos, if_neg] | with_reducible refine gsel_pure (by with_unfolding_all rfl) _ (fun hg => by (try simp at hg); simp [hg, hh]; rfl) ?_ | with_reducible refine dsel_pure (by with_unfolding_all rfl) _ (fun hg => by (try simp at hg); simp [hg, hh]; rfl) ?_ | with_reducible refine awp_draw (by kernel_rfl) (by decide +kernel) ?_)
      refine gop_call (hA) (by (first | simp [hh] | simp (disch := omega) [hh, wrap_i64]); try rfl) (by simp) (by simp) ?_
      repeat (first | simp [hh, e1] | with_reducible refine And.intro (by omega) ?_ | with_reducible refine optK_if (by omega) ?_ | with_reducible refine optD_if (by omega) ?_ | simp (disch := omega) only [wrap_i64, if_pos, if_neg] | with_reducible refine gsel_pure (by with_unfolding_all rfl) _ (fun hg => by (try simp at hg); simp [hg, hh, e1]; rfl) ?_ | with_reducible refine dsel_pure (by with_unfolding_all rfl) _ (fun hg => by (try simp at hg); simp [hg, hh, e1]; rfl) ?_ | with_reducible refine awp_draw (by kernel_rfl) (by decide +kernel) ?_)
      refine gop_call (at_example) (by (first | simp [hh] | simp (disch := omega) [hh, wrap_i64]); try rfl) (by simp) (by simp) ?_
      repeat (first | simp [hh] | with_reducible refine And.intro (by omega) ?_ | with_reducible refine optK_if (by omega) ?_ | with_reducible refine optD_if (by omega) ?_ | simp (disch := omega) only [wrap_i64, if_pos, if_neg] | with_reducible refine gsel_pure (by with_unfolding_all rfl) _ (fun hg => by (try simp at hg); simp [hg, hh]; rfl) ?_ | with_reducible refine dsel_pure (by with_unfolding_all rfl) _ (fun hg => by (try simp at hg); simp [hg, hh]; rfl) ?_ | with_reducible refine awp_draw (by kernel_rfl) (by decide +kernel) ?_)
      refine hQ _ _ (ret2 (by simp [retAV, resAV]; rfl) (by simp; rfl) ?_)
      simp
  
  rw [if_pos hc] at hA
  have ok := okL hc
  have hlen := ok.len
  have hA' := at_pure hA (r' := .tup [intsA (idomL (domB l) l.length l.length), iV .i64 (funcE l)]) (by simp [idomL_length])
  have hAb := at_above l hlen
  have hDl := idomL_length (dom := domB l) (Nat.le_refl l.length)
  have hDg := fun j (h : j < l.length) => idomL_get (l := l) h
  clear hA
  generalize idomL (domB l) l.length l.length = D at *
  have hDe : ∀ j (h : j < D.length), D[j] = idm l j := fun j h => by have := hDg j (by omega); rw [List.getElem?_eq_getElem h] at this; exact Option.some.inj this
  have hAb' : ∀ d x : Int, At Tryd.prog 26 [.cell (.p (.sl l.length (intsC D))), iV .i64 d, iV .i64 x] (bV (abvF l d (l.length + 1) x)) := by
    intro d x
    have := hAb d x
    rw [show intsA D = .cell (.p (.sl l.length (intsC D))) by simp [hDl]] at this
    exact this
  refine at_code mixed Tryd.func6 (by kernel_rfl) rfl (by kernel_rfl) (by kernel_rfl) rfl fun Q hQ => ?_
  repeat (first | simp | with_reducible refine And.intro (by omega) ?_ | with_reducible refine optK_if (by omega) ?_ | with_reducible refine optD_if (by omega) ?_ | simp (disch := omega) only [wrap_i64, if_pos, if_neg] | with_reducible refine gsel_pure (by with_unfolding_all rfl) _ (fun hg => by (try simp at hg); simp [hg]; rfl) ?_ | with_reducible refine dsel_pure (by with_unfolding_all rfl) _ (fun hg => by (try simp at hg); simp [hg]; rfl) ?_ | with_reducible refine awp_draw (by kernel_rfl) (by decide +kernel) ?_)
  (with_reducible refine condK_intro (fun hh => ?_) (fun hh => ?_)) <;> (try simp only [hh]) <;> (try simp [andB, orB, eqI, ltI, Int.natCast_inj] at hh)
  · repeat (first | simp [hh] | with_reducible refine And.intro (by omega) ?_ | with_reducible refine optK_if (by omega) ?_ | with_reducible refine optD_if (by omega) ?_ | simp (disch := omega) only [wrap_i64, if_pos, if_neg] | with_reducible refine gsel_pure (by with_unfolding_all rfl) _ (fun hg => by (try simp at hg); simp [hg, hh]; rfl) ?_ | with_reducible refine dsel_pure (by with_unfolding_all rfl) _ (fun hg => by (try simp at hg); simp [hg, hh]; rfl) ?_ | with_reducible refine awp_draw (by kernel_rfl) (by decide +kernel) ?_)
    refine gop_call (at_example) (by (first | simp [hh] | simp (disch := omega) [hh, wrap_i64]); try rfl) (by simp) (by simp) ?_
    repeat (first | simp [hh] | with_reducible refine And.intro (by omega) ?_ | with_reducible refine optK_if (by omega) ?_ | with_reducible refine optD_if (by omega) ?_ | simp (disch := omega) only [wrap_i64, if_pos, if_neg] | with_reducible refine gsel_pure (by with_unfolding_all rfl) _ (fun hg => by (try simp at hg); simp [hg, hh]; rfl) ?_ | with_reducible refine dsel_pure (by with_unfolding_all rfl) _ (fun hg => by (try simp at hg); simp [hg, hh]; rfl) ?_ | with_reducible refine awp_draw (by kernel_rfl) (by decide +kernel) ?_)
    refine hQ _ _ (ret2 (by simp [retAV, resAV]; rfl) (by simp; rfl) ?_)
    rfl
  have hpos : 0 < l.length := by omega
  have hR := at_reached name l hc hpos
  repeat (first | simp [hh] | with_reducible refine And.intro (by omega) ?_ | with_reducible refine optK_if (by omega) ?_ | with_reducible refine optD_if (by omega) ?_ | simp (disch := omega) only [wrap_i64, if_pos, if_neg] | with_reducible refine gsel_pure (by with_unfolding_all rfl) _ (fun hg => by (try simp at hg); simp [hg, hh]; rfl) ?_ | with_reducible refine dsel_pure (by with_unfolding_all rfl) _ (fun hg => by (try simp at hg); simp [hg, hh]; rfl) ?_ | with_reducible refine awp_draw (by kernel_rfl) (by decide +kernel) ?_)
  refine gop_call' (hA') (by (first | simp [hh] | simp (disch := omega) [hh, wrap_i64]); try rfl) (by simp) (by simp) ?_
  repeat (first | simp [hh, hc] | with_reducible refine And.intro (by omega) ?_ | with_reducible refine optK_if (by omega) ?_ | with_reducible refine optD_if (by omega) ?_ | simp (disch := omega) only [wrap_i64, if_pos, if_neg] | with_reducible refine gsel_pure (by with_unfolding_all rfl) _ (fun hg => by (try simp at hg); simp [hg, hh, hc]; rfl) ?_ | with_reducible refine dsel_pure (by with_unfolding_all rfl) _ (fun hg => by (try simp at hg); simp [hg, hh, hc]; rfl) ?_ | with_reducible refine awp_draw (by kernel_rfl) (by decide +kernel) ?_)
  refine gop_call' (hR (-1)) (by (first | simp [hh] | simp (disch := omega) [hh, wrap_i64]); try rfl) (by simp) (by simp) ?_
  have e0 : D[0]'(by omega) = -1 := by rw [hDe, idm_zero]
  repeat (first | simp [hh, hDl, e0, hpos] | with_reducible refine And.intro (by omega) ?_ | with_reducible refine optK_if (by omega) ?_ | with_reducible refine optD_if (by omega) ?_ | simp (disch := omega) only [wrap_i64, if_pos, if_neg] | with_reducible refine gsel_pure (by with_unfolding_all rfl) _ (fun hg => by (try simp at hg); simp [hg, hh, hDl, e0, hpos]; rfl) ?_ | with_reducible refine dsel_pure (by with_unfolding_all rfl) _ (fun hg => by (try simp at hg); simp [hg, hh, hDl, e0, hpos]; rfl) ?_ | with_reducible refine awp_draw (by kernel_rfl) (by decide +kernel) ?_)
  refine awp_loopV (fun (d : Nat) (s : St) => (d ≤ l.length) ∧ s.env 50 = iV .i64 d ∧ s.env 49 = iV .i64 l.length ∧ s.env 3 = .cell (.p (.sl l.length (intsC D))) ∧ s.env 5 = boolsA l.length (wOn l (-1)) ∧ s.env 1 = .cell (.ptr 0 0) ∧ s.box 0 = some ([.p (sC name), .p (.sl l.length (codeC l))])) (fun (d : Nat) => l.length - d) (0) ⟨by first | omega | assumption | (simp; done) | (simp; omega), by simp [hh], by simp [hh], by simp [hh], by simp [hh], by simp [hh], by simp [hh]⟩ fun d s hsA LA hLA => ?_
  obtain ⟨hd, h50, h49, h3, h5, h1, b0⟩ := hsA
  repeat (first | simp [h50, h49, h3, h5, h1, b0, hh] | with_reducible refine And.intro (by omega) ?_ | with_reducible refine optK_if (by omega) ?_ | with_reducible refine optD_if (by omega) ?_ | simp (disch := omega) only [wrap_i64, if_pos, if_neg] | with_reducible refine gsel_pure (by with_unfolding_all rfl) _ (fun hg => by (try simp at hg); simp [hg, h50, h49, h3, h5, h1, b0, hh]; rfl) ?_ | with_reducible refine dsel_pure (by with_unfolding_all rfl) _ (fun hg => by (try simp at hg); simp [hg, h50, h49, h3, h5, h1, b0, hh]; rfl) ?_ | with_reducible refine awp_draw (by kernel_rfl) (by decide +kernel) ?_)
  (with_reducible refine condK_intro (fun hdl => ?_) (fun hdl => ?_)) <;> (try simp only [hdl]) <;> (try simp [andB, orB, eqI, ltI, Int.natCast_inj] at hdl)
  · repeat (first | simp [h50, h49, h3, h5, h1, b0, hh, hdl] | with_reducible refine And.intro (by omega) ?_ | with_reducible refine optK_if (by omega) ?_ | with_reducible refine optD_if (by omega) ?_ | simp (disch := omega) only [wrap_i64, if_pos, if_neg] | with_reducible refine gsel_pure (by with_unfolding_all rfl) _ (fun hg => by (try simp at hg); simp [hg, h50, h49, h3, h5, h1, b0, hh, hdl]; rfl) ?_ | with_reducible refine dsel_pure (by with_unfolding_all rfl) _ (fun hg => by (try simp at hg); simp [hg, h50, h49, h3, h5, h1, b0, hh, hdl]; rfl) ?_ | with_reducible refine awp_draw (by kernel_rfl) (by decide +kernel) ?_)
    refine gop_call' (hR d) (by (first | simp [h50, h49, h3, h5, h1, b0, hh, hdl] | simp (disch := omega) [h50, h49, h3, h5, h1, b0, hh, hdl, wrap_i64]); try rfl) (by simp) (by simp) ?_
    repeat (first | simp [h50, h49, h3, h5, h1, b0, hh, hdl] | with_reducible refine And.intro (by omega) ?_ | with_reducible refine optK_if (by omega) ?_ | with_reducible refine optD_if (by omega) ?_ | simp (disch := omega) only [wrap_i64, if_pos, if_neg] | with_reducible refine gsel_pure (by with_unfolding_all rfl) _ (fun hg => by (try simp at hg); simp [hg, h50, h49, h3, h5, h1, b0, hh, hdl]; rfl) ?_ | with_reducible refine dsel_pure (by with_unfolding_all rfl) _ (fun hg => by (try simp at hg); simp [hg, h50, h49, h3, h5, h1, b0, hh, hdl]; rfl) ?_ | with_reducible refine awp_draw (by kernel_rfl) (by decide +kernel) ?_)
    refine awp_loopV (fun (i : Nat) (s : St) => (i ≤ l.length) ∧ s.env 59 = iV .i64 i ∧ s.env 58 = iV .i64 l.length ∧ s.env 7 = boolsA l.length (wOn l d) ∧ s.env 6 = iV .i64 d ∧ s.env 50 = iV .i64 d ∧ s.env 49 = iV .i64 l.length ∧ s.env 3 = .cell (.p (.sl l.length (intsC D))) ∧ s.env 5 = boolsA l.length (wOn l (-1)) ∧ s.env 1 = .cell (.ptr 0 0) ∧ s.box 0 = some ([.p (sC name), .p (.sl l.length (codeC l))])) (fun (i : Nat) => l.length - i) (0) ⟨by first | omega | assumption | (simp; done) | (simp; omega), by simp [h50, h49, h3, h5, h1, b0, hh, hdl], by simp [h50, h49, h3, h5, h1, b0, hh, hdl], by simp [h50, h49, h3, h5, h1, b0, hh, hdl], by simp [h50, h49, h3, h5, h1, b0, hh, hdl], by simp [h50, h49, h3, h5, h1, b0, hh, hdl], by simp [h50, h49, h3, h5, h1, b0, hh, hdl], by simp [h50, h49, h3, h5, h1, b0, hh, hdl], by simp [h50, h49, h3, h5, h1, b0, hh, hdl], by simp [h50, h49, h3, h5, h1, b0, hh, hdl], by simp [h50, h49, h3, h5, h1, b0, hh, hdl]⟩ fun i s hsB LB hLB => ?_
    obtain ⟨hi, h59, h58, h7, h6, h50, h49, h3, h5, h1, b0⟩ := hsB
    repeat (first | simp [h59, h58, h7, h6, h50, h49, h3, h5, h1, b0, hh, hdl] | with_reducible refine And.intro (by omega) ?_ | with_reducible refine optK_if (by omega) ?_ | with_reducible refine optD_if (by omega) ?_ | simp (disch := omega) only [wrap_i64, if_pos, if_neg] | with_reducible refine gsel_pure (by with_unfolding_all rfl) _ (fun hg => by (try simp at hg); simp [hg, h59, h58, h7, h6, h50, h49, h3, h5, h1, b0, hh, hdl]; rfl) ?_ | with_reducible refine dsel_pure (by with_unfolding_all rfl) _ (fun hg => by (try simp at hg); simp [hg, h59, h58, h7, h6, h50, h49, h3, h5, h1, b0, hh, hdl]; rfl) ?_ | with_reducible refine awp_draw (by kernel_rfl) (by decide +kernel) ?_)
    (with_reducible refine condK_intro (fun hil => ?_) (fun hil => ?_)) <;> (try simp only [hil]) <;> (try simp [andB, orB, eqI, ltI, Int.natCast_inj] at hil)
    · have hiD : i < D.length := by omega
      have hv := hDe i hiD
      have g1 : (bl l.length (wOn l (-1)))[i]? = some (bC (wOn l (-1) i)) := bl_get? hil
      have g2 : (bl l.length (wOn l d))[i]? = some (bC (wOn l d i)) := bl_get? hil
      by_cases ho : wOn l (-1) i = true
      rotate_left
      · have ho' : wOn l (-1) i = false := by simpa using ho
        have hm1 : idm l i = -1 := idm_off fun h => ho (wOn_iff.2 ⟨hil, h⟩)
        rw [hm1] at hv
        have c1 : ltI (-1) (-1) = false := rfl
        have c2 : ltI (-1) (l.length : Int) = true := by simp [ltI]; omega
        have c3 : eqI (-1) (-1) = true := rfl
        repeat (first | simp [h59, h58, h7, h6, h50, h49, h3, h5, h1, b0, hh, hdl, hil, hv, g1, ho', c1, c2, c3, hil, hiD] | with_reducible refine And.intro (by omega) ?_ | with_reducible refine optK_if (by omega) ?_ | with_reducible refine optD_if (by omega) ?_ | simp (disch := omega) only [wrap_i64, if_pos, if_neg] | with_reducible refine gsel_pure (by with_unfolding_all rfl) _ (fun hg => by (try simp at hg); simp [hg, h59, h58, h7, h6, h50, h49, h3, h5, h1, b0, hh, hdl, hil, hv, g1, ho', c1, c2, c3, hil, hiD]; rfl) ?_ | with_reducible refine dsel_pure (by with_unfolding_all rfl) _ (fun hg => by (try simp at hg); simp [hg, h59, h58, h7, h6, h50, h49, h3, h5, h1, b0, hh, hdl, hil, hv, g1, ho', c1, c2, c3, hil, hiD]; rfl) ?_ | with_reducible refine awp_draw (by kernel_rfl) (by decide +kernel) ?_)
        refine hLB (i + 1) _ ⟨by first | omega | assumption | (simp; done) | (simp; omega), by simp [h59, h58, h7, h6, h50, h49, h3, h5, h1, b0, hh, hdl, hil], by simp [h59, h58, h7, h6, h50, h49, h3, h5, h1, b0, hh, hdl, hil], by simp [h59, h58, h7, h6, h50, h49, h3, h5, h1, b0, hh, hdl, hil], by simp [h59, h58, h7, h6, h50, h49, h3, h5, h1, b0, hh, hdl, hil], by simp [h59, h58, h7, h6, h50, h49, h3, h5, h1, b0, hh, hdl, hil], by simp [h59, h58, h7, h6, h50, h49, h3, h5, h1, b0, hh, hdl, hil], by simp [h59, h58, h7, h6, h50, h49, h3, h5, h1, b0, hh, hdl, hil], by simp [h59, h58, h7, h6, h50, h49, h3, h5, h1, b0, hh, hdl, hil], by simp [h59, h58, h7, h6, h50, h49, h3, h5, h1, b0, hh, hdl, hil], by simp [h59, h58, h7, h6, h50, h49, h3, h5, h1, b0, hh, hdl, hil]⟩ (by first | omega | (simp; omega))
      · have hlt := idm_lt l i
        have hleft := left_above hdl hil (wOn_iff.1 ho).2
        generalize idm l i = x at *
        have c1 : ltI x (-1) = false := by simp [ltI]; omega
        have c2 : ltI x (l.length : Int) = true := by simp [ltI]; omega
        repeat (first | simp [h59, h58, h7, h6, h50, h49, h3, h5, h1, b0, hh, hdl, hil, hv, g1, g2, ho, c1, c2, hil, hiD] | with_reducible refine And.intro (by omega) ?_ | with_reducible refine optK_if (by omega) ?_ | with_reducible refine optD_if (by omega) ?_ | simp (disch := omega) only [wrap_i64, if_pos, if_neg] | with_reducible refine gsel_pure (by with_unfolding_all rfl) _ (fun hg => by (try simp at hg); simp [hg, h59, h58, h7, h6, h50, h49, h3, h5, h1, b0, hh, hdl, hil, hv, g1, g2, ho, c1, c2, hil, hiD]; rfl) ?_ | with_reducible refine dsel_pure (by with_unfolding_all rfl) _ (fun hg => by (try simp at hg); simp [hg, h59, h58, h7, h6, h50, h49, h3, h5, h1, b0, hh, hdl, hil, hv, g1, g2, ho, c1, c2, hil, hiD]; rfl) ?_ | with_reducible refine awp_draw (by kernel_rfl) (by decide +kernel) ?_)
        refine dq_at (hAb' d i) (by (first | simp [h59, h58, h7, h6, h50, h49, h3, h5, h1, b0, hh, hdl, hil] | simp (disch := omega) [h59, h58, h7, h6, h50, h49, h3, h5, h1, b0, hh, hdl, hil, wrap_i64]); try rfl) (by simp) (by simp) ?_
        have hq : (wOn l d i == abvF l d (l.length + 1) i) = false := by rw [hleft]; cases abvF l d (l.length + 1) i <;> rfl
        repeat (first | simp [h59, h58, h7, h6, h50, h49, h3, h5, h1, b0, hh, hdl, hil, hq] | with_reducible refine And.intro (by omega) ?_ | with_reducible refine optK_if (by omega) ?_ | with_reducible refine optD_if (by omega) ?_ | simp (disch := omega) only [wrap_i64, if_pos, if_neg] | with_reducible refine gsel_pure (by with_unfolding_all rfl) _ (fun hg => by (try simp at hg); simp [hg, h59, h58, h7, h6, h50, h49, h3, h5, h1, b0, hh, hdl, hil, hq]; rfl) ?_ | with_reducible refine dsel_pure (by with_unfolding_all rfl) _ (fun hg => by (try simp at hg); simp [hg, h59, h58, h7, h6, h50, h49, h3, h5, h1, b0, hh, hdl, hil, hq]; rfl) ?_ | with_reducible refine awp_draw (by kernel_rfl) (by decide +kernel) ?_)
        refine hLB (i + 1) _ ⟨by first | omega | assumption | (simp; done) | (simp; omega), by simp [h59, h58, h7, h6, h50, h49, h3, h5, h1, b0, hh, hdl, hil], by simp [h59, h58, h7, h6, h50, h49, h3, h5, h1, b0, hh, hdl, hil], by simp [h59, h58, h7, h6, h50, h49, h3, h5, h1, b0, hh, hdl, hil], by simp [h59, h58, h7, h6, h50, h49, h3, h5, h1, b0, hh, hdl, hil], by simp [h59, h58, h7, h6, h50, h49, h3, h5, h1, b0, hh, hdl, hil], by simp [h59, h58, h7, h6, h50, h49, h3, h5, h1, b0, hh, hdl, hil], by simp [h59, h58, h7, h6, h50, h49, h3, h5, h1, b0, hh, hdl, hil], by simp [h59, h58, h7, h6, h50, h49, h3, h5, h1, b0, hh, hdl, hil], by simp [h59, h58, h7, h6, h50, h49, h3, h5, h1, b0, hh, hdl, hil], by simp [h59, h58, h7, h6, h50, h49, h3, h5, h1, b0, hh, hdl, hil]⟩ (by first | omega | (simp; omega))
    · have : i = l.length := by omega
      subst this
      repeat (first | simp [h59, h58, h7, h6, h50, h49, h3, h5, h1, b0, hh, hdl, hil] | with_reducible refine And.intro (by omega) ?_ | with_reducible refine optK_if (by omega) ?_ | with_reducible refine optD_if (by omega) ?_ | simp (disch := omega) only [wrap_i64, if_pos, if_neg] | with_reducible refine gsel_pure (by with_unfolding_all rfl) _ (fun hg => by (try simp at hg); simp [hg, h59, h58, h7, h6, h50, h49, h3, h5, h1, b0, hh, hdl, hil]; rfl) ?_ | with_reducible refine dsel_pure (by with_unfolding_all rfl) _ (fun hg => by (try simp at hg); simp [hg, h59, h58, h7, h6, h50, h49, h3, h5, h1, b0, hh, hdl, hil]; rfl) ?_ | with_reducible refine awp_draw (by kernel_rfl) (by decide +kernel) ?_)
      refine hLA (d + 1) _ ⟨by first | omega | assumption | (simp; done) | (simp; omega), by simp [h59, h58, h7, h6, h50, h49, h3, h5, h1, b0, hh, hdl, hil], by simp [h59, h58, h7, h6, h50, h49, h3, h5, h1, b0, hh, hdl, hil], by simp [h59, h58, h7, h6, h50, h49, h3, h5, h1, b0, hh, hdl, hil], by simp [h59, h58, h7, h6, h50, h49, h3, h5, h1, b0, hh, hdl, hil], by simp [h59, h58, h7, h6, h50, h49, h3, h5, h1, b0, hh, hdl, hil], by simp [h59, h58, h7, h6, h50, h49, h3, h5, h1, b0, hh, hdl, hil]⟩ (by first | omega | (simp; omega))
  · repeat (first | simp [h50, h49, h3, h5, h1, b0, hh, hdl] | with_reducible refine And.intro (by omega) ?_ | with_reducible refine optK_if (by omega) ?_ | with_reducible refine optD_if (by omega) ?_ | simp (disch := omega) only [wrap_i64, if_pos, if_neg] | with_reducible refine gsel_pure (by with_unfolding_all rfl) _ (fun hg => by (try simp at hg); simp [hg, h50, h49, h3, h5, h1, b0, hh, hdl]; rfl) ?_ | with_reducible refine dsel_pure (by with_unfolding_all rfl) _ (fun hg => by (try simp at hg); simp [hg, h50, h49, h3, h5, h1, b0, hh, hdl]; rfl) ?_ | with_reducible refine awp_draw (by kernel_rfl) (by decide +kernel) ?_)
    refine gop_call (at_example) (by (first | simp [h50, h49, h3, h5, h1, b0, hh, hdl] | simp (disch := omega) [h50, h49, h3, h5, h1, b0, hh, hdl, wrap_i64]); try rfl) (by simp) (by simp) ?_
    repeat (first | simp [h50, h49, h3, h5, h1, b0, hh, hdl] | with_reducible refine And.intro (by omega) ?_ | with_reducible refine optK_if (by omega) ?_ | with_reducible refine optD_if (by omega) ?_ | simp (disch := omega) only [wrap_i64, if_pos, if_neg] | with_reducible refine gsel_pure (by with_unfolding_all rfl) _ (fun hg => by (try simp at hg); simp [hg, h50, h49, h3, h5, h1, b0, hh, hdl]; rfl) ?_ | with_reducible refine dsel_pure (by with_unfolding_all rfl) _ (fun hg => by (try simp at hg); simp [hg, h50, h49, h3, h5, h1, b0, hh, hdl]; rfl) ?_ | with_reducible refine awp_draw (by kernel_rfl) (by decide +kernel) ?_)
    refine hQ _ _ (ret2 (by simp [retAV, resAV]; rfl) (by simp; rfl) ?_)
    rfl
end Go.Proofs
end
section
set_option linter.all false
namespace Go.Proofs
open Go.Fw Go.Dr
set_option maxRecDepth 100000
theorem cvD_inst {H : Type} {n : Nat} {d : DataW H} {c : List CV} (h : cvD Tryd.prog n 71 d = some c) : ∃ i : I8, c = i.cvs := by
  obtain ⟨m, l, rfl, rfl, hl, h⟩ := cvD_struct Tryd.underlying71 h
  have hl : l.length = 8 := hl
  match l, hl with
  | [d0, d1, d2, d3, d4, d5, d6, d7], _ =>
    simp only [List.zipWith] at h
    obtain ⟨a0, b0, h0, k1, rfl⟩ := concatM_cons h
    obtain ⟨a1, b1, h1, k2, rfl⟩ := concatM_cons k1
    obtain ⟨a2, b2, h2, k3, rfl⟩ := concatM_cons k2
    obtain ⟨a3, b3, h3, k4, rfl⟩ := concatM_cons k3
    obtain ⟨a4, b4, h4, k5, rfl⟩ := concatM_cons k4
    obtain ⟨a5, b5, h5, k6, rfl⟩ := concatM_cons k5
    obtain ⟨a6, b6, h6, k7, rfl⟩ := concatM_cons k6
    obtain ⟨a7, b7, h7, k8, rfl⟩ := concatM_cons k7
    obtain rfl := concatM_nil k8
    obtain ⟨x0, rfl⟩ := cvD_int Tryd.underlying67 h0
    obtain ⟨x1, rfl⟩ := cvD_int Tryd.underlying3 h1
    obtain ⟨x2, rfl⟩ := cvD_int Tryd.underlying3 h2
    obtain ⟨x3, rfl⟩ := cvD_int Tryd.underlying3 h3
    obtain ⟨x4, rfl⟩ := cvD_int Tryd.underlying3 h4
    obtain ⟨x5, rfl⟩ := cvD_int Tryd.underlying3 h5
    obtain ⟨x6, rfl⟩ := cvD_int Tryd.underlying68 h6
    obtain ⟨x7, rfl⟩ := cvD_int Tryd.underlying69 h7
    exact ⟨⟨x0, x1, x2, x3, x4, x5, x6, x7⟩, rfl⟩
theorem cvD_func {H : Type} {n : Nat} {d : DataW H} {c : List CV} (h : cvD Tryd.prog n 24 d = some c) : ∃ (name : ByteArray) (l : List I8), c = [sC name, .sl l.length (codeC l)] := by
  obtain ⟨m, l, rfl, rfl, hl, h⟩ := cvD_struct Tryd.underlying24 h
  have hl : l.length = 2 := hl
  match l, hl with
  | [d0, d1], _ =>
    simp only [List.zipWith] at h
    obtain ⟨a0, b0, h0, k1, rfl⟩ := concatM_cons h
    obtain ⟨a1, b1, h1, k2, rfl⟩ := concatM_cons k1
    obtain rfl := concatM_nil k2
    obtain ⟨x0, rfl⟩ := cvD_string Tryd.underlying9 h0
    obtain ⟨L, rfl⟩ := cvD_slice (g := I8.cvs) Tryd.underlying22 (fun n d c h => cvD_inst h) h1
    exact ⟨x0, L, rfl⟩
end Go.Proofs
namespace Go.Proofs
open Go.Fw Go.Dr
set_option maxRecDepth 100000 in
theorem open24_Tryd {H : Type} {enc : TypeId × Value → H} {W : World} {sp : Nat → Bool} {held : Bool} {v : Value} {d : DataW H} {p : List MemPlace} {r : Go.Reach} {b0 : Nat} (hv : Value.okWide Tryd.prog W r b0 24 v) (h : DataW.Trod enc Tryd.prog W 0 sp held 24 v d p) :
    ∃ (name : ByteArray) (l : List I8), AVRep W noneF (beta0 fun _ => False) v (fAV name l) := by
  obtain ⟨cvs, e, hr⟩ := rep_struct (m := 5) Tryd.underlying24 (by kernel_rfl) hv h
  obtain ⟨name, l, rfl⟩ := cvD_func e
  exact ⟨name, l, hr⟩
theorem gRows_Tryd : Tryd.prog.globalNamed "modelcheck/inst.rows" = some 0 := by kernel_rfl
theorem gNames_Tryd : Tryd.prog.globalNamed "modelcheck/value.names" = some 1 := by kernel_rfl
theorem tRows_Tryd : (Tryd.prog.globals[0]?).map (·.type) = some 145 := by kernel_rfl
theorem tNames_Tryd : (Tryd.prog.globals[1]?).map (·.type) = some 161 := by kernel_rfl
set_option maxRecDepth 100000 in
theorem cvRows_Tryd : cvD Tryd.prog 5 145 (YtgcinmhiohlmiaaDoor.Rows.laid_modelcheck_inst_rows (H := Unit)) = some rowsC := by kernel_rfl
set_option maxRecDepth 100000 in
theorem cvNames_Tryd : cvD Tryd.prog 5 161 (YtgcinmhiohlmiaaDoor.Rows.laid_modelcheck_value_names (H := Unit)) = some namesC := by kernel_rfl
set_option maxRecDepth 100000 in
theorem globs_Tryd {W : World} (laid : List (String × DataW Unit)) (he : laid = [("modelcheck/value.names", YtgcinmhiohlmiaaDoor.Rows.laid_modelcheck_value_names), ("modelcheck/inst.rows", YtgcinmhiohlmiaaDoor.Rows.laid_modelcheck_inst_rows)])
    (h : laidMetH Tryd.prog laid W) : ∀ g cs, Globals.G g = some cs → AVRep W noneF (beta0 fun _ => False) (.pointer (some ⟨g, 0, none⟩)) (.cell (.ep none cs 0)) := by
  subst he
  rw [MakeChecks.laidMetH_plain _ _ _ (by kernel_rfl)] at h
  obtain ⟨ps, ⟨g0, t0, cs0, f0, p0, q0, hg0, ht0, hv0, hd0, ⟨g1, t1, cs1, f1, p1, q1, hg1, ht1, hv1, hd1, _, _⟩, _⟩, _, _⟩ := h
  obtain rfl := Option.some.inj (gNames_Tryd.symm.trans hg0)
  obtain rfl := Option.some.inj (gRows_Tryd.symm.trans hg1)
  obtain rfl := Option.some.inj (tNames_Tryd.symm.trans ht0)
  obtain rfl := Option.some.inj (tRows_Tryd.symm.trans ht1)
  intro g cs hgc
  have hgc : (if g = 0 then some rowsC else if g = 1 then some namesC else none) = some cs := hgc
  split at hgc
  · rename_i e
    subst e
    cases hgc
    exact rep_global (m := 5) (t := 145) (by kernel_rfl) hd1 cvRows_Tryd fun j => by simpa using World.var?_cell hg1 hv1 j
  · split at hgc
    · rename_i e
      subst e
      cases hgc
      exact rep_global (m := 5) (t := 161) (by kernel_rfl) hd0 cvNames_Tryd fun j => by simpa using World.var?_cell hg0 hv0 j
    · cases hgc
end Go.Proofs
end
