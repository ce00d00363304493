/- Contracts of functions, by their numbers, and the laws that walk them. Conditions: as each states. -/
import Derived.Test.YtgcinmhiohlmiaaDoorG4
import Derived.Test.YtgcinmhiohlmiaaDoorG3
set_option linter.all false
section
set_option linter.all false
namespace Go.Proofs
open Go.Fw Go.Dr
set_option maxRecDepth 100000

theorem at_rnames (l : List ByteArray) : At Tryd.prog 92 [strsA l] (.tup [iV .i64 (if (namesE [] l).1 = 0 then 0 else (namesE [] l).2), iV .i64 (namesE [] l).1]) := by
  refine at_bound (by kernel_rfl) fun hb => ?_
  have hl : l.length ≤ maxLen := LenOk.len (hb (strsA l) (by simp))
  refine at_code mixed Tryd.func92 (by kernel_rfl) rfl (by kernel_rfl) (by kernel_rfl) rfl fun Q hQ => ?_
  repeat (first | simp | with_reducible refine And.intro (by omega) ?_ | with_reducible refine gsel_pure (by with_unfolding_all rfl) _ (fun hg => by (try simp at hg); simp [hg]; rfl) ?_ | with_reducible refine dsel_pure (by with_unfolding_all rfl) _ (fun hg => by (try simp at hg); simp [hg]; rfl) ?_ | with_reducible refine awp_draw (by kernel_rfl) (by decide +kernel) ?_)
  refine awp_loop (fun s => ∃ k : Nat, k ≤ l.length ∧ namesE [] l = namesE (l.take k) (l.drop k) ∧ s.env 4 = iV .i64 k ∧ s.env 0 = strsA l) (fun s => l.length - (s.num 4).toNat) _ (Weak.refl _) ⟨0, by omega, by simp, by simp, by simp⟩ fun s hs L hL => ?_
  obtain ⟨k, hk, hall, h4, h0⟩ := hs
  repeat (first | simp [h4, h0] | with_reducible refine And.intro (by omega) ?_ | with_reducible refine gsel_pure (by with_unfolding_all rfl) _ (fun hg => by (try simp at hg); simp [hg, h4, h0]; rfl) ?_ | with_reducible refine dsel_pure (by with_unfolding_all rfl) _ (fun hg => by (try simp at hg); simp [hg, h4, h0]; rfl) ?_ | with_reducible refine awp_draw (by kernel_rfl) (by decide +kernel) ?_)
  (with_reducible refine condK_intro (fun h => ?_) (fun h => ?_)) <;> (try simp only [h])
  · simp [ltI] at h
    have hlt := h
    have ew := wrap_succ hlt hl
    rw [namesE_take hlt] at hall
    repeat (first | simp [h4, h0, hlt] | with_reducible refine And.intro (by omega) ?_ | with_reducible refine gsel_pure (by with_unfolding_all rfl) _ (fun hg => by (try simp at hg); simp [hg, h4, h0, hlt]; rfl) ?_ | with_reducible refine dsel_pure (by with_unfolding_all rfl) _ (fun hg => by (try simp at hg); simp [hg, h4, h0, hlt]; rfl) ?_ | with_reducible refine awp_draw (by kernel_rfl) (by decide +kernel) ?_)
    refine gop_call (at_rValidName l[k]) (by simp [h4, h0, hlt]) (by simp) (by simp) ?_
    repeat (first | simp [h4, h0, hlt] | with_reducible refine And.intro (by omega) ?_ | with_reducible refine gsel_pure (by with_unfolding_all rfl) _ (fun hg => by (try simp at hg); simp [hg, h4, h0, hlt]; rfl) ?_ | with_reducible refine dsel_pure (by with_unfolding_all rfl) _ (fun hg => by (try simp at hg); simp [hg, h4, h0, hlt]; rfl) ?_ | with_reducible refine awp_draw (by kernel_rfl) (by decide +kernel) ?_)
    (with_reducible refine condK_intro (fun h => ?_) (fun h => ?_)) <;> (try simp only [h])
    · simp at h
      rw [if_pos h] at hall
      repeat (first | simp [h4, h0] | with_reducible refine And.intro (by omega) ?_ | with_reducible refine gsel_pure (by with_unfolding_all rfl) _ (fun hg => by (try simp at hg); simp [hg, h4, h0]; rfl) ?_ | with_reducible refine dsel_pure (by with_unfolding_all rfl) _ (fun hg => by (try simp at hg); simp [hg, h4, h0]; rfl) ?_ | with_reducible refine awp_draw (by kernel_rfl) (by decide +kernel) ?_)
      refine hQ _ _ (ret2 (by simp [retAV, resAV, h4, h0]; rfl) (by simp [h4, h0]; rfl) ?_)
      rw [hall]; rfl
    · simp at h
      rw [if_neg (by simp [h])] at hall
      repeat (first | simp [h4, h0] | with_reducible refine And.intro (by omega) ?_ | with_reducible refine gsel_pure (by with_unfolding_all rfl) _ (fun hg => by (try simp at hg); simp [hg, h4, h0]; rfl) ?_ | with_reducible refine dsel_pure (by with_unfolding_all rfl) _ (fun hg => by (try simp at hg); simp [hg, h4, h0]; rfl) ?_ | with_reducible refine awp_draw (by kernel_rfl) (by decide +kernel) ?_)
      refine awp_loop (fun s' => ∃ j : Nat, j ≤ k ∧ (l.take j).any (fun t => eqS l[k] t) = false ∧ s'.env 5 = iV .i64 j ∧ s'.env 4 = iV .i64 k ∧ s'.env 0 = strsA l) (fun s' => k - (s'.num 5).toNat) _ (Weak.refl _) ⟨0, by omega, by simp, by simp, by simp [h4], by simp [h0]⟩ fun s' hs L' hL' => ?_
      obtain ⟨j, hj, hany, h5, h4', h0'⟩ := hs
      repeat (first | simp [h5, h4', h0'] | with_reducible refine And.intro (by omega) ?_ | with_reducible refine gsel_pure (by with_unfolding_all rfl) _ (fun hg => by (try simp at hg); simp [hg, h5, h4', h0']; rfl) ?_ | with_reducible refine dsel_pure (by with_unfolding_all rfl) _ (fun hg => by (try simp at hg); simp [hg, h5, h4', h0']; rfl) ?_ | with_reducible refine awp_draw (by kernel_rfl) (by decide +kernel) ?_)
      (with_reducible refine condK_intro (fun h => ?_) (fun h => ?_)) <;> (try simp only [h])
      · simp [ltI] at h
        have hjk := h
        have hjl : j < l.length := by omega
        have ewj := wrap_succ hjl hl
        repeat (first | simp [h5, h4', h0', hlt, hjl] | with_reducible refine And.intro (by omega) ?_ | with_reducible refine gsel_pure (by with_unfolding_all rfl) _ (fun hg => by (try simp at hg); simp [hg, h5, h4', h0', hlt, hjl]; rfl) ?_ | with_reducible refine dsel_pure (by with_unfolding_all rfl) _ (fun hg => by (try simp at hg); simp [hg, h5, h4', h0', hlt, hjl]; rfl) ?_ | with_reducible refine awp_draw (by kernel_rfl) (by decide +kernel) ?_)
        have hcomm : eqS l[j] l[k] = eqS l[k] l[j] := eqS_comm _ _
        (with_reducible refine condK_intro (fun h => ?_) (fun h => ?_)) <;> (try simp only [h])
        · have : (l.take k).any (fun t => eqS l[k] t) = true := by
            rw [List.any_eq_true]
            refine ⟨l[j], List.mem_take_iff_getElem.2 ⟨j, by omega, rfl⟩, by rw [← hcomm]; exact h⟩
          rw [if_pos this] at hall
          repeat (first | simp [h5, h4', h0'] | with_reducible refine And.intro (by omega) ?_ | with_reducible refine gsel_pure (by with_unfolding_all rfl) _ (fun hg => by (try simp at hg); simp [hg, h5, h4', h0']; rfl) ?_ | with_reducible refine dsel_pure (by with_unfolding_all rfl) _ (fun hg => by (try simp at hg); simp [hg, h5, h4', h0']; rfl) ?_ | with_reducible refine awp_draw (by kernel_rfl) (by decide +kernel) ?_)
          refine hQ _ _ (ret2 (by simp [retAV, resAV, h5, h4', h0']; rfl) (by simp [h5, h4', h0']; rfl) ?_)
          rw [hall]; rfl
        · repeat (first | simp [h5, h4', h0', ewj] | with_reducible refine And.intro (by omega) ?_ | with_reducible refine gsel_pure (by with_unfolding_all rfl) _ (fun hg => by (try simp at hg); simp [hg, h5, h4', h0', ewj]; rfl) ?_ | with_reducible refine dsel_pure (by with_unfolding_all rfl) _ (fun hg => by (try simp at hg); simp [hg, h5, h4', h0', ewj]; rfl) ?_ | with_reducible refine awp_draw (by kernel_rfl) (by decide +kernel) ?_)
          refine hL' _ ⟨⟨j + 1, hjk, ?_, by simp, by simp [h4'], by simp [h0']⟩, ?_⟩
          · rw [List.take_succ_eq_append_getElem hjl, List.any_append, hany]
            simp [← hcomm, h]
          · simp [St.num, h5]; omega
      · simp [ltI] at h
        have : j = k := by omega
        subst this
        rw [if_neg (by simp [hany])] at hall
        repeat (first | simp [h5, h4', h0', ew] | with_reducible refine And.intro (by omega) ?_ | with_reducible refine gsel_pure (by with_unfolding_all rfl) _ (fun hg => by (try simp at hg); simp [hg, h5, h4', h0', ew]; rfl) ?_ | with_reducible refine dsel_pure (by with_unfolding_all rfl) _ (fun hg => by (try simp at hg); simp [hg, h5, h4', h0', ew]; rfl) ?_ | with_reducible refine awp_draw (by kernel_rfl) (by decide +kernel) ?_)
        refine hL _ ⟨⟨j + 1, hlt, hall, by simp, by simp [h0']⟩, ?_⟩
        simp [St.num, h4]; omega
  · simp [ltI] at h
    have : k = l.length := by omega
    subst this
    repeat (first | simp | with_reducible refine And.intro (by omega) ?_ | with_reducible refine gsel_pure (by with_unfolding_all rfl) _ (fun hg => by (try simp at hg); simp [hg]; rfl) ?_ | with_reducible refine dsel_pure (by with_unfolding_all rfl) _ (fun hg => by (try simp at hg); simp [hg]; rfl) ?_ | with_reducible refine awp_draw (by kernel_rfl) (by decide +kernel) ?_)
    refine hQ _ _ (ret2 (by simp [retAV, resAV]; rfl) (by simp; rfl) ?_)
    rw [hall]; simp [namesE]
theorem at_lists (p : Pg) (hv : p.vars.length ≤ 1000000) (hf : p.funcs.length ≤ 1000000) : At Tryd.prog 91 [p.av] (.tup [.cell (.own 0 1 p.vars.length (strsC (p.vars.map (·.1)))), .cell (.own 1 1 p.funcs.length (strsC (p.funcs.map (·.1))))]) := by
  refine at_code mixed Tryd.func91 (by kernel_rfl) rfl (by kernel_rfl) (by kernel_rfl) rfl fun Q hQ => ?_
  repeat (first | simp | with_reducible refine And.intro (by omega) ?_ | with_reducible refine gsel_pure (by with_unfolding_all rfl) _ (fun hg => by (try simp at hg); simp [hg]; rfl) ?_ | with_reducible refine dsel_pure (by with_unfolding_all rfl) _ (fun hg => by (try simp at hg); simp [hg]; rfl) ?_ | with_reducible refine awp_draw (by kernel_rfl) (by decide +kernel) ?_)
  refine awp_loop (fun s => ∃ k : Nat, k ≤ p.vars.length ∧ s.env 6 = iV .i64 k ∧ s.env 1 = .cell (.ptr 0 0) ∧ s.box 0 = some (p.cvs.map .p) ∧ s.env 4 = .cell (.own 9 1 k (strsC ((p.vars.take k).map (·.1)))) ∧ s.env 5 = .cell .z) (fun s => p.vars.length - (s.num 6).toNat) _ (Weak.own 4 9 1 (by simp)) ⟨0, by omega, by simp, by simp, by simp [Pg.cvs], by simp [strsC], by simp⟩ fun s hs L hL => ?_
  obtain ⟨k, hk, h6, h1, hb0, h4, h5⟩ := hs
  repeat (first | simp [h6, h1, hb0, h4, h5, Pg.cvs] | with_reducible refine And.intro (by omega) ?_ | with_reducible refine gsel_pure (by with_unfolding_all rfl) _ (fun hg => by (try simp at hg); simp [hg, h6, h1, hb0, h4, h5, Pg.cvs]; rfl) ?_ | with_reducible refine dsel_pure (by with_unfolding_all rfl) _ (fun hg => by (try simp at hg); simp [hg, h6, h1, hb0, h4, h5, Pg.cvs]; rfl) ?_ | with_reducible refine awp_draw (by kernel_rfl) (by decide +kernel) ?_)
  (with_reducible refine condK_intro (fun h => ?_) (fun h => ?_)) <;> (try simp only [h])
  · simp [ltI] at h
    have hlt := h
    have ew := wrap_succ hlt (show p.vars.length ≤ maxLen by unfold maxLen; omega)
    repeat (first | simp [h6, h1, hb0, h4, h5, Pg.cvs, hlt, ew] | with_reducible refine And.intro (by omega) ?_ | with_reducible refine gsel_pure (by with_unfolding_all rfl) _ (fun hg => by (try simp at hg); simp [hg, h6, h1, hb0, h4, h5, Pg.cvs, hlt, ew]; rfl) ?_ | with_reducible refine dsel_pure (by with_unfolding_all rfl) _ (fun hg => by (try simp at hg); simp [hg, h6, h1, hb0, h4, h5, Pg.cvs, hlt, ew]; rfl) ?_ | with_reducible refine awp_draw (by kernel_rfl) (by decide +kernel) ?_)
    refine hL _ ⟨⟨k + 1, hlt, by simp, by simp [h1], by simp [hb0, Pg.cvs], ?_, by simp [h5]⟩, ?_⟩
    · rw [strs_snoc _ hlt]; simp
    · simp [St.num, h6]; omega
  · simp [ltI] at h
    have : k = p.vars.length := by omega
    subst this
    repeat (first | simp [h6, h1, hb0, h4, h5, Pg.cvs] | with_reducible refine And.intro (by omega) ?_ | with_reducible refine gsel_pure (by with_unfolding_all rfl) _ (fun hg => by (try simp at hg); simp [hg, h6, h1, hb0, h4, h5, Pg.cvs]; rfl) ?_ | with_reducible refine dsel_pure (by with_unfolding_all rfl) _ (fun hg => by (try simp at hg); simp [hg, h6, h1, hb0, h4, h5, Pg.cvs]; rfl) ?_ | with_reducible refine awp_draw (by kernel_rfl) (by decide +kernel) ?_)
    clear hL
    refine awp_loop (fun s => ∃ k : Nat, k ≤ p.funcs.length ∧ s.env 7 = iV .i64 k ∧ s.env 1 = .cell (.ptr 0 0) ∧ s.box 0 = some (p.cvs.map .p) ∧ s.env 4 = .cell (.own 9 1 p.vars.length (strsC (p.vars.map (·.1)))) ∧ s.env 5 = .cell (.own 10 1 k (strsC ((p.funcs.take k).map (·.1))))) (fun s => p.funcs.length - (s.num 7).toNat) _ (Weak.own 5 10 1 (by simp [h5])) ⟨0, by omega, by simp, by simp [h1], by simp [hb0, Pg.cvs], by simp [h4], by simp [strsC]⟩ fun s hs L hL => ?_
    obtain ⟨k, hk, h7, h1, hb0, h4, h5⟩ := hs
    repeat (first | simp [h7, h1, hb0, h4, h5, Pg.cvs] | with_reducible refine And.intro (by omega) ?_ | with_reducible refine gsel_pure (by with_unfolding_all rfl) _ (fun hg => by (try simp at hg); simp [hg, h7, h1, hb0, h4, h5, Pg.cvs]; rfl) ?_ | with_reducible refine dsel_pure (by with_unfolding_all rfl) _ (fun hg => by (try simp at hg); simp [hg, h7, h1, hb0, h4, h5, Pg.cvs]; rfl) ?_ | with_reducible refine awp_draw (by kernel_rfl) (by decide +kernel) ?_)
    (with_reducible refine condK_intro (fun h => ?_) (fun h => ?_)) <;> (try simp only [h])
    · simp [ltI] at h
      have hlt := h
      have ew := wrap_succ hlt (show p.funcs.length ≤ maxLen by unfold maxLen; omega)
      repeat (first | simp [h7, h1, hb0, h4, h5, Pg.cvs, hlt, ew] | with_reducible refine And.intro (by omega) ?_ | with_reducible refine gsel_pure (by with_unfolding_all rfl) _ (fun hg => by (try simp at hg); simp [hg, h7, h1, hb0, h4, h5, Pg.cvs, hlt, ew]; rfl) ?_ | with_reducible refine dsel_pure (by with_unfolding_all rfl) _ (fun hg => by (try simp at hg); simp [hg, h7, h1, hb0, h4, h5, Pg.cvs, hlt, ew]; rfl) ?_ | with_reducible refine awp_draw (by kernel_rfl) (by decide +kernel) ?_)
      refine hL _ ⟨⟨k + 1, hlt, by simp, by simp [h1], by simp [hb0, Pg.cvs], by simp [h4], ?_⟩, ?_⟩
      · rw [strs_snoc _ hlt]; simp
      · simp [St.num, h7]; omega
    · simp [ltI] at h
      have : k = p.funcs.length := by omega
      subst this
      repeat (first | simp [h7, h1, hb0, h4, h5] | with_reducible refine And.intro (by omega) ?_ | with_reducible refine gsel_pure (by with_unfolding_all rfl) _ (fun hg => by (try simp at hg); simp [hg, h7, h1, hb0, h4, h5]; rfl) ?_ | with_reducible refine dsel_pure (by with_unfolding_all rfl) _ (fun hg => by (try simp at hg); simp [hg, h7, h1, hb0, h4, h5]; rfl) ?_ | with_reducible refine awp_draw (by kernel_rfl) (by decide +kernel) ?_)
      refine hQ _ _ (ret2 (by simp [retAV, resAV, h7, h1, hb0, h4, h5]; rfl) (by simp [h7, h1, hb0, h4, h5]; rfl) ?_)
      simp
def existsB (p : Pg) (i : I8) : Bool := (decide (objN p i.op < 0) || (decide (0 ≤ i.obj) && decide (i.obj < objN p i.op))) && !(i.op == 18 && (decide (i.n < 0) || decide ((p.mutexes.length : Int) ≤ i.n)))
set_option maxHeartbeats 1000000 in
theorem at_exists (p : Pg) (i : I8) : At Tryd.prog 119 [p.av, i.av] (bV (existsB p i)) := by
  refine at_code mixed Tryd.func119 (by kernel_rfl) rfl (by kernel_rfl) (by kernel_rfl) rfl fun Q hQ => ?_
  repeat' (first | (with_reducible refine condK_intro (fun h => ?_) (fun h => ?_)) <;> (try simp only [h]) | simp | with_reducible refine And.intro (by omega) ?_ | with_reducible refine gsel_pure (by with_unfolding_all rfl) _ (fun hg => by (try simp at hg); simp [hg]; rfl) ?_ | with_reducible refine dsel_pure (by with_unfolding_all rfl) _ (fun hg => by (try simp at hg); simp [hg]; rfl) ?_ | with_reducible refine awp_draw (by kernel_rfl) (by decide +kernel) ?_)
  all_goals refine hQ _ _ (ret2 (by simp [retAV, resAV]; rfl) (by simp; rfl) ?_)
  all_goals simp [eqI, orB, ltI] at *
  all_goals simp [existsB, objN, andB, ltI, *]
  all_goals first | omega | (rw [Bool.eq_iff_iff]; simp; omega)
theorem exists_inE (p : Pg) (i : I8) (n : Nat) : inE p i n = if instE i ≠ 0 then instE i else if existsB p i = false then 11 else if badT n i then 12 else 0 := by
  unfold inE
  by_cases h1 : instE i ≠ 0
  · rw [if_pos h1, if_pos h1]
  rw [if_neg h1, if_neg h1]
  by_cases h2 : 0 ≤ objN p i.op ∧ (i.obj < 0 ∨ objN p i.op ≤ i.obj)
  · rw [if_pos h2, if_pos]
    unfold existsB
    have e1 : decide (objN p i.op < 0) = false := by simp; omega
    have e2 : (decide (0 ≤ i.obj) && decide (i.obj < objN p i.op)) = false := by simp; omega
    rw [e1, e2]; rfl
  rw [if_neg h2]
  by_cases h3 : i.op = 18 ∧ (i.n < 0 ∨ p.mutexes.length ≤ i.n)
  · rw [if_pos h3, if_pos]
    unfold existsB
    have e1 : (i.op == 18 && (decide (i.n < 0) || decide ((p.mutexes.length : Int) ≤ i.n))) = true := by simp [h3.1]; omega
    rw [e1]; simp
  rw [if_neg h3]
  have : existsB p i = true := by
    unfold existsB
    have e1 : (i.op == 18 && (decide (i.n < 0) || decide ((p.mutexes.length : Int) ≤ i.n))) = false := by
      rw [← Bool.not_eq_true]; intro h; apply h3; simpa using h
    have e2 : (decide (objN p i.op < 0) || (decide (0 ≤ i.obj) && decide (i.obj < objN p i.op))) = true := by simp; omega
    rw [e1, e2]; rfl
  rw [if_neg (show ¬ existsB p i = false by simp [this])]
set_option maxHeartbeats 1000000 in
theorem at_rcode (p : Pg) (f : ByteArray × List I8) : At Tryd.prog 94 [p.av, fAV f.1 f.2] (.tup [iV .i64 (if 64 < f.2.length then 4 else (cdE p f.2.length 0 f.2).1), iV .i64 (if 64 < f.2.length then -1 else (cdE p f.2.length 0 f.2).2)]) := by
  obtain ⟨nm, l⟩ := f
  simp only
  refine at_code mixed Tryd.func94 (by kernel_rfl) rfl (by kernel_rfl) (by kernel_rfl) rfl fun Q hQ => ?_
  repeat (first | simp | with_reducible refine And.intro (by omega) ?_ | with_reducible refine gsel_pure (by with_unfolding_all rfl) _ (fun hg => by (try simp at hg); simp [hg]; rfl) ?_ | with_reducible refine dsel_pure (by with_unfolding_all rfl) _ (fun hg => by (try simp at hg); simp [hg]; rfl) ?_ | with_reducible refine awp_draw (by kernel_rfl) (by decide +kernel) ?_)
  (with_reducible refine condK_intro (fun h => ?_) (fun h => ?_)) <;> (try simp only [h])
  · simp [ltI] at h
    repeat (first | simp | with_reducible refine And.intro (by omega) ?_ | with_reducible refine gsel_pure (by with_unfolding_all rfl) _ (fun hg => by (try simp at hg); simp [hg]; rfl) ?_ | with_reducible refine dsel_pure (by with_unfolding_all rfl) _ (fun hg => by (try simp at hg); simp [hg]; rfl) ?_ | with_reducible refine awp_draw (by kernel_rfl) (by decide +kernel) ?_)
    refine hQ _ _ (ret2 (by simp [retAV, resAV]; rfl) (by simp; rfl) ?_)
    rw [if_pos (by omega), if_pos (by omega)]
  simp [ltI] at h
  have h64 : ¬ 64 < l.length := by omega
  clear h
  repeat (first | simp | with_reducible refine And.intro (by omega) ?_ | with_reducible refine gsel_pure (by with_unfolding_all rfl) _ (fun hg => by (try simp at hg); simp [hg]; rfl) ?_ | with_reducible refine dsel_pure (by with_unfolding_all rfl) _ (fun hg => by (try simp at hg); simp [hg]; rfl) ?_ | with_reducible refine awp_draw (by kernel_rfl) (by decide +kernel) ?_)
  refine awp_loop (fun s => ∃ k : Nat, k ≤ l.length ∧ cdE p l.length 0 l = cdE p l.length k (l.drop k) ∧ s.env 6 = iV .i64 k ∧ s.env 2 = .cell (.ptr 0 0) ∧ s.env 3 = .cell (.ptr 64 0) ∧ s.box 0 = some (p.cvs.map .p) ∧ s.box 64 = some [.p (sC nm), .p (.sl l.length (codeC l))]) (fun s => l.length - (s.num 6).toNat) _ (Weak.refl _) ⟨0, by omega, by simp, by simp, by simp, by simp, by simp [Pg.cvs], by simp⟩ fun s hs L hL => ?_
  obtain ⟨k, hk, hall, h6, h2, h3, hb0, hb1⟩ := hs
  repeat (first | simp [h6, h2, h3, hb0, hb1] | with_reducible refine And.intro (by omega) ?_ | with_reducible refine gsel_pure (by with_unfolding_all rfl) _ (fun hg => by (try simp at hg); simp [hg, h6, h2, h3, hb0, hb1]; rfl) ?_ | with_reducible refine dsel_pure (by with_unfolding_all rfl) _ (fun hg => by (try simp at hg); simp [hg, h6, h2, h3, hb0, hb1]; rfl) ?_ | with_reducible refine awp_draw (by kernel_rfl) (by decide +kernel) ?_)
  (with_reducible refine condK_intro (fun h => ?_) (fun h => ?_)) <;> (try simp only [h])
  · simp [ltI] at h
    have hlt := h
    have ew := wrap_succ hlt (show l.length ≤ maxLen by unfold maxLen; omega)
    rw [cdE_drop hlt] at hall
    have hi := exists_inE p l[k] l.length
    repeat (first | simp [h6, h2, h3, hb0, hb1, hlt] | with_reducible refine And.intro (by omega) ?_ | with_reducible refine gsel_pure (by with_unfolding_all rfl) _ (fun hg => by (try simp at hg); simp [hg, h6, h2, h3, hb0, hb1, hlt]; rfl) ?_ | with_reducible refine dsel_pure (by with_unfolding_all rfl) _ (fun hg => by (try simp at hg); simp [hg, h6, h2, h3, hb0, hb1, hlt]; rfl) ?_ | with_reducible refine awp_draw (by kernel_rfl) (by decide +kernel) ?_)
    refine gop_call (at_r07Check l[k]) (by simp [h6, h2, h3, hb0, hb1, hlt]) (by simp) (by simp) ?_
    repeat (first | simp [h6, h2, h3, hb0, hb1, hlt] | with_reducible refine And.intro (by omega) ?_ | with_reducible refine gsel_pure (by with_unfolding_all rfl) _ (fun hg => by (try simp at hg); simp [hg, h6, h2, h3, hb0, hb1, hlt]; rfl) ?_ | with_reducible refine dsel_pure (by with_unfolding_all rfl) _ (fun hg => by (try simp at hg); simp [hg, h6, h2, h3, hb0, hb1, hlt]; rfl) ?_ | with_reducible refine awp_draw (by kernel_rfl) (by decide +kernel) ?_)
    (with_reducible refine condK_intro (fun h => ?_) (fun h => ?_)) <;> (try simp only [h])
    · simp [eqI] at h
      rw [if_pos h] at hi
      rw [hi, if_pos h] at hall
      repeat (first | simp [h6, h2, h3, hb0, hb1] | with_reducible refine And.intro (by omega) ?_ | with_reducible refine gsel_pure (by with_unfolding_all rfl) _ (fun hg => by (try simp at hg); simp [hg, h6, h2, h3, hb0, hb1]; rfl) ?_ | with_reducible refine dsel_pure (by with_unfolding_all rfl) _ (fun hg => by (try simp at hg); simp [hg, h6, h2, h3, hb0, hb1]; rfl) ?_ | with_reducible refine awp_draw (by kernel_rfl) (by decide +kernel) ?_)
      refine hQ _ _ (ret2 (by simp [retAV, resAV, h6, h2, h3, hb0, hb1]; rfl) (by simp [h6, h2, h3, hb0, hb1]; rfl) ?_)
      rw [if_neg h64, if_neg h64, hall]
    · simp [eqI] at h
      rw [if_neg (show ¬ instE l[k] ≠ 0 by simp [h])] at hi
      repeat (first | simp [h6, h2, h3, hb0, hb1, hlt, Pg.cvs] | with_reducible refine And.intro (by omega) ?_ | with_reducible refine gsel_pure (by with_unfolding_all rfl) _ (fun hg => by (try simp at hg); simp [hg, h6, h2, h3, hb0, hb1, hlt, Pg.cvs]; rfl) ?_ | with_reducible refine dsel_pure (by with_unfolding_all rfl) _ (fun hg => by (try simp at hg); simp [hg, h6, h2, h3, hb0, hb1, hlt, Pg.cvs]; rfl) ?_ | with_reducible refine awp_draw (by kernel_rfl) (by decide +kernel) ?_)
      refine gop_call (at_exists p l[k]) (by simp [h6, h2, h3, hb0, hb1, hlt, Pg.cvs]) (by simp) (by simp) ?_
      repeat (first | simp [h6, h2, h3, hb0, hb1, hlt] | with_reducible refine And.intro (by omega) ?_ | with_reducible refine gsel_pure (by with_unfolding_all rfl) _ (fun hg => by (try simp at hg); simp [hg, h6, h2, h3, hb0, hb1, hlt]; rfl) ?_ | with_reducible refine dsel_pure (by with_unfolding_all rfl) _ (fun hg => by (try simp at hg); simp [hg, h6, h2, h3, hb0, hb1, hlt]; rfl) ?_ | with_reducible refine awp_draw (by kernel_rfl) (by decide +kernel) ?_)
      (with_reducible refine condK_intro (fun h => ?_) (fun h => ?_)) <;> (try simp only [h])
      · simp at h
        rw [if_pos h] at hi
        rw [hi, if_pos (by omega)] at hall
        repeat (first | simp [h6, h2, h3, hb0, hb1] | with_reducible refine And.intro (by omega) ?_ | with_reducible refine gsel_pure (by with_unfolding_all rfl) _ (fun hg => by (try simp at hg); simp [hg, h6, h2, h3, hb0, hb1]; rfl) ?_ | with_reducible refine dsel_pure (by with_unfolding_all rfl) _ (fun hg => by (try simp at hg); simp [hg, h6, h2, h3, hb0, hb1]; rfl) ?_ | with_reducible refine awp_draw (by kernel_rfl) (by decide +kernel) ?_)
        refine hQ _ _ (ret2 (by simp [retAV, resAV, h6, h2, h3, hb0, hb1]; rfl) (by simp [h6, h2, h3, hb0, hb1]; rfl) ?_)
        rw [if_neg h64, if_neg h64, hall]
      · simp at h
        rw [if_neg (show ¬ existsB p l[k] = false by simp [h])] at hi
        repeat (first | simp [h6, h2, h3, hb0, hb1, hlt] | with_reducible refine And.intro (by omega) ?_ | with_reducible refine gsel_pure (by with_unfolding_all rfl) _ (fun hg => by (try simp at hg); simp [hg, h6, h2, h3, hb0, hb1, hlt]; rfl) ?_ | with_reducible refine dsel_pure (by with_unfolding_all rfl) _ (fun hg => by (try simp at hg); simp [hg, h6, h2, h3, hb0, hb1, hlt]; rfl) ?_ | with_reducible refine awp_draw (by kernel_rfl) (by decide +kernel) ?_)
        (with_reducible refine condK_intro (fun h => ?_) (fun h => ?_)) <;> (try simp only [h])
        · have hbd : badT l.length l[k] = true := by simpa [andB, orB, eqI, ltI, badT] using h
          rw [if_pos hbd] at hi
          rw [hi, if_pos (by omega)] at hall
          repeat (first | simp [h6, h2, h3, hb0, hb1] | with_reducible refine And.intro (by omega) ?_ | with_reducible refine gsel_pure (by with_unfolding_all rfl) _ (fun hg => by (try simp at hg); simp [hg, h6, h2, h3, hb0, hb1]; rfl) ?_ | with_reducible refine dsel_pure (by with_unfolding_all rfl) _ (fun hg => by (try simp at hg); simp [hg, h6, h2, h3, hb0, hb1]; rfl) ?_ | with_reducible refine awp_draw (by kernel_rfl) (by decide +kernel) ?_)
          refine hQ _ _ (ret2 (by simp [retAV, resAV, h6, h2, h3, hb0, hb1]; rfl) (by simp [h6, h2, h3, hb0, hb1]; rfl) ?_)
          rw [if_neg h64, if_neg h64, hall]
        · have hbd : ¬ badT l.length l[k] = true := by
            intro hbd
            rw [← Bool.not_eq_true] at h
            exact h (by simpa [andB, orB, eqI, ltI, badT] using hbd)
          rw [if_neg hbd] at hi
          rw [hi, if_neg (by simp)] at hall
          repeat (first | simp [h6, h2, h3, hb0, hb1, ew] | with_reducible refine And.intro (by omega) ?_ | with_reducible refine gsel_pure (by with_unfolding_all rfl) _ (fun hg => by (try simp at hg); simp [hg, h6, h2, h3, hb0, hb1, ew]; rfl) ?_ | with_reducible refine dsel_pure (by with_unfolding_all rfl) _ (fun hg => by (try simp at hg); simp [hg, h6, h2, h3, hb0, hb1, ew]; rfl) ?_ | with_reducible refine awp_draw (by kernel_rfl) (by decide +kernel) ?_)
          refine hL _ ⟨⟨k + 1, hlt, hall, by simp, by simp [h2], by simp [h3], by simp [hb0], by simp [hb1]⟩, ?_⟩
          simp [St.num, h6]; omega
  · simp [ltI] at h
    have : k = l.length := by omega
    subst this
    repeat (first | simp | with_reducible refine And.intro (by omega) ?_ | with_reducible refine gsel_pure (by with_unfolding_all rfl) _ (fun hg => by (try simp at hg); simp [hg]; rfl) ?_ | with_reducible refine dsel_pure (by with_unfolding_all rfl) _ (fun hg => by (try simp at hg); simp [hg]; rfl) ?_ | with_reducible refine awp_draw (by kernel_rfl) (by decide +kernel) ?_)
    refine hQ _ _ (ret2 (by simp [retAV, resAV]; rfl) (by simp; rfl) ?_)
    rw [if_neg h64, if_neg h64, hall]; simp [cdE]
theorem at_rthreads (p : Pg) : At Tryd.prog 95 [p.av] (iV .i64 (thrE p)) := by
  refine at_bound (by kernel_rfl) fun hb => ?_
  have ok := Pg.ok (hb p.av (by simp))
  refine at_code mixed Tryd.func95 (by kernel_rfl) rfl (by kernel_rfl) (by kernel_rfl) rfl fun Q hQ => ?_
  repeat (first | simp | with_reducible refine And.intro (by omega) ?_ | with_reducible refine gsel_pure (by with_unfolding_all rfl) _ (fun hg => by (try simp at hg); simp [hg]; rfl) ?_ | with_reducible refine dsel_pure (by with_unfolding_all rfl) _ (fun hg => by (try simp at hg); simp [hg]; rfl) ?_ | with_reducible refine awp_draw (by kernel_rfl) (by decide +kernel) ?_)
  (with_reducible refine condK_intro (fun h => ?_) (fun h => ?_)) <;> (try simp only [h])
  · simp [orB, ltI] at h
    repeat (first | simp | with_reducible refine And.intro (by omega) ?_ | with_reducible refine gsel_pure (by with_unfolding_all rfl) _ (fun hg => by (try simp at hg); simp [hg]; rfl) ?_ | with_reducible refine dsel_pure (by with_unfolding_all rfl) _ (fun hg => by (try simp at hg); simp [hg]; rfl) ?_ | with_reducible refine awp_draw (by kernel_rfl) (by decide +kernel) ?_)
    refine hQ _ _ (ret2 (by simp [retAV, resAV]; rfl) (by simp; rfl) ?_)
    have : thrE p = 4 := by unfold thrE; rw [if_pos (by omega)]
    rw [this]
  simp [orB, ltI] at h
  have hbig : ¬ (p.threads.length < 1 ∨ 8 < p.threads.length) := by omega
  clear h
  have ht : thrE p = thE p.funcs.length p.threads := by unfold thrE; rw [if_neg hbig]
  repeat (first | simp | with_reducible refine And.intro (by omega) ?_ | with_reducible refine gsel_pure (by with_unfolding_all rfl) _ (fun hg => by (try simp at hg); simp [hg]; rfl) ?_ | with_reducible refine dsel_pure (by with_unfolding_all rfl) _ (fun hg => by (try simp at hg); simp [hg]; rfl) ?_ | with_reducible refine awp_draw (by kernel_rfl) (by decide +kernel) ?_)
  refine awp_loop (fun s => ∃ k : Nat, k ≤ p.threads.length ∧ thE p.funcs.length p.threads = thE p.funcs.length (p.threads.drop k) ∧ s.env 3 = iV .i64 k ∧ s.env 1 = .cell (.ptr 0 0) ∧ s.box 0 = some (p.cvs.map .p)) (fun s => p.threads.length - (s.num 3).toNat) _ (Weak.refl _) ⟨0, by omega, by simp, by simp, by simp, by simp [Pg.cvs]⟩ fun s hs L hL => ?_
  obtain ⟨k, hk, hall, h3, h1, hb0⟩ := hs
  repeat (first | simp [h3, h1, hb0, Pg.cvs] | with_reducible refine And.intro (by omega) ?_ | with_reducible refine gsel_pure (by with_unfolding_all rfl) _ (fun hg => by (try simp at hg); simp [hg, h3, h1, hb0, Pg.cvs]; rfl) ?_ | with_reducible refine dsel_pure (by with_unfolding_all rfl) _ (fun hg => by (try simp at hg); simp [hg, h3, h1, hb0, Pg.cvs]; rfl) ?_ | with_reducible refine awp_draw (by kernel_rfl) (by decide +kernel) ?_)
  (with_reducible refine condK_intro (fun h => ?_) (fun h => ?_)) <;> (try simp only [h])
  · simp [ltI] at h
    have hlt := h
    have ew := wrap_succ hlt ok.threads
    rw [thE_drop hlt] at hall
    repeat (first | simp [h3, h1, hb0, hlt, Pg.cvs] | with_reducible refine And.intro (by omega) ?_ | with_reducible refine gsel_pure (by with_unfolding_all rfl) _ (fun hg => by (try simp at hg); simp [hg, h3, h1, hb0, hlt, Pg.cvs]; rfl) ?_ | with_reducible refine dsel_pure (by with_unfolding_all rfl) _ (fun hg => by (try simp at hg); simp [hg, h3, h1, hb0, hlt, Pg.cvs]; rfl) ?_ | with_reducible refine awp_draw (by kernel_rfl) (by decide +kernel) ?_)
    (with_reducible refine condK_intro (fun h => ?_) (fun h => ?_)) <;> (try simp only [h])
    · simp [orB, ltI] at h
      rw [if_pos h] at hall
      repeat (first | simp [h3, h1, hb0] | with_reducible refine And.intro (by omega) ?_ | with_reducible refine gsel_pure (by with_unfolding_all rfl) _ (fun hg => by (try simp at hg); simp [hg, h3, h1, hb0]; rfl) ?_ | with_reducible refine dsel_pure (by with_unfolding_all rfl) _ (fun hg => by (try simp at hg); simp [hg, h3, h1, hb0]; rfl) ?_ | with_reducible refine awp_draw (by kernel_rfl) (by decide +kernel) ?_)
      refine hQ _ _ (ret2 (by simp [retAV, resAV, h3, h1, hb0]; rfl) (by simp [h3, h1, hb0]; rfl) ?_)
      rw [ht, hall]
    · simp [orB, ltI] at h
      rw [if_neg (by omega)] at hall
      repeat (first | simp [h3, h1, hb0, hlt, Pg.cvs] | with_reducible refine And.intro (by omega) ?_ | with_reducible refine gsel_pure (by with_unfolding_all rfl) _ (fun hg => by (try simp at hg); simp [hg, h3, h1, hb0, hlt, Pg.cvs]; rfl) ?_ | with_reducible refine dsel_pure (by with_unfolding_all rfl) _ (fun hg => by (try simp at hg); simp [hg, h3, h1, hb0, hlt, Pg.cvs]; rfl) ?_ | with_reducible refine awp_draw (by kernel_rfl) (by decide +kernel) ?_)
      refine gop_call (at_rvalue p.threads[k].2) (by simp [h3, h1, hb0]) (by simp) (by simp) ?_
      repeat (first | simp [h3, h1, hb0] | with_reducible refine And.intro (by omega) ?_ | with_reducible refine gsel_pure (by with_unfolding_all rfl) _ (fun hg => by (try simp at hg); simp [hg, h3, h1, hb0]; rfl) ?_ | with_reducible refine dsel_pure (by with_unfolding_all rfl) _ (fun hg => by (try simp at hg); simp [hg, h3, h1, hb0]; rfl) ?_ | with_reducible refine awp_draw (by kernel_rfl) (by decide +kernel) ?_)
      (with_reducible refine condK_intro (fun h => ?_) (fun h => ?_)) <;> (try simp only [h])
      · simp at h
        rw [if_pos h] at hall
        repeat (first | simp [h3, h1, hb0] | with_reducible refine And.intro (by omega) ?_ | with_reducible refine gsel_pure (by with_unfolding_all rfl) _ (fun hg => by (try simp at hg); simp [hg, h3, h1, hb0]; rfl) ?_ | with_reducible refine dsel_pure (by with_unfolding_all rfl) _ (fun hg => by (try simp at hg); simp [hg, h3, h1, hb0]; rfl) ?_ | with_reducible refine awp_draw (by kernel_rfl) (by decide +kernel) ?_)
        refine hQ _ _ (ret2 (by simp [retAV, resAV, h3, h1, hb0]; rfl) (by simp [h3, h1, hb0]; rfl) ?_)
        rw [ht, hall]
      · simp at h
        rw [if_neg (by simp [h])] at hall
        repeat (first | simp [h3, h1, hb0, ew] | with_reducible refine And.intro (by omega) ?_ | with_reducible refine gsel_pure (by with_unfolding_all rfl) _ (fun hg => by (try simp at hg); simp [hg, h3, h1, hb0, ew]; rfl) ?_ | with_reducible refine dsel_pure (by with_unfolding_all rfl) _ (fun hg => by (try simp at hg); simp [hg, h3, h1, hb0, ew]; rfl) ?_ | with_reducible refine awp_draw (by kernel_rfl) (by decide +kernel) ?_)
        refine hL _ ⟨⟨k + 1, hlt, hall, by simp, by simp [h1], by simp [hb0]⟩, ?_⟩
        simp [St.num, h3]; omega
  · simp [ltI] at h
    have : k = p.threads.length := by omega
    subst this
    repeat (first | simp [h3, h1, hb0] | with_reducible refine And.intro (by omega) ?_ | with_reducible refine gsel_pure (by with_unfolding_all rfl) _ (fun hg => by (try simp at hg); simp [hg, h3, h1, hb0]; rfl) ?_ | with_reducible refine dsel_pure (by with_unfolding_all rfl) _ (fun hg => by (try simp at hg); simp [hg, h3, h1, hb0]; rfl) ?_ | with_reducible refine awp_draw (by kernel_rfl) (by decide +kernel) ?_)
    refine hQ _ _ (ret2 (by simp [retAV, resAV, h3, h1, hb0]; rfl) (by simp [h3, h1, hb0]; rfl) ?_)
    rw [ht, hall]; simp [thE]
end Go.Proofs
end
section
set_option linter.all false
namespace Go.Proofs
open Go.Fw Go.Dr
set_option maxRecDepth 100000

set_option maxHeartbeats 2000000 in
theorem at_rcheck (p : Pg) (hv : p.vars.length ≤ 1000000) (hf : p.funcs.length ≤ 1000000) : At Tryd.prog 66 [p.av] (.tup [iV .i64 (pgE p).1, iV .i64 (pgE p).2.1, iV .i64 (pgE p).2.2]) := by
  refine at_bound (by kernel_rfl) fun hb => ?_
  have ok := Pg.ok (hb p.av (by simp))
  have hL := at_pure (at_lists p hv hf) (r' := .tup [strsA (p.vars.map (·.1)), strsA (p.funcs.map (·.1))]) (by simp)
  refine at_code mixed Tryd.func66 (by kernel_rfl) rfl (by kernel_rfl) (by kernel_rfl) rfl fun Q hQ => ?_
  repeat (first | simp | with_reducible refine And.intro (by omega) ?_ | with_reducible refine gsel_pure (by with_unfolding_all rfl) _ (fun hg => by (try simp at hg); simp [hg]; rfl) ?_ | with_reducible refine dsel_pure (by with_unfolding_all rfl) _ (fun hg => by (try simp at hg); simp [hg]; rfl) ?_ | with_reducible refine awp_draw (by kernel_rfl) (by decide +kernel) ?_)
  refine gop_call' (hL) (by simp) (by simp) (by simp) ?_
  repeat (first | simp | with_reducible refine And.intro (by omega) ?_ | with_reducible refine gsel_pure (by with_unfolding_all rfl) _ (fun hg => by (try simp at hg); simp [hg]; rfl) ?_ | with_reducible refine dsel_pure (by with_unfolding_all rfl) _ (fun hg => by (try simp at hg); simp [hg]; rfl) ?_ | with_reducible refine awp_draw (by kernel_rfl) (by decide +kernel) ?_)
  refine gop_call (at_rnames (p.vars.map (·.1))) (by simp) (by simp) (by simp) ?_
  repeat (first | simp | with_reducible refine And.intro (by omega) ?_ | with_reducible refine gsel_pure (by with_unfolding_all rfl) _ (fun hg => by (try simp at hg); simp [hg]; rfl) ?_ | with_reducible refine dsel_pure (by with_unfolding_all rfl) _ (fun hg => by (try simp at hg); simp [hg]; rfl) ?_ | with_reducible refine awp_draw (by kernel_rfl) (by decide +kernel) ?_)
  (with_reducible refine condK_intro (fun h => ?_) (fun h => ?_)) <;> (try simp only [h])
  · simp [eqI] at h
    repeat (first | simp | with_reducible refine And.intro (by omega) ?_ | with_reducible refine gsel_pure (by with_unfolding_all rfl) _ (fun hg => by (try simp at hg); simp [hg]; rfl) ?_ | with_reducible refine dsel_pure (by with_unfolding_all rfl) _ (fun hg => by (try simp at hg); simp [hg]; rfl) ?_ | with_reducible refine awp_draw (by kernel_rfl) (by decide +kernel) ?_)
    refine hQ _ _ (ret2 (by simp [retAV, resAV]; rfl) (by simp; rfl) ?_)
    simp [pgE, nmE, h]
  simp [eqI] at h
  have h1 := h
  clear h
  repeat (first | simp | with_reducible refine And.intro (by omega) ?_ | with_reducible refine gsel_pure (by with_unfolding_all rfl) _ (fun hg => by (try simp at hg); simp [hg]; rfl) ?_ | with_reducible refine dsel_pure (by with_unfolding_all rfl) _ (fun hg => by (try simp at hg); simp [hg]; rfl) ?_ | with_reducible refine awp_draw (by kernel_rfl) (by decide +kernel) ?_)
  refine gop_call (at_rnames p.mutexes) (by simp) (by simp) (by simp) ?_
  repeat (first | simp | with_reducible refine And.intro (by omega) ?_ | with_reducible refine gsel_pure (by with_unfolding_all rfl) _ (fun hg => by (try simp at hg); simp [hg]; rfl) ?_ | with_reducible refine dsel_pure (by with_unfolding_all rfl) _ (fun hg => by (try simp at hg); simp [hg]; rfl) ?_ | with_reducible refine awp_draw (by kernel_rfl) (by decide +kernel) ?_)
  (with_reducible refine condK_intro (fun h => ?_) (fun h => ?_)) <;> (try simp only [h])
  · simp [eqI] at h
    repeat (first | simp | with_reducible refine And.intro (by omega) ?_ | with_reducible refine gsel_pure (by with_unfolding_all rfl) _ (fun hg => by (try simp at hg); simp [hg]; rfl) ?_ | with_reducible refine dsel_pure (by with_unfolding_all rfl) _ (fun hg => by (try simp at hg); simp [hg]; rfl) ?_ | with_reducible refine awp_draw (by kernel_rfl) (by decide +kernel) ?_)
    refine hQ _ _ (ret2 (by simp [retAV, resAV]; rfl) (by simp; rfl) ?_)
    simp [pgE, nmE, h1, h]
  simp [eqI] at h
  have h2 := h
  clear h
  repeat (first | simp | with_reducible refine And.intro (by omega) ?_ | with_reducible refine gsel_pure (by with_unfolding_all rfl) _ (fun hg => by (try simp at hg); simp [hg]; rfl) ?_ | with_reducible refine dsel_pure (by with_unfolding_all rfl) _ (fun hg => by (try simp at hg); simp [hg]; rfl) ?_ | with_reducible refine awp_draw (by kernel_rfl) (by decide +kernel) ?_)
  refine gop_call (at_rnames p.conds) (by simp) (by simp) (by simp) ?_
  repeat (first | simp | with_reducible refine And.intro (by omega) ?_ | with_reducible refine gsel_pure (by with_unfolding_all rfl) _ (fun hg => by (try simp at hg); simp [hg]; rfl) ?_ | with_reducible refine dsel_pure (by with_unfolding_all rfl) _ (fun hg => by (try simp at hg); simp [hg]; rfl) ?_ | with_reducible refine awp_draw (by kernel_rfl) (by decide +kernel) ?_)
  (with_reducible refine condK_intro (fun h => ?_) (fun h => ?_)) <;> (try simp only [h])
  · simp [eqI] at h
    repeat (first | simp | with_reducible refine And.intro (by omega) ?_ | with_reducible refine gsel_pure (by with_unfolding_all rfl) _ (fun hg => by (try simp at hg); simp [hg]; rfl) ?_ | with_reducible refine dsel_pure (by with_unfolding_all rfl) _ (fun hg => by (try simp at hg); simp [hg]; rfl) ?_ | with_reducible refine awp_draw (by kernel_rfl) (by decide +kernel) ?_)
    refine hQ _ _ (ret2 (by simp [retAV, resAV]; rfl) (by simp; rfl) ?_)
    simp [pgE, nmE, h1, h2, h]
  simp [eqI] at h
  have h3 := h
  clear h
  repeat (first | simp | with_reducible refine And.intro (by omega) ?_ | with_reducible refine gsel_pure (by with_unfolding_all rfl) _ (fun hg => by (try simp at hg); simp [hg]; rfl) ?_ | with_reducible refine dsel_pure (by with_unfolding_all rfl) _ (fun hg => by (try simp at hg); simp [hg]; rfl) ?_ | with_reducible refine awp_draw (by kernel_rfl) (by decide +kernel) ?_)
  refine gop_call (at_rnames (p.funcs.map (·.1))) (by simp) (by simp) (by simp) ?_
  repeat (first | simp | with_reducible refine And.intro (by omega) ?_ | with_reducible refine gsel_pure (by with_unfolding_all rfl) _ (fun hg => by (try simp at hg); simp [hg]; rfl) ?_ | with_reducible refine dsel_pure (by with_unfolding_all rfl) _ (fun hg => by (try simp at hg); simp [hg]; rfl) ?_ | with_reducible refine awp_draw (by kernel_rfl) (by decide +kernel) ?_)
  (with_reducible refine condK_intro (fun h => ?_) (fun h => ?_)) <;> (try simp only [h])
  · simp [eqI] at h
    repeat (first | simp | with_reducible refine And.intro (by omega) ?_ | with_reducible refine gsel_pure (by with_unfolding_all rfl) _ (fun hg => by (try simp at hg); simp [hg]; rfl) ?_ | with_reducible refine dsel_pure (by with_unfolding_all rfl) _ (fun hg => by (try simp at hg); simp [hg]; rfl) ?_ | with_reducible refine awp_draw (by kernel_rfl) (by decide +kernel) ?_)
    refine hQ _ _ (ret2 (by simp [retAV, resAV]; rfl) (by simp; rfl) ?_)
    simp [pgE, nmE, h1, h2, h3, h]
  simp [eqI] at h
  have hnm : (nmE p).1 = 0 := by simp [nmE, h1, h2, h3, h]
  clear h
  repeat (first | simp | with_reducible refine And.intro (by omega) ?_ | with_reducible refine gsel_pure (by with_unfolding_all rfl) _ (fun hg => by (try simp at hg); simp [hg]; rfl) ?_ | with_reducible refine dsel_pure (by with_unfolding_all rfl) _ (fun hg => by (try simp at hg); simp [hg]; rfl) ?_ | with_reducible refine awp_draw (by kernel_rfl) (by decide +kernel) ?_)
  (with_reducible refine condK_intro (fun h => ?_) (fun h => ?_)) <;> (try simp only [h])
  · simp [orB, ltI] at h
    have : obE p = 4 := by unfold obE; rw [if_pos (by omega)]
    repeat (first | simp | with_reducible refine And.intro (by omega) ?_ | with_reducible refine gsel_pure (by with_unfolding_all rfl) _ (fun hg => by (try simp at hg); simp [hg]; rfl) ?_ | with_reducible refine dsel_pure (by with_unfolding_all rfl) _ (fun hg => by (try simp at hg); simp [hg]; rfl) ?_ | with_reducible refine awp_draw (by kernel_rfl) (by decide +kernel) ?_)
    refine hQ _ _ (ret2 (by simp [retAV, resAV]; rfl) (by simp; rfl) ?_)
    simp [pgE, hnm, this]
  simp [orB, ltI] at h
  have hbig : ¬ (8 < p.vars.length ∨ 4 < p.mutexes.length ∨ 4 < p.conds.length ∨ 8 < p.funcs.length) := by omega
  clear h
  repeat (first | simp | with_reducible refine And.intro (by omega) ?_ | with_reducible refine gsel_pure (by with_unfolding_all rfl) _ (fun hg => by (try simp at hg); simp [hg]; rfl) ?_ | with_reducible refine dsel_pure (by with_unfolding_all rfl) _ (fun hg => by (try simp at hg); simp [hg]; rfl) ?_ | with_reducible refine awp_draw (by kernel_rfl) (by decide +kernel) ?_)
  refine awp_loop (fun s => ∃ k : Nat, k ≤ p.vars.length ∧ (∀ j, (h : j < p.vars.length) → j < k → valueB p.vars[j].2 = true) ∧ s.env 15 = iV .i64 k ∧ s.env 1 = .cell (.ptr 0 0) ∧ s.box 0 = some (p.cvs.map .p)) (fun s => p.vars.length - (s.num 15).toNat) _ (Weak.refl _) ⟨0, by omega, by simp, by simp, by simp, by simp [Pg.cvs]⟩ fun s hs L hL' => ?_
  obtain ⟨k, hk, hall, h15, h1', hb0⟩ := hs
  repeat (first | simp [h15, h1', hb0, Pg.cvs] | with_reducible refine And.intro (by omega) ?_ | with_reducible refine gsel_pure (by with_unfolding_all rfl) _ (fun hg => by (try simp at hg); simp [hg, h15, h1', hb0, Pg.cvs]; rfl) ?_ | with_reducible refine dsel_pure (by with_unfolding_all rfl) _ (fun hg => by (try simp at hg); simp [hg, h15, h1', hb0, Pg.cvs]; rfl) ?_ | with_reducible refine awp_draw (by kernel_rfl) (by decide +kernel) ?_)
  (with_reducible refine condK_intro (fun h => ?_) (fun h => ?_)) <;> (try simp only [h])
  · simp [ltI] at h
    have hlt := h
    have ew := wrap_succ hlt ok.vars
    repeat (first | simp [h15, h1', hb0, Pg.cvs, hlt] | with_reducible refine And.intro (by omega) ?_ | with_reducible refine gsel_pure (by with_unfolding_all rfl) _ (fun hg => by (try simp at hg); simp [hg, h15, h1', hb0, Pg.cvs, hlt]; rfl) ?_ | with_reducible refine dsel_pure (by with_unfolding_all rfl) _ (fun hg => by (try simp at hg); simp [hg, h15, h1', hb0, Pg.cvs, hlt]; rfl) ?_ | with_reducible refine awp_draw (by kernel_rfl) (by decide +kernel) ?_)
    refine gop_call (at_rvalue p.vars[k].2) (by simp [h15, h1', hb0, hlt]) (by simp) (by simp) ?_
    repeat (first | simp [h15, h1', hb0, hlt] | with_reducible refine And.intro (by omega) ?_ | with_reducible refine gsel_pure (by with_unfolding_all rfl) _ (fun hg => by (try simp at hg); simp [hg, h15, h1', hb0, hlt]; rfl) ?_ | with_reducible refine dsel_pure (by with_unfolding_all rfl) _ (fun hg => by (try simp at hg); simp [hg, h15, h1', hb0, hlt]; rfl) ?_ | with_reducible refine awp_draw (by kernel_rfl) (by decide +kernel) ?_)
    (with_reducible refine condK_intro (fun h => ?_) (fun h => ?_)) <;> (try simp only [h])
    · simp at h
      have : obE p = 2 := by
        unfold obE
        rw [if_neg hbig, if_neg]
        intro hA
        rw [List.all_eq_true] at hA
        have := hA _ (List.getElem_mem hlt)
        simp [h] at this
      repeat (first | simp | with_reducible refine And.intro (by omega) ?_ | with_reducible refine gsel_pure (by with_unfolding_all rfl) _ (fun hg => by (try simp at hg); simp [hg]; rfl) ?_ | with_reducible refine dsel_pure (by with_unfolding_all rfl) _ (fun hg => by (try simp at hg); simp [hg]; rfl) ?_ | with_reducible refine awp_draw (by kernel_rfl) (by decide +kernel) ?_)
      refine hQ _ _ (ret2 (by simp [retAV, resAV]; rfl) (by simp; rfl) ?_)
      simp [pgE, hnm, this]
    · simp at h
      repeat (first | simp [h15, h1', hb0, ew] | with_reducible refine And.intro (by omega) ?_ | with_reducible refine gsel_pure (by with_unfolding_all rfl) _ (fun hg => by (try simp at hg); simp [hg, h15, h1', hb0, ew]; rfl) ?_ | with_reducible refine dsel_pure (by with_unfolding_all rfl) _ (fun hg => by (try simp at hg); simp [hg, h15, h1', hb0, ew]; rfl) ?_ | with_reducible refine awp_draw (by kernel_rfl) (by decide +kernel) ?_)
      refine hL' _ ⟨⟨k + 1, hlt, fun j hj hjk => ?_, by simp, by simp [h1'], by simp [hb0]⟩, ?_⟩
      · by_cases e : j = k
        · subst e; exact h
        · exact hall j hj (by omega)
      · simp [St.num, h15]; omega
  simp [ltI] at h
  have hob : obE p = 0 := by
    unfold obE
    rw [if_neg hbig, if_pos]
    rw [List.all_eq_true]
    intro x hx
    obtain ⟨j, hj, rfl⟩ := List.getElem_of_mem hx
    exact hall j hj (by omega)
  clear h hall hL' hk hL
  repeat (first | simp [h15, h1', hb0] | with_reducible refine And.intro (by omega) ?_ | with_reducible refine gsel_pure (by with_unfolding_all rfl) _ (fun hg => by (try simp at hg); simp [hg, h15, h1', hb0]; rfl) ?_ | with_reducible refine dsel_pure (by with_unfolding_all rfl) _ (fun hg => by (try simp at hg); simp [hg, h15, h1', hb0]; rfl) ?_ | with_reducible refine awp_draw (by kernel_rfl) (by decide +kernel) ?_)
  refine awp_loop (fun s => ∃ k : Nat, k ≤ p.funcs.length ∧ fnE p 0 p.funcs = fnE p k (p.funcs.drop k) ∧ s.env 16 = iV .i64 k ∧ s.env 1 = .cell (.ptr 0 0) ∧ s.box 0 = some (p.cvs.map .p)) (fun s => p.funcs.length - (s.num 16).toNat) _ (Weak.refl _) ⟨0, by omega, by simp, by simp, by simp [h1'], by simp [hb0]⟩ fun s hs L hL' => ?_
  clear h15 h1' hb0
  obtain ⟨k, hk, hall, h16, h1', hb0⟩ := hs
  repeat (first | simp [h16, h1', hb0, Pg.cvs] | with_reducible refine And.intro (by omega) ?_ | with_reducible refine gsel_pure (by with_unfolding_all rfl) _ (fun hg => by (try simp at hg); simp [hg, h16, h1', hb0, Pg.cvs]; rfl) ?_ | with_reducible refine dsel_pure (by with_unfolding_all rfl) _ (fun hg => by (try simp at hg); simp [hg, h16, h1', hb0, Pg.cvs]; rfl) ?_ | with_reducible refine awp_draw (by kernel_rfl) (by decide +kernel) ?_)
  (with_reducible refine condK_intro (fun h => ?_) (fun h => ?_)) <;> (try simp only [h])
  · simp [ltI] at h
    have hlt := h
    have ew := wrap_succ hlt ok.funcs
    rw [fnE_drop hlt] at hall
    repeat (first | simp [h16, h1', hb0, Pg.cvs, hlt] | with_reducible refine And.intro (by omega) ?_ | with_reducible refine gsel_pure (by with_unfolding_all rfl) _ (fun hg => by (try simp at hg); simp [hg, h16, h1', hb0, Pg.cvs, hlt]; rfl) ?_ | with_reducible refine dsel_pure (by with_unfolding_all rfl) _ (fun hg => by (try simp at hg); simp [hg, h16, h1', hb0, Pg.cvs, hlt]; rfl) ?_ | with_reducible refine awp_draw (by kernel_rfl) (by decide +kernel) ?_)
    refine dq_at (at_rcode p p.funcs[k]) (by simp [h16, h1', hb0, Pg.cvs, hlt]) (by simp) (by simp) ?_
    repeat (first | simp [h16, h1', hb0, Pg.cvs, hlt] | with_reducible refine And.intro (by omega) ?_ | with_reducible refine gsel_pure (by with_unfolding_all rfl) _ (fun hg => by (try simp at hg); simp [hg, h16, h1', hb0, Pg.cvs, hlt]; rfl) ?_ | with_reducible refine dsel_pure (by with_unfolding_all rfl) _ (fun hg => by (try simp at hg); simp [hg, h16, h1', hb0, Pg.cvs, hlt]; rfl) ?_ | with_reducible refine awp_draw (by kernel_rfl) (by decide +kernel) ?_)
    (with_reducible refine condK_intro (fun h => ?_) (fun h => ?_)) <;> (try simp only [h])
    · simp [eqI] at h
      have hres : fnE p 0 p.funcs = (if 64 < p.funcs[k].2.length then 4 else (cdE p p.funcs[k].2.length 0 p.funcs[k].2).1, (k : Int), if 64 < p.funcs[k].2.length then -1 else (cdE p p.funcs[k].2.length 0 p.funcs[k].2).2) := by
        rw [hall]
        by_cases h64 : 64 < p.funcs[k].2.length
        · rw [if_pos h64, if_pos h64, if_pos h64]
        · rw [if_neg h64] at h
          rw [if_neg h64, if_pos h, if_neg h64, if_neg h64]
      have hne : (fnE p 0 p.funcs).1 ≠ 0 := by rw [hres]; exact h
      have hpg : pgE p = fnE p 0 p.funcs := by
        unfold pgE
        rw [if_neg (by simp [hnm]), if_neg (by simp [hob]), if_pos hne]
      repeat (first | simp [h16, h1', hb0] | with_reducible refine And.intro (by omega) ?_ | with_reducible refine gsel_pure (by with_unfolding_all rfl) _ (fun hg => by (try simp at hg); simp [hg, h16, h1', hb0]; rfl) ?_ | with_reducible refine dsel_pure (by with_unfolding_all rfl) _ (fun hg => by (try simp at hg); simp [hg, h16, h1', hb0]; rfl) ?_ | with_reducible refine awp_draw (by kernel_rfl) (by decide +kernel) ?_)
      refine hQ _ _ (ret2 (by simp [retAV, resAV, h16, h1', hb0]; rfl) (by simp [h16, h1', hb0]; rfl) ?_)
      rw [hpg, hres]
    · simp [eqI] at h
      by_cases h64 : 64 < p.funcs[k].2.length
      · rw [if_pos h64] at h; cases h
      rw [if_neg h64] at h
      rw [if_neg h64, if_neg (by simp [h])] at hall
      repeat (first | simp [h16, h1', hb0, ew] | with_reducible refine And.intro (by omega) ?_ | with_reducible refine gsel_pure (by with_unfolding_all rfl) _ (fun hg => by (try simp at hg); simp [hg, h16, h1', hb0, ew]; rfl) ?_ | with_reducible refine dsel_pure (by with_unfolding_all rfl) _ (fun hg => by (try simp at hg); simp [hg, h16, h1', hb0, ew]; rfl) ?_ | with_reducible refine awp_draw (by kernel_rfl) (by decide +kernel) ?_)
      refine hL' _ ⟨⟨k + 1, hlt, hall, by simp, by simp [h1'], by simp [hb0]⟩, ?_⟩
      simp [St.num, h16]; omega
  · simp [ltI] at h
    have : k = p.funcs.length := by omega
    subst this
    have hfn : (fnE p 0 p.funcs).1 = 0 := by rw [hall]; simp [fnE]
    repeat (first | simp [h16, h1', hb0, Pg.cvs] | with_reducible refine And.intro (by omega) ?_ | with_reducible refine gsel_pure (by with_unfolding_all rfl) _ (fun hg => by (try simp at hg); simp [hg, h16, h1', hb0, Pg.cvs]; rfl) ?_ | with_reducible refine dsel_pure (by with_unfolding_all rfl) _ (fun hg => by (try simp at hg); simp [hg, h16, h1', hb0, Pg.cvs]; rfl) ?_ | with_reducible refine awp_draw (by kernel_rfl) (by decide +kernel) ?_)
    refine gop_call (at_rthreads p) (by simp [h16, h1', hb0, Pg.cvs]) (by simp) (by simp) ?_
    repeat (first | simp | with_reducible refine And.intro (by omega) ?_ | with_reducible refine gsel_pure (by with_unfolding_all rfl) _ (fun hg => by (try simp at hg); simp [hg]; rfl) ?_ | with_reducible refine dsel_pure (by with_unfolding_all rfl) _ (fun hg => by (try simp at hg); simp [hg]; rfl) ?_ | with_reducible refine awp_draw (by kernel_rfl) (by decide +kernel) ?_)
    refine hQ _ _ (ret2 (by simp [retAV, resAV]; rfl) (by simp; rfl) ?_)
    simp [pgE, hnm, hob, hfn]
theorem at_rValid (p : Pg) (hv : p.vars.length ≤ 1000000) (hf : p.funcs.length ≤ 1000000) : At Tryd.prog 43 [p.av] (bV (decide ((pgE p).1 = 0))) := by
  refine at_code mixed Tryd.func43 (by kernel_rfl) rfl (by kernel_rfl) (by kernel_rfl) rfl fun Q hQ => ?_
  repeat (first | simp | with_reducible refine And.intro (by omega) ?_ | with_reducible refine gsel_pure (by with_unfolding_all rfl) _ (fun hg => by (try simp at hg); simp [hg]; rfl) ?_ | with_reducible refine dsel_pure (by with_unfolding_all rfl) _ (fun hg => by (try simp at hg); simp [hg]; rfl) ?_ | with_reducible refine awp_draw (by kernel_rfl) (by decide +kernel) ?_)
  refine gop_call (at_rcheck p hv hf) (by simp) (by simp) (by simp) ?_
  repeat (first | simp | with_reducible refine And.intro (by omega) ?_ | with_reducible refine gsel_pure (by with_unfolding_all rfl) _ (fun hg => by (try simp at hg); simp [hg]; rfl) ?_ | with_reducible refine dsel_pure (by with_unfolding_all rfl) _ (fun hg => by (try simp at hg); simp [hg]; rfl) ?_ | with_reducible refine awp_draw (by kernel_rfl) (by decide +kernel) ?_)
  refine hQ _ _ (ret2 (by simp [retAV, resAV]; rfl) (by simp; rfl) ?_)
  simp [eqI]
  rw [Bool.eq_iff_iff]; simp
def smallB (p : Pg) : Bool := decide (p.vars.length ≤ 20 ∧ p.mutexes.length ≤ 20 ∧ p.conds.length ≤ 20 ∧ p.funcs.length ≤ 20 ∧ p.threads.length ≤ 20) && p.funcs.all fun f => decide (f.2.length ≤ 100)
theorem at_small (p : Pg) : At Tryd.prog 34 [p.av] (bV (smallB p)) := by
  refine at_code mixed Tryd.func34 (by kernel_rfl) rfl (by kernel_rfl) (by kernel_rfl) rfl fun Q hQ => ?_
  repeat (first | simp | with_reducible refine And.intro (by omega) ?_ | with_reducible refine gsel_pure (by with_unfolding_all rfl) _ (fun hg => by (try simp at hg); simp [hg]; rfl) ?_ | with_reducible refine dsel_pure (by with_unfolding_all rfl) _ (fun hg => by (try simp at hg); simp [hg]; rfl) ?_ | with_reducible refine awp_draw (by kernel_rfl) (by decide +kernel) ?_)
  (with_reducible refine condK_intro (fun h => ?_) (fun h => ?_)) <;> (try simp only [h])
  · simp [orB, ltI] at h
    repeat (first | simp | with_reducible refine And.intro (by omega) ?_ | with_reducible refine gsel_pure (by with_unfolding_all rfl) _ (fun hg => by (try simp at hg); simp [hg]; rfl) ?_ | with_reducible refine dsel_pure (by with_unfolding_all rfl) _ (fun hg => by (try simp at hg); simp [hg]; rfl) ?_ | with_reducible refine awp_draw (by kernel_rfl) (by decide +kernel) ?_)
    refine hQ _ _ (ret2 (by simp [retAV, resAV]; rfl) (by simp; rfl) ?_)
    have : smallB p = false := by unfold smallB; rw [decide_eq_false (by omega)]; rfl
    rw [this]
  simp [orB, ltI] at h
  have hs0 : smallB p = p.funcs.all fun f => decide (f.2.length ≤ 100) := by unfold smallB; rw [decide_eq_true (by omega)]; rfl
  have hfl : p.funcs.length ≤ 20 := by omega
  clear h
  repeat (first | simp | with_reducible refine And.intro (by omega) ?_ | with_reducible refine gsel_pure (by with_unfolding_all rfl) _ (fun hg => by (try simp at hg); simp [hg]; rfl) ?_ | with_reducible refine dsel_pure (by with_unfolding_all rfl) _ (fun hg => by (try simp at hg); simp [hg]; rfl) ?_ | with_reducible refine awp_draw (by kernel_rfl) (by decide +kernel) ?_)
  refine awp_loop (fun s => ∃ k : Nat, k ≤ p.funcs.length ∧ (∀ j, (h : j < p.funcs.length) → j < k → p.funcs[j].2.length ≤ 100) ∧ s.env 3 = iV .i64 k ∧ s.env 1 = .cell (.ptr 0 0) ∧ s.box 0 = some (p.cvs.map .p)) (fun s => p.funcs.length - (s.num 3).toNat) _ (Weak.refl _) ⟨0, by omega, by simp, by simp, by simp, by simp [Pg.cvs]⟩ fun s hs L hL => ?_
  obtain ⟨k, hk, hall, h3, h1, hb0⟩ := hs
  repeat (first | simp [h3, h1, hb0, Pg.cvs] | with_reducible refine And.intro (by omega) ?_ | with_reducible refine gsel_pure (by with_unfolding_all rfl) _ (fun hg => by (try simp at hg); simp [hg, h3, h1, hb0, Pg.cvs]; rfl) ?_ | with_reducible refine dsel_pure (by with_unfolding_all rfl) _ (fun hg => by (try simp at hg); simp [hg, h3, h1, hb0, Pg.cvs]; rfl) ?_ | with_reducible refine awp_draw (by kernel_rfl) (by decide +kernel) ?_)
  (with_reducible refine condK_intro (fun h => ?_) (fun h => ?_)) <;> (try simp only [h])
  · simp [ltI] at h
    have hlt := h
    have ew := wrap_succ hlt (show p.funcs.length ≤ maxLen by unfold maxLen; omega)
    repeat (first | simp [h3, h1, hb0, Pg.cvs, hlt] | with_reducible refine And.intro (by omega) ?_ | with_reducible refine gsel_pure (by with_unfolding_all rfl) _ (fun hg => by (try simp at hg); simp [hg, h3, h1, hb0, Pg.cvs, hlt]; rfl) ?_ | with_reducible refine dsel_pure (by with_unfolding_all rfl) _ (fun hg => by (try simp at hg); simp [hg, h3, h1, hb0, Pg.cvs, hlt]; rfl) ?_ | with_reducible refine awp_draw (by kernel_rfl) (by decide +kernel) ?_)
    (with_reducible refine condK_intro (fun h => ?_) (fun h => ?_)) <;> (try simp only [h])
    · simp [ltI] at h
      repeat (first | simp | with_reducible refine And.intro (by omega) ?_ | with_reducible refine gsel_pure (by with_unfolding_all rfl) _ (fun hg => by (try simp at hg); simp [hg]; rfl) ?_ | with_reducible refine dsel_pure (by with_unfolding_all rfl) _ (fun hg => by (try simp at hg); simp [hg]; rfl) ?_ | with_reducible refine awp_draw (by kernel_rfl) (by decide +kernel) ?_)
      refine hQ _ _ (ret2 (by simp [retAV, resAV]; rfl) (by simp; rfl) ?_)
      have : smallB p = false := by
        rw [hs0, List.all_eq_false]
        exact ⟨_, List.getElem_mem hlt, by simp; omega⟩
      rw [this]
    · simp [ltI] at h
      repeat (first | simp [h3, h1, hb0, ew] | with_reducible refine And.intro (by omega) ?_ | with_reducible refine gsel_pure (by with_unfolding_all rfl) _ (fun hg => by (try simp at hg); simp [hg, h3, h1, hb0, ew]; rfl) ?_ | with_reducible refine dsel_pure (by with_unfolding_all rfl) _ (fun hg => by (try simp at hg); simp [hg, h3, h1, hb0, ew]; rfl) ?_ | with_reducible refine awp_draw (by kernel_rfl) (by decide +kernel) ?_)
      refine hL _ ⟨⟨k + 1, hlt, fun j hj hjk => ?_, by simp, by simp [h1], by simp [hb0]⟩, ?_⟩
      · by_cases e : j = k
        · subst e; omega
        · exact hall j hj (by omega)
      · simp [St.num, h3]; omega
  · simp [ltI] at h
    repeat (first | simp | with_reducible refine And.intro (by omega) ?_ | with_reducible refine gsel_pure (by with_unfolding_all rfl) _ (fun hg => by (try simp at hg); simp [hg]; rfl) ?_ | with_reducible refine dsel_pure (by with_unfolding_all rfl) _ (fun hg => by (try simp at hg); simp [hg]; rfl) ?_ | with_reducible refine awp_draw (by kernel_rfl) (by decide +kernel) ?_)
    refine hQ _ _ (ret2 (by simp [retAV, resAV]; rfl) (by simp; rfl) ?_)
    have : smallB p = true := by
      rw [hs0, List.all_eq_true]
      intro x hx
      obtain ⟨j, hj, rfl⟩ := List.getElem_of_mem hx
      simpa using hall j hj (by omega)
    rw [this]
end Go.Proofs
end
section
set_option linter.all false
namespace Go.Dr
open Go.Fw

def tgtB (l : List I8) (n : Int) : Bool := l.any fun i => (i.op == 4 || i.op == 5) && i.n == n
theorem any_drop {α : Type} {p : α → Bool} {l : List α} {k : Nat} (h : k < l.length) : (l.drop k).any p = (p l[k] || (l.drop (k + 1)).any p) := by rw [List.drop_eq_getElem_cons h, List.any_cons]
theorem tgtB_drop {l : List I8} {n : Int} {k : Nat} (h : k < l.length) : tgtB (l.drop k) n = ((l[k].op == 4 || l[k].op == 5) && l[k].n == n || tgtB (l.drop (k + 1)) n) := any_drop h
/-- The condition under which a loop is left. -/
def condF (f : Int) : Int := if f = 7 then 8 else if f = 8 then 7 else if f = 9 then 10 else 9
def shB (a b c : I8) (n : Int) : Bool := a.op == 8 && b.op == 3 && c.op == 5 && c.b == b.a && c.n == n
def teB (b : I8) (v o : Int) : Bool := ((b.b == v) != (b.c == v)) && o != b.a && ((b.fn == 7 || b.fn == 8) || b.c == v && (b.fn == 9 || b.fn == 10))
def otherI (a b : I8) : Int := if b.c = a.a then b.b else b.c
def spinAt (l : List I8) (n : Nat) : Bool := match l[n]?, l[n + 1]?, l[n + 2]? with
  | some a, some b, some c => shB a b c n && teB b a.a (otherI a b) && !tgtB l (n + 1) && !tgtB l (n + 2)
  | _, _, _ => false
def awI (a b : I8) : I8 := ⟨14, a.a, otherI a b, 0, a.obj, 0, condF b.fn, a.ord⟩
def spinL (l : List I8) : List Nat := (List.range (l.length - 2)).filter (spinAt l)
def repI (l : List I8) (n : Nat) : I8 := awI (l.getD n default) (l.getD (n + 1) default)
def spFn (k : Nat) (l : List I8) (m : Nat) : List (Nat × Nat × I8) := ((List.range m).filter (spinAt l)).map fun n => (k, n, repI l n)
def spAll (p : Pg) (m : Nat) : List (Nat × Nat × I8) := (List.range m).flatMap fun k => spFn k (p.funcs.getD k default).2 ((p.funcs.getD k default).2.length - 2)
def spC (x : Nat × Nat × I8) : List CV := [iC x.1, iC x.2.1] ++ x.2.2.cvs
def spsC (l : List (Nat × Nat × I8)) : List CV := l.flatMap spC
theorem spFn_skip (k : Nat) {l : List I8} {m : Nat} (h : spinAt l m = false) : spFn k l (m + 1) = spFn k l m := by simp [spFn, List.range_succ, List.filter_append, h]
theorem spFn_take (k : Nat) {l : List I8} {m : Nat} (h : spinAt l m = true) : spFn k l (m + 1) = spFn k l m ++ [(k, m, repI l m)] := by simp [spFn, List.range_succ, List.filter_append, h]
theorem spsC_append (a b : List (Nat × Nat × I8)) : spsC (a ++ b) = spsC a ++ spsC b := by simp [spsC]
theorem spFn_len (k : Nat) (l : List I8) (m : Nat) : (spFn k l m).length ≤ m := by
  unfold spFn
  rw [List.length_map]
  exact Nat.le_trans (List.length_filter_le _ _) (by simp)
theorem spAll_succ0 (p : Pg) (k : Nat) : spAll p (k + 1) = spAll p k ++ spFn k (p.funcs.getD k default).2 ((p.funcs.getD k default).2.length - 2) := by simp [spAll, List.range_succ]
theorem spAll_succ {p : Pg} {k m : Nat} (h : k < p.funcs.length) (hm : m = p.funcs[k].2.length - 2) : spAll p (k + 1) = spAll p k ++ spFn k p.funcs[k].2 m := by
  rw [spAll_succ0, List.getD_eq_getElem?_getD, List.getElem?_eq_getElem h, hm]; rfl
theorem spAll_len {p : Pg} (hc : ∀ f ∈ p.funcs, f.2.length ≤ 1000) : ∀ k, (spAll p k).length ≤ k * 1000
  | 0 => by simp [spAll]
  | k + 1 => by
    have := spAll_len hc k
    rw [spAll_succ0, List.length_append]
    have h1 := spFn_len k (p.funcs.getD k default).2 ((p.funcs.getD k default).2.length - 2)
    have h2 : (p.funcs.getD k default).2.length ≤ 1000 := by
      rw [List.getD_eq_getElem?_getD]
      rcases Nat.lt_or_ge k p.funcs.length with h | h
      · rw [List.getElem?_eq_getElem h]; exact hc _ (List.getElem_mem h)
      · rw [List.getElem?_eq_none h]; show ([] : List I8).length ≤ 1000; simp
    omega
end Go.Dr
end
section
set_option linter.all false
namespace Go.Proofs
open Go.Fw Go.Dr
set_option maxRecDepth 100000

theorem at_targeted (name : ByteArray) (l : List I8) (n : Int) (hm : l.length ≤ 1000000) : At Tryd.prog 89 [fAV name l, iV .i64 n] (bV (tgtB l n)) := by
  refine at_code mixed Tryd.func89 (by kernel_rfl) rfl (by kernel_rfl) (by kernel_rfl) rfl fun Q hQ => ?_
  repeat (first | simp | with_reducible refine And.intro (by omega) ?_ | with_reducible refine optK_if (by omega) ?_ | with_reducible refine optD_if (by omega) ?_ | simp (disch := omega) only [wrap_i64, if_pos, if_neg] | with_reducible refine gsel_pure (by with_unfolding_all rfl) _ (fun hg => by (try simp at hg); simp [hg]; rfl) ?_ | with_reducible refine dsel_pure (by with_unfolding_all rfl) _ (fun hg => by (try simp at hg); simp [hg]; rfl) ?_ | with_reducible refine awp_draw (by kernel_rfl) (by decide +kernel) ?_)
  refine awp_loopV (fun (k : Nat) (s : St) => (k ≤ l.length) ∧ (tgtB l n = tgtB (l.drop k) n) ∧ s.env 10 = iV .i64 k ∧ s.env 8 = .cell (.p (.sl l.length (codeC l))) ∧ s.env 9 = iV .i64 l.length ∧ s.env 1 = iV .i64 n) (fun (k : Nat) => l.length - k) (0) ⟨by first | omega | assumption | (simp; done) | (simp; omega), by first | omega | assumption | (simp; done) | (simp; omega), by simp, by simp, by simp, by simp⟩ fun k s hsA LA hLA => ?_
  obtain ⟨fA0, hr, h10, h8, h9, h1⟩ := hsA
  repeat (first | simp [h10, h8, h9, h1] | with_reducible refine And.intro (by omega) ?_ | with_reducible refine optK_if (by omega) ?_ | with_reducible refine optD_if (by omega) ?_ | simp (disch := omega) only [wrap_i64, if_pos, if_neg] | with_reducible refine gsel_pure (by with_unfolding_all rfl) _ (fun hg => by (try simp at hg); simp [hg, h10, h8, h9, h1]; rfl) ?_ | with_reducible refine dsel_pure (by with_unfolding_all rfl) _ (fun hg => by (try simp at hg); simp [hg, h10, h8, h9, h1]; rfl) ?_ | with_reducible refine awp_draw (by kernel_rfl) (by decide +kernel) ?_)
  (with_reducible refine condK_intro (fun hlt => ?_) (fun hlt => ?_)) <;> (try simp only [hlt]) <;> (try simp [andB, orB, eqI, ltI, Int.natCast_inj] at hlt)
  · rw [tgtB_drop hlt] at hr
    repeat (first | simp [h10, h8, h9, h1, hlt] | with_reducible refine And.intro (by omega) ?_ | with_reducible refine optK_if (by omega) ?_ | with_reducible refine optD_if (by omega) ?_ | simp (disch := omega) only [wrap_i64, if_pos, if_neg] | with_reducible refine gsel_pure (by with_unfolding_all rfl) _ (fun hg => by (try simp at hg); simp [hg, h10, h8, h9, h1, hlt]; rfl) ?_ | with_reducible refine dsel_pure (by with_unfolding_all rfl) _ (fun hg => by (try simp at hg); simp [hg, h10, h8, h9, h1, hlt]; rfl) ?_ | with_reducible refine awp_draw (by kernel_rfl) (by decide +kernel) ?_)
    (with_reducible refine condK_intro (fun h => ?_) (fun h => ?_)) <;> (try simp only [h]) <;> (try simp [andB, orB, eqI, ltI, Int.natCast_inj] at h)
    · repeat (first | simp [h10, h8, h9, h1, hlt, h] | with_reducible refine And.intro (by omega) ?_ | with_reducible refine optK_if (by omega) ?_ | with_reducible refine optD_if (by omega) ?_ | simp (disch := omega) only [wrap_i64, if_pos, if_neg] | with_reducible refine gsel_pure (by with_unfolding_all rfl) _ (fun hg => by (try simp at hg); simp [hg, h10, h8, h9, h1, hlt, h]; rfl) ?_ | with_reducible refine dsel_pure (by with_unfolding_all rfl) _ (fun hg => by (try simp at hg); simp [hg, h10, h8, h9, h1, hlt, h]; rfl) ?_ | with_reducible refine awp_draw (by kernel_rfl) (by decide +kernel) ?_)
      refine hQ _ _ (ret2 (by simp [retAV, resAV]; rfl) (by simp; rfl) ?_)
      rw [hr]; simp [h]
    · repeat (first | simp [h10, h8, h9, h1, hlt, h] | with_reducible refine And.intro (by omega) ?_ | with_reducible refine optK_if (by omega) ?_ | with_reducible refine optD_if (by omega) ?_ | simp (disch := omega) only [wrap_i64, if_pos, if_neg] | with_reducible refine gsel_pure (by with_unfolding_all rfl) _ (fun hg => by (try simp at hg); simp [hg, h10, h8, h9, h1, hlt, h]; rfl) ?_ | with_reducible refine dsel_pure (by with_unfolding_all rfl) _ (fun hg => by (try simp at hg); simp [hg, h10, h8, h9, h1, hlt, h]; rfl) ?_ | with_reducible refine awp_draw (by kernel_rfl) (by decide +kernel) ?_)
      refine hLA (k + 1) _ ⟨by first | omega | assumption | (simp; done) | (simp; omega), by rw [hr]; simp; intro h1 h2; exact (h h1 h2).elim, by simp [h10, h8, h9, h1, hlt, h], by simp [h10, h8, h9, h1, hlt, h], by simp [h10, h8, h9, h1, hlt, h], by simp [h10, h8, h9, h1, hlt, h]⟩ (by first | omega | (simp; omega))
  · repeat (first | simp [h10, h8, h9, h1, hlt] | with_reducible refine And.intro (by omega) ?_ | with_reducible refine optK_if (by omega) ?_ | with_reducible refine optD_if (by omega) ?_ | simp (disch := omega) only [wrap_i64, if_pos, if_neg] | with_reducible refine gsel_pure (by with_unfolding_all rfl) _ (fun hg => by (try simp at hg); simp [hg, h10, h8, h9, h1, hlt]; rfl) ?_ | with_reducible refine dsel_pure (by with_unfolding_all rfl) _ (fun hg => by (try simp at hg); simp [hg, h10, h8, h9, h1, hlt]; rfl) ?_ | with_reducible refine awp_draw (by kernel_rfl) (by decide +kernel) ?_)
    refine hQ _ _ (ret2 (by simp [retAV, resAV]; rfl) (by simp; rfl) ?_)
    rw [hr, List.drop_eq_nil_of_le (by omega)]; rfl
theorem at_entered (name : ByteArray) (l : List I8) (n : Int) (hm : l.length ≤ 1000000) : At Tryd.prog 96 [fAV name l, iV .i64 n] (bV (tgtB l n)) := by
  refine at_code mixed Tryd.func96 (by kernel_rfl) rfl (by kernel_rfl) (by kernel_rfl) rfl fun Q hQ => ?_
  repeat (first | simp | with_reducible refine And.intro (by omega) ?_ | with_reducible refine optK_if (by omega) ?_ | with_reducible refine optD_if (by omega) ?_ | simp (disch := omega) only [wrap_i64, if_pos, if_neg] | with_reducible refine gsel_pure (by with_unfolding_all rfl) _ (fun hg => by (try simp at hg); simp [hg]; rfl) ?_ | with_reducible refine dsel_pure (by with_unfolding_all rfl) _ (fun hg => by (try simp at hg); simp [hg]; rfl) ?_ | with_reducible refine awp_draw (by kernel_rfl) (by decide +kernel) ?_)
  refine awp_loopV (fun (k : Nat) (s : St) => (k ≤ l.length) ∧ (tgtB l n = tgtB (l.drop k) n) ∧ s.env 5 = iV .i64 k ∧ s.env 2 = .cell (.ptr 0 0) ∧ s.box 0 = some ([.p (sC name), .p (.sl l.length (codeC l))]) ∧ s.env 1 = iV .i64 n) (fun (k : Nat) => l.length - k) (0) ⟨by first | omega | assumption | (simp; done) | (simp; omega), by first | omega | assumption | (simp; done) | (simp; omega), by simp, by simp, by simp, by simp⟩ fun k s hsA LA hLA => ?_
  obtain ⟨fA0, hr, h5, h2, b0, h1⟩ := hsA
  repeat (first | simp [h5, h2, b0, h1] | with_reducible refine And.intro (by omega) ?_ | with_reducible refine optK_if (by omega) ?_ | with_reducible refine optD_if (by omega) ?_ | simp (disch := omega) only [wrap_i64, if_pos, if_neg] | with_reducible refine gsel_pure (by with_unfolding_all rfl) _ (fun hg => by (try simp at hg); simp [hg, h5, h2, b0, h1]; rfl) ?_ | with_reducible refine dsel_pure (by with_unfolding_all rfl) _ (fun hg => by (try simp at hg); simp [hg, h5, h2, b0, h1]; rfl) ?_ | with_reducible refine awp_draw (by kernel_rfl) (by decide +kernel) ?_)
  (with_reducible refine condK_intro (fun hlt => ?_) (fun hlt => ?_)) <;> (try simp only [hlt]) <;> (try simp [andB, orB, eqI, ltI, Int.natCast_inj] at hlt)
  · rw [tgtB_drop hlt] at hr
    repeat (first | simp [h5, h2, b0, h1, hlt] | with_reducible refine And.intro (by omega) ?_ | with_reducible refine optK_if (by omega) ?_ | with_reducible refine optD_if (by omega) ?_ | simp (disch := omega) only [wrap_i64, if_pos, if_neg] | with_reducible refine gsel_pure (by with_unfolding_all rfl) _ (fun hg => by (try simp at hg); simp [hg, h5, h2, b0, h1, hlt]; rfl) ?_ | with_reducible refine dsel_pure (by with_unfolding_all rfl) _ (fun hg => by (try simp at hg); simp [hg, h5, h2, b0, h1, hlt]; rfl) ?_ | with_reducible refine awp_draw (by kernel_rfl) (by decide +kernel) ?_)
    (with_reducible refine condK_intro (fun h => ?_) (fun h => ?_)) <;> (try simp only [h]) <;> (try simp [andB, orB, eqI, ltI, Int.natCast_inj] at h)
    · repeat (first | simp [h5, h2, b0, h1, hlt, h] | with_reducible refine And.intro (by omega) ?_ | with_reducible refine optK_if (by omega) ?_ | with_reducible refine optD_if (by omega) ?_ | simp (disch := omega) only [wrap_i64, if_pos, if_neg] | with_reducible refine gsel_pure (by with_unfolding_all rfl) _ (fun hg => by (try simp at hg); simp [hg, h5, h2, b0, h1, hlt, h]; rfl) ?_ | with_reducible refine dsel_pure (by with_unfolding_all rfl) _ (fun hg => by (try simp at hg); simp [hg, h5, h2, b0, h1, hlt, h]; rfl) ?_ | with_reducible refine awp_draw (by kernel_rfl) (by decide +kernel) ?_)
      refine hQ _ _ (ret2 (by simp [retAV, resAV]; rfl) (by simp; rfl) ?_)
      rw [hr]; simp [h]
    · repeat (first | simp [h5, h2, b0, h1, hlt, h] | with_reducible refine And.intro (by omega) ?_ | with_reducible refine optK_if (by omega) ?_ | with_reducible refine optD_if (by omega) ?_ | simp (disch := omega) only [wrap_i64, if_pos, if_neg] | with_reducible refine gsel_pure (by with_unfolding_all rfl) _ (fun hg => by (try simp at hg); simp [hg, h5, h2, b0, h1, hlt, h]; rfl) ?_ | with_reducible refine dsel_pure (by with_unfolding_all rfl) _ (fun hg => by (try simp at hg); simp [hg, h5, h2, b0, h1, hlt, h]; rfl) ?_ | with_reducible refine awp_draw (by kernel_rfl) (by decide +kernel) ?_)
      refine hLA (k + 1) _ ⟨by first | omega | assumption | (simp; done) | (simp; omega), by rw [hr]; simp; intro h1 h2; exact (h h1 h2).elim, by simp [h5, h2, b0, h1, hlt, h], by simp [h5, h2, b0, h1, hlt, h], by simp [h5, h2, b0, h1, hlt, h], by simp [h5, h2, b0, h1, hlt, h]⟩ (by first | omega | (simp; omega))
  · repeat (first | simp [h5, h2, b0, h1, hlt] | with_reducible refine And.intro (by omega) ?_ | with_reducible refine optK_if (by omega) ?_ | with_reducible refine optD_if (by omega) ?_ | simp (disch := omega) only [wrap_i64, if_pos, if_neg] | with_reducible refine gsel_pure (by with_unfolding_all rfl) _ (fun hg => by (try simp at hg); simp [hg, h5, h2, b0, h1, hlt]; rfl) ?_ | with_reducible refine dsel_pure (by with_unfolding_all rfl) _ (fun hg => by (try simp at hg); simp [hg, h5, h2, b0, h1, hlt]; rfl) ?_ | with_reducible refine awp_draw (by kernel_rfl) (by decide +kernel) ?_)
    refine hQ _ _ (ret2 (by simp [retAV, resAV]; rfl) (by simp; rfl) ?_)
    rw [hr, List.drop_eq_nil_of_le (by omega)]; rfl
theorem at_condition (f : Int) : At Tryd.prog 90 [iV .i64 f] (iV .i64 (condF f)) := by
  refine at_code mixed Tryd.func90 (by kernel_rfl) rfl (by kernel_rfl) (by kernel_rfl) rfl fun Q hQ => ?_
  repeat (first | simp | with_reducible refine And.intro (by omega) ?_ | with_reducible refine optK_if (by omega) ?_ | with_reducible refine optD_if (by omega) ?_ | simp (disch := omega) only [wrap_i64, if_pos, if_neg] | with_reducible refine gsel_pure (by with_unfolding_all rfl) _ (fun hg => by (try simp at hg); simp [hg]; rfl) ?_ | with_reducible refine dsel_pure (by with_unfolding_all rfl) _ (fun hg => by (try simp at hg); simp [hg]; rfl) ?_ | with_reducible refine awp_draw (by kernel_rfl) (by decide +kernel) ?_)
  (with_reducible refine condK_intro (fun h => ?_) (fun h => ?_)) <;> (try simp only [h]) <;> (try simp [andB, orB, eqI, ltI, Int.natCast_inj] at h)
  · repeat (first | simp [h] | with_reducible refine And.intro (by omega) ?_ | with_reducible refine optK_if (by omega) ?_ | with_reducible refine optD_if (by omega) ?_ | simp (disch := omega) only [wrap_i64, if_pos, if_neg] | with_reducible refine gsel_pure (by with_unfolding_all rfl) _ (fun hg => by (try simp at hg); simp [hg, h]; rfl) ?_ | with_reducible refine dsel_pure (by with_unfolding_all rfl) _ (fun hg => by (try simp at hg); simp [hg, h]; rfl) ?_ | with_reducible refine awp_draw (by kernel_rfl) (by decide +kernel) ?_)
    refine hQ _ _ (ret2 (by simp [retAV, resAV]; rfl) (by simp; rfl) ?_)
    simp [h, condF]
  · have h1 := h
    repeat (first | simp [h] | with_reducible refine And.intro (by omega) ?_ | with_reducible refine optK_if (by omega) ?_ | with_reducible refine optD_if (by omega) ?_ | simp (disch := omega) only [wrap_i64, if_pos, if_neg] | with_reducible refine gsel_pure (by with_unfolding_all rfl) _ (fun hg => by (try simp at hg); simp [hg, h]; rfl) ?_ | with_reducible refine dsel_pure (by with_unfolding_all rfl) _ (fun hg => by (try simp at hg); simp [hg, h]; rfl) ?_ | with_reducible refine awp_draw (by kernel_rfl) (by decide +kernel) ?_)
    (with_reducible refine condK_intro (fun h => ?_) (fun h => ?_)) <;> (try simp only [h]) <;> (try simp [andB, orB, eqI, ltI, Int.natCast_inj] at h)
    · repeat (first | simp [h] | with_reducible refine And.intro (by omega) ?_ | with_reducible refine optK_if (by omega) ?_ | with_reducible refine optD_if (by omega) ?_ | simp (disch := omega) only [wrap_i64, if_pos, if_neg] | with_reducible refine gsel_pure (by with_unfolding_all rfl) _ (fun hg => by (try simp at hg); simp [hg, h]; rfl) ?_ | with_reducible refine dsel_pure (by with_unfolding_all rfl) _ (fun hg => by (try simp at hg); simp [hg, h]; rfl) ?_ | with_reducible refine awp_draw (by kernel_rfl) (by decide +kernel) ?_)
      refine hQ _ _ (ret2 (by simp [retAV, resAV]; rfl) (by simp; rfl) ?_)
      simp [h, condF]
    · have h2 := h
      repeat (first | simp [h] | with_reducible refine And.intro (by omega) ?_ | with_reducible refine optK_if (by omega) ?_ | with_reducible refine optD_if (by omega) ?_ | simp (disch := omega) only [wrap_i64, if_pos, if_neg] | with_reducible refine gsel_pure (by with_unfolding_all rfl) _ (fun hg => by (try simp at hg); simp [hg, h]; rfl) ?_ | with_reducible refine dsel_pure (by with_unfolding_all rfl) _ (fun hg => by (try simp at hg); simp [hg, h]; rfl) ?_ | with_reducible refine awp_draw (by kernel_rfl) (by decide +kernel) ?_)
      (with_reducible refine condK_intro (fun h => ?_) (fun h => ?_)) <;> (try simp only [h]) <;> (try simp [andB, orB, eqI, ltI, Int.natCast_inj] at h)
      · repeat (first | simp [h] | with_reducible refine And.intro (by omega) ?_ | with_reducible refine optK_if (by omega) ?_ | with_reducible refine optD_if (by omega) ?_ | simp (disch := omega) only [wrap_i64, if_pos, if_neg] | with_reducible refine gsel_pure (by with_unfolding_all rfl) _ (fun hg => by (try simp at hg); simp [hg, h]; rfl) ?_ | with_reducible refine dsel_pure (by with_unfolding_all rfl) _ (fun hg => by (try simp at hg); simp [hg, h]; rfl) ?_ | with_reducible refine awp_draw (by kernel_rfl) (by decide +kernel) ?_)
        refine hQ _ _ (ret2 (by simp [retAV, resAV]; rfl) (by simp; rfl) ?_)
        simp [h, condF]
      · repeat (first | simp [h] | with_reducible refine And.intro (by omega) ?_ | with_reducible refine optK_if (by omega) ?_ | with_reducible refine optD_if (by omega) ?_ | simp (disch := omega) only [wrap_i64, if_pos, if_neg] | with_reducible refine gsel_pure (by with_unfolding_all rfl) _ (fun hg => by (try simp at hg); simp [hg, h]; rfl) ?_ | with_reducible refine dsel_pure (by with_unfolding_all rfl) _ (fun hg => by (try simp at hg); simp [hg, h]; rfl) ?_ | with_reducible refine awp_draw (by kernel_rfl) (by decide +kernel) ?_)
        refine hQ _ _ (ret2 (by simp [retAV, resAV]; rfl) (by simp; rfl) ?_)
        simp [h, h1, h2, condF]
theorem at_shaped (a b c : I8) (n : Int) : At Tryd.prog 87 [.cell (.p (.bx a.cvs)), .cell (.p (.bx b.cvs)), .cell (.p (.bx c.cvs)), .cell (.p (.bx [iC n]))] (bV (shB a b c n)) := by
  refine at_unbx (by simp; rfl) ?_
  refine at_code mixed Tryd.func87 (by kernel_rfl) rfl (by kernel_rfl) (by kernel_rfl) rfl fun Q hQ => ?_
  repeat (first | simp [I8.cvs] | with_reducible refine And.intro (by omega) ?_ | with_reducible refine optK_if (by omega) ?_ | with_reducible refine optD_if (by omega) ?_ | simp (disch := omega) only [wrap_i64, if_pos, if_neg] | with_reducible refine gsel_pure (by with_unfolding_all rfl) _ (fun hg => by (try simp at hg); simp [hg, I8.cvs]; rfl) ?_ | with_reducible refine dsel_pure (by with_unfolding_all rfl) _ (fun hg => by (try simp at hg); simp [hg, I8.cvs]; rfl) ?_ | with_reducible refine awp_draw (by kernel_rfl) (by decide +kernel) ?_)
  refine hQ _ _ (ret2 (by simp [retAV, resAV]; rfl) (by simp; rfl) ?_)
  simp [shB, andB, eqI]
set_option maxHeartbeats 2000000 in
theorem at_tests (b : I8) (v o : Int) : At Tryd.prog 88 [.cell (.p (.bx b.cvs)), .cell (.p (.bx [iC v])), .cell (.p (.bx [iC o]))] (bV (teB b v o)) := by
  refine at_unbx (by simp; rfl) ?_
  refine at_code mixed Tryd.func88 (by kernel_rfl) rfl (by kernel_rfl) (by kernel_rfl) rfl fun Q hQ => ?_
  cases e1 : eqI b.b v <;> cases e2 : eqI b.c v <;> (
    repeat (first | simp [I8.cvs, e1, e2] | with_reducible refine And.intro (by omega) ?_ | with_reducible refine optK_if (by omega) ?_ | with_reducible refine optD_if (by omega) ?_ | simp (disch := omega) only [wrap_i64, if_pos, if_neg] | with_reducible refine gsel_pure (by with_unfolding_all rfl) _ (fun hg => by (try simp at hg); simp [hg, I8.cvs, e1, e2]; rfl) ?_ | with_reducible refine dsel_pure (by with_unfolding_all rfl) _ (fun hg => by (try simp at hg); simp [hg, I8.cvs, e1, e2]; rfl) ?_ | with_reducible refine awp_draw (by kernel_rfl) (by decide +kernel) ?_)
    refine hQ _ _ (ret2 (by simp [retAV, resAV]; rfl) (by simp; rfl) ?_)
    simp only [eqI] at e1 e2
    simp [teB, andB, orB, eqI, bne, e1, e2])
set_option maxHeartbeats 2000000 in
theorem at_spins (p : Pg) (hf : p.funcs.length ≤ 1000) (hc : ∀ f ∈ p.funcs, f.2.length ≤ 1000) : At Tryd.prog 65 [p.av] (.cell (.own 0 10 (spAll p p.funcs.length).length (spsC (spAll p p.funcs.length)))) := by
  refine at_code mixed Tryd.func65 (by kernel_rfl) rfl (by kernel_rfl) (by kernel_rfl) rfl fun Q hQ => ?_
  repeat (first | simp [Pg.cvs] | with_reducible refine And.intro (by omega) ?_ | with_reducible refine optK_if (by omega) ?_ | with_reducible refine optD_if (by omega) ?_ | simp (disch := omega) only [wrap_i64, if_pos, if_neg] | with_reducible refine gsel_pure (by with_unfolding_all rfl) _ (fun hg => by (try simp at hg); simp [hg, Pg.cvs]; rfl) ?_ | with_reducible refine dsel_pure (by with_unfolding_all rfl) _ (fun hg => by (try simp at hg); simp [hg, Pg.cvs]; rfl) ?_ | with_reducible refine awp_draw (by kernel_rfl) (by decide +kernel) ?_)
  refine awp_loopW (fun (k : Nat) (s : St) => (k ≤ p.funcs.length) ∧ s.env 17 = iV .i64 k ∧ s.env 15 = .cell (.p (.sl p.funcs.length (funcsC p.funcs))) ∧ s.env 16 = iV .i64 p.funcs.length ∧ s.env 3 = .cell (.own 655360000 10 (spAll p k).length (spsC (spAll p k)))) (fun (k : Nat) => p.funcs.length - k) _ (Weak.own 3 655360000 10 (by simp)) (0) ⟨by first | omega | assumption | (simp [spAll, spsC]; done) | (simp [spAll, spsC]; omega), by simp [spAll, spsC], by simp [spAll, spsC], by simp [spAll, spsC], by simp [spAll, spsC]⟩ fun k s hsA LA hLA => ?_
  obtain ⟨hk, h17, h15, h16, h3⟩ := hsA
  repeat (first | simp [h17, h15, h16, h3] | with_reducible refine And.intro (by omega) ?_ | with_reducible refine optK_if (by omega) ?_ | with_reducible refine optD_if (by omega) ?_ | simp (disch := omega) only [wrap_i64, if_pos, if_neg] | with_reducible refine gsel_pure (by with_unfolding_all rfl) _ (fun hg => by (try simp at hg); simp [hg, h17, h15, h16, h3]; rfl) ?_ | with_reducible refine dsel_pure (by with_unfolding_all rfl) _ (fun hg => by (try simp at hg); simp [hg, h17, h15, h16, h3]; rfl) ?_ | with_reducible refine awp_draw (by kernel_rfl) (by decide +kernel) ?_)
  (with_reducible refine condK_intro (fun hlt => ?_) (fun hlt => ?_)) <;> (try simp only [hlt]) <;> (try simp [andB, orB, eqI, ltI, Int.natCast_inj] at hlt)
  · have hcl := hc _ (List.getElem_mem hlt)
    repeat (first | simp [h17, h15, h16, h3, hlt] | with_reducible refine And.intro (by omega) ?_ | with_reducible refine optK_if (by omega) ?_ | with_reducible refine optD_if (by omega) ?_ | simp (disch := omega) only [wrap_i64, if_pos, if_neg] | with_reducible refine gsel_pure (by with_unfolding_all rfl) _ (fun hg => by (try simp at hg); simp [hg, h17, h15, h16, h3, hlt]; rfl) ?_ | with_reducible refine dsel_pure (by with_unfolding_all rfl) _ (fun hg => by (try simp at hg); simp [hg, h17, h15, h16, h3, hlt]; rfl) ?_ | with_reducible refine awp_draw (by kernel_rfl) (by decide +kernel) ?_)
    refine awp_loopV (fun ((m, b) : Nat × Nat) (s : St) => (m ≤ p.funcs[k].2.length - 2) ∧ (b = 327680 ∨ b = 1114112) ∧ s.env 17 = iV .i64 k ∧ s.env 15 = .cell (.p (.sl p.funcs.length (funcsC p.funcs))) ∧ s.env 16 = iV .i64 p.funcs.length ∧ s.env 3 = .cell (.own 655360000 10 (spAll p k ++ spFn k p.funcs[k].2 m).length (spsC (spAll p k ++ spFn k p.funcs[k].2 m))) ∧ s.env 4 = iV .i64 k ∧ s.env 5 = .cell (.ptr 262336 0) ∧ s.box 262336 = some ([.p (sC p.funcs[k].1), .p (.sl p.funcs[k].2.length (codeC p.funcs[k].2))]) ∧ s.env 6 = .cell (.ptr b 0) ∧ s.box b = some ([.p (iC m)])) (fun ((m, b) : Nat × Nat) => p.funcs[k].2.length - m) ((0, 327680)) ⟨by first | omega | assumption | (simp [spFn]; done) | (simp [spFn]; omega), by first | omega | assumption | (simp [spFn]; done) | (simp [spFn]; omega), by simp [h17, h15, h16, h3, hlt, spFn], by simp [h17, h15, h16, h3, hlt, spFn], by simp [h17, h15, h16, h3, hlt, spFn], by simp [h17, h15, h16, h3, hlt, spFn], by simp [h17, h15, h16, h3, hlt, spFn], by simp [h17, h15, h16, h3, hlt, spFn], by simp [h17, h15, h16, h3, hlt, spFn], by simp [h17, h15, h16, h3, hlt, spFn], by simp [h17, h15, h16, h3, hlt, spFn]⟩ fun (m, b) s hsB LB hLB => ?_
    obtain ⟨hm, hb, h17, h15, h16, h3, h4, h5, b262336, h6, bb⟩ := hsB
    have hb0 : b ≠ 262336 ∧ b ≠ 525376 ∧ b ≠ 525440 ∧ b ≠ 525504 ∧ b ≠ 590080 ∧ b ≠ 590144 ∧ b ≠ 0 := by omega
    
    (
      repeat (first | simp [h17, h15, h16, h3, h4, h5, b262336, h6, bb, hlt, hb0] | with_reducible refine And.intro (by omega) ?_ | with_reducible refine optK_if (by omega) ?_ | with_reducible refine optD_if (by omega) ?_ | simp (disch := omega) only [wrap_i64, if_pos, if_neg] | with_reducible refine gsel_pure (by with_unfolding_all rfl) _ (fun hg => by (try simp at hg); simp [hg, h17, h15, h16, h3, h4, h5, b262336, h6, bb, hlt, hb0]; rfl) ?_ | with_reducible refine dsel_pure (by with_unfolding_all rfl) _ (fun hg => by (try simp at hg); simp [hg, h17, h15, h16, h3, h4, h5, b262336, h6, bb, hlt, hb0]; rfl) ?_ | with_reducible refine awp_draw (by kernel_rfl) (by decide +kernel) ?_)
      (with_reducible refine condK_intro (fun hlm => ?_) (fun hlm => ?_)) <;> (try simp only [hlm]) <;> (try simp [andB, orB, eqI, ltI, Int.natCast_inj] at hlm)
      · have hlm1 : m + 1 < p.funcs[k].2.length := by omega
        have hlm0 : m < p.funcs[k].2.length := by omega
        have hlm2 : m + 2 < p.funcs[k].2.length := by omega
        have e1 : ((m : Int) + 1).toNat = m + 1 := by omega
        have e2 : ((m : Int) + 2).toNat = m + 2 := by omega
        
        
        
        
        
        repeat (first | simp [h17, h15, h16, h3, h4, h5, b262336, h6, bb, hlt, hb0, hlm, hlm0, hlm1, hlm2, e1, e2] | with_reducible refine And.intro (by omega) ?_ | with_reducible refine optK_if (by omega) ?_ | with_reducible refine optD_if (by omega) ?_ | simp (disch := omega) only [wrap_i64, if_pos, if_neg] | with_reducible refine gsel_pure (by with_unfolding_all rfl) _ (fun hg => by (try simp at hg); simp [hg, h17, h15, h16, h3, h4, h5, b262336, h6, bb, hlt, hb0, hlm, hlm0, hlm1, hlm2, e1, e2]; rfl) ?_ | with_reducible refine dsel_pure (by with_unfolding_all rfl) _ (fun hg => by (try simp at hg); simp [hg, h17, h15, h16, h3, h4, h5, b262336, h6, bb, hlt, hb0, hlm, hlm0, hlm1, hlm2, e1, e2]; rfl) ?_ | with_reducible refine awp_draw (by kernel_rfl) (by decide +kernel) ?_)
        refine awp_draw3 _ [525376, 525440, 525504] (by simp [alOf_other]; rfl) (by kernel_rfl) (by kernel_rfl) (by simp) ?_
        repeat (first | simp [h17, h15, h16, h3, h4, h5, b262336, h6, bb, hlt, hb0, hlm, hlm0, hlm1, hlm2, e1, e2] | with_reducible refine And.intro (by omega) ?_ | with_reducible refine optK_if (by omega) ?_ | with_reducible refine optD_if (by omega) ?_ | simp (disch := omega) only [wrap_i64, if_pos, if_neg] | with_reducible refine gsel_pure (by with_unfolding_all rfl) _ (fun hg => by (try simp at hg); simp [hg, h17, h15, h16, h3, h4, h5, b262336, h6, bb, hlt, hb0, hlm, hlm0, hlm1, hlm2, e1, e2]; rfl) ?_ | with_reducible refine dsel_pure (by with_unfolding_all rfl) _ (fun hg => by (try simp at hg); simp [hg, h17, h15, h16, h3, h4, h5, b262336, h6, bb, hlt, hb0, hlm, hlm0, hlm1, hlm2, e1, e2]; rfl) ?_ | with_reducible refine awp_draw (by kernel_rfl) (by decide +kernel) ?_)
        generalize hfl : p.funcs[k].2 = fl at *
        generalize hA : fl[m] = A
        generalize hB : fl[m + 1] = B
        generalize hC : fl[m + 2] = C
        refine awp_gen (fun (s : St) => s.env 17 = iV .i64 k ∧ s.env 15 = .cell (.p (.sl p.funcs.length (funcsC p.funcs))) ∧ s.env 16 = iV .i64 p.funcs.length ∧ s.env 3 = .cell (.own 655360000 10 (spAll p k ++ spFn k fl m).length (spsC (spAll p k ++ spFn k fl m))) ∧ s.env 4 = iV .i64 k ∧ s.env 5 = .cell (.ptr 262336 0) ∧ s.box 262336 = some ([.p (sC p.funcs[k].1), .p (.sl fl.length (codeC fl))]) ∧ s.env 6 = .cell (.ptr b 0) ∧ s.box b = some ([.p (iC m)]) ∧ s.env 7 = .cell (.ptr 525376 0) ∧ s.box 525376 = some (A.cvs.map .p) ∧ s.env 8 = .cell (.ptr 525440 0) ∧ s.box 525440 = some (B.cvs.map .p) ∧ s.env 9 = .cell (.ptr 525504 0) ∧ s.box 525504 = some (C.cvs.map .p)) ⟨by simp [h17, h15, h16, h3, h4, h5, b262336, h6, bb, hlt, hb0, hlm, hlm0, hlm1, hlm2, e1, e2, I8.cvs, hA, hB, hC], by simp [h17, h15, h16, h3, h4, h5, b262336, h6, bb, hlt, hb0, hlm, hlm0, hlm1, hlm2, e1, e2, I8.cvs, hA, hB, hC], by simp [h17, h15, h16, h3, h4, h5, b262336, h6, bb, hlt, hb0, hlm, hlm0, hlm1, hlm2, e1, e2, I8.cvs, hA, hB, hC], by simp [h17, h15, h16, h3, h4, h5, b262336, h6, bb, hlt, hb0, hlm, hlm0, hlm1, hlm2, e1, e2, I8.cvs, hA, hB, hC], by simp [h17, h15, h16, h3, h4, h5, b262336, h6, bb, hlt, hb0, hlm, hlm0, hlm1, hlm2, e1, e2, I8.cvs, hA, hB, hC], by simp [h17, h15, h16, h3, h4, h5, b262336, h6, bb, hlt, hb0, hlm, hlm0, hlm1, hlm2, e1, e2, I8.cvs, hA, hB, hC], by simp [h17, h15, h16, h3, h4, h5, b262336, h6, bb, hlt, hb0, hlm, hlm0, hlm1, hlm2, e1, e2, I8.cvs, hA, hB, hC], by simp [h17, h15, h16, h3, h4, h5, b262336, h6, bb, hlt, hb0, hlm, hlm0, hlm1, hlm2, e1, e2, I8.cvs, hA, hB, hC], by simp [h17, h15, h16, h3, h4, h5, b262336, h6, bb, hlt, hb0, hlm, hlm0, hlm1, hlm2, e1, e2, I8.cvs, hA, hB, hC], by simp [h17, h15, h16, h3, h4, h5, b262336, h6, bb, hlt, hb0, hlm, hlm0, hlm1, hlm2, e1, e2, I8.cvs, hA, hB, hC], by simp [h17, h15, h16, h3, h4, h5, b262336, h6, bb, hlt, hb0, hlm, hlm0, hlm1, hlm2, e1, e2, I8.cvs, hA, hB, hC], by simp [h17, h15, h16, h3, h4, h5, b262336, h6, bb, hlt, hb0, hlm, hlm0, hlm1, hlm2, e1, e2, I8.cvs, hA, hB, hC], by simp [h17, h15, h16, h3, h4, h5, b262336, h6, bb, hlt, hb0, hlm, hlm0, hlm1, hlm2, e1, e2, I8.cvs, hA, hB, hC], by simp [h17, h15, h16, h3, h4, h5, b262336, h6, bb, hlt, hb0, hlm, hlm0, hlm1, hlm2, e1, e2, I8.cvs, hA, hB, hC], by simp [h17, h15, h16, h3, h4, h5, b262336, h6, bb, hlt, hb0, hlm, hlm0, hlm1, hlm2, e1, e2, I8.cvs, hA, hB, hC]⟩ fun s hsG => ?_
        obtain ⟨h17, h15, h16, h3, h4, h5, b262336, h6, bb, h7, b525376, h8, b525440, h9, b525504⟩ := hsG
        repeat (first | simp [h17, h15, h16, h3, h4, h5, b262336, h6, bb, h7, b525376, h8, b525440, h9, b525504, hlt, hb0, hlm, hlm0, hlm1, hlm2, e1, e2, I8.cvs] | with_reducible refine And.intro (by omega) ?_ | with_reducible refine optK_if (by omega) ?_ | with_reducible refine optD_if (by omega) ?_ | simp (disch := omega) only [wrap_i64, if_pos, if_neg] | with_reducible refine gsel_pure (by with_unfolding_all rfl) _ (fun hg => by (try simp at hg); simp [hg, h17, h15, h16, h3, h4, h5, b262336, h6, bb, h7, b525376, h8, b525440, h9, b525504, hlt, hb0, hlm, hlm0, hlm1, hlm2, e1, e2, I8.cvs]; rfl) ?_ | with_reducible refine dsel_pure (by with_unfolding_all rfl) _ (fun hg => by (try simp at hg); simp [hg, h17, h15, h16, h3, h4, h5, b262336, h6, bb, h7, b525376, h8, b525440, h9, b525504, hlt, hb0, hlm, hlm0, hlm1, hlm2, e1, e2, I8.cvs]; rfl) ?_ | with_reducible refine awp_draw (by kernel_rfl) (by decide +kernel) ?_)
        refine awp_draw3 _ [590080, 590144] (by simp [alOf_other]; rfl) (by kernel_rfl) (by kernel_rfl) (by simp) ?_
        repeat (first | simp [h17, h15, h16, h3, h4, h5, b262336, h6, bb, h7, b525376, h8, b525440, h9, b525504, hlt, hb0, hlm, hlm0, hlm1, hlm2, e1, e2, I8.cvs] | with_reducible refine And.intro (by omega) ?_ | with_reducible refine optK_if (by omega) ?_ | with_reducible refine optD_if (by omega) ?_ | simp (disch := omega) only [wrap_i64, if_pos, if_neg] | with_reducible refine gsel_pure (by with_unfolding_all rfl) _ (fun hg => by (try simp at hg); simp [hg, h17, h15, h16, h3, h4, h5, b262336, h6, bb, h7, b525376, h8, b525440, h9, b525504, hlt, hb0, hlm, hlm0, hlm1, hlm2, e1, e2, I8.cvs]; rfl) ?_ | with_reducible refine dsel_pure (by with_unfolding_all rfl) _ (fun hg => by (try simp at hg); simp [hg, h17, h15, h16, h3, h4, h5, b262336, h6, bb, h7, b525376, h8, b525440, h9, b525504, hlt, hb0, hlm, hlm0, hlm1, hlm2, e1, e2, I8.cvs]; rfl) ?_ | with_reducible refine awp_draw (by kernel_rfl) (by decide +kernel) ?_)
        (with_reducible refine condK_intro (fun hcv => ?_) (fun hcv => ?_)) <;> (try simp only [hcv]) <;> (try simp [andB, orB, eqI, ltI, Int.natCast_inj] at hcv)
        all_goals (
          refine awp_gen (fun (s : St) => s.env 17 = iV .i64 k ∧ s.env 15 = .cell (.p (.sl p.funcs.length (funcsC p.funcs))) ∧ s.env 16 = iV .i64 p.funcs.length ∧ s.env 3 = .cell (.own 655360000 10 (spAll p k ++ spFn k fl m).length (spsC (spAll p k ++ spFn k fl m))) ∧ s.env 4 = iV .i64 k ∧ s.env 5 = .cell (.ptr 262336 0) ∧ s.box 262336 = some ([.p (sC p.funcs[k].1), .p (.sl fl.length (codeC fl))]) ∧ s.env 6 = .cell (.ptr b 0) ∧ s.box b = some ([.p (iC m)]) ∧ s.env 7 = .cell (.ptr 525376 0) ∧ s.box 525376 = some (A.cvs.map .p) ∧ s.env 8 = .cell (.ptr 525440 0) ∧ s.box 525440 = some (B.cvs.map .p) ∧ s.env 9 = .cell (.ptr 525504 0) ∧ s.box 525504 = some (C.cvs.map .p) ∧ s.env 10 = .cell (.ptr 590080 0) ∧ s.box 590080 = some ([.p (iC A.a)]) ∧ s.env 11 = .cell (.ptr 590144 0) ∧ s.box 590144 = some ([.p (iC B.c)])) ⟨by simp [h17, h15, h16, h3, h4, h5, b262336, h6, bb, h7, b525376, h8, b525440, h9, b525504, hlt, hb0, hlm, hlm0, hlm1, hlm2, e1, e2, hcv, I8.cvs], by simp [h17, h15, h16, h3, h4, h5, b262336, h6, bb, h7, b525376, h8, b525440, h9, b525504, hlt, hb0, hlm, hlm0, hlm1, hlm2, e1, e2, hcv, I8.cvs], by simp [h17, h15, h16, h3, h4, h5, b262336, h6, bb, h7, b525376, h8, b525440, h9, b525504, hlt, hb0, hlm, hlm0, hlm1, hlm2, e1, e2, hcv, I8.cvs], by simp [h17, h15, h16, h3, h4, h5, b262336, h6, bb, h7, b525376, h8, b525440, h9, b525504, hlt, hb0, hlm, hlm0, hlm1, hlm2, e1, e2, hcv, I8.cvs], by simp [h17, h15, h16, h3, h4, h5, b262336, h6, bb, h7, b525376, h8, b525440, h9, b525504, hlt, hb0, hlm, hlm0, hlm1, hlm2, e1, e2, hcv, I8.cvs], by simp [h17, h15, h16, h3, h4, h5, b262336, h6, bb, h7, b525376, h8, b525440, h9, b525504, hlt, hb0, hlm, hlm0, hlm1, hlm2, e1, e2, hcv, I8.cvs], by simp [h17, h15, h16, h3, h4, h5, b262336, h6, bb, h7, b525376, h8, b525440, h9, b525504, hlt, hb0, hlm, hlm0, hlm1, hlm2, e1, e2, hcv, I8.cvs], by simp [h17, h15, h16, h3, h4, h5, b262336, h6, bb, h7, b525376, h8, b525440, h9, b525504, hlt, hb0, hlm, hlm0, hlm1, hlm2, e1, e2, hcv, I8.cvs], by simp [h17, h15, h16, h3, h4, h5, b262336, h6, bb, h7, b525376, h8, b525440, h9, b525504, hlt, hb0, hlm, hlm0, hlm1, hlm2, e1, e2, hcv, I8.cvs], by simp [h17, h15, h16, h3, h4, h5, b262336, h6, bb, h7, b525376, h8, b525440, h9, b525504, hlt, hb0, hlm, hlm0, hlm1, hlm2, e1, e2, hcv, I8.cvs], by simp [h17, h15, h16, h3, h4, h5, b262336, h6, bb, h7, b525376, h8, b525440, h9, b525504, hlt, hb0, hlm, hlm0, hlm1, hlm2, e1, e2, hcv, I8.cvs], by simp [h17, h15, h16, h3, h4, h5, b262336, h6, bb, h7, b525376, h8, b525440, h9, b525504, hlt, hb0, hlm, hlm0, hlm1, hlm2, e1, e2, hcv, I8.cvs], by simp [h17, h15, h16, h3, h4, h5, b262336, h6, bb, h7, b525376, h8, b525440, h9, b525504, hlt, hb0, hlm, hlm0, hlm1, hlm2, e1, e2, hcv, I8.cvs], by simp [h17, h15, h16, h3, h4, h5, b262336, h6, bb, h7, b525376, h8, b525440, h9, b525504, hlt, hb0, hlm, hlm0, hlm1, hlm2, e1, e2, hcv, I8.cvs], by simp [h17, h15, h16, h3, h4, h5, b262336, h6, bb, h7, b525376, h8, b525440, h9, b525504, hlt, hb0, hlm, hlm0, hlm1, hlm2, e1, e2, hcv, I8.cvs], by simp [h17, h15, h16, h3, h4, h5, b262336, h6, bb, h7, b525376, h8, b525440, h9, b525504, hlt, hb0, hlm, hlm0, hlm1, hlm2, e1, e2, hcv, I8.cvs], by simp [h17, h15, h16, h3, h4, h5, b262336, h6, bb, h7, b525376, h8, b525440, h9, b525504, hlt, hb0, hlm, hlm0, hlm1, hlm2, e1, e2, hcv, I8.cvs], by simp [h17, h15, h16, h3, h4, h5, b262336, h6, bb, h7, b525376, h8, b525440, h9, b525504, hlt, hb0, hlm, hlm0, hlm1, hlm2, e1, e2, hcv, I8.cvs], by simp [h17, h15, h16, h3, h4, h5, b262336, h6, bb, h7, b525376, h8, b525440, h9, b525504, hlt, hb0, hlm, hlm0, hlm1, hlm2, e1, e2, hcv, I8.cvs]⟩ fun s hsG => ?_
          obtain ⟨h17, h15, h16, h3, h4, h5, b262336, h6, bb, h7, b525376, h8, b525440, h9, b525504, h10, b590080, h11, b590144⟩ := hsG
          repeat (first | simp [h17, h15, h16, h3, h4, h5, b262336, h6, bb, h7, b525376, h8, b525440, h9, b525504, h10, b590080, h11, b590144, hlt, hb0, hlm, hlm0, hlm1, hlm2, e1, e2, hcv, I8.cvs] | with_reducible refine And.intro (by omega) ?_ | with_reducible refine optK_if (by omega) ?_ | with_reducible refine optD_if (by omega) ?_ | simp (disch := omega) only [wrap_i64, if_pos, if_neg] | with_reducible refine gsel_pure (by with_unfolding_all rfl) _ (fun hg => by (try simp at hg); simp [hg, h17, h15, h16, h3, h4, h5, b262336, h6, bb, h7, b525376, h8, b525440, h9, b525504, h10, b590080, h11, b590144, hlt, hb0, hlm, hlm0, hlm1, hlm2, e1, e2, hcv, I8.cvs]; rfl) ?_ | with_reducible refine dsel_pure (by with_unfolding_all rfl) _ (fun hg => by (try simp at hg); simp [hg, h17, h15, h16, h3, h4, h5, b262336, h6, bb, h7, b525376, h8, b525440, h9, b525504, h10, b590080, h11, b590144, hlt, hb0, hlm, hlm0, hlm1, hlm2, e1, e2, hcv, I8.cvs]; rfl) ?_ | with_reducible refine awp_draw (by kernel_rfl) (by decide +kernel) ?_)
          refine ⟨_, (by have hX := at_shaped A B C m; simp [h17, h15, h16, h3, h4, h5, b262336, h6, bb, h7, b525376, h8, b525440, h9, b525504, h10, b590080, h11, b590144, hlt, hb0, hlm, hlm0, hlm1, hlm2, e1, e2, hcv, I8.cvs] at hX; exact hX), by simp, by simp, ?_⟩
          repeat (first | simp [h17, h15, h16, h3, h4, h5, b262336, h6, bb, h7, b525376, h8, b525440, h9, b525504, h10, b590080, h11, b590144, hlt, hb0, hlm, hlm0, hlm1, hlm2, e1, e2, hcv] | with_reducible refine And.intro (by omega) ?_ | with_reducible refine optK_if (by omega) ?_ | with_reducible refine optD_if (by omega) ?_ | simp (disch := omega) only [wrap_i64, if_pos, if_neg] | with_reducible refine gsel_pure (by with_unfolding_all rfl) _ (fun hg => by (try simp at hg); simp [hg, h17, h15, h16, h3, h4, h5, b262336, h6, bb, h7, b525376, h8, b525440, h9, b525504, h10, b590080, h11, b590144, hlt, hb0, hlm, hlm0, hlm1, hlm2, e1, e2, hcv]; rfl) ?_ | with_reducible refine dsel_pure (by with_unfolding_all rfl) _ (fun hg => by (try simp at hg); simp [hg, h17, h15, h16, h3, h4, h5, b262336, h6, bb, h7, b525376, h8, b525440, h9, b525504, h10, b590080, h11, b590144, hlt, hb0, hlm, hlm0, hlm1, hlm2, e1, e2, hcv]; rfl) ?_ | with_reducible refine awp_draw (by kernel_rfl) (by decide +kernel) ?_)
          refine gsel_callT (fun hg => by (try simp at hg); (first | simp [hg, h17, h15, h16, h3, h4, h5, b262336, h6, bb, h7, b525376, h8, b525440, h9, b525504, h10, b590080, h11, b590144, hlt, hb0, hlm, hlm0, hlm1, hlm2, e1, e2, hcv, I8.cvs, otherI] | simp (disch := omega) [hg, h17, h15, h16, h3, h4, h5, b262336, h6, bb, h7, b525376, h8, b525440, h9, b525504, h10, b590080, h11, b590144, hlt, hb0, hlm, hlm0, hlm1, hlm2, e1, e2, hcv, I8.cvs, otherI, wrap_i64]); rfl) (fun hg => by (try simp at hg); (first | simp [hg, h17, h15, h16, h3, h4, h5, b262336, h6, bb, h7, b525376, h8, b525440, h9, b525504, h10, b590080, h11, b590144, hlt, hb0, hlm, hlm0, hlm1, hlm2, e1, e2, hcv, I8.cvs, otherI] | simp (disch := omega) [hg, h17, h15, h16, h3, h4, h5, b262336, h6, bb, h7, b525376, h8, b525440, h9, b525504, h10, b590080, h11, b590144, hlt, hb0, hlm, hlm0, hlm1, hlm2, e1, e2, hcv, I8.cvs, otherI, wrap_i64]); rfl) (at_tests B A.a (otherI A B)) (fun hg => by (try simp at hg); (first | simp [hg, h17, h15, h16, h3, h4, h5, b262336, h6, bb, h7, b525376, h8, b525440, h9, b525504, h10, b590080, h11, b590144, hlt, hb0, hlm, hlm0, hlm1, hlm2, e1, e2, hcv, I8.cvs, otherI] | simp (disch := omega) [hg, h17, h15, h16, h3, h4, h5, b262336, h6, bb, h7, b525376, h8, b525440, h9, b525504, h10, b590080, h11, b590144, hlt, hb0, hlm, hlm0, hlm1, hlm2, e1, e2, hcv, I8.cvs, otherI, wrap_i64]); try rfl) (by simp) (by simp) ?_
          repeat (first | simp [h17, h15, h16, h3, h4, h5, b262336, h6, bb, h7, b525376, h8, b525440, h9, b525504, h10, b590080, h11, b590144, hlt, hb0, hlm, hlm0, hlm1, hlm2, e1, e2, hcv] | with_reducible refine And.intro (by omega) ?_ | with_reducible refine optK_if (by omega) ?_ | with_reducible refine optD_if (by omega) ?_ | simp (disch := omega) only [wrap_i64, if_pos, if_neg] | with_reducible refine gsel_pure (by with_unfolding_all rfl) _ (fun hg => by (try simp at hg); simp [hg, h17, h15, h16, h3, h4, h5, b262336, h6, bb, h7, b525376, h8, b525440, h9, b525504, h10, b590080, h11, b590144, hlt, hb0, hlm, hlm0, hlm1, hlm2, e1, e2, hcv]; rfl) ?_ | with_reducible refine dsel_pure (by with_unfolding_all rfl) _ (fun hg => by (try simp at hg); simp [hg, h17, h15, h16, h3, h4, h5, b262336, h6, bb, h7, b525376, h8, b525440, h9, b525504, h10, b590080, h11, b590144, hlt, hb0, hlm, hlm0, hlm1, hlm2, e1, e2, hcv]; rfl) ?_ | with_reducible refine awp_draw (by kernel_rfl) (by decide +kernel) ?_)
          refine gsel_call (fun hg => at_targeted p.funcs[k].1 fl (m + 1) (by omega)) (fun hg => by (try simp at hg); (first | simp [hg, h17, h15, h16, h3, h4, h5, b262336, h6, bb, h7, b525376, h8, b525440, h9, b525504, h10, b590080, h11, b590144, hlt, hb0, hlm, hlm0, hlm1, hlm2, e1, e2, hcv] | simp (disch := omega) [hg, h17, h15, h16, h3, h4, h5, b262336, h6, bb, h7, b525376, h8, b525440, h9, b525504, h10, b590080, h11, b590144, hlt, hb0, hlm, hlm0, hlm1, hlm2, e1, e2, hcv, wrap_i64]); try rfl) (by simp) (by simp) ?_
          repeat (first | simp [h17, h15, h16, h3, h4, h5, b262336, h6, bb, h7, b525376, h8, b525440, h9, b525504, h10, b590080, h11, b590144, hlt, hb0, hlm, hlm0, hlm1, hlm2, e1, e2, hcv] | with_reducible refine And.intro (by omega) ?_ | with_reducible refine optK_if (by omega) ?_ | with_reducible refine optD_if (by omega) ?_ | simp (disch := omega) only [wrap_i64, if_pos, if_neg] | with_reducible refine gsel_pure (by with_unfolding_all rfl) _ (fun hg => by (try simp at hg); simp [hg, h17, h15, h16, h3, h4, h5, b262336, h6, bb, h7, b525376, h8, b525440, h9, b525504, h10, b590080, h11, b590144, hlt, hb0, hlm, hlm0, hlm1, hlm2, e1, e2, hcv]; rfl) ?_ | with_reducible refine dsel_pure (by with_unfolding_all rfl) _ (fun hg => by (try simp at hg); simp [hg, h17, h15, h16, h3, h4, h5, b262336, h6, bb, h7, b525376, h8, b525440, h9, b525504, h10, b590080, h11, b590144, hlt, hb0, hlm, hlm0, hlm1, hlm2, e1, e2, hcv]; rfl) ?_ | with_reducible refine awp_draw (by kernel_rfl) (by decide +kernel) ?_)
          refine gsel_call (fun hg => at_targeted p.funcs[k].1 fl (m + 2) (by omega)) (fun hg => by (try simp at hg); (first | simp [hg, h17, h15, h16, h3, h4, h5, b262336, h6, bb, h7, b525376, h8, b525440, h9, b525504, h10, b590080, h11, b590144, hlt, hb0, hlm, hlm0, hlm1, hlm2, e1, e2, hcv] | simp (disch := omega) [hg, h17, h15, h16, h3, h4, h5, b262336, h6, bb, h7, b525376, h8, b525440, h9, b525504, h10, b590080, h11, b590144, hlt, hb0, hlm, hlm0, hlm1, hlm2, e1, e2, hcv, wrap_i64]); try rfl) (by simp) (by simp) ?_
          repeat (first | simp [h17, h15, h16, h3, h4, h5, b262336, h6, bb, h7, b525376, h8, b525440, h9, b525504, h10, b590080, h11, b590144, hlt, hb0, hlm, hlm0, hlm1, hlm2, e1, e2, hcv] | with_reducible refine And.intro (by omega) ?_ | with_reducible refine optK_if (by omega) ?_ | with_reducible refine optD_if (by omega) ?_ | simp (disch := omega) only [wrap_i64, if_pos, if_neg] | with_reducible refine gsel_pure (by with_unfolding_all rfl) _ (fun hg => by (try simp at hg); simp [hg, h17, h15, h16, h3, h4, h5, b262336, h6, bb, h7, b525376, h8, b525440, h9, b525504, h10, b590080, h11, b590144, hlt, hb0, hlm, hlm0, hlm1, hlm2, e1, e2, hcv]; rfl) ?_ | with_reducible refine dsel_pure (by with_unfolding_all rfl) _ (fun hg => by (try simp at hg); simp [hg, h17, h15, h16, h3, h4, h5, b262336, h6, bb, h7, b525376, h8, b525440, h9, b525504, h10, b590080, h11, b590144, hlt, hb0, hlm, hlm0, hlm1, hlm2, e1, e2, hcv]; rfl) ?_ | with_reducible refine awp_draw (by kernel_rfl) (by decide +kernel) ?_)
          have key : orB (orB (orB (!shB A B C m) !teB B A.a (otherI A B)) (tgtB fl (m + 1))) (tgtB fl (m + 2)) = !spinAt fl m := by
            unfold spinAt
            rw [List.getElem?_eq_getElem hlm0, List.getElem?_eq_getElem hlm1, List.getElem?_eq_getElem hlm2]
            simp [orB, hA, hB, hC, Bool.or_assoc]
          rw [key]
          (with_reducible refine condK_intro (fun hsp => ?_) (fun hsp => ?_)) <;> (try simp only [hsp]) <;> (try simp [andB, orB, eqI, ltI, Int.natCast_inj] at hsp)
          · have hsp' := spFn_skip k hsp
            repeat (first | simp [h17, h15, h16, h3, h4, h5, b262336, h6, bb, h7, b525376, h8, b525440, h9, b525504, h10, b590080, h11, b590144, hlt, hb0, hlm, hlm0, hlm1, hlm2, e1, e2, hcv, hsp, hsp'] | with_reducible refine And.intro (by omega) ?_ | with_reducible refine optK_if (by omega) ?_ | with_reducible refine optD_if (by omega) ?_ | simp (disch := omega) only [wrap_i64, if_pos, if_neg] | with_reducible refine gsel_pure (by with_unfolding_all rfl) _ (fun hg => by (try simp at hg); simp [hg, h17, h15, h16, h3, h4, h5, b262336, h6, bb, h7, b525376, h8, b525440, h9, b525504, h10, b590080, h11, b590144, hlt, hb0, hlm, hlm0, hlm1, hlm2, e1, e2, hcv, hsp, hsp']; rfl) ?_ | with_reducible refine dsel_pure (by with_unfolding_all rfl) _ (fun hg => by (try simp at hg); simp [hg, h17, h15, h16, h3, h4, h5, b262336, h6, bb, h7, b525376, h8, b525440, h9, b525504, h10, b590080, h11, b590144, hlt, hb0, hlm, hlm0, hlm1, hlm2, e1, e2, hcv, hsp, hsp']; rfl) ?_)
            refine hLB ((m + 1, 1114112)) _ ⟨by first | omega | assumption | (simp [hsp', I8.cvs]; done) | (simp [hsp', I8.cvs]; omega), by first | omega | assumption | (simp [hsp', I8.cvs]; done) | (simp [hsp', I8.cvs]; omega), by simp [h17, h15, h16, h3, h4, h5, b262336, h6, bb, h7, b525376, h8, b525440, h9, b525504, h10, b590080, h11, b590144, hlt, hb0, hlm, hlm0, hlm1, hlm2, e1, e2, hcv, hsp, hsp', I8.cvs], by simp [h17, h15, h16, h3, h4, h5, b262336, h6, bb, h7, b525376, h8, b525440, h9, b525504, h10, b590080, h11, b590144, hlt, hb0, hlm, hlm0, hlm1, hlm2, e1, e2, hcv, hsp, hsp', I8.cvs], by simp [h17, h15, h16, h3, h4, h5, b262336, h6, bb, h7, b525376, h8, b525440, h9, b525504, h10, b590080, h11, b590144, hlt, hb0, hlm, hlm0, hlm1, hlm2, e1, e2, hcv, hsp, hsp', I8.cvs], by simp [h17, h15, h16, h3, h4, h5, b262336, h6, bb, h7, b525376, h8, b525440, h9, b525504, h10, b590080, h11, b590144, hlt, hb0, hlm, hlm0, hlm1, hlm2, e1, e2, hcv, hsp, hsp', I8.cvs], by simp [h17, h15, h16, h3, h4, h5, b262336, h6, bb, h7, b525376, h8, b525440, h9, b525504, h10, b590080, h11, b590144, hlt, hb0, hlm, hlm0, hlm1, hlm2, e1, e2, hcv, hsp, hsp', I8.cvs], by simp [h17, h15, h16, h3, h4, h5, b262336, h6, bb, h7, b525376, h8, b525440, h9, b525504, h10, b590080, h11, b590144, hlt, hb0, hlm, hlm0, hlm1, hlm2, e1, e2, hcv, hsp, hsp', I8.cvs], by simp [h17, h15, h16, h3, h4, h5, b262336, h6, bb, h7, b525376, h8, b525440, h9, b525504, h10, b590080, h11, b590144, hlt, hb0, hlm, hlm0, hlm1, hlm2, e1, e2, hcv, hsp, hsp', I8.cvs], by simp [h17, h15, h16, h3, h4, h5, b262336, h6, bb, h7, b525376, h8, b525440, h9, b525504, h10, b590080, h11, b590144, hlt, hb0, hlm, hlm0, hlm1, hlm2, e1, e2, hcv, hsp, hsp', I8.cvs], by simp [h17, h15, h16, h3, h4, h5, b262336, h6, bb, h7, b525376, h8, b525440, h9, b525504, h10, b590080, h11, b590144, hlt, hb0, hlm, hlm0, hlm1, hlm2, e1, e2, hcv, hsp, hsp', I8.cvs]⟩ (by first | omega | (simp; omega))
          · have hsp' := spFn_take k hsp
            repeat (first | simp [h17, h15, h16, h3, h4, h5, b262336, h6, bb, h7, b525376, h8, b525440, h9, b525504, h10, b590080, h11, b590144, hlt, hb0, hlm, hlm0, hlm1, hlm2, e1, e2, hcv, hsp] | with_reducible refine And.intro (by omega) ?_ | with_reducible refine optK_if (by omega) ?_ | with_reducible refine optD_if (by omega) ?_ | simp (disch := omega) only [wrap_i64, if_pos, if_neg] | with_reducible refine gsel_pure (by with_unfolding_all rfl) _ (fun hg => by (try simp at hg); simp [hg, h17, h15, h16, h3, h4, h5, b262336, h6, bb, h7, b525376, h8, b525440, h9, b525504, h10, b590080, h11, b590144, hlt, hb0, hlm, hlm0, hlm1, hlm2, e1, e2, hcv, hsp]; rfl) ?_ | with_reducible refine dsel_pure (by with_unfolding_all rfl) _ (fun hg => by (try simp at hg); simp [hg, h17, h15, h16, h3, h4, h5, b262336, h6, bb, h7, b525376, h8, b525440, h9, b525504, h10, b590080, h11, b590144, hlt, hb0, hlm, hlm0, hlm1, hlm2, e1, e2, hcv, hsp]; rfl) ?_)
            refine awp_gen (fun (s : St) => s.env 17 = iV .i64 k ∧ s.env 15 = .cell (.p (.sl p.funcs.length (funcsC p.funcs))) ∧ s.env 16 = iV .i64 p.funcs.length ∧ s.env 3 = .cell (.own 655360000 10 (spAll p k ++ spFn k fl m).length (spsC (spAll p k ++ spFn k fl m))) ∧ s.env 4 = iV .i64 k ∧ s.env 5 = .cell (.ptr 262336 0) ∧ s.box 262336 = some ([.p (sC p.funcs[k].1), .p (.sl fl.length (codeC fl))]) ∧ s.env 6 = .cell (.ptr b 0) ∧ s.box b = some ([.p (iC m)]) ∧ s.env 7 = .cell (.ptr 525376 0) ∧ s.box 525376 = some (A.cvs.map .p) ∧ s.env 8 = .cell (.ptr 525440 0) ∧ s.box 525440 = some (B.cvs.map .p) ∧ s.env 9 = .cell (.ptr 525504 0) ∧ s.box 525504 = some (C.cvs.map .p) ∧ s.env 10 = .cell (.ptr 590080 0) ∧ s.box 590080 = some ([.p (iC A.a)]) ∧ s.env 11 = .cell (.ptr 590144 0) ∧ s.box 590144 = some ([.p (iC (otherI A B))])) ⟨by simp [h17, h15, h16, h3, h4, h5, b262336, h6, bb, h7, b525376, h8, b525440, h9, b525504, h10, b590080, h11, b590144, hlt, hb0, hlm, hlm0, hlm1, hlm2, e1, e2, hcv, hsp, I8.cvs, otherI], by simp [h17, h15, h16, h3, h4, h5, b262336, h6, bb, h7, b525376, h8, b525440, h9, b525504, h10, b590080, h11, b590144, hlt, hb0, hlm, hlm0, hlm1, hlm2, e1, e2, hcv, hsp, I8.cvs, otherI], by simp [h17, h15, h16, h3, h4, h5, b262336, h6, bb, h7, b525376, h8, b525440, h9, b525504, h10, b590080, h11, b590144, hlt, hb0, hlm, hlm0, hlm1, hlm2, e1, e2, hcv, hsp, I8.cvs, otherI], by simp [h17, h15, h16, h3, h4, h5, b262336, h6, bb, h7, b525376, h8, b525440, h9, b525504, h10, b590080, h11, b590144, hlt, hb0, hlm, hlm0, hlm1, hlm2, e1, e2, hcv, hsp, I8.cvs, otherI], by simp [h17, h15, h16, h3, h4, h5, b262336, h6, bb, h7, b525376, h8, b525440, h9, b525504, h10, b590080, h11, b590144, hlt, hb0, hlm, hlm0, hlm1, hlm2, e1, e2, hcv, hsp, I8.cvs, otherI], by simp [h17, h15, h16, h3, h4, h5, b262336, h6, bb, h7, b525376, h8, b525440, h9, b525504, h10, b590080, h11, b590144, hlt, hb0, hlm, hlm0, hlm1, hlm2, e1, e2, hcv, hsp, I8.cvs, otherI], by simp [h17, h15, h16, h3, h4, h5, b262336, h6, bb, h7, b525376, h8, b525440, h9, b525504, h10, b590080, h11, b590144, hlt, hb0, hlm, hlm0, hlm1, hlm2, e1, e2, hcv, hsp, I8.cvs, otherI], by simp [h17, h15, h16, h3, h4, h5, b262336, h6, bb, h7, b525376, h8, b525440, h9, b525504, h10, b590080, h11, b590144, hlt, hb0, hlm, hlm0, hlm1, hlm2, e1, e2, hcv, hsp, I8.cvs, otherI], by simp [h17, h15, h16, h3, h4, h5, b262336, h6, bb, h7, b525376, h8, b525440, h9, b525504, h10, b590080, h11, b590144, hlt, hb0, hlm, hlm0, hlm1, hlm2, e1, e2, hcv, hsp, I8.cvs, otherI], by simp [h17, h15, h16, h3, h4, h5, b262336, h6, bb, h7, b525376, h8, b525440, h9, b525504, h10, b590080, h11, b590144, hlt, hb0, hlm, hlm0, hlm1, hlm2, e1, e2, hcv, hsp, I8.cvs, otherI], by simp [h17, h15, h16, h3, h4, h5, b262336, h6, bb, h7, b525376, h8, b525440, h9, b525504, h10, b590080, h11, b590144, hlt, hb0, hlm, hlm0, hlm1, hlm2, e1, e2, hcv, hsp, I8.cvs, otherI], by simp [h17, h15, h16, h3, h4, h5, b262336, h6, bb, h7, b525376, h8, b525440, h9, b525504, h10, b590080, h11, b590144, hlt, hb0, hlm, hlm0, hlm1, hlm2, e1, e2, hcv, hsp, I8.cvs, otherI], by simp [h17, h15, h16, h3, h4, h5, b262336, h6, bb, h7, b525376, h8, b525440, h9, b525504, h10, b590080, h11, b590144, hlt, hb0, hlm, hlm0, hlm1, hlm2, e1, e2, hcv, hsp, I8.cvs, otherI], by simp [h17, h15, h16, h3, h4, h5, b262336, h6, bb, h7, b525376, h8, b525440, h9, b525504, h10, b590080, h11, b590144, hlt, hb0, hlm, hlm0, hlm1, hlm2, e1, e2, hcv, hsp, I8.cvs, otherI], by simp [h17, h15, h16, h3, h4, h5, b262336, h6, bb, h7, b525376, h8, b525440, h9, b525504, h10, b590080, h11, b590144, hlt, hb0, hlm, hlm0, hlm1, hlm2, e1, e2, hcv, hsp, I8.cvs, otherI], by simp [h17, h15, h16, h3, h4, h5, b262336, h6, bb, h7, b525376, h8, b525440, h9, b525504, h10, b590080, h11, b590144, hlt, hb0, hlm, hlm0, hlm1, hlm2, e1, e2, hcv, hsp, I8.cvs, otherI], by simp [h17, h15, h16, h3, h4, h5, b262336, h6, bb, h7, b525376, h8, b525440, h9, b525504, h10, b590080, h11, b590144, hlt, hb0, hlm, hlm0, hlm1, hlm2, e1, e2, hcv, hsp, I8.cvs, otherI], by simp [h17, h15, h16, h3, h4, h5, b262336, h6, bb, h7, b525376, h8, b525440, h9, b525504, h10, b590080, h11, b590144, hlt, hb0, hlm, hlm0, hlm1, hlm2, e1, e2, hcv, hsp, I8.cvs, otherI], by simp [h17, h15, h16, h3, h4, h5, b262336, h6, bb, h7, b525376, h8, b525440, h9, b525504, h10, b590080, h11, b590144, hlt, hb0, hlm, hlm0, hlm1, hlm2, e1, e2, hcv, hsp, I8.cvs, otherI]⟩ fun s hsG => ?_
            obtain ⟨h17, h15, h16, h3, h4, h5, b262336, h6, bb, h7, b525376, h8, b525440, h9, b525504, h10, b590080, h11, b590144⟩ := hsG
            refine awp_drawS 16 rfl rfl (by kernel_rfl) (by decide +kernel) ?_
            repeat (first | simp [h17, h15, h16, h3, h4, h5, b262336, h6, bb, h7, b525376, h8, b525440, h9, b525504, h10, b590080, h11, b590144, hlt, hb0, hlm, hlm0, hlm1, hlm2, e1, e2, hcv, hsp, I8.cvs] | with_reducible refine And.intro (by omega) ?_ | with_reducible refine optK_if (by omega) ?_ | with_reducible refine optD_if (by omega) ?_ | simp (disch := omega) only [wrap_i64, if_pos, if_neg] | with_reducible refine gsel_pure (by with_unfolding_all rfl) _ (fun hg => by (try simp at hg); simp [hg, h17, h15, h16, h3, h4, h5, b262336, h6, bb, h7, b525376, h8, b525440, h9, b525504, h10, b590080, h11, b590144, hlt, hb0, hlm, hlm0, hlm1, hlm2, e1, e2, hcv, hsp, I8.cvs]; rfl) ?_ | with_reducible refine dsel_pure (by with_unfolding_all rfl) _ (fun hg => by (try simp at hg); simp [hg, h17, h15, h16, h3, h4, h5, b262336, h6, bb, h7, b525376, h8, b525440, h9, b525504, h10, b590080, h11, b590144, hlt, hb0, hlm, hlm0, hlm1, hlm2, e1, e2, hcv, hsp, I8.cvs]; rfl) ?_)
            refine dq_at (at_condition B.fn) (by (first | simp [h17, h15, h16, h3, h4, h5, b262336, h6, bb, h7, b525376, h8, b525440, h9, b525504, h10, b590080, h11, b590144, hlt, hb0, hlm, hlm0, hlm1, hlm2, e1, e2, hcv, hsp, I8.cvs] | simp (disch := omega) [h17, h15, h16, h3, h4, h5, b262336, h6, bb, h7, b525376, h8, b525440, h9, b525504, h10, b590080, h11, b590144, hlt, hb0, hlm, hlm0, hlm1, hlm2, e1, e2, hcv, hsp, I8.cvs, wrap_i64]); try rfl) (by simp) (by simp) ?_
            repeat (first | simp [h17, h15, h16, h3, h4, h5, b262336, h6, bb, h7, b525376, h8, b525440, h9, b525504, h10, b590080, h11, b590144, hlt, hb0, hlm, hlm0, hlm1, hlm2, e1, e2, hcv, hsp, I8.cvs] | with_reducible refine And.intro (by omega) ?_ | with_reducible refine optK_if (by omega) ?_ | with_reducible refine optD_if (by omega) ?_ | simp (disch := omega) only [wrap_i64, if_pos, if_neg] | with_reducible refine gsel_pure (by with_unfolding_all rfl) _ (fun hg => by (try simp at hg); simp [hg, h17, h15, h16, h3, h4, h5, b262336, h6, bb, h7, b525376, h8, b525440, h9, b525504, h10, b590080, h11, b590144, hlt, hb0, hlm, hlm0, hlm1, hlm2, e1, e2, hcv, hsp, I8.cvs]; rfl) ?_ | with_reducible refine dsel_pure (by with_unfolding_all rfl) _ (fun hg => by (try simp at hg); simp [hg, h17, h15, h16, h3, h4, h5, b262336, h6, bb, h7, b525376, h8, b525440, h9, b525504, h10, b590080, h11, b590144, hlt, hb0, hlm, hlm0, hlm1, hlm2, e1, e2, hcv, hsp, I8.cvs]; rfl) ?_)
            have hl1 := spAll_len hc k
            have hl2 := spFn_len k fl m
            have hrep : repI fl m = awI A B := by unfold repI; rw [List.getD_eq_getElem?_getD, List.getElem?_eq_getElem hlm0, List.getD_eq_getElem?_getD, List.getElem?_eq_getElem hlm1]; simp [hA, hB]
            refine ⟨by omega, ?_⟩
            refine hLB ((m + 1, 1114112)) _ ⟨by first | omega | assumption | (simp [hsp', I8.cvs, spsC_append, spsC, spC, hrep, awI, Nat.add_assoc]; done) | (simp [hsp', I8.cvs, spsC_append, spsC, spC, hrep, awI, Nat.add_assoc]; omega), by first | omega | assumption | (simp [hsp', I8.cvs, spsC_append, spsC, spC, hrep, awI, Nat.add_assoc]; done) | (simp [hsp', I8.cvs, spsC_append, spsC, spC, hrep, awI, Nat.add_assoc]; omega), by simp [h17, h15, h16, h3, h4, h5, b262336, h6, bb, h7, b525376, h8, b525440, h9, b525504, h10, b590080, h11, b590144, hlt, hb0, hlm, hlm0, hlm1, hlm2, e1, e2, hcv, hsp, hsp', I8.cvs, spsC_append, spsC, spC, hrep, awI, Nat.add_assoc], by simp [h17, h15, h16, h3, h4, h5, b262336, h6, bb, h7, b525376, h8, b525440, h9, b525504, h10, b590080, h11, b590144, hlt, hb0, hlm, hlm0, hlm1, hlm2, e1, e2, hcv, hsp, hsp', I8.cvs, spsC_append, spsC, spC, hrep, awI, Nat.add_assoc], by simp [h17, h15, h16, h3, h4, h5, b262336, h6, bb, h7, b525376, h8, b525440, h9, b525504, h10, b590080, h11, b590144, hlt, hb0, hlm, hlm0, hlm1, hlm2, e1, e2, hcv, hsp, hsp', I8.cvs, spsC_append, spsC, spC, hrep, awI, Nat.add_assoc], by simp [h17, h15, h16, h3, h4, h5, b262336, h6, bb, h7, b525376, h8, b525440, h9, b525504, h10, b590080, h11, b590144, hlt, hb0, hlm, hlm0, hlm1, hlm2, e1, e2, hcv, hsp, hsp', I8.cvs, spsC_append, spsC, spC, hrep, awI, Nat.add_assoc], by simp [h17, h15, h16, h3, h4, h5, b262336, h6, bb, h7, b525376, h8, b525440, h9, b525504, h10, b590080, h11, b590144, hlt, hb0, hlm, hlm0, hlm1, hlm2, e1, e2, hcv, hsp, hsp', I8.cvs, spsC_append, spsC, spC, hrep, awI, Nat.add_assoc], by simp [h17, h15, h16, h3, h4, h5, b262336, h6, bb, h7, b525376, h8, b525440, h9, b525504, h10, b590080, h11, b590144, hlt, hb0, hlm, hlm0, hlm1, hlm2, e1, e2, hcv, hsp, hsp', I8.cvs, spsC_append, spsC, spC, hrep, awI, Nat.add_assoc], by simp [h17, h15, h16, h3, h4, h5, b262336, h6, bb, h7, b525376, h8, b525440, h9, b525504, h10, b590080, h11, b590144, hlt, hb0, hlm, hlm0, hlm1, hlm2, e1, e2, hcv, hsp, hsp', I8.cvs, spsC_append, spsC, spC, hrep, awI, Nat.add_assoc], by simp [h17, h15, h16, h3, h4, h5, b262336, h6, bb, h7, b525376, h8, b525440, h9, b525504, h10, b590080, h11, b590144, hlt, hb0, hlm, hlm0, hlm1, hlm2, e1, e2, hcv, hsp, hsp', I8.cvs, spsC_append, spsC, spC, hrep, awI, Nat.add_assoc], by simp [h17, h15, h16, h3, h4, h5, b262336, h6, bb, h7, b525376, h8, b525440, h9, b525504, h10, b590080, h11, b590144, hlt, hb0, hlm, hlm0, hlm1, hlm2, e1, e2, hcv, hsp, hsp', I8.cvs, spsC_append, spsC, spC, hrep, awI, Nat.add_assoc]⟩ (by first | omega | (simp; omega)))
      · repeat (first | simp [h17, h15, h16, h3, h4, h5, b262336, h6, bb, hlt, hb0, hlm] | with_reducible refine And.intro (by omega) ?_ | with_reducible refine optK_if (by omega) ?_ | with_reducible refine optD_if (by omega) ?_ | simp (disch := omega) only [wrap_i64, if_pos, if_neg] | with_reducible refine gsel_pure (by with_unfolding_all rfl) _ (fun hg => by (try simp at hg); simp [hg, h17, h15, h16, h3, h4, h5, b262336, h6, bb, hlt, hb0, hlm]; rfl) ?_ | with_reducible refine dsel_pure (by with_unfolding_all rfl) _ (fun hg => by (try simp at hg); simp [hg, h17, h15, h16, h3, h4, h5, b262336, h6, bb, hlt, hb0, hlm]; rfl) ?_ | with_reducible refine awp_draw (by kernel_rfl) (by decide +kernel) ?_)
        have he : spAll p (k + 1) = spAll p k ++ spFn k p.funcs[k].2 m := spAll_succ hlt (by omega)
        refine hLA (k + 1) _ ⟨by first | omega | assumption | (simp [he]; done) | (simp [he]; omega), by simp [h17, h15, h16, h3, h4, h5, b262336, h6, bb, hlt, hb0, hlm, he], by simp [h17, h15, h16, h3, h4, h5, b262336, h6, bb, hlt, hb0, hlm, he], by simp [h17, h15, h16, h3, h4, h5, b262336, h6, bb, hlt, hb0, hlm, he], by simp [h17, h15, h16, h3, h4, h5, b262336, h6, bb, hlt, hb0, hlm, he]⟩ (by first | omega | (simp; omega)))
  · have : k = p.funcs.length := by omega
    subst this
    repeat (first | simp [h17, h15, h16, h3, hlt] | with_reducible refine And.intro (by omega) ?_ | with_reducible refine optK_if (by omega) ?_ | with_reducible refine optD_if (by omega) ?_ | simp (disch := omega) only [wrap_i64, if_pos, if_neg] | with_reducible refine gsel_pure (by with_unfolding_all rfl) _ (fun hg => by (try simp at hg); simp [hg, h17, h15, h16, h3, hlt]; rfl) ?_ | with_reducible refine dsel_pure (by with_unfolding_all rfl) _ (fun hg => by (try simp at hg); simp [hg, h17, h15, h16, h3, hlt]; rfl) ?_ | with_reducible refine awp_draw (by kernel_rfl) (by decide +kernel) ?_)
    refine hQ _ _ (ret2 (by simp [retAV, resAV, spsC]; rfl) (by simp [spsC]; rfl) ?_)
    simp [spsC]
end Go.Proofs
end
section
set_option linter.all false
namespace Go.Dr
open Go.Fw

def intsC (l : List Int) : List CV := l.map iC
@[simp] theorem intsC_length (l : List Int) : (intsC l).length = l.length := by simp [intsC]
@[simp] theorem intsC_get (l : List Int) {i : Nat} (h : i < (intsC l).length) : (intsC l)[i] = iC (l[i]'(by simpa using h)) := by simp [intsC]
@[simp] theorem intsC_get? (l : List Int) {i : Nat} (h : i < l.length) : (intsC l)[i]? = some (iC l[i]) := by simp [intsC, h]
theorem intsC_append (a b : List Int) : intsC (a ++ b) = intsC a ++ intsC b := by simp [intsC]
theorem intsC_take (a : List Int) (n : Nat) : (intsC a).take n = intsC (a.take n) := by simp [intsC]
theorem intsC_drop (a : List Int) (n : Nat) : (intsC a).drop n = intsC (a.drop n) := by simp [intsC]
@[simp] theorem intsC_nil : intsC [] = [] := rfl
@[simp] theorem intsC_cons (a : Int) (l : List Int) : intsC (a :: l) = iC a :: intsC l := rfl
@[simp] theorem intsC_isC (l : List Int) : (intsC l).all CV.isC = true := by simp [intsC]
abbrev intsA (l : List Int) : AV := .cell (.p (.sl l.length (intsC l)))
def natI (l : List Nat) : List Int := l.map Int.ofNat
@[simp] theorem natI_length (l : List Nat) : (natI l).length = l.length := by simp [natI]
@[simp] theorem natI_nil : natI [] = [] := rfl
@[simp] theorem natI_cons (a : Nat) (l : List Nat) : natI (a :: l) = (a : Int) :: natI l := rfl
theorem natI_append (a b : List Nat) : natI (a ++ b) = natI a ++ natI b := by simp [natI]

/-- A function without errors. -/
structure OkL (l : List I8) : Prop where
  len : l.length ≤ 64
  tgt : ∀ i, (h : i < l.length) → l[i].op = 4 ∨ l[i].op = 5 → 0 ≤ l[i].n ∧ l[i].n ≤ l.length
theorem codeE_ok {n : Nat} : ∀ {l : List I8}, codeE n l = 0 → ∀ i, (h : i < l.length) → badT n l[i] = false
  | [], _, i, h => by simp at h
  | x :: r, hc, i, h => by
    rw [codeE] at hc
    split at hc
    · rename_i h1; exact (h1 hc).elim
    · split at hc
      · cases hc
      · rename_i h2
        cases i with
        | zero => simpa using h2
        | succ i => simpa using codeE_ok hc i (by simpa using h)
theorem okL {l : List I8} (h : funcE l = 0) : OkL l := by
  unfold funcE at h
  split at h
  · cases h
  · refine ⟨by omega, fun i hi ho => ?_⟩
    have := codeE_ok h i hi
    simp only [badT] at this
    simp at this
    exact ⟨by have := this ho; omega, by have := this ho; omega⟩

/-- The successors of an instruction, in increasing order. -/
def sucs (l : List I8) (k : Nat) : List Nat := match l[k]? with
  | none => []
  | some i => if i.op = 4 then [i.n.toNat] else if i.op = 5 then (if i.n.toNat = k + 1 then [k + 1] else if i.n.toNat < k + 1 then [i.n.toNat, k + 1] else [k + 1, i.n.toNat]) else if i.op = 7 then [l.length] else [k + 1]
theorem sucs_le {l : List I8} (ok : OkL l) {k x : Nat} (h : x ∈ sucs l k) : x ≤ l.length := by
  unfold sucs at h
  split at h
  · simp at h
  · rename_i i hi
    have hk : k < l.length := (List.getElem?_eq_some_iff.1 hi).1
    have he : l[k] = i := by rw [List.getElem?_eq_getElem hk] at hi; exact Option.some.inj hi
    have ht := ok.tgt k hk
    rw [he] at ht
    split at h
    · rename_i h4; have := ht (.inl h4); simp at h; omega
    · split at h
      · rename_i h5; have := ht (.inr h5)
        split at h
        · simp at h; omega
        · split at h <;> simp at h <;> omega
      · split at h
        · simp at h; omega
        · simp at h; omega
theorem sucs_len (l : List I8) (k : Nat) : (sucs l k).length ≤ 2 := by
  unfold sucs
  split
  · simp
  · split
    · simp
    · split
      · split
        · simp
        · split <;> simp
      · split <;> simp
def evs (l : List Int) : List (List EV) := l.map fun x => [.cell (iC x)]
@[simp] theorem evs_nil : evs [] = [] := rfl
@[simp] theorem evs_cons (a : Int) (l : List Int) : evs (a :: l) = [.cell (iC a)] :: evs l := rfl
@[simp] theorem evs_length (l : List Int) : (evs l).length = l.length := by simp [evs]
theorem intsC_takeS {l : List Int} {k : Nat} (h : k < l.length) : intsC (l.take (k + 1)) = intsC (l.take k) ++ [iC l[k]] := by rw [List.take_succ_eq_append_getElem h, intsC_append]; rfl
theorem natI_takeS {l : List Nat} {k : Nat} (h : k < l.length) : natI (l.take (k + 1)) = natI (l.take k) ++ [(l[k] : Int)] := by rw [List.take_succ_eq_append_getElem h, natI_append]; rfl
theorem evs_get {l : List Int} {k : Nat} {x : List EV} (h : (evs l)[k]? = some x) : ∃ hk : k < l.length, x = [.cell (iC l[k])] := by
  unfold evs at h
  rw [List.getElem?_map] at h
  rcases Nat.lt_or_ge k l.length with hk | hk
  · rw [List.getElem?_eq_getElem hk] at h
    exact ⟨hk, by simpa using h.symm⟩
  · rw [List.getElem?_eq_none hk] at h; cases h

/-! Sets, as maps to true. -/
def cstM (s : List Int) : List MV := s.map fun _ => .v (bC true)
def cstC (s : List Int) : List CV := s.map fun _ => bC true
def addK (s : List Int) (x : Int) : List Int := if x ∈ s then s else s ++ [x]
theorem mfind_out : ∀ {s : List Int} {x : Int}, x ∉ s → mfind s x = none
  | [], x, _ => rfl
  | k :: s, x, h => by
    simp only [List.mem_cons, not_or] at h
    rw [mfind, if_neg (fun e => h.1 e.symm), mfind_out h.2]; rfl
theorem mfind_in : ∀ {s : List Int} {x : Int}, x ∈ s → ∃ i, mfind s x = some i ∧ i < s.length
  | k :: s, x, h => by
    rw [mfind]
    by_cases hk : k = x
    · rw [if_pos hk]; exact ⟨0, rfl, by simp⟩
    · rw [if_neg hk]
      rcases List.mem_cons.1 h with e | h
      · exact (hk e.symm).elim
      · obtain ⟨i, h1, h2⟩ := mfind_in h
        exact ⟨i + 1, by rw [h1]; rfl, by simpa using h2⟩
theorem mget_in {α : Type} {s : List Int} {x : Int} (c : α) (h : x ∈ s) : mget s (s.map fun _ => c) x = some c := by
  obtain ⟨i, h1, h2⟩ := mfind_in h
  unfold mget; rw [h1]; simp [h2]
theorem mget_out {α : Type} {s : List Int} {x : Int} (vs : List α) (h : x ∉ s) : mget s vs x = none := by unfold mget; rw [mfind_out h]; rfl
theorem mgetM_in {s : List Int} {x : Int} (h : x ∈ s) : mget s (cstM s) x = some (.v (bC true)) := mget_in _ h
theorem mgetC_in {s : List Int} {x : Int} (h : x ∈ s) : mget s (cstC s) x = some (bC true) := mget_in _ h
@[simp] theorem mputK_eq (s : List Int) (x : Int) : mputK s x = addK s x := by
  unfold mputK addK
  by_cases h : x ∈ s
  · obtain ⟨i, h1, _⟩ := mfind_in h
    rw [h1, if_pos h]; rfl
  · rw [mfind_out h, if_neg h]; rfl
theorem mputV_cst {α : Type} (s : List Int) (x : Int) (c : α) : mputV s (s.map fun _ => c) x c = (addK s x).map fun _ => c := by
  unfold mputV addK
  by_cases h : x ∈ s
  · obtain ⟨i, h1, h2⟩ := mfind_in h
    rw [h1, if_pos h]
    apply List.ext_getElem
    · simp
    · intro j h1 h2
      rw [List.getElem_set]
      split <;> simp
  · rw [mfind_out h, if_neg h]; simp
@[simp] theorem mputV_eq (s : List Int) (x : Int) : mputV s (cstM s) x (.v (bC true)) = cstM (addK s x) := mputV_cst s x _
@[simp] theorem cstM_poison (s : List Int) (F : Nat → Bool) : (cstM s).map (·.poison F) = cstM s := by simp [cstM]
@[simp] theorem cstM_retire (s : List Int) (F : Nat → Bool) : (cstM s).map (·.retire F) = cstM s := by simp [cstM]
@[simp] theorem cstM_pure (s : List Int) : (cstM s).map MV.pure = cstM s := by simp [cstM]
@[simp] theorem cstM_upd (s : List Int) (f : Nat) (ks : List Int) (vs : List MV) : (cstM s).map (·.updM f ks vs) = cstM s := by simp [cstM]
@[simp] theorem cstM_labs (s : List Int) : (cstM s).flatMap MV.labs = [] := by simp [cstM, List.flatMap_map]
@[simp] theorem mvCVs_cst (s : List Int) : mvCVs (cstM s) = some (cstC s) := by
  unfold cstM cstC
  have := mvCVs_v (s.map fun _ => bC true)
  rw [List.map_map] at this
  exact this
@[simp] theorem relab_set (f : Nat) (s : List Int) : (AC.mown f s (cstM s)).relab [] = .p (.mp s (cstC s)) := by
  simp [AC.relab]
@[simp] theorem cstM_nil : cstM [] = [] := rfl
theorem mem_natI {s : List Nat} {x : Nat} : (x : Int) ∈ natI s ↔ x ∈ s := by
  unfold natI
  rw [List.mem_map]
  constructor
  · rintro ⟨y, hy, e⟩
    have : y = x := by have h : (y : Int) = x := e; omega
    exact this ▸ hy
  · exact fun h => ⟨x, h, rfl⟩
def addN (s : List Nat) (x : Nat) : List Nat := if x ∈ s then s else s ++ [x]
theorem addK_natI (s : List Nat) (x : Nat) : addK (natI s) x = natI (addN s x) := by
  unfold addK addN
  by_cases h : x ∈ s
  · rw [if_pos h, if_pos (mem_natI.2 h)]
  · rw [if_neg h, if_neg (fun e => h (mem_natI.1 e)), natI_append]; rfl

/-! Lists without repetitions. -/
theorem nodup_len : ∀ {n : Nat} {l : List Nat}, l.Nodup → (∀ x ∈ l, x < n) → l.length ≤ n
  | 0, l, _, h => by
    cases l with
    | nil => simp
    | cons x l => exact absurd (h x (by simp)) (by omega)
  | n + 1, l, hn, h => by
    by_cases hm : n ∈ l
    · have h1 : (l.erase n).length ≤ n := nodup_len (hn.erase n) fun x hx => by
        have h2 := h x (List.mem_of_mem_erase hx)
        have h3 : x ≠ n := fun e => by rw [e] at hx; exact (List.Nodup.mem_erase_iff hn).1 hx |>.1 rfl
        omega
      rw [List.length_erase_of_mem hm] at h1
      omega
    · have := nodup_len hn fun x hx => by
        have h2 := h x hx
        have h3 : x ≠ n := fun e => hm (e ▸ hx)
        show x < n
        omega
      omega

/-! What is visited. -/
def pushV (n : Nat) (w : Int) (st : List Nat × List Nat) (k : Nat) : List Nat × List Nat := if k < n ∧ (k : Int) ≠ w ∧ k ∉ st.1 then (st.1 ++ [k], st.2 ++ [k]) else st
def pushL (l : List I8) (w : Int) (seen todo : List Nat) (i m : Nat) : List Nat × List Nat := ((sucs l i).take m).foldl (pushV l.length w) (seen, todo)
def visitF (l : List I8) (w : Int) : Nat → List Nat → List Nat → List Nat
  | 0, seen, _ => seen
  | f + 1, seen, todo => match todo.getLast? with
    | none => seen
    | some i => visitF l w f (pushL l w seen todo.dropLast i (sucs l i).length).1 (pushL l w seen todo.dropLast i (sucs l i).length).2
def visitL (l : List I8) (w : Int) : List Nat := if l.length = 0 ∨ w = 0 then [] else visitF l w (2 * l.length + 2) [0] [0]
structure VOk (n : Nat) (st : List Nat × List Nat) : Prop where
  nodup : st.1.Nodup
  seen : ∀ x ∈ st.1, x < n
  todo : ∀ x ∈ st.2, x < n
  len : st.2.length ≤ st.1.length
def vms (n : Nat) (st : List Nat × List Nat) : Nat := 2 * (n - st.1.length) + st.2.length
theorem push_ok {n : Nat} {w : Int} {st : List Nat × List Nat} {k : Nat} (h : VOk n st) : VOk n (pushV n w st k) ∧ vms n (pushV n w st k) ≤ vms n st := by
  unfold pushV
  split
  · rename_i hc
    have h' : VOk n (st.1 ++ [k], st.2 ++ [k]) := by
      refine ⟨?_, fun x hx => ?_, fun x hx => ?_, by have := h.len; simp; omega⟩
      · simp only
        rw [List.nodup_append]
        exact ⟨h.nodup, by simp, fun a ha b hb => by simp at hb; subst hb; rintro rfl; exact hc.2.2 ha⟩
      · simp at hx; rcases hx with hx | rfl; exact h.seen x hx; exact hc.1
      · simp at hx; rcases hx with hx | rfl; exact h.todo x hx; exact hc.1
    refine ⟨h', ?_⟩
    have := nodup_len h'.nodup h'.seen
    simp at this
    unfold vms
    simp
    omega
  · exact ⟨h, Nat.le_refl _⟩
theorem pushL_succ {l : List I8} {w : Int} {seen todo : List Nat} {i m : Nat} (h : m < (sucs l i).length) : pushL l w seen todo i (m + 1) = pushV l.length w (pushL l w seen todo i m) (sucs l i)[m] := by
  unfold pushL
  rw [List.take_succ_eq_append_getElem h, List.foldl_append]; rfl
theorem pushL_ok {l : List I8} (w : Int) {seen todo : List Nat} (i : Nat) (h : VOk l.length (seen, todo)) : ∀ m, m ≤ (sucs l i).length → VOk l.length (pushL l w seen todo i m) ∧ vms l.length (pushL l w seen todo i m) ≤ vms l.length (seen, todo)
  | 0, _ => ⟨h, Nat.le_refl _⟩
  | m + 1, hm => by
    obtain ⟨h1, h2⟩ := pushL_ok w i h m (by omega)
    rw [pushL_succ hm]
    have h3 := push_ok (w := w) (k := (sucs l i)[m]) h1
    exact ⟨h3.1, Nat.le_trans h3.2 h2⟩
/-- The elements of a set below n, in increasing order. -/
def sortL (ks : List Int) (n : Nat) : List Nat := (List.range n).filter fun (i : Nat) => decide ((i : Int) ∈ ks)
theorem sortL_in {ks : List Int} {n : Nat} (h : (n : Int) ∈ ks) : sortL ks (n + 1) = sortL ks n ++ [n] := by simp [sortL, List.range_succ, List.filter_append, h]
theorem sortL_out {ks : List Int} {n : Nat} (h : (n : Int) ∉ ks) : sortL ks (n + 1) = sortL ks n := by simp [sortL, List.range_succ, List.filter_append, h]
theorem sortL_len (ks : List Int) (n : Nat) : (sortL ks n).length ≤ n := by
  unfold sortL
  exact Nat.le_trans (List.length_filter_le _ _) (by simp)
/-- The leaders found among the first k instructions, as they are met. -/
def leadK (l : List I8) : Nat → List Int
  | 0 => [0]
  | k + 1 => match l[k]? with
    | none => leadK l k
    | some i => if i.op = 4 ∨ i.op = 5 then addK (addK (leadK l k) i.n) (k + 1) else if i.op = 7 then addK (leadK l k) (k + 1) else leadK l k
theorem leadK_succ {l : List I8} {k : Nat} (h : k < l.length) : leadK l (k + 1) = if l[k].op = 4 ∨ l[k].op = 5 then addK (addK (leadK l k) l[k].n) (k + 1) else if l[k].op = 7 then addK (leadK l k) (k + 1) else leadK l k := by
  rw [leadK, List.getElem?_eq_getElem h]
/-! What an instruction dominates. -/
def domK (l : List I8) (d m : Nat) : List Nat := (List.range m).filter fun i => decide (i ∈ visitL l (-1)) && !decide (i ∈ visitL l d)
def domD (l : List I8) (k : Nat) : List Nat := (List.range k).filter fun d => decide (d ∈ visitL l (-1))
def domC (l : List I8) (d : Nat) : CV := .mp (natI (domK l d l.length)) (cstC (natI (domK l d l.length)))
def domV (l : List I8) (k : Nat) : List CV := (domD l k).map (domC l)
theorem domK_in {l : List I8} {d m : Nat} (h1 : m ∈ visitL l (-1)) (h2 : m ∉ visitL l d) : domK l d (m + 1) = domK l d m ++ [m] := by simp [domK, List.range_succ, List.filter_append, h1, h2]
theorem domK_out {l : List I8} {d m : Nat} (h : ¬ (m ∈ visitL l (-1) ∧ m ∉ visitL l d)) : domK l d (m + 1) = domK l d m := by
  simp [domK, List.range_succ, List.filter_append]
  intro h1
  exact Classical.byContradiction fun h2 => h ⟨h1, h2⟩
theorem domK_lt {l : List I8} {d m x : Nat} (h : x ∈ domK l d m) : x < m := by simp [domK] at h; exact h.1
theorem domD_in {l : List I8} {k : Nat} (h : k ∈ visitL l (-1)) : domD l (k + 1) = domD l k ++ [k] := by simp [domD, List.range_succ, List.filter_append, h]
theorem domD_out {l : List I8} {k : Nat} (h : k ∉ visitL l (-1)) : domD l (k + 1) = domD l k := by simp [domD, List.range_succ, List.filter_append, h]
theorem domD_lt {l : List I8} {k x : Nat} (h : x ∈ domD l k) : x < k := by simp [domD] at h; exact h.1
theorem domK_addK {l : List I8} {d m : Nat} (h1 : m ∈ visitL l (-1)) (h2 : m ∉ visitL l d) : addK (natI (domK l d m)) m = natI (domK l d (m + 1)) := by
  rw [addK_natI, addN, if_neg (fun e => Nat.lt_irrefl _ (domK_lt e)), domK_in h1 h2]
theorem domD_out' {l : List I8} {k : Nat} : (k : Int) ∉ natI (domD l k) := fun e => Nat.lt_irrefl _ (domD_lt (mem_natI.1 e))
theorem addK_new {s : List Int} {x : Int} (h : x ∉ s) : addK s x = s ++ [x] := by unfold addK; rw [if_neg h]
theorem mputV_new {α : Type} {s : List Int} {x : Int} (vs : List α) (c : α) (h : x ∉ s) : mputV s vs x c = vs ++ [c] := by unfold mputV; rw [mfind_out h]
theorem mfind_app {s : List Int} {x : Int} (h : x ∉ s) : mfind (s ++ [x]) x = some s.length := by
  induction s with
  | nil => simp [mfind]
  | cons k s ih =>
    simp only [List.mem_cons, not_or] at h
    rw [List.cons_append, mfind, if_neg (fun e => h.1 e.symm), ih h.2]; rfl
theorem mget_app {α : Type} {s : List Int} {x : Int} {vs : List α} {c : α} (h : x ∉ s) (hl : vs.length = s.length) : mget (s ++ [x]) (vs ++ [c]) x = some c := by
  unfold mget
  rw [mfind_app h]
  simp [← hl]
theorem cstC_map (s : List Int) : (cstC s).map MV.v = cstM s := by simp [cstC, cstM]
theorem mv_pure_of {F : Nat → Bool} {x : MV} {c : CV} (h : x.retire F = .v c) : x.pure = .v c := by
  cases x with
  | v x => exact h
  | inner f ks vs =>
    simp only [MV.retire] at h
    split at h
    · exact h
    · cases h
  | bad => cases h
theorem mvs_pure_of {F : Nat → Bool} : ∀ {vs : List MV} {cs : List CV}, vs.map (·.retire F) = cs.map .v → vs.map MV.pure = cs.map .v
  | [], [], _ => rfl
  | [], c :: cs, h => by simp at h
  | x :: vs, [], h => by simp at h
  | x :: vs, c :: cs, h => by
    simp only [List.map_cons, List.cons.injEq] at h ⊢
    exact ⟨mv_pure_of h.1, mvs_pure_of h.2⟩
theorem relab_mown {f : Nat} {ks : List Int} {vs : List MV} {cs : List CV} (h : vs.map MV.pure = cs.map .v) : (AC.mown f ks vs).relab [] = .p (.mp ks cs) := by
  simp [AC.relab, h]
/-- Values of a map, pure but for maps of one family. -/
def LastIn (f : Nat) (vs : List MV) (cs : List CV) : Prop := ∀ G : MV → MV, (∀ c, G (.v c) = .v c) → (∀ ks vs, G (.inner f ks vs) = .v (.mp ks vs)) → vs.map G = cs.map .v
theorem LastIn.nil (f : Nat) : LastIn f [] [] := fun _ _ _ => rfl
theorem LastIn.snoc (f : Nat) (cs : List CV) (ks : List Int) (xs : List CV) : LastIn f (cs.map .v ++ [.inner f ks xs]) (cs ++ [.mp ks xs]) := by
  intro G h1 h2
  simp [h2]
  intro a _
  exact h1 a
theorem intsC_set (l : List Int) (i : Nat) (x : Int) : (intsC l).set i (iC x) = intsC (l.set i x) := by simp [intsC, List.map_set]
theorem repC_ints : ∀ n : Nat, repC n [iC 0] = intsC (List.replicate n 0)
  | 0 => rfl
  | n + 1 => by rw [repC, repC_ints n]; rfl
/-- Whether d dominates i. -/
def domB (l : List I8) (d i : Int) : Bool := decide (0 ≤ d ∧ d.toNat ∈ domD l l.length) && decide (0 ≤ i ∧ i.toNat ∈ domK l d.toNat l.length)
def domStep (dom : Int → Int → Bool) (i : Int) (b d : Int) : Int := if d ≠ i ∧ dom d i = true ∧ (b < 0 ∨ dom b d = true) then d else b
def idomF (dom : Int → Int → Bool) (i : Int) : Nat → Int
  | 0 => -1
  | m + 1 => domStep dom i (idomF dom i m) m
def idomL (dom : Int → Int → Bool) (n k : Nat) : List Int := (List.range k).map (fun (i : Nat) => idomF dom i n) ++ List.replicate (n - k) 0
theorem idomL_length {dom : Int → Int → Bool} {n k : Nat} (h : k ≤ n) : (idomL dom n k).length = n := by simp [idomL]; omega
theorem idomL_succ {dom : Int → Int → Bool} {n k : Nat} (h : k < n) : (idomL dom n k).set k (idomF dom k n) = idomL dom n (k + 1) := by
  unfold idomL
  have : List.replicate (n - k) (0 : Int) = 0 :: List.replicate (n - (k + 1)) 0 := by rw [← List.replicate_succ]; congr 1; omega
  rw [this, List.range_succ, List.map_append]
  rw [List.set_append_right _ _ (by simp)]
  simp
theorem idomF_lt {dom : Int → Int → Bool} {i : Int} : ∀ m, -1 ≤ idomF dom i m ∧ idomF dom i m < m
  | 0 => by simp [idomF]
  | m + 1 => by
    have := idomF_lt (dom := dom) (i := i) m
    rw [idomF]; unfold domStep
    split <;> omega
theorem mget_map {α : Type} (f : Nat → α) : ∀ {s : List Nat} {d : Nat}, d ∈ s → mget (natI s) (s.map f) d = some (f d)
  | k :: s, d, h => by
    unfold mget
    rw [natI_cons, mfind]
    by_cases hk : (k : Int) = d
    · have : k = d := by omega
      rw [if_pos hk, this]; rfl
    · rw [if_neg hk]
      have hd : d ∈ s := by
        rcases List.mem_cons.1 h with e | h
        · exact (hk (by rw [e])).elim
        · exact h
      have ih := mget_map f hd
      unfold mget at ih
      cases hm : mfind (natI s) d with
      | none => rw [hm] at ih; cases ih
      | some j => rw [hm] at ih; simpa using ih
theorem domB_nat (l : List I8) (d i : Nat) : domB l d i = (decide (d ∈ domD l l.length) && decide (i ∈ domK l d l.length)) := by simp [domB]

/-! The body of a loop. -/
def hitK (l : List I8) (h : Nat) (S : List Nat) (i k : Nat) : Bool := ((sucs l i).take k).any fun x => decide (x ≠ h) && decide (x ∈ S)
def growK (l : List I8) (h : Nat) (S : List Nat) (i k : Nat) : List Nat := if hitK l h S i k then S ++ [i] else S
def growI (l : List I8) (h : Nat) (S : List Nat) (i : Nat) : List Nat := if i ∈ visitL l (-1) ∧ i ∉ S then growK l h S i (sucs l i).length else S
def growP (l : List I8) (h : Nat) (S : List Nat) : Nat → List Nat
  | 0 => S
  | m + 1 => growI l h (growP l h S m) m
def bodyG (l : List I8) (h : Nat) : Nat → Bool → List Nat → List Nat
  | 0, _, S => S
  | F + 1, g, S => if g then bodyG l h F (decide ((growP l h S l.length).length ≠ S.length)) (growP l h S l.length) else S
def endsS (h : Nat) (ends : List Nat) (k : Nat) : List Nat := (ends.take k).foldl addN [h]
def bodyL (l : List I8) (h : Nat) (ends : List Nat) : List Nat := bodyG l h (2 * l.length + 2) true (endsS h ends ends.length)
structure SOk (n : Nat) (S : List Nat) : Prop where
  nodup : S.Nodup
  lt : ∀ x ∈ S, x < n
theorem SOk.add {n : Nat} {S : List Nat} (h : SOk n S) {i : Nat} (hi : i < n) (hn : i ∉ S) : SOk n (S ++ [i]) := by
  refine ⟨?_, fun x hx => ?_⟩
  · rw [List.nodup_append]
    exact ⟨h.nodup, by simp, fun a ha b hb => by simp at hb; subst hb; rintro rfl; exact hn ha⟩
  · simp at hx; rcases hx with hx | rfl; exact h.lt x hx; exact hi
theorem SOk.addN {n : Nat} {S : List Nat} (h : SOk n S) {i : Nat} (hi : i < n) : SOk n (addN S i) := by
  unfold Dr.addN
  split
  · exact h
  · rename_i hn; exact h.add hi hn
theorem endsS_succ {h : Nat} {ends : List Nat} {k : Nat} (hk : k < ends.length) : endsS h ends (k + 1) = addN (endsS h ends k) ends[k] := by
  unfold endsS
  rw [List.take_succ_eq_append_getElem hk, List.foldl_append]; rfl
theorem endsS_ok {n h : Nat} {ends : List Nat} (hh : h < n) (he : ∀ x ∈ ends, x < n) : ∀ k, k ≤ ends.length → SOk n (endsS h ends k)
  | 0, _ => ⟨by simp [endsS], by simp [endsS]; exact hh⟩
  | k + 1, hk => by
    rw [endsS_succ hk]
    exact (endsS_ok hh he k (by omega)).addN (he _ (List.getElem_mem _))
theorem growI_ok {l : List I8} {h : Nat} {S : List Nat} {i : Nat} (ho : SOk l.length S) (hi : i < l.length) : SOk l.length (growI l h S i) ∧ S.length ≤ (growI l h S i).length := by
  unfold growI growK
  split
  · rename_i hc
    split
    · exact ⟨ho.add hi hc.2, by simp⟩
    · exact ⟨ho, Nat.le_refl _⟩
  · exact ⟨ho, Nat.le_refl _⟩
theorem growP_ok {l : List I8} {h : Nat} {S : List Nat} (ho : SOk l.length S) : ∀ m, m ≤ l.length → SOk l.length (growP l h S m) ∧ S.length ≤ (growP l h S m).length
  | 0, _ => ⟨ho, Nat.le_refl _⟩
  | m + 1, hm => by
    obtain ⟨h1, h2⟩ := growP_ok ho m (by omega)
    obtain ⟨h3, h4⟩ := growI_ok (h := h) h1 (show m < l.length by omega)
    exact ⟨h3, Nat.le_trans h2 h4⟩
theorem hitK_succ {l : List I8} {h : Nat} {S : List Nat} {i k : Nat} (hk : k < (sucs l i).length) : hitK l h S i (k + 1) = (hitK l h S i k || (decide ((sucs l i)[k] ≠ h) && decide ((sucs l i)[k] ∈ S))) := by
  unfold hitK
  rw [List.take_succ_eq_append_getElem hk, List.any_append]; simp

/-! Loops. -/
theorem sucs_nodup (l : List I8) (k : Nat) : (sucs l k).Nodup := by
  unfold sucs
  split
  · simp
  · split
    · simp
    · split
      · split
        · simp
        · split
          · simp; omega
          · simp; omega
      · split <;> simp
def endsL (l : List I8) (dom : Int → Int → Bool) (h m : Nat) : List Nat := (List.range m).filter fun i => decide (h ∈ sucs l i) && dom h i
def endsK (l : List I8) (dom : Int → Int → Bool) (h i k : Nat) : List Nat := endsL l dom h i ++ if h ∈ (sucs l i).take k ∧ dom h i = true then [i] else []
theorem endsL_len (l : List I8) (dom : Int → Int → Bool) (h m : Nat) : (endsL l dom h m).length ≤ m := by
  unfold endsL
  exact Nat.le_trans (List.length_filter_le _ _) (by simp)
theorem endsL_lt {l : List I8} {dom : Int → Int → Bool} {h m x : Nat} (hx : x ∈ endsL l dom h m) : x < m := by simp [endsL] at hx; exact hx.1
theorem endsK_end (l : List I8) (dom : Int → Int → Bool) (h i : Nat) : endsK l dom h i (sucs l i).length = endsL l dom h (i + 1) := by
  unfold endsK endsL
  rw [List.range_succ, List.filter_append, List.take_of_length_le (Nat.le_refl _)]
  congr 1
  by_cases h1 : h ∈ sucs l i <;> by_cases h2 : dom h i = true <;> simp [h1, h2]
theorem endsK_hit {l : List I8} {dom : Int → Int → Bool} {h i k : Nat} (hk : k < (sucs l i).length) (he : (sucs l i)[k] = h) (hd : dom h i = true) : endsK l dom h i k = endsL l dom h i ∧ endsK l dom h i (k + 1) = endsL l dom h i ++ [i] := by
  have hn : h ∉ (sucs l i).take k := by
    intro hc
    obtain ⟨j, hj, hjh⟩ := List.getElem_of_mem hc
    have hjk : j < k := by simp at hj; omega
    rw [List.getElem_take] at hjh
    exact (List.pairwise_iff_getElem.1 (sucs_nodup l i)) j k (by omega) hk hjk (hjh.trans he.symm)
  unfold endsK
  rw [if_neg (fun h => hn h.1), if_pos ⟨by rw [List.take_succ_eq_append_getElem hk, he]; simp, hd⟩]
  exact ⟨by simp, rfl⟩
theorem endsK_miss {l : List I8} {dom : Int → Int → Bool} {h i k : Nat} (hk : k < (sucs l i).length) (hm : (sucs l i)[k] ≠ h ∨ dom h i = false) : endsK l dom h i (k + 1) = endsK l dom h i k := by
  unfold endsK
  congr 1
  rcases hm with hm | hm
  · have : h ∈ (sucs l i).take (k + 1) ↔ h ∈ (sucs l i).take k := by
      rw [List.take_succ_eq_append_getElem hk, List.mem_append]
      constructor
      · rintro (e | e)
        · exact e
        · simp only [List.mem_singleton] at e; exact absurd e.symm hm
      · exact .inl
    simp only [this]
  · simp [hm]
def loopT (h : Nat) (S : List Nat) (j : Nat) : List Nat := h :: (S.take j).filter (fun x => decide (x ≠ h))
theorem loopT_succ {h : Nat} {S : List Nat} {j : Nat} (hj : j < S.length) : loopT h S (j + 1) = loopT h S j ++ if S[j] = h then [] else [S[j]] := by
  unfold loopT
  rw [List.take_succ_eq_append_getElem hj, List.filter_append]
  by_cases e : S[j] = h <;> simp [e]
theorem loopT_len (h : Nat) (S : List Nat) (j : Nat) : (loopT h S j).length ≤ S.length + 1 := by
  unfold loopT
  have h1 : (List.filter (fun x => decide (x ≠ h)) (S.take j)).length ≤ (S.take j).length := List.length_filter_le _ _
  have h2 : (S.take j).length ≤ S.length := by rw [List.length_take]; omega
  rw [List.length_cons]
  omega
/-- The loop of a header. -/
def loopL (l : List I8) (h : Nat) : List Nat := loopT h (sortL (natI (bodyL l h (endsL l (domB l) h l.length))) l.length) l.length
def loopsL (l : List I8) : Nat → List (List Nat)
  | 0 => []
  | m + 1 => if endsL l (domB l) m l.length = [] then loopsL l m else loopsL l m ++ [loopL l m]
theorem loopsL_len (l : List I8) : ∀ m, (loopsL l m).length ≤ m
  | 0 => by simp [loopsL]
  | m + 1 => by
    have := loopsL_len l m
    rw [loopsL]; split
    · omega
    · simp; omega
def listsC (L : List (List Nat)) : List CV := L.map fun x => .sl x.length (intsC (natI x))
@[simp] theorem listsC_length (L : List (List Nat)) : (listsC L).length = L.length := by simp [listsC]
theorem listsC_append (A B : List (List Nat)) : listsC (A ++ B) = listsC A ++ listsC B := by simp [listsC]
end Go.Dr
end
section
set_option linter.all false
namespace Go.Proofs
open Go.Fw Go.Dr
set_option maxRecDepth 100000

theorem at_successors (name : ByteArray) (l : List I8) (k : Int) : At Tryd.prog 49 [fAV name l, iV .i64 k] (.cell (.p (.fn 74 [.bx [sC name, .sl l.length (codeC l)], .bx [iC k]]))) := by
  refine at_code mixed Tryd.func49 (by kernel_rfl) rfl (by kernel_rfl) (by kernel_rfl) rfl fun Q hQ => ?_
  repeat (first | simp | with_reducible refine And.intro (by omega) ?_ | with_reducible refine optK_if (by omega) ?_ | with_reducible refine optD_if (by omega) ?_ | simp (disch := omega) only [wrap_i64, if_pos, if_neg] | with_reducible refine gsel_pure (by with_unfolding_all rfl) _ (fun hg => by (try simp at hg); simp [hg]; rfl) ?_ | with_reducible refine dsel_pure (by with_unfolding_all rfl) _ (fun hg => by (try simp at hg); simp [hg]; rfl) ?_ | with_reducible refine awp_draw (by kernel_rfl) (by decide +kernel) ?_)
  refine hQ _ _ (ret2 (by simp [retAV, resAV]; rfl) (by simp; rfl) ?_)
  rfl
set_option maxHeartbeats 1000000 in
theorem seq_successors (name : ByteArray) (l : List I8) (ok : OkL l) (k : Nat) (hk : k < l.length) : SeqAt Tryd.prog 74 [.cell (.p (.bx [sC name, .sl l.length (codeC l)])), .cell (.p (.bx [iC k]))] (evs (natI (sucs l k))) := by
  refine seq_unbx (by simp; rfl) ?_
  have hlen := ok.len
  have ht := ok.tgt k hk
  have hs : sucs l k = if l[k].op = 4 then [l[k].n.toNat] else if l[k].op = 5 then (if l[k].n.toNat = k + 1 then [k + 1] else if l[k].n.toNat < k + 1 then [l[k].n.toNat, k + 1] else [k + 1, l[k].n.toNat]) else if l[k].op = 7 then [l.length] else [k + 1] := by
    unfold sucs; rw [List.getElem?_eq_getElem hk]
  by_cases h4 : l[k].op = 4
  · have h0 := (ht (.inl h4)).1
    have en : max l[k].n 0 = l[k].n := by omega
    have t4 : eqI l[k].op 4 = true := by simp [eqI, h4]
    have hs1 : sucs l k = [l[k].n.toNat] := by rw [hs, if_pos h4]
    rw [hs1]
    refine seq_code mixed Tryd.func74 (by kernel_rfl) rfl (by kernel_rfl) (by kernel_rfl) rfl fun ℓ Q hQ => ?_
    repeat (first | simp [hk, en, t4] | with_reducible refine And.intro (by omega) ?_ | with_reducible refine optK_if (by omega) ?_ | with_reducible refine optD_if (by omega) ?_ | simp (disch := omega) only [wrap_i64, if_pos, if_neg] | with_reducible refine gsel_pure (by with_unfolding_all rfl) _ (fun hg => by (try simp at hg); simp [hg, hk, en, t4]; rfl) ?_ | with_reducible refine dsel_pure (by with_unfolding_all rfl) _ (fun hg => by (try simp at hg); simp [hg, hk, en, t4]; rfl) ?_ | with_reducible refine awp_draw (by kernel_rfl) (by decide +kernel) ?_)
    refine ⟨?_, ?_⟩
    · repeat (first | simp [hk, en, t4] | with_reducible refine And.intro (by omega) ?_ | with_reducible refine optK_if (by omega) ?_ | with_reducible refine optD_if (by omega) ?_ | simp (disch := omega) only [wrap_i64, if_pos, if_neg] | with_reducible refine gsel_pure (by with_unfolding_all rfl) _ (fun hg => by (try simp at hg); simp [hg, hk, en, t4]; rfl) ?_ | with_reducible refine dsel_pure (by with_unfolding_all rfl) _ (fun hg => by (try simp at hg); simp [hg, hk, en, t4]; rfl) ?_ | with_reducible refine awp_draw (by kernel_rfl) (by decide +kernel) ?_)
      refine hQ _ _ (seqPost_end (.inl rfl) (by simp [retAV, resAV, en]; rfl) (by simp [en]; first | exact ⟨rfl, rfl⟩ | exact ⟨rfl, rfl, rfl⟩ | rfl) ?_)
      simp
    · repeat (first | simp [hk, en, t4] | with_reducible refine And.intro (by omega) ?_ | with_reducible refine optK_if (by omega) ?_ | with_reducible refine optD_if (by omega) ?_ | simp (disch := omega) only [wrap_i64, if_pos, if_neg] | with_reducible refine gsel_pure (by with_unfolding_all rfl) _ (fun hg => by (try simp at hg); simp [hg, hk, en, t4]; rfl) ?_ | with_reducible refine dsel_pure (by with_unfolding_all rfl) _ (fun hg => by (try simp at hg); simp [hg, hk, en, t4]; rfl) ?_ | with_reducible refine awp_draw (by kernel_rfl) (by decide +kernel) ?_)
      refine hQ _ _ (seqPost_end (.inl rfl) (by simp [retAV, resAV, en]; rfl) (by simp [en]; first | exact ⟨rfl, rfl⟩ | exact ⟨rfl, rfl, rfl⟩ | rfl) ?_)
      simp
  have e4 : eqI l[k].op 4 = false := by simp [eqI, h4]
  by_cases h5 : l[k].op = 5
  · have h0 := (ht (.inr h5)).1
    have h0' := (ht (.inr h5)).2
    have en : max l[k].n 0 = l[k].n := by omega
    have t5 : eqI l[k].op 5 = true := by simp [eqI, h5]
    rcases Int.lt_trichotomy l[k].n (k + 1) with hc | hc | hc
    · have c1 : ¬ ((k : Int) + 1 < l[k].n) := by omega
      have c2 : eqI l[k].n ((k : Int) + 1) = false := by simp [eqI]; omega
      have hs1 : sucs l k = [l[k].n.toNat, k + 1] := by rw [hs, if_neg h4, if_pos h5, if_neg (by omega), if_pos (by omega)]
      rw [hs1]
      refine seq_code mixed Tryd.func74 (by kernel_rfl) rfl (by kernel_rfl) (by kernel_rfl) rfl fun ℓ Q hQ => ?_
      repeat (first | simp [hk, en, e4, t5, hc, c1, c2] | with_reducible refine And.intro (by omega) ?_ | with_reducible refine optK_if (by omega) ?_ | with_reducible refine optD_if (by omega) ?_ | simp (disch := omega) only [wrap_i64, if_pos, if_neg] | with_reducible refine gsel_pure (by with_unfolding_all rfl) _ (fun hg => by (try simp at hg); simp [hg, hk, en, e4, t5, hc, c1, c2]; rfl) ?_ | with_reducible refine dsel_pure (by with_unfolding_all rfl) _ (fun hg => by (try simp at hg); simp [hg, hk, en, e4, t5, hc, c1, c2]; rfl) ?_ | with_reducible refine awp_draw (by kernel_rfl) (by decide +kernel) ?_)
      refine ⟨?_, ?_⟩
      · repeat (first | simp [hk, en, e4, t5, hc, c1, c2] | with_reducible refine And.intro (by omega) ?_ | with_reducible refine optK_if (by omega) ?_ | with_reducible refine optD_if (by omega) ?_ | simp (disch := omega) only [wrap_i64, if_pos, if_neg] | with_reducible refine gsel_pure (by with_unfolding_all rfl) _ (fun hg => by (try simp at hg); simp [hg, hk, en, e4, t5, hc, c1, c2]; rfl) ?_ | with_reducible refine dsel_pure (by with_unfolding_all rfl) _ (fun hg => by (try simp at hg); simp [hg, hk, en, e4, t5, hc, c1, c2]; rfl) ?_ | with_reducible refine awp_draw (by kernel_rfl) (by decide +kernel) ?_)
        refine ⟨?_, ?_⟩
        · repeat (first | simp [hk, en, e4, t5, hc, c1, c2] | with_reducible refine And.intro (by omega) ?_ | with_reducible refine optK_if (by omega) ?_ | with_reducible refine optD_if (by omega) ?_ | simp (disch := omega) only [wrap_i64, if_pos, if_neg] | with_reducible refine gsel_pure (by with_unfolding_all rfl) _ (fun hg => by (try simp at hg); simp [hg, hk, en, e4, t5, hc, c1, c2]; rfl) ?_ | with_reducible refine dsel_pure (by with_unfolding_all rfl) _ (fun hg => by (try simp at hg); simp [hg, hk, en, e4, t5, hc, c1, c2]; rfl) ?_ | with_reducible refine awp_draw (by kernel_rfl) (by decide +kernel) ?_)
          refine hQ _ _ (seqPost_end (.inl rfl) (by simp [retAV, resAV, en]; rfl) (by simp [en]; first | exact ⟨rfl, rfl⟩ | exact ⟨rfl, rfl, rfl⟩ | rfl) ?_)
          simp
        · repeat (first | simp [hk, en, e4, t5, hc, c1, c2] | with_reducible refine And.intro (by omega) ?_ | with_reducible refine optK_if (by omega) ?_ | with_reducible refine optD_if (by omega) ?_ | simp (disch := omega) only [wrap_i64, if_pos, if_neg] | with_reducible refine gsel_pure (by with_unfolding_all rfl) _ (fun hg => by (try simp at hg); simp [hg, hk, en, e4, t5, hc, c1, c2]; rfl) ?_ | with_reducible refine dsel_pure (by with_unfolding_all rfl) _ (fun hg => by (try simp at hg); simp [hg, hk, en, e4, t5, hc, c1, c2]; rfl) ?_ | with_reducible refine awp_draw (by kernel_rfl) (by decide +kernel) ?_)
          refine hQ _ _ (seqPost_end (.inl rfl) (by simp [retAV, resAV, en]; rfl) (by simp [en]; first | exact ⟨rfl, rfl⟩ | exact ⟨rfl, rfl, rfl⟩ | rfl) ?_)
          simp
      · repeat (first | simp [hk, en, e4, t5, hc, c1, c2] | with_reducible refine And.intro (by omega) ?_ | with_reducible refine optK_if (by omega) ?_ | with_reducible refine optD_if (by omega) ?_ | simp (disch := omega) only [wrap_i64, if_pos, if_neg] | with_reducible refine gsel_pure (by with_unfolding_all rfl) _ (fun hg => by (try simp at hg); simp [hg, hk, en, e4, t5, hc, c1, c2]; rfl) ?_ | with_reducible refine dsel_pure (by with_unfolding_all rfl) _ (fun hg => by (try simp at hg); simp [hg, hk, en, e4, t5, hc, c1, c2]; rfl) ?_ | with_reducible refine awp_draw (by kernel_rfl) (by decide +kernel) ?_)
        refine hQ _ _ (seqPost_end (.inl rfl) (by simp [retAV, resAV, en]; rfl) (by simp [en]; first | exact ⟨rfl, rfl⟩ | exact ⟨rfl, rfl, rfl⟩ | rfl) ?_)
        simp
    · have c2 : eqI ((k : Int) + 1) ((k : Int) + 1) = true := by simp [eqI]
      have hs1 : sucs l k = [k + 1] := by rw [hs, if_neg h4, if_pos h5, if_pos (by omega)]
      rw [hs1]
      refine seq_code mixed Tryd.func74 (by kernel_rfl) rfl (by kernel_rfl) (by kernel_rfl) rfl fun ℓ Q hQ => ?_
      repeat (first | simp [hk, en, e4, t5, hc, c2] | with_reducible refine And.intro (by omega) ?_ | with_reducible refine optK_if (by omega) ?_ | with_reducible refine optD_if (by omega) ?_ | simp (disch := omega) only [wrap_i64, if_pos, if_neg] | with_reducible refine gsel_pure (by with_unfolding_all rfl) _ (fun hg => by (try simp at hg); simp [hg, hk, en, e4, t5, hc, c2]; rfl) ?_ | with_reducible refine dsel_pure (by with_unfolding_all rfl) _ (fun hg => by (try simp at hg); simp [hg, hk, en, e4, t5, hc, c2]; rfl) ?_ | with_reducible refine awp_draw (by kernel_rfl) (by decide +kernel) ?_)
      refine ⟨?_, ?_⟩
      · repeat (first | simp [hk, en, e4, t5, hc, c2] | with_reducible refine And.intro (by omega) ?_ | with_reducible refine optK_if (by omega) ?_ | with_reducible refine optD_if (by omega) ?_ | simp (disch := omega) only [wrap_i64, if_pos, if_neg] | with_reducible refine gsel_pure (by with_unfolding_all rfl) _ (fun hg => by (try simp at hg); simp [hg, hk, en, e4, t5, hc, c2]; rfl) ?_ | with_reducible refine dsel_pure (by with_unfolding_all rfl) _ (fun hg => by (try simp at hg); simp [hg, hk, en, e4, t5, hc, c2]; rfl) ?_ | with_reducible refine awp_draw (by kernel_rfl) (by decide +kernel) ?_)
        refine hQ _ _ (seqPost_end (.inl rfl) (by simp [retAV, resAV, en]; rfl) (by simp [en]; first | exact ⟨rfl, rfl⟩ | exact ⟨rfl, rfl, rfl⟩ | rfl) ?_)
        simp
      · repeat (first | simp [hk, en, e4, t5, hc, c2] | with_reducible refine And.intro (by omega) ?_ | with_reducible refine optK_if (by omega) ?_ | with_reducible refine optD_if (by omega) ?_ | simp (disch := omega) only [wrap_i64, if_pos, if_neg] | with_reducible refine gsel_pure (by with_unfolding_all rfl) _ (fun hg => by (try simp at hg); simp [hg, hk, en, e4, t5, hc, c2]; rfl) ?_ | with_reducible refine dsel_pure (by with_unfolding_all rfl) _ (fun hg => by (try simp at hg); simp [hg, hk, en, e4, t5, hc, c2]; rfl) ?_ | with_reducible refine awp_draw (by kernel_rfl) (by decide +kernel) ?_)
        refine hQ _ _ (seqPost_end (.inl rfl) (by simp [retAV, resAV, en]; rfl) (by simp [en]; first | exact ⟨rfl, rfl⟩ | exact ⟨rfl, rfl, rfl⟩ | rfl) ?_)
        simp
    · have c1 : ¬ (l[k].n < (k : Int) + 1) := by omega
      have c2 : eqI ((k : Int) + 1) l[k].n = false := by simp [eqI]; omega
      have hs1 : sucs l k = [k + 1, l[k].n.toNat] := by rw [hs, if_neg h4, if_pos h5, if_neg (by omega), if_neg (by omega)]
      rw [hs1]
      refine seq_code mixed Tryd.func74 (by kernel_rfl) rfl (by kernel_rfl) (by kernel_rfl) rfl fun ℓ Q hQ => ?_
      repeat (first | simp [hk, en, e4, t5, hc, c1, c2] | with_reducible refine And.intro (by omega) ?_ | with_reducible refine optK_if (by omega) ?_ | with_reducible refine optD_if (by omega) ?_ | simp (disch := omega) only [wrap_i64, if_pos, if_neg] | with_reducible refine gsel_pure (by with_unfolding_all rfl) _ (fun hg => by (try simp at hg); simp [hg, hk, en, e4, t5, hc, c1, c2]; rfl) ?_ | with_reducible refine dsel_pure (by with_unfolding_all rfl) _ (fun hg => by (try simp at hg); simp [hg, hk, en, e4, t5, hc, c1, c2]; rfl) ?_ | with_reducible refine awp_draw (by kernel_rfl) (by decide +kernel) ?_)
      refine ⟨?_, ?_⟩
      · repeat (first | simp [hk, en, e4, t5, hc, c1, c2] | with_reducible refine And.intro (by omega) ?_ | with_reducible refine optK_if (by omega) ?_ | with_reducible refine optD_if (by omega) ?_ | simp (disch := omega) only [wrap_i64, if_pos, if_neg] | with_reducible refine gsel_pure (by with_unfolding_all rfl) _ (fun hg => by (try simp at hg); simp [hg, hk, en, e4, t5, hc, c1, c2]; rfl) ?_ | with_reducible refine dsel_pure (by with_unfolding_all rfl) _ (fun hg => by (try simp at hg); simp [hg, hk, en, e4, t5, hc, c1, c2]; rfl) ?_ | with_reducible refine awp_draw (by kernel_rfl) (by decide +kernel) ?_)
        refine ⟨?_, ?_⟩
        · repeat (first | simp [hk, en, e4, t5, hc, c1, c2] | with_reducible refine And.intro (by omega) ?_ | with_reducible refine optK_if (by omega) ?_ | with_reducible refine optD_if (by omega) ?_ | simp (disch := omega) only [wrap_i64, if_pos, if_neg] | with_reducible refine gsel_pure (by with_unfolding_all rfl) _ (fun hg => by (try simp at hg); simp [hg, hk, en, e4, t5, hc, c1, c2]; rfl) ?_ | with_reducible refine dsel_pure (by with_unfolding_all rfl) _ (fun hg => by (try simp at hg); simp [hg, hk, en, e4, t5, hc, c1, c2]; rfl) ?_ | with_reducible refine awp_draw (by kernel_rfl) (by decide +kernel) ?_)
          refine hQ _ _ (seqPost_end (.inl rfl) (by simp [retAV, resAV, en]; rfl) (by simp [en]; first | exact ⟨rfl, rfl⟩ | exact ⟨rfl, rfl, rfl⟩ | rfl) ?_)
          simp
        · repeat (first | simp [hk, en, e4, t5, hc, c1, c2] | with_reducible refine And.intro (by omega) ?_ | with_reducible refine optK_if (by omega) ?_ | with_reducible refine optD_if (by omega) ?_ | simp (disch := omega) only [wrap_i64, if_pos, if_neg] | with_reducible refine gsel_pure (by with_unfolding_all rfl) _ (fun hg => by (try simp at hg); simp [hg, hk, en, e4, t5, hc, c1, c2]; rfl) ?_ | with_reducible refine dsel_pure (by with_unfolding_all rfl) _ (fun hg => by (try simp at hg); simp [hg, hk, en, e4, t5, hc, c1, c2]; rfl) ?_ | with_reducible refine awp_draw (by kernel_rfl) (by decide +kernel) ?_)
          refine hQ _ _ (seqPost_end (.inl rfl) (by simp [retAV, resAV, en]; rfl) (by simp [en]; first | exact ⟨rfl, rfl⟩ | exact ⟨rfl, rfl, rfl⟩ | rfl) ?_)
          simp
      · repeat (first | simp [hk, en, e4, t5, hc, c1, c2] | with_reducible refine And.intro (by omega) ?_ | with_reducible refine optK_if (by omega) ?_ | with_reducible refine optD_if (by omega) ?_ | simp (disch := omega) only [wrap_i64, if_pos, if_neg] | with_reducible refine gsel_pure (by with_unfolding_all rfl) _ (fun hg => by (try simp at hg); simp [hg, hk, en, e4, t5, hc, c1, c2]; rfl) ?_ | with_reducible refine dsel_pure (by with_unfolding_all rfl) _ (fun hg => by (try simp at hg); simp [hg, hk, en, e4, t5, hc, c1, c2]; rfl) ?_ | with_reducible refine awp_draw (by kernel_rfl) (by decide +kernel) ?_)
        refine hQ _ _ (seqPost_end (.inl rfl) (by simp [retAV, resAV, en]; rfl) (by simp [en]; first | exact ⟨rfl, rfl⟩ | exact ⟨rfl, rfl, rfl⟩ | rfl) ?_)
        simp
  have e5 : eqI l[k].op 5 = false := by simp [eqI, h5]
  by_cases h7 : l[k].op = 7
  · have t7 : eqI l[k].op 7 = true := by simp [eqI, h7]
    have hs1 : sucs l k = [l.length] := by rw [hs, if_neg h4, if_neg h5, if_pos h7]
    rw [hs1]
    refine seq_code mixed Tryd.func74 (by kernel_rfl) rfl (by kernel_rfl) (by kernel_rfl) rfl fun ℓ Q hQ => ?_
    repeat (first | simp [hk, e4, e5, t7] | with_reducible refine And.intro (by omega) ?_ | with_reducible refine optK_if (by omega) ?_ | with_reducible refine optD_if (by omega) ?_ | simp (disch := omega) only [wrap_i64, if_pos, if_neg] | with_reducible refine gsel_pure (by with_unfolding_all rfl) _ (fun hg => by (try simp at hg); simp [hg, hk, e4, e5, t7]; rfl) ?_ | with_reducible refine dsel_pure (by with_unfolding_all rfl) _ (fun hg => by (try simp at hg); simp [hg, hk, e4, e5, t7]; rfl) ?_ | with_reducible refine awp_draw (by kernel_rfl) (by decide +kernel) ?_)
    refine ⟨?_, ?_⟩
    · repeat (first | simp [hk, e4, e5, t7] | with_reducible refine And.intro (by omega) ?_ | with_reducible refine optK_if (by omega) ?_ | with_reducible refine optD_if (by omega) ?_ | simp (disch := omega) only [wrap_i64, if_pos, if_neg] | with_reducible refine gsel_pure (by with_unfolding_all rfl) _ (fun hg => by (try simp at hg); simp [hg, hk, e4, e5, t7]; rfl) ?_ | with_reducible refine dsel_pure (by with_unfolding_all rfl) _ (fun hg => by (try simp at hg); simp [hg, hk, e4, e5, t7]; rfl) ?_ | with_reducible refine awp_draw (by kernel_rfl) (by decide +kernel) ?_)
      refine hQ _ _ (seqPost_end (.inl rfl) (by simp [retAV, resAV]; rfl) (by simp; first | exact ⟨rfl, rfl⟩ | exact ⟨rfl, rfl, rfl⟩ | rfl) ?_)
      simp
    · repeat (first | simp [hk, e4, e5, t7] | with_reducible refine And.intro (by omega) ?_ | with_reducible refine optK_if (by omega) ?_ | with_reducible refine optD_if (by omega) ?_ | simp (disch := omega) only [wrap_i64, if_pos, if_neg] | with_reducible refine gsel_pure (by with_unfolding_all rfl) _ (fun hg => by (try simp at hg); simp [hg, hk, e4, e5, t7]; rfl) ?_ | with_reducible refine dsel_pure (by with_unfolding_all rfl) _ (fun hg => by (try simp at hg); simp [hg, hk, e4, e5, t7]; rfl) ?_ | with_reducible refine awp_draw (by kernel_rfl) (by decide +kernel) ?_)
      refine hQ _ _ (seqPost_end (.inl rfl) (by simp [retAV, resAV]; rfl) (by simp; first | exact ⟨rfl, rfl⟩ | exact ⟨rfl, rfl, rfl⟩ | rfl) ?_)
      simp
  · have e7 : eqI l[k].op 7 = false := by simp [eqI, h7]
    have hs1 : sucs l k = [k + 1] := by rw [hs, if_neg h4, if_neg h5, if_neg h7]
    rw [hs1]
    refine seq_code mixed Tryd.func74 (by kernel_rfl) rfl (by kernel_rfl) (by kernel_rfl) rfl fun ℓ Q hQ => ?_
    repeat (first | simp [hk, e4, e5, e7] | with_reducible refine And.intro (by omega) ?_ | with_reducible refine optK_if (by omega) ?_ | with_reducible refine optD_if (by omega) ?_ | simp (disch := omega) only [wrap_i64, if_pos, if_neg] | with_reducible refine gsel_pure (by with_unfolding_all rfl) _ (fun hg => by (try simp at hg); simp [hg, hk, e4, e5, e7]; rfl) ?_ | with_reducible refine dsel_pure (by with_unfolding_all rfl) _ (fun hg => by (try simp at hg); simp [hg, hk, e4, e5, e7]; rfl) ?_ | with_reducible refine awp_draw (by kernel_rfl) (by decide +kernel) ?_)
    refine ⟨?_, ?_⟩
    · repeat (first | simp [hk, e4, e5, e7] | with_reducible refine And.intro (by omega) ?_ | with_reducible refine optK_if (by omega) ?_ | with_reducible refine optD_if (by omega) ?_ | simp (disch := omega) only [wrap_i64, if_pos, if_neg] | with_reducible refine gsel_pure (by with_unfolding_all rfl) _ (fun hg => by (try simp at hg); simp [hg, hk, e4, e5, e7]; rfl) ?_ | with_reducible refine dsel_pure (by with_unfolding_all rfl) _ (fun hg => by (try simp at hg); simp [hg, hk, e4, e5, e7]; rfl) ?_ | with_reducible refine awp_draw (by kernel_rfl) (by decide +kernel) ?_)
      refine hQ _ _ (seqPost_end (.inl rfl) (by simp [retAV, resAV]; rfl) (by simp; first | exact ⟨rfl, rfl⟩ | exact ⟨rfl, rfl, rfl⟩ | rfl) ?_)
      simp
    · repeat (first | simp [hk, e4, e5, e7] | with_reducible refine And.intro (by omega) ?_ | with_reducible refine optK_if (by omega) ?_ | with_reducible refine optD_if (by omega) ?_ | simp (disch := omega) only [wrap_i64, if_pos, if_neg] | with_reducible refine gsel_pure (by with_unfolding_all rfl) _ (fun hg => by (try simp at hg); simp [hg, hk, e4, e5, e7]; rfl) ?_ | with_reducible refine dsel_pure (by with_unfolding_all rfl) _ (fun hg => by (try simp at hg); simp [hg, hk, e4, e5, e7]; rfl) ?_ | with_reducible refine awp_draw (by kernel_rfl) (by decide +kernel) ?_)
      refine hQ _ _ (seqPost_end (.inl rfl) (by simp [retAV, resAV]; rfl) (by simp; first | exact ⟨rfl, rfl⟩ | exact ⟨rfl, rfl, rfl⟩ | rfl) ?_)
      simp
theorem at_ints (a b : List Int) (ha : a.length ≤ 1000000) : At Tryd.prog 17 [intsA a, intsA b] (bV (decide (a = b))) := by
  refine at_code mixed Tryd.func17 (by kernel_rfl) rfl (by kernel_rfl) (by kernel_rfl) rfl fun Q hQ => ?_
  repeat (first | simp | with_reducible refine And.intro (by omega) ?_ | with_reducible refine optK_if (by omega) ?_ | with_reducible refine optD_if (by omega) ?_ | simp (disch := omega) only [wrap_i64, if_pos, if_neg] | with_reducible refine gsel_pure (by with_unfolding_all rfl) _ (fun hg => by (try simp at hg); simp [hg]; rfl) ?_ | with_reducible refine dsel_pure (by with_unfolding_all rfl) _ (fun hg => by (try simp at hg); simp [hg]; rfl) ?_ | with_reducible refine awp_draw (by kernel_rfl) (by decide +kernel) ?_)
  (with_reducible refine condK_intro (fun hl => ?_) (fun hl => ?_)) <;> (try simp only [hl]) <;> (try simp [andB, orB, eqI, ltI, Int.natCast_inj] at hl)
  · repeat (first | simp [hl] | with_reducible refine And.intro (by omega) ?_ | with_reducible refine optK_if (by omega) ?_ | with_reducible refine optD_if (by omega) ?_ | simp (disch := omega) only [wrap_i64, if_pos, if_neg] | with_reducible refine gsel_pure (by with_unfolding_all rfl) _ (fun hg => by (try simp at hg); simp [hg, hl]; rfl) ?_ | with_reducible refine dsel_pure (by with_unfolding_all rfl) _ (fun hg => by (try simp at hg); simp [hg, hl]; rfl) ?_ | with_reducible refine awp_draw (by kernel_rfl) (by decide +kernel) ?_)
    refine hQ _ _ (ret2 (by simp [retAV, resAV]; rfl) (by simp; rfl) ?_)
    have : a ≠ b := by rintro rfl; exact hl rfl
    simp [this]
  · repeat (first | simp [hl] | with_reducible refine And.intro (by omega) ?_ | with_reducible refine optK_if (by omega) ?_ | with_reducible refine optD_if (by omega) ?_ | simp (disch := omega) only [wrap_i64, if_pos, if_neg] | with_reducible refine gsel_pure (by with_unfolding_all rfl) _ (fun hg => by (try simp at hg); simp [hg, hl]; rfl) ?_ | with_reducible refine dsel_pure (by with_unfolding_all rfl) _ (fun hg => by (try simp at hg); simp [hg, hl]; rfl) ?_ | with_reducible refine awp_draw (by kernel_rfl) (by decide +kernel) ?_)
    refine awp_loopV (fun (k : Nat) (s : St) => (k ≤ a.length) ∧ (a.take k = b.take k) ∧ s.env 5 = iV .i64 k ∧ s.env 0 = intsA a ∧ s.env 1 = intsA b) (fun (k : Nat) => a.length - k) (0) ⟨by first | omega | assumption | (simp; done) | (simp; omega), by first | omega | assumption | (simp; done) | (simp; omega), by simp [hl], by simp [hl], by simp [hl]⟩ fun k s hsA LA hLA => ?_
    obtain ⟨hk, ht, h5, h0, h1⟩ := hsA
    repeat (first | simp [h5, h0, h1, hl] | with_reducible refine And.intro (by omega) ?_ | with_reducible refine optK_if (by omega) ?_ | with_reducible refine optD_if (by omega) ?_ | simp (disch := omega) only [wrap_i64, if_pos, if_neg] | with_reducible refine gsel_pure (by with_unfolding_all rfl) _ (fun hg => by (try simp at hg); simp [hg, h5, h0, h1, hl]; rfl) ?_ | with_reducible refine dsel_pure (by with_unfolding_all rfl) _ (fun hg => by (try simp at hg); simp [hg, h5, h0, h1, hl]; rfl) ?_ | with_reducible refine awp_draw (by kernel_rfl) (by decide +kernel) ?_)
    (with_reducible refine condK_intro (fun hlt => ?_) (fun hlt => ?_)) <;> (try simp only [hlt]) <;> (try simp [andB, orB, eqI, ltI, Int.natCast_inj] at hlt)
    · have hlb : k < b.length := by omega
      have hla : k < a.length := by omega
      repeat (first | simp [h5, h0, h1, hl, hlt, hla, hlb] | with_reducible refine And.intro (by omega) ?_ | with_reducible refine optK_if (by omega) ?_ | with_reducible refine optD_if (by omega) ?_ | simp (disch := omega) only [wrap_i64, if_pos, if_neg] | with_reducible refine gsel_pure (by with_unfolding_all rfl) _ (fun hg => by (try simp at hg); simp [hg, h5, h0, h1, hl, hlt, hla, hlb]; rfl) ?_ | with_reducible refine dsel_pure (by with_unfolding_all rfl) _ (fun hg => by (try simp at hg); simp [hg, h5, h0, h1, hl, hlt, hla, hlb]; rfl) ?_ | with_reducible refine awp_draw (by kernel_rfl) (by decide +kernel) ?_)
      (with_reducible refine condK_intro (fun he => ?_) (fun he => ?_)) <;> (try simp only [he]) <;> (try simp [andB, orB, eqI, ltI, Int.natCast_inj] at he)
      · repeat (first | simp [h5, h0, h1, hl, hlt, he] | with_reducible refine And.intro (by omega) ?_ | with_reducible refine optK_if (by omega) ?_ | with_reducible refine optD_if (by omega) ?_ | simp (disch := omega) only [wrap_i64, if_pos, if_neg] | with_reducible refine gsel_pure (by with_unfolding_all rfl) _ (fun hg => by (try simp at hg); simp [hg, h5, h0, h1, hl, hlt, he]; rfl) ?_ | with_reducible refine dsel_pure (by with_unfolding_all rfl) _ (fun hg => by (try simp at hg); simp [hg, h5, h0, h1, hl, hlt, he]; rfl) ?_ | with_reducible refine awp_draw (by kernel_rfl) (by decide +kernel) ?_)
        refine hQ _ _ (ret2 (by simp [retAV, resAV]; rfl) (by simp; rfl) ?_)
        have : a ≠ b := by rintro rfl; exact he rfl
        simp [this]
      · repeat (first | simp [h5, h0, h1, hl, hlt, he] | with_reducible refine And.intro (by omega) ?_ | with_reducible refine optK_if (by omega) ?_ | with_reducible refine optD_if (by omega) ?_ | simp (disch := omega) only [wrap_i64, if_pos, if_neg] | with_reducible refine gsel_pure (by with_unfolding_all rfl) _ (fun hg => by (try simp at hg); simp [hg, h5, h0, h1, hl, hlt, he]; rfl) ?_ | with_reducible refine dsel_pure (by with_unfolding_all rfl) _ (fun hg => by (try simp at hg); simp [hg, h5, h0, h1, hl, hlt, he]; rfl) ?_ | with_reducible refine awp_draw (by kernel_rfl) (by decide +kernel) ?_)
        refine hLA (k + 1) _ ⟨by first | omega | assumption | (simp; done) | (simp; omega), by rw [List.take_succ_eq_append_getElem hla, List.take_succ_eq_append_getElem hlb, ht, he], by simp [h5, h0, h1, hl, hlt, he], by simp [h5, h0, h1, hl, hlt, he], by simp [h5, h0, h1, hl, hlt, he]⟩ (by first | omega | (simp; omega))
    · repeat (first | simp [h5, h0, h1, hl, hlt] | with_reducible refine And.intro (by omega) ?_ | with_reducible refine optK_if (by omega) ?_ | with_reducible refine optD_if (by omega) ?_ | simp (disch := omega) only [wrap_i64, if_pos, if_neg] | with_reducible refine gsel_pure (by with_unfolding_all rfl) _ (fun hg => by (try simp at hg); simp [hg, h5, h0, h1, hl, hlt]; rfl) ?_ | with_reducible refine dsel_pure (by with_unfolding_all rfl) _ (fun hg => by (try simp at hg); simp [hg, h5, h0, h1, hl, hlt]; rfl) ?_ | with_reducible refine awp_draw (by kernel_rfl) (by decide +kernel) ?_)
      refine hQ _ _ (ret2 (by simp [retAV, resAV]; rfl) (by simp; rfl) ?_)
      have h1 : a.take k = a := List.take_of_length_le (by omega)
      have h2 : b.take k = b := List.take_of_length_le (by omega)
      rw [h1, h2] at ht
      simp [ht]
theorem at_appendSeq (g : Nat) (caps : List CV) (xs : List Int) (hl : xs.length ≤ 1000000) (hs : SeqAt Tryd.prog g (caps.map fun c => .cell (.p c)) (evs xs)) : At Tryd.prog 73 [.cell .z, .cell (.p (.fn g caps))] (.cell (if xs.length = 0 then .z else .own 0 1 xs.length (intsC xs))) := by
  refine at_code mixed Tryd.func73 (by kernel_rfl) rfl (by kernel_rfl) (by kernel_rfl) rfl fun Q hQ => ?_
  repeat (first | simp | with_reducible refine And.intro (by omega) ?_ | with_reducible refine optK_if (by omega) ?_ | with_reducible refine optD_if (by omega) ?_ | simp (disch := omega) only [wrap_i64, if_pos, if_neg] | with_reducible refine gsel_pure (by with_unfolding_all rfl) _ (fun hg => by (try simp at hg); simp [hg]; rfl) ?_ | with_reducible refine dsel_pure (by with_unfolding_all rfl) _ (fun hg => by (try simp at hg); simp [hg]; rfl) ?_ | with_reducible refine awp_draw (by kernel_rfl) (by decide +kernel) ?_)
  refine awp_range (T := [2, 3]) (gf := g) (cs := caps) (evs xs) (fun (k : Nat) (bx : Nat → Option (List AC)) => bx 0 = some ([if k = 0 then .z else .own 196800 1 k (intsC (xs.take k))])) rfl (by simp) (hs) (fun x hx => by simp [evs] at hx; obtain ⟨y, _, rfl⟩ := hx; rfl) (by simp) (fun k x bx hx b0 => ?_) (fun bx b0 => ?_)
  · obtain ⟨hk, rfl⟩ := evs_get hx
    by_cases h0 : k = 0
    · subst h0
      rw [if_pos rfl] at b0
      repeat (first | simp [b0] | with_reducible refine And.intro (by omega) ?_ | with_reducible refine optK_if (by omega) ?_ | with_reducible refine optD_if (by omega) ?_ | simp (disch := omega) only [wrap_i64, if_pos, if_neg] | with_reducible refine gsel_pure (by with_unfolding_all rfl) _ (fun hg => by (try simp at hg); simp [hg, b0]; rfl) ?_ | with_reducible refine dsel_pure (by with_unfolding_all rfl) _ (fun hg => by (try simp at hg); simp [hg, b0]; rfl) ?_ | with_reducible refine awp_draw (by kernel_rfl) (by decide +kernel) ?_)
      refine rPost_normal (by simp [b0, intsC_takeS hk])
    · rw [if_neg h0] at b0
      repeat (first | simp [b0] | with_reducible refine And.intro (by omega) ?_ | with_reducible refine optK_if (by omega) ?_ | with_reducible refine optD_if (by omega) ?_ | simp (disch := omega) only [wrap_i64, if_pos, if_neg] | with_reducible refine gsel_pure (by with_unfolding_all rfl) _ (fun hg => by (try simp at hg); simp [hg, b0]; rfl) ?_ | with_reducible refine dsel_pure (by with_unfolding_all rfl) _ (fun hg => by (try simp at hg); simp [hg, b0]; rfl) ?_ | with_reducible refine awp_draw (by kernel_rfl) (by decide +kernel) ?_)
      refine rPost_normal (by simp [b0, intsC_takeS hk])
  · rw [evs_length] at b0
    by_cases h0 : xs.length = 0
    · rw [if_pos h0] at b0
      repeat (first | simp [b0] | with_reducible refine And.intro (by omega) ?_ | with_reducible refine optK_if (by omega) ?_ | with_reducible refine optD_if (by omega) ?_ | simp (disch := omega) only [wrap_i64, if_pos, if_neg] | with_reducible refine gsel_pure (by with_unfolding_all rfl) _ (fun hg => by (try simp at hg); simp [hg, b0]; rfl) ?_ | with_reducible refine dsel_pure (by with_unfolding_all rfl) _ (fun hg => by (try simp at hg); simp [hg, b0]; rfl) ?_ | with_reducible refine awp_draw (by kernel_rfl) (by decide +kernel) ?_)
      refine hQ _ _ (ret2 (by simp [retAV, resAV, b0]; rfl) (by simp [b0]; rfl) ?_)
      simp [h0]
    · rw [if_neg h0] at b0
      repeat (first | simp [b0] | with_reducible refine And.intro (by omega) ?_ | with_reducible refine optK_if (by omega) ?_ | with_reducible refine optD_if (by omega) ?_ | simp (disch := omega) only [wrap_i64, if_pos, if_neg] | with_reducible refine gsel_pure (by with_unfolding_all rfl) _ (fun hg => by (try simp at hg); simp [hg, b0]; rfl) ?_ | with_reducible refine dsel_pure (by with_unfolding_all rfl) _ (fun hg => by (try simp at hg); simp [hg, b0]; rfl) ?_ | with_reducible refine awp_draw (by kernel_rfl) (by decide +kernel) ?_)
      refine hQ _ _ (ret2 (by simp [retAV, resAV, b0]; rfl) (by simp [b0]; rfl) ?_)
      simp [h0]
theorem at_collect (g : Nat) (caps : List CV) (xs : List Int) (hl : xs.length ≤ 1000000) (hs : SeqAt Tryd.prog g (caps.map fun c => .cell (.p c)) (evs xs)) : At Tryd.prog 48 [.cell (.p (.fn g caps))] (intsA xs) := by
  have hA := at_appendSeq g caps xs hl hs
  by_cases h0 : xs.length = 0
  · rw [if_pos h0] at hA
    refine at_unzr (r := .cell .z) ?_ (by have : xs = [] := List.eq_nil_of_length_eq_zero h0; subst this; rfl)
    refine at_code mixed Tryd.func48 (by kernel_rfl) rfl (by kernel_rfl) (by kernel_rfl) rfl fun Q hQ => ?_
    repeat (first | simp | with_reducible refine And.intro (by omega) ?_ | with_reducible refine optK_if (by omega) ?_ | with_reducible refine optD_if (by omega) ?_ | simp (disch := omega) only [wrap_i64, if_pos, if_neg] | with_reducible refine gsel_pure (by with_unfolding_all rfl) _ (fun hg => by (try simp at hg); simp [hg]; rfl) ?_ | with_reducible refine dsel_pure (by with_unfolding_all rfl) _ (fun hg => by (try simp at hg); simp [hg]; rfl) ?_ | with_reducible refine awp_draw (by kernel_rfl) (by decide +kernel) ?_)
    refine gop_call (hA) (by (first | simp [wrap_i64] | simp (disch := omega) [wrap_i64]); try rfl) (by simp) (by simp) ?_
    repeat (first | simp | with_reducible refine And.intro (by omega) ?_ | with_reducible refine optK_if (by omega) ?_ | with_reducible refine optD_if (by omega) ?_ | simp (disch := omega) only [wrap_i64, if_pos, if_neg] | with_reducible refine gsel_pure (by with_unfolding_all rfl) _ (fun hg => by (try simp at hg); simp [hg]; rfl) ?_ | with_reducible refine dsel_pure (by with_unfolding_all rfl) _ (fun hg => by (try simp at hg); simp [hg]; rfl) ?_ | with_reducible refine awp_draw (by kernel_rfl) (by decide +kernel) ?_)
    refine hQ _ _ (ret2 (by simp [retAV, resAV]; rfl) (by simp; rfl) ?_)
    rfl
  · rw [if_neg h0] at hA
    have hA2 := at_pure hA (r' := intsA xs) (by simp)
    refine at_code mixed Tryd.func48 (by kernel_rfl) rfl (by kernel_rfl) (by kernel_rfl) rfl fun Q hQ => ?_
    repeat (first | simp | with_reducible refine And.intro (by omega) ?_ | with_reducible refine optK_if (by omega) ?_ | with_reducible refine optD_if (by omega) ?_ | simp (disch := omega) only [wrap_i64, if_pos, if_neg] | with_reducible refine gsel_pure (by with_unfolding_all rfl) _ (fun hg => by (try simp at hg); simp [hg]; rfl) ?_ | with_reducible refine dsel_pure (by with_unfolding_all rfl) _ (fun hg => by (try simp at hg); simp [hg]; rfl) ?_ | with_reducible refine awp_draw (by kernel_rfl) (by decide +kernel) ?_)
    refine gop_call' (hA2) (by (first | simp [wrap_i64] | simp (disch := omega) [wrap_i64]); try rfl) (by simp) (by simp) ?_
    repeat (first | simp | with_reducible refine And.intro (by omega) ?_ | with_reducible refine optK_if (by omega) ?_ | with_reducible refine optD_if (by omega) ?_ | simp (disch := omega) only [wrap_i64, if_pos, if_neg] | with_reducible refine gsel_pure (by with_unfolding_all rfl) _ (fun hg => by (try simp at hg); simp [hg]; rfl) ?_ | with_reducible refine dsel_pure (by with_unfolding_all rfl) _ (fun hg => by (try simp at hg); simp [hg]; rfl) ?_ | with_reducible refine awp_draw (by kernel_rfl) (by decide +kernel) ?_)
    refine hQ _ _ (ret2 (by simp [retAV, resAV]; rfl) (by simp; rfl) ?_)
    rfl
theorem at_next (name : ByteArray) (l : List I8) (k : Int) : At Tryd.prog 15 [fAV name l, iV .i64 k] (.tup [if funcE l = 0 ∧ 0 ≤ k ∧ k < l.length then intsA (natI (sucs l k.toNat)) else .cell .z, iV .i64 (if funcE l = 0 then (if 0 ≤ k ∧ k < l.length then 0 else 2) else funcE l)]) := by
  by_cases hf : funcE l = 0
  rotate_left
  · have e1 : eqI (funcE l) 0 = false := by simp [eqI, hf]
    refine at_code mixed Tryd.func15 (by kernel_rfl) rfl (by kernel_rfl) (by kernel_rfl) rfl fun Q hQ => ?_
    repeat (first | simp | with_reducible refine And.intro (by omega) ?_ | with_reducible refine optK_if (by omega) ?_ | with_reducible refine optD_if (by omega) ?_ | simp (disch := omega) only [wrap_i64, if_pos, if_neg] | with_reducible refine gsel_pure (by with_unfolding_all rfl) _ (fun hg => by (try simp at hg); simp [hg]; rfl) ?_ | with_reducible refine dsel_pure (by with_unfolding_all rfl) _ (fun hg => by (try simp at hg); simp [hg]; rfl) ?_ | with_reducible refine awp_draw (by kernel_rfl) (by decide +kernel) ?_)
    refine gop_call (at_cfgCheck name l) (by (first | simp [wrap_i64] | simp (disch := omega) [wrap_i64]); try rfl) (by simp) (by simp) ?_
    repeat (first | simp [e1] | with_reducible refine And.intro (by omega) ?_ | with_reducible refine optK_if (by omega) ?_ | with_reducible refine optD_if (by omega) ?_ | simp (disch := omega) only [wrap_i64, if_pos, if_neg] | with_reducible refine gsel_pure (by with_unfolding_all rfl) _ (fun hg => by (try simp at hg); simp [hg, e1]; rfl) ?_ | with_reducible refine dsel_pure (by with_unfolding_all rfl) _ (fun hg => by (try simp at hg); simp [hg, e1]; rfl) ?_ | with_reducible refine awp_draw (by kernel_rfl) (by decide +kernel) ?_)
    refine hQ _ _ (ret2 (by simp [retAV, resAV]; rfl) (by simp; rfl) ?_)
    simp [hf]
  have ok := okL hf
  have hlen := ok.len
  refine at_code mixed Tryd.func15 (by kernel_rfl) rfl (by kernel_rfl) (by kernel_rfl) rfl fun Q hQ => ?_
  repeat (first | simp | with_reducible refine And.intro (by omega) ?_ | with_reducible refine optK_if (by omega) ?_ | with_reducible refine optD_if (by omega) ?_ | simp (disch := omega) only [wrap_i64, if_pos, if_neg] | with_reducible refine gsel_pure (by with_unfolding_all rfl) _ (fun hg => by (try simp at hg); simp [hg]; rfl) ?_ | with_reducible refine dsel_pure (by with_unfolding_all rfl) _ (fun hg => by (try simp at hg); simp [hg]; rfl) ?_ | with_reducible refine awp_draw (by kernel_rfl) (by decide +kernel) ?_)
  refine gop_call (at_cfgCheck name l) (by (first | simp [wrap_i64] | simp (disch := omega) [wrap_i64]); try rfl) (by simp) (by simp) ?_
  repeat (first | simp [hf] | with_reducible refine And.intro (by omega) ?_ | with_reducible refine optK_if (by omega) ?_ | with_reducible refine optD_if (by omega) ?_ | simp (disch := omega) only [wrap_i64, if_pos, if_neg] | with_reducible refine gsel_pure (by with_unfolding_all rfl) _ (fun hg => by (try simp at hg); simp [hg, hf]; rfl) ?_ | with_reducible refine dsel_pure (by with_unfolding_all rfl) _ (fun hg => by (try simp at hg); simp [hg, hf]; rfl) ?_ | with_reducible refine awp_draw (by kernel_rfl) (by decide +kernel) ?_)
  (with_reducible refine condK_intro (fun hk => ?_) (fun hk => ?_)) <;> (try simp only [hk]) <;> (try simp [andB, orB, eqI, ltI, Int.natCast_inj] at hk)
  · repeat (first | simp [hk] | with_reducible refine And.intro (by omega) ?_ | with_reducible refine optK_if (by omega) ?_ | with_reducible refine optD_if (by omega) ?_ | simp (disch := omega) only [wrap_i64, if_pos, if_neg] | with_reducible refine gsel_pure (by with_unfolding_all rfl) _ (fun hg => by (try simp at hg); simp [hg, hk]; rfl) ?_ | with_reducible refine dsel_pure (by with_unfolding_all rfl) _ (fun hg => by (try simp at hg); simp [hg, hk]; rfl) ?_ | with_reducible refine awp_draw (by kernel_rfl) (by decide +kernel) ?_)
    refine hQ _ _ (ret2 (by simp [retAV, resAV]; rfl) (by simp; rfl) ?_)
    have : ¬ (0 ≤ k ∧ k < l.length) := by omega
    simp [hf, this]
  · obtain ⟨m, rfl⟩ : ∃ m : Nat, k = m := ⟨k.toNat, by omega⟩
    have hm : m < l.length := by omega
    repeat (first | simp [hk] | with_reducible refine And.intro (by omega) ?_ | with_reducible refine optK_if (by omega) ?_ | with_reducible refine optD_if (by omega) ?_ | simp (disch := omega) only [wrap_i64, if_pos, if_neg] | with_reducible refine gsel_pure (by with_unfolding_all rfl) _ (fun hg => by (try simp at hg); simp [hg, hk]; rfl) ?_ | with_reducible refine dsel_pure (by with_unfolding_all rfl) _ (fun hg => by (try simp at hg); simp [hg, hk]; rfl) ?_ | with_reducible refine awp_draw (by kernel_rfl) (by decide +kernel) ?_)
    refine gop_call' (at_successors name l m) (by (first | simp [hk] | simp (disch := omega) [hk, wrap_i64]); try rfl) (by simp) (by simp) ?_
    repeat (first | simp [hk] | with_reducible refine And.intro (by omega) ?_ | with_reducible refine optK_if (by omega) ?_ | with_reducible refine optD_if (by omega) ?_ | simp (disch := omega) only [wrap_i64, if_pos, if_neg] | with_reducible refine gsel_pure (by with_unfolding_all rfl) _ (fun hg => by (try simp at hg); simp [hg, hk]; rfl) ?_ | with_reducible refine dsel_pure (by with_unfolding_all rfl) _ (fun hg => by (try simp at hg); simp [hg, hk]; rfl) ?_ | with_reducible refine awp_draw (by kernel_rfl) (by decide +kernel) ?_)
    have hsl := sucs_len l m
    refine gop_call' (at_collect 74 [.bx [sC name, .sl l.length (codeC l)], .bx [iC m]] (natI (sucs l m)) (by simp; omega) (by simpa using seq_successors name l ok m hm)) (by (first | simp [hk] | simp (disch := omega) [hk, wrap_i64]); try rfl) (by simp) (by simp) ?_
    repeat (first | simp [hk] | with_reducible refine And.intro (by omega) ?_ | with_reducible refine optK_if (by omega) ?_ | with_reducible refine optD_if (by omega) ?_ | simp (disch := omega) only [wrap_i64, if_pos, if_neg] | with_reducible refine gsel_pure (by with_unfolding_all rfl) _ (fun hg => by (try simp at hg); simp [hg, hk]; rfl) ?_ | with_reducible refine dsel_pure (by with_unfolding_all rfl) _ (fun hg => by (try simp at hg); simp [hg, hk]; rfl) ?_ | with_reducible refine awp_draw (by kernel_rfl) (by decide +kernel) ?_)
    refine hQ _ _ (ret2 (by simp [retAV, resAV]; rfl) (by simp; rfl) ?_)
    simp [hf, hm]
end Go.Proofs
end
section
set_option linter.all false
namespace Go.Proofs
open Go.Fw Go.Dr
set_option maxRecDepth 100000

abbrev fC (name : ByteArray) (l : List I8) : List CV := [sC name, .sl l.length (codeC l)]
abbrev fP (name : ByteArray) (l : List I8) : List AC := [.p (sC name), .p (.sl l.length (codeC l))]
set_option maxHeartbeats 1000000 in
theorem at_visit (name : ByteArray) (l : List I8) (ok : OkL l) (w : Int) : At Tryd.prog 61 [fAV name l, iV .i64 w] (.cell (.p (.mp (natI (visitL l w)) (cstC (natI (visitL l w)))))) := by
  have hlen := ok.len
  refine at_code mixed Tryd.func61 (by kernel_rfl) rfl (by kernel_rfl) (by kernel_rfl) rfl fun Q hQ => ?_
  repeat (first | simp | with_reducible refine And.intro (by omega) ?_ | with_reducible refine optK_if (by omega) ?_ | with_reducible refine optD_if (by omega) ?_ | simp (disch := omega) only [wrap_i64, if_pos, if_neg] | with_reducible refine gsel_pure (by with_unfolding_all rfl) _ (fun hg => by (try simp at hg); simp [hg]; rfl) ?_ | with_reducible refine dsel_pure (by with_unfolding_all rfl) _ (fun hg => by (try simp at hg); simp [hg]; rfl) ?_ | with_reducible refine awp_draw (by kernel_rfl) (by decide +kernel) ?_)
  (with_reducible refine condK_intro (fun hc => ?_) (fun hc => ?_)) <;> (try simp only [hc]) <;> (try simp [andB, orB, eqI, ltI, Int.natCast_inj] at hc)
  · repeat (first | simp [hc] | with_reducible refine And.intro (by omega) ?_ | with_reducible refine optK_if (by omega) ?_ | with_reducible refine optD_if (by omega) ?_ | simp (disch := omega) only [wrap_i64, if_pos, if_neg] | with_reducible refine gsel_pure (by with_unfolding_all rfl) _ (fun hg => by (try simp at hg); simp [hg, hc]; rfl) ?_ | with_reducible refine dsel_pure (by with_unfolding_all rfl) _ (fun hg => by (try simp at hg); simp [hg, hc]; rfl) ?_ | with_reducible refine awp_draw (by kernel_rfl) (by decide +kernel) ?_)
    refine hQ _ _ (ret2 (by simp [retAV, resAV]; rfl) (by simp; rfl) ?_)
    have : visitL l w = [] := by unfold visitL; rw [if_pos (by simpa using hc)]
    rw [this]; rfl
  · have hv : visitL l w = visitF l w (2 * l.length + 2) [0] [0] := by unfold visitL; rw [if_neg (by simpa using hc)]
    have hpos : 0 < l.length := List.length_pos_iff.2 hc.1
    have hV0 : VOk l.length ([0], [0]) := ⟨by simp, by simp; omega, by simp; omega, by simp⟩
    repeat (first | simp [hc] | with_reducible refine And.intro (by omega) ?_ | with_reducible refine optK_if (by omega) ?_ | with_reducible refine optD_if (by omega) ?_ | simp (disch := omega) only [wrap_i64, if_pos, if_neg] | with_reducible refine gsel_pure (by with_unfolding_all rfl) _ (fun hg => by (try simp at hg); simp [hg, hc]; rfl) ?_ | with_reducible refine dsel_pure (by with_unfolding_all rfl) _ (fun hg => by (try simp at hg); simp [hg, hc]; rfl) ?_ | with_reducible refine awp_draw (by kernel_rfl) (by decide +kernel) ?_)
    refine awp_loopV (fun ((F, seen, todo) : Nat × List Nat × List Nat) (s : St) => (VOk l.length (seen, todo)) ∧ (vms l.length (seen, todo) < F) ∧ (visitL l w = visitF l w F seen todo) ∧ s.env 2 = .cell (.ptr 0 0) ∧ s.box 0 = some (fP name l) ∧ s.env 3 = .cell (.ptr 64 0) ∧ s.box 64 = some ([.p (iC w)]) ∧ s.env 5 = .cell (.ptr 65600 0) ∧ s.box 65600 = some ([.mown 65536 (natI seen) (cstM (natI seen))]) ∧ s.env 6 = .cell (.ptr 327744 0) ∧ s.box 327744 = some ([.own 327680 1 todo.length (intsC (natI todo))])) (fun ((F, seen, todo) : Nat × List Nat × List Nat) => F) ((2 * l.length + 2, [0], [0])) ⟨by first | omega | assumption | (simp [addK, mputV, mfind, cstM, hV0, hv, vms]; done) | (simp [addK, mputV, mfind, cstM, hV0, hv, vms]; omega), by first | omega | assumption | (simp [addK, mputV, mfind, cstM, hV0, hv, vms]; done) | (simp [addK, mputV, mfind, cstM, hV0, hv, vms]; omega), by first | omega | assumption | (simp [addK, mputV, mfind, cstM, hV0, hv, vms]; done) | (simp [addK, mputV, mfind, cstM, hV0, hv, vms]; omega), by simp [hc, addK, mputV, mfind, cstM, hV0, hv, vms], by simp [hc, addK, mputV, mfind, cstM, hV0, hv, vms], by simp [hc, addK, mputV, mfind, cstM, hV0, hv, vms], by simp [hc, addK, mputV, mfind, cstM, hV0, hv, vms], by simp [hc, addK, mputV, mfind, cstM, hV0, hv, vms], by simp [hc, addK, mputV, mfind, cstM, hV0, hv, vms], by simp [hc, addK, mputV, mfind, cstM, hV0, hv, vms], by simp [hc, addK, mputV, mfind, cstM, hV0, hv, vms]⟩ fun (F, seen, todo) s hsA LA hLA => ?_
    obtain ⟨hV, hF, hr, h2, b0, h3, b64, h5, b65600, h6, b327744⟩ := hsA
    rcases todo.eq_nil_or_concat with rfl | ⟨pre, i, rfl⟩
    · repeat (first | simp [h2, b0, h3, b64, h5, b65600, h6, b327744, hc] | with_reducible refine And.intro (by omega) ?_ | with_reducible refine optK_if (by omega) ?_ | with_reducible refine optD_if (by omega) ?_ | simp (disch := omega) only [wrap_i64, if_pos, if_neg] | with_reducible refine gsel_pure (by with_unfolding_all rfl) _ (fun hg => by (try simp at hg); simp [hg, h2, b0, h3, b64, h5, b65600, h6, b327744, hc]; rfl) ?_ | with_reducible refine dsel_pure (by with_unfolding_all rfl) _ (fun hg => by (try simp at hg); simp [hg, h2, b0, h3, b64, h5, b65600, h6, b327744, hc]; rfl) ?_ | with_reducible refine awp_draw (by kernel_rfl) (by decide +kernel) ?_)
      refine hQ _ _ (ret2 (by simp [retAV, resAV]; rfl) (by simp; rfl) ?_)
      have : F = F - 1 + 1 := by omega
      rw [hr, this]; simp [visitF]
    · have hi : i < l.length := hV.todo i (by simp)
      have hV' : VOk l.length (seen, pre) := ⟨hV.nodup, hV.seen, fun x hx => hV.todo x (by simp; exact .inl hx), by have := hV.len; simp at this; simp; omega⟩
      have hsn : seen.length ≤ l.length := nodup_len hV.nodup hV.seen
      have hpl : pre.length ≤ seen.length := hV'.len
      have eA : intsC (natI (pre.concat i)) = intsC (natI pre) ++ [iC i] := by rw [List.concat_eq_append, natI_append, intsC_append]; rfl
      have eT : (intsC (natI pre) ++ [iC i]).take pre.length = intsC (natI pre) := by rw [List.take_append_of_le_length (by simp), List.take_of_length_le (by simp)]
      have eG : (intsC (natI pre) ++ [iC i])[pre.length]? = some (iC i) := by rw [List.getElem?_append_right (by simp)]; simp
      rw [eA] at b327744
      have e1 : ((pre ++ [i]).length : Int) = pre.length + 1 := by simp
      repeat (first | simp [h2, b0, h3, b64, h5, b65600, h6, b327744, hc, e1, eT, eG] | with_reducible refine And.intro (by omega) ?_ | with_reducible refine optK_if (by omega) ?_ | with_reducible refine optD_if (by omega) ?_ | simp (disch := omega) only [wrap_i64, if_pos, if_neg] | with_reducible refine gsel_pure (by with_unfolding_all rfl) _ (fun hg => by (try simp at hg); simp [hg, h2, b0, h3, b64, h5, b65600, h6, b327744, hc, e1, eT, eG]; rfl) ?_ | with_reducible refine dsel_pure (by with_unfolding_all rfl) _ (fun hg => by (try simp at hg); simp [hg, h2, b0, h3, b64, h5, b65600, h6, b327744, hc, e1, eT, eG]; rfl) ?_ | with_reducible refine awp_draw (by kernel_rfl) (by decide +kernel) ?_)
      refine gop_call' (at_successors name l i) (by (first | simp [h2, b0, h3, b64, h5, b65600, h6, b327744, hc] | simp (disch := omega) [h2, b0, h3, b64, h5, b65600, h6, b327744, hc, wrap_i64]); try rfl) (by simp) (by simp) ?_
      repeat (first | simp [h2, b0, h3, b64, h5, b65600, h6, b327744, hc, e1, eT, eG] | with_reducible refine And.intro (by omega) ?_ | with_reducible refine optK_if (by omega) ?_ | with_reducible refine optD_if (by omega) ?_ | simp (disch := omega) only [wrap_i64, if_pos, if_neg] | with_reducible refine gsel_pure (by with_unfolding_all rfl) _ (fun hg => by (try simp at hg); simp [hg, h2, b0, h3, b64, h5, b65600, h6, b327744, hc, e1, eT, eG]; rfl) ?_ | with_reducible refine dsel_pure (by with_unfolding_all rfl) _ (fun hg => by (try simp at hg); simp [hg, h2, b0, h3, b64, h5, b65600, h6, b327744, hc, e1, eT, eG]; rfl) ?_ | with_reducible refine awp_draw (by kernel_rfl) (by decide +kernel) ?_)
      refine awp_range (T := [10, 11, 12, 13]) (gf := 74) (cs := [.bx (fC name l), .bx [iC i]]) (evs (natI (sucs l i))) (fun (k : Nat) (bx : Nat → Option (List AC)) => bx 0 = some (fP name l) ∧ bx 64 = some ([.p (iC w)]) ∧ bx 65600 = some ([.mown 65536 (natI (pushL l w seen pre i k).1) (cstM (natI (pushL l w seen pre i k).1))]) ∧ bx 327744 = some ([.own 327680 1 (pushL l w seen pre i k).2.length (intsC (natI (pushL l w seen pre i k).2))])) rfl (by simp [h2, b0, h3, b64, h5, b65600, h6, b327744, hc, pushL, eT]) (by simpa [fC] using seq_successors name l ok i hi) (fun x hx => by simp [evs] at hx; obtain ⟨y, _, rfl⟩ := hx; rfl) ⟨by simp [h2, b0, h3, b64, h5, b65600, h6, b327744, hc, pushL, eT], by simp [h2, b0, h3, b64, h5, b65600, h6, b327744, hc, pushL, eT], by simp [h2, b0, h3, b64, h5, b65600, h6, b327744, hc, pushL, eT], by simp [h2, b0, h3, b64, h5, b65600, h6, b327744, hc, pushL, eT]⟩ (fun k x bx hx ⟨b0, b64, b65600, b327744⟩ => ?_) (fun bx ⟨b0, b64, b65600, b327744⟩ => ?_)
      · obtain ⟨hk, rfl⟩ := evs_get hx
        have hk' : k < (sucs l i).length := by simpa using hk
        have hx' : (natI (sucs l i))[k] = (((sucs l i)[k] : Nat) : Int) := by simp [natI]
        have hps := pushL_succ (w := w) (seen := seen) (todo := pre) hk'
        have hpo := pushL_ok w i hV' k (by omega)
        have hTl := hpo.1.len
        have hSl := nodup_len hpo.1.nodup hpo.1.seen
        rw [hx']
        clear hx'
        generalize hst : pushL l w seen pre i k = st at *
        obtain ⟨S, T⟩ := st
        generalize (sucs l i)[k] = X at *
        simp only at hTl hSl b65600 b327744
        by_cases hm : X ∈ S
        · have hg := mgetM_in (mem_natI.2 hm)
          have hpv : pushV l.length w (S, T) X = (S, T) := by unfold pushV; rw [if_neg (by simp [hm])]
          rw [hpv] at hps
          repeat (first | simp [h2, h3, h5, h6, b0, b64, b65600, b327744, hc, hg] | with_reducible refine And.intro (by omega) ?_ | with_reducible refine optK_if (by omega) ?_ | with_reducible refine optD_if (by omega) ?_ | simp (disch := omega) only [wrap_i64, if_pos, if_neg] | with_reducible refine gsel_pure (by with_unfolding_all rfl) _ (fun hg => by (try simp at hg); simp [hg, h2, h3, h5, h6, b0, b64, b65600, b327744, hc, hg]; rfl) ?_ | with_reducible refine dsel_pure (by with_unfolding_all rfl) _ (fun hg => by (try simp at hg); simp [hg, h2, h3, h5, h6, b0, b64, b65600, b327744, hc, hg]; rfl) ?_ | with_reducible refine awp_draw (by kernel_rfl) (by decide +kernel) ?_)
          refine rPost_normal ⟨by simp [h2, h3, h5, h6, b0, b64, b65600, b327744, hc, hps], by simp [h2, h3, h5, h6, b0, b64, b65600, b327744, hc, hps], by simp [h2, h3, h5, h6, b0, b64, b65600, b327744, hc, hps], by simp [h2, h3, h5, h6, b0, b64, b65600, b327744, hc, hps]⟩
        · have hg := mget_out (cstM (natI S)) (fun h => hm (mem_natI.1 h))
          repeat (first | simp [h2, h3, h5, h6, b0, b64, b65600, b327744, hc, hg] | with_reducible refine And.intro (by omega) ?_ | with_reducible refine optK_if (by omega) ?_ | with_reducible refine optD_if (by omega) ?_ | simp (disch := omega) only [wrap_i64, if_pos, if_neg] | with_reducible refine gsel_pure (by with_unfolding_all rfl) _ (fun hg => by (try simp at hg); simp [hg, h2, h3, h5, h6, b0, b64, b65600, b327744, hc, hg]; rfl) ?_ | with_reducible refine dsel_pure (by with_unfolding_all rfl) _ (fun hg => by (try simp at hg); simp [hg, h2, h3, h5, h6, b0, b64, b65600, b327744, hc, hg]; rfl) ?_ | with_reducible refine awp_draw (by kernel_rfl) (by decide +kernel) ?_)
          (with_reducible refine condK_intro (fun hc2 => ?_) (fun hc2 => ?_)) <;> (try simp only [hc2]) <;> (try simp [andB, orB, eqI, ltI, Int.natCast_inj] at hc2)
          · have hpv : pushV l.length w (S, T) X = (S ++ [X], T ++ [X]) := by unfold pushV; rw [if_pos (by simp [hm]; omega)]
            rw [hpv] at hps
            have hak : addK (natI S) X = natI (S ++ [X]) := by rw [addK_natI, addN, if_neg hm]
            repeat (first | simp [h2, h3, h5, h6, b0, b64, b65600, b327744, hc, hc2, hg, hak] | with_reducible refine And.intro (by omega) ?_ | with_reducible refine optK_if (by omega) ?_ | with_reducible refine optD_if (by omega) ?_ | simp (disch := omega) only [wrap_i64, if_pos, if_neg] | with_reducible refine gsel_pure (by with_unfolding_all rfl) _ (fun hg => by (try simp at hg); simp [hg, h2, h3, h5, h6, b0, b64, b65600, b327744, hc, hc2, hg, hak]; rfl) ?_ | with_reducible refine dsel_pure (by with_unfolding_all rfl) _ (fun hg => by (try simp at hg); simp [hg, h2, h3, h5, h6, b0, b64, b65600, b327744, hc, hc2, hg, hak]; rfl) ?_ | with_reducible refine awp_draw (by kernel_rfl) (by decide +kernel) ?_)
            refine rPost_normal ⟨by simp [h2, h3, h5, h6, b0, b64, b65600, b327744, hc, hc2, hps, hak, natI_append, intsC_append], by simp [h2, h3, h5, h6, b0, b64, b65600, b327744, hc, hc2, hps, hak, natI_append, intsC_append], by simp [h2, h3, h5, h6, b0, b64, b65600, b327744, hc, hc2, hps, hak, natI_append, intsC_append], by simp [h2, h3, h5, h6, b0, b64, b65600, b327744, hc, hc2, hps, hak, natI_append, intsC_append]⟩
          · have hpv : pushV l.length w (S, T) X = (S, T) := by unfold pushV; rw [if_neg (by simp; omega)]
            rw [hpv] at hps
            repeat (first | simp [h2, h3, h5, h6, b0, b64, b65600, b327744, hc, hc2, hg] | with_reducible refine And.intro (by omega) ?_ | with_reducible refine optK_if (by omega) ?_ | with_reducible refine optD_if (by omega) ?_ | simp (disch := omega) only [wrap_i64, if_pos, if_neg] | with_reducible refine gsel_pure (by with_unfolding_all rfl) _ (fun hg => by (try simp at hg); simp [hg, h2, h3, h5, h6, b0, b64, b65600, b327744, hc, hc2, hg]; rfl) ?_ | with_reducible refine dsel_pure (by with_unfolding_all rfl) _ (fun hg => by (try simp at hg); simp [hg, h2, h3, h5, h6, b0, b64, b65600, b327744, hc, hc2, hg]; rfl) ?_ | with_reducible refine awp_draw (by kernel_rfl) (by decide +kernel) ?_)
            refine rPost_normal ⟨by simp [h2, h3, h5, h6, b0, b64, b65600, b327744, hc, hc2, hps], by simp [h2, h3, h5, h6, b0, b64, b65600, b327744, hc, hc2, hps], by simp [h2, h3, h5, h6, b0, b64, b65600, b327744, hc, hc2, hps], by simp [h2, h3, h5, h6, b0, b64, b65600, b327744, hc, hc2, hps]⟩
      · simp only [evs_length, natI_length] at b65600 b327744
        have hpo := pushL_ok w i hV' _ (Nat.le_refl _)
        have hF1 : F = (F - 1) + 1 := by omega
        have hms : vms l.length (seen, pre.concat i) = vms l.length (seen, pre) + 1 := by simp [vms]; omega
        have g1 : (pre.concat i).getLast? = some i := by simp
        have g2 : (pre.concat i).dropLast = pre := by simp
        rw [hF1, visitF, g1] at hr
        simp only [g2] at hr
        generalize hst : pushL l w seen pre i (sucs l i).length = st at *
        obtain ⟨S, T⟩ := st
        simp only at b65600 b327744 hr
        repeat (first | simp [h2, h3, h5, h6, b0, b64, b65600, b327744, hc] | with_reducible refine And.intro (by omega) ?_ | with_reducible refine optK_if (by omega) ?_ | with_reducible refine optD_if (by omega) ?_ | simp (disch := omega) only [wrap_i64, if_pos, if_neg] | with_reducible refine gsel_pure (by with_unfolding_all rfl) _ (fun hg => by (try simp at hg); simp [hg, h2, h3, h5, h6, b0, b64, b65600, b327744, hc]; rfl) ?_ | with_reducible refine dsel_pure (by with_unfolding_all rfl) _ (fun hg => by (try simp at hg); simp [hg, h2, h3, h5, h6, b0, b64, b65600, b327744, hc]; rfl) ?_ | with_reducible refine awp_draw (by kernel_rfl) (by decide +kernel) ?_)
        refine hLA ((F - 1, S, T)) _ ⟨by exact hpo.1, by have := hpo.2; omega, by exact hr, by simp [h2, h3, h5, h6, b0, b64, b65600, b327744, hc], by simp [h2, h3, h5, h6, b0, b64, b65600, b327744, hc], by simp [h2, h3, h5, h6, b0, b64, b65600, b327744, hc], by simp [h2, h3, h5, h6, b0, b64, b65600, b327744, hc], by simp [h2, h3, h5, h6, b0, b64, b65600, b327744, hc], by simp [h2, h3, h5, h6, b0, b64, b65600, b327744, hc], by simp [h2, h3, h5, h6, b0, b64, b65600, b327744, hc], by simp [h2, h3, h5, h6, b0, b64, b65600, b327744, hc]⟩ (by first | omega | (simp; omega))
theorem at_sorted (name : ByteArray) (l : List I8) (hlen : l.length ≤ 1000000) (ks : List Int) : At Tryd.prog 52 [fAV name l, .cell (.p (.mp ks (cstC ks)))] (intsA (natI (sortL ks l.length))) := by
  refine at_pure (r := .cell (.own 0 1 (sortL ks l.length).length (intsC (natI (sortL ks l.length))))) ?_ (by simp)
  refine at_code mixed Tryd.func52 (by kernel_rfl) rfl (by kernel_rfl) (by kernel_rfl) rfl fun Q hQ => ?_
  repeat (first | simp | with_reducible refine And.intro (by omega) ?_ | with_reducible refine optK_if (by omega) ?_ | with_reducible refine optD_if (by omega) ?_ | simp (disch := omega) only [wrap_i64, if_pos, if_neg] | with_reducible refine gsel_pure (by with_unfolding_all rfl) _ (fun hg => by (try simp at hg); simp [hg]; rfl) ?_ | with_reducible refine dsel_pure (by with_unfolding_all rfl) _ (fun hg => by (try simp at hg); simp [hg]; rfl) ?_ | with_reducible refine awp_draw (by kernel_rfl) (by decide +kernel) ?_)
  refine awp_loopW (fun (k : Nat) (s : St) => (k ≤ l.length) ∧ s.env 10 = iV .i64 k ∧ s.env 8 = .cell (.p (.sl l.length (codeC l))) ∧ s.env 9 = iV .i64 l.length ∧ s.env 1 = .cell (.p (.mp ks (cstC ks))) ∧ s.env 5 = .cell (.own 655360000 1 (sortL ks k).length (intsC (natI (sortL ks k))))) (fun (k : Nat) => l.length - k) _ (Weak.own 5 655360000 1 (by simp)) (0) ⟨by first | omega | assumption | (simp [sortL]; done) | (simp [sortL]; omega), by simp [sortL], by simp [sortL], by simp [sortL], by simp [sortL], by simp [sortL]⟩ fun k s hsA LA hLA => ?_
  obtain ⟨hk, h10, h8, h9, h1, h5⟩ := hsA
  repeat (first | simp [h10, h8, h9, h1, h5] | with_reducible refine And.intro (by omega) ?_ | with_reducible refine optK_if (by omega) ?_ | with_reducible refine optD_if (by omega) ?_ | simp (disch := omega) only [wrap_i64, if_pos, if_neg] | with_reducible refine gsel_pure (by with_unfolding_all rfl) _ (fun hg => by (try simp at hg); simp [hg, h10, h8, h9, h1, h5]; rfl) ?_ | with_reducible refine dsel_pure (by with_unfolding_all rfl) _ (fun hg => by (try simp at hg); simp [hg, h10, h8, h9, h1, h5]; rfl) ?_ | with_reducible refine awp_draw (by kernel_rfl) (by decide +kernel) ?_)
  (with_reducible refine condK_intro (fun hlt => ?_) (fun hlt => ?_)) <;> (try simp only [hlt]) <;> (try simp [andB, orB, eqI, ltI, Int.natCast_inj] at hlt)
  · have hsl := sortL_len ks k
    by_cases hm : (k : Int) ∈ ks
    · have hg := mgetC_in hm
      repeat (first | simp [h10, h8, h9, h1, h5, hlt, hg] | with_reducible refine And.intro (by omega) ?_ | with_reducible refine optK_if (by omega) ?_ | with_reducible refine optD_if (by omega) ?_ | simp (disch := omega) only [wrap_i64, if_pos, if_neg] | with_reducible refine gsel_pure (by with_unfolding_all rfl) _ (fun hg => by (try simp at hg); simp [hg, h10, h8, h9, h1, h5, hlt, hg]; rfl) ?_ | with_reducible refine dsel_pure (by with_unfolding_all rfl) _ (fun hg => by (try simp at hg); simp [hg, h10, h8, h9, h1, h5, hlt, hg]; rfl) ?_ | with_reducible refine awp_draw (by kernel_rfl) (by decide +kernel) ?_)
      refine hLA (k + 1) _ ⟨by first | omega | assumption | (simp [sortL_in hm, natI_append, intsC_append]; done) | (simp [sortL_in hm, natI_append, intsC_append]; omega), by simp [h10, h8, h9, h1, h5, hlt, sortL_in hm, natI_append, intsC_append], by simp [h10, h8, h9, h1, h5, hlt, sortL_in hm, natI_append, intsC_append], by simp [h10, h8, h9, h1, h5, hlt, sortL_in hm, natI_append, intsC_append], by simp [h10, h8, h9, h1, h5, hlt, sortL_in hm, natI_append, intsC_append], by simp [h10, h8, h9, h1, h5, hlt, sortL_in hm, natI_append, intsC_append]⟩ (by first | omega | (simp; omega))
    · have hg := mget_out (cstC ks) hm
      repeat (first | simp [h10, h8, h9, h1, h5, hlt, hg] | with_reducible refine And.intro (by omega) ?_ | with_reducible refine optK_if (by omega) ?_ | with_reducible refine optD_if (by omega) ?_ | simp (disch := omega) only [wrap_i64, if_pos, if_neg] | with_reducible refine gsel_pure (by with_unfolding_all rfl) _ (fun hg => by (try simp at hg); simp [hg, h10, h8, h9, h1, h5, hlt, hg]; rfl) ?_ | with_reducible refine dsel_pure (by with_unfolding_all rfl) _ (fun hg => by (try simp at hg); simp [hg, h10, h8, h9, h1, h5, hlt, hg]; rfl) ?_ | with_reducible refine awp_draw (by kernel_rfl) (by decide +kernel) ?_)
      refine hLA (k + 1) _ ⟨by first | omega | assumption | (simp [sortL_out hm]; done) | (simp [sortL_out hm]; omega), by simp [h10, h8, h9, h1, h5, hlt, sortL_out hm], by simp [h10, h8, h9, h1, h5, hlt, sortL_out hm], by simp [h10, h8, h9, h1, h5, hlt, sortL_out hm], by simp [h10, h8, h9, h1, h5, hlt, sortL_out hm], by simp [h10, h8, h9, h1, h5, hlt, sortL_out hm]⟩ (by first | omega | (simp; omega))
  · have : k = l.length := by omega
    subst this
    repeat (first | simp [h10, h8, h9, h1, h5, hlt] | with_reducible refine And.intro (by omega) ?_ | with_reducible refine optK_if (by omega) ?_ | with_reducible refine optD_if (by omega) ?_ | simp (disch := omega) only [wrap_i64, if_pos, if_neg] | with_reducible refine gsel_pure (by with_unfolding_all rfl) _ (fun hg => by (try simp at hg); simp [hg, h10, h8, h9, h1, h5, hlt]; rfl) ?_ | with_reducible refine dsel_pure (by with_unfolding_all rfl) _ (fun hg => by (try simp at hg); simp [hg, h10, h8, h9, h1, h5, hlt]; rfl) ?_ | with_reducible refine awp_draw (by kernel_rfl) (by decide +kernel) ?_)
    refine hQ _ _ (ret2 (by simp [retAV, resAV]; rfl) (by simp; rfl) ?_)
    rfl
theorem at_leaders (name : ByteArray) (l : List I8) : At Tryd.prog 18 [fAV name l] (.tup [if funcE l = 0 then intsA (natI (sortL (leadK l l.length) l.length)) else .cell .z, iV .i64 (funcE l)]) := by
  by_cases hf : funcE l = 0
  rotate_left
  · have e1 : eqI (funcE l) 0 = false := by simp [eqI, hf]
    refine at_code mixed Tryd.func18 (by kernel_rfl) rfl (by kernel_rfl) (by kernel_rfl) rfl fun Q hQ => ?_
    repeat (first | simp | with_reducible refine And.intro (by omega) ?_ | with_reducible refine optK_if (by omega) ?_ | with_reducible refine optD_if (by omega) ?_ | simp (disch := omega) only [wrap_i64, if_pos, if_neg] | with_reducible refine gsel_pure (by with_unfolding_all rfl) _ (fun hg => by (try simp at hg); simp [hg]; rfl) ?_ | with_reducible refine dsel_pure (by with_unfolding_all rfl) _ (fun hg => by (try simp at hg); simp [hg]; rfl) ?_ | with_reducible refine awp_draw (by kernel_rfl) (by decide +kernel) ?_)
    refine gop_call (at_cfgCheck name l) (by (first | simp [wrap_i64] | simp (disch := omega) [wrap_i64]); try rfl) (by simp) (by simp) ?_
    repeat (first | simp [e1] | with_reducible refine And.intro (by omega) ?_ | with_reducible refine optK_if (by omega) ?_ | with_reducible refine optD_if (by omega) ?_ | simp (disch := omega) only [wrap_i64, if_pos, if_neg] | with_reducible refine gsel_pure (by with_unfolding_all rfl) _ (fun hg => by (try simp at hg); simp [hg, e1]; rfl) ?_ | with_reducible refine dsel_pure (by with_unfolding_all rfl) _ (fun hg => by (try simp at hg); simp [hg, e1]; rfl) ?_ | with_reducible refine awp_draw (by kernel_rfl) (by decide +kernel) ?_)
    refine hQ _ _ (ret2 (by simp [retAV, resAV]; rfl) (by simp; rfl) ?_)
    simp [hf]
  have ok := okL hf
  have hlen := ok.len
  refine at_code mixed Tryd.func18 (by kernel_rfl) rfl (by kernel_rfl) (by kernel_rfl) rfl fun Q hQ => ?_
  repeat (first | simp | with_reducible refine And.intro (by omega) ?_ | with_reducible refine optK_if (by omega) ?_ | with_reducible refine optD_if (by omega) ?_ | simp (disch := omega) only [wrap_i64, if_pos, if_neg] | with_reducible refine gsel_pure (by with_unfolding_all rfl) _ (fun hg => by (try simp at hg); simp [hg]; rfl) ?_ | with_reducible refine dsel_pure (by with_unfolding_all rfl) _ (fun hg => by (try simp at hg); simp [hg]; rfl) ?_ | with_reducible refine awp_draw (by kernel_rfl) (by decide +kernel) ?_)
  refine gop_call (at_cfgCheck name l) (by (first | simp [wrap_i64] | simp (disch := omega) [wrap_i64]); try rfl) (by simp) (by simp) ?_
  repeat (first | simp [hf] | with_reducible refine And.intro (by omega) ?_ | with_reducible refine optK_if (by omega) ?_ | with_reducible refine optD_if (by omega) ?_ | simp (disch := omega) only [wrap_i64, if_pos, if_neg] | with_reducible refine gsel_pure (by with_unfolding_all rfl) _ (fun hg => by (try simp at hg); simp [hg, hf]; rfl) ?_ | with_reducible refine dsel_pure (by with_unfolding_all rfl) _ (fun hg => by (try simp at hg); simp [hg, hf]; rfl) ?_ | with_reducible refine awp_draw (by kernel_rfl) (by decide +kernel) ?_)
  refine awp_loopV (fun (k : Nat) (s : St) => (k ≤ l.length) ∧ s.env 18 = iV .i64 k ∧ s.env 16 = .cell (.p (.sl l.length (codeC l))) ∧ s.env 17 = iV .i64 l.length ∧ s.env 5 = .cell (.mown 262144 (leadK l k) (cstM (leadK l k))) ∧ s.env 1 = .cell (.ptr 0 0) ∧ s.box 0 = some (fP name l)) (fun (k : Nat) => l.length - k) (0) ⟨by first | omega | assumption | (simp [leadK, addK, mputV, mfind, cstM]; done) | (simp [leadK, addK, mputV, mfind, cstM]; omega), by simp [leadK, addK, mputV, mfind, cstM], by simp [leadK, addK, mputV, mfind, cstM], by simp [leadK, addK, mputV, mfind, cstM], by simp [leadK, addK, mputV, mfind, cstM], by simp [leadK, addK, mputV, mfind, cstM], by simp [leadK, addK, mputV, mfind, cstM]⟩ fun k s hsA LA hLA => ?_
  obtain ⟨hk, h18, h16, h17, h5, h1, b0⟩ := hsA
  repeat (first | simp [h18, h16, h17, h5, h1, b0] | with_reducible refine And.intro (by omega) ?_ | with_reducible refine optK_if (by omega) ?_ | with_reducible refine optD_if (by omega) ?_ | simp (disch := omega) only [wrap_i64, if_pos, if_neg] | with_reducible refine gsel_pure (by with_unfolding_all rfl) _ (fun hg => by (try simp at hg); simp [hg, h18, h16, h17, h5, h1, b0]; rfl) ?_ | with_reducible refine dsel_pure (by with_unfolding_all rfl) _ (fun hg => by (try simp at hg); simp [hg, h18, h16, h17, h5, h1, b0]; rfl) ?_ | with_reducible refine awp_draw (by kernel_rfl) (by decide +kernel) ?_)
  (with_reducible refine condK_intro (fun hlt => ?_) (fun hlt => ?_)) <;> (try simp only [hlt]) <;> (try simp [andB, orB, eqI, ltI, Int.natCast_inj] at hlt)
  · have hle := leadK_succ (l := l) hlt
    repeat (first | simp [h18, h16, h17, h5, h1, b0, hlt] | with_reducible refine And.intro (by omega) ?_ | with_reducible refine optK_if (by omega) ?_ | with_reducible refine optD_if (by omega) ?_ | simp (disch := omega) only [wrap_i64, if_pos, if_neg] | with_reducible refine gsel_pure (by with_unfolding_all rfl) _ (fun hg => by (try simp at hg); simp [hg, h18, h16, h17, h5, h1, b0, hlt]; rfl) ?_ | with_reducible refine dsel_pure (by with_unfolding_all rfl) _ (fun hg => by (try simp at hg); simp [hg, h18, h16, h17, h5, h1, b0, hlt]; rfl) ?_ | with_reducible refine awp_draw (by kernel_rfl) (by decide +kernel) ?_)
    by_cases g4 : l[k].op = 4
    · have t4 : eqI l[k].op 4 = true := by simp [eqI, g4]
      rw [if_pos (.inl g4)] at hle
      repeat (first | simp [h18, h16, h17, h5, h1, b0, hlt, t4] | with_reducible refine And.intro (by omega) ?_ | with_reducible refine optK_if (by omega) ?_ | with_reducible refine optD_if (by omega) ?_ | simp (disch := omega) only [wrap_i64, if_pos, if_neg] | with_reducible refine gsel_pure (by with_unfolding_all rfl) _ (fun hg => by (try simp at hg); simp [hg, h18, h16, h17, h5, h1, b0, hlt, t4]; rfl) ?_ | with_reducible refine dsel_pure (by with_unfolding_all rfl) _ (fun hg => by (try simp at hg); simp [hg, h18, h16, h17, h5, h1, b0, hlt, t4]; rfl) ?_ | with_reducible refine awp_draw (by kernel_rfl) (by decide +kernel) ?_)
      refine hLA (k + 1) _ ⟨by first | omega | assumption | (simp [hle]; done) | (simp [hle]; omega), by simp [h18, h16, h17, h5, h1, b0, hlt, hle], by simp [h18, h16, h17, h5, h1, b0, hlt, hle], by simp [h18, h16, h17, h5, h1, b0, hlt, hle], by simp [h18, h16, h17, h5, h1, b0, hlt, hle], by simp [h18, h16, h17, h5, h1, b0, hlt, hle], by simp [h18, h16, h17, h5, h1, b0, hlt, hle]⟩ (by first | omega | (simp; omega))
    have t4 : eqI l[k].op 4 = false := by simp [eqI, g4]
    by_cases g5 : l[k].op = 5
    · have t5 : eqI l[k].op 5 = true := by simp [eqI, g5]
      rw [if_pos (.inr g5)] at hle
      repeat (first | simp [h18, h16, h17, h5, h1, b0, hlt, t4, t5] | with_reducible refine And.intro (by omega) ?_ | with_reducible refine optK_if (by omega) ?_ | with_reducible refine optD_if (by omega) ?_ | simp (disch := omega) only [wrap_i64, if_pos, if_neg] | with_reducible refine gsel_pure (by with_unfolding_all rfl) _ (fun hg => by (try simp at hg); simp [hg, h18, h16, h17, h5, h1, b0, hlt, t4, t5]; rfl) ?_ | with_reducible refine dsel_pure (by with_unfolding_all rfl) _ (fun hg => by (try simp at hg); simp [hg, h18, h16, h17, h5, h1, b0, hlt, t4, t5]; rfl) ?_ | with_reducible refine awp_draw (by kernel_rfl) (by decide +kernel) ?_)
      refine hLA (k + 1) _ ⟨by first | omega | assumption | (simp [hle]; done) | (simp [hle]; omega), by simp [h18, h16, h17, h5, h1, b0, hlt, hle], by simp [h18, h16, h17, h5, h1, b0, hlt, hle], by simp [h18, h16, h17, h5, h1, b0, hlt, hle], by simp [h18, h16, h17, h5, h1, b0, hlt, hle], by simp [h18, h16, h17, h5, h1, b0, hlt, hle], by simp [h18, h16, h17, h5, h1, b0, hlt, hle]⟩ (by first | omega | (simp; omega))
    have t5 : eqI l[k].op 5 = false := by simp [eqI, g5]
    rw [if_neg (by omega)] at hle
    by_cases g7 : l[k].op = 7
    · have t7 : eqI l[k].op 7 = true := by simp [eqI, g7]
      rw [if_pos g7] at hle
      repeat (first | simp [h18, h16, h17, h5, h1, b0, hlt, t4, t5, t7] | with_reducible refine And.intro (by omega) ?_ | with_reducible refine optK_if (by omega) ?_ | with_reducible refine optD_if (by omega) ?_ | simp (disch := omega) only [wrap_i64, if_pos, if_neg] | with_reducible refine gsel_pure (by with_unfolding_all rfl) _ (fun hg => by (try simp at hg); simp [hg, h18, h16, h17, h5, h1, b0, hlt, t4, t5, t7]; rfl) ?_ | with_reducible refine dsel_pure (by with_unfolding_all rfl) _ (fun hg => by (try simp at hg); simp [hg, h18, h16, h17, h5, h1, b0, hlt, t4, t5, t7]; rfl) ?_ | with_reducible refine awp_draw (by kernel_rfl) (by decide +kernel) ?_)
      refine hLA (k + 1) _ ⟨by first | omega | assumption | (simp [hle]; done) | (simp [hle]; omega), by simp [h18, h16, h17, h5, h1, b0, hlt, hle], by simp [h18, h16, h17, h5, h1, b0, hlt, hle], by simp [h18, h16, h17, h5, h1, b0, hlt, hle], by simp [h18, h16, h17, h5, h1, b0, hlt, hle], by simp [h18, h16, h17, h5, h1, b0, hlt, hle], by simp [h18, h16, h17, h5, h1, b0, hlt, hle]⟩ (by first | omega | (simp; omega))
    have t7 : eqI l[k].op 7 = false := by simp [eqI, g7]
    rw [if_neg g7] at hle
    repeat (first | simp [h18, h16, h17, h5, h1, b0, hlt, t4, t5, t7] | with_reducible refine And.intro (by omega) ?_ | with_reducible refine optK_if (by omega) ?_ | with_reducible refine optD_if (by omega) ?_ | simp (disch := omega) only [wrap_i64, if_pos, if_neg] | with_reducible refine gsel_pure (by with_unfolding_all rfl) _ (fun hg => by (try simp at hg); simp [hg, h18, h16, h17, h5, h1, b0, hlt, t4, t5, t7]; rfl) ?_ | with_reducible refine dsel_pure (by with_unfolding_all rfl) _ (fun hg => by (try simp at hg); simp [hg, h18, h16, h17, h5, h1, b0, hlt, t4, t5, t7]; rfl) ?_ | with_reducible refine awp_draw (by kernel_rfl) (by decide +kernel) ?_)
    refine hLA (k + 1) _ ⟨by first | omega | assumption | (simp [hle]; done) | (simp [hle]; omega), by simp [h18, h16, h17, h5, h1, b0, hlt, hle], by simp [h18, h16, h17, h5, h1, b0, hlt, hle], by simp [h18, h16, h17, h5, h1, b0, hlt, hle], by simp [h18, h16, h17, h5, h1, b0, hlt, hle], by simp [h18, h16, h17, h5, h1, b0, hlt, hle], by simp [h18, h16, h17, h5, h1, b0, hlt, hle]⟩ (by first | omega | (simp; omega))
  · have : k = l.length := by omega
    subst this
    repeat (first | simp [h18, h16, h17, h5, h1, b0, hlt] | with_reducible refine And.intro (by omega) ?_ | with_reducible refine optK_if (by omega) ?_ | with_reducible refine optD_if (by omega) ?_ | simp (disch := omega) only [wrap_i64, if_pos, if_neg] | with_reducible refine gsel_pure (by with_unfolding_all rfl) _ (fun hg => by (try simp at hg); simp [hg, h18, h16, h17, h5, h1, b0, hlt]; rfl) ?_ | with_reducible refine dsel_pure (by with_unfolding_all rfl) _ (fun hg => by (try simp at hg); simp [hg, h18, h16, h17, h5, h1, b0, hlt]; rfl) ?_ | with_reducible refine awp_draw (by kernel_rfl) (by decide +kernel) ?_)
    refine gop_call' (at_sorted name l (by omega) (leadK l l.length)) (by (first | simp [h18, h16, h17, h5, h1, b0, hlt] | simp (disch := omega) [h18, h16, h17, h5, h1, b0, hlt, wrap_i64]); try rfl) (by simp) (by simp) ?_
    repeat (first | simp [h18, h16, h17, h5, h1, b0, hlt] | with_reducible refine And.intro (by omega) ?_ | with_reducible refine optK_if (by omega) ?_ | with_reducible refine optD_if (by omega) ?_ | simp (disch := omega) only [wrap_i64, if_pos, if_neg] | with_reducible refine gsel_pure (by with_unfolding_all rfl) _ (fun hg => by (try simp at hg); simp [hg, h18, h16, h17, h5, h1, b0, hlt]; rfl) ?_ | with_reducible refine dsel_pure (by with_unfolding_all rfl) _ (fun hg => by (try simp at hg); simp [hg, h18, h16, h17, h5, h1, b0, hlt]; rfl) ?_ | with_reducible refine awp_draw (by kernel_rfl) (by decide +kernel) ?_)
    refine hQ _ _ (ret2 (by simp [retAV, resAV]; rfl) (by simp; rfl) ?_)
    simp [hf]
end Go.Proofs
end
