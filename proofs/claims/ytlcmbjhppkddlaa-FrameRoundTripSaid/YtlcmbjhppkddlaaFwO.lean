/- Rules, one step at a time. -/
import Derived.Test.YtlcmbjhppkddlaaFwN
namespace Go.Fw

def retPost (P : Program) (rs : List ResultVar) (r : AV) : Exit → St → Prop := fun e st => (e = .normal ∨ e = .ret) ∧ ∃ st', Weak st st' ∧ ∃ x, retAV P st' rs = some x ∧ canon x = r

theorem retPost_ret {P : Program} {rs : List ResultVar} {r x : AV} {st : St} (h : retAV P st rs = some x) (hc : canon x = r) : retPost P rs r .ret st := ⟨.inr rfl, st, ⟨fun _ => .inl rfl, fun _ ys h => ⟨ys, h, rfl, fun _ x y hx hy => by rw [hx] at hy; cases hy; exact .inl rfl⟩⟩, x, h, hc⟩
/-- The same, with empty slices counted as owned. -/
theorem retPost_retw {P : Program} {rs : List ResultVar} {r x : AV} {st : St} (st' : St) (hw : Weak st st') (h : retAV P st' rs = some x) (hc : canon x = r) : retPost P rs r .ret st := ⟨.inr rfl, st', hw, x, h, hc⟩
theorem retPost_normal {P : Program} {rs : List ResultVar} {r x : AV} {st : St} (h : retAV P st rs = some x) (hc : canon x = r) : retPost P rs r .normal st := ⟨.inl rfl, st, ⟨fun _ => .inl rfl, fun _ ys h => ⟨ys, h, rfl, fun _ x y hx hy => by rw [hx] at hy; cases hy; exact .inl rfl⟩⟩, x, h, hc⟩

theorem at_code {P : Program} {f : FuncId} {fn : Func} {c : Code} {args : List AV} {r : AV} (hm : P.follows .mixedOrders = true) (hf : P.funcs[f]? = some fn) (hname : (fn.name == "runtime.NumGoroutine") = false) (hb : fn.body = some c)
    (hargs : decide (args.length ≤ fn.ntmps) = true) (hok : codeOk fn.ntmps c = true) {rs : List ResultVar} (hrs : fn.results.toList = rs)
    (h : ∀ Q : Exit → St → Prop, (∀ e st, retPost P rs r e st → Q e st) → awp P c Q (st0 args)) : At P f args r := by
  subst hrs
  exact at_intro hm hf hname hb (by simpa using hargs) hok (h _ (fun e st h => h))

/-- The number in a slot. -/
def St.num (s : St) (d : Nat) : Int := match s.env d with
  | .cell (.p (.c (.int _ n))) => n
  | _ => 0
theorem num_of {s : St} {d : Nat} {k : IntKind} {n : Int} (h : s.env d = iV k n) : s.num d = n := by unfold St.num; rw [h]

section
variable {P : Program} {Q : Exit → St → Prop} {st : St}

theorem awp_seq {a b : Code} (h : ∀ K : St → Prop, (∀ s, awp P b Q s → K s) → awp P a (aThen K Q) st) : awp P (.seq a b) Q st := h _ (fun _ h => h)
/-- A cut: what holds between the two. -/
theorem awp_cut {a b : Code} (R : St → Prop) (h : ∀ K : St → Prop, (∀ s, R s → K s) → awp P a (aThen K Q) st) (h2 : ∀ s, R s → awp P b Q s) : awp P (.seq a b) Q st := h _ h2
theorem awp_region {rid : Nat} {ops : Array Oper} (h : aops P rid ops 0 ops.toList st (Q .normal)) : awp P (.region rid ops false) Q st := h
theorem awp_drawn {rid : Nat} {ops : Array Oper} (h : dops P rid ops st (Q .normal)) : awp P (.region rid ops true) Q st := h
theorem awp_cond {c : Operand} {x y : Code} {t : Bool} (hc : evAV st.env c = bV t) (h1 : t = true → awp P x Q st) (h2 : t = false → awp P y Q st) : awp P (.cond c x y) Q st := by
  unfold awp; rw [hc]; exact ⟨h1, h2⟩
theorem awp_block {id : Nat} {b : Code} (h : awp P b (aBlock id Q) st) : awp P (.block id b) Q st := h
theorem awp_scope {b : Code} (h : awp P b (aNoGoto Q) st) : awp P (.scope b) Q st := h
theorem awp_skip (h : Q .normal st) : awp P .skip Q st := h
theorem awp_exit {id : Nat} (h : Q (.exit id) st) : awp P (.exit id) Q st := h
theorem awp_ret (h : Q .ret st) : awp P .ret Q st := h
theorem awp_label {l : Nat} (h : Q .normal st) : awp P (.label l) Q st := h
theorem awp_loop {b : Code} (I : St → Prop) (μ : St → Nat) (st' : St) (hw : Weak st st') (h0 : I st') (h : ∀ s, I s → ∀ K : St → Prop, (∀ s', I s' ∧ μ s' < μ s → K s') → awp P b (aThen K Q) s) : awp P (.loop b) Q st :=
  ⟨I, μ, st', hw, h0, fun s hs => h s hs _ (fun _ h => h)⟩
theorem aops_nil {rid : Nat} {ops : Array Oper} {i : Nat} {K : St → Prop} (h : K st) : aops P rid ops i [] st K := h
theorem aops_cons {rid : Nat} {ops : Array Oper} {i : Nat} {K : St → Prop} {o : Oper} {rest : List Oper} (hg : o.guard = none)
    (h : ∀ K' : St → Prop, (∀ s, aops P rid ops (i + 1) rest s K → K' s) → fop P (rid * 65536 + i * 64) o.op st (fun out st' => K' (st'.put o.dst out))) : aops P rid ops i (o :: rest) st K := by
  unfold aops; rw [hg]; exact h _ (fun _ h => h)
theorem aops_guard {rid : Nat} {ops : Array Oper} {i : Nat} {K : St → Prop} {o : Oper} {rest : List Oper} {j : Nat} {want b : Bool} (hg : o.guard = some (j, want)) {d : Nat} (hd : (ops[j]?).bind (·.dst) = some d) (hb : st.env d = bV b)
    (h1 : b = want → ∀ K' : St → Prop, (∀ s, aops P rid ops (i + 1) rest s K → K' s) → fop P (rid * 65536 + i * 64) o.op st (fun out st' => K' (st'.put o.dst out)))
    (h2 : b ≠ want → aops P rid ops (i + 1) rest (st.put o.dst .bad) K) : aops P rid ops i (o :: rest) st K := by
  have : guardB ops st.env j = some b := by unfold guardB; rw [hd]; simp [hb]
  unfold aops; rw [hg]; simp only [this]
  exact ⟨fun e => h1 e _ (fun _ h => h), h2⟩
theorem aops_gt {rid : Nat} {ops : Array Oper} {i : Nat} {K : St → Prop} {o : Oper} {rest : List Oper} {j : Nat} {want b : Bool} (hg : o.guard = some (j, want)) {d : Nat} (hd : (ops[j]?).bind (·.dst) = some d) (hb : st.env d = bV b) (hw : b = want)
    (h1 : ∀ K' : St → Prop, (∀ s, aops P rid ops (i + 1) rest s K → K' s) → fop P (rid * 65536 + i * 64) o.op st (fun out st' => K' (st'.put o.dst out))) : aops P rid ops i (o :: rest) st K :=
  aops_guard hg hd hb (fun _ => h1) (fun h => (h hw).elim)
theorem aops_gf {rid : Nat} {ops : Array Oper} {i : Nat} {K : St → Prop} {o : Oper} {rest : List Oper} {j : Nat} {want b : Bool} (hg : o.guard = some (j, want)) {d : Nat} (hd : (ops[j]?).bind (·.dst) = some d) (hb : st.env d = bV b) (hw : b ≠ want)
    (h1 : aops P rid ops (i + 1) rest (st.put o.dst .bad) K) : aops P rid ops i (o :: rest) st K :=
  aops_guard hg hd hb (fun h => (hw h).elim) (fun _ => h1)
theorem aThen_normal {K : St → Prop} (h : K st) : aThen K Q .normal st := h
theorem aThen_exit {K : St → Prop} {i : Nat} (h : Q (.exit i) st) : aThen K Q (.exit i) st := h
theorem aThen_ret {K : St → Prop} (h : Q .ret st) : aThen K Q .ret st := h
theorem aBlock_normal {i : Nat} (h : Q .normal st) : aBlock i Q .normal st := h
theorem aBlock_ret {i : Nat} (h : Q .ret st) : aBlock i Q .ret st := h
theorem aBlock_eq {i : Nat} (h : Q .normal st) : aBlock i Q (.exit i) st := by simp only [aBlock, if_true]; exact h
theorem aBlock_ne {i j : Nat} (hne : decide (j = i) = false) (h : Q (.exit j) st) : aBlock i Q (.exit j) st := by
  simp only [aBlock]; rw [if_neg (by simpa using hne)]; exact h
theorem aNoGoto_normal (h : Q .normal st) : aNoGoto Q .normal st := h
theorem aNoGoto_ret (h : Q .ret st) : aNoGoto Q .ret st := h
theorem aNoGoto_exit {i : Nat} (h : Q (.exit i) st) : aNoGoto Q (.exit i) st := h
theorem Weak.refl (st : St) : Weak st st := ⟨fun _ => .inl rfl, fun _ ys h => ⟨ys, h, rfl, fun _ x y hx hy => by rw [hx] at hy; cases hy; exact .inl rfl⟩⟩
/-- An empty slice counts as owned. -/
theorem Weak.own (d f sz : Nat) (h : st.env d = .cell .z) : Weak st (st.put (some d) (.cell (.own f sz 0 []))) := by
  refine ⟨fun s => ?_, fun _ ys h => ⟨ys, h, rfl, fun _ x y hx hy => by rw [hx] at hy; cases hy; exact .inl rfl⟩⟩
  simp only [St.put]
  split
  · rename_i e; subst e; rw [h]; exact .inr (.inl ⟨_, _, rfl, rfl, .inr (.inl ⟨rfl, f, sz, rfl⟩)⟩)
  · exact .inl rfl
theorem Weak.trans {a b c : St} (h : Weak a b) (k : Weak b c) : Weak a c := by
  have tc : ∀ x y u, wkC x y → wkC y u → wkC x u := by
    rintro x y u (rfl | ⟨rfl, f, sz, rfl⟩ | rfl) (rfl | ⟨e, f', sz', rfl⟩ | rfl)
    · exact .inl rfl
    · exact .inr (.inl ⟨e, f', sz', rfl⟩)
    · exact .inr (.inr rfl)
    · exact .inr (.inl ⟨rfl, f, sz, rfl⟩)
    · cases e
    · exact .inr (.inr rfl)
    · exact .inr (.inr rfl)
    · cases e
    · exact .inr (.inr rfl)
  refine ⟨fun s => ?_, fun i ys hy => ?_⟩
  · rcases h.env s with e | ⟨a', b', e1, e2, hw⟩ | e <;> rcases k.env s with e' | ⟨a2, b2, e3, e4, hw'⟩ | e'
    · exact .inl (e'.trans e)
    · exact .inr (.inl ⟨a2, b2, e.symm.trans e3, e4, hw'⟩)
    · exact .inr (.inr e')
    · exact .inr (.inl ⟨a', b', e1, e'.trans e2, hw⟩)
    · rw [e2] at e3; cases e3; exact .inr (.inl ⟨a', b2, e1, e4, tc _ _ _ hw hw'⟩)
    · exact .inr (.inr e')
    · exact .inr (.inr (e'.trans e))
    · rw [e] at e3; cases e3
    · exact .inr (.inr e')
  · obtain ⟨xs, h1, h2, h3⟩ := k.box i ys hy
    obtain ⟨zs, h4, h5, h6⟩ := h.box i xs h1
    refine ⟨zs, h4, h5.trans h2, fun j x y hx hy' => ?_⟩
    have hj : j < xs.length := by
      rw [h2]
      rcases Nat.lt_or_ge j ys.length with h | h
      · exact h
      · simp [List.getElem?_eq_none h] at hy'
    exact tc _ _ _ (h6 j x _ hx (List.getElem?_eq_getElem hj)) (h3 j _ y (List.getElem?_eq_getElem hj) hy')
end
end Go.Fw
