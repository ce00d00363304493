/- Code and functions. -/
import Derived.Test.YtlcmbjhppkddlaaFwM
import Derived.Scope
namespace Go.Fw
open Go.RowKit (Below)

section
variable {P : Program} {C : Cx} {rid : Nat} {ops : Array Oper} {st : St} {a : Act} {w : World} {ρ β : Fam} {K : St → Prop} {Q : Exit → Act → World → Prop}

theorem dq_nd {id : Nat} {bx : Nat → Option (List AC)} {env : Nat → AV} {o : Oper} {out : AV} {k f : Nat} (h : dq P rid id ops bx env o (fun x y => x = out ∧ y = some (k, f))) :
    isRid rid f = true ∧ ∀ t, cons o = some t → (ops.getD k default).dst = some t := by
  unfold dq at h
  split at h
  · obtain ⟨r, _, _, _, h⟩ := h; cases h
  · split at h
    · split at h
      · split at h
        · obtain ⟨_, h⟩ := h
          split at h
          · split at h
            · split at h
              · rename_i c hc
                split at h
                · rename_i k' hk
                  obtain ⟨⟨_, _, _, hr⟩, _, e⟩ := h
                  cases e
                  refine ⟨hr, fun t ht => ?_⟩
                  rw [hc] at ht; cases ht
                  have := List.find?_some hk
                  simpa using this
                · exact h.elim
              · exact h.elim
            · obtain ⟨_, _, e⟩ := h; cases e
            · exact h.elim
          · exact h.elim
        · exact h.elim
      · exact h.elim
    · exact h.elim
  · split at h
    · obtain ⟨_, e⟩ := h; cases e
    · exact h.elim

theorem dstep_nd {i : Nat} {bx : Nat → Option (List AC)} {env : Nat → AV} {o : Oper} {out : AV} {k f : Nat} (h : dstep P rid i ops bx env o (fun x y => x = out ∧ y = some (k, f))) :
    isRid rid f = true ∧ ∀ t, cons o = some t → (ops.getD k default).dst = some t := by
  unfold dstep at h
  split at h
  · exact dq_nd h
  · rename_i j want hg
    split at h
    · rename_i b hb
      by_cases hw : b = want
      · exact dq_nd (h.1 hw)
      · obtain ⟨_, e⟩ := h.2 hw; cases e
    · exact h.elim

theorem box_retire {F : Nat → Bool} {i : Nat} {xs : List AC} (h : (st.retire F).box i = some xs) {x : AC} (hx : x ∈ xs) : ∀ f ∈ x.labs, F f = false := by
  simp only [St.retire] at h
  cases hb : st.box i with
  | none => simp [hb] at h
  | some ys =>
    simp [hb] at h; subst h
    rw [List.mem_map] at hx
    obtain ⟨y, _, rfl⟩ := hx
    exact retire_labs_ac F y

theorem dops_sound (hm : P.follows .mixedOrders = true) {id : Nat} (hid : id = rid) (h : dops P rid ops st K) (hJ : J C st a w ρ β) (hd : ∀ o ∈ ops.toList, dstOk C.N o.dst)
    (hK : ∀ st' a' w' ρ' β', K st' → J C st' a' w' ρ' β' → Q .normal a' w') : (Code.region id ops true).wp P Q a w := by
  subst hid
  obtain ⟨⟨hchk, hsz⟩, h⟩ := h
  have hD := dchk_spec hchk
  refine wp_region_any hm ?_
  have hJ1 := (hJ.retire (isRid id)).drew (w.drawn + 1)
  have h0 : ∀ j, (Array.replicate ops.size false).getD j false = false := by
    intro j; rw [Array.getD_eq_getD_getElem?, Array.getElem?_replicate]; split <;> rfl
  have hcl : Closed ops (fun j => (Array.replicate ops.size false).getD j false) := by
    intro i o _ hi; simp only [h0] at hi; cases hi
  have hfr : ∀ j, j < ops.size → ∀ f, id * 65536 + j * 64 ≤ f → f < id * 65536 + j * 64 + 64 → (ρ.drop (isRid id)) f = none := by
    intro j hj f h1 h2
    have : isRid id f = true := by simp [isRid]; omega
    simp [Fam.drop, this]
  have hu : unl ops.size (fun j => (Array.replicate ops.size false).getD j false) ≤ ops.size := by
    unfold unl
    exact Nat.le_trans (List.length_filter_le _ _) (by simp)
  have henv : ∀ outs m, envOf ops outs (st.retire (isRid id)).env (fun j => (Array.replicate ops.size false).getD j false) m = (st.retire (isRid id)).env := by
    intro outs m
    induction m with
    | zero => rfl
    | succ m ih =>
      simp only [envOf]
      rw [if_neg (by simp only [h0]; simp)]
      exact ih
  -- what the specification of the quiet part gives
  have spec : ∀ (l tail : List Oper) (m : Nat) (Kf : List AV → (Nat → AV) → Prop), ops.toList = l ++ tail → m = l.length →
      dgo P id ops (st.retire (isRid id)).box 0 l (st.retire (isRid id)).env [] [] (fun outs nds env => ndOk outs nds = true ∧ Kf outs env) →
      ∃ outs, Kf outs (envOf ops outs (st.retire (isRid id)).env (fun _ => true) m) ∧
        ∀ j o, j < m → ops[j]? = some o → ∃ nd : Option (Nat × Nat), dstep P id j ops (st.retire (isRid id)).box (envOf ops outs (st.retire (isRid id)).env (fun _ => true) j) o (fun x y => x = outs.getD j .bad ∧ y = nd) ∧
          ∀ k f, nd = some (k, f) → (∀ s, f ∉ ((st.retire (isRid id)).env s).labs) ∧ (∀ i, i ≠ k → f ∉ (outs.getD i .bad).labs) ∧ (∀ i xs, (st.retire (isRid id)).box i = some xs → ∀ x ∈ xs, f ∉ x.labs) ∧ ∀ t, cons o = some t → (ops.getD k default).dst = some t := by
    intro l tail m Kf hl hml hg
    subst hml
    obtain ⟨outs, nds, a1, _, ⟨a3, a3'⟩, _, a5⟩ := dgo_spec (env0 := (st.retire (isRid id)).env) l [] tail [] [] _ (by simpa using hl) rfl rfl hg
    simp only [List.length_nil, Nat.zero_add] at a1 a3' a5
    refine ⟨outs, a3', fun j o hj ho => ?_⟩
    obtain ⟨nd, b1, b2⟩ := a5 j o (Nat.zero_le _) hj ho
    refine ⟨nd, b2, fun k f hkf => ?_⟩
    subst hkf
    obtain ⟨c1, c2⟩ := dstep_nd b2
    have hmem := b1 (k, f) rfl
    refine ⟨fun s hs => ?_, fun i hi hs => ?_, fun i xs hx x hxm hs => ?_, c2⟩
    · have := retire_labs (isRid id) (st.env s) f hs; rw [c1] at this; cases this
    · unfold ndOk at a3
      rw [List.all_eq_true] at a3
      have := a3 (k, f) hmem
      rw [List.all_eq_true] at this
      rcases Nat.lt_or_ge i outs.length with hlt | hge
      · have := this i (List.mem_range.2 hlt)
        simp only [Bool.or_eq_true, beq_iff_eq, hi, false_or, Bool.not_eq_true'] at this
        have h2 : (outs.getD i .bad).labs.contains f = true := by rw [List.contains_iff_mem]; exact hs
        rw [h2] at this; cases this
      · rw [List.getD_eq_getElem?_getD, List.getElem?_eq_none hge] at hs
        simp [AV.labs] at hs
    · have := box_retire hx hxm f hs; rw [c1] at this; cases this
  split at h
  · rename_i o hlast
    obtain ⟨⟨hg, hreach⟩, h⟩ := h
    have hne : ops.toList ≠ [] := by
      intro e; rw [e] at hlast; simp at hlast
    have hlen : ops.size ≠ 0 := by
      intro e; exact hne (List.eq_nil_of_length_eq_zero (by simpa using e))
    have hlo : ops.toList.getLast hne = o ∧ isBar o.op = true := by
      rw [List.getLast?_eq_some_getLast hne] at hlast
      simp only [Option.map_some, Option.some.injEq, Prod.mk.injEq] at hlast
      exact ⟨hlast.1, hlast.1 ▸ hlast.2⟩
    have hsplit : ops.toList = ops.toList.dropLast ++ [o] := by
      rw [← hlo.1]; exact (List.dropLast_concat_getLast hne).symm
    have hdl : ops.toList.dropLast.length = ops.size - 1 := by simp
    obtain ⟨outs, hfop, hst⟩ := spec ops.toList.dropLast [o] (ops.size - 1) (fun outs env => fop P (id * 65536 + (ops.size - 1) * 64) o.op ⟨env, (st.retire (isRid id)).box⟩ fun out st' => K (st'.put o.dst out)) hsplit hdl.symm h
    have hom : ops[ops.size - 1]? = some o := by
      rw [← Array.getElem?_toList, hsplit, List.getElem?_append_right (by rw [hdl]; exact Nat.le_refl _), hdl]; simp
    refine drawn_run (outs := outs) (m := ops.size - 1) hD (by omega) (by omega) hd hst (fun e => by omega) (fun _ => ⟨o, hom, by simpa using hg, fun j hj => ?_, fun a' w' ρ' β' hJ' next hnext => ?_⟩) ops.size _ a _ (ρ.drop (isRid id)) β (by simp) hcl (fun j _ => h0 j) hu (by rw [henv]; exact hJ1)
      (fun j hj _ => hfr j (by omega))
    · rw [List.all_eq_true] at hreach
      exact befL_spec ops ops.toList [] [] rfl rfl (by simp) _ _ (hreach j (List.mem_range.2 hj))
    · exact fop_sound hJ' hfop fun out st' v w'' ρ'' β'' hk hJ'' hv => hnext _ _ (hK _ _ _ _ _ hk (hJ''.put (hd o (by rw [hsplit]; simp)) hv))
  · obtain ⟨outs, hk, hst⟩ := spec ops.toList [] ops.size (fun outs env => K ⟨env, (st.retire (isRid id)).box⟩) (by simp) (by simp) h
    exact drawn_run (outs := outs) (m := ops.size) hD (Nat.le_refl _) (by omega) hd hst (fun _ a' w' ρ' β' hJ' => hK _ _ _ _ _ hk hJ') (fun h => by omega) ops.size _ a _ (ρ.drop (isRid id)) β (by simp) hcl (fun j _ => h0 j) hu
      (by rw [henv]; exact hJ1) (fun j hj _ => hfr j hj)

end

/-! ### Code -/

def aThen (next : St → Prop) (Q : Exit → St → Prop) : Exit → St → Prop
  | .normal, st => next st
  | e, st => Q e st
def aBlock (id : Nat) (Q : Exit → St → Prop) : Exit → St → Prop
  | .exit id', st => if id' = id then Q .normal st else Q (.exit id') st
  | e, st => Q e st
def aNoGoto (Q : Exit → St → Prop) : Exit → St → Prop
  | .goto _, _ => False
  | e, st => Q e st

/-- What is known less well: an empty slice without capacity counts as owned; anything counts as unknown. -/
def wkC (x y : AC) : Prop := y = x ∨ (x = .z ∧ ∃ f sz, y = .own f sz 0 []) ∨ y = .bad
def wkV (x y : AV) : Prop := y = x ∨ (∃ a b, x = .cell a ∧ y = .cell b ∧ wkC a b) ∨ y = .bad
structure Weak (st st' : St) : Prop where
  env : ∀ s, wkV (st.env s) (st'.env s)
  box : ∀ i ys, st'.box i = some ys → ∃ xs, st.box i = some xs ∧ xs.length = ys.length ∧ ∀ (j : Nat) (x y : AC), xs[j]? = some x → ys[j]? = some y → wkC x y

theorem wkC_rep {w : World} {ρ β : Fam} {v : Value} {x y : AC} (h : wkC x y) (hx : ACRep w ρ β v x) : ACRep w ρ β v y := by
  rcases h with rfl | ⟨rfl, f, sz, rfl⟩ | rfl
  · exact hx
  · obtain ⟨a, rfl⟩ := hx
    exact ⟨[], ⟨by simp, .inl ⟨a, rfl, rfl⟩⟩, ⟨rfl, by simp, by simp⟩⟩
  · trivial

theorem J.weak {C : Cx} {st st' : St} {a : Act} {w : World} {ρ β : Fam} (hJ : J C st a w ρ β) (h : Weak st st') : J C st' a w ρ β := by
  refine ⟨hJ.size, hJ.defers, hJ.os, hJ.tape, hJ.output, hJ.grown, hJ.kept, hJ.protlt, hJ.phan, hJ.apart, fun s => ?_, fun i ys hy => ?_⟩
  · have hr := hJ.env s
    rcases h.env s with e | ⟨a, b, e1, e2, hw⟩ | e
    · rw [e]; exact hr
    · rw [e1] at hr; rw [e2]; exact .cell _ _ (wkC_rep hw (rep_cell hr))
    · rw [e]; exact .bad _
  · obtain ⟨xs, hx, hl, hw⟩ := h.box i ys hy
    obtain ⟨g, raws, e, h1, h2, h3, h4, h5, h6⟩ := hJ.box i xs hx
    refine ⟨g, raws, e, h1, h2, h3, by rw [h4, hl], h5, fun j u y hu hyj => ?_⟩
    have hj : j < xs.length := by
      rw [hl]
      rcases Nat.lt_or_ge j ys.length with h | h
      · exact h
      · simp [List.getElem?_eq_none h] at hyj
    exact wkC_rep (hw j _ y (List.getElem?_eq_getElem hj) hyj) (h6 j u _ hu (List.getElem?_eq_getElem hj))

/-- THE ABSTRACT WEAKEST PRECONDITION. -/
def awp (P : Program) : Code → (Exit → St → Prop) → St → Prop
  | .skip, Q, st => Q .normal st
  | .region rid ops false, Q, st => aops P rid ops 0 ops.toList st (Q .normal)
  | .region rid ops true, Q, st => dops P rid ops st (Q .normal)
  | .seq a b, Q, st => awp P a (aThen (awp P b Q) Q) st
  | .cond c x y, Q, st => match evAV st.env c with
    | .cell (.p (.c (.bool t))) => (t = true → awp P x Q st) ∧ (t = false → awp P y Q st)
    | _ => False
  | .block id b, Q, st => awp P b (aBlock id Q) st
  | .loop b, Q, st => ∃ (I : St → Prop) (μ : St → Nat) (st' : St), Weak st st' ∧ I st' ∧ ∀ s, I s → awp P b (aThen (fun s' => I s' ∧ μ s' < μ s) Q) s
  | .exit id, Q, st => Q (.exit id) st
  | .ret, Q, st => Q .ret st
  | .label _, Q, st => Q .normal st
  | .scope b, Q, st => awp P b (aNoGoto Q) st
  | _, _, _ => False

def codeOk (N : Nat) : Code → Bool
  | .region _ ops _ => ops.toList.all fun o => match o.dst with | some d => decide (d < N) | none => true
  | .seq a b => codeOk N a && codeOk N b
  | .cond _ x y => codeOk N x && codeOk N y
  | .block _ b => codeOk N b
  | .loop b => codeOk N b
  | .scope b => codeOk N b
  | .rangeFunc _ _ a b => codeOk N a && codeOk N b
  | _ => true

def lift (C : Cx) (Q : Exit → St → Prop) : Exit → Act → World → Prop := fun e a w => ∃ st ρ β, Q e st ∧ J C st a w ρ β

theorem awp_loop_sound {P : Program} {C : Cx} {c : Code} {Q : Exit → Act → World → Prop} {I : St → Prop} {μ : St → Nat}
    (round : ∀ st a w ρ β, I st → J C st a w ρ β → c.wp P (Exit.then (fun a' w' => ∃ st' ρ' β', (I st' ∧ μ st' < μ st) ∧ J C st' a' w' ρ' β') Q) a w) {st : St} {a : Act} {w : World} {ρ β : Fam} (h0 : I st) (hJ : J C st a w ρ β) :
    (Code.loop c).wp P Q a w := by
  intro b k cs
  have key : ∀ n st a w ρ β, μ st = n → I st → J C st a w ρ β →
      ∃ e a' w', Q e a' w' ∧ Arrives P (lone (b.at a (.code c :: .inLoop c :: k)) cs w) b k cs e a' w' := by
    intro n
    induction n using Nat.strongRecOn with
    | _ n ih =>
      intro st a w ρ β hn hI hJ
      obtain ⟨e, a₁, w₁, hq, harr⟩ := round st a w ρ β hI hJ b (.inLoop c :: k) cs
      cases e with
      | normal =>
        obtain ⟨st', ρ', β', ⟨hI₁, hlt⟩, hJ'⟩ := hq
        obtain ⟨e₂, a₂, w₂, hq₂, harr₂⟩ := ih (μ st') (hn ▸ hlt) st' a₁ w₁ ρ' β' rfl hI₁ hJ'
        exact ⟨e₂, a₂, w₂, hq₂, .of_steps (Steps.trans harr (.one step_inLoop)) harr₂⟩
      | exit id => exact ⟨_, a₁, w₁, hq, .pass (x := .inLoop c) rfl (fun _ _ => .inl (by simp)) harr⟩
      | goto l => exact ⟨_, a₁, w₁, hq, .pass (x := .inLoop c) rfl (fun _ _ => .inl (by simp)) harr⟩
      | ret => exact ⟨_, a₁, w₁, hq, .pass (x := .inLoop c) rfl (fun _ _ => .inl (by simp)) harr⟩
      | panic ch => exact ⟨_, a₁, w₁, hq, .pass (x := .inLoop c) rfl (fun _ _ => .inl (by simp)) harr⟩
      | outgrown => exact ⟨_, a₁, w₁, hq, .pass (x := .inLoop c) rfl (fun _ _ => .inl (by simp)) harr⟩
  obtain ⟨e, a', w', hq, harr⟩ := key _ st a w ρ β rfl h0 hJ
  exact ⟨e, a', w', hq, .of_steps (.one step_loop) harr⟩

theorem awp_sound {P : Program} {C : Cx} (hm : P.follows .mixedOrders = true) : ∀ (c : Code) (Q : Exit → St → Prop) (st : St) (a : Act) (w : World) (ρ β : Fam), codeOk C.N c = true → awp P c Q st → J C st a w ρ β → c.wp P (lift C Q) a w
  | .skip, Q, st, a, w, ρ, β, hok, h, hJ => wp_skip ⟨st, ρ, β, h, hJ⟩
  | .region rid ops false, Q, st, a, w, ρ, β, hok, h, hJ => by
    refine wp_region_list (aops_sound ops.toList 0 st a w ρ β h hJ (fun o ho k hk => ?_) (fun st' a' w' ρ' β' hk hJ' => ⟨st', ρ', β', hk, hJ'⟩))
    simp only [codeOk, List.all_eq_true] at hok
    have := hok o ho
    rw [hk] at this
    simpa using this
  | .region rid ops true, Q, st, a, w, ρ, β, hok, h, hJ => by
    refine dops_sound hm rfl h hJ (fun o ho k hk => ?_) (fun st' a' w' ρ' β' hk hJ' => ⟨st', ρ', β', hk, hJ'⟩)
    simp only [codeOk, List.all_eq_true] at hok
    have := hok o ho
    rw [hk] at this
    simpa using this
  | .seq x y, Q, st, a, w, ρ, β, hok, h, hJ => by
    simp only [codeOk, Bool.and_eq_true] at hok
    refine wp_seq (Code.wp_mono ?_ (awp_sound hm x _ st a w ρ β hok.1 h hJ))
    rintro e a' w' ⟨st', ρ', β', hq, hJ'⟩
    cases e with
    | normal => exact awp_sound hm y Q st' a' w' ρ' β' hok.2 hq hJ'
    | _ => exact ⟨st', ρ', β', hq, hJ'⟩
  | .cond c x y, Q, st, a, w, ρ, β, hok, h, hJ => by
    simp only [codeOk, Bool.and_eq_true] at hok
    unfold awp at h
    split at h
    · rename_i t ht
      have hr := hJ.ev c
      simp only [St.ev, ht] at hr
      exact wp_cond_split (rep_c hr) (fun e => awp_sound hm x Q st a w ρ β hok.1 (h.1 e) hJ) (fun e => awp_sound hm y Q st a w ρ β hok.2 (h.2 e) hJ)
    · exact h.elim
  | .block id b, Q, st, a, w, ρ, β, hok, h, hJ => by
    refine wp_block (Code.wp_mono ?_ (awp_sound hm b _ st a w ρ β hok h hJ))
    rintro e a' w' ⟨st', ρ', β', hq, hJ'⟩
    cases e with
    | exit id' =>
      simp only [aBlock] at hq
      simp only [Exit.inBlock]
      split at hq
      · rename_i e; rw [if_pos e]; exact ⟨st', ρ', β', hq, hJ'⟩
      · rename_i e; rw [if_neg e]; exact ⟨st', ρ', β', hq, hJ'⟩
    | _ => exact ⟨st', ρ', β', hq, hJ'⟩
  | .loop b, Q, st, a, w, ρ, β, hok, h, hJ => by
    obtain ⟨I, μ, st', hwk, h0, hr⟩ := h
    refine awp_loop_sound (I := I) (μ := μ) (fun st a w ρ β hI hJ => ?_) h0 (hJ.weak hwk)
    refine Code.wp_mono ?_ (awp_sound hm b _ st a w ρ β hok (hr st hI) hJ)
    rintro e a' w' ⟨st', ρ', β', hq, hJ'⟩
    cases e with
    | normal => exact ⟨st', ρ', β', hq, hJ'⟩
    | _ => exact ⟨st', ρ', β', hq, hJ'⟩
  | .exit id, Q, st, a, w, ρ, β, hok, h, hJ => wp_exit ⟨st, ρ, β, h, hJ⟩
  | .ret, Q, st, a, w, ρ, β, hok, h, hJ => wp_ret ⟨st, ρ, β, h, hJ⟩
  | .label l, Q, st, a, w, ρ, β, hok, h, hJ => wp_label ⟨st, ρ, β, h, hJ⟩
  | .scope b, Q, st, a, w, ρ, β, hok, h, hJ => by
    refine wp_scope_straight (Code.wp_mono ?_ (awp_sound hm b _ st a w ρ β hok h hJ))
    rintro e a' w' ⟨st', ρ', β', hq, hJ'⟩
    cases e with
    | goto l => exact hq.elim
    | _ => exact ⟨st', ρ', β', hq, hJ'⟩
  | .goto l, Q, st, a, w, ρ, β, hok, h, hJ => h.elim
  | .refuse _, Q, st, a, w, ρ, β, hok, h, hJ => h.elim
  | .rangeFunc _ _ _ _, Q, st, a, w, ρ, β, hok, h, hJ => h.elim

/-! ### Functions -/

def resAV (P : Program) (st : St) : List ResultVar → Option (List AV)
  | [] => some []
  | .tmp t :: r => (resAV P st r).map (st.env t :: ·)
  | .cell t ty :: r => match st.env t, resAV P st r with
    | .cell (.ptr b off), some l => match st.box b with
      | some xs => (partAC P ty xs off).map (· :: l)
      | none => none
    | _, _ => none

def retAV (P : Program) (st : St) (rs : List ResultVar) : Option AV :=
  match resAV P st rs with
  | some [x] => some x
  | some l => some (.tup l)
  | none => none

/-- The labels of a result, numbered in the order in which they are met. -/
def AC.relab (l : List Nat) : AC → AC
  | .own f sz n cells => .own (l.idxOf f) sz n cells
  | .view f n cells => .view (l.idxOf f) n cells
  | .ep (some f) cells pos => .ep (some (l.idxOf f)) cells pos
  | .epo f cells pos => .epo (l.idxOf f) cells pos
  | .ptr _ _ => .bad
  | x => x
def AV.relab (l : List Nat) : AV → AV
  | .cell x => .cell (x.relab l)
  | .agg xs => .agg (xs.map (·.relab l))
  | .tup xs => .tup (go xs)
  | .bad => .bad
where
  go : List AV → List AV
    | [] => []
    | x :: xs => x.relab l :: go xs
theorem relab_go (l : List Nat) (xs : List AV) : AV.relab.go l xs = xs.map (·.relab l) := by
  induction xs with
  | nil => rfl
  | cons x xs ih => simp [AV.relab.go, ih]

def canon (x : AV) : AV := x.relab x.labs

def relF (ρ : Fam) (l : List Nat) : Fam := fun k => match l[k]? with
  | some f => if l.idxOf f = k then ρ f else none
  | none => none

theorem relF_idx {ρ : Fam} {l : List Nat} {f : Nat} (h : f ∈ l) : relF ρ l (l.idxOf f) = ρ f := by
  unfold relF
  have h1 : l.idxOf f < l.length := List.idxOf_lt_length_of_mem h
  rw [List.getElem?_eq_getElem h1, List.getElem_idxOf h1]
  simp

theorem relF_some {ρ : Fam} {l : List Nat} {k b : Nat} (h : relF ρ l k = some b) : ∃ f, l.idxOf f = k ∧ ρ f = some b := by
  unfold relF at h
  split at h
  · split at h
    · rename_i f _ e; exact ⟨f, e, h⟩
    · cases h
  · cases h

theorem relab_ac {w : World} {ρ β β' : Fam} {l : List Nat} (hb : ∀ b, ¬ Bad ρ β b → ¬ Bad (relF ρ l) β' b) (v : Value) (x : AC) (hl : ∀ f ∈ x.labs, f ∈ l) (h : ACRep w ρ β v x) : ACRep w (relF ρ l) β' v (x.relab l) := by
  have pm : ∀ (x : Addr) (u : Value), ¬ Bad ρ β x.block → w.cell? x = some u → ¬ Bad (relF ρ l) β' x.block ∧ w.cell? x = some u := fun x u hx hu => ⟨hb _ hx, hu⟩
  cases x with
  | p x => exact CRep.mono pm h
  | z => exact h
  | own f sz n cells =>
    have hf := relF_idx (ρ := ρ) (hl f (by simp [AC.labs]))
    obtain ⟨raws, ⟨h1, h2⟩, hr⟩ := h
    exact ⟨raws, ⟨h1, by rw [hf]; exact h2⟩, hr.mono pm⟩
  | view f n cells =>
    have hf := relF_idx (ρ := ρ) (hl f (by simp [AC.labs]))
    obtain ⟨a, cap, raws, h1, h2, h3, h4, hr⟩ := h
    exact ⟨a, cap, raws, h1, h2, h3, by rw [hf]; exact h4, hr.mono pm⟩
  | ep k cells pos =>
    cases k with
    | none => obtain ⟨y, raws, h1, h2, hr⟩ := h; exact ⟨y, raws, h1, fun j u hj => ⟨hb _ (h2 j u hj).1, (h2 j u hj).2⟩, hr.mono pm⟩
    | some f =>
      have hf := relF_idx (ρ := ρ) (hl f (by simp [AC.labs]))
      obtain ⟨y, raws, h1, h2, hr⟩ := h
      exact ⟨y, raws, h1, by rw [hf]; exact h2, hr.mono pm⟩
  | epo f cells pos =>
    have hf := relF_idx (ρ := ρ) (hl f (by simp [AC.labs]))
    obtain ⟨g, cur, e, fr, h1, h2, h3, h4, h5, hr⟩ := h
    exact ⟨g, cur, e, fr, h1, by rw [hf]; exact h2, h3, h4, h5, hr.mono pm⟩
  | ptr b off => trivial
  | bad => trivial

theorem relab_av {w : World} {ρ β β' : Fam} {l : List Nat} (hb : ∀ b, ¬ Bad ρ β b → ¬ Bad (relF ρ l) β' b) {v : Value} {x : AV} (h : AVRep w ρ β v x) (hl : ∀ f ∈ x.labs, f ∈ l) : AVRep w (relF ρ l) β' v (x.relab l) :=
  AVRep.lift' (AC.relab l) (AV.relab l) (fun _ => rfl) (fun _ => rfl) (fun xs => by simp [AV.relab, relab_go]) rfl (fun x => ∀ f ∈ x.labs, f ∈ l) (fun x => ∀ f ∈ x.labs, f ∈ l) (fun _ h => h)
    (fun xs h x hx f hf => h f (by simp only [AV.labs, List.mem_flatMap]; exact ⟨x, hx, hf⟩)) (fun xs h x hx f hf => h f (by simp only [AV.labs, labs_go, List.mem_flatMap]; exact ⟨x, hx, hf⟩))
    (fun v x hp hr => relab_ac hb v x hp hr) h hl

def st0 (args : List AV) : St := ⟨fun s => args.getD s .bad, fun _ => none⟩

def resF (tmps : Array Value) : ResultVar → Sem Value
  | .tmp t => pure (tmps.getD t undef)
  | .cell t ty => do loadVar ty (← asAddr (tmps.getD t undef))

theorem results_eq (fn : Func) (tmps : Array Value) : results fn tmps = (do let vs ← fn.results.mapM (resF tmps); pure (if h : vs.size = 1 then vs[0] else .tuple vs)) := by
  have e : (fun (r : ResultVar) => match r with
      | .tmp t => pure (tmps.getD t undef)
      | .cell a t => do loadVar t (← asAddr (tmps.getD a undef)) : ResultVar → Sem Value) = resF tmps := by
    funext r; cases r <;> rfl
  rw [← e]; rfl

theorem res_run {P : Program} {C : Cx} {st : St} {a : Act} {w : World} {ρ β : Fam} (hJ : J C st a w ρ β) : ∀ (rs : List ResultVar) (l : List AV), resAV P st rs = some l →
    ∃ vs : List Value, (rs.mapM (resF a.tmps) : Sem (List Value)).run P w = .ok vs w ∧ vs.length = l.length ∧ ∀ (j : Nat) (u : Value) (x : AV), vs[j]? = some u → l[j]? = some x → AVRep w ρ β u x
  | [], l, h => by
    simp [resAV] at h
    subst h
    exact ⟨[], by simp, rfl, by simp⟩
  | .tmp t :: r, l, h => by
    simp only [resAV] at h
    cases hr : resAV P st r with
    | none => simp [hr] at h
    | some l' =>
      simp [hr] at h
      subst h
      obtain ⟨vs, h1, h2, h3⟩ := res_run hJ r l' hr
      refine ⟨a.tmps.getD t undef :: vs, by simp only [List.mapM_cons, resF, Sem.run_bind, Sem.run_pure, Result.andThen_ok, h1], by simp [h2], fun j u x hu hx => ?_⟩
      cases j with
      | zero =>
        simp only [List.getElem?_cons_zero, Option.some.injEq] at hu hx
        subst hu hx; exact hJ.env t
      | succ j => exact h3 j u x (by simpa using hu) (by simpa using hx)
  | .cell t ty :: r, l, h => by
    simp only [resAV] at h
    split at h
    · rename_i b off l' ht hr
      cases hb : st.box b with
      | none => simp [hb] at h
      | some xs =>
        simp only [hb] at h
        cases hp : partAC P ty xs off with
        | none => simp [hp] at h
        | some y =>
          simp [hp] at h
          subst h
          obtain ⟨vs, h1, h2, h3⟩ := res_run hJ r l' hr
          have hx := hJ.env t
          rw [ht] at hx
          obtain ⟨g, hβ, hv⟩ := rep_cell hx
          obtain ⟨g', raws, e, hβ', hpr, hg, hl, ho, hrep⟩ := hJ.box b xs hb
          rw [hβ] at hβ'; cases hβ'
          have hs : Seg w ρ β raws.toList xs := ⟨by simpa using hl, ho, fun j u x hu hx => hrep j u x (by simpa using hu) hx⟩
          obtain ⟨v, hrun, hv'⟩ := load_run (P := P) (a := ⟨g, 0, none⟩) hs (fun j u hj => by
            rw [ptr_add, Nat.zero_add]
            simp [World.cell?, hg]
            simpa using hj) hp
          rw [ptr_add, Nat.zero_add] at hrun
          refine ⟨v :: vs, ?_, by simp [h2], fun j u x hu hx => ?_⟩
          · have hA : (asAddr (a.tmps.getD t undef)).run P w = .ok ⟨g, off, none⟩ w := by rw [hv]; rfl
            simp only [List.mapM_cons, resF, Sem.run_bind, hA, Sem.run_pure, Result.andThen_ok, hrun, h1]
          · cases j with
            | zero => simp at hu hx; subst hu hx; exact hv'
            | succ j => exact h3 j u x (by simpa using hu) (by simpa using hx)
    · cases h

theorem ret_run {P : Program} {C : Cx} {st : St} {a : Act} {w : World} {ρ β : Fam} (hJ : J C st a w ρ β) {fn : Func} {x : AV} (h : retAV P st fn.results.toList = some x) :
    ∃ v, (results fn a.tmps).run P w = .ok v w ∧ AVRep w ρ β v x := by
  unfold retAV at h
  have main : ∀ l, resAV P st fn.results.toList = some l → ∃ vs : List Value, (results fn a.tmps).run P w = .ok (if h : vs.toArray.size = 1 then vs.toArray[0] else .tuple vs.toArray) w ∧ vs.length = l.length ∧
      ∀ (j : Nat) (u : Value) (x : AV), vs[j]? = some u → l[j]? = some x → AVRep w ρ β u x := by
    intro l hl
    obtain ⟨vs, h1, h2, h3⟩ := res_run hJ _ l hl
    refine ⟨vs, ?_, h2, h3⟩
    rw [results_eq, Array.mapM_eq_mapM_toList]
    simp only [Sem.run_bind, Sem.run_map, h1, Result.andThen_ok, Sem.run_pure]
  split at h
  · rename_i y hy
    cases h
    obtain ⟨vs, h1, h2, h3⟩ := main _ hy
    match vs, h2 with
    | [v], _ => exact ⟨v, by simpa using h1, h3 0 v _ rfl rfl⟩
  · rename_i l hne hl
    cases h
    obtain ⟨vs, h1, h2, h3⟩ := main _ hl
    have hsz : ¬ vs.toArray.size = 1 := by
      intro e
      match l, h2 with
      | [y], _ => exact hne y rfl
      | [], h2 => simp only [List.size_toArray] at e; simp only [List.length_nil] at h2; omega
      | _ :: _ :: _, h2 => simp only [List.size_toArray] at e; simp only [List.length_cons] at h2; omega
    rw [dif_neg hsz] at h1
    exact ⟨_, h1, .tup _ _ (by simpa using h2) fun j u x hu hx => h3 j u x (by simpa using hu) hx⟩
  · cases h

/-- THE CONTRACT OF A FUNCTION, from its code. -/
theorem at_intro {P : Program} {f : FuncId} {fn : Func} {c : Code} {args : List AV} {r : AV} (hm : P.follows .mixedOrders = true) (hf : P.funcs[f]? = some fn) (hname : (fn.name == "runtime.NumGoroutine") = false) (hb : fn.body = some c)
    (hargs : args.length ≤ fn.ntmps) (hok : codeOk fn.ntmps c = true)
    (h : awp P c (fun e st => (e = .normal ∨ e = .ret) ∧ ∃ st', Weak st st' ∧ ∃ x, retAV P st' fn.results.toList = some x ∧ canon x = r) (st0 args)) : At P f args r := by
  refine ⟨⟨fn, hf, hname, by rw [hb]; rfl⟩, fun w vs bad0 hbad hlen hrep => ?_⟩
  refine calls_of_wp hf hb ?_
  let C : Cx := { prot := fun b => b < w.heap.size, bad0 := bad0, w0 := w, N := fn.ntmps }
  have hJ : J C (st0 args) { tmps := vs ++ Array.replicate (fn.ntmps - vs.size) undef, defers := [] } w noneF (beta0 bad0) := by
    refine ⟨by simp; show vs.size + (fn.ntmps - vs.size) = fn.ntmps; omega, rfl, rfl, rfl, rfl, Nat.le_refl _, fun _ _ => rfl, fun b h => h, fun b hb => ?_, ⟨fun f b h => by simp [noneF] at h, fun i b h => ?_, fun f f' b h => by simp [noneF] at h, fun i k b h1 h2 => ?_, fun f i b h => by simp [noneF] at h⟩, fun s => ?_, fun i xs h => by simp [st0] at h⟩
    · unfold beta0
      have e : (2 * b + 1) / 2 = b := by omega
      rw [e, if_pos ⟨by omega, hb⟩]
    · unfold beta0 at h; split at h
      · rename_i hc; cases h; exact hbad _ hc.2
      · cases h
    · unfold beta0 at h1 h2
      split at h1
      · split at h2
        · rename_i c1 c2; simp only [Option.some.injEq] at h1 h2; omega
        · cases h2
      · cases h1
    · simp only [st0]
      rcases Nat.lt_or_ge s args.length with hs | hs
      · have h1 : (vs ++ Array.replicate (fn.ntmps - vs.size) undef).getD s undef = vs[s]'(by omega) := by
          rw [Array.getD_eq_getD_getElem?, Array.getElem?_append_left (by omega), Array.getElem?_eq_getElem (by omega)]; rfl
        rw [h1, List.getD_eq_getElem?_getD, List.getElem?_eq_getElem hs]
        exact hrep s _ _ (Array.getElem?_eq_getElem (by omega)) (List.getElem?_eq_getElem hs)
      · rw [List.getD_eq_getElem?_getD, List.getElem?_eq_none hs]; exact .bad _
  have hw := awp_sound (C := C) hm c _ _ _ _ _ _ hok h hJ
  refine Code.wp_mono ?_ hw
  rintro e a' w' ⟨st₀, ρ, β, ⟨he, st, hwk, x, hx, rfl⟩, hJ'⟩
  replace hJ' := hJ'.weak hwk
  obtain ⟨v, hr, hv⟩ := ret_run hJ' hx
  have hbd : ∀ b, ¬ Bad ρ β b → ¬ Bad (relF ρ x.labs) (beta0 bad0) b := by
    intro b hnb
    rw [bad_beta0]
    rintro (⟨k, hk⟩ | hb)
    · obtain ⟨f, _, hf⟩ := relF_some hk
      exact hnb (.inl ⟨f, hf⟩)
    · exact hnb (.inr ⟨2 * b + 1, hJ'.phan b hb⟩)
  have hpost : ∃ v' ρr, (Ending.returned v) = .returned v' ∧ Below w.heap.size w w' ∧ (∀ g b, ρr g = some b → w.heap.size ≤ b ∧ b < w'.heap.size) ∧ (∀ g g' b, ρr g = some b → ρr g' = some b → g = g') ∧ AVRep w' ρr (beta0 bad0) v' (canon x) := by
    refine ⟨v, relF ρ x.labs, rfl, ⟨hJ'.os, hJ'.tape, hJ'.output, hJ'.grown, hJ'.kept⟩, fun g b hg => ?_, fun g g' b h1 h2 => ?_, relab_av hbd hv (fun f hf => hf)⟩
    · obtain ⟨f, _, hf⟩ := relF_some hg
      have := hJ'.apart.fam _ b hf
      exact ⟨Nat.le_of_not_lt this.1, this.2⟩
    · obtain ⟨f, e1, hf⟩ := relF_some h1
      obtain ⟨f', e2, hf'⟩ := relF_some h2
      have := hJ'.apart.inj f f' b hf hf'
      subst this; omega
  rcases he with rfl | rfl <;> exact ⟨hJ'.defers, v, hr, hpost⟩

end Go.Fw
