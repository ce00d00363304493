/- A region that draws its order: every order comes to what the order of the text comes to. -/
import Derived.Test.YtlcmbjhppkddlaaFwL
namespace Go.Fw
open Go.RowKit (Below)

/-! Which operations stand ahead of which, by masks. -/
def mask (acc : List Nat) : List Edge → Nat
  | [] => 0
  | e :: r => if Region.binds .any e then mask acc r ||| 2 ^ e.on ||| acc.getD e.on 0 else mask acc r

def befL : List Oper → List Nat → List Nat
  | [], acc => acc
  | o :: r, acc => befL r (acc ++ [mask acc o.after.toList])

inductive Reach (ops : Array Oper) : Nat → Nat → Prop
  | direct (i : Nat) (o : Oper) (e : Edge) (ho : ops[i]? = some o) (he : e ∈ o.after) (hb : Region.binds .any e = true) : Reach ops i e.on
  | step (i j : Nat) (o : Oper) (e : Edge) (ho : ops[i]? = some o) (he : e ∈ o.after) (hb : Region.binds .any e = true) (h : Reach ops e.on j) : Reach ops i j

theorem mask_spec (acc : List Nat) (j : Nat) : ∀ es : List Edge, (mask acc es).testBit j = true → ∃ e ∈ es, Region.binds .any e = true ∧ (e.on = j ∨ (acc.getD e.on 0).testBit j = true)
  | [], h => by simp [mask] at h
  | e :: r, h => by
    simp only [mask] at h
    split at h
    · rename_i hb
      rw [Nat.testBit_or, Nat.testBit_or, Nat.testBit_two_pow] at h
      simp only [Bool.or_eq_true, decide_eq_true_eq] at h
      rcases h with (h | h) | h
      · obtain ⟨e', he', h'⟩ := mask_spec acc j r h
        exact ⟨e', by simp [he'], h'⟩
      · exact ⟨e, by simp, hb, .inl h⟩
      · exact ⟨e, by simp, hb, .inr h⟩
    · obtain ⟨e', he', h'⟩ := mask_spec acc j r h
      exact ⟨e', by simp [he'], h'⟩

theorem befL_spec (ops : Array Oper) : ∀ (l pre : List Oper) (acc : List Nat), ops.toList = pre ++ l → acc.length = pre.length → (∀ i j, (acc.getD i 0).testBit j = true → Reach ops i j) →
    ∀ i j, ((befL l acc).getD i 0).testBit j = true → Reach ops i j
  | [], pre, acc, h1, h2, h3 => h3
  | o :: r, pre, acc, h1, h2, h3 => by
    refine befL_spec ops r (pre ++ [o]) (acc ++ [mask acc o.after.toList]) (by simp [h1]) (by simp [h2]) (fun i j h => ?_)
    rcases Nat.lt_trichotomy i acc.length with hi | hi | hi
    · rw [List.getD_eq_getElem?_getD, List.getElem?_append_left hi, ← List.getD_eq_getElem?_getD] at h
      exact h3 i j h
    · subst hi
      rw [List.getD_eq_getElem?_getD, List.getElem?_append_right (Nat.le_refl _)] at h
      simp at h
      obtain ⟨e, he, hb, h'⟩ := mask_spec acc j _ h
      have ho : ops[acc.length]? = some o := by
        rw [← Array.getElem?_toList, h1, h2, List.getElem?_append_right (Nat.le_refl _)]; simp
      rcases h' with h' | h'
      · subst h'; exact .direct _ o e ho (by simpa using he) hb
      · exact .step _ _ o e ho (by simpa using he) hb (h3 _ _ h')
    · rw [List.getD_eq_getElem?_getD, List.getElem?_eq_none (by simp; omega)] at h
      simp at h

/-- Operations i and j, where one writes what the other looks at or writes, stand in a fixed order; what an operation waits for stands ahead of it. -/
def dchk (ops : Array Oper) : Bool :=
  let b := befL ops.toList []
  (List.range ops.size).all fun i =>
    ((ops.getD i default).after.toList.all fun e => !Region.binds .any e || decide (e.on < i)) &&
    (List.range ops.size).all fun j => i == j || (wslots (ops.getD j default)).all fun s =>
      !((ops.getD i default).looksAt ops ++ wslots (ops.getD i default)).contains s || (if j < i then (b.getD i 0).testBit j else (b.getD j 0).testBit i)

def Closed (ops : Array Oper) (S : Nat → Bool) : Prop := ∀ i o, ops[i]? = some o → S i = true → ∀ e ∈ o.after, Region.binds .any e = true → S e.on = true

theorem Closed.reach {ops : Array Oper} {S : Nat → Bool} (h : Closed ops S) {i j : Nat} (hr : Reach ops i j) : S i = true → S j = true := by
  induction hr with
  | direct i o e ho he hb => exact fun hi => h i o ho hi e he hb
  | step i j o e ho he hb _ ih => exact fun hi => ih (h i o ho hi e he hb)

theorem ready_reach {ops : Array Oper} {S : Nat → Bool} (h : Closed ops S) {i j : Nat} {o : Oper} (ho : ops[i]? = some o) (hi : ∀ e ∈ o.after, Region.binds .any e = true → S e.on = true) (hr : Reach ops i j) : S j = true := by
  cases hr with
  | direct _ o' e ho' he hb => rw [ho] at ho'; cases ho'; exact hi e he hb
  | step _ _ o' e ho' he hb hr => rw [ho] at ho'; cases ho'; exact h.reach hr (hi e he hb)

structure DChk (ops : Array Oper) : Prop where
  down : ∀ i o, ops[i]? = some o → ∀ e ∈ o.after, Region.binds .any e = true → e.on < i
  pair : ∀ i j oi oj, ops[i]? = some oi → ops[j]? = some oj → i ≠ j → ∀ s ∈ wslots oj, s ∈ oi.looksAt ops ∨ s ∈ wslots oi → (j < i → Reach ops i j) ∧ (i < j → Reach ops j i)

theorem dchk_spec {ops : Array Oper} (h : dchk ops = true) : DChk ops := by
  unfold dchk at h
  simp only [List.all_eq_true, List.mem_range, Bool.and_eq_true] at h
  have hg : ∀ i o, ops[i]? = some o → i < ops.size ∧ ops.getD i default = o := by
    intro i o ho
    have hi : i < ops.size := (Array.getElem?_eq_some_iff.1 ho).1
    exact ⟨hi, by rw [Array.getD_eq_getD_getElem?, ho]; rfl⟩
  have hbef := befL_spec ops ops.toList [] [] rfl rfl (by simp)
  refine ⟨fun i o ho e he hb => ?_, fun i j oi oj hi hj hne s hs hl => ?_⟩
  · obtain ⟨h1, h2⟩ := hg i o ho
    have := (h i h1).1 e (by rw [h2]; simpa using he)
    simpa [hb] using this
  · obtain ⟨i1, i2⟩ := hg i oi hi
    obtain ⟨j1, j2⟩ := hg j oj hj
    have := (h i i1).2 j j1
    simp only [Bool.or_eq_true, beq_iff_eq, hne, false_or, List.all_eq_true] at this
    have := this s (by rw [j2]; exact hs)
    rw [i2] at this
    have hc : (oi.looksAt ops ++ wslots oi).contains s = true := by
      rw [List.contains_iff_mem, List.mem_append]; exact hl
    rw [hc] at this
    simp only [Bool.not_true, Bool.false_eq_true, false_or] at this
    refine ⟨fun hlt => hbef i j ?_, fun hlt => hbef j i ?_⟩
    · rwa [if_pos hlt] at this
    · rwa [if_neg (by omega)] at this

section
variable {ops : Array Oper} {outs : List AV} {env0 : Nat → AV}

theorem getD_of {i : Nat} {o : Oper} (h : ops[i]? = some o) : ops.getD i default = o := by rw [Array.getD_eq_getD_getElem?, h]; rfl

/-- What operation i looks at reads as in the order of the text. -/
theorem envOf_agree (hD : DChk ops) {S : Nat → Bool} (hS : Closed ops S) {i : Nat} {o : Oper} (ho : ops[i]? = some o) (hi : S i = false) (hready : ∀ e ∈ o.after, Region.binds .any e = true → S e.on = true)
    (m : Nat) (hm : m ≤ ops.size) (him : i < m) : agreeOn (o.looksAt ops) (envOf ops outs env0 S m) (envOf ops outs env0 (fun _ => true) i) := by
  intro s hs
  have key : ∀ k, k ≤ m → envOf ops outs env0 S k s = envOf ops outs env0 (fun _ => true) (min k i) s := by
    intro k
    induction k with
    | zero => intro _; simp [envOf]
    | succ k ih =>
      intro hk
      have ihk := ih (by omega)
      have hks : k < ops.size := by omega
      have hok : ops[k]? = some ops[k] := Array.getElem?_eq_getElem hks
      simp only [envOf]
      by_cases hw : s ∈ wslots ops[k]
      · rcases Nat.lt_trichotomy k i with hlt | heq | hgt
        · have hr := (hD.pair i k o ops[k] ho hok (by omega) s hw (.inl hs)).1 hlt
          have hSk := ready_reach hS ho hready hr
          rw [if_pos hSk]
          have e1 : min (k + 1) i = k + 1 := by omega
          have e2 : min k i = k := by omega
          rw [e2] at ihk
          rw [e1]
          simp only [envOf, if_true]
          rw [getD_of hok]
          unfold wr
          have hd : ∀ (d : Option Nat) (x : AV) (e e' : Nat → AV), (s ∉ d.toList → e s = e' s) → putE e d x s = putE e' d x s := by
            intro d x e e' h
            cases d with
            | none => exact h (by simp)
            | some d => simp only [putE]; split; rfl; rename_i hne; exact h (by simp; exact hne)
          exact hd _ _ _ _ fun _ => hd _ _ _ _ fun _ => ihk
        · subst heq
          rw [if_neg (by rw [hi]; simp), ihk]
          congr 1; omega
        · have hr := (hD.pair i k o ops[k] ho hok (by omega) s hw (.inl hs)).2 hgt
          have : S k = false := by
            cases hSk : S k with
            | false => rfl
            | true => have := hS.reach hr hSk; rw [hi] at this; cases this
          rw [if_neg (by rw [this]; simp), ihk]
          congr 1; omega
      · have e0 : (if S k = true then wr (ops.getD k default) (outs.getD k .bad) (envOf ops outs env0 S k) else envOf ops outs env0 S k) s = envOf ops outs env0 S k s := by
          split
          · exact wr_other (o := ops[k]) hw
          · rfl
        rw [e0, ihk]
        rcases Nat.lt_or_ge k i with hlt | hge
        · have e1 : min (k + 1) i = k + 1 := by omega
          have e2 : min k i = k := by omega
          rw [e1, e2]
          simp only [envOf, if_true]
          rw [getD_of hok, wr_other hw]
        · congr 1; omega
  have := key m (Nat.le_refl _)
  rw [this]
  congr 1; omega

def addS (S : Nat → Bool) (i : Nat) : Nat → Bool := fun k => decide (k = i) || S k

/-- One operation more. -/
theorem envOf_add (hD : DChk ops) {S : Nat → Bool} (hS : Closed ops S) {i : Nat} {o : Oper} (ho : ops[i]? = some o) (hi : S i = false) (m : Nat) (hm : m ≤ ops.size) (him : i < m) :
    envOf ops outs env0 (addS S i) m = wr o (outs.getD i .bad) (envOf ops outs env0 S m) := by
  funext s
  have before : ∀ k, k ≤ i → envOf ops outs env0 (addS S i) k = envOf ops outs env0 S k := by
    intro k
    induction k with
    | zero => intro _; rfl
    | succ k ih =>
      intro hk
      simp only [envOf, ih (by omega)]
      have : addS S i k = S k := by simp [addS]; omega
      rw [this]
  have key : ∀ k, i < k → k ≤ m → envOf ops outs env0 (addS S i) k s = wr o (outs.getD i .bad) (envOf ops outs env0 S k) s := by
    intro k
    induction k with
    | zero => intro h; omega
    | succ k ih =>
      intro hik hk
      have hok : ops[k]? = some ops[k] := Array.getElem?_eq_getElem (by omega)
      rcases Nat.lt_or_ge i k with hlt | hge
      · have ihk := ih hlt (by omega)
        have hSk : addS S i k = S k := by simp [addS]; omega
        simp only [envOf, hSk]
        split
        · rename_i hSk'
          rw [getD_of hok]
          by_cases hw : s ∈ wslots ops[k]
          · by_cases hwo : s ∈ wslots o
            · have hr := (hD.pair i k o ops[k] ho hok (by omega) s hw (.inr hwo)).2 hlt
              have := hS.reach hr hSk'
              rw [hi] at this; cases this
            · rw [wr_other hwo]
              have hd : ∀ (d : Option Nat) (x : AV) (e e' : Nat → AV), (s ∉ d.toList → e s = e' s) → putE e d x s = putE e' d x s := by
                intro d x e e' h
                cases d with
                | none => exact h (by simp)
                | some d => simp only [putE]; split; rfl; rename_i hne; exact h (by simp; exact hne)
              rw [wr_other hwo] at ihk
              exact hd _ _ _ _ fun _ => hd _ _ _ _ fun _ => ihk
          · rw [wr_other hw, ihk]
            by_cases hwo : s ∈ wslots o
            · have hd : ∀ (d : Option Nat) (x : AV) (e e' : Nat → AV), (s ∉ d.toList → e s = e' s) → putE e d x s = putE e' d x s := by
                intro d x e e' h
                cases d with
                | none => exact h (by simp)
                | some d => simp only [putE]; split; rfl; rename_i hne; exact h (by simp; exact hne)
              unfold wr
              refine hd _ _ _ _ fun _ => hd _ _ _ _ fun _ => ?_
              exact (wr_other (o := ops[k]) (out := outs.getD k .bad) (env := envOf ops outs env0 S k) hw).symm
            · rw [wr_other hwo, wr_other hwo, wr_other hw]
        · exact ihk
      · have : k = i := by omega
        subst this
        have hSk : addS S k k = true := by simp [addS]
        simp only [envOf, hSk, if_true, hi]
        rw [getD_of ho, before k (Nat.le_refl _)]
        simp
  exact key m him (Nat.le_refl _)

/-- A family that one result alone names stands in that result's slot alone. -/
theorem envOf_labs {f k : Nat} (h0 : ∀ s, f ∉ (env0 s).labs) (hk : ∀ j, j ≠ k → f ∉ (outs.getD j .bad).labs) {S : Nat → Bool} : ∀ (m : Nat) (s : Nat), f ∈ (envOf ops outs env0 S m s).labs → (ops.getD k default).dst = some s
  | 0, s, h => (h0 s h).elim
  | m + 1, s, h => by
    simp only [envOf] at h
    split at h
    · unfold wr at h
      cases hd : (ops.getD m default).dst with
      | none =>
        rw [hd] at h
        simp only [putE] at h
        cases hc : cons (ops.getD m default) with
        | none => rw [hc] at h; exact envOf_labs h0 hk m s h
        | some t =>
          rw [hc] at h
          simp only at h
          split at h
          · simp [AV.labs] at h
          · exact envOf_labs h0 hk m s h
      | some d =>
        rw [hd] at h
        simp only [putE] at h
        split at h
        · rename_i e
          by_cases hmk : m = k
          · subst hmk; rw [hd, e]
          · exact (hk m hmk h).elim
        · cases hc : cons (ops.getD m default) with
          | none => rw [hc] at h; exact envOf_labs h0 hk m s h
          | some t =>
            rw [hc] at h
            simp only at h
            split at h
            · simp [AV.labs] at h
            · exact envOf_labs h0 hk m s h
    · exact envOf_labs h0 hk m s h
end

theorem retire_labs_ac (F : Nat → Bool) (x : AC) : ∀ f ∈ (x.retire F).labs, F f = false := by
  intro f hf
  cases x <;> simp only [AC.retire] at hf <;> try (simp [AC.labs] at hf; done)
  · split at hf
    · simp [AC.labs] at hf
    · rename_i h; simp [AC.labs] at hf; subst hf; simpa using h
  · split at hf
    · simp [AC.labs] at hf
    · rename_i h; simp [AC.labs] at hf; subst hf; simpa using h
  · rename_i k cells pos
    cases k with
    | none => simp [AC.labs] at hf
    | some g =>
      simp only at hf
      split at hf
      · simp [AC.labs] at hf
      · rename_i h; simp [AC.labs] at hf; subst hf; simpa using h
  · split at hf
    · simp [AC.labs] at hf
    · rename_i h; simp [AC.labs] at hf; subst hf; simpa using h

theorem retire_labs (F : Nat → Bool) : ∀ (x : AV), ∀ f ∈ (x.retire F).labs, F f = false
  | .cell x => retire_labs_ac F x
  | .agg xs => by
    intro f hf
    simp only [AV.retire, AV.labs, List.mem_flatMap, List.mem_map] at hf
    obtain ⟨_, ⟨x, _, rfl⟩, hf⟩ := hf
    exact retire_labs_ac F x f hf
  | .tup xs => by
    intro f hf
    simp only [AV.retire, AV.labs] at hf
    exact go xs f hf
  | .bad => by intro f hf; simp [AV.retire, AV.labs] at hf
where
  go : ∀ (xs : List AV), ∀ f ∈ AV.labs.go (AV.retire.go F xs), F f = false
    | [], f, hf => by simp [AV.retire.go, AV.labs.go] at hf
    | x :: xs, f, hf => by
      simp only [AV.retire.go, AV.labs.go, List.mem_append] at hf
      rcases hf with h | h
      · exact retire_labs F x f h
      · exact go xs f h

/-! ### The rule -/
def isBar : Op → Bool
  | .store _ _ _ => true
  | _ => false

/-- The quiet operations of a region, in the order of the text. -/
def dgo (P : Program) (rid : Nat) (ops : Array Oper) (bx : Nat → Option (List AC)) : Nat → List Oper → (Nat → AV) → List AV → List (Nat × Nat) → (List AV → List (Nat × Nat) → (Nat → AV) → Prop) → Prop
  | _, [], env, outs, nds, K => K outs nds env
  | i, o :: rest, env, outs, nds, K => dstep P rid i ops bx env o fun out nd => dgo P rid ops bx (i + 1) rest (wr o out env) (outs ++ [out]) (nd.toList ++ nds) K

def ndOk (outs : List AV) (nds : List (Nat × Nat)) : Bool := nds.all fun p => (List.range outs.length).all fun j => j == p.1 || !(outs.getD j .bad).labs.contains p.2

/-- A REGION THAT DRAWS ITS ORDER: quiet operations; the last may be a store behind all of them. -/
def dops (P : Program) (rid : Nat) (ops : Array Oper) (st : St) (K : St → Prop) : Prop :=
  (dchk ops = true ∧ ops.size ≤ 1024) ∧
  match ops.toList.getLast?.map (fun o => (o, isBar o.op)) with
  | some (o, true) =>
    (o.guard.isNone = true ∧ ((List.range (ops.size - 1)).all fun j => ((befL ops.toList []).getD (ops.size - 1) 0).testBit j) = true) ∧
    dgo P rid ops (st.retire (isRid rid)).box 0 ops.toList.dropLast (st.retire (isRid rid)).env [] [] fun outs nds env =>
      ndOk outs nds = true ∧ fop P (rid * 65536 + (ops.size - 1) * 64) o.op ⟨env, (st.retire (isRid rid)).box⟩ fun out st' => K (st'.put o.dst out)
  | _ =>
    dgo P rid ops (st.retire (isRid rid)).box 0 ops.toList (st.retire (isRid rid)).env [] [] fun outs nds env => ndOk outs nds = true ∧ K ⟨env, (st.retire (isRid rid)).box⟩

section
variable {P : Program} {rid : Nat} {ops : Array Oper} {bx : Nat → Option (List AC)} {env0 : Nat → AV}

theorem envOf_congr {outs outs' : List AV} {S S' : Nat → Bool} : ∀ m, (∀ j, j < m → outs.getD j .bad = outs'.getD j .bad ∧ S j = S' j) → envOf ops outs env0 S m = envOf ops outs' env0 S' m
  | 0, _ => rfl
  | m + 1, h => by
    simp only [envOf, envOf_congr m (fun j hj => h j (by omega)), (h m (by omega)).1, (h m (by omega)).2]

theorem dgo_spec {K : List AV → List (Nat × Nat) → (Nat → AV) → Prop} : ∀ (l pre tail : List Oper) (outs : List AV) (nds : List (Nat × Nat)) (env : Nat → AV), ops.toList = pre ++ l ++ tail → outs.length = pre.length →
    env = envOf ops outs env0 (fun _ => true) pre.length → dgo P rid ops bx pre.length l env outs nds K →
    ∃ outs2 nds2, outs2.length = pre.length + l.length ∧ (∀ j, j < pre.length → outs2.getD j .bad = outs.getD j .bad) ∧ K outs2 nds2 (envOf ops outs2 env0 (fun _ => true) (pre.length + l.length)) ∧ (∀ p ∈ nds, p ∈ nds2) ∧
      ∀ j o, pre.length ≤ j → j < pre.length + l.length → ops[j]? = some o → ∃ nd : Option (Nat × Nat), (∀ p, nd = some p → p ∈ nds2) ∧
        dstep P rid j ops bx (envOf ops outs2 env0 (fun _ => true) j) o (fun x y => x = outs2.getD j .bad ∧ y = nd)
  | [], pre, tail, outs, nds, env, h1, h2, h3, h => by
    refine ⟨outs, nds, by simpa using h2, fun _ _ => rfl, ?_, fun _ h => h, fun j o hj hj' => by simp at hj'; omega⟩
    simp only [List.length_nil, Nat.add_zero]
    rw [← h3]; exact h
  | o :: rest, pre, tail, outs, nds, env, h1, h2, h3, h => by
    obtain ⟨out, nd, hK, hs⟩ := dstep_split h
    have ho : ops[pre.length]? = some o := by
      rw [← Array.getElem?_toList, h1, List.append_assoc, List.getElem?_append_right (Nat.le_refl _)]; simp
    have hout : ∀ j, j < pre.length → (outs ++ [out]).getD j .bad = outs.getD j .bad := by
      intro j hj
      rw [List.getD_eq_getElem?_getD, List.getElem?_append_left (by omega), ← List.getD_eq_getElem?_getD]
    have hlast : (outs ++ [out]).getD pre.length .bad = out := by
      rw [List.getD_eq_getElem?_getD, ← h2, List.getElem?_append_right (Nat.le_refl _)]; simp
    have henv : wr o out env = envOf ops (outs ++ [out]) env0 (fun _ => true) (pre ++ [o]).length := by
      rw [List.length_append, List.length_singleton]
      simp only [envOf, if_true, hlast, getD_of ho]
      rw [h3, envOf_congr pre.length (fun j hj => ⟨(hout j hj).symm, rfl⟩)]
    obtain ⟨outs2, nds2, a1, a2, a3, a4, a5⟩ := dgo_spec rest (pre ++ [o]) tail (outs ++ [out]) (nd.toList ++ nds) (wr o out env) (by simp [h1]) (by simp [h2]) henv (by simpa using hK)
    have hlen : (pre ++ [o]).length = pre.length + 1 := by simp
    rw [hlen] at a1 a2 a3 a5
    have hl : pre.length + (o :: rest).length = pre.length + 1 + rest.length := by simp; omega
    rw [hl]
    refine ⟨outs2, nds2, a1, fun j hj => (a2 j (by omega)).trans (hout j hj), a3, fun p hp => a4 p (by simp [hp]), fun j o' hj hj' ho' => ?_⟩
    rcases Nat.lt_or_ge pre.length j with hlt | hge
    · exact a5 j o' (by omega) hj' ho'
    · have : j = pre.length := by omega
      subst this
      rw [ho] at ho'; cases ho'
      refine ⟨nd, fun p hp => a4 p (by simp [hp]), ?_⟩
      have e1 : outs2.getD pre.length .bad = out := by rw [a2 pre.length (by omega), hlast]
      have e2 : envOf ops outs2 env0 (fun _ => true) pre.length = env := by
        rw [h3]; exact envOf_congr _ (fun j hj => ⟨(a2 j (by omega)).trans (hout j hj), rfl⟩)
      rw [e1, e2]; exact hs

theorem J.drew {C : Cx} {st : St} {a : Act} {w : World} {ρ β : Fam} (h : J C st a w ρ β) (n : Nat) : J C st a { w with drawn := n } ρ β :=
  h.grow (id := 0) ⟨rfl, rfl, rfl, Nat.le_refl _, fun _ _ => rfl⟩ (NewFam.refl h.apart 0)

def unl (n : Nat) (S : Nat → Bool) : Nat := ((List.range n).filter fun j => !S j).length

theorem unl_add {n : Nat} {S : Nat → Bool} {i : Nat} (hi : i < n) (hS : S i = false) : unl n (addS S i) < unl n S := by
  unfold unl
  have e : (List.range n).filter (fun j => !addS S i j) = ((List.range n).filter fun j => !S j).filter (fun j => decide (j ≠ i)) := by
    rw [List.filter_filter]
    congr 1
    funext j
    simp [addS, Bool.and_comm]
  rw [e, List.length_filter_lt_length_iff_exists]
  exact ⟨i, by simp [hi, hS], by simp⟩

theorem mem_ready' {listed : Array Bool} {i : Nat} : i ∈ Region.ready .any ops listed ↔ ∃ o, ops[i]? = some o ∧ listed.getD i true = false ∧ ∀ e ∈ o.after, Region.binds .any e = true → listed.getD e.on false = true := by
  unfold Region.ready
  rw [List.mem_filter]
  constructor
  · rintro ⟨h1, h2⟩
    rw [List.mem_range] at h1
    refine ⟨ops[i], Array.getElem?_eq_getElem h1, ?_⟩
    simp only [Bool.and_eq_true, Bool.not_eq_true', Array.getElem?_eq_getElem h1, Option.map_some, Option.getD_some, Array.all_eq_true'] at h2
    refine ⟨h2.1, fun e he hb => ?_⟩
    have := h2.2 e he
    simpa [hb] using this
  · rintro ⟨o, ho, h1, h2⟩
    refine ⟨List.mem_range.2 (Array.getElem?_eq_some_iff.1 ho).1, ?_⟩
    simp only [Bool.and_eq_true, Bool.not_eq_true', ho, Option.map_some, Option.getD_some, Array.all_eq_true']
    refine ⟨h1, fun e he => ?_⟩
    cases hb : Region.binds .any e with
    | false => simp
    | true => simp [h2 e he hb]

theorem ready_nil {listed : Array Bool} (hsz : listed.size = ops.size) (hD : DChk ops) (h : Region.ready .any ops listed = []) : ∀ i, i < ops.size → listed.getD i false = true := by
  intro i
  induction i using Nat.strongRecOn with
  | _ i ih =>
    intro hi
    cases hl : listed.getD i false with
    | true => rfl
    | false =>
      have : i ∈ Region.ready .any ops listed := mem_ready'.2 ⟨ops[i], Array.getElem?_eq_getElem hi, by
        rw [Array.getD_eq_getD_getElem?, Array.getElem?_eq_getElem (by omega)] at hl ⊢; simpa using hl, fun e he hb => by
        have := hD.down i ops[i] (Array.getElem?_eq_getElem hi) e he hb
        exact ih e.on this (by omega)⟩
      rw [h] at this; cases this

theorem wpAny_done' {listed : Array Bool} {Q : Exit → Act → World → Prop} {a : Act} {w : World} (hall : ∀ i, i < ops.size → listed.getD i true = true) (hQ : Q .normal a w) : ∀ fuel, wpAny P .any ops Q fuel listed a w := by
  have hr : Region.ready .any ops listed = [] := by
    cases h : Region.ready .any ops listed with
    | nil => rfl
    | cons i r =>
      obtain ⟨o, ho, h1, _⟩ := mem_ready'.1 (show i ∈ Region.ready .any ops listed by rw [h]; simp)
      have := hall i (Array.getElem?_eq_some_iff.1 ho).1
      rw [this] at h1; cases h1
  intro fuel
  cases fuel with
  | zero => exact ⟨hr, hQ⟩
  | succ fuel => exact ⟨fun _ => hQ, fun i hi => by rw [hr] at hi; cases hi⟩

/-- THE RUN, WHATEVER THE ORDER. -/
theorem drawn_run {C : Cx} {Q : Exit → Act → World → Prop} {outs : List AV} {m : Nat} (hD : DChk ops) (hm : m ≤ ops.size) (hm1 : ops.size ≤ m + 1) (hd : ∀ o ∈ ops.toList, dstOk C.N o.dst)
    (hstep : ∀ j o, j < m → ops[j]? = some o → ∃ nd : Option (Nat × Nat), dstep P rid j ops bx (envOf ops outs env0 (fun _ => true) j) o (fun x y => x = outs.getD j .bad ∧ y = nd) ∧
      ∀ k f, nd = some (k, f) → (∀ s, f ∉ (env0 s).labs) ∧ (∀ i, i ≠ k → f ∉ (outs.getD i .bad).labs) ∧ (∀ i xs, bx i = some xs → ∀ x ∈ xs, f ∉ x.labs) ∧ ∀ t, cons o = some t → (ops.getD k default).dst = some t)
    (hfin : m = ops.size → ∀ a w ρ β, J C ⟨envOf ops outs env0 (fun _ => true) m, bx⟩ a w ρ β → Q .normal a w)
    (hbar : m < ops.size → ∃ o, ops[m]? = some o ∧ o.guard = none ∧ (∀ j, j < m → Reach ops m j) ∧ ∀ a w ρ β, J C ⟨envOf ops outs env0 (fun _ => true) m, bx⟩ a w ρ β → ∀ next : Act → World → Prop, (∀ a' w', Q .normal a' w' → next a' w') → o.wp P a w next Q) :
    ∀ (fuel : Nat) (listed : Array Bool) (a : Act) (w : World) (ρ β : Fam), listed.size = ops.size → Closed ops (fun j => listed.getD j false) → (∀ j, m ≤ j → listed.getD j false = false) → unl ops.size (fun j => listed.getD j false) ≤ fuel →
      J C ⟨envOf ops outs env0 (fun j => listed.getD j false) m, bx⟩ a w ρ β → (∀ j, j < m → listed.getD j false = false → ∀ f, rid * 65536 + j * 64 ≤ f → f < rid * 65536 + j * 64 + 64 → ρ f = none) → wpAny P .any ops Q fuel listed a w := by
  intro fuel
  have hall : ∀ (listed : Array Bool), listed.size = ops.size → (∀ j, m ≤ j → listed.getD j false = false) → (∀ i, i < ops.size → listed.getD i false = true) → ∀ a w ρ β, J C ⟨envOf ops outs env0 (fun j => listed.getD j false) m, bx⟩ a w ρ β → Q .normal a w := by
    intro listed hsz hq hal a w ρ β hJ
    have hmn : m = ops.size := by
      rcases Nat.lt_or_ge m ops.size with h | h
      · have h1 := hal m h
        rw [hq m (Nat.le_refl _)] at h1; cases h1
      · omega
    refine hfin hmn a w ρ β ?_
    rwa [envOf_congr (outs' := outs) (S' := fun _ => true) m (fun j hj => ⟨rfl, hal j (by omega)⟩)] at hJ
  induction fuel with
  | zero =>
    intro listed a w ρ β hsz hcl hq hu hJ hfr
    have hal : ∀ i, i < ops.size → listed.getD i false = true := by
      intro i hi
      cases hl : listed.getD i false with
      | true => rfl
      | false =>
        have : i ∈ (List.range ops.size).filter fun j => !listed.getD j false := by rw [List.mem_filter]; exact ⟨List.mem_range.2 hi, by rw [hl]; rfl⟩
        have : 0 < unl ops.size (fun j => listed.getD j false) := List.length_pos_of_mem this
        omega
    exact wpAny_done' (fun i hi => by have := hal i hi; rw [Array.getD_eq_getD_getElem?, Array.getElem?_eq_getElem (by omega)] at this ⊢; simpa using this) (hall listed hsz hq hal a w ρ β hJ) 0
  | succ fuel ih =>
    intro listed a w ρ β hsz hcl hq hu hJ hfr
    refine ⟨fun hr => hall listed hsz hq (ready_nil hsz hD hr) a w ρ β hJ, fun i hi => ?_⟩
    obtain ⟨o, ho, hi0, hready⟩ := mem_ready'.1 hi
    have hin : i < ops.size := (Array.getElem?_eq_some_iff.1 ho).1
    have hi1 : listed.getD i false = false := by
      rw [Array.getD_eq_getD_getElem?, Array.getElem?_eq_getElem (by omega)] at hi0 ⊢; simpa using hi0
    have hset : ∀ j, (listed.setIfInBounds i true).getD j false = addS (fun j => listed.getD j false) i j := by
      intro j
      simp only [Array.getD_eq_getD_getElem?, Array.getElem?_setIfInBounds, addS]
      by_cases h : i = j
      · subst h; simp [hsz, hin]
      · rw [if_neg h]
        have : decide (j = i) = false := by simp; omega
        simp [this]
    have hsetf : (fun j => (listed.setIfInBounds i true).getD j false) = addS (fun j => listed.getD j false) i := funext hset
    have hsz' : (listed.setIfInBounds i true).size = ops.size := by simp [hsz]
    have hmem : o ∈ ops.toList := by
      have := Array.mem_of_getElem? ho
      simpa using this
    simp only [wpOp, ho]
    rcases Nat.lt_or_ge i m with him | him
    · -- a quiet operation
      obtain ⟨nd, hs, hnd⟩ := hstep i o him ho
      have hag := envOf_agree (outs := outs) (env0 := env0) hD hcl ho hi1 hready m hm him
      have hs' := dstep_congr (env' := envOf ops outs env0 (fun j => listed.getD j false) m) (fun s h => (hag s h).symm) hs
      have hadd := envOf_add (outs := outs) (env0 := env0) hD hcl ho hi1 m hm him
      have hcl' : Closed ops (addS (fun j => listed.getD j false) i) := by
        intro k ok hok hk e he hb
        simp only [addS, Bool.or_eq_true, decide_eq_true_eq] at hk ⊢
        rcases hk with rfl | hk
        · rw [ho] at hok; cases hok
          exact .inr (hready e he hb)
        · exact .inr (hcl k ok hok hk e he hb)
      have hq' : ∀ j, m ≤ j → (listed.setIfInBounds i true).getD j false = false := by
        intro j hj
        rw [hset]
        have : decide (j = i) = false := by simp; omega
        simp only [addS, this, Bool.false_or]
        exact hq j hj
      have hu' : unl ops.size (fun j => (listed.setIfInBounds i true).getD j false) ≤ fuel := by
        rw [hsetf]
        have := unl_add (S := fun j => listed.getD j false) hin hi1
        omega
      have onward : ∀ a' w' ρ', J C ⟨wr o (outs.getD i .bad) (envOf ops outs env0 (fun j => listed.getD j false) m), bx⟩ a' w' ρ' β →
          (∀ g, ρ g = none → ¬ (rid * 65536 + i * 64 ≤ g ∧ g < rid * 65536 + i * 64 + 64) → ρ' g = none) → wpAny P .any ops Q fuel (listed.setIfInBounds i true) a' w' := by
        intro a' w' ρ' hJ' hg
        refine ih _ a' w' ρ' β hsz' (by rw [hsetf]; exact hcl') hq' hu' (by rw [hsetf, hadd]; exact hJ') (fun j hj hjl f hf1 hf2 => ?_)
        rw [hset] at hjl
        simp only [addS, Bool.or_eq_false_iff, decide_eq_false_iff_not] at hjl
        refine hg f (hfr j hj hjl.2 f hf1 hf2) (fun hc => ?_)
        have hji := hjl.1
        omega
      have run : dq P rid (rid * 65536 + i * 64) ops bx (envOf ops outs env0 (fun j => listed.getD j false) m) o (fun x y => x = outs.getD i .bad ∧ y = nd) → o.wp P a w (wpAny P .any ops Q fuel (listed.setIfInBounds i true)) Q := by
        intro hdq
        refine dq_sound (st := ⟨envOf ops outs env0 (fun j => listed.getD j false) m, bx⟩) hJ (hfr i him hi1) (hd o hmem) hdq (fun k f hkf t ht => ?_) (fun v w' ρ' hJ' hg => onward _ w' ρ' hJ' hg)
        obtain ⟨h0, h1, h2, h3⟩ := hnd k f hkf
        refine ⟨fun s hs hl => ?_, h2⟩
        have := envOf_labs (ops := ops) h0 h1 m s hl
        rw [h3 t ht] at this
        cases this; exact hs rfl
      unfold dstep at hs'
      split at hs'
      · rename_i hg
        rw [if_pos (wanted_none hg)]
        exact .inl (run hs')
      · rename_i j want hg
        split at hs'
        · rename_i b hb
          have hy := yielded_of hJ hb
          by_cases hbw : b = want
          · rw [if_pos (by simp [Region.wanted, hg, hy, hbw])]
            exact .inl (run (hs'.1 hbw))
          · rw [if_neg (by simp [Region.wanted, hg, hy, hbw])]
            obtain ⟨hb1, _⟩ := hs'.2 hbw
            have h1 := hJ.put (hd o hmem) (v := undef) (x := .bad) (.bad _)
            rw [put_putE] at h1
            refine onward _ w ρ ?_ (fun g hg _ => hg)
            rw [← hb1]
            exact h1.weaken (fun s => wr_weaken s)
        · exact hs'.elim
    · -- the store behind all of them
      have him' : i = m := by omega
      subst him'
      obtain ⟨o', ho', hg, hreach, hb⟩ := hbar hin
      rw [ho] at ho'; cases ho'
      rw [if_pos (wanted_none hg)]
      have hSall : ∀ j, j < i → listed.getD j false = true := fun j hj => ready_reach hcl ho hready (hreach j hj)
      rw [envOf_congr (outs' := outs) (S' := fun _ => true) i (fun j hj => ⟨rfl, hSall j hj⟩)] at hJ
      refine .inl (hb a w ρ β hJ _ (fun a' w' hQ => wpAny_done' (fun k hk => ?_) hQ fuel))
      have hk' : (listed.setIfInBounds i true).getD k false = true := by
        rw [hset]
        simp only [addS, Bool.or_eq_true, decide_eq_true_eq]
        rcases Nat.lt_or_ge k i with h | h
        · exact .inr (hSall k h)
        · exact .inl (by omega)
      rw [Array.getD_eq_getD_getElem?, Array.getElem?_eq_getElem (by omega)] at hk' ⊢
      simpa using hk'

end

end Go.Fw
