/- Turning whole states: families and boxes given up or written; calls by their contracts. -/
import Derived.Test.YtlcmbjhppkddlaaFwG
namespace Go.Fw
open Go.RowKit (Below)

def St.retire (F : Nat → Bool) (st : St) : St := ⟨fun s => (st.env s).retire F, fun i => (st.box i).map (·.map (·.retire F))⟩
def St.poison (F : Nat → Bool) (st : St) : St := ⟨fun s => (st.env s).poison F, fun i => (st.box i).map (·.map (·.poison F))⟩
def St.unbox (i : Nat) (st : St) : St := ⟨fun s => (st.env s).unbox i, fun k => if k = i then none else (st.box k).map (·.map (·.unbox i))⟩

theorem BoxRep.map {w w' : World} {ρ β ρ' β' : Fam} {prot : Nat → Prop} {i : Nat} {xs : List AC} (h : BoxRep w ρ β prot i xs) (g : AC → AC) (hβ : β' (2 * i) = β (2 * i))
    (hw : ∀ b, β (2 * i) = some b → w'.heap[b]? = w.heap[b]?) (hg : ∀ v x, ACRep w ρ β v x → ACRep w' ρ' β' v (g x)) : BoxRep w' ρ' β' prot i (xs.map g) := by
  obtain ⟨b, raws, e, h1, h2, h3, h4, h5, h6⟩ := h
  refine ⟨b, raws, e, by rw [hβ]; exact h1, h2, by rw [hw b h1]; exact h3, by simpa using h4, h5, fun j u x hu hx => ?_⟩
  rw [List.getElem?_map] at hx
  cases hj : xs[j]? with
  | none => simp [hj] at hx
  | some y => simp [hj] at hx; subst hx; exact hg u y (h6 j u y hu hj)

section
variable {C : Cx} {st : St} {a : Act} {w : World} {ρ β : Fam}

theorem J.retire (h : J C st a w ρ β) (F : Nat → Bool) : J C (st.retire F) a w (ρ.drop F) β := by
  refine ⟨h.size, h.defers, h.os, h.tape, h.output, h.grown, h.kept, h.protlt, h.phan, h.apart.drop F, fun s => retire_av h.apart F (h.env s), fun i xs hx => ?_⟩
  simp only [St.retire] at hx
  cases hb : st.box i with
  | none => simp [hb] at hx
  | some ys => simp [hb] at hx; subst hx; exact (h.box i ys hb).map _ rfl (fun _ _ => rfl) (retire_ac h.apart F)

theorem J.unbox (h : J C st a w ρ β) (i : Nat) : J C (st.unbox i) a w ρ (β.drop (· == 2 * i)) := by
  have e : ∀ f b, β.drop (· == 2 * i) f = some b → β f = some b := by intro f b; unfold Fam.drop; split <;> simp
  refine ⟨h.size, h.defers, h.os, h.tape, h.output, h.grown, h.kept, h.protlt, fun b hb => ?_, ⟨h.apart.fam, fun k b hb => h.apart.box k b (e _ _ hb), h.apart.inj, fun f f' b h1 h2 => h.apart.injB f f' b (e _ _ h1) (e _ _ h2), fun f k b h1 h2 => h.apart.sep f k b h1 (e _ _ h2)⟩, fun s => unbox_av i (h.env s), fun k xs hx => ?_⟩
  · simp only [Fam.drop]; rw [if_neg (by simp; omega)]; exact h.phan b hb
  · simp only [St.unbox] at hx
    split at hx
    · cases hx
    · rename_i hne
      cases hb : st.box k with
      | none => simp [hb] at hx
      | some ys =>
        simp [hb] at hx; subst hx
        exact (h.box k ys hb).map _ (by simp only [Fam.drop]; rw [if_neg (by simp; omega)]) (fun _ _ => rfl) (unbox_ac i)

/-- Families in F are written: their blocks turn, or lead elsewhere. -/
theorem J.extE (h : J C st a w ρ β) {F : Nat → Bool} {w' : World} {ρ' : Fam} (E : ExtE F w ρ β w' ρ' β) (hA : Apart w' C.prot ρ' β) (hos : w'.os = w.os) (ht : w'.tape = w.tape) (hout : w'.output = w.output)
    (hsz : w.heap.size ≤ w'.heap.size) (hk : ∀ b, C.prot b → w'.heap[b]? = w.heap[b]?) (hbx : ∀ i b, β i = some b → w'.heap[b]? = w.heap[b]?) : J C (st.poison F) a w' ρ' β := by
  refine ⟨h.size, h.defers, hos.trans h.os, ht.trans h.tape, hout.trans h.output, Nat.le_trans h.grown hsz, fun b hb => (hk b hb).trans (h.kept b hb), h.protlt, h.phan, hA, fun s => E.av (h.env s), fun i xs hx => ?_⟩
  simp only [St.poison] at hx
  cases hb : st.box i with
  | none => simp [hb] at hx
  | some ys => simp [hb] at hx; subst hx; exact (h.box i ys hb).map _ rfl (fun b hb => hbx _ b hb) E.ac
end

/-! Labels. -/
def AC.labs : AC → List Nat
  | .own f _ _ _ => [f]
  | .view f _ _ => [f]
  | .ep (some f) _ _ => [f]
  | .epo f _ _ => [f]
  | _ => []
def AV.labs : AV → List Nat
  | .cell x => x.labs
  | .agg xs => xs.flatMap AC.labs
  | .tup xs => go xs
  | .bad => []
where
  go : List AV → List Nat
    | [] => []
    | x :: xs => x.labs ++ go xs

def AC.shift (k : Nat) : AC → AC
  | .own f sz n cells => .own (k + f) sz n cells
  | .view f n cells => .view (k + f) n cells
  | .ep (some f) cells pos => .ep (some (k + f)) cells pos
  | .epo f cells pos => .epo (k + f) cells pos
  | x => x
def AV.shift (k : Nat) : AV → AV
  | .cell x => .cell (x.shift k)
  | .agg xs => .agg (xs.map (·.shift k))
  | .tup xs => .tup (go xs)
  | .bad => .bad
where
  go : List AV → List AV
    | [] => []
    | x :: xs => x.shift k :: go xs

/-- How a value is seen as an argument: nothing is owned. -/
def AC.arg : AC → AC
  | .p x => .p x
  | .z => .p (.sl 0 [])
  | .own _ _ n cells => .p (.sl n cells)
  | .view _ n cells => .p (.sl n cells)
  | _ => .bad
def AV.arg : AV → AV
  | .cell x => .cell x.arg
  | .agg xs => .agg (xs.map AC.arg)
  | .tup xs => .tup (go xs)
  | .bad => .bad
where
  go : List AV → List AV
    | [] => []
    | x :: xs => x.arg :: go xs

def CV.isC : CV → Bool
  | .c _ => true
  | .sl _ _ => false
/-- No block is reached but by a label. -/
def AC.flat : AC → Bool
  | .p x => x.isC
  | .z => true
  | .own _ _ _ cells => cells.all CV.isC
  | .bad => true
  | _ => false
def AV.flat : AV → Bool
  | .cell x => x.flat
  | .agg xs => xs.all AC.flat
  | .tup xs => go xs
  | .bad => true
where
  go : List AV → Bool
    | [] => true
    | x :: xs => x.flat && go xs

theorem labs_go (xs : List AV) : AV.labs.go xs = xs.flatMap AV.labs := by
  induction xs with
  | nil => rfl
  | cons x xs ih => simp [AV.labs.go, ih]
theorem shift_go (k : Nat) (xs : List AV) : AV.shift.go k xs = xs.map (·.shift k) := by
  induction xs with
  | nil => rfl
  | cons x xs ih => simp [AV.shift.go, ih]
theorem arg_go (xs : List AV) : AV.arg.go xs = xs.map AV.arg := by
  induction xs with
  | nil => rfl
  | cons x xs ih => simp [AV.arg.go, ih]
theorem flat_go (xs : List AV) : AV.flat.go xs = xs.all AV.flat := by
  induction xs with
  | nil => rfl
  | cons x xs ih => simp [AV.flat.go, ih]

/-- As 'AVRep.lift', for cells of which something is known. -/
theorem AVRep.lift' {w w' : World} {ρ β ρ' β' : Fam} (g : AC → AC) (G : AV → AV) (hcell : ∀ x, G (.cell x) = .cell (g x)) (hagg : ∀ xs, G (.agg xs) = .agg (xs.map g))
    (htup : ∀ xs, G (.tup xs) = .tup (xs.map G)) (hbad : G .bad = .bad) (p : AC → Prop) (q : AV → Prop) (qcell : ∀ x, q (.cell x) → p x) (qagg : ∀ xs, q (.agg xs) → ∀ x ∈ xs, p x) (qtup : ∀ xs, q (.tup xs) → ∀ x ∈ xs, q x)
    (hg : ∀ v x, p x → ACRep w ρ β v x → ACRep w' ρ' β' v (g x)) {v : Value} {x : AV} (h : AVRep w ρ β v x) : q x → AVRep w' ρ' β' v (G x) := by
  induction h with
  | cell v x h => intro hq; rw [hcell]; exact .cell v _ (hg v x (qcell x hq) h)
  | agg cs xs hl ho h =>
    intro hq
    rw [hagg]
    refine .agg cs _ (by simpa using hl) ho (fun j u x hu hx => ?_)
    rw [List.getElem?_map] at hx
    cases hj : xs[j]? with
    | none => simp [hj] at hx
    | some y => simp [hj] at hx; subst hx; exact hg u y (qagg xs hq y (List.mem_of_getElem? hj)) (h j u y hu hj)
  | tup vs xs hl h ih =>
    intro hq
    rw [htup]
    refine .tup vs _ (by simpa using hl) (fun j u x hu hx => ?_)
    rw [List.getElem?_map] at hx
    cases hj : xs[j]? with
    | none => simp [hj] at hx
    | some y => simp [hj] at hx; subst hx; exact ih j u y hu hj (qtup xs hq y (List.mem_of_getElem? hj))
  | bad v => intro _; rw [hbad]; exact .bad v

def noneF : Fam := fun _ => none
open Classical in
/-- Blocks that no pure value may lead to, as boxes that nobody names. -/
noncomputable def beta0 (bad : Nat → Prop) : Fam := fun i => if i % 2 = 1 ∧ bad (i / 2) then some (i / 2) else none

theorem bad_beta0 (ρ : Fam) (bad : Nat → Prop) (b : Nat) : Bad ρ (beta0 bad) b ↔ (∃ f, ρ f = some b) ∨ bad b := by
  constructor
  · rintro (h | ⟨i, hi⟩)
    · exact .inl h
    · unfold beta0 at hi; split at hi
      · rename_i h; cases hi; exact .inr h.2
      · cases hi
  · rintro (h | h)
    · exact .inl h
    · refine .inr ⟨2 * b + 1, ?_⟩
      unfold beta0
      have e : (2 * b + 1) / 2 = b := by omega
      rw [e, if_pos ⟨by omega, h⟩]

theorem bad_none (bad : Nat → Prop) (b : Nat) : Bad noneF (beta0 bad) b ↔ bad b := by
  rw [bad_beta0]; simp [noneF]

/-- THE CONTRACT OF ONE CALL: arguments that represent args; the result represents r; nothing old is written. -/
def At (P : Program) (f : FuncId) (args : List AV) (r : AV) : Prop :=
  (∃ fn, P.funcs[f]? = some fn ∧ (fn.name == "runtime.NumGoroutine") = false ∧ fn.body.isNone = false) ∧
  ∀ (w : World) (vs : Array Value) (bad0 : Nat → Prop), (∀ b, bad0 b → b < w.heap.size) → vs.size = args.length →
    (∀ (j : Nat) (u : Value) (x : AV), vs[j]? = some u → args[j]? = some x → AVRep w noneF (beta0 bad0) u x) →
    Calls P f vs w fun e w' => ∃ v ρr, e = .returned v ∧ Below w.heap.size w w' ∧ (∀ g b, ρr g = some b → w.heap.size ≤ b ∧ b < w'.heap.size) ∧
      (∀ g g' b, ρr g = some b → ρr g' = some b → g = g') ∧ AVRep w' ρr (beta0 bad0) v r

def inL (l : List Nat) : Nat → Bool := fun f => l.contains f
def isId (id : Nat) : Nat → Bool := fun f => decide (id ≤ f) && decide (f < id + 64)

theorem arg_ac {w : World} {prot : Nat → Prop} {ρ β : Fam} (hA : Apart w prot ρ β) (F : Nat → Bool) (v : Value) (x : AC) (hF : ∀ f ∈ x.labs, F f = true) (h : ACRep w ρ β v x) :
    ACRep w noneF (beta0 (Bad (ρ.drop F) β)) v x.arg := by
  have h1 := retire_ac hA F v x h
  have pm : ∀ (x : Addr) (u : Value), ¬ Bad (ρ.drop F) β x.block → w.cell? x = some u → ¬ Bad noneF (beta0 (Bad (ρ.drop F) β)) x.block ∧ w.cell? x = some u :=
    fun x u hb hu => ⟨by rw [bad_none]; exact hb, hu⟩
  cases x with
  | p x => exact CRep.mono pm h1
  | z =>
    obtain ⟨a, rfl⟩ := h
    exact .sl a 0 0 [] [] (Nat.le_refl _) (Nat.zero_le _) rfl (by simp) (by simp) (by simp)
  | own f sz n cells => simp only [AC.retire, hF f (by simp [AC.labs]), if_true] at h1; exact CRep.mono pm h1
  | view f n cells => simp only [AC.retire, hF f (by simp [AC.labs]), if_true] at h1; exact CRep.mono pm h1
  | ep k cells pos => trivial
  | epo f cells pos => trivial
  | ptr b off => trivial
  | bad => trivial

theorem arg_av {w : World} {prot : Nat → Prop} {ρ β : Fam} (hA : Apart w prot ρ β) (F : Nat → Bool) {v : Value} {x : AV} (h : AVRep w ρ β v x) (hF : ∀ f ∈ x.labs, F f = true) :
    AVRep w noneF (beta0 (Bad (ρ.drop F) β)) v x.arg :=
  AVRep.lift' AC.arg AV.arg (fun _ => rfl) (fun _ => rfl) (fun xs => by simp [AV.arg, arg_go]) rfl (fun x => ∀ f ∈ x.labs, F f = true) (fun x => ∀ f ∈ x.labs, F f = true) (fun _ h => h)
    (fun xs h x hx f hf => h f (by simp only [AV.labs, List.mem_flatMap]; exact ⟨x, hx, hf⟩)) (fun xs h x hx f hf => h f (by simp only [AV.labs, labs_go, List.mem_flatMap]; exact ⟨x, hx, hf⟩))
    (fun v x hp hr => arg_ac hA F v x hp hr) h hF

/-- The families that a call's result brings. -/
def Fam.join (ρ ρr : Fam) (id : Nat) : Fam := fun g => if id ≤ g ∧ g < id + 64 then ρr (g - id) else ρ g

theorem isC_rep {w w' : World} {bad bad' : Nat → Prop} {raws : List Value} {cells : List CV} (h : CReps w bad raws cells) (hc : cells.all CV.isC = true) : CReps w' bad' raws cells := by
  refine ⟨h.len, h.one, fun j u c hu hj => ?_⟩
  have h1 := h.rep j u c hu hj
  rw [List.all_eq_true] at hc
  have h2 := hc c (List.mem_of_getElem? hj)
  cases c with
  | c v => cases h1; exact .c _
  | sl n cs => simp [CV.isC] at h2

theorem shift_ac {w : World} {ρ ρr β βr : Fam} {id : Nat} (v : Value) (x : AC) (hlab : ∀ f ∈ x.labs, f < 64) (hp : x.flat = true ∨ ∀ b, ¬ Bad ρr βr b → ¬ Bad (ρ.join ρr id) β b) (hb : ∀ b, βr (2 * b) = none)
    (h : ACRep w ρr βr v x) : ACRep w (ρ.join ρr id) β v (x.shift id) := by
  have hj : ∀ f, f < 64 → (ρ.join ρr id) (id + f) = ρr f := by
    intro f hf
    unfold Fam.join
    rw [if_pos ⟨by omega, by omega⟩]
    congr 1; omega
  cases x with
  | p x =>
    rcases hp with hp | hp
    · cases x with
      | c u => cases h; exact .c _
      | sl n cs => simp [AC.flat, CV.isC] at hp
    · exact CRep.mono (fun x u hx hu => ⟨hp _ hx, hu⟩) h
  | z => exact h
  | own f sz n cells =>
    have hf := hj f (hlab f (by simp [AC.labs]))
    obtain ⟨raws, ⟨hl, ho⟩, hr⟩ := h
    refine ⟨raws, ⟨hl, by rw [hf]; exact ho⟩, ?_⟩
    rcases hp with hp | hp
    · exact isC_rep hr hp
    · exact hr.mono (fun x u hx hu => ⟨hp _ hx, hu⟩)
  | view f n cells =>
    have hf := hj f (hlab f (by simp [AC.labs]))
    rcases hp with hp | hp
    · simp [AC.flat] at hp
    · obtain ⟨a, cap, raws, h1, h2, h3, h4, hr⟩ := h
      exact ⟨a, cap, raws, h1, h2, h3, by rw [hf]; exact h4, hr.mono (fun x u hx hu => ⟨hp _ hx, hu⟩)⟩
  | ep k cells pos =>
    rcases hp with hp | hp
    · simp [AC.flat] at hp
    · cases k with
      | none =>
        obtain ⟨y, raws, h1, h2, hr⟩ := h
        exact ⟨y, raws, h1, fun j u hj => ⟨hp _ (h2 j u hj).1, (h2 j u hj).2⟩, hr.mono (fun x u hx hu => ⟨hp _ hx, hu⟩)⟩
      | some f =>
        have hf := hj f (hlab f (by simp [AC.labs]))
        obtain ⟨y, raws, h1, h2, hr⟩ := h
        exact ⟨y, raws, h1, by rw [hf]; exact h2, hr.mono (fun x u hx hu => ⟨hp _ hx, hu⟩)⟩
  | epo f cells pos =>
    rcases hp with hp | hp
    · simp [AC.flat] at hp
    · have hf := hj f (hlab f (by simp [AC.labs]))
      obtain ⟨g, cur, e, fr, h1, h2, h3, h4, h5, hr⟩ := h
      exact ⟨g, cur, e, fr, h1, by rw [hf]; exact h2, h3, h4, h5, hr.mono (fun x u hx hu => ⟨hp _ hx, hu⟩)⟩
  | ptr b off =>
    obtain ⟨g, hg, _⟩ := h
    rw [hb] at hg; cases hg
  | bad => trivial

theorem shift_av {w : World} {ρ ρr β βr : Fam} {id : Nat} (hb : ∀ b, βr (2 * b) = none) {v : Value} {x : AV} (h : AVRep w ρr βr v x) (hlab : ∀ f ∈ x.labs, f < 64)
    (hp : x.flat = true ∨ ∀ b, ¬ Bad ρr βr b → ¬ Bad (ρ.join ρr id) β b) : AVRep w (ρ.join ρr id) β v (x.shift id) :=
  AVRep.lift' (AC.shift id) (AV.shift id) (fun _ => rfl) (fun _ => rfl) (fun xs => by simp [AV.shift, shift_go]) rfl
    (fun x => (∀ f ∈ x.labs, f < 64) ∧ (x.flat = true ∨ ∀ b, ¬ Bad ρr βr b → ¬ Bad (ρ.join ρr id) β b)) (fun x => (∀ f ∈ x.labs, f < 64) ∧ (x.flat = true ∨ ∀ b, ¬ Bad ρr βr b → ¬ Bad (ρ.join ρr id) β b))
    (fun _ h => h)
    (fun xs h x hx => ⟨fun f hf => h.1 f (by simp only [AV.labs, List.mem_flatMap]; exact ⟨x, hx, hf⟩), h.2.imp (fun e => by simp only [AV.flat, List.all_eq_true] at e; exact e x hx) (fun h => h)⟩)
    (fun xs h x hx => ⟨fun f hf => h.1 f (by simp only [AV.labs, labs_go, List.mem_flatMap]; exact ⟨x, hx, hf⟩), h.2.imp (fun e => by simp only [AV.flat, flat_go, List.all_eq_true] at e; exact e x hx) (fun h => h)⟩)
    (fun v x hq hr => shift_ac v x hq.1 hq.2 hb hr) h ⟨hlab, hp⟩

theorem beta0_even (bad : Nat → Prop) (b : Nat) : beta0 bad (2 * b) = none := by
  unfold beta0; rw [if_neg]; omega

theorem join_new {w w' : World} {prot : Nat → Prop} {ρ β ρr : Fam} {id : Nat} (hA : Apart w prot ρ β) (hid : ∀ f, id ≤ f → f < id + 64 → ρ f = none)
    (h1 : ∀ g b, ρr g = some b → w.heap.size ≤ b ∧ b < w'.heap.size) (h2 : ∀ g g' b, ρr g = some b → ρr g' = some b → g = g') : NewFam w ρ w' (ρ.join ρr id) id := by
  refine ⟨fun f b h => ?_, fun f b h => ?_, fun f f' b h h' => ?_⟩
  · unfold Fam.join; split
    · rename_i e; rw [hid f e.1 e.2] at h; cases h
    · exact h
  · unfold Fam.join at h; split at h
    · rename_i e; exact .inr ⟨e.1, e.2, h1 _ _ h⟩
    · exact .inl h
  · unfold Fam.join at h h'
    split at h <;> split at h'
    · have := h2 _ _ b h h'; omega
    · have := (h1 _ _ h).1; have := (hA.fam _ _ h').2; omega
    · have := (h1 _ _ h').1; have := (hA.fam _ _ h).2; omega
    · exact hA.inj f f' b h h'

end Go.Fw
