/- The abstract values of the framework, what it means that a value of the model represents one of them in a world, and how this is kept when the world changes. -/
import Derived.WalkKit
namespace Go.Fw

/-- A pure cell: a constant, or a slice of n elements with its cells. -/
inductive CV where
  | c (v : Value)
  | sl (n : Nat) (cells : List CV)
  deriving Inhabited

/-- A cell of a slot: pure, empty with capacity 0, an owned slice (family f, cells per element), a readable part of an owned slice, a pointer to a cell of a slice, a pointer into a box, unknown. -/
inductive AC where
  | p (x : CV)
  | z
  | own (f sz n : Nat) (cells : List CV)
  | view (f n : Nat) (cells : List CV)
  | ep (k : Option Nat) (cells : List CV) (pos : Nat)
  | epo (f : Nat) (cells : List CV) (pos : Nat)
  | ptr (b off : Nat)
  | bad
  deriving Inhabited

inductive AV where
  | cell (x : AC)
  | agg (xs : List AC)
  | tup (xs : List AV)
  | bad
  deriving Inhabited

/-- The value represents the pure cell; none of its blocks is bad. -/
inductive CRep (w : World) (bad : Nat → Prop) : Value → CV → Prop
  | c (v : Value) : CRep w bad v (.c v)
  | sl (a : Option Addr) (n cap : Nat) (raws : List Value) (cells : List CV) (hn : n ≤ cap) (hm : cap ≤ maxLen)
      (hl : raws.length = cells.length) (ho : ∀ u ∈ raws, u.oneCell' = true)
      (hc : ∀ (j : Nat) (u : Value), raws[j]? = some u → ∃ x : Addr, a = some x ∧ ¬ bad x.block ∧ w.cell? (x.add j) = some u)
      (hr : ∀ (j : Nat) (u : Value) (c : CV), raws[j]? = some u → cells[j]? = some c → CRep w bad u c) : CRep w bad (.slice a n cap) (.sl n cells)

structure CReps (w : World) (bad : Nat → Prop) (raws : List Value) (cells : List CV) : Prop where
  len : raws.length = cells.length
  one : ∀ u ∈ raws, u.oneCell' = true
  rep : ∀ (j : Nat) (u : Value) (c : CV), raws[j]? = some u → cells[j]? = some c → CRep w bad u c

/-- The slice value owns the cells raws: it is empty with capacity 0, or leads to the head of block b. -/
def OwnRow (w : World) (b : Option Nat) (sz n : Nat) (v : Value) (raws : List Value) : Prop :=
  raws.length = n * sz ∧ ((∃ a, v = .slice a 0 0 ∧ n = 0) ∨
    ∃ g cap cur e fr, v = .slice (some ⟨g, 0, none⟩) n cap ∧ b = some g ∧ w.heap[g]? = some (.cells cur e fr) ∧ (fr.2 = fr.1 ∨ cur.size ≤ fr.1) ∧
      n ≤ cap ∧ cap ≤ maxLen ∧ cur.size = cap * sz ∧ cur.toList.take (n * sz) = raws)

abbrev Fam := Nat → Option Nat

/-- The blocks that are owned: by a family, or by a box. -/
def Bad (ρ β : Fam) (b : Nat) : Prop := (∃ f, ρ f = some b) ∨ (∃ i, β i = some b)

def ACRep (w : World) (ρ β : Fam) (v : Value) : AC → Prop
  | .p x => CRep w (Bad ρ β) v x
  | .z => ∃ a, v = .slice a 0 0
  | .own f sz n cells => ∃ raws, OwnRow w (ρ f) sz n v raws ∧ CReps w (Bad ρ β) raws cells
  | .view f n cells => ∃ a cap raws, v = .slice a n cap ∧ n ≤ cap ∧ cap ≤ maxLen ∧
      (∀ (j : Nat) (u : Value), raws[j]? = some u → ∃ x : Addr, a = some x ∧ ρ f = some x.block ∧ w.cell? (x.add j) = some u) ∧ CReps w (Bad ρ β) raws cells
  | .ep none cells pos => ∃ (x : Addr) (raws : List Value), v = .pointer (some (x.add pos)) ∧
      (∀ (j : Nat) (u : Value), raws[j]? = some u → ¬ Bad ρ β x.block ∧ w.cell? (x.add j) = some u) ∧ CReps w (Bad ρ β) raws cells
  | .ep (some f) cells pos => ∃ (x : Addr) (raws : List Value), v = .pointer (some (x.add pos)) ∧
      (∀ (j : Nat) (u : Value), raws[j]? = some u → ρ f = some x.block ∧ w.cell? (x.add j) = some u) ∧ CReps w (Bad ρ β) raws cells
  | .epo f cells pos => ∃ g cur e fr, v = .pointer (some ((⟨g, 0, none⟩ : Addr).add pos)) ∧ ρ f = some g ∧ w.heap[g]? = some (.cells cur e fr) ∧
      (fr.2 = fr.1 ∨ cur.size ≤ fr.1) ∧ cells.length ≤ cur.size ∧ CReps w (Bad ρ β) (cur.toList.take cells.length) cells
  | .ptr b off => ∃ g, β (2 * b) = some g ∧ v = .pointer (some ⟨g, off, none⟩)
  | .bad => True

inductive AVRep (w : World) (ρ β : Fam) : Value → AV → Prop
  | cell (v : Value) (x : AC) (h : ACRep w ρ β v x) : AVRep w ρ β v (.cell x)
  | agg (cs : Array Value) (xs : List AC) (hl : cs.size = xs.length) (ho : ∀ u ∈ cs.toList, u.oneCell' = true) (h : ∀ (j : Nat) (u : Value) (x : AC), cs[j]? = some u → xs[j]? = some x → ACRep w ρ β u x) : AVRep w ρ β (.agg cs) (.agg xs)
  | tup (vs : Array Value) (xs : List AV) (hl : vs.size = xs.length) (h : ∀ (j : Nat) (u : Value) (x : AV), vs[j]? = some u → xs[j]? = some x → AVRep w ρ β u x) : AVRep w ρ β (.tuple vs) (.tup xs)
  | bad (v : Value) : AVRep w ρ β v .bad

theorem CRep.mono {w w' : World} {bad bad' : Nat → Prop} (hx : ∀ x u, ¬ bad x.block → w.cell? x = some u → ¬ bad' x.block ∧ w'.cell? x = some u)
    {v : Value} {x : CV} (h : CRep w bad v x) : CRep w' bad' v x := by
  induction h with
  | c v => exact .c v
  | sl a n cap raws cells hn hm hl ho hc hr ih =>
    refine .sl a n cap raws cells hn hm hl ho (fun j u hj => ?_) ih
    obtain ⟨y, rfl, hb, hu⟩ := hc j u hj
    have hblk : (y.add j).block = y.block := by unfold Addr.add; split <;> rfl
    obtain ⟨hb', hu'⟩ := hx (y.add j) u (by rw [hblk]; exact hb) hu
    exact ⟨y, rfl, by rw [← hblk]; exact hb', hu'⟩

theorem CReps.mono {w w' : World} {bad bad' : Nat → Prop} (hx : ∀ x u, ¬ bad x.block → w.cell? x = some u → ¬ bad' x.block ∧ w'.cell? x = some u)
    {raws : List Value} {cells : List CV} (h : CReps w bad raws cells) : CReps w' bad' raws cells :=
  ⟨h.len, h.one, fun j u c hu hc => (h.rep j u c hu hc).mono hx⟩

theorem add_block (x : Addr) (j : Nat) : (x.add j).block = x.block := by unfold Addr.add; split <;> rfl

/-! What becomes of an abstract value when families F are written (poisoned), or given up (retired). -/
def AC.poison (F : Nat → Bool) : AC → AC
  | .own f sz n cells => if F f then .bad else .own f sz n cells
  | .view f n cells => if F f then .bad else .view f n cells
  | .ep (some f) cells pos => if F f then .bad else .ep (some f) cells pos
  | .epo f cells pos => if F f then .bad else .epo f cells pos
  | x => x

def AV.poison (F : Nat → Bool) : AV → AV
  | .cell x => .cell (x.poison F)
  | .agg xs => .agg (xs.map (·.poison F))
  | .tup xs => .tup (go xs)
  | .bad => .bad
where
  go : List AV → List AV
    | [] => []
    | x :: xs => x.poison F :: go xs

def AC.retire (F : Nat → Bool) : AC → AC
  | .own f sz n cells => if F f then .p (.sl n cells) else .own f sz n cells
  | .view f n cells => if F f then .p (.sl n cells) else .view f n cells
  | .ep (some f) cells pos => if F f then .ep none cells pos else .ep (some f) cells pos
  | .epo f cells pos => if F f then .ep none cells pos else .epo f cells pos
  | x => x

def AV.retire (F : Nat → Bool) : AV → AV
  | .cell x => .cell (x.retire F)
  | .agg xs => .agg (xs.map (·.retire F))
  | .tup xs => .tup (go xs)
  | .bad => .bad
where
  go : List AV → List AV
    | [] => []
    | x :: xs => x.retire F :: go xs

/-- Box i is written: pointers to it are forgotten. -/
def AC.unbox (i : Nat) : AC → AC
  | .ptr b off => if b = i then .bad else .ptr b off
  | x => x

def AV.unbox (i : Nat) : AV → AV
  | .cell x => .cell (x.unbox i)
  | .agg xs => .agg (xs.map (·.unbox i))
  | .tup xs => .tup (go xs)
  | .bad => .bad
where
  go : List AV → List AV
    | [] => []
    | x :: xs => x.unbox i :: go xs

theorem poison_go_map (F : Nat → Bool) (xs : List AV) : AV.poison.go F xs = xs.map (·.poison F) := by
  induction xs with
  | nil => rfl
  | cons x xs ih => simp [AV.poison.go, ih]
theorem retire_go_map (F : Nat → Bool) (xs : List AV) : AV.retire.go F xs = xs.map (·.retire F) := by
  induction xs with
  | nil => rfl
  | cons x xs ih => simp [AV.retire.go, ih]
theorem unbox_go_map (i : Nat) (xs : List AV) : AV.unbox.go i xs = xs.map (·.unbox i) := by
  induction xs with
  | nil => rfl
  | cons x xs ih => simp [AV.unbox.go, ih]

/-- A map on cells, lifted to values; what it keeps, cell by cell, it keeps. -/
theorem AVRep.lift {w w' : World} {ρ β ρ' β' : Fam} (g : AC → AC) (G : AV → AV) (hcell : ∀ x, G (.cell x) = .cell (g x)) (hagg : ∀ xs, G (.agg xs) = .agg (xs.map g))
    (htup : ∀ xs, G (.tup xs) = .tup (xs.map G)) (hbad : G .bad = .bad) (hg : ∀ v x, ACRep w ρ β v x → ACRep w' ρ' β' v (g x))
    {v : Value} {x : AV} (h : AVRep w ρ β v x) : AVRep w' ρ' β' v (G x) := by
  induction h with
  | cell v x h => rw [hcell]; exact .cell v _ (hg v x h)
  | agg cs xs hl ho h =>
    rw [hagg]
    refine .agg cs _ (by simpa using hl) ho (fun j u x hu hx => ?_)
    rw [List.getElem?_map] at hx
    cases hj : xs[j]? with
    | none => simp [hj] at hx
    | some y => simp [hj] at hx; subst hx; exact hg u y (h j u y hu hj)
  | tup vs xs hl h ih =>
    rw [htup]
    refine .tup vs _ (by simpa using hl) (fun j u x hu hx => ?_)
    rw [List.getElem?_map] at hx
    cases hj : xs[j]? with
    | none => simp [hj] at hx
    | some y => simp [hj] at hx; subst hx; exact ih j u y hu hj
  | bad v => rw [hbad]; exact .bad v

/-- The world and the families turn; families in F may be written. -/
structure ExtE (F : Nat → Bool) (w : World) (ρ β : Fam) (w' : World) (ρ' β' : Fam) : Prop where
  pure : ∀ x u, ¬ Bad ρ β x.block → w.cell? x = some u → ¬ Bad ρ' β' x.block ∧ w'.cell? x = some u
  fam : ∀ f b, F f = false → ρ f = some b → ρ' f = some b ∧ w'.heap[b]? = w.heap[b]?
  box : ∀ i b, β i = some b → β' i = some b

theorem cell_of_heap {w w' : World} {x : Addr} (h : w'.heap[x.block]? = w.heap[x.block]?) : w'.cell? x = w.cell? x := by simp [World.cell?, h]

theorem ExtE.ac {F : Nat → Bool} {w w' : World} {ρ β ρ' β' : Fam} (E : ExtE F w ρ β w' ρ' β') (v : Value) (x : AC) (h : ACRep w ρ β v x) : ACRep w' ρ' β' v (x.poison F) := by
  cases x with
  | p x => exact CRep.mono E.pure h
  | z => exact h
  | own f sz n cells =>
    simp only [AC.poison]
    split
    · trivial
    · rename_i hF
      obtain ⟨raws, ⟨hl, ho⟩, hr⟩ := h
      refine ⟨raws, ⟨hl, ?_⟩, hr.mono E.pure⟩
      rcases ho with ho | ⟨g, cap, cur, e, fr, hv, hρ, hg, rest⟩
      · exact .inl ho
      · obtain ⟨h1, h2⟩ := E.fam f g (by simpa using hF) hρ
        exact .inr ⟨g, cap, cur, e, fr, hv, h1, by rw [h2]; exact hg, rest⟩
  | view f n cells =>
    simp only [AC.poison]
    split
    · trivial
    · rename_i hF
      obtain ⟨a, cap, raws, hv, hn, hm, hc, hr⟩ := h
      refine ⟨a, cap, raws, hv, hn, hm, fun j u hj => ?_, hr.mono E.pure⟩
      obtain ⟨y, rfl, hρ, hu⟩ := hc j u hj
      obtain ⟨h1, h2⟩ := E.fam f _ (by simpa using hF) hρ
      exact ⟨y, rfl, h1, (cell_of_heap (x := y.add j) (by rw [add_block]; exact h2)).trans hu⟩
  | ep k cells pos =>
    cases k with
    | none =>
      obtain ⟨y, raws, hv, hc, hr⟩ := h
      refine ⟨y, raws, hv, fun j u hj => ?_, hr.mono E.pure⟩
      obtain ⟨hb, hu⟩ := hc j u hj
      obtain ⟨h1, h2⟩ := E.pure (y.add j) u (by rw [add_block]; exact hb) hu
      exact ⟨by rw [add_block] at h1; exact h1, h2⟩
    | some f =>
      simp only [AC.poison]
      split
      · trivial
      · rename_i hF
        obtain ⟨y, raws, hv, hc, hr⟩ := h
        refine ⟨y, raws, hv, fun j u hj => ?_, hr.mono E.pure⟩
        obtain ⟨hρ, hu⟩ := hc j u hj
        obtain ⟨h1, h2⟩ := E.fam f _ (by simpa using hF) hρ
        exact ⟨h1, (cell_of_heap (x := y.add j) (by rw [add_block]; exact h2)).trans hu⟩
  | epo f cells pos =>
    simp only [AC.poison]
    split
    · trivial
    · rename_i hF
      obtain ⟨g, cur, e, fr, hv, hρ, hg, hfr, hlen, hr⟩ := h
      obtain ⟨h1, h2⟩ := E.fam f g (by simpa using hF) hρ
      exact ⟨g, cur, e, fr, hv, h1, by rw [h2]; exact hg, hfr, hlen, hr.mono E.pure⟩
  | ptr b off =>
    obtain ⟨g, hg, hv⟩ := h
    exact ⟨g, E.box _ g hg, hv⟩
  | bad => trivial

theorem ExtE.av {F : Nat → Bool} {w w' : World} {ρ β ρ' β' : Fam} (E : ExtE F w ρ β w' ρ' β') {v : Value} {x : AV} (h : AVRep w ρ β v x) : AVRep w' ρ' β' v (x.poison F) :=
  AVRep.lift (AC.poison F) (AV.poison F) (fun _ => rfl) (fun _ => rfl) (fun xs => by simp [AV.poison, poison_go_map]) rfl E.ac h

theorem AC.poison_none (x : AC) : x.poison (fun _ => false) = x := by
  cases x <;> try rfl
  · rename_i k cells pos; cases k <;> rfl

theorem AV.poison_none : ∀ x : AV, x.poison (fun _ => false) = x
  | .cell x => by simp [AV.poison, AC.poison_none]
  | .agg xs => by simp [AV.poison, AC.poison_none]
  | .tup xs => by simp only [AV.poison]; rw [go xs]
  | .bad => rfl
where
  go : ∀ xs : List AV, AV.poison.go (fun _ => false) xs = xs
    | [] => rfl
    | x :: xs => by simp only [AV.poison.go]; rw [AV.poison_none x, go xs]

abbrev Ext := ExtE (fun _ => false)
theorem Ext.ac {w w' : World} {ρ β ρ' β' : Fam} (E : Ext w ρ β w' ρ' β') {v : Value} {x : AC} (h : ACRep w ρ β v x) : ACRep w' ρ' β' v x := by
  have := ExtE.ac E v x h; rwa [AC.poison_none] at this
theorem Ext.av {w w' : World} {ρ β ρ' β' : Fam} (E : Ext w ρ β w' ρ' β') {v : Value} {x : AV} (h : AVRep w ρ β v x) : AVRep w' ρ' β' v x := by
  have := ExtE.av E h; rwa [AV.poison_none] at this
theorem Ext.refl (w : World) (ρ β : Fam) : Ext w ρ β w ρ β := ⟨fun _ _ a b => ⟨a, b⟩, fun _ _ _ b => ⟨b, rfl⟩, fun _ _ b => b⟩
theorem Ext.trans {w w1 w2 : World} {ρ β ρ1 β1 ρ2 β2 : Fam} (h : Ext w ρ β w1 ρ1 β1) (k : Ext w1 ρ1 β1 w2 ρ2 β2) : Ext w ρ β w2 ρ2 β2 :=
  ⟨fun x u a b => let ⟨c, d⟩ := h.pure x u a b; k.pure x u c d,
   fun f b hF e => let ⟨c, d⟩ := h.fam f b hF e; let ⟨c', d'⟩ := k.fam f b hF c; ⟨c', d'.trans d⟩,
   fun i b e => k.box i b (h.box i b e)⟩

/-! The families and boxes of a state are apart. -/
structure Apart (w : World) (prot : Nat → Prop) (ρ β : Fam) : Prop where
  fam : ∀ f b, ρ f = some b → ¬ prot b ∧ b < w.heap.size
  box : ∀ i b, β i = some b → b < w.heap.size
  inj : ∀ f f' b, ρ f = some b → ρ f' = some b → f = f'
  injB : ∀ f f' b, β f = some b → β f' = some b → f = f'
  sep : ∀ f i b, ρ f = some b → β i = some b → False

def Fam.drop (ρ : Fam) (F : Nat → Bool) : Fam := fun f => if F f then none else ρ f

theorem Apart.drop {w : World} {prot : Nat → Prop} {ρ β : Fam} (h : Apart w prot ρ β) (F : Nat → Bool) : Apart w prot (ρ.drop F) β := by
  have e : ∀ f b, ρ.drop F f = some b → ρ f = some b := by intro f b; unfold Fam.drop; split <;> simp
  exact ⟨fun f b hb => h.fam f b (e f b hb), h.box, fun f f' b h1 h2 => h.inj f f' b (e _ _ h1) (e _ _ h2), h.injB, fun f i b h1 h2 => h.sep f i b (e _ _ h1) h2⟩

theorem Bad_drop {ρ β : Fam} {F : Nat → Bool} {b : Nat} (h : ¬ Bad ρ β b) : ¬ Bad (ρ.drop F) β b := by
  rintro (⟨f, hf⟩ | ⟨i, hi⟩)
  · exact h (.inl ⟨f, by revert hf; unfold Fam.drop; split <;> simp⟩)
  · exact h (.inr ⟨i, hi⟩)

theorem notBad_of_fam {w : World} {prot : Nat → Prop} {ρ β : Fam} (h : Apart w prot ρ β) {F : Nat → Bool} {f b : Nat} (hf : ρ f = some b) (hF : F f = true) : ¬ Bad (ρ.drop F) β b := by
  rintro (⟨f', hf'⟩ | ⟨i, hi⟩)
  · have : ρ f' = some b ∧ F f' = false := by revert hf'; unfold Fam.drop; split <;> simp_all
    have e := h.inj f f' b hf this.1
    subst e; simp [hF] at this
  · exact h.sep f i b hf hi

theorem drop_ne {ρ : Fam} {F : Nat → Bool} {f b : Nat} (hf : ρ f = some b) (hF : ¬ F f = true) : (ρ.drop F) f = some b := by simp [Fam.drop, hF, hf]

theorem row_cell {w : World} {g : Nat} {cur : Array Value} {e : TypeId} {fr : Nat × Nat} (hg : w.heap[g]? = some (.cells cur e fr)) {k : Nat} {j : Nat} {u : Value}
    (h : (cur.toList.take k)[j]? = some u) : w.cell? ((⟨g, 0, none⟩ : Addr).add j) = some u := by
  have hu : cur[j]? = some u := by
    rw [List.getElem?_take] at h
    split at h
    · simpa using h
    · cases h
  have : ((⟨g, 0, none⟩ : Addr).add j) = ⟨g, j, none⟩ := by unfold Addr.add; split <;> simp_all
  rw [this]
  simp [World.cell?, hg, hu]

theorem retire_ac {w : World} {prot : Nat → Prop} {ρ β : Fam} (hA : Apart w prot ρ β) (F : Nat → Bool) (v : Value) (x : AC) (h : ACRep w ρ β v x) :
    ACRep w (ρ.drop F) β v (x.retire F) := by
  have pm : ∀ (x : Addr) (u : Value), ¬ Bad ρ β x.block → w.cell? x = some u → ¬ Bad (ρ.drop F) β x.block ∧ w.cell? x = some u := fun x u hb hu => ⟨Bad_drop hb, hu⟩
  cases x with
  | p x => exact CRep.mono pm h
  | z => exact h
  | own f sz n cells =>
    obtain ⟨raws, ⟨hl, ho⟩, hr⟩ := h
    simp only [AC.retire]
    split
    · rename_i hF
      rcases ho with ⟨a, rfl, rfl⟩ | ⟨g, cap, cur, e, fr, rfl, hρ, hg, hfr, hn, hm, hcs, ht⟩
      · have : raws = [] := List.eq_nil_of_length_eq_zero (by simpa using hl)
        subst this
        exact .sl a 0 0 [] cells (Nat.le_refl _) (by simp [maxLen]) hr.len (by simp) (by simp) (by simp)
      · refine .sl _ n cap raws cells hn hm hr.len hr.one (fun j u hj => ⟨_, rfl, notBad_of_fam hA hρ hF, ?_⟩) fun j u c hu hc => (hr.rep j u c hu hc).mono pm
        exact row_cell hg (k := n * sz) (by rw [ht]; exact hj)
    · rename_i hF
      refine ⟨raws, ⟨hl, ?_⟩, hr.mono pm⟩
      rcases ho with ho | ⟨g, cap, cur, e, fr, hv, hρ, rest⟩
      · exact .inl ho
      · exact .inr ⟨g, cap, cur, e, fr, hv, drop_ne hρ hF, rest⟩
  | view f n cells =>
    obtain ⟨a, cap, raws, rfl, hn, hm, hc, hr⟩ := h
    simp only [AC.retire]
    split
    · rename_i hF
      refine .sl _ n cap raws cells hn hm hr.len hr.one (fun j u hj => ?_) fun j u c hu hc => (hr.rep j u c hu hc).mono pm
      obtain ⟨y, rfl, hρ, hu⟩ := hc j u hj
      exact ⟨y, rfl, notBad_of_fam hA hρ hF, hu⟩
    · rename_i hF
      refine ⟨a, cap, raws, rfl, hn, hm, fun j u hj => ?_, hr.mono pm⟩
      obtain ⟨y, rfl, hρ, hu⟩ := hc j u hj
      exact ⟨y, rfl, drop_ne hρ hF, hu⟩
  | ep k cells pos =>
    cases k with
    | none =>
      obtain ⟨y, raws, hv, hc, hr⟩ := h
      exact ⟨y, raws, hv, fun j u hj => ⟨Bad_drop (hc j u hj).1, (hc j u hj).2⟩, hr.mono pm⟩
    | some f =>
      obtain ⟨y, raws, hv, hc, hr⟩ := h
      simp only [AC.retire]
      split
      · rename_i hF
        exact ⟨y, raws, hv, fun j u hj => ⟨notBad_of_fam hA (hc j u hj).1 hF, (hc j u hj).2⟩, hr.mono pm⟩
      · rename_i hF
        exact ⟨y, raws, hv, fun j u hj => ⟨drop_ne (hc j u hj).1 hF, (hc j u hj).2⟩, hr.mono pm⟩
  | epo f cells pos =>
    obtain ⟨g, cur, e, fr, hv, hρ, hg, hfr, hlen, hr⟩ := h
    simp only [AC.retire]
    split
    · rename_i hF
      refine ⟨⟨g, 0, none⟩, cur.toList.take cells.length, hv, fun j u hj => ⟨notBad_of_fam hA hρ hF, row_cell hg hj⟩, hr.mono pm⟩
    · rename_i hF
      exact ⟨g, cur, e, fr, hv, drop_ne hρ hF, hg, hfr, hlen, hr.mono pm⟩
  | ptr b off => exact h
  | bad => trivial

theorem retire_av {w : World} {prot : Nat → Prop} {ρ β : Fam} (hA : Apart w prot ρ β) (F : Nat → Bool) {v : Value} {x : AV} (h : AVRep w ρ β v x) :
    AVRep w (ρ.drop F) β v (x.retire F) :=
  AVRep.lift (AC.retire F) (AV.retire F) (fun _ => rfl) (fun _ => rfl) (fun xs => by simp [AV.retire, retire_go_map]) rfl (retire_ac hA F) h

/-- A box is given up. -/
theorem unbox_ac {w : World} {ρ β : Fam} (i : Nat) (v : Value) (x : AC) (h : ACRep w ρ β v x) : ACRep w ρ (β.drop (· == 2 * i)) v (x.unbox i) := by
  have hb : ∀ b, ¬ Bad ρ β b → ¬ Bad ρ (β.drop (· == 2 * i)) b := by
    rintro b h (⟨f, hf⟩ | ⟨k, hk⟩)
    · exact h (.inl ⟨f, hf⟩)
    · exact h (.inr ⟨k, by revert hk; unfold Fam.drop; split <;> simp⟩)
  have pm : ∀ (x : Addr) (u : Value), ¬ Bad ρ β x.block → w.cell? x = some u → ¬ Bad ρ (β.drop (· == 2 * i)) x.block ∧ w.cell? x = some u := fun x u h hu => ⟨hb _ h, hu⟩
  cases x with
  | p x => exact CRep.mono pm h
  | z => exact h
  | own f sz n cells => obtain ⟨raws, h1, hr⟩ := h; exact ⟨raws, h1, hr.mono pm⟩
  | view f n cells => obtain ⟨a, cap, raws, h1, h2, h3, h4, hr⟩ := h; exact ⟨a, cap, raws, h1, h2, h3, h4, hr.mono pm⟩
  | ep k cells pos =>
    cases k with
    | none => obtain ⟨y, raws, h1, h2, hr⟩ := h; exact ⟨y, raws, h1, fun j u hj => ⟨hb _ (h2 j u hj).1, (h2 j u hj).2⟩, hr.mono pm⟩
    | some f => obtain ⟨y, raws, h1, h2, hr⟩ := h; exact ⟨y, raws, h1, h2, hr.mono pm⟩
  | epo f cells pos => obtain ⟨g, cur, e, fr, h1, h2, h3, h4, h5, hr⟩ := h; exact ⟨g, cur, e, fr, h1, h2, h3, h4, h5, hr.mono pm⟩
  | ptr b off =>
    obtain ⟨g, hg, hv⟩ := h
    simp only [AC.unbox]
    split
    · trivial
    · rename_i hne; exact ⟨g, by simp only [Fam.drop]; rw [if_neg (by simp; omega)]; exact hg, hv⟩
  | bad => trivial

theorem unbox_av {w : World} {ρ β : Fam} (i : Nat) {v : Value} {x : AV} (h : AVRep w ρ β v x) : AVRep w ρ (β.drop (· == 2 * i)) v (x.unbox i) :=
  AVRep.lift (AC.unbox i) (AV.unbox i) (fun _ => rfl) (fun _ => rfl) (fun xs => by simp [AV.unbox, unbox_go_map]) rfl (unbox_ac i) h

end Go.Fw
