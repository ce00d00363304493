/- Contracts of functions, by their numbers, and the laws that walk them. Conditions: as each states. -/
import Derived.WalkKit
import Derived.Laws.BitsAllLaws
import Derived.Deep.AppendSrc
import Derived.MapKept
import Derived.Laws.StructEq
set_option linter.all false
section
namespace Go.Fw

/-- A pure cell: a constant, or a slice of n elements with its cells. -/
inductive CV where
  | c (v : Value)
  | sl (n : Nat) (cells : List CV)
  | fn (g : Nat) (caps : List CV)
  | bx (cells : List CV)
  | mp (ks : List Int) (vs : List CV)
  deriving Inhabited

/-- What an owned map holds: pure values, maps of its own. -/
inductive MV where
  | v (x : CV)
  | inner (f : Nat) (ks : List Int) (vs : List CV)
  | bad
  deriving Inhabited

/-- What an iterator hands over: pure values. -/
inductive EV where
  | cell (x : CV)
  | agg (xs : List CV)
  deriving Inhabited

/-- A cell of a slot: pure, empty with capacity 0, an owned slice (family f, cells per element), a readable part of an owned slice, a pointer to a cell of a slice, a pointer into a box, a function with what it has captured (boxes, pure cells), a loop's yield, an iterator's account, unknown. -/
inductive AC where
  | p (x : CV)
  | z
  | own (f sz n : Nat) (cells : List CV)
  | view (f n : Nat) (cells : List CV)
  | tl (f sz n : Nat) (cells : List CV)
  | ep (k : Option Nat) (cells : List CV) (pos : Nat)
  | epo (f : Nat) (cells : List CV) (pos : Nat)
  | ptr (b off : Nat)
  | fn (g : Nat) (caps : List (Nat ⊕ CV))
  | yield (l : Nat)
  | ghost (l : Nat) (xs : List (List EV)) (k : Nat) (live : Bool)
  | mown (f : Nat) (ks : List Int) (vs : List MV)
  | bad
  deriving Inhabited

inductive AV where
  | cell (x : AC)
  | agg (xs : List AC)
  | tup (xs : List AV)
  | bad
  deriving Inhabited

/-- The key that a number stands for: from 0 on an integer, below 0 a pair of integers. -/
def kval (n : Int) : Value := if 0 ≤ n then .int .i64 n else .agg #[.int .i64 ((-n - 1) / 4294967296), .int .i64 ((-n - 1) % 4294967296)]
/-- Block g holds a map with these keys and values, in the order in which the keys came. -/
def MapCells (w : World) (g : Nat) (ks : List Int) (raws : List Value) : Prop :=
  ∃ (es : Array MapEntry) (n : Nat), w.heap[g]? = some (.map es n) ∧ es.toList.map (·.key) = ks.map kval ∧ es.toList.map (·.val) = raws

/-- The value represents the pure cell; none of its blocks is bad. -/
inductive CRep (w : World) (bad : Nat → Prop) : Value → CV → Prop
  | c (v : Value) : CRep w bad v (.c v)
  | sl (a : Option Addr) (n cap : Nat) (raws : List Value) (cells : List CV) (hn : n ≤ cap) (hm : cap ≤ maxLen)
      (hl : raws.length = cells.length) (ho : ∀ u ∈ raws, u.oneCell' = true)
      (hc : ∀ (j : Nat) (u : Value), raws[j]? = some u → ∃ x : Addr, a = some x ∧ ¬ bad x.block ∧ w.cell? (x.add j) = some u)
      (hr : ∀ (j : Nat) (u : Value) (c : CV), raws[j]? = some u → cells[j]? = some c → CRep w bad u c) : CRep w bad (.slice a n cap) (.sl n cells)
  | fn (g : Nat) (vs : List Value) (caps : List CV) (hl : vs.length = caps.length)
      (hr : ∀ (j : Nat) (u : Value) (c : CV), vs[j]? = some u → caps[j]? = some c → CRep w bad u c) : CRep w bad (.func (.func g) #[] vs.toArray) (.fn g caps)
  | bx (g : Nat) (raws : List Value) (cells : List CV) (hl : raws.length = cells.length) (ho : ∀ u ∈ raws, u.oneCell' = true)
      (hc : ∀ (j : Nat) (u : Value), raws[j]? = some u → ¬ bad g ∧ w.cell? ⟨g, j, none⟩ = some u)
      (hr : ∀ (j : Nat) (u : Value) (c : CV), raws[j]? = some u → cells[j]? = some c → CRep w bad u c) : CRep w bad (.pointer (some ⟨g, 0, none⟩)) (.bx cells)
  | mp (g : Nat) (raws : List Value) (ks : List Int) (vs : List CV) (hg : ¬ bad g) (hm : MapCells w g ks raws) (hl : raws.length = vs.length) (ho : ∀ u ∈ raws, u.oneCell' = true)
      (hr : ∀ (j : Nat) (u : Value) (c : CV), raws[j]? = some u → vs[j]? = some c → CRep w bad u c) : CRep w bad (.map (some g)) (.mp ks vs)

structure CReps (w : World) (bad : Nat → Prop) (raws : List Value) (cells : List CV) : Prop where
  len : raws.length = cells.length
  one : ∀ u ∈ raws, u.oneCell' = true
  rep : ∀ (j : Nat) (u : Value) (c : CV), raws[j]? = some u → cells[j]? = some c → CRep w bad u c

/-- The slice value owns the cells raws: it is empty with capacity 0, or leads to the head of block b. -/
def OwnRow (w : World) (b : Option Nat) (sz n : Nat) (v : Value) (raws : List Value) : Prop :=
  raws.length = n * sz ∧ ((∃ a, v = .slice a 0 0 ∧ n = 0) ∨
    ∃ g cap cur e fr, v = .slice (some ⟨g, 0, none⟩) n cap ∧ b = some g ∧ w.heap[g]? = some (.cells cur e fr) ∧ (fr.2 = fr.1 ∨ cur.size ≤ fr.1) ∧
      n ≤ cap ∧ cap ≤ maxLen ∧ cur.size = cap * sz ∧ cur.toList.take (n * sz) = raws)

/-- The slice value is the last in its block: nothing lies behind its capacity. -/
def TlRow (w : World) (b : Option Nat) (sz n : Nat) (v : Value) (raws : List Value) : Prop :=
  raws.length = n * sz ∧ ((∃ a, v = .slice a 0 0 ∧ n = 0) ∨
    ∃ g o cap cur e fr, v = .slice (some ⟨g, o, none⟩) n cap ∧ b = some g ∧ w.heap[g]? = some (.cells cur e fr) ∧ (fr.2 = fr.1 ∨ cur.size ≤ fr.1) ∧
      n ≤ cap ∧ cap ≤ maxLen ∧ cur.size = o + cap * sz ∧ (cur.toList.drop o).take (n * sz) = raws)

abbrev Fam := Nat → Option Nat

/-- The blocks that are owned: by a family, or by a box. -/
def Bad (ρ β : Fam) (b : Nat) : Prop := (∃ f, ρ f = some b) ∨ (∃ i, β i = some b)

def MVRep (w : World) (ρ β : Fam) (u : Value) : MV → Prop
  | .v x => CRep w (Bad ρ β) u x
  | .inner f ks vs => ∃ g raws, u = .map (some g) ∧ ρ f = some g ∧ MapCells w g ks raws ∧ CReps w (Bad ρ β) raws vs
  | .bad => True

def ACRep (w : World) (ρ β : Fam) (v : Value) : AC → Prop
  | .p x => CRep w (Bad ρ β) v x
  | .z => ∃ a, v = .slice a 0 0
  | .own f sz n cells => ∃ raws, OwnRow w (ρ f) sz n v raws ∧ CReps w (Bad ρ β) raws cells
  | .tl f sz n cells => ∃ raws, TlRow w (ρ f) sz n v raws ∧ CReps w (Bad ρ β) raws cells
  | .view f n cells => ∃ a cap raws, v = .slice a n cap ∧ n ≤ cap ∧ cap ≤ maxLen ∧
      (∀ (j : Nat) (u : Value), raws[j]? = some u → ∃ x : Addr, a = some x ∧ ρ f = some x.block ∧ w.cell? (x.add j) = some u) ∧ CReps w (Bad ρ β) raws cells
  | .ep none cells pos => ∃ (x : Addr) (raws : List Value), v = .pointer (some (x.add pos)) ∧
      (∀ (j : Nat) (u : Value), raws[j]? = some u → ¬ Bad ρ β x.block ∧ w.cell? (x.add j) = some u) ∧ CReps w (Bad ρ β) raws cells
  | .ep (some f) cells pos => ∃ (x : Addr) (raws : List Value), v = .pointer (some (x.add pos)) ∧
      (∀ (j : Nat) (u : Value), raws[j]? = some u → ρ f = some x.block ∧ w.cell? (x.add j) = some u) ∧ CReps w (Bad ρ β) raws cells
  | .epo f cells pos => ∃ g cur e fr, v = .pointer (some ((⟨g, 0, none⟩ : Addr).add pos)) ∧ ρ f = some g ∧ w.heap[g]? = some (.cells cur e fr) ∧
      (fr.2 = fr.1 ∨ cur.size ≤ fr.1) ∧ cells.length ≤ cur.size ∧ CReps w (Bad ρ β) (cur.toList.take cells.length) cells
  | .ptr b off => ∃ g, β (2 * b) = some g ∧ v = .pointer (some ⟨g, off, none⟩)
  | .fn g caps => ∃ vs : Array Value, v = .func (.func g) #[] vs ∧ vs.size = caps.length ∧
      (∀ (j : Nat) (u : Value) (b : Nat), vs[j]? = some u → caps[j]? = some (.inl b) → ∃ q, β (2 * b) = some q ∧ u = .pointer (some ⟨q, 0, none⟩)) ∧
      ∀ (j : Nat) (u : Value) (c : CV), vs[j]? = some u → caps[j]? = some (.inr c) → CRep w (Bad ρ β) u c
  | .yield l => v = .func (.yield l) #[] #[]
  | .ghost _ _ _ _ => True
  | .mown f ks vs => ∃ g raws, v = .map (some g) ∧ ρ f = some g ∧ MapCells w g ks raws ∧ raws.length = vs.length ∧ (∀ u ∈ raws, u.oneCell' = true) ∧
      ∀ (j : Nat) (u : Value) (x : MV), raws[j]? = some u → vs[j]? = some x → MVRep w ρ β u x
  | .bad => True

inductive AVRep (w : World) (ρ β : Fam) : Value → AV → Prop
  | cell (v : Value) (x : AC) (h : ACRep w ρ β v x) : AVRep w ρ β v (.cell x)
  | agg (cs : Array Value) (xs : List AC) (hl : cs.size = xs.length) (ho : ∀ u ∈ cs.toList, u.oneCell' = true) (h : ∀ (j : Nat) (u : Value) (x : AC), cs[j]? = some u → xs[j]? = some x → ACRep w ρ β u x) : AVRep w ρ β (.agg cs) (.agg xs)
  | tup (vs : Array Value) (xs : List AV) (hl : vs.size = xs.length) (h : ∀ (j : Nat) (u : Value) (x : AV), vs[j]? = some u → xs[j]? = some x → AVRep w ρ β u x) : AVRep w ρ β (.tuple vs) (.tup xs)
  | bad (v : Value) : AVRep w ρ β v .bad

/-- What is not bad stays, and stays not bad. -/
structure Hx (w : World) (bad : Nat → Prop) (w' : World) (bad' : Nat → Prop) : Prop where
  cell : ∀ x u, ¬ bad x.block → w.cell? x = some u → ¬ bad' x.block ∧ w'.cell? x = some u
  map : ∀ b es n, ¬ bad b → w.heap[b]? = some (.map es n) → ¬ bad' b ∧ w'.heap[b]? = some (.map es n)
theorem Hx.same {w : World} {bad bad' : Nat → Prop} (h : ∀ b, ¬ bad b → ¬ bad' b) : Hx w bad w bad' := ⟨fun _ _ hb hu => ⟨h _ hb, hu⟩, fun _ _ _ hb hu => ⟨h _ hb, hu⟩⟩
theorem Hx.blocks {w w' : World} {bad bad' : Nat → Prop} (h : ∀ b, b < w.heap.size → ¬ bad b → ¬ bad' b ∧ w'.heap[b]? = w.heap[b]?) : Hx w bad w' bad' := by
  refine ⟨fun x u hb hu => ?_, fun b es n hb hu => ?_⟩
  · obtain ⟨h1, h2⟩ := h _ (World.block_lt_of_cell? w x hu) hb
    exact ⟨h1, by simpa [World.cell?, h2] using hu⟩
  · have hlt : b < w.heap.size := by
      rcases Nat.lt_or_ge b w.heap.size with h | h
      · exact h
      · simp [h] at hu
    obtain ⟨h1, h2⟩ := h b hlt hb
    exact ⟨h1, by rw [h2]; exact hu⟩
theorem Hx.trans {w w' w'' : World} {bad bad' bad'' : Nat → Prop} (h : Hx w bad w' bad') (k : Hx w' bad' w'' bad'') : Hx w bad w'' bad'' :=
  ⟨fun x u hb hu => let ⟨a, b⟩ := h.cell x u hb hu; k.cell x u a b, fun x u n hb hu => let ⟨a, b⟩ := h.map x u n hb hu; k.map x u n a b⟩

theorem CRep.mono {w w' : World} {bad bad' : Nat → Prop} (hx : Hx w bad w' bad')
    {v : Value} {x : CV} (h : CRep w bad v x) : CRep w' bad' v x := by
  induction h with
  | c v => exact .c v
  | sl a n cap raws cells hn hm hl ho hc hr ih =>
    refine .sl a n cap raws cells hn hm hl ho (fun j u hj => ?_) ih
    obtain ⟨y, rfl, hb, hu⟩ := hc j u hj
    have hblk : (y.add j).block = y.block := by unfold Addr.add; split <;> rfl
    obtain ⟨hb', hu'⟩ := hx.cell (y.add j) u (by rw [hblk]; exact hb) hu
    exact ⟨y, rfl, by rw [← hblk]; exact hb', hu'⟩
  | fn g vs caps hl hr ih => exact .fn g vs caps hl ih
  | bx g raws cells hl ho hc hr ih => exact .bx g raws cells hl ho (fun j u hj => hx.cell ⟨g, j, none⟩ u (hc j u hj).1 (hc j u hj).2) ih
  | mp g raws ks vs hg hm hl ho hr ih =>
    obtain ⟨es, n, h1, h2, h3⟩ := hm
    obtain ⟨h4, h5⟩ := hx.map g es n hg h1
    exact .mp g raws ks vs h4 ⟨es, n, h5, h2, h3⟩ hl ho ih

theorem CReps.mono {w w' : World} {bad bad' : Nat → Prop} (hx : Hx w bad w' bad')
    {raws : List Value} {cells : List CV} (h : CReps w bad raws cells) : CReps w' bad' raws cells :=
  ⟨h.len, h.one, fun j u c hu hc => (h.rep j u c hu hc).mono hx⟩

theorem add_block (x : Addr) (j : Nat) : (x.add j).block = x.block := by unfold Addr.add; split <;> rfl

/-! What becomes of an abstract value when families F are written (poisoned), or given up (retired). -/
def MV.poison (F : Nat → Bool) : MV → MV
  | .inner f ks vs => if F f then .bad else .inner f ks vs
  | x => x
def AC.poison (F : Nat → Bool) : AC → AC
  | .mown f ks vs => if F f then .bad else .mown f ks (vs.map (·.poison F))
  | .own f sz n cells => if F f then .bad else .own f sz n cells
  | .view f n cells => if F f then .bad else .view f n cells
  | .tl f sz n cells => if F f then .bad else .tl f sz n cells
  | .ep (some f) cells pos => if F f then .bad else .ep (some f) cells pos
  | .epo f cells pos => if F f then .bad else .epo f cells pos
  | x => x

def AV.poison (F : Nat → Bool) : AV → AV
  | .cell x => .cell (x.poison F)
  | .agg xs => .agg (xs.map (·.poison F))
  | .tup xs => .tup (go xs)
  | .bad => .bad
where
  go : List AV → List AV
    | [] => []
    | x :: xs => x.poison F :: go xs

def MV.retire (F : Nat → Bool) : MV → MV
  | .inner f ks vs => if F f then .v (.mp ks vs) else .inner f ks vs
  | x => x
def MV.toCV : MV → Option CV
  | .v x => some x
  | _ => none
def mvCVs : List MV → Option (List CV)
  | [] => some []
  | x :: r => match x.toCV, mvCVs r with
    | some c, some l => some (c :: l)
    | _, _ => none
def AC.retire (F : Nat → Bool) : AC → AC
  | .mown f ks vs => if F f then (match mvCVs (vs.map (·.retire F)) with | some cs => .p (.mp ks cs) | none => .bad) else .mown f ks (vs.map (·.retire F))
  | .own f sz n cells => if F f then .p (.sl n cells) else .own f sz n cells
  | .view f n cells => if F f then .p (.sl n cells) else .view f n cells
  | .tl f sz n cells => if F f then .p (.sl n cells) else .tl f sz n cells
  | .ep (some f) cells pos => if F f then .ep none cells pos else .ep (some f) cells pos
  | .epo f cells pos => if F f then .ep none cells pos else .epo f cells pos
  | x => x

def AV.retire (F : Nat → Bool) : AV → AV
  | .cell x => .cell (x.retire F)
  | .agg xs => .agg (xs.map (·.retire F))
  | .tup xs => .tup (go xs)
  | .bad => .bad
where
  go : List AV → List AV
    | [] => []
    | x :: xs => x.retire F :: go xs

/-- Box i is written: pointers to it are forgotten. -/
def AC.unbox (i : Nat) : AC → AC
  | .ptr b off => if b = i then .bad else .ptr b off
  | .fn g caps => if caps.any (fun c => match c with | .inl b => b == i | _ => false) then .bad else .fn g caps
  | x => x

def AV.unbox (i : Nat) : AV → AV
  | .cell x => .cell (x.unbox i)
  | .agg xs => .agg (xs.map (·.unbox i))
  | .tup xs => .tup (go xs)
  | .bad => .bad
where
  go : List AV → List AV
    | [] => []
    | x :: xs => x.unbox i :: go xs

theorem poison_go_map (F : Nat → Bool) (xs : List AV) : AV.poison.go F xs = xs.map (·.poison F) := by
  induction xs with
  | nil => rfl
  | cons x xs ih => simp [AV.poison.go, ih]
theorem retire_go_map (F : Nat → Bool) (xs : List AV) : AV.retire.go F xs = xs.map (·.retire F) := by
  induction xs with
  | nil => rfl
  | cons x xs ih => simp [AV.retire.go, ih]
theorem unbox_go_map (i : Nat) (xs : List AV) : AV.unbox.go i xs = xs.map (·.unbox i) := by
  induction xs with
  | nil => rfl
  | cons x xs ih => simp [AV.unbox.go, ih]

/-- A map on cells, lifted to values; what it keeps, cell by cell, it keeps. -/
theorem AVRep.lift {w w' : World} {ρ β ρ' β' : Fam} (g : AC → AC) (G : AV → AV) (hcell : ∀ x, G (.cell x) = .cell (g x)) (hagg : ∀ xs, G (.agg xs) = .agg (xs.map g))
    (htup : ∀ xs, G (.tup xs) = .tup (xs.map G)) (hbad : G .bad = .bad) (hg : ∀ v x, ACRep w ρ β v x → ACRep w' ρ' β' v (g x))
    {v : Value} {x : AV} (h : AVRep w ρ β v x) : AVRep w' ρ' β' v (G x) := by
  induction h with
  | cell v x h => rw [hcell]; exact .cell v _ (hg v x h)
  | agg cs xs hl ho h =>
    rw [hagg]
    refine .agg cs _ (by simpa using hl) ho (fun j u x hu hx => ?_)
    rw [List.getElem?_map] at hx
    cases hj : xs[j]? with
    | none => simp [hj] at hx
    | some y => simp [hj] at hx; subst hx; exact hg u y (h j u y hu hj)
  | tup vs xs hl h ih =>
    rw [htup]
    refine .tup vs _ (by simpa using hl) (fun j u x hu hx => ?_)
    rw [List.getElem?_map] at hx
    cases hj : xs[j]? with
    | none => simp [hj] at hx
    | some y => simp [hj] at hx; subst hx; exact ih j u y hu hj
  | bad v => rw [hbad]; exact .bad v

/-- The world and the families turn; families in F may be written. -/
structure ExtE (F : Nat → Bool) (w : World) (ρ β : Fam) (w' : World) (ρ' β' : Fam) : Prop where
  pure : Hx w (Bad ρ β) w' (Bad ρ' β')
  fam : ∀ f b, F f = false → ρ f = some b → ρ' f = some b ∧ w'.heap[b]? = w.heap[b]?
  box : ∀ i b, β (2 * i) = some b → β' (2 * i) = some b

theorem cell_of_heap {w w' : World} {x : Addr} (h : w'.heap[x.block]? = w.heap[x.block]?) : w'.cell? x = w.cell? x := by simp [World.cell?, h]

theorem MapCells.heap {w w' : World} {g : Nat} {ks : List Int} {raws : List Value} (h : MapCells w g ks raws) (e : w'.heap[g]? = w.heap[g]?) : MapCells w' g ks raws := by
  obtain ⟨es, n, h1, h2⟩ := h
  exact ⟨es, n, by rw [e]; exact h1, h2⟩
theorem ExtE.mv {F : Nat → Bool} {w w' : World} {ρ β ρ' β' : Fam} (E : ExtE F w ρ β w' ρ' β') (u : Value) (x : MV) (h : MVRep w ρ β u x) : MVRep w' ρ' β' u (x.poison F) := by
  cases x with
  | v x => exact CRep.mono E.pure h
  | inner f ks vs =>
    simp only [MV.poison]
    split
    · trivial
    · rename_i hF
      obtain ⟨g, raws, hv, hρ, hm, hr⟩ := h
      obtain ⟨h1, h2⟩ := E.fam f g (by simpa using hF) hρ
      exact ⟨g, raws, hv, h1, hm.heap h2, hr.mono E.pure⟩
  | bad => trivial
theorem ExtE.ac {F : Nat → Bool} {w w' : World} {ρ β ρ' β' : Fam} (E : ExtE F w ρ β w' ρ' β') (v : Value) (x : AC) (h : ACRep w ρ β v x) : ACRep w' ρ' β' v (x.poison F) := by
  cases x with
  | p x => exact CRep.mono E.pure h
  | z => exact h
  | own f sz n cells =>
    simp only [AC.poison]
    split
    · trivial
    · rename_i hF
      obtain ⟨raws, ⟨hl, ho⟩, hr⟩ := h
      refine ⟨raws, ⟨hl, ?_⟩, hr.mono E.pure⟩
      rcases ho with ho | ⟨g, cap, cur, e, fr, hv, hρ, hg, rest⟩
      · exact .inl ho
      · obtain ⟨h1, h2⟩ := E.fam f g (by simpa using hF) hρ
        exact .inr ⟨g, cap, cur, e, fr, hv, h1, by rw [h2]; exact hg, rest⟩
  | tl f sz n cells =>
    simp only [AC.poison]
    split
    · trivial
    · rename_i hF
      obtain ⟨raws, ⟨hl, ho⟩, hr⟩ := h
      refine ⟨raws, ⟨hl, ?_⟩, hr.mono E.pure⟩
      rcases ho with ho | ⟨g, o, cap, cur, e, fr, hv, hρ, hg, rest⟩
      · exact .inl ho
      · obtain ⟨h1, h2⟩ := E.fam f g (by simpa using hF) hρ
        exact .inr ⟨g, o, cap, cur, e, fr, hv, h1, by rw [h2]; exact hg, rest⟩
  | view f n cells =>
    simp only [AC.poison]
    split
    · trivial
    · rename_i hF
      obtain ⟨a, cap, raws, hv, hn, hm, hc, hr⟩ := h
      refine ⟨a, cap, raws, hv, hn, hm, fun j u hj => ?_, hr.mono E.pure⟩
      obtain ⟨y, rfl, hρ, hu⟩ := hc j u hj
      obtain ⟨h1, h2⟩ := E.fam f _ (by simpa using hF) hρ
      exact ⟨y, rfl, h1, (cell_of_heap (x := y.add j) (by rw [add_block]; exact h2)).trans hu⟩
  | ep k cells pos =>
    cases k with
    | none =>
      obtain ⟨y, raws, hv, hc, hr⟩ := h
      refine ⟨y, raws, hv, fun j u hj => ?_, hr.mono E.pure⟩
      obtain ⟨hb, hu⟩ := hc j u hj
      obtain ⟨h1, h2⟩ := E.pure.cell (y.add j) u (by rw [add_block]; exact hb) hu
      exact ⟨by rw [add_block] at h1; exact h1, h2⟩
    | some f =>
      simp only [AC.poison]
      split
      · trivial
      · rename_i hF
        obtain ⟨y, raws, hv, hc, hr⟩ := h
        refine ⟨y, raws, hv, fun j u hj => ?_, hr.mono E.pure⟩
        obtain ⟨hρ, hu⟩ := hc j u hj
        obtain ⟨h1, h2⟩ := E.fam f _ (by simpa using hF) hρ
        exact ⟨h1, (cell_of_heap (x := y.add j) (by rw [add_block]; exact h2)).trans hu⟩
  | epo f cells pos =>
    simp only [AC.poison]
    split
    · trivial
    · rename_i hF
      obtain ⟨g, cur, e, fr, hv, hρ, hg, hfr, hlen, hr⟩ := h
      obtain ⟨h1, h2⟩ := E.fam f g (by simpa using hF) hρ
      exact ⟨g, cur, e, fr, hv, h1, by rw [h2]; exact hg, hfr, hlen, hr.mono E.pure⟩
  | ptr b off =>
    obtain ⟨g, hg, hv⟩ := h
    exact ⟨g, E.box _ g hg, hv⟩
  | fn g caps =>
    obtain ⟨vs, hv, hl, h1, h2⟩ := h
    exact ⟨vs, hv, hl, fun j u b hu hb => let ⟨q, hq, e⟩ := h1 j u b hu hb; ⟨q, E.box _ q hq, e⟩, fun j u c hu hc => CRep.mono E.pure (h2 j u c hu hc)⟩
  | yield l => exact h
  | ghost l xs k live => trivial
  | mown f ks vs =>
    simp only [AC.poison]
    split
    · trivial
    · rename_i hF
      obtain ⟨g, raws, hv, hρ, hm, hl, ho, hr⟩ := h
      obtain ⟨h1, h2⟩ := E.fam f g (by simpa using hF) hρ
      refine ⟨g, raws, hv, h1, hm.heap h2, by simpa using hl, ho, fun j u y hu hy => ?_⟩
      rw [List.getElem?_map] at hy
      cases hj : vs[j]? with
      | none => simp [hj] at hy
      | some x => simp [hj] at hy; subst hy; exact E.mv u x (hr j u x hu hj)
  | bad => trivial

theorem ExtE.av {F : Nat → Bool} {w w' : World} {ρ β ρ' β' : Fam} (E : ExtE F w ρ β w' ρ' β') {v : Value} {x : AV} (h : AVRep w ρ β v x) : AVRep w' ρ' β' v (x.poison F) :=
  AVRep.lift (AC.poison F) (AV.poison F) (fun _ => rfl) (fun _ => rfl) (fun xs => by simp [AV.poison, poison_go_map]) rfl E.ac h

theorem MV.poison_none (x : MV) : x.poison (fun _ => false) = x := by cases x <;> rfl
theorem AC.poison_none (x : AC) : x.poison (fun _ => false) = x := by
  cases x <;> try rfl
  case mown f ks vs =>
    simp only [AC.poison, Bool.false_eq_true, if_false]
    congr 1
    conv => rhs; rw [← List.map_id vs]
    exact List.map_congr_left fun x _ => MV.poison_none x
  · rename_i k cells pos; cases k <;> rfl

theorem AV.poison_none : ∀ x : AV, x.poison (fun _ => false) = x
  | .cell x => by simp [AV.poison, AC.poison_none]
  | .agg xs => by simp [AV.poison, AC.poison_none]
  | .tup xs => by simp only [AV.poison]; rw [go xs]
  | .bad => rfl
where
  go : ∀ xs : List AV, AV.poison.go (fun _ => false) xs = xs
    | [] => rfl
    | x :: xs => by simp only [AV.poison.go]; rw [AV.poison_none x, go xs]

abbrev Ext := ExtE (fun _ => false)
theorem Ext.ac {w w' : World} {ρ β ρ' β' : Fam} (E : Ext w ρ β w' ρ' β') {v : Value} {x : AC} (h : ACRep w ρ β v x) : ACRep w' ρ' β' v x := by
  have := ExtE.ac E v x h; rwa [AC.poison_none] at this
theorem Ext.av {w w' : World} {ρ β ρ' β' : Fam} (E : Ext w ρ β w' ρ' β') {v : Value} {x : AV} (h : AVRep w ρ β v x) : AVRep w' ρ' β' v x := by
  have := ExtE.av E h; rwa [AV.poison_none] at this
theorem Ext.refl (w : World) (ρ β : Fam) : Ext w ρ β w ρ β := ⟨Hx.same fun _ h => h, fun _ _ _ b => ⟨b, rfl⟩, fun _ _ b => b⟩
theorem Ext.trans {w w1 w2 : World} {ρ β ρ1 β1 ρ2 β2 : Fam} (h : Ext w ρ β w1 ρ1 β1) (k : Ext w1 ρ1 β1 w2 ρ2 β2) : Ext w ρ β w2 ρ2 β2 :=
  ⟨h.pure.trans k.pure,
   fun f b hF e => let ⟨c, d⟩ := h.fam f b hF e; let ⟨c', d'⟩ := k.fam f b hF c; ⟨c', d'.trans d⟩,
   fun i b e => k.box i b (h.box i b e)⟩

/-! The families and boxes of a state are apart. -/
structure Apart (w : World) (prot : Nat → Prop) (ρ β : Fam) : Prop where
  fam : ∀ f b, ρ f = some b → ¬ prot b ∧ b < w.heap.size
  box : ∀ i b, β i = some b → b < w.heap.size
  inj : ∀ f f' b, ρ f = some b → ρ f' = some b → f = f'
  injB : ∀ f f' b, β f = some b → β f' = some b → f = f'
  sep : ∀ f i b, ρ f = some b → β i = some b → False
  boxp : ∀ i b, β (2 * i) = some b → ¬ prot b

def Fam.drop (ρ : Fam) (F : Nat → Bool) : Fam := fun f => if F f then none else ρ f

theorem Apart.drop {w : World} {prot : Nat → Prop} {ρ β : Fam} (h : Apart w prot ρ β) (F : Nat → Bool) : Apart w prot (ρ.drop F) β := by
  have e : ∀ f b, ρ.drop F f = some b → ρ f = some b := by intro f b; unfold Fam.drop; split <;> simp
  exact ⟨fun f b hb => h.fam f b (e f b hb), h.box, fun f f' b h1 h2 => h.inj f f' b (e _ _ h1) (e _ _ h2), h.injB, fun f i b h1 h2 => h.sep f i b (e _ _ h1) h2, h.boxp⟩

theorem Bad_drop {ρ β : Fam} {F : Nat → Bool} {b : Nat} (h : ¬ Bad ρ β b) : ¬ Bad (ρ.drop F) β b := by
  rintro (⟨f, hf⟩ | ⟨i, hi⟩)
  · exact h (.inl ⟨f, by revert hf; unfold Fam.drop; split <;> simp⟩)
  · exact h (.inr ⟨i, hi⟩)

theorem notBad_of_fam {w : World} {prot : Nat → Prop} {ρ β : Fam} (h : Apart w prot ρ β) {F : Nat → Bool} {f b : Nat} (hf : ρ f = some b) (hF : F f = true) : ¬ Bad (ρ.drop F) β b := by
  rintro (⟨f', hf'⟩ | ⟨i, hi⟩)
  · have : ρ f' = some b ∧ F f' = false := by revert hf'; unfold Fam.drop; split <;> simp_all
    have e := h.inj f f' b hf this.1
    subst e; simp [hF] at this
  · exact h.sep f i b hf hi

theorem drop_ne {ρ : Fam} {F : Nat → Bool} {f b : Nat} (hf : ρ f = some b) (hF : ¬ F f = true) : (ρ.drop F) f = some b := by simp [Fam.drop, hF, hf]

theorem row_cell {w : World} {g : Nat} {cur : Array Value} {e : TypeId} {fr : Nat × Nat} (hg : w.heap[g]? = some (.cells cur e fr)) {k : Nat} {j : Nat} {u : Value}
    (h : (cur.toList.take k)[j]? = some u) : w.cell? ((⟨g, 0, none⟩ : Addr).add j) = some u := by
  have hu : cur[j]? = some u := by
    rw [List.getElem?_take] at h
    split at h
    · simpa using h
    · cases h
  have : ((⟨g, 0, none⟩ : Addr).add j) = ⟨g, j, none⟩ := by unfold Addr.add; split <;> simp_all
  rw [this]
  simp [World.cell?, hg, hu]

theorem tl_cell {w : World} {g o : Nat} {cur : Array Value} {e : TypeId} {fr : Nat × Nat} (hg : w.heap[g]? = some (.cells cur e fr)) {k : Nat} {raws : List Value} (ht : (cur.toList.drop o).take k = raws) {j : Nat} {u : Value} (hj : raws[j]? = some u) : w.cell? ((⟨g, o, none⟩ : Addr).add j) = some u := by
  have hc : (cur.toList.drop o)[j]? = some u := by
    rw [← ht, List.getElem?_take] at hj
    split at hj
    · exact hj
    · cases hj
  rw [List.getElem?_drop] at hc
  have ha : (⟨g, o, none⟩ : Addr).add j = ⟨g, o + j, none⟩ := by
    cases j with
    | zero => rfl
    | succ j => simp [Addr.add]
  rw [ha]
  simpa [World.cell?, hg] using hc

theorem mvCVs_get : ∀ {vs : List MV} {cs : List CV}, mvCVs vs = some cs → vs.length = cs.length ∧ ∀ (j : Nat) (c : CV), cs[j]? = some c → vs[j]? = some (.v c)
  | [], cs, h => by simp [mvCVs] at h; subst h; simp
  | x :: r, cs, h => by
    simp only [mvCVs] at h
    cases hx : x.toCV with
    | none => simp [hx] at h
    | some c =>
      cases hr : mvCVs r with
      | none => simp [hx, hr] at h
      | some l =>
        simp [hx, hr] at h
        subst h
        obtain ⟨h1, h2⟩ := mvCVs_get hr
        refine ⟨by simp [h1], fun j d hj => ?_⟩
        cases j with
        | zero =>
          simp at hj; subst hj
          cases x <;> simp [MV.toCV] at hx
          subst hx; rfl
        | succ j => simpa using h2 j d (by simpa using hj)
theorem retire_mv {w : World} {prot : Nat → Prop} {ρ β : Fam} (hA : Apart w prot ρ β) (F : Nat → Bool) (u : Value) (x : MV) (h : MVRep w ρ β u x) : MVRep w (ρ.drop F) β u (x.retire F) := by
  have pm : Hx w (Bad ρ β) w (Bad (ρ.drop F) β) := Hx.same fun b hb => Bad_drop hb
  cases x with
  | v x => exact CRep.mono pm h
  | inner f ks vs =>
    obtain ⟨g, raws, hv, hρ, hm, hr⟩ := h
    simp only [MV.retire]
    split
    · rename_i hF
      subst hv
      have hr' := hr.mono pm
      exact .mp g raws ks vs (notBad_of_fam hA hρ hF) hm hr'.len hr'.one hr'.rep
    · rename_i hF
      exact ⟨g, raws, hv, drop_ne hρ hF, hm, hr.mono pm⟩
  | bad => trivial
theorem retire_ac {w : World} {prot : Nat → Prop} {ρ β : Fam} (hA : Apart w prot ρ β) (F : Nat → Bool) (v : Value) (x : AC) (h : ACRep w ρ β v x) :
    ACRep w (ρ.drop F) β v (x.retire F) := by
  have pm : Hx w (Bad ρ β) w (Bad (ρ.drop F) β) := Hx.same fun b hb => Bad_drop hb
  cases x with
  | p x => exact CRep.mono pm h
  | z => exact h
  | own f sz n cells =>
    obtain ⟨raws, ⟨hl, ho⟩, hr⟩ := h
    simp only [AC.retire]
    split
    · rename_i hF
      rcases ho with ⟨a, rfl, rfl⟩ | ⟨g, cap, cur, e, fr, rfl, hρ, hg, hfr, hn, hm, hcs, ht⟩
      · have : raws = [] := List.eq_nil_of_length_eq_zero (by simpa using hl)
        subst this
        exact .sl a 0 0 [] cells (Nat.le_refl _) (by simp [maxLen]) hr.len (by simp) (by simp) (by simp)
      · refine .sl _ n cap raws cells hn hm hr.len hr.one (fun j u hj => ⟨_, rfl, notBad_of_fam hA hρ hF, ?_⟩) fun j u c hu hc => (hr.rep j u c hu hc).mono pm
        exact row_cell hg (k := n * sz) (by rw [ht]; exact hj)
    · rename_i hF
      refine ⟨raws, ⟨hl, ?_⟩, hr.mono pm⟩
      rcases ho with ho | ⟨g, cap, cur, e, fr, hv, hρ, rest⟩
      · exact .inl ho
      · exact .inr ⟨g, cap, cur, e, fr, hv, drop_ne hρ hF, rest⟩
  | tl f sz n cells =>
    obtain ⟨raws, ⟨hl, ho⟩, hr⟩ := h
    simp only [AC.retire]
    split
    · rename_i hF
      rcases ho with ⟨a, rfl, rfl⟩ | ⟨g, o, cap, cur, e, fr, rfl, hρ, hg, hfr, hn, hm, hcs, ht⟩
      · have : raws = [] := List.eq_nil_of_length_eq_zero (by simpa using hl)
        subst this
        exact .sl a 0 0 [] cells (Nat.le_refl _) (by simp [maxLen]) hr.len (by simp) (by simp) (by simp)
      · refine .sl _ n cap raws cells hn hm hr.len hr.one (fun j u hj => ⟨_, rfl, notBad_of_fam hA hρ hF, ?_⟩) fun j u c hu hc => (hr.rep j u c hu hc).mono pm
        exact tl_cell hg ht hj
    · rename_i hF
      refine ⟨raws, ⟨hl, ?_⟩, hr.mono pm⟩
      rcases ho with ho | ⟨g, o, cap, cur, e, fr, hv, hρ, rest⟩
      · exact .inl ho
      · exact .inr ⟨g, o, cap, cur, e, fr, hv, drop_ne hρ hF, rest⟩
  | view f n cells =>
    obtain ⟨a, cap, raws, rfl, hn, hm, hc, hr⟩ := h
    simp only [AC.retire]
    split
    · rename_i hF
      refine .sl _ n cap raws cells hn hm hr.len hr.one (fun j u hj => ?_) fun j u c hu hc => (hr.rep j u c hu hc).mono pm
      obtain ⟨y, rfl, hρ, hu⟩ := hc j u hj
      exact ⟨y, rfl, notBad_of_fam hA hρ hF, hu⟩
    · rename_i hF
      refine ⟨a, cap, raws, rfl, hn, hm, fun j u hj => ?_, hr.mono pm⟩
      obtain ⟨y, rfl, hρ, hu⟩ := hc j u hj
      exact ⟨y, rfl, drop_ne hρ hF, hu⟩
  | ep k cells pos =>
    cases k with
    | none =>
      obtain ⟨y, raws, hv, hc, hr⟩ := h
      exact ⟨y, raws, hv, fun j u hj => ⟨Bad_drop (hc j u hj).1, (hc j u hj).2⟩, hr.mono pm⟩
    | some f =>
      obtain ⟨y, raws, hv, hc, hr⟩ := h
      simp only [AC.retire]
      split
      · rename_i hF
        exact ⟨y, raws, hv, fun j u hj => ⟨notBad_of_fam hA (hc j u hj).1 hF, (hc j u hj).2⟩, hr.mono pm⟩
      · rename_i hF
        exact ⟨y, raws, hv, fun j u hj => ⟨drop_ne (hc j u hj).1 hF, (hc j u hj).2⟩, hr.mono pm⟩
  | epo f cells pos =>
    obtain ⟨g, cur, e, fr, hv, hρ, hg, hfr, hlen, hr⟩ := h
    simp only [AC.retire]
    split
    · rename_i hF
      refine ⟨⟨g, 0, none⟩, cur.toList.take cells.length, hv, fun j u hj => ⟨notBad_of_fam hA hρ hF, row_cell hg hj⟩, hr.mono pm⟩
    · rename_i hF
      exact ⟨g, cur, e, fr, hv, drop_ne hρ hF, hg, hfr, hlen, hr.mono pm⟩
  | ptr b off => exact h
  | fn g caps =>
    obtain ⟨vs, hv, hl, h1, h2⟩ := h
    exact ⟨vs, hv, hl, h1, fun j u c hu hc => CRep.mono pm (h2 j u c hu hc)⟩
  | yield l => exact h
  | ghost l xs k live => trivial
  | mown f ks vs =>
    obtain ⟨g, raws, hv, hρ, hm, hl, ho, hr⟩ := h
    have hr' : ∀ (j : Nat) (u : Value) (x : MV), raws[j]? = some u → (vs.map (·.retire F))[j]? = some x → MVRep w (ρ.drop F) β u x := fun j u y hu hy => by
      rw [List.getElem?_map] at hy
      cases hj : vs[j]? with
      | none => simp [hj] at hy
      | some x => simp [hj] at hy; subst hy; exact retire_mv hA F u x (hr j u x hu hj)
    simp only [AC.retire]
    split
    · rename_i hF
      split
      · rename_i cs hcs
        subst hv
        have hc := mvCVs_get hcs
        exact .mp g raws ks cs (notBad_of_fam hA hρ hF) hm (by rw [hl]; simpa using hc.1) ho fun j u c hu hj => hr' j u (.v c) hu (hc.2 j c hj)
      · trivial
    · rename_i hF
      exact ⟨g, raws, hv, drop_ne hρ hF, hm, by simpa using hl, ho, hr'⟩
  | bad => trivial

theorem retire_av {w : World} {prot : Nat → Prop} {ρ β : Fam} (hA : Apart w prot ρ β) (F : Nat → Bool) {v : Value} {x : AV} (h : AVRep w ρ β v x) :
    AVRep w (ρ.drop F) β v (x.retire F) :=
  AVRep.lift (AC.retire F) (AV.retire F) (fun _ => rfl) (fun _ => rfl) (fun xs => by simp [AV.retire, retire_go_map]) rfl (retire_ac hA F) h

theorem MVRep.same {w : World} {ρ β β' : Fam} (pm : Hx w (Bad ρ β) w (Bad ρ β')) {ρ' : Fam} (e : ρ' = ρ) {u : Value} {x : MV} (h : MVRep w ρ β u x) : MVRep w ρ' β' u x := by
  subst e
  cases x with
  | v x => exact CRep.mono pm h
  | inner f ks vs => obtain ⟨g, raws, h1, h2, h3, h4⟩ := h; exact ⟨g, raws, h1, h2, h3, h4.mono pm⟩
  | bad => trivial
/-- A box is given up. -/
theorem unbox_ac {w : World} {ρ β : Fam} (i : Nat) (v : Value) (x : AC) (h : ACRep w ρ β v x) : ACRep w ρ (β.drop (· == 2 * i)) v (x.unbox i) := by
  have hb : ∀ b, ¬ Bad ρ β b → ¬ Bad ρ (β.drop (· == 2 * i)) b := by
    rintro b h (⟨f, hf⟩ | ⟨k, hk⟩)
    · exact h (.inl ⟨f, hf⟩)
    · exact h (.inr ⟨k, by revert hk; unfold Fam.drop; split <;> simp⟩)
  have pm : Hx w (Bad ρ β) w (Bad ρ (β.drop (· == 2 * i))) := Hx.same hb
  cases x with
  | p x => exact CRep.mono pm h
  | z => exact h
  | own f sz n cells => obtain ⟨raws, h1, hr⟩ := h; exact ⟨raws, h1, hr.mono pm⟩
  | view f n cells => obtain ⟨a, cap, raws, h1, h2, h3, h4, hr⟩ := h; exact ⟨a, cap, raws, h1, h2, h3, h4, hr.mono pm⟩
  | tl f sz n cells => obtain ⟨raws, h1, hr⟩ := h; exact ⟨raws, h1, hr.mono pm⟩
  | ep k cells pos =>
    cases k with
    | none => obtain ⟨y, raws, h1, h2, hr⟩ := h; exact ⟨y, raws, h1, fun j u hj => ⟨hb _ (h2 j u hj).1, (h2 j u hj).2⟩, hr.mono pm⟩
    | some f => obtain ⟨y, raws, h1, h2, hr⟩ := h; exact ⟨y, raws, h1, h2, hr.mono pm⟩
  | epo f cells pos => obtain ⟨g, cur, e, fr, h1, h2, h3, h4, h5, hr⟩ := h; exact ⟨g, cur, e, fr, h1, h2, h3, h4, h5, hr.mono pm⟩
  | ptr b off =>
    obtain ⟨g, hg, hv⟩ := h
    simp only [AC.unbox]
    split
    · trivial
    · rename_i hne; exact ⟨g, by simp only [Fam.drop]; rw [if_neg (by simp; omega)]; exact hg, hv⟩
  | fn g caps =>
    obtain ⟨vs, hv, hl, h1, h2⟩ := h
    simp only [AC.unbox]
    split
    · trivial
    · rename_i hne
      refine ⟨vs, hv, hl, fun j u b hu hcb => ?_, fun j u c hu hc => CRep.mono pm (h2 j u c hu hc)⟩
      obtain ⟨q, hq, e⟩ := h1 j u b hu hcb
      have hbi : b ≠ i := by
        rintro rfl
        apply hne
        rw [List.any_eq_true]
        exact ⟨.inl b, List.mem_of_getElem? hcb, by simp⟩
      exact ⟨q, by simp only [Fam.drop]; rw [if_neg (by simp; omega)]; exact hq, e⟩
  | yield l => exact h
  | ghost l xs k live => trivial
  | mown f ks vs => obtain ⟨g, raws, h1, h2, h3, h4, h5, h6⟩ := h; exact ⟨g, raws, h1, h2, h3, h4, h5, fun j u x hu hx => MVRep.same pm rfl (h6 j u x hu hx)⟩
  | bad => trivial

theorem unbox_av {w : World} {ρ β : Fam} (i : Nat) {v : Value} {x : AV} (h : AVRep w ρ β v x) : AVRep w ρ (β.drop (· == 2 * i)) v (x.unbox i) :=
  AVRep.lift (AC.unbox i) (AV.unbox i) (fun _ => rfl) (fun _ => rfl) (fun xs => by simp [AV.unbox, unbox_go_map]) rfl (unbox_ac i) h

end Go.Fw
end
section
set_option linter.all false
namespace Go.Fw
/-- What the package-level variables hold that the proofs look at. -/
class Globals where
  G : Nat → Option (List CV)
variable [Globals]
/-- The slot of an iterator's account. -/
def gslot : Nat := 1000000007
open Go.RowKit (Below)

structure St where
  env : Nat → AV
  box : Nat → Option (List AC)

def St.put (st : St) (d : Option Nat) (x : AV) : St :=
  match d with
  | some d => { st with env := fun s => if s = d then x else st.env s }
  | none => st

def constAC : Value → AC
  | .slice none 0 0 => .z
  | v => .p (.c v)

def constAV : Value → AV
  | .slice none 0 0 => .cell .z
  | .slice _ _ _ => .bad
  | .agg cs => if cs.toList.all (·.oneCell') then .agg (cs.toList.map constAC) else .bad
  | .tuple _ => .bad
  | v => .cell (.p (.c v))

def evAV (env : Nat → AV) : Operand → AV
  | .tmp t => env t
  | .const v => constAV v
  | .global g => match Globals.G g with
    | some cs => .cell (.ep none cs 0)
    | none => .bad
  | .func f => .cell (.p (.c (.func (.func f) #[] #[])))

abbrev St.ev (st : St) : Operand → AV := evAV st.env

/-- What a proof about one call is relative to: the blocks that may not be written, blocks that no pure value may lead to, the world in which the call began, the number of slots. -/
structure Cx where
  prot : Nat → Prop
  bad0 : Nat → Prop
  w0 : World
  N : Nat
  perm : Nat → Prop
  marks : List Nat
  loop : Option Nat
  out : Nat → Prop
  pin : Nat → Option Nat
  seq : Nat → List (List EV) → Nat → Bool → (Nat → Prop) → (Nat → Prop) → World → Prop

/-- The calls of an outermost range over a function that a function's end comes to. -/
def markOf (D : Nat) : Deferred := { target := .collected D, args := #[] }

/-- What holds beside: the marks of ranges over functions, the loop in whose round the frame is, an iterator's account. -/
structure JExt (C : Cx) (st : St) (a : Act) : Prop where
  small : C.N ≤ gslot
  defers : a.defers = C.marks.map markOf
  nodup : C.marks.Nodup
  marks : ∀ D, D ∈ C.marks → C.prot D ∧ ¬ C.bad0 D ∧ C.w0.heap[D]? = some (.deferred (some []))
  perm : ∀ b, C.perm b → C.prot b ∧ ¬ C.out b
  outb : ∀ b, C.out b → C.bad0 b
  loop : ∀ l, C.loop = some l → C.prot l ∧ ¬ C.bad0 l ∧ ∃ r, C.w0.heap[l]? = some (.loop r)
  seq : ∀ l xs k live, st.env gslot = .cell (.ghost l xs k live) → C.seq l xs k live (fun b => b < C.w0.heap.size ∧ (¬ C.prot b ∨ b ∈ C.marks)) C.out C.w0

theorem JExt.of {C : Cx} {st st' : St} {a a' : Act} (h : JExt C st a) (hd : a'.defers = a.defers) (he : ∀ l xs k v, st'.env gslot = .cell (.ghost l xs k v) → st.env gslot = .cell (.ghost l xs k v)) : JExt C st' a' :=
  ⟨h.small, hd.trans h.defers, h.nodup, h.marks, h.perm, h.outb, h.loop, fun l xs k v e => h.seq l xs k v (he l xs k v e)⟩

def BoxRep (w : World) (ρ β : Fam) (prot : Nat → Prop) (i : Nat) (xs : List AC) : Prop :=
  ∃ g raws e, β (2 * i) = some g ∧ ¬ prot g ∧ w.heap[g]? = some (.cells raws e (0, 0)) ∧ raws.size = xs.length ∧ (∀ u ∈ raws.toList, u.oneCell' = true) ∧
    ∀ (j : Nat) (u : Value) (x : AC), raws[j]? = some u → xs[j]? = some x → ACRep w ρ β u x

/-- What holds of an abstract state, a frame and a world. -/
structure J (C : Cx) (st : St) (a : Act) (w : World) (ρ β : Fam) : Prop where
  size : a.tmps.size = C.N
  ext : JExt C st a
  os : w.os = C.w0.os
  tape : w.tape = C.w0.tape
  output : w.output = C.w0.output
  grown : C.w0.heap.size ≤ w.heap.size
  kept : ∀ b, C.prot b → w.heap[b]? = C.w0.heap[b]?
  protlt : ∀ b, C.prot b → b < C.w0.heap.size
  phan : ∀ b, C.bad0 b → β (2 * b + 1) = some b
  apart : Apart w C.prot ρ β
  env : ∀ s, AVRep w ρ β (a.tmps.getD s undef) (st.env s)
  box : ∀ i xs, st.box i = some xs → BoxRep w ρ β C.prot i xs
  glob : ∀ g cs, Globals.G g = some cs → AVRep w ρ β (.pointer (some ⟨g, 0, none⟩)) (.cell (.ep none cs 0))
  pin : ∀ i q, C.pin i = some q → β (2 * i) = some q

structure NewFam (w : World) (ρ : Fam) (w' : World) (ρ' : Fam) (id : Nat) : Prop where
  old : ∀ f b, ρ f = some b → ρ' f = some b
  new : ∀ f b, ρ' f = some b → ρ f = some b ∨ (id ≤ f ∧ f < id + 64 ∧ w.heap.size ≤ b ∧ b < w'.heap.size)
  inj : ∀ f f' b, ρ' f = some b → ρ' f' = some b → f = f'

theorem lt_of_cell {w : World} {x : Addr} {u : Value} (h : w.cell? x = some u) : x.block < w.heap.size := World.block_lt_of_cell? w x h

theorem ext_of_grow {prot : Nat → Prop} {w w' : World} {ρ β ρ' : Fam} {id : Nat} (hA : Apart w prot ρ β) (hb : Below w.heap.size w w') (hn : NewFam w ρ w' ρ' id) : Ext w ρ β w' ρ' β := by
  refine ⟨Hx.blocks fun b hlt hx => ⟨?_, hb.block _ hlt⟩, fun f b _ hf => ⟨hn.old f b hf, hb.block b (hA.fam f b hf).2⟩, fun i b h => h⟩
  rintro (⟨f, hf⟩ | ⟨i, hi⟩)
  · rcases hn.new f _ hf with h | ⟨_, _, h, _⟩
    · exact hx (.inl ⟨f, h⟩)
    · omega
  · exact hx (.inr ⟨i, hi⟩)

theorem J.grow {C : Cx} {st : St} {a : Act} {w w' : World} {ρ β ρ' : Fam} {id : Nat} (h : J C st a w ρ β)
    (hb : Below w.heap.size w w') (hn : NewFam w ρ w' ρ' id) : J C st a w' ρ' β := by
  have E := ext_of_grow h.apart hb hn
  refine ⟨h.size, h.ext, hb.os.trans h.os, hb.tape.trans h.tape, hb.output.trans h.output, Nat.le_trans h.grown hb.size, fun b hp => ?_, h.protlt, h.phan, ⟨?_, ?_, hn.inj, h.apart.injB, ?_, h.apart.boxp⟩, fun s => E.av (h.env s), fun i xs hx => ?_, fun g cs hg => E.av (h.glob g cs hg), h.pin⟩
  · rw [hb.block b (Nat.lt_of_lt_of_le (h.protlt b hp) h.grown)]; exact h.kept b hp
  · intro f b hf
    rcases hn.new f b hf with h1 | ⟨_, _, h1, h2⟩
    · exact ⟨(h.apart.fam f b h1).1, Nat.lt_of_lt_of_le (h.apart.fam f b h1).2 hb.size⟩
    · exact ⟨fun hp => by have := h.protlt b hp; have := h.grown; omega, h2⟩
  · intro i b hi; exact Nat.lt_of_lt_of_le (h.apart.box i b hi) hb.size
  · intro f i b hf hi
    rcases hn.new f b hf with h1 | ⟨_, _, h1, _⟩
    · exact h.apart.sep f i b h1 hi
    · have := h.apart.box i b hi; omega
  · obtain ⟨g, raws, e, h1, hp, h2, h3, h4, h5⟩ := h.box i xs hx
    exact ⟨g, raws, e, h1, hp, by rw [hb.block g (h.apart.box _ g h1)]; exact h2, h3, h4, fun j u x hu hx => E.ac (h5 j u x hu hx)⟩

theorem getD_set (t : Array Value) (d s : Nat) (v : Value) (hd : d < t.size) : (t.setIfInBounds d v).getD s undef = if s = d then v else t.getD s undef := by
  simp only [Array.getD_eq_getD_getElem?, Array.getElem?_setIfInBounds]
  by_cases h : d = s
  · subst h; simp [hd]
  · rw [if_neg h, if_neg (fun e => h e.symm)]

def dstOk (N : Nat) (d : Option Nat) : Prop := ∀ k, d = some k → k < N

theorem J.put {C : Cx} {st : St} {a : Act} {w : World} {ρ β : Fam} (h : J C st a w ρ β) {d : Option Nat} (hd : dstOk C.N d) {v : Value} {x : AV}
    (hv : AVRep w ρ β v x) : J C (st.put d x) (a.put d v) w ρ β := by
  cases d with
  | none => exact h
  | some d =>
    refine ⟨by simp [Act.put, h.size], h.ext.of rfl (fun l xs k v e => by
      have hne : ¬ gslot = d := by have := hd d rfl; have := h.ext.small; omega
      simpa [St.put, hne] using e), h.os, h.tape, h.output, h.grown, h.kept, h.protlt, h.phan, h.apart, fun s => ?_, h.box, h.glob, h.pin⟩
    simp only [Act.put, St.put]
    rw [getD_set _ _ _ _ (by rw [h.size]; exact hd d rfl)]
    split
    · exact hv
    · exact h.env s

theorem constAC_rep (w : World) (ρ β : Fam) (v : Value) : ACRep w ρ β v (constAC v) := by
  unfold constAC
  split
  · exact ⟨none, rfl⟩
  · exact .c v

theorem constAV_rep (w : World) (ρ β : Fam) (v : Value) : AVRep w ρ β v (constAV v) := by
  unfold constAV
  split
  · exact .cell _ _ ⟨none, rfl⟩
  · exact .bad _
  · rename_i cs
    split
    · rename_i h1
      refine .agg cs _ (by simp) (fun u hu => by rw [List.all_eq_true] at h1; exact h1 u hu) (fun j u x hu hx => ?_)
      rw [List.getElem?_map] at hx
      have : cs.toList[j]? = some u := by simpa using hu
      rw [this] at hx
      simp at hx
      subst hx
      exact constAC_rep w ρ β u
    · exact .bad _
  · exact .bad _
  · exact .cell _ _ (.c _)

theorem J.ev {C : Cx} {st : St} {a : Act} {w : World} {ρ β : Fam} (h : J C st a w ρ β) (x : Operand) : AVRep w ρ β (a.eval x) (st.ev x) := by
  cases x with
  | tmp t => exact h.env t
  | const v => exact constAV_rep w ρ β v
  | global g =>
    show AVRep w ρ β (.pointer (some ⟨g, 0, none⟩)) (evAV st.env (.global g))
    simp only [evAV]
    split
    · rename_i cs hg; exact h.glob g cs hg
    · exact .bad _
  | func f => exact .cell _ _ (.c _)

/-! Inversion. -/
theorem rep_c {w : World} {ρ β : Fam} {v u : Value} (h : AVRep w ρ β v (.cell (.p (.c u)))) : v = u := by
  cases h with
  | cell v x h => cases h; rfl

theorem rep_cell {w : World} {ρ β : Fam} {v : Value} {x : AC} (h : AVRep w ρ β v (.cell x)) : ACRep w ρ β v x := by
  cases h with
  | cell v x h => exact h

theorem rep_agg {w : World} {ρ β : Fam} {v : Value} {xs : List AC} (h : AVRep w ρ β v (.agg xs)) : ∃ cs : Array Value, v = .agg cs ∧ cs.size = xs.length ∧ (∀ u ∈ cs.toList, u.oneCell' = true) ∧
    ∀ (j : Nat) (u : Value) (x : AC), cs[j]? = some u → xs[j]? = some x → ACRep w ρ β u x := by
  cases h with
  | agg cs xs hl ho h => exact ⟨cs, rfl, hl, ho, h⟩

theorem rep_tup {w : World} {ρ β : Fam} {v : Value} {xs : List AV} (h : AVRep w ρ β v (.tup xs)) : ∃ vs : Array Value, v = .tuple vs ∧ vs.size = xs.length ∧
    ∀ (j : Nat) (u : Value) (x : AV), vs[j]? = some u → xs[j]? = some x → AVRep w ρ β u x := by
  cases h with
  | tup vs xs hl h => exact ⟨vs, rfl, hl, h⟩

/-! Numbers, bools, strings. -/
abbrev iV (k : IntKind) (n : Int) : AV := .cell (.p (.c (.int k n)))
abbrev bV (b : Bool) : AV := .cell (.p (.c (.bool b)))
abbrev sV (s : ByteArray) : AV := .cell (.p (.c (.string s)))

def shlI (k : IntKind) (a b : Int) : Int := k.wrap (a * 2 ^ (min b.toNat k.bits))
def shrI (k : IntKind) (a b : Int) : Int := a.fdiv (2 ^ (min b.toNat k.bits))
/-- Comparisons, that simp does not look into. -/
def eqI (a b : Int) : Bool := a == b
def ltI (a b : Int) : Bool := decide (a < b)
def andB (a b : Bool) : Bool := a && b
def orB (a b : Bool) : Bool := a || b
def eqS (a b : ByteArray) : Bool := a.toList == b.toList
def intBin (op : BinOp) (k : IntKind) (a b : Int) : Option Value :=
  match op with
  | .add => some (.int k (k.wrap (a + b)))
  | .sub => some (.int k (k.wrap (a - b)))
  | .mul => some (.int k (k.wrap (a * b)))
  | .quo => if b = 0 then none else some (.int k (k.wrap (a.tdiv b)))
  | .rem => if b = 0 then none else some (.int k (a.tmod b))
  | .and => some (.int k (bits .and k a b))
  | .or => some (.int k (bits .or k a b))
  | .xor => some (.int k (bits .xor k a b))
  | .andNot => some (.int k (bits .andNot k a b))
  | .eql => some (.bool (eqI a b))
  | .neq => some (.bool (!eqI a b))
  | .lss => some (.bool (ltI a b))
  | .leq => some (.bool (!ltI b a))
  | .gtr => some (.bool (ltI b a))
  | .geq => some (.bool (!ltI a b))
  | _ => none

def strBin (op : BinOp) (x y : ByteArray) : Option Value :=
  match op with
  | .add => if ((x.size + y.size : Nat) : Int) > IntKind.i64.max then none else some (.string (x ++ y))
  | .eql => some (.bool (eqS x y))
  | .neq => some (.bool (!eqS x y))
  | .lss => some (.bool (Op.bytesLess x.toList y.toList))
  | _ => none

def valBin (P : Program) (op : BinOp) (t : TypeId) (x y : Value) : Option Value :=
  match x, y with
  | .int k a, .int k' b =>
    match op with
    | .shl => if b < 0 then none else some (.int k (shlI k a b))
    | .shr => if b < 0 then none else some (.int k (shrI k a b))
    | op => if k = k' then intBin op k a b else none
  | .string a, .string b => strBin op a b
  | .bool a, .bool b =>
    match op, P.underlying t with
    | .eql, some .bool => some (.bool (a == b))
    | .neq, some .bool => some (.bool (!(a == b)))
    | _, _ => none
  | _, _ => none

theorem valBin_run {P : Program} {op : BinOp} {t : TypeId} {x y : Value} {v : Value} (h : valBin P op t x y = some v) (w : World) (ox oy : Operand) :
    (do Go.eqGuard op t ox oy x y; Go.binOp op t x y : Sem Value).run P w = .ok v w := by
  unfold valBin at h
  split at h
  · rename_i k a k' b
    have hg : ∀ op, (Go.eqGuard op t ox oy (.int k a) (.int k' b)).run P w = .ok () w := by
      intro op; cases op <;> simp [Go.eqGuard]
    split at h
    · split at h
      · cases h
      · rename_i hb; cases h; simp [hg, Go.binOp, Op.shift, hb, shlI, shrI]
    · split at h
      · cases h
      · rename_i hb; cases h; simp [hg, Go.binOp, Op.shift, hb, shlI, shrI]
    · split at h
      · rename_i hk
        subst hk
        simp only [Sem.run_bind, hg, Result.andThen_ok]
        cases op <;> simp [intBin] at h <;> (try subst h) <;> (try simp [Go.binOp, Op.intArith, Op.intBits, Op.intCmp, bits, eqI, ltI]) <;>
          first
          | (obtain ⟨h0, rfl⟩ := h; simp [Op.intDiv, h0]; done)
          | (rw [← decide_not]; congr 1; exact propext ⟨fun h => by omega, fun h => by omega⟩)
          | rfl
      · cases h
  · rename_i a b
    have hg : ∀ op, (Go.eqGuard op t ox oy (.string a) (.string b)).run P w = .ok () w := by
      intro op; cases op <;> simp [Go.eqGuard]
    simp only [Sem.run_bind, hg, Result.andThen_ok]
    cases op <;> simp [strBin] at h <;> (try subst h) <;> (try simp [Go.binOp, Op.stringOp, eqS])
    obtain ⟨h0, rfl⟩ := h
    simp; omega
  · rename_i a b
    have hg : ∀ op, (Go.eqGuard op t ox oy (.bool a) (.bool b)).run P w = .ok () w := by
      intro op; cases op <;> simp [Go.eqGuard]
    split at h
    · rename_i hu; cases h; simp only [Sem.run_bind, hg, Result.andThen_ok]; exact run_eql_bool w t a b hu
    · rename_i hu; cases h; simp only [Sem.run_bind, hg, Result.andThen_ok]; exact run_neq_bool w t a b hu
    · cases h
  · cases h

def valUn (op : UnOp) (x : Value) : Option Value :=
  match op, x with
  | .neg, .int k n => some (.int k (k.wrap (0 - n)))
  | .xor, .int k n => some (.int k (bits .xor k (if k.signed then -1 else k.max) n))
  | .not, .bool b => some (.bool !b)
  | _, _ => none

theorem valUn_run {P : Program} {op : UnOp} {x : Value} {v : Value} (h : valUn op x = some v) (w : World) : (Op.unary op x).run P w = .ok v w := by
  unfold valUn at h
  split at h <;> first | cases h | skip
  all_goals simp [Op.unary, Op.intArith, Op.intBits, bits]

end Go.Fw
end
section
set_option linter.all false
namespace Go.Fw
variable [Globals]
open Go.RowKit (Below)

def szOf (P : Program) (t : TypeId) : Option Nat := (P.info? t).map (·.size)
def aggB (P : Program) (t : TypeId) : Option Bool :=
  match P.underlying t with
  | some (.struct _) | some (.array _ _) => some true
  | some _ => some false
  | none => none

/-- What can be read of a slice: its length and its cells. -/
def AC.sl? : AC → Option (Nat × List CV)
  | .p (.sl n cells) => some (n, cells)
  | .z => some (0, [])
  | .own _ _ n cells => some (n, cells)
  | .view _ n cells => some (n, cells)
  | .tl _ _ n cells => some (n, cells)
  | _ => none

def AC.toCV : AC → Option CV
  | .p x => some x
  | .z => some (.sl 0 [])
  | _ => none

def AC.one : AC → Bool
  | .p (.c u) => u.oneCell'
  | .bad => false
  | .ghost _ _ _ _ => false
  | _ => true

def AV.cells? : AV → Option (List AC)
  | .cell x => if x.one then some [x] else none
  | .agg xs => some xs
  | _ => none

def byteCV (b : UInt8) : CV := .c (.int .u8 (b.toNat : Int))
def bytesCV (l : List UInt8) : List CV := l.map byteCV

def cellsBytes : List CV → Option (List UInt8)
  | [] => some []
  | .c (.int .u8 n) :: r => (cellsBytes r).map (UInt8.ofNat n.toNat :: ·)
  | _ => none

def partAC (P : Program) (t : TypeId) (xs : List AC) (off : Nat) : Option AV :=
  match aggB P t, szOf P t with
  | some true, some s => if off + s ≤ xs.length then some (.agg ((xs.drop off).take s)) else none
  | some false, _ => (xs[off]?).map .cell
  | _, _ => none

/-- A constant. -/
def AV.isC : AV → Bool
  | .cell (.p (.c _)) => true
  | _ => false

def qconv (P : Program) (id : Nat) (src dst : TypeId) (x : AV) : Option AV :=
  match P.underlying src, P.underlying dst, x with
  | some _, some (.int k), .cell (.p (.c (.int _ n))) => some (iV k (k.wrap n))
  | some _, some .string, .cell (.p (.c (.string s))) => some (sV s)
  | some .string, some (.slice e), .cell (.p (.c (.string s))) =>
    match P.underlying e with
    | some (.int .u8) => if s.size ≤ 4611686018427387904 then some (.cell (.own id 1 s.size (bytesCV s.data.toList))) else none
    | _ => none
  | some (.slice e), some .string, .cell x =>
    match P.underlying e, x.sl? with
    | some (.int .u8), some (n, cells) => if cells.length = n then (cellsBytes cells).map fun l => sV ⟨l.toArray⟩ else none
    | _, _ => none
  | _, _, _ => none

def qload (P : Program) (t : TypeId) (x : AV) (bx : Nat → Option (List AC)) : Option AV :=
  match x with
  | .cell (.ptr b off) => (bx b).bind fun xs => partAC P t xs off
  | .cell (.ep _ cells pos) => partAC P t (cells.map .p) pos
  | .cell (.epo _ cells pos) => partAC P t (cells.map .p) pos
  | _ => none

def qfieldAddr (P : Program) (s : TypeId) (x : AV) (f : Nat) : Option AV :=
  match P.underlying s with
  | some (.struct fields) =>
    match fields[f]? with
    | some fd =>
      match szOf P fd.type with
      | some (_ + 1) =>
        match x with
        | .cell (.ptr b off) => some (.cell (.ptr b (off + fd.offset)))
        | .cell (.ep k cells pos) => some (.cell (.ep k cells (pos + fd.offset)))
        | .cell (.epo g cells pos) => some (.cell (.epo g cells (pos + fd.offset)))
        | _ => none
      | _ => none
    | none => none
  | _ => none

def qfield (P : Program) (s : TypeId) (x : AV) (f : Nat) : Option AV :=
  match P.underlying s, x with
  | some (.struct fields), .agg xs => (fields[f]?).bind fun fd => partAC P fd.type xs fd.offset
  | _, _ => none

def qindexAddr (P : Program) (t : TypeId) (x i : AV) : Option AV :=
  match i with
  | .cell (.p (.c (.int _ n))) =>
    match P.underlying t with
    | some (.slice e) =>
      match szOf P e, x with
      | some s, .cell (.p (.sl m cells)) => if (0 ≤ n ∧ n < m) ∧ n.toNat * s < cells.length then some (.cell (.ep none cells (n.toNat * s))) else none
      | some s, .cell (.own f _ m cells) => if 0 ≤ n ∧ n < m then some (.cell (.epo f cells (n.toNat * s))) else none
      | some s, .cell (.view f m cells) => if (0 ≤ n ∧ n < m) ∧ n.toNat * s < cells.length then some (.cell (.ep (some f) cells (n.toNat * s))) else none
      | some s, .cell (.tl f _ m cells) => if (0 ≤ n ∧ n < m) ∧ n.toNat * s < cells.length then some (.cell (.ep (some f) cells (n.toNat * s))) else none
      | _, _ => none
    | some (.array len e) =>
      match szOf P e, x with
      | some s, .cell (.ptr b off) => if 0 ≤ n ∧ n < len then some (.cell (.ptr b (off + n.toNat * s))) else none
      | some s, .cell (.ep k cells pos) => if 0 ≤ n ∧ n < len then some (.cell (.ep k cells (pos + n.toNat * s))) else none
      | some s, .cell (.epo f cells pos) => if 0 ≤ n ∧ n < len then some (.cell (.epo f cells (pos + n.toNat * s))) else none
      | _, _ => none
    | _ => none
  | _ => none

def qindex (P : Program) (t : TypeId) (x i : AV) : Option AV :=
  match i with
  | .cell (.p (.c (.int _ n))) =>
    match P.underlying t, x with
    | some (.array len e), .agg xs => if 0 ≤ n ∧ n < len then (szOf P e).bind fun s => partAC P e xs (n.toNat * s) else none
    | some .string, .cell (.p (.c (.string s))) => if 0 ≤ n then (s[n.toNat]?).map fun b => iV .u8 (b.toNat : Int) else none
    | _, _ => none
  | _ => none

/-- A bound of a slice expression: what it is where it is left out. -/
def bound (x : Option AV) (d : Nat) : Option Int :=
  match x with
  | none => some d
  | some (.cell (.p (.c (.int _ n)))) => some n
  | _ => none

def qslice (P : Program) (t : TypeId) (x : AV) (lo hi mx : Option AV) : Option AV :=
  match P.underlying t, x with
  | some .string, .cell (.p (.c (.string s))) =>
    match bound lo 0, bound hi s.size, mx with
    | some l, some h, none => if 0 ≤ l ∧ l ≤ h ∧ h ≤ s.size then some (sV (s.extract l.toNat h.toNat)) else none
    | _, _, _ => none
  | some (.slice e), .cell x =>
    match x.sl?, szOf P e with
    | some (n, cells), some s =>
      match bound lo 0, bound hi n, mx with
      | some l, some h, none =>
        if 0 ≤ l ∧ l ≤ h ∧ h ≤ n then
          match x with
          | .p _ => some (.cell (.p (.sl (h - l).toNat ((cells.drop (l.toNat * s)).take ((h - l).toNat * s)))))
          | .z => some (.cell .z)
          | .own f sz _ _ => if l = 0 then (if sz = s then some (.cell (.own f sz h.toNat (cells.take (h.toNat * s)))) else none)
              else if sz = s ∧ hi.isNone = true then some (.cell (.tl f sz (n - l.toNat) (cells.drop (l.toNat * s))))
              else some (.cell (.view f (h - l).toNat ((cells.drop (l.toNat * s)).take ((h - l).toNat * s))))
          | .view f _ _ => some (.cell (.view f (h - l).toNat ((cells.drop (l.toNat * s)).take ((h - l).toNat * s))))
          | .tl f sz _ _ => if sz = s ∧ hi.isNone = true then some (.cell (.tl f sz (n - l.toNat) (cells.drop (l.toNat * s)))) else none
          | _ => none
        else none
      | some l, some h, some m =>
        match hi, m with
        | some _, .cell (.p (.c (.int _ m))) => if l = 0 ∧ h = 0 ∧ m = 0 then some (.cell .z) else none
        | _, _ => none
      | _, _, _ => none
    | _, _ => none
  | _, _ => none

/-- The parts of a composite, laid into its cells. -/
def setRun {α : Type} (cells : List α) (off : Nat) : List α → List α
  | [] => cells
  | x :: xs => setRun (cells.set off x) (off + 1) xs

def fillA (place : Nat → Option (Nat × Nat)) (cells : List AC) : List (Nat × List AC) → Option (List AC)
  | [] => some cells
  | (i, v) :: rest =>
    match place i with
    | none => none
    | some (off, size) => if v.length ≠ size ∨ off + v.length > cells.length then none else fillA place (setRun cells off v) rest

def partsA (ev : Operand → AV) : List (Nat × Operand) → Option (List (Nat × List AC))
  | [] => some []
  | (i, x) :: r => match (ev x).cells?, partsA ev r with
    | some cs, some l => some ((i, cs) :: l)
    | _, _ => none

def toCVs : List AC → Option (List CV)
  | [] => some []
  | x :: r => match x.toCV, toCVs r with
    | some c, some l => some (c :: l)
    | _, _ => none

/-- Places of a struct's fields. -/
def placesA (P : Program) : List Field → Option (List (Nat × Nat))
  | [] => some []
  | fd :: r => match szOf P fd.type, placesA P r with
    | some s, some l => some ((fd.offset, s) :: l)
    | _, _ => none

def zeroA (P : Program) (t : TypeId) : Option (List AC) :=
  match P.info? t with
  | some i => match i.zero with
    | some z => if z.cells.toList.all (·.oneCell') then some (z.cells.toList.map constAC) else none
    | none => none
  | none => none

def qbuild (P : Program) (t : TypeId) (parts : List (Nat × Operand)) (ev : Operand → AV) : Option AV :=
  match P.underlying t, zeroA P t, partsA ev parts with
  | some (.struct fields), some zero, some ps => (placesA P fields.toList).bind fun pl => (fillA (fun i => pl[i]?) zero ps).map .agg
  | some (.array _ e), some zero, some ps => (szOf P e).bind fun s => (fillA (fun i => some (i * s, s)) zero ps).map .agg
  | _, _, _ => none

/-- n copies of the zero cells. -/
def repA (n : Nat) (zero : List AC) : List AC := match n with | 0 => [] | n + 1 => zero ++ repA n zero

def qbuildSlice (P : Program) (id : Nat) (t : TypeId) (len : Nat) (parts : List (Nat × Operand)) (ev : Operand → AV) : Option AV :=
  match P.underlying t with
  | some (.slice e) =>
    match szOf P e, zeroA P e, partsA ev parts with
    | some s, some zero, some ps =>
      if len * s ≤ 16777216 ∧ zero.length = s ∧ 0 < s then
        if len = 0 then (if ps.isEmpty then some (.cell .z) else none) else
        match fillA (fun i => some (i * s, s)) (repA len zero) ps with
        | some cells => (toCVs cells).map fun cs => .cell (.own id s len cs)
        | none => none
      else none
    | _, _, _ => none
  | _ => none

def qbuiltin (P : Program) (b : Builtin) (argTypes : List TypeId) (args : List AV) : Option AV :=
  match b, argTypes, args with
  | .len, t :: _, [x] =>
    match P.underlying t, x with
    | some .string, .cell (.p (.c (.string s))) => some (iV .i64 (s.size : Int))
    | some (.array n _), _ => some (iV .i64 (n : Int))
    | some (.slice _), .cell x => x.sl?.map fun (n, _) => iV .i64 (n : Int)
    | _, _ => none
  | .max, _, [.cell (.p (.c (.int k x))), .cell (.p (.c (.int _ y)))] => some (iV k (if y > x then y else x))
  | .min, _, [.cell (.p (.c (.int k x))), .cell (.p (.c (.int _ y)))] => some (iV k (if y < x then y else x))
  | _, _, _ => none

/-- Where a key stands. -/
def mfind : List Int → Int → Option Nat
  | [], _ => none
  | k :: ks, n => if k = n then some 0 else (mfind ks n).map (· + 1)
def mget {α : Type} (ks : List Int) (vs : List α) (n : Int) : Option α := (mfind ks n).bind (vs[·]?)
def mputK (ks : List Int) (n : Int) : List Int := if (mfind ks n).isSome then ks else ks ++ [n]
def mputV {α : Type} (ks : List Int) (vs : List α) (n : Int) (x : α) : List α := match mfind ks n with
  | some i => vs.set i x
  | none => vs ++ [x]

/-- The number that stands for a pair. -/
def kP (a b : Int) : Int := -(a * 4294967296 + b) - 1
def posK (ks : List Int) : Bool := ks.all fun k => decide (0 ≤ k)
def negK (ks : List Int) : Bool := ks.all fun k => decide (k < 0)
/-- Whether a type is that of pairs of integers. -/
def pairK (P : Program) (t : TypeId) : Bool :=
  match P.underlying t with
  | some (.array 2 e) => (match P.underlying e with | some (.int .i64) => true | _ => false) && szOf P e == some 1
  | _ => false
def pairIn (a b : Int) : Bool := decide (0 ≤ a) && decide (0 ≤ b) && decide (b < 4294967296)
/-- The number of a key, in a map with these keys. -/
def keyC (P : Program) (kt : TypeId) (ks : List Int) (i : AV) : Option Int :=
  match i with
  | .cell (.p (.c (.int .i64 n))) => match P.underlying kt with
    | some (.int .i64) => if 0 ≤ n then (if posK ks then some n else none) else none
    | _ => none
  | .agg [.p (.c (.int .i64 a)), .p (.c (.int .i64 b))] => if pairK P kt then (if pairIn a b then (if negK ks then some (kP a b) else none) else none) else none
  | _ => none

def zero1 (P : Program) (t : TypeId) : Option AC :=
  match P.info? t with
  | some i => match i.zero with
    | some z => if z.oneCell' then some (constAC z) else none
    | none => none
  | none => none

def MV.av : MV → AV
  | .v c => .cell (.p c)
  | .inner f ks vs => .cell (.mown f ks (vs.map .v))
  | .bad => .bad

def outK (z : AC) (ok : Bool) (r : Option AV) : AV :=
  match r with
  | some y => if ok then .tup [y, .cell (.p (.c (.bool true)))] else y
  | none => if ok then .tup [.cell z, .cell (.p (.c (.bool false)))] else .cell z
def qlookup (P : Program) (t : TypeId) (x i : AV) (ok : Bool) : Option AV :=
  match P.underlying t with
  | some (.map kt e) =>
    match zero1 P e with
    | some z =>
      match x with
      | .cell (.p (.mp ks vs)) => (keyC P kt ks i).map fun n => outK z ok ((mget ks vs n).map fun c => .cell (.p c))
      | .cell (.mown _ ks vs) => (keyC P kt ks i).map fun n => outK z ok ((mget ks vs n).map MV.av)
      | .cell (.p (.c (.map none))) => (keyC P kt [] i).map fun _ => outK z ok none
      | _ => none
    | _ => none
  | _ => none

/-- Whether structs of this type can be compared cell by cell. -/
def eqOk (P : Program) (t : TypeId) : Bool := !P.stoodInHeld t && !P.eqGuardType P.depth t
def eqCells (P : Program) : List Field → List AC → List AC → Option Bool
  | [], _, _ => some true
  | f :: fs, xs, ys =>
    match aggB P f.type, P.underlying f.type, xs[f.offset]?, ys[f.offset]?, eqCells P fs xs ys with
    | some false, some (.int _), some (.p (.c (.int k a))), some (.p (.c (.int k' b))), some r => if f.name ≠ "_" ∧ k = k' then some (a == b && r) else none
    | some false, some .string, some (.p (.c (.string a))), some (.p (.c (.string b))), some r => if f.name ≠ "_" then some (a.toList == b.toList && r) else none
    | _, _, _, _, _ => none
def eqPair (P : Program) (e : TypeId) (xs ys : List AC) : Option Bool :=
  match P.underlying e, szOf P e, xs, ys with
  | some (.int .i64), some 1, [.p (.c (.int .i64 a)), .p (.c (.int .i64 b))], [.p (.c (.int .i64 c)), .p (.c (.int .i64 d))] => some (a == c && b == d)
  | _, _, _, _ => none
def qeq (P : Program) (op : BinOp) (t : TypeId) (xs ys : List AC) : Option AV :=
  match P.underlying t, eqOk P t, op with
  | some (.struct fs), true, .eql => (eqCells P fs.toList xs ys).map bV
  | some (.struct fs), true, .neq => (eqCells P fs.toList xs ys).map fun b => bV !b
  | some (.array 2 e), true, .eql => (eqPair P e xs ys).map bV
  | some (.array 2 e), true, .neq => (eqPair P e xs ys).map fun b => bV !b
  | _, _, _ => none

def qval (P : Program) (id : Nat) (ev : Operand → AV) (bx : Nat → Option (List AC)) (op : Op) : Option AV :=
  match op with
  | .move x => some (ev x)
  | .assign x => some (ev x)
  | .pick c a b => match ev c with
    | .cell (.p (.c (.bool t))) => some (if t then ev a else ev b)
    | _ => none
  | .binOp op t x y _ => match ev x, ev y with
    | .cell (.p (.c u)), .cell (.p (.c v)) => (valBin P op t u v).map fun r => .cell (.p (.c r))
    | .agg xs, .agg ys => qeq P op t xs ys
    | _, _ => none
  | .unOp op _ x => match ev x with
    | .cell (.p (.c u)) => (valUn op u).map fun r => .cell (.p (.c r))
    | _ => none
  | .convert src dst x => qconv P id src dst (ev x)
  | .load t x => qload P t (ev x) bx
  | .nilCheck x => match ev x with
    | .cell (.ptr b o) => some (.cell (.ptr b o))
    | _ => none
  | .fieldAddr s x f => qfieldAddr P s (ev x) f
  | .field s x f => qfield P s (ev x) f
  | .indexAddr t x i => qindexAddr P t (ev x) (ev i)
  | .index t x i => qindex P t (ev x) (ev i)
  | .slice t x lo hi mx => qslice P t (ev x) (lo.map ev) (hi.map ev) (mx.map ev)
  | .lookup t x i ok => qlookup P t (ev x) (ev i) ok
  | .extract t i => match ev t with
    | .tup xs => xs[i]?
    | _ => none
  | .build t parts => qbuild P t parts.toList ev
  | .buildSlice t len parts => qbuildSlice P id t len parts.toList ev
  | .call { callee := .builtin b, args := args, argTypes := ts } => qbuiltin P b ts.toList (args.toList.map ev)
  | _ => none

end Go.Fw
end
section
set_option linter.all false
namespace Go.Fw
variable [Globals]
open Go.RowKit (Below)

/-- The run gives a value that represents out; it writes nothing old. -/
def Runs (P : Program) (s : Sem Value) (w : World) (ρ β : Fam) (id : Nat) (out : AV) : Prop :=
  ∃ v w' ρ', s.run P w = .ok v w' ∧ Below w.heap.size w w' ∧ NewFam w ρ w' ρ' id ∧ AVRep w' ρ' β v out

theorem NewFam.refl {w w' : World} {prot : Nat → Prop} {ρ β : Fam} (h : Apart w prot ρ β) (id : Nat) : NewFam w ρ w' ρ id := ⟨fun _ _ h => h, fun _ _ h => .inl h, h.inj⟩

theorem Runs.same {P : Program} {s : Sem Value} {w : World} {prot : Nat → Prop} {ρ β : Fam} {id : Nat} {out : AV} {v : Value} (hA : Apart w prot ρ β) (h : s.run P w = .ok v w) (hv : AVRep w ρ β v out) :
    Runs P s w ρ β id out := ⟨v, w, ρ, h, Below.refl _ _, NewFam.refl hA id, hv⟩

/-- Values and the cells that they represent, side by side. -/
structure Seg (w : World) (ρ β : Fam) (raws : List Value) (acs : List AC) : Prop where
  len : raws.length = acs.length
  one : ∀ u ∈ raws, u.oneCell' = true
  rep : ∀ (j : Nat) (u : Value) (x : AC), raws[j]? = some u → acs[j]? = some x → ACRep w ρ β u x

theorem Seg.ofC {w : World} {ρ β : Fam} {raws : List Value} {cells : List CV} (h : CReps w (Bad ρ β) raws cells) : Seg w ρ β raws (cells.map .p) := by
  refine ⟨by simpa using h.len, h.one, fun j u x hu hx => ?_⟩
  rw [List.getElem?_map] at hx
  cases hc : cells[j]? with
  | none => simp [hc] at hx
  | some c => simp [hc] at hx; subst hx; exact h.rep j u c hu hc

theorem Seg.agg {w : World} {ρ β : Fam} {raws : List Value} {acs : List AC} (h : Seg w ρ β raws acs) : AVRep w ρ β (.agg raws.toArray) (.agg acs) :=
  .agg _ _ (by simpa using h.len) (by simpa using h.one) fun j u x hu hx => h.rep j u x (by simpa using hu) hx

theorem Seg.sub {w : World} {ρ β : Fam} {raws : List Value} {acs : List AC} (h : Seg w ρ β raws acs) (a n : Nat) : Seg w ρ β ((raws.drop a).take n) ((acs.drop a).take n) := by
  refine ⟨by simp [h.len], fun u hu => h.one u (List.mem_of_mem_drop (List.mem_of_mem_take hu)), fun j u x hu hx => ?_⟩
  rw [List.getElem?_take] at hu hx
  split at hu <;> simp_all
  exact h.rep _ u x hu hx

theorem Seg.get {w : World} {ρ β : Fam} {raws : List Value} {acs : List AC} (h : Seg w ρ β raws acs) {i : Nat} {x : AC} (hx : acs[i]? = some x) : ∃ u, raws[i]? = some u ∧ ACRep w ρ β u x := by
  have hi : i < raws.length := by
    rw [h.len]
    rcases Nat.lt_or_ge i acs.length with h | h
    · exact h
    · simp [List.getElem?_eq_none h] at hx
  exact ⟨raws[i], List.getElem?_eq_getElem hi, h.rep i _ x (List.getElem?_eq_getElem hi) hx⟩

theorem Seg.ofAgg {w : World} {ρ β : Fam} {v : Value} {xs : List AC} (h : AVRep w ρ β v (.agg xs)) : ∃ cs : Array Value, v = .agg cs ∧ Seg w ρ β cs.toList xs := by
  obtain ⟨cs, rfl, hl, ho, hr⟩ := rep_agg h
  exact ⟨cs, rfl, by simpa using hl, ho, fun j u x hu hx => hr j u x (by simpa using hu) hx⟩

theorem szOf_some {P : Program} {t s : Nat} (h : szOf P t = some s) : ∃ i, P.info? t = some i ∧ i.size = s := by
  unfold szOf at h
  cases hi : P.info? t with
  | none => simp [hi] at h
  | some i => simp [hi] at h; exact ⟨i, rfl, h⟩

theorem run_isAgg {P : Program} {t : TypeId} {b : Bool} (h : aggB P t = some b) (w : World) : (isAgg t).run P w = .ok b w := by
  unfold aggB at h
  split at h <;> first | cases h | skip
  · rename_i hu; simp [isAgg, run_underlying hu]
  · rename_i hu; simp [isAgg, run_underlying hu]
  · rename_i d hs ha hu
    simp only [isAgg, Sem.run_bind, run_underlying hu, Result.andThen_ok]
    cases d <;> first | rfl | exact (hs _ rfl).elim | exact (ha _ _ rfl).elim

theorem run_sizeOf {P : Program} {t s : Nat} (h : szOf P t = some s) (w : World) : (sizeOf t).run P w = .ok s w := by
  obtain ⟨i, hi, hs⟩ := szOf_some h
  simp [sizeOf, typeInfo, hi, hs]

theorem part_run {P : Program} {w : World} {ρ β : Fam} {raws : Array Value} {acs : List AC} (hs : Seg w ρ β raws.toList acs) {t : TypeId} {off : Nat} {out : AV} (h : partAC P t acs off = some out) :
    ∃ v, (part t raws off).run P w = .ok v w ∧ AVRep w ρ β v out := by
  unfold partAC at h
  split at h
  · rename_i s h1 h2
    split at h
    · rename_i hle
      cases h
      refine ⟨.agg (raws.extract off (off + s)), by simp [part, run_isAgg h1, run_sizeOf h2], ?_⟩
      have := (hs.sub off s).agg
      have e : ((raws.toList.drop off).take s).toArray = raws.extract off (off + s) := by
        apply Array.ext'; simp [List.extract, Nat.add_sub_cancel_left]
      rwa [e] at this
    · cases h
  · rename_i h1
    cases hx : acs[off]? with
    | none => simp [hx] at h
    | some x =>
      simp [hx] at h
      subst h
      obtain ⟨u, hu, hr⟩ := hs.get hx
      have hu' : raws[off]? = some u := by simpa using hu
      exact ⟨u, by simp [part, run_isAgg h1, hu'], .cell _ _ hr⟩
  · cases h

theorem load_run {P : Program} {w : World} {ρ β : Fam} {a : Addr} {raws : List Value} {acs : List AC} (hs : Seg w ρ β raws acs) (hc : ∀ (j : Nat) (u : Value), raws[j]? = some u → w.cell? (a.add j) = some u)
    {t : TypeId} {off : Nat} {out : AV} (h : partAC P t acs off = some out) : ∃ v, (loadVar t (a.add off)).run P w = .ok v w ∧ AVRep w ρ β v out := by
  have hadd : ∀ j, (a.add off).add j = a.add (off + j) := by
    intro j; unfold Addr.add; split <;> split <;> simp_all <;> omega
  unfold partAC at h
  split at h
  · rename_i s h1 h2
    split at h
    · rename_i hle
      cases h
      have hl : ((raws.drop off).take s).length = s := by simp [hs.len]; omega
      have hrun := run_loadCells_list (P := P) (w := w) (a.add off) ((raws.drop off).take s) (fun j v hj => by
        rw [List.getElem?_take] at hj
        split at hj
        · rw [hadd]; exact hc _ _ (by simpa using hj)
        · cases hj)
      rw [hl] at hrun
      exact ⟨_, by simp [loadVar, run_isAgg h1, run_sizeOf h2, hrun], (hs.sub off s).agg⟩
    · cases h
  · rename_i h1
    cases hx : acs[off]? with
    | none => simp [hx] at h
    | some x =>
      simp [hx] at h
      subst h
      obtain ⟨u, hu, hr⟩ := hs.get hx
      exact ⟨u, by simp [loadVar, run_isAgg h1, hc _ _ hu], .cell _ _ hr⟩
  · cases h

/-- Reading a slice. -/
theorem sl_rep {w : World} {ρ β : Fam} {v : Value} {x : AC} (h : ACRep w ρ β v x) {n : Nat} {cells : List CV} (hx : x.sl? = some (n, cells)) :
    ∃ a cap raws, v = .slice a n cap ∧ n ≤ cap ∧ cap ≤ maxLen ∧ CReps w (Bad ρ β) raws cells ∧ (∀ (j : Nat) (u : Value), raws[j]? = some u → ∃ y : Addr, a = some y ∧ w.cell? (y.add j) = some u) := by
  cases x with
  | p x =>
    cases x with
    | c u => simp [AC.sl?] at hx
    | sl m cs =>
      simp [AC.sl?] at hx
      obtain ⟨rfl, rfl⟩ := hx
      cases h with
      | sl a n cap raws cells hn hm hl ho hc hr =>
        exact ⟨a, cap, raws, rfl, hn, hm, ⟨hl, ho, hr⟩, fun j u hj => let ⟨y, h1, _, h2⟩ := hc j u hj; ⟨y, h1, h2⟩⟩
    | fn g caps => simp [AC.sl?] at hx
    | bx cs => simp [AC.sl?] at hx
    | mp ks vs => simp [AC.sl?] at hx
  | z =>
    simp [AC.sl?] at hx
    obtain ⟨rfl, rfl⟩ := hx
    obtain ⟨a, rfl⟩ := h
    exact ⟨a, 0, [], rfl, Nat.le_refl _, Nat.zero_le _, ⟨rfl, by simp, by simp⟩, by simp⟩
  | own f sz m cs =>
    simp [AC.sl?] at hx
    obtain ⟨rfl, rfl⟩ := hx
    obtain ⟨raws, ⟨hl, ho⟩, hr⟩ := h
    rcases ho with ⟨a, rfl, rfl⟩ | ⟨g, cap, cur, e, fr, rfl, hρ, hg, hfr, hn, hm, hcs, ht⟩
    · have : raws = [] := List.eq_nil_of_length_eq_zero (by simpa using hl)
      subst this
      exact ⟨a, 0, [], rfl, Nat.le_refl _, Nat.zero_le _, hr, by simp⟩
    · exact ⟨_, cap, raws, rfl, hn, hm, hr, fun j u hj => ⟨_, rfl, row_cell hg (k := m * sz) (by rw [ht]; exact hj)⟩⟩
  | tl f sz m cs =>
    simp [AC.sl?] at hx
    obtain ⟨rfl, rfl⟩ := hx
    obtain ⟨raws, ⟨hl, ho⟩, hr⟩ := h
    rcases ho with ⟨a, rfl, rfl⟩ | ⟨g, o, cap, cur, e, fr, rfl, hρ, hg, hfr, hn, hm, hcs, ht⟩
    · have : raws = [] := List.eq_nil_of_length_eq_zero (by simpa using hl)
      subst this
      exact ⟨a, 0, [], rfl, Nat.le_refl _, Nat.zero_le _, hr, by simp⟩
    · exact ⟨_, cap, raws, rfl, hn, hm, hr, fun j u hj => ⟨_, rfl, tl_cell hg ht hj⟩⟩
  | view f m cs =>
    simp [AC.sl?] at hx
    obtain ⟨rfl, rfl⟩ := hx
    obtain ⟨a, cap, raws, rfl, hn, hm, hc, hr⟩ := h
    exact ⟨a, cap, raws, rfl, hn, hm, hr, fun j u hj => let ⟨y, h1, _, h2⟩ := hc j u hj; ⟨y, h1, h2⟩⟩
  | ep k cs pos => simp [AC.sl?] at hx
  | epo f cs pos => simp [AC.sl?] at hx
  | ptr b off => simp [AC.sl?] at hx
  | fn g caps => simp [AC.sl?] at hx
  | yield l => simp [AC.sl?] at hx
  | ghost l xs k v => simp [AC.sl?] at hx
  | mown f ks vs => simp [AC.sl?] at hx
  | bad => simp [AC.sl?] at hx

theorem toCV_rep {w : World} {ρ β : Fam} {v : Value} {x : AC} (h : ACRep w ρ β v x) {c : CV} (hx : x.toCV = some c) : CRep w (Bad ρ β) v c := by
  cases x <;> simp [AC.toCV] at hx
  · subst hx; exact h
  · subst hx
    obtain ⟨a, rfl⟩ := h
    exact .sl a 0 0 [] [] (Nat.le_refl _) (Nat.zero_le _) rfl (by simp) (by simp) (by simp)

theorem one_rep {w : World} {ρ β : Fam} {v : Value} {x : AC} (h : ACRep w ρ β v x) (hx : x.one = true) : v.oneCell' = true := by
  cases x with
  | p x =>
    cases x with
    | c u => cases h; exact hx
    | sl m cs => cases h; rfl
    | fn g caps => cases h; rfl
    | bx cs => cases h; rfl
    | mp ks vs => cases h; rfl
  | z => obtain ⟨a, rfl⟩ := h; rfl
  | own f sz m cs =>
    obtain ⟨raws, ⟨_, ho⟩, _⟩ := h
    rcases ho with ⟨_, rfl, _⟩ | ⟨g, cap, cur, e, fr, rfl, _⟩ <;> rfl
  | view f m cs => obtain ⟨a, cap, raws, rfl, _⟩ := h; rfl
  | tl f sz m cs =>
    obtain ⟨raws, ⟨_, ho⟩, _⟩ := h
    rcases ho with ⟨_, rfl, _⟩ | ⟨g, o, cap, cur, e, fr, rfl, _⟩ <;> rfl
  | ep k cs pos => cases k <;> (obtain ⟨y, raws, rfl, _⟩ := h; rfl)
  | epo f cs pos => obtain ⟨g, cur, e, fr, rfl, _⟩ := h; rfl
  | ptr b off => obtain ⟨g, _, rfl⟩ := h; rfl
  | fn g caps => obtain ⟨vs, rfl, _⟩ := h; rfl
  | yield l => cases h; rfl
  | mown f ks vs => obtain ⟨g, raws, rfl, _⟩ := h; rfl
  | ghost l xs k v => simp [AC.one] at hx
  | bad => simp [AC.one] at hx

theorem cells_one {v : Value} (h : v.oneCell' = true) : v.cells = #[v] := by cases v <;> simp_all [Value.oneCell', Value.cells]

theorem cells_rep {w : World} {ρ β : Fam} {v : Value} {x : AV} (h : AVRep w ρ β v x) {acs : List AC} (hx : x.cells? = some acs) : Seg w ρ β v.cells.toList acs := by
  cases x with
  | cell x =>
    simp only [AV.cells?] at hx
    split at hx
    · rename_i ho
      cases hx
      have hv := rep_cell h
      rw [cells_one (one_rep hv ho)]
      refine ⟨rfl, by simpa using one_rep hv ho, fun j u y hu hy => ?_⟩
      cases j with
      | zero => simp at hu hy; subst hu hy; exact hv
      | succ j => simp at hu
    · cases hx
  | agg xs =>
    simp [AV.cells?] at hx
    subst hx
    obtain ⟨cs, rfl, hs⟩ := Seg.ofAgg h
    exact hs
  | tup xs => simp [AV.cells?] at hx
  | bad => simp [AV.cells?] at hx

/-- A family of its own for a new block. -/
def Fam.set (ρ : Fam) (f b : Nat) : Fam := fun g => if g = f then some b else ρ g

theorem newFam_set {w w' : World} {prot : Nat → Prop} {ρ β : Fam} {id : Nat} (hA : Apart w prot ρ β) (hid : ∀ f, id ≤ f → f < id + 64 → ρ f = none) (hlt : w.heap.size < w'.heap.size) {k : Nat} (hk : k < 64) :
    NewFam w ρ w' (ρ.set (id + k) w.heap.size) id := by
  have hn : ρ (id + k) = none := hid _ (by omega) (by omega)
  refine ⟨fun f b h => ?_, fun f b h => ?_, fun f f' b h h' => ?_⟩
  · unfold Fam.set; split
    · rename_i e; subst e; simp [hn] at h
    · exact h
  · unfold Fam.set at h; split at h
    · rename_i e; subst e; cases h; exact .inr ⟨by omega, by omega, Nat.le_refl _, hlt⟩
    · exact .inl h
  · unfold Fam.set at h h'
    split at h <;> split at h'
    · simp_all
    · cases h; have := (hA.fam f' _ h').2; omega
    · cases h'; have := (hA.fam f _ h).2; omega
    · exact hA.inj f f' b h h'

theorem newOwn {w w' : World} {prot : Nat → Prop} {ρ β : Fam} {id : Nat} (hA : Apart w prot ρ β) (hid : ∀ f, id ≤ f → f < id + 64 → ρ f = none) {cur : Array Value} {e : TypeId} {fr : Nat × Nat}
    (hheap : w'.heap = w.heap.push (.cells cur e fr)) (hos : w'.os = w.os) (ht : w'.tape = w.tape) (hout : w'.output = w.output) (hfr : fr.2 = fr.1 ∨ cur.size ≤ fr.1)
    {cap n sz : Nat} (hcur : cur.size = cap * sz) (hn : n ≤ cap) (hm : cap ≤ maxLen) {cells : List CV} (hr : CReps w (Bad ρ β) (cur.toList.take (n * sz)) cells) :
    Below w.heap.size w w' ∧ NewFam w ρ w' (ρ.set (id + 0) w.heap.size) id ∧ ACRep w' (ρ.set (id + 0) w.heap.size) β (.slice (some ⟨w.heap.size, 0, none⟩) n cap) (.own id sz n cells) := by
  have hb : Below w.heap.size w w' := ⟨hos, ht, hout, by rw [hheap]; simp, fun k hk => by rw [hheap, Array.getElem?_push, if_neg (by omega)]⟩
  have hN : NewFam w ρ w' (ρ.set (id + 0) w.heap.size) id := newFam_set hA hid (by rw [hheap]; simp) (by omega)
  have E := ext_of_grow (β := β) hA hb hN
  refine ⟨hb, hN, _, ⟨?_, .inr ⟨w.heap.size, cap, cur, e, fr, rfl, by simp [Fam.set], by rw [hheap]; simp, hfr, hn, hm, hcur, rfl⟩⟩, hr.mono E.pure⟩
  rw [List.length_take, Array.length_toList, hcur]
  exact Nat.min_eq_left (Nat.mul_le_mul_right _ hn)

/-! One operation after the other. -/
section
variable {P : Program} {w : World} {prot : Nat → Prop} {ρ β : Fam} {id : Nat} (hA : Apart w prot ρ β)
include hA

omit hA in
theorem bytes_of_cells {bad : Nat → Prop} {raws : List Value} {cells : List CV} (h : CReps w bad raws cells) {l : List UInt8} (hl : cellsBytes cells = some l) :
    ∃ ns : List Int, raws = ns.map (Value.int .u8) ∧ l = ns.map (fun n => UInt8.ofNat n.toNat) := by
  obtain ⟨h1, h2, h3⟩ := h
  induction cells generalizing raws l with
  | nil => simp [cellsBytes] at hl; subst hl; exact ⟨[], by simpa using List.eq_nil_of_length_eq_zero h1, rfl⟩
  | cons c cells ih =>
    cases raws with
    | nil => simp at h1
    | cons u raws =>
      have hc := h3 0 u c rfl rfl
      unfold cellsBytes at hl
      split at hl
      · rename_i heq; cases heq
      · rename_i n r heq
        simp at heq
        obtain ⟨rfl, rfl⟩ := heq
        cases hr : cellsBytes cells with
        | none => simp [hr] at hl
        | some l' =>
          simp [hr] at hl
          subst hl
          cases hc
          obtain ⟨ns, rfl, rfl⟩ := ih hr (by simpa using h1) (fun u hu => h2 u (by simp [hu])) (fun j u c hu hc => h3 (j + 1) u c (by simpa using hu) (by simpa using hc))
          exact ⟨n :: ns, rfl, rfl⟩
      · cases hl

theorem qconv_run {src dst : TypeId} {v : Value} {x out : AV} (hid : out.isC = false → ∀ f, id ≤ f → f < id + 64 → ρ f = none) (hv : AVRep w ρ β v x) (h : qconv P id src dst x = some out) : Runs P (convert src dst v) w ρ β id out := by
  unfold qconv at h
  split at h
  · rename_i h1 h2
    cases h
    cases rep_c hv
    exact Runs.same hA (by simp only [convert, Sem.run_bind, run_underlying h1, run_underlying h2, Result.andThen_ok]; rfl) (.cell _ _ (.c _))
  · rename_i h1 h2
    cases h
    cases rep_c hv
    exact Runs.same hA (by simp only [convert, Sem.run_bind, run_underlying h1, run_underlying h2, Result.andThen_ok]; rfl) (.cell _ _ (.c _))
  · rename_i e s h1 h2
    split at h
    · rename_i h3
      split at h
      · rename_i hs
        cases h
        cases rep_c hv
        have hcap1 : s.size ≤ grownCap w s.size 0 e := grownCap_ge w s.size 0 e
        have hcap2 : grownCap w s.size 0 e ≤ maxLen := grownCap_le_maxLen w s.size 0 e (by unfold maxLen; omega)
        have hsz : (bytesRow s (grownCap w s.size 0 e)).size = grownCap w s.size 0 e := by
          unfold bytesRow
          simp only [Array.size_append, Array.size_map, Array.size_replicate]
          show s.size + _ = _
          omega
        have hN := newOwn (β := β) (w' := w.drew.alloc (.cells (bytesRow s (grownCap w s.size 0 e)) e ((bytesRow s (grownCap w s.size 0 e)).size, (bytesRow s (grownCap w s.size 0 e)).size + 1)))
          hA (hid rfl) rfl rfl rfl rfl (.inr (Nat.le_refl _)) (cap := grownCap w s.size 0 e) (n := s.size) (sz := 1) (by rw [Nat.mul_one]; exact hsz) hcap1 hcap2 (cells := bytesCV s.data.toList) ?_
        · exact ⟨_, _, _, run_bytes_of_string w src dst e s h1 h2 h3, hN.1, hN.2.1, .cell _ _ hN.2.2⟩
        · have e1 : (bytesRow s (grownCap w s.size 0 e)).toList.take (s.size * 1) = s.data.toList.map fun b => Value.int .u8 (b.toNat : Int) := by
            unfold bytesRow
            rw [Nat.mul_one, Array.toList_append, Array.toList_map]
            exact List.take_left' (by simp)
          rw [e1]
          refine ⟨by simp [bytesCV], ?_, ?_⟩
          · intro u hu; simp at hu; obtain ⟨b, _, rfl⟩ := hu; rfl
          · intro j u c hu hc
            simp [bytesCV] at hu hc
            obtain ⟨b, hb1, rfl⟩ := hu
            obtain ⟨b', hb2, rfl⟩ := hc
            rw [hb1] at hb2; cases hb2
            exact .c _
      · cases h
    · cases h
  · rename_i e x h1 h2
    split at h
    · rename_i n cells h3 h4
      split at h
      · rename_i hlen
        cases hl : cellsBytes cells with
        | none => simp [hl] at h
        | some l =>
          simp [hl] at h
          subst h
          obtain ⟨a, cap, raws, rfl, hn, hm, hr, hc⟩ := sl_rep (rep_cell hv) h4
          obtain ⟨ns, rfl, rfl⟩ := bytes_of_cells hr hl
          have hnl : ns.length = n := by have := hr.len; rw [List.length_map] at this; rw [this]; exact hlen
          have e1 : (⟨(ns.map fun (n : Int) => UInt8.ofNat n.toNat).toArray⟩ : ByteArray) = ns.foldl (fun r n => r.push (UInt8.ofNat n.toNat)) ByteArray.empty := by
            rw [foldl_push_bytes]; simp
          refine Runs.same hA (v := .string ⟨(ns.map fun (n : Int) => UInt8.ofNat n.toNat).toArray⟩) ?_ (.cell _ (.p (.c _)) (.c _))
          rw [e1]
          simp only [convert, Sem.run_bind, run_underlying h1, run_underlying h2, run_underlying h3, Result.andThen_ok]
          cases a with
          | none =>
            cases ns with
            | nil => simp [Conv.bytesToString]
            | cons n0 ns => obtain ⟨y, hy, _⟩ := hc 0 _ rfl; cases hy
          | some y =>
            refine run_bytesToString w y n cap ns ?_
            have := run_loadCells_list (P := P) (w := w) y (ns.map (Value.int .u8)) (fun j v hj => by obtain ⟨y', e, h⟩ := hc j v hj; cases e; exact h)
            simpa [hnl] using this
      · cases h
    · cases h
  · cases h
end

end Go.Fw
end
section
set_option linter.all false
namespace Go.Fw
variable [Globals]
open Go.RowKit (Below)

section
variable {P : Program} {w : World} {prot : Nat → Prop} {ρ β : Fam} {id : Nat} (hA : Apart w prot ρ β)
include hA

theorem qload_run {bx : Nat → Option (List AC)}
    (hbx : ∀ i xs, bx i = some xs → BoxRep w ρ β prot i xs)
    {t : TypeId} {v : Value} {x out : AV} (hv : AVRep w ρ β v x) (h : qload P t x bx = some out) : Runs P (Instr.loadAt t v) w ρ β id out := by
  unfold qload at h
  split at h
  · rename_i b off
    obtain ⟨g, hβ, rfl⟩ := rep_cell hv
    cases hb : bx b with
    | none => simp [hb] at h
    | some xs =>
      simp [hb] at h
      obtain ⟨g', raws, e, hβ', _, hg, hl, ho, hr⟩ := hbx b xs hb
      rw [hβ] at hβ'; cases hβ'
      have hs : Seg w ρ β raws.toList xs := ⟨by simpa using hl, ho, fun j u x hu hx => hr j u x (by simpa using hu) hx⟩
      obtain ⟨v, hrun, hv'⟩ := load_run (P := P) (a := ⟨g, 0, none⟩) hs (fun j u hj => by
        have hadd : ((⟨g, 0, none⟩ : Addr).add j) = ⟨g, j, none⟩ := by unfold Addr.add; split <;> simp_all
        rw [hadd]
        simp [World.cell?, hg]
        simpa using hj) h
      have hadd : ((⟨g, 0, none⟩ : Addr).add off) = ⟨g, off, none⟩ := by unfold Addr.add; split <;> simp_all
      rw [hadd] at hrun
      exact Runs.same hA (by simpa [Instr.loadAt, Instr.sureAddr] using hrun) hv'
  · rename_i k cells pos
    cases k with
    | none =>
      obtain ⟨y, raws, rfl, hc, hr⟩ := rep_cell hv
      obtain ⟨v, hrun, hv'⟩ := load_run (P := P) (a := y) (Seg.ofC hr) (fun j u hj => (hc j u hj).2) h
      exact Runs.same hA (by simpa [Instr.loadAt, Instr.sureAddr] using hrun) hv'
    | some f =>
      obtain ⟨y, raws, rfl, hc, hr⟩ := rep_cell hv
      obtain ⟨v, hrun, hv'⟩ := load_run (P := P) (a := y) (Seg.ofC hr) (fun j u hj => (hc j u hj).2) h
      exact Runs.same hA (by simpa [Instr.loadAt, Instr.sureAddr] using hrun) hv'
  · rename_i f cells pos
    obtain ⟨g, cur, e, fr, rfl, hρ, hg, hfr, hlen, hr⟩ := rep_cell hv
    obtain ⟨v, hrun, hv'⟩ := load_run (P := P) (a := ⟨g, 0, none⟩) (Seg.ofC hr) (fun j u hj => row_cell hg hj) h
    exact Runs.same hA (by simpa [Instr.loadAt, Instr.sureAddr] using hrun) hv'
  · cases h

omit hA in
theorem add_add (a : Addr) (i j : Nat) : (a.add i).add j = a.add (i + j) := by
  unfold Addr.add; split <;> split <;> simp_all <;> omega

omit hA in
theorem ptr_add (g off k : Nat) : (⟨g, off, none⟩ : Addr).add k = ⟨g, off + k, none⟩ := by
  unfold Addr.add; split <;> simp_all

theorem qfieldAddr_run {s : TypeId} {f : Nat} {v : Value} {x out : AV} (hv : AVRep w ρ β v x) (h : qfieldAddr P s x f = some out) : Runs P (Instr.fieldAt s v f) w ρ β id out := by
  unfold qfieldAddr at h
  split at h
  · rename_i fields hu
    split at h
    · rename_i fd hf
      split at h
      · rename_i m hs
        have hrun : ∀ a : Addr, (Instr.fieldAt s (.pointer (some a)) f).run P w = .ok (.pointer (some (a.add fd.offset))) w := by
          intro a
          simp [Instr.fieldAt, run_underlying hu, hf, Instr.sureAddr, fieldPlace, run_sizeOf hs]
        split at h
        · cases h
          obtain ⟨g, hβ, rfl⟩ := rep_cell hv
          exact Runs.same hA (hrun _) (.cell _ _ ⟨g, hβ, by rw [ptr_add]⟩)
        · rename_i k cells pos
          cases h
          cases k with
          | none =>
            obtain ⟨y, raws, rfl, hc⟩ := rep_cell hv
            exact Runs.same hA (hrun _) (.cell _ _ ⟨y, raws, by rw [add_add], hc⟩)
          | some k =>
            obtain ⟨y, raws, rfl, hc⟩ := rep_cell hv
            exact Runs.same hA (hrun _) (.cell _ _ ⟨y, raws, by rw [add_add], hc⟩)
        · cases h
          obtain ⟨g, cur, e, fr, rfl, hc⟩ := rep_cell hv
          exact Runs.same hA (hrun _) (.cell _ _ ⟨g, cur, e, fr, by rw [add_add], hc⟩)
        · cases h
      · cases h
    · cases h
  · cases h

theorem qfield_run {s : TypeId} {f : Nat} {v : Value} {x out : AV} (hv : AVRep w ρ β v x) (h : qfield P s x f = some out) : Runs P (Instr.field s v f) w ρ β id out := by
  unfold qfield at h
  split at h
  · rename_i fields xs hu
    cases hf : fields[f]? with
    | none => simp [hf] at h
    | some fd =>
      simp [hf] at h
      obtain ⟨cs, rfl, hs⟩ := Seg.ofAgg hv
      obtain ⟨v, hrun, hv'⟩ := part_run hs h
      exact Runs.same hA (by simp [Instr.field, run_underlying hu, hf, asAgg, hrun]) hv'
  · cases h

theorem qindexAddr_run {t : TypeId} {v i : Value} {x y out : AV} (hv : AVRep w ρ β v x) (hi : AVRep w ρ β i y) (h : qindexAddr P t x y = some out) : Runs P (Instr.indexAt t v i) w ρ β id out := by
  unfold qindexAddr at h
  split at h
  · rename_i k n
    cases rep_c hi
    split at h
    · rename_i e hu
      have hrun : ∀ (a : Addr) (len cap s : Nat), szOf P e = some s → 0 ≤ n ∧ n < len → (Instr.indexAt t (.slice (some a) len cap) (.int k n)).run P w = .ok (.pointer (some (a.add (n.toNat * s)))) w := by
        intro a len cap s hs hn
        simp [Instr.indexAt, asIntOf, run_underlying hu, run_sizeOf hs, hn]
      split at h
      · rename_i s m cells hs
        split at h
        · rename_i hn
          cases h
          cases rep_cell hv with
          | sl a n' cap raws cells hn' hm hl ho hc hr =>
            cases a with
            | none =>
              obtain ⟨z, e, _⟩ := hc 0 _ (List.getElem?_eq_getElem (show 0 < raws.length by rw [hl]; omega))
              cases e
            | some a =>
              exact Runs.same hA (hrun a m cap s hs hn.1) (.cell _ _ ⟨a, raws, rfl, fun j u hj => by obtain ⟨z, e, h1, h2⟩ := hc j u hj; cases e; exact ⟨h1, h2⟩, ⟨hl, ho, hr⟩⟩)
        · cases h
      · rename_i s f sz m cells hs
        split at h
        · rename_i hn
          cases h
          obtain ⟨raws, ⟨hl, ho⟩, hr⟩ := rep_cell hv
          rcases ho with ⟨_, _, rfl⟩ | ⟨g, cap, cur, e', fr, rfl, hρ, hg, hfr, hnc, hm, hcs, ht⟩
          · omega
          · have hlen : cells.length = m * sz := by rw [← hr.len, hl]
            exact Runs.same hA (hrun _ m cap s hs hn) (.cell _ _ ⟨g, cur, e', fr, rfl, hρ, hg, hfr, by rw [hlen, hcs]; exact Nat.mul_le_mul_right _ hnc, by rw [hlen, ht]; exact hr⟩)
        · cases h
      · rename_i s f m cells hs
        split at h
        · rename_i hn
          cases h
          obtain ⟨a, cap, raws, rfl, hnc, hm, hc, hr⟩ := rep_cell hv
          cases a with
          | none =>
            obtain ⟨z, e, _⟩ := hc 0 _ (List.getElem?_eq_getElem (show 0 < raws.length by rw [hr.len]; omega))
            cases e
          | some a => exact Runs.same hA (hrun a m cap s hs hn.1) (.cell _ _ ⟨a, raws, rfl, fun j u hj => by obtain ⟨z, e, h1, h2⟩ := hc j u hj; cases e; exact ⟨h1, h2⟩, hr⟩)
        · cases h
      · rename_i s f sz m cells hs
        split at h
        · rename_i hn
          cases h
          obtain ⟨raws, ⟨hl, ho⟩, hr⟩ := rep_cell hv
          rcases ho with ⟨_, _, rfl⟩ | ⟨g, o, cap, cur, e', fr, rfl, hρ, hg, hfr, hnc, hm, hcs, ht⟩
          · omega
          · exact Runs.same hA (hrun _ m cap s hs hn.1) (.cell _ _ ⟨⟨g, o, none⟩, raws, rfl, fun j u hj => ⟨hρ, tl_cell hg ht hj⟩, hr⟩)
        · cases h
      · cases h
    · rename_i len e hu
      have hrun : ∀ (a : Addr) (s : Nat), szOf P e = some s → 0 ≤ n ∧ n < len → (Instr.indexAt t (.pointer (some a)) (.int k n)).run P w = .ok (.pointer (some (a.add (n.toNat * s)))) w := by
        intro a s hs hn
        simp [Instr.indexAt, asIntOf, run_underlying hu, run_sizeOf hs, hn, Instr.sureAddr]
      split at h
      · rename_i s b off hs
        split at h
        · rename_i hn
          cases h
          obtain ⟨g, hβ, rfl⟩ := rep_cell hv
          exact Runs.same hA (hrun _ s hs hn) (.cell _ _ ⟨g, hβ, by rw [ptr_add]⟩)
        · cases h
      · rename_i s k' cells pos hs
        split at h
        · rename_i hn
          cases h
          cases k' with
          | none =>
            obtain ⟨y, raws, rfl, hc⟩ := rep_cell hv
            exact Runs.same hA (hrun _ s hs hn) (.cell _ _ ⟨y, raws, by rw [add_add], hc⟩)
          | some k' =>
            obtain ⟨y, raws, rfl, hc⟩ := rep_cell hv
            exact Runs.same hA (hrun _ s hs hn) (.cell _ _ ⟨y, raws, by rw [add_add], hc⟩)
        · cases h
      · rename_i s f cells pos hs
        split at h
        · rename_i hn
          cases h
          obtain ⟨g, cur, e', fr, rfl, hc⟩ := rep_cell hv
          exact Runs.same hA (hrun _ s hs hn) (.cell _ _ ⟨g, cur, e', fr, by rw [add_add], hc⟩)
        · cases h
      · cases h
    · cases h
  · cases h
end
end Go.Fw
end
section
set_option linter.all false
namespace Go.Fw
variable [Globals]
open Go.RowKit (Below)

def OptRep (w : World) (ρ β : Fam) : Option Value → Option AV → Prop
  | none, none => True
  | some v, some x => AVRep w ρ β v x
  | _, _ => False

theorem bound_rep {w : World} {ρ β : Fam} {v : Option Value} {x : Option AV} (h : OptRep w ρ β v x) {d : Nat} {l : Int} (hb : bound x d = some l) :
    v = none ∧ l = d ∨ ∃ k, v = some (.int k l) := by
  unfold bound at hb
  split at hb
  · cases hb
    cases v with
    | none => exact .inl ⟨rfl, rfl⟩
    | some v => cases h
  · cases hb
    cases v with
    | none => cases h
    | some v => cases rep_c h; exact .inr ⟨_, rfl⟩
  · cases hb

theorem run_bounds {P : Program} {w : World} (b : Bool) (len cap : Nat) {lo hi : Option Value} {l h : Int} (hl : lo = none ∧ l = (0 : Nat) ∨ ∃ k, lo = some (.int k l)) (hh : hi = none ∧ h = len ∨ ∃ k, hi = some (.int k h))
    (h0 : 0 ≤ l) (h1 : l ≤ h) (h2 : h ≤ cap) : (Instr.sliceBounds b len cap lo hi none).run P w = .ok (l.toNat, h.toNat, cap) w := by
  have hc : (h.toNat : Int) = h := by omega
  rcases hl with ⟨rfl, rfl⟩ | ⟨kl, rfl⟩ <;> rcases hh with ⟨rfl, rfl⟩ | ⟨kh, rfl⟩ <;>
    simp_all [Instr.sliceBounds, Instr.sliceBound, asIntOf] <;> omega

section
variable {P : Program} {w : World} {prot : Nat → Prop} {ρ β : Fam} {id : Nat} (hA : Apart w prot ρ β)
include hA

theorem qindex_run {t : TypeId} {v i : Value} {x y out : AV} (hv : AVRep w ρ β v x) (hi : AVRep w ρ β i y) (h : qindex P t x y = some out) : Runs P (Instr.index t v i) w ρ β id out := by
  unfold qindex at h
  split at h
  · rename_i k n
    cases rep_c hi
    split at h
    · rename_i len e xs hu
      split at h
      · rename_i hn
        cases hs : szOf P e with
        | none => simp [hs] at h
        | some s =>
          simp [hs] at h
          obtain ⟨cs, rfl, hs'⟩ := Seg.ofAgg hv
          obtain ⟨v, hrun, hv'⟩ := part_run hs' h
          exact Runs.same hA (by simp [Instr.index, asIntOf, run_underlying hu, hn, run_sizeOf hs, hrun]) hv'
      · cases h
    · rename_i s hu
      split at h
      · rename_i hn
        cases hb : s[n.toNat]? with
        | none => simp [hb] at h
        | some b =>
          simp [hb] at h
          subst h
          cases rep_c hv
          exact Runs.same hA (by simp [Instr.index, asIntOf, run_underlying hu, hn, hb]) (.cell _ _ (.c _))
      · cases h
    · cases h
  · cases h

omit hA in
theorem take_sub {w : World} {bad : Nat → Prop} {raws : List Value} {cells : List CV} (h : CReps w bad raws cells) (a n : Nat) : CReps w bad ((raws.drop a).take n) ((cells.drop a).take n) := by
  refine ⟨by simp [h.len], fun u hu => h.one u (List.mem_of_mem_drop (List.mem_of_mem_take hu)), fun j u c hu hc => ?_⟩
  rw [List.getElem?_take] at hu hc
  split at hu <;> simp_all
  exact h.rep _ u c hu hc

theorem qslice_run {t : TypeId} {v : Value} {x out : AV} {lo hi mx : Option Value} {lo' hi' mx' : Option AV} (hv : AVRep w ρ β v x) (hlo : OptRep w ρ β lo lo') (hhi : OptRep w ρ β hi hi') (hmx : OptRep w ρ β mx mx')
    (h : qslice P t x lo' hi' mx' = some out) : Runs P (Instr.sliceAt t v lo hi mx) w ρ β id out := by
  unfold qslice at h
  split at h
  · rename_i s hu
    split at h
    · rename_i l hh hl hh'
      split at h
      · rename_i hb
        cases h
        cases rep_c hv
        cases mx with
        | some m => cases hmx
        | none =>
          have hrun := run_bounds (P := P) (w := w) false s.size s.size (bound_rep hlo hl) (bound_rep hhi hh') hb.1 hb.2.1 hb.2.2
          exact Runs.same hA (by simp [Instr.sliceAt, Instr.slice, run_underlying hu, hrun]) (.cell _ _ (.c _))
      · cases h
    · cases h
  · rename_i e x hu
    split at h
    · rename_i n cells s hsl hs
      split at h
      · rename_i l hh hl hh'
        split at h
        · rename_i hb
          obtain ⟨a, cap, raws, rfl, hn, hm, hr, hc⟩ := sl_rep (rep_cell hv) hsl
          cases mx with
          | some m => cases hmx
          | none =>
            have hrun := run_bounds (P := P) (w := w) true n cap (bound_rep hlo hl) (bound_rep hhi hh') hb.1 hb.2.1 (by omega)
            have hrun' : (Instr.sliceAt t (.slice a n cap) lo hi none).run P w = .ok (.slice (if cap = l.toNat then a else a.map (·.add (l.toNat * s))) (hh.toNat - l.toNat) (cap - l.toNat)) w := by
              simp [Instr.sliceAt, Instr.slice, run_underlying hu, hrun, run_sizeOf hs]
            have hlen : hh.toNat - l.toNat = (hh - l).toNat := by omega
            rw [hlen] at hrun'
            have hsub := take_sub hr (l.toNat * s) ((hh - l).toNat * s)
            -- the cells of the part
            have hcell : ∀ (j : Nat) (u : Value), ((raws.drop (l.toNat * s)).take ((hh - l).toNat * s))[j]? = some u →
                ∃ y : Addr, a = some y ∧ cap ≠ l.toNat ∧ w.cell? ((y.add (l.toNat * s)).add j) = some u := by
              intro j u hj
              rw [List.getElem?_take] at hj
              split at hj
              · rename_i hlt
                rw [List.getElem?_drop] at hj
                obtain ⟨y, rfl, hu⟩ := hc _ _ hj
                refine ⟨y, rfl, ?_, by rw [add_add]; exact hu⟩
                intro e
                have : (hh - l).toNat = 0 := by omega
                rw [this] at hlt; simp at hlt
              · cases hj
            cases x with
            | p x =>
              simp only [Option.some.injEq] at h
              subst h
              have hx : x = .sl n cells := by
                cases x <;> simp [AC.sl?] at hsl
                obtain ⟨rfl, rfl⟩ := hsl; rfl
              subst hx
              refine Runs.same hA hrun' (.cell _ _ (.sl _ _ _ _ _ (by omega) (by omega) hsub.len hsub.one (fun j u hj => ?_) hsub.rep))
              obtain ⟨y, rfl, hne, hu⟩ := hcell j u hj
              refine ⟨y.add (l.toNat * s), by simp [hne], ?_, hu⟩
              rw [add_block]
              cases rep_cell hv with
              | sl a n' cap' raws' cells' hn' hm' hl' ho' hc' hr' =>
                cases hraw : raws' with
                | nil =>
                  have hz : cells = [] := by rw [hraw] at hl'; exact List.eq_nil_of_length_eq_zero hl'.symm
                  rw [hz] at hr
                  have : raws = [] := List.eq_nil_of_length_eq_zero hr.len
                  rw [this] at hj; simp at hj
                | cons u0 r =>
                  obtain ⟨z, e, hbad, _⟩ := hc' 0 u0 (by rw [hraw]; rfl)
                  cases e; exact hbad
            | z =>
              simp only [Option.some.injEq] at h
              subst h
              obtain ⟨a', e⟩ := rep_cell hv
              cases e
              have h0 : (hh - l).toNat = 0 := by omega
              have hz : ∃ a', (Value.slice (if 0 = l.toNat then a else a.map (fun y : Addr => y.add (l.toNat * s))) (hh - l).toNat (0 - l.toNat)) = .slice a' 0 0 := ⟨_, by rw [h0, Nat.zero_sub]⟩
              exact Runs.same hA hrun' (.cell _ .z hz)
            | own f sz m cs =>
              have hx : m = n ∧ cs = cells := by simpa [AC.sl?] using hsl
              obtain ⟨rfl, rfl⟩ := hx
              simp only at h
              obtain ⟨raws', ⟨hl', ho'⟩, hr'⟩ := rep_cell hv
              split at h
              · rename_i hl0
                split at h
                · rename_i hsz
                  cases h
                  subst hl0
                  subst hsz
                  simp only [Int.toNat_zero, Nat.zero_mul, Nat.sub_zero] at hrun'
                  rcases ho' with ⟨a', e, rfl⟩ | ⟨g, cap', cur, e', fr, e, hρ, hg, hfr, hnc, hm', hcs, ht⟩
                  · cases e
                    have h0 : hh = 0 := by omega
                    subst h0
                    have hraw : raws' = [] := List.eq_nil_of_length_eq_zero (by simpa using hl')
                    subst hraw
                    refine Runs.same hA hrun' (.cell _ _ ⟨[], ⟨by simp, .inl ⟨if 0 = 0 then a else a.map (fun x : Addr => x.add 0), by simp, by simp⟩⟩, ⟨by simp, by simp, by simp⟩⟩)
                  · cases e
                    have he : (if cap = 0 then some (⟨g, 0, none⟩ : Addr) else Option.map (fun x : Addr => x.add 0) (some ⟨g, 0, none⟩)) = some ⟨g, 0, none⟩ := by split <;> simp [Addr.add]
                    rw [he] at hrun'
                    have hs1 := take_sub hr' 0 (hh.toNat * sz)
                    simp only [List.drop_zero] at hs1
                    have hle : hh.toNat * sz ≤ m * sz := Nat.mul_le_mul_right _ (by omega)
                    refine Runs.same hA (v := .slice (some ⟨g, 0, none⟩) hh.toNat cap) (by simpa using hrun') (.cell _ _ ⟨raws'.take (hh.toNat * sz), ⟨by rw [List.length_take, hl']; exact Nat.min_eq_left hle, .inr ⟨g, cap, cur, e', fr, rfl, hρ, hg, hfr, by omega, hm', hcs, ?_⟩⟩, hs1⟩)
                    rw [← ht, List.take_take, Nat.min_eq_left hle]
                · cases h
              · split at h
                · rename_i hcc
                  obtain ⟨hsz, hc2⟩ := hcc
                  cases h
                  subst hsz
                  have hhm : hh = (m : Int) := by
                    cases hi' with
                    | none => simpa [bound] using hh'.symm
                    | some y => simp at hc2
                  subst hhm
                  have e1 : ((m : Int) - l).toNat = m - l.toNat := by omega
                  rw [e1] at hrun'
                  have e2 : (cs.drop (l.toNat * sz)).length = (m - l.toNat) * sz := by rw [List.length_drop, ← hr'.len, hl', Nat.sub_mul]
                  have hs2 := take_sub hr' (l.toNat * sz) ((m - l.toNat) * sz)
                  rw [List.take_of_length_le (Nat.le_of_eq e2)] at hs2
                  rcases ho' with ⟨a', e, h0⟩ | ⟨g, cap', cur, e', fr, e, hρ, hg, hfr, hnc, hm', hcs, ht⟩
                  · cases e
                    have h9 : 0 - l.toNat = 0 := by omega
                    rw [h9] at hrun' hs2 ⊢
                    exact Runs.same hA hrun' (.cell _ _ ⟨[], ⟨by simp, .inl ⟨_, rfl, rfl⟩⟩, by simpa using hs2⟩)
                  · cases e
                    by_cases hcl : cap = l.toNat
                    · have h9 : m - l.toNat = 0 := by omega
                      have h8 : cap - l.toNat = 0 := by omega
                      rw [h9, h8] at hrun'
                      rw [h9] at hs2 ⊢
                      exact Runs.same hA hrun' (.cell _ _ ⟨[], ⟨by simp, .inl ⟨_, rfl, rfl⟩⟩, by simpa using hs2⟩)
                    · have ha : (if cap = l.toNat then some (⟨g, 0, none⟩ : Addr) else Option.map (fun x : Addr => x.add (l.toNat * sz)) (some ⟨g, 0, none⟩)) = some ⟨g, 0 + l.toNat * sz, none⟩ := by
                        rw [if_neg hcl]
                        show some ((⟨g, 0, none⟩ : Addr).add (l.toNat * sz)) = _
                        rw [ptr_add]
                      rw [ha] at hrun'
                      refine Runs.same hA hrun' (.cell _ _ ⟨_, ⟨by rw [List.length_take, List.length_drop, hl', Nat.sub_mul]; exact Nat.min_self _, .inr ⟨g, 0 + l.toNat * sz, cap - l.toNat, cur, e', fr, rfl, hρ, hg, hfr, by omega, by omega, ?_, ?_⟩⟩, hs2⟩)
                      · have := Nat.mul_le_mul_right sz (show l.toNat ≤ cap by omega)
                        rw [hcs, Nat.sub_mul]; omega
                      · rw [← ht, List.drop_take, List.take_take, Nat.zero_add]
                        congr 1
                        rw [Nat.sub_mul]
                        omega
                · rename_i hcc
                  cases h
                  have q1 : (hh - l).toNat ≤ cap - l.toNat := by clear ho' hcc; omega
                  have q2 : cap - l.toNat ≤ maxLen := Nat.le_trans (Nat.sub_le _ _) hm
                  refine Runs.same hA hrun' (.cell _ _ ⟨_, _, _, rfl, q1, q2, fun j u hj => ?_, hsub⟩)
                  obtain ⟨y, rfl, hne, hu⟩ := hcell j u hj
                  refine ⟨y.add (l.toNat * s), by simp [hne], ?_, hu⟩
                  rw [add_block]
                  rcases ho' with ⟨_, e, h0⟩ | ⟨g, cap', cur, e', fr, e, hρ, _⟩
                  · cases e; omega
                  · cases e; exact hρ
            | tl f sz m cs =>
              have hx : m = n ∧ cs = cells := by simpa [AC.sl?] using hsl
              obtain ⟨rfl, rfl⟩ := hx
              simp only at h
              obtain ⟨raws', ⟨hl', ho'⟩, hr'⟩ := rep_cell hv
              split at h
              · rename_i hcc
                obtain ⟨hsz, hc2⟩ := hcc
                cases h
                subst hsz
                have hhm : hh = (m : Int) := by
                  cases hi' with
                  | none => simpa [bound] using hh'.symm
                  | some y => simp at hc2
                subst hhm
                have e1 : ((m : Int) - l).toNat = m - l.toNat := by omega
                rw [e1] at hrun'
                have e2 : (cs.drop (l.toNat * sz)).length = (m - l.toNat) * sz := by rw [List.length_drop, ← hr'.len, hl', Nat.sub_mul]
                have hs2 := take_sub hr' (l.toNat * sz) ((m - l.toNat) * sz)
                rw [List.take_of_length_le (Nat.le_of_eq e2)] at hs2
                rcases ho' with ⟨a', e, h0⟩ | ⟨g, o, cap', cur, e', fr, e, hρ, hg, hfr, hnc, hm', hcs, ht⟩
                · cases e
                  have h9 : 0 - l.toNat = 0 := by omega
                  rw [h9] at hrun' hs2 ⊢
                  exact Runs.same hA hrun' (.cell _ _ ⟨[], ⟨by simp, .inl ⟨_, rfl, rfl⟩⟩, by simpa using hs2⟩)
                · cases e
                  by_cases hcl : cap = l.toNat
                  · have h9 : m - l.toNat = 0 := by omega
                    have h8 : cap - l.toNat = 0 := by omega
                    rw [h9, h8] at hrun'
                    rw [h9] at hs2 ⊢
                    exact Runs.same hA hrun' (.cell _ _ ⟨[], ⟨by simp, .inl ⟨_, rfl, rfl⟩⟩, by simpa using hs2⟩)
                  · have ha : (if cap = l.toNat then some (⟨g, o, none⟩ : Addr) else Option.map (fun x : Addr => x.add (l.toNat * sz)) (some ⟨g, o, none⟩)) = some ⟨g, o + l.toNat * sz, none⟩ := by
                      rw [if_neg hcl]
                      show some ((⟨g, o, none⟩ : Addr).add (l.toNat * sz)) = _
                      rw [ptr_add]
                    rw [ha] at hrun'
                    refine Runs.same hA hrun' (.cell _ _ ⟨_, ⟨by rw [List.length_take, List.length_drop, hl', Nat.sub_mul]; exact Nat.min_self _, .inr ⟨g, o + l.toNat * sz, cap - l.toNat, cur, e', fr, rfl, hρ, hg, hfr, by omega, by omega, ?_, ?_⟩⟩, hs2⟩)
                    · have := Nat.mul_le_mul_right sz (show l.toNat ≤ cap by omega)
                      rw [hcs, Nat.sub_mul]; omega
                    · rw [← ht, List.drop_take, List.take_take, List.drop_drop]
                      congr 1
                      rw [Nat.sub_mul]
                      omega
              · cases h
            | mown f ks vs => simp at h
            | view f m cs =>
              have hx : m = n ∧ cs = cells := by simpa [AC.sl?] using hsl
              obtain ⟨rfl, rfl⟩ := hx
              simp only [Option.some.injEq] at h
              subst h
              obtain ⟨a', cap', raws', e, hn', hm', hc', hr'⟩ := rep_cell hv
              cases e
              refine Runs.same hA hrun' (.cell _ _ ⟨_, _, _, rfl, by omega, by omega, fun j u hj => ?_, hsub⟩)
              obtain ⟨y, rfl, hne, hu⟩ := hcell j u hj
              refine ⟨y.add (l.toNat * s), by simp [hne], ?_, hu⟩
              rw [add_block]
              cases hraw : raws' with
              | nil =>
                have hz : cs = [] := by have := hr'.len; rw [hraw] at this; exact List.eq_nil_of_length_eq_zero this.symm
                rw [hz] at hr
                have : raws = [] := List.eq_nil_of_length_eq_zero hr.len
                rw [this] at hj; simp at hj
              | cons u0 r =>
                obtain ⟨z, e, hbad, _⟩ := hc' 0 u0 (by rw [hraw]; rfl)
                cases e; exact hbad
            | ep k cs pos => cases h
            | epo f cs pos => cases h
            | ptr b off => cases h
            | fn g caps => cases h
            | yield l => cases h
            | ghost l xs k v => cases h
            | bad => cases h
        · cases h
      · rename_i l hh m' hl hh'
        split at h
        · rename_i km m
          split at h
          · rename_i hz
            cases h
            obtain ⟨rfl, rfl, rfl⟩ := hz
            obtain ⟨a, cap, raws, rfl, hn, hm, hr, hc⟩ := sl_rep (rep_cell hv) hsl
            cases mx with
            | none => cases hmx
            | some mv =>
              cases rep_c hmx
              have hlo2 := bound_rep hlo hl
              have hhi2 := bound_rep hhi hh'
              have hrun : (Instr.sliceBounds true n cap lo hi (some (.int km 0))).run P w = .ok (0, 0, 0) w := by
                rcases hhi2 with ⟨rfl, e⟩ | ⟨kh, rfl⟩
                · cases hhi
                · rcases hlo2 with ⟨rfl, _⟩ | ⟨kl, rfl⟩ <;> simp [Instr.sliceBounds, Instr.sliceBound, asIntOf]
              exact Runs.same hA (v := .slice a 0 0) (by simp [Instr.sliceAt, Instr.slice, run_underlying hu, hrun, run_sizeOf hs]) (.cell _ _ ⟨a, rfl⟩)
          · cases h
        · cases h
      · cases h
    · cases h
  · cases h

end
end Go.Fw
end
section
set_option linter.all false
namespace Go.Fw
variable [Globals]
open Go.RowKit (Below)
open Go.MapKept

theorem mfind_lt : ∀ {ks : List Int} {n : Int} {i : Nat}, mfind ks n = some i → i < ks.length
  | k :: ks, n, i, h => by
    unfold mfind at h
    split at h
    · cases h; simp
    · cases hr : mfind ks n with
      | none => simp [hr] at h
      | some j => simp [hr] at h; subst h; have := mfind_lt hr; simp; omega
theorem mfind_get : ∀ {ks : List Int} {n : Int} {i : Nat}, mfind ks n = some i → ks[i]? = some n
  | k :: ks, n, i, h => by
    unfold mfind at h
    split at h
    · rename_i e; cases h; simp [e]
    · cases hr : mfind ks n with
      | none => simp [hr] at h
      | some j => simp [hr] at h; subst h; simpa using mfind_get hr

theorem posK_mem {ks : List Int} (h : posK ks = true) {k : Int} (hk : k ∈ ks) : 0 ≤ k := by
  have := List.all_eq_true.1 h k hk
  simpa using this
theorem negK_mem {ks : List Int} (h : negK ks = true) {k : Int} (hk : k ∈ ks) : k < 0 := by
  have := List.all_eq_true.1 h k hk
  simpa using this
theorem kval_pos {n : Int} (h : 0 ≤ n) : kval n = .int .i64 n := by simp [kval, h]
theorem kval_neg {n : Int} (h : n < 0) : kval n = .agg #[.int .i64 ((-n - 1) / 4294967296), .int .i64 ((-n - 1) % 4294967296)] := by
  unfold kval; rw [if_neg (by omega)]
theorem kP_neg {a b : Int} (h : pairIn a b = true) : kP a b < 0 := by
  simp [pairIn] at h
  unfold kP; omega
theorem kval_kP {a b : Int} (h : pairIn a b = true) : kval (kP a b) = .agg #[.int .i64 a, .int .i64 b] := by
  rw [kval_neg (kP_neg h)]
  simp [pairIn] at h
  have e1 : (-kP a b - 1) / 4294967296 = a := by unfold kP; omega
  have e2 : (-kP a b - 1) % 4294967296 = b := by unfold kP; omega
  rw [e1, e2]
theorem findNow_ints (n : Int) : ∀ (es : List MapEntry) (ks : List Int) (raws : List Value) (i : Nat), posK ks = true → es.map (·.key) = ks.map kval → es.map (·.val) = raws →
    Instr.findNow (.int .i64) (.int .i64 n) es i = some ((mfind ks n).bind fun j => (raws[j]?).map fun u => (i + j, u))
  | [], [], raws, i, hp, hk, hv => by simp [Instr.findNow, mfind]
  | [], k :: ks, raws, i, hp, hk, hv => by simp at hk
  | e :: es, [], raws, i, hp, hk, hv => by simp at hk
  | e :: es, k :: ks, raws, i, hp, hk, hv => by
    simp at hk
    obtain ⟨h1, h2⟩ := hk
    subst hv
    have hk0 := posK_mem hp (List.mem_cons_self ..)
    have hp' : posK ks = true := by unfold posK at hp ⊢; simp only [List.all_cons, Bool.and_eq_true] at hp; exact hp.2
    rw [kval_pos hk0] at h1
    unfold Instr.findNow mfind
    rw [h1]
    simp only [Instr.sameNow, if_true]
    by_cases hkn : k = n
    · subst hkn; simp
    · rw [if_neg hkn]
      have : (n == k) = false := by simpa using fun e : n = k => hkn e.symm
      rw [this]
      simp only
      rw [findNow_ints n es ks _ (i + 1) hp' h2 rfl]
      cases hr : mfind ks n with
      | none => simp
      | some j => simp; congr 1; funext u; simp; omega

structure PairT (P : Program) (kt e : TypeId) : Prop where
  hu : P.underlying kt = some (.array 2 e)
  he : P.underlying e = some (.int .i64)
  hs : szOf P e = some 1
theorem pairK_some {P : Program} {kt : TypeId} (h : pairK P kt = true) : ∃ e, PairT P kt e := by
  unfold pairK at h
  split at h
  · rename_i e hu
    simp only [Bool.and_eq_true, beq_iff_eq] at h
    obtain ⟨h1, h2⟩ := h
    split at h1
    · rename_i he; exact ⟨e, hu, he, h2⟩
    · cases h1
  · cases h
theorem pair_part {P : Program} {kt e : TypeId} (H : PairT P kt e) (w : World) (cs : Array Value) (i : Nat) {v : Value} (h : cs[i]? = some v) : (part e cs i).run P w = .ok v w := by
  have ha : aggB P e = some false := by simp [aggB, H.he]
  simp [part, run_isAgg ha, h]
theorem run_checkKey_pair {P : Program} {kt e : TypeId} (H : PairT P kt e) (w : World) (em : Bool) (a b : Int) : (Instr.checkKey em 10000 kt (.agg #[.int .i64 a, .int .i64 b])).run P w = .ok () w := by
  have hi : ∀ n : Int, (Instr.checkKey em 9999 e (.int .i64 n)).run P w = .ok () w := fun n => run_checkKey H.he (k := .int .i64 n) rfl em 9998
  have p0 := pair_part H w #[.int .i64 a, .int .i64 b] 0 (v := .int .i64 a) rfl
  have p1 := pair_part H w #[.int .i64 a, .int .i64 b] 1 (v := .int .i64 b) rfl
  rw [show (10000 : Nat) = 9999 + 1 from rfl, Instr.checkKey]
  simp only [Sem.run_bind, run_underlying H.hu, Result.andThen_ok]
  simp only [Std.Legacy.Range.forIn_eq_forIn_range', Std.Legacy.Range.size, Nat.sub_zero, Nat.add_one_sub_one, Nat.div_one]
  rw [show List.range' 0 2 1 = [0, 1] from rfl]
  simp [run_sizeOf H.hs, p0, p1, hi]
theorem run_equal_pair {P : Program} {kt e : TypeId} (H : PairT P kt e) (w : World) (a b c d : Int) :
    (Op.equal kt (.agg #[.int .i64 a, .int .i64 b]) (.agg #[.int .i64 c, .int .i64 d])).run P w = .ok (a == c && b == d) w := by
  have hi : ∀ n m : Int, (Op.equalIn 9999 e (.int .i64 n) (.int .i64 m)).run P w = .ok (n == m) w := fun n m => run_equalIn_int (P := P) w 9998 e .i64 _ n m H.he
  have p0 := fun a b : Int => pair_part H w #[.int .i64 a, .int .i64 b] 0 (v := .int .i64 a) rfl
  have p1 := fun a b : Int => pair_part H w #[.int .i64 a, .int .i64 b] 1 (v := .int .i64 b) rfl
  unfold Op.equal
  rw [show Op.maxDepth = 9999 + 1 from rfl, Op.equalIn]
  simp only [Sem.run_bind, run_underlying H.hu, Result.andThen_ok]
  simp only [Std.Legacy.Range.forIn_eq_forIn_range', Std.Legacy.Range.size, Nat.sub_zero, Nat.add_one_sub_one, Nat.div_one]
  rw [show List.range' 0 2 1 = [0, 1] from rfl]
  cases h1 : (a == c) <;> cases h2 : (b == d) <;> simp [run_sizeOf H.hs, p0, p1, hi, h1, h2]
theorem findAsking_pairs {P : Program} {kt e : TypeId} (H : PairT P kt e) (w : World) {n : Int} (hn : n < 0) : ∀ (es : List MapEntry) (ks : List Int) (raws : List Value) (i : Nat), negK ks = true → es.map (·.key) = ks.map kval → es.map (·.val) = raws →
    (Instr.findAsking kt (kval n) es i).run P w = .ok ((mfind ks n).bind fun j => (raws[j]?).map fun u => (i + j, u)) w
  | [], [], raws, i, hp, hk, hv => by simp [Instr.findAsking, mfind]
  | [], k :: ks, raws, i, hp, hk, hv => by simp at hk
  | e :: es, [], raws, i, hp, hk, hv => by simp at hk
  | e :: es, k :: ks, raws, i, hp, hk, hv => by
    simp at hk
    obtain ⟨h1, h2⟩ := hk
    subst hv
    have hk0 := negK_mem hp (List.mem_cons_self ..)
    have hp' : negK ks = true := by unfold negK at hp ⊢; simp only [List.all_cons, Bool.and_eq_true] at hp; exact hp.2
    have hq := run_equal_pair H w ((-n - 1) / 4294967296) ((-n - 1) % 4294967296) ((-k - 1) / 4294967296) ((-k - 1) % 4294967296)
    rw [← kval_neg hn, ← kval_neg hk0, ← h1] at hq
    unfold Instr.findAsking mfind
    simp only [Sem.run_bind, hq, Result.andThen_ok]
    by_cases hkn : k = n
    · subst hkn; simp
    · rw [if_neg hkn]
      have : ((-n - 1) / 4294967296 == (-k - 1) / 4294967296 && (-n - 1) % 4294967296 == (-k - 1) % 4294967296) = false := by
        rw [Bool.eq_false_iff]
        intro h
        simp only [Bool.and_eq_true, beq_iff_eq] at h
        omega
      rw [this]
      simp only [Bool.false_eq_true, if_false]
      rw [findAsking_pairs H w hn es ks _ (i + 1) hp' h2 rfl]
      cases hr : mfind ks n with
      | none => simp
      | some j => simp; congr 1; funext u; simp; omega

/-- What the model does with a key that has this number. -/
structure KeyRun (P : Program) (w : World) (kt : TypeId) (ks : List Int) (n : Int) : Prop where
  check : ∀ em, (Instr.checkKey em 10000 kt (kval n)).run P w = .ok () w
  find : ∀ (es : List MapEntry) (raws : List Value), es.map (·.key) = ks.map kval → es.map (·.val) = raws → (Instr.findKey kt (kval n) es).run P w = .ok ((mfind ks n).bind fun j => (raws[j]?).map fun u => (j, u)) w
  stays : (Instr.keyThatStays (kval n) (kval n)).run P w = .ok (kval n) w
theorem keyC_run {P : Program} {w : World} {ρ β : Fam} {kt : TypeId} {ks : List Int} {i : Value} {y : AV} {n : Int} (hi : AVRep w ρ β i y) (h : keyC P kt ks y = some n) : i = kval n ∧ KeyRun P w kt ks n := by
  unfold keyC at h
  split at h
  · rename_i m
    have ei := rep_c hi
    split at h
    · rename_i hu
      split at h
      · rename_i h0
        split at h
        · rename_i hp
          cases h
          have hkey : IsKey (.int .i64) (.int .i64 n) := rfl
          rw [kval_pos h0]
          refine ⟨ei, ?_, ?_, ?_⟩
          · intro em; rw [kval_pos h0]; exact run_checkKey hu hkey em 9999
          · intro es raws hk hv
            rw [kval_pos h0]
            have := findNow_ints n es ks raws 0 hp hk hv
            rw [run_findKey hu this]
            simp
          · rw [kval_pos h0]; exact run_keyThatStays hkey
        · cases h
      · cases h
    · cases h
  · rename_i a b
    split at h
    · rename_i hp
      split at h
      · rename_i hb
        split at h
        · rename_i hn
          cases h
          obtain ⟨e, H⟩ := pairK_some hp
          have ei : i = .agg #[.int .i64 a, .int .i64 b] := by
            cases hi with
            | agg cs xs hl ho hr =>
              have h0 : ∃ u, cs[0]? = some u := ⟨cs[0]'(by simp at hl; omega), by simp [Array.getElem?_eq_getElem, hl]⟩
              have h1 : ∃ u, cs[1]? = some u := ⟨cs[1]'(by simp at hl; omega), by simp [Array.getElem?_eq_getElem, hl]⟩
              obtain ⟨u0, h0⟩ := h0
              obtain ⟨u1, h1⟩ := h1
              have r0 := hr 0 u0 _ h0 rfl
              have r1 := hr 1 u1 _ h1 rfl
              cases r0; cases r1
              congr 1
              apply Array.ext_getElem?
              intro j
              match j with
              | 0 => simpa using h0
              | 1 => simpa using h1
              | j + 2 => simp [Array.getElem?_eq_none, hl]
          refine ⟨by rw [kval_kP hb]; exact ei, ?_, ?_, ?_⟩
          · intro em; rw [kval_kP hb]; exact run_checkKey_pair H w em a b
          · intro es raws hk hv
            have hf := findAsking_pairs H w (kP_neg hb) es ks raws 0 hn hk hv
            cases es with
            | nil =>
              cases ks with
              | nil => simp [Instr.findKey, run_underlying H.hu, Instr.findNow, mfind]
              | cons k ks => simp at hk
            | cons m es =>
              have : Instr.findNow (.array 2 e) (kval (kP a b)) (m :: es) 0 = none := by rw [kval_kP hb]; simp [Instr.findNow, Instr.sameNow]
              simp only [Instr.findKey, Sem.run_bind, run_underlying H.hu, Result.andThen_ok, this, hf]
              simp
          · rw [kval_kP hb]; simp [Instr.keyThatStays, Instr.sameBits]
        · cases h
      · cases h
    · cases h
  · cases h

section
variable {P : Program} {w : World} {t kt e : TypeId}

theorem zero1_some {z : AC} (h : zero1 P e = some z) (w : World) (ρ β : Fam) : ∃ u, (zeroValue e).run P w = .ok u w ∧ u.oneCell' = true ∧ ACRep w ρ β u z := by
  unfold zero1 at h
  split at h
  · rename_i i hi
    split at h
    · rename_i z' hz
      split at h
      · rename_i ho
        cases h
        refine ⟨z', by simp [zeroValue, typeInfo, run_program, hi, hz], ho, ?_⟩
        unfold constAC
        split
        · exact ⟨none, rfl⟩
        · exact .c _
      · cases h
    · cases h
  · cases h

/-- A look-up in a map. -/
theorem run_lookup_map (ht : P.underlying t = some (.map kt e)) {z : Value} (hz : (zeroValue e).run P w = .ok z w) {g : Nat} {ks : List Int} {raws : List Value}
    (hm : MapCells w g ks raws) {n : Int} (K : KeyRun P w kt ks n) (ok : Bool) :
    (Instr.lookup t (.map (some g)) (kval n) ok).run P w = .ok (match mget ks raws n with
      | some u => if ok then .tuple #[u, .bool true] else u
      | none => if ok then .tuple #[z, .bool false] else z) w := by
  obtain ⟨es, c, h1, h2, h3⟩ := hm
  have hf := K.find es.toList raws h2 h3
  have hc := K.check es.isEmpty
  unfold mget
  cases hr : mfind ks n with
  | none =>
    rw [hr] at hf
    simp only [Option.bind_none] at hf ⊢
    cases ok <;> simp [Instr.lookup, run_underlying ht, MapKept.run_getObj_map h1, hc, hf, Result.andThen, hz]
  | some j =>
    rw [hr] at hf
    have hl : ks.length = raws.length := by
      have a1 := congrArg List.length h2
      have a2 := congrArg List.length h3
      simp at a1 a2; omega
    have hj := mfind_lt hr
    rw [hl] at hj
    simp only [Option.bind_some, List.getElem?_eq_getElem hj, Option.map_some] at hf ⊢
    cases ok <;> simp [Instr.lookup, run_underlying ht, MapKept.run_getObj_map h1, hc, hf, Result.andThen]

theorem run_lookup_nil (ht : P.underlying t = some (.map kt e)) {z : Value} (hz : (zeroValue e).run P w = .ok z w) {n : Int} (K : KeyRun P w kt [] n) (ok : Bool) :
    (Instr.lookup t (.map none) (kval n) ok).run P w = .ok (if ok then .tuple #[z, .bool false] else z) w := by
  have hf := K.find [] [] rfl rfl
  have hc := K.check true
  simp only [mfind, Option.bind_none] at hf
  cases ok <;> simp [Instr.lookup, run_underlying ht, hc, hf, Result.andThen, hz]

/-- A store into a map. -/
theorem run_mapUpdate (ht : P.underlying t = some (.map kt e)) {g : Nat} {ks : List Int} {raws : List Value}
    (hm : MapCells w g ks raws) {n : Int} (K : KeyRun P w kt ks n) (u : Value) :
    ∃ w', (Instr.mapUpdate t (.map (some g)) (kval n) u).run P w = .ok () w' ∧ MapCells w' g (mputK ks n) (mputV ks raws n u) ∧ w'.os = w.os ∧ w'.tape = w.tape ∧ w'.output = w.output ∧
      w'.heap.size = w.heap.size ∧ ∀ k, k ≠ g → w'.heap[k]? = w.heap[k]? := by
  obtain ⟨es, c, h1, h2, h3⟩ := hm
  have hf := K.find es.toList raws h2 h3
  have hc := K.check false
  have hst := K.stays
  unfold mputK mputV
  have hl : ks.length = raws.length := by
    have a1 := congrArg List.length h2
    have a2 := congrArg List.length h3
    simp at a1 a2; omega
  cases hr : mfind ks n with
  | none =>
    rw [hr] at hf
    simp only [Option.bind_none] at hf
    have hs := heap_set (o' := .map (es.push { key := kval n, val := u, born := c }) (c + 1)) h1
    refine ⟨{ w with heap := w.heap.setIfInBounds g (.map (es.push { key := kval n, val := u, born := c }) (c + 1)) },
      by simp [Instr.mapUpdate, run_underlying ht, MapKept.run_getObj_map h1, hc, hf, MapKept.run_setObj_map _ h1, Result.andThen], ⟨_, _, hs.1, by simp [h2], by simp [h3]⟩, rfl, rfl, rfl, by simp, hs.2⟩
  | some j =>
    rw [hr] at hf
    have hj := mfind_lt hr
    have hkj := mfind_get hr
    rw [hl] at hj
    simp only [Option.bind_some, List.getElem?_eq_getElem hj, Option.map_some] at hf
    have hje : j < es.size := by
      have a2 := congrArg List.length h3
      simp at a2; omega
    have hke : (es[j]).key = kval n := by
      have := congrArg (·[j]?) h2
      simp [hkj, hje] at this
      exact this
    have hs := heap_set (o' := .map (es.modify j fun e => { e with key := kval n, val := u }) c) h1
    refine ⟨{ w with heap := w.heap.setIfInBounds g (.map (es.modify j fun e => { e with key := kval n, val := u }) c) },
      ?_, ⟨_, _, hs.1, ?_, ?_⟩, rfl, rfl, rfl, by simp, hs.2⟩
    · simp [Instr.mapUpdate, run_underlying ht, MapKept.run_getObj_map h1, hc, hf, Array.getElem?_eq_getElem hje, hke, hst, MapKept.run_setObj_map _ h1, Result.andThen]
    · have := modify_keys (es := es) j (fun e => { e with key := kval n, val := u }) (fun e he => by
        rw [Array.getElem?_eq_getElem hje] at he; cases he; exact hke.symm)
      rw [this, h2]; simp
    · subst h3
      apply List.ext_getElem?
      intro k
      simp only [List.getElem?_map, Array.getElem?_toList, Array.getElem?_modify, List.getElem?_set]
      by_cases hkj' : j = k
      · subst hkj'; simp [hje]
      · simp [hkj']
end

/-! Structs. -/
theorem eqCells_run {P : Program} {w : World} {ρ β : Fam} {d : Nat} {rx ry : Array Value} {xs ys : List AC} (hx : Seg w ρ β rx.toList xs) (hy : Seg w ρ β ry.toList ys) :
    ∀ (fs : List Field) {b : Bool}, eqCells P fs xs ys = some b → (Op.eqFields (d + 1) rx ry fs).run P w = .ok b w
  | [], b, h => by simp [eqCells] at h; subst h; simp [Op.eqFields]
  | f :: fs, b, h => by
    unfold eqCells at h
    split at h
    · rename_i k a k' c r h1 h2 h3 h4 h5
      split at h
      · rename_i hc
        obtain ⟨hn, rfl⟩ := hc
        cases h
        obtain ⟨u, hu, hru⟩ := hx.get h3
        obtain ⟨v, hv, hrv⟩ := hy.get h4
        cases hru; cases hrv
        have hu' : rx[f.offset]? = some (.int k a) := by simpa using hu
        have hv' : ry[f.offset]? = some (.int k c) := by simpa using hv
        have ih := eqCells_run (d := d) hx hy fs h5
        simp only [Op.eqFields, hn, ne_eq, not_false_eq_true, if_true, Sem.run_bind]
        simp only [part, run_isAgg h1, Sem.run_bind, Result.andThen_ok, Bool.false_eq_true, if_false, hu', hv', Sem.run_pure, run_equalIn_int (P := P) w d f.type k _ a c h2]
        cases hac : (a == c) <;> simp [ih]
      · cases h
    · rename_i a c r h1 h2 h3 h4 h5
      split at h
      · rename_i hn
        cases h
        obtain ⟨u, hu, hru⟩ := hx.get h3
        obtain ⟨v, hv, hrv⟩ := hy.get h4
        cases hru; cases hrv
        have hu' : rx[f.offset]? = some (.string a) := by simpa using hu
        have hv' : ry[f.offset]? = some (.string c) := by simpa using hv
        have ih := eqCells_run (d := d) hx hy fs h5
        simp only [Op.eqFields, hn, ne_eq, not_false_eq_true, if_true, Sem.run_bind]
        simp only [part, run_isAgg h1, Sem.run_bind, Result.andThen_ok, Bool.false_eq_true, if_false, hu', hv', Sem.run_pure, run_equalIn_string (P := P) w d f.type a c h2]
        cases hac : (a.toList == c.toList) <;> simp [ih]
      · cases h
    · cases h

theorem pair_cells {w : World} {ρ β : Fam} {rs : Array Value} {a b : Int} (h : Seg w ρ β rs.toList [.p (.c (.int .i64 a)), .p (.c (.int .i64 b))]) : rs = #[.int .i64 a, .int .i64 b] := by
  obtain ⟨u, hu, hru⟩ := h.get (i := 0) rfl
  obtain ⟨v, hv, hrv⟩ := h.get (i := 1) rfl
  cases hru; cases hrv
  have hl : rs.size = 2 := by simpa using h.len
  apply Array.ext_getElem?
  intro j
  match j with
  | 0 => simpa using hu
  | 1 => simpa using hv
  | j + 2 => simp [Array.getElem?_eq_none, hl]
theorem eqPair_run {P : Program} {w : World} {ρ β : Fam} {t e : TypeId} {rx ry : Array Value} {xs ys : List AC} (ht : P.underlying t = some (.array 2 e)) (hx : Seg w ρ β rx.toList xs) (hy : Seg w ρ β ry.toList ys) {b : Bool}
    (h : eqPair P e xs ys = some b) : (Op.equal t (.agg rx) (.agg ry)).run P w = .ok b w := by
  unfold eqPair at h
  split at h
  · rename_i h1 h2
    cases h
    rw [pair_cells hx, pair_cells hy]
    exact run_equal_pair ⟨ht, h1, h2⟩ w _ _ _ _
  · cases h
theorem qeq_run {P : Program} {w : World} {ρ β : Fam} {op : BinOp} {t : TypeId} {rx ry : Array Value} {xs ys : List AC} (hx : Seg w ρ β rx.toList xs) (hy : Seg w ρ β ry.toList ys) {out : AV}
    (h : qeq P op t xs ys = some out) (ox oy : Operand) : ∃ v, (do Go.eqGuard op t ox oy (.agg rx) (.agg ry); Go.binOp op t (.agg rx) (.agg ry) : Sem Value).run P w = .ok v w ∧ AVRep w ρ β v out := by
  unfold qeq at h
  split at h
  · rename_i fs h1 h2
    cases hb : eqCells P fs.toList xs ys with
    | none => simp [hb] at h
    | some b =>
      simp [hb] at h
      subst h
      simp only [eqOk, Bool.and_eq_true, Bool.not_eq_true'] at h2
      have hf : P.fieldsOf t = fs := by simp [Program.fieldsOf, h1]
      have hr := eqCells_run (d := 9998) hx hy fs.toList hb
      refine ⟨.bool b, ?_, .cell _ _ (.c _)⟩
      rw [Sem.run_bind, run_eqGuard_agg w _ t ox oy rx ry h2.2]
      simp only [Result.andThen_ok]
      rw [run_eql_struct, show (10000 : Nat) = 9999 + 1 from rfl, run_equalIn_agg w 9999 t rx ry (by rw [hf]; exact h1) h2.1, hf, hr]
      rfl
  · rename_i fs h1 h2
    cases hb : eqCells P fs.toList xs ys with
    | none => simp [hb] at h
    | some b =>
      simp [hb] at h
      subst h
      simp only [eqOk, Bool.and_eq_true, Bool.not_eq_true'] at h2
      have hf : P.fieldsOf t = fs := by simp [Program.fieldsOf, h1]
      have hr := eqCells_run (d := 9998) hx hy fs.toList hb
      refine ⟨.bool !b, ?_, .cell _ _ (.c _)⟩
      rw [Sem.run_bind, run_eqGuard_agg w _ t ox oy rx ry h2.2]
      simp only [Result.andThen_ok]
      rw [run_neq_struct, show (10000 : Nat) = 9999 + 1 from rfl, run_equalIn_agg w 9999 t rx ry (by rw [hf]; exact h1) h2.1, hf, hr]
      rfl
  · rename_i e h1 h2
    cases hb : eqPair P e xs ys with
    | none => simp [hb] at h
    | some b =>
      simp [hb] at h
      subst h
      simp only [eqOk, Bool.and_eq_true, Bool.not_eq_true'] at h2
      refine ⟨.bool b, ?_, .cell _ _ (.c _)⟩
      rw [Sem.run_bind, run_eqGuard_agg w _ t ox oy rx ry h2.2]
      simp only [Result.andThen_ok]
      rw [run_eql_struct]
      have := eqPair_run h1 hx hy hb (w := w)
      unfold Op.equal at this
      rw [show (10000 : Nat) = Op.maxDepth from rfl, this]
      rfl
  · rename_i e h1 h2
    cases hb : eqPair P e xs ys with
    | none => simp [hb] at h
    | some b =>
      simp [hb] at h
      subst h
      simp only [eqOk, Bool.and_eq_true, Bool.not_eq_true'] at h2
      refine ⟨.bool !b, ?_, .cell _ _ (.c _)⟩
      rw [Sem.run_bind, run_eqGuard_agg w _ t ox oy rx ry h2.2]
      simp only [Result.andThen_ok]
      rw [run_neq_struct]
      have := eqPair_run h1 hx hy hb (w := w)
      unfold Op.equal at this
      rw [show (10000 : Nat) = Op.maxDepth from rfl, this]
      rfl
  · cases h

theorem mget_rep {α : Type} {ks : List Int} {raws : List Value} {vs : List α} (hl : raws.length = vs.length) (n : Int) :
    (mget ks raws n = none ∧ mget ks vs n = none) ∨ ∃ (j : Nat) (u : Value) (x : α), mget ks raws n = some u ∧ mget ks vs n = some x ∧ raws[j]? = some u ∧ vs[j]? = some x := by
  unfold mget
  cases mfind ks n with
  | none => exact .inl ⟨rfl, rfl⟩
  | some j =>
    simp only [Option.bind_some]
    rcases Nat.lt_or_ge j raws.length with h | h
    · exact .inr ⟨j, raws[j], vs[j], by simp [h], by simp [← hl, h], by simp [h], by simp [← hl, h]⟩
    · exact .inl ⟨by simp [h], by simp [← hl, h]⟩

theorem tup2_rep {w : World} {ρ β : Fam} {u v : Value} {x y : AV} (h1 : AVRep w ρ β u x) (h2 : AVRep w ρ β v y) : AVRep w ρ β (.tuple #[u, v]) (.tup [x, y]) := by
  refine .tup _ _ rfl (fun j a b ha hb => ?_)
  match j, ha, hb with
  | 0, ha, hb => simp at ha hb; subst ha hb; exact h1
  | 1, ha, hb => simp at ha hb; subst ha hb; exact h2
  | j + 2, ha, hb => simp at hb

theorem mv_av {w : World} {ρ β : Fam} {u : Value} {x : MV} (h : MVRep w ρ β u x) : AVRep w ρ β u x.av := by
  cases x with
  | v c => exact .cell _ _ h
  | inner f ks vs =>
    obtain ⟨g, raws, h1, h2, h3, h4⟩ := h
    refine .cell _ _ ⟨g, raws, h1, h2, h3, by simpa using h4.len, h4.one, fun j u y hu hy => ?_⟩
    rw [List.getElem?_map] at hy
    cases hj : vs[j]? with
    | none => simp [hj] at hy
    | some c => simp [hj] at hy; subst hy; exact h4.rep j u c hu hj
  | bad => exact .bad _

theorem qlookup_run {P : Program} {w : World} {ρ β : Fam} {t : TypeId} {v i : Value} {x y : AV} {ok : Bool} (hv : AVRep w ρ β v x) (hi : AVRep w ρ β i y) {out : AV} (h : qlookup P t x y ok = some out) :
    ∃ r, (Instr.lookup t v i ok).run P w = .ok r w ∧ AVRep w ρ β r out := by
  unfold qlookup at h
  split at h
  · rename_i kt e ht
    split at h
    · rename_i z hz
      obtain ⟨u0, hz1, hz2, hz3⟩ := zero1_some hz w ρ β
      have hb : ∀ b : Bool, AVRep w ρ β (.bool b) (.cell (.p (.c (.bool b)))) := fun b => .cell _ _ (.c _)
      have fin : ∀ {α : Type} {g : Nat} {ks : List Int} {raws : List Value} {vs : List α} (f : α → AV) {n : Int}, KeyRun P w kt ks n → MapCells w g ks raws → raws.length = vs.length → (∀ (j : Nat) (u : Value) (x : α), raws[j]? = some u → vs[j]? = some x → AVRep w ρ β u (f x)) →
          ∃ r, (Instr.lookup t (.map (some g)) (kval n) ok).run P w = .ok r w ∧ AVRep w ρ β r (outK z ok ((mget ks vs n).map f)) := by
        intro α g ks raws vs f n K hm hl hr
        refine ⟨_, run_lookup_map ht hz1 hm K ok, ?_⟩
        rcases mget_rep (ks := ks) hl n with ⟨h1, h2⟩ | ⟨j, u, x, h1, h2, h3, h4⟩
        · rw [h1, h2]
          simp only [Option.map_none, outK]
          cases ok
          · exact .cell _ _ hz3
          · exact tup2_rep (.cell _ _ hz3) (hb _)
        · rw [h1, h2]
          simp only [Option.map_some, outK]
          cases ok
          · exact hr j u x h3 h4
          · exact tup2_rep (hr j u x h3 h4) (hb _)
      split at h
      · rename_i ks vs
        rw [Option.map_eq_some_iff] at h
        obtain ⟨n, hn, rfl⟩ := h
        obtain ⟨rfl, K⟩ := keyC_run hi hn
        cases rep_cell hv with
        | mp g raws _ _ hg hm hl ho hr => exact fin (fun c => .cell (.p c)) K hm hl fun j u c hu hc => .cell _ _ (hr j u c hu hc)
      · rename_i f ks vs
        rw [Option.map_eq_some_iff] at h
        obtain ⟨n, hn, rfl⟩ := h
        obtain ⟨rfl, K⟩ := keyC_run hi hn
        obtain ⟨g, raws, rfl, _, hm, hl, _, hr⟩ := rep_cell hv
        exact fin MV.av K hm hl fun j u c hu hc => mv_av (hr j u c hu hc)
      · rw [Option.map_eq_some_iff] at h
        obtain ⟨n, hn, rfl⟩ := h
        obtain ⟨rfl, K⟩ := keyC_run hi hn
        have ev := rep_c hv
        subst ev
        refine ⟨_, run_lookup_nil ht hz1 K ok, ?_⟩
        cases ok
        · exact .cell _ _ hz3
        · exact tup2_rep (.cell _ _ hz3) (hb _)
      · cases h
    · cases h
  · cases h
end Go.Fw
end
section
set_option linter.all false
namespace Go.Fw
variable [Globals]
open Go.RowKit (Below)

theorem Seg.set {w : World} {ρ β : Fam} {raws : List Value} {acs : List AC} (h : Seg w ρ β raws acs) (i : Nat) {u : Value} {x : AC} (ho : u.oneCell' = true) (hu : ACRep w ρ β u x) : Seg w ρ β (raws.set i u) (acs.set i x) := by
  refine ⟨by simp [h.len], fun v hv => ?_, fun j v y hv hy => ?_⟩
  · rcases List.mem_or_eq_of_mem_set hv with h' | rfl
    · exact h.one v h'
    · exact ho
  · rw [List.getElem?_set] at hv hy
    split at hv
    · rename_i e
      subst e
      split at hv
      · rename_i hlt
        cases hv
        rw [if_pos rfl, if_pos (by rw [← h.len]; exact hlt)] at hy
        cases hy; exact hu
      · cases hv
    · rename_i e
      rw [if_neg e] at hy
      exact h.rep j v y hv hy

theorem seg_run {w : World} {ρ β : Fam} {vs : List Value} {xs : List AC} (hv : Seg w ρ β vs xs) : ∀ (off k : Nat) (raws : Array Value) (acs : List AC), Seg w ρ β raws.toList acs →
    Seg w ρ β (((vs.zipIdx k).foldl (fun (cs : Array Value) (p : Value × Nat) => cs.setIfInBounds (off + p.2) p.1) raws)).toList (setRun acs (off + k) xs) := by
  induction vs generalizing xs with
  | nil =>
    intro off k raws acs h
    have : xs = [] := List.eq_nil_of_length_eq_zero (by rw [← hv.len]; rfl)
    subst this
    exact h
  | cons v vs ih =>
    intro off k raws acs h
    cases xs with
    | nil => have := hv.len; simp at this
    | cons x xs =>
      have h1 : Seg w ρ β vs xs := ⟨by simpa using hv.len, fun u hu => hv.one u (by simp [hu]), fun j u y hu hy => hv.rep (j + 1) u y (by simpa using hu) (by simpa using hy)⟩
      have h2 := h.set (off + k) (hv.one v (by simp)) (hv.rep 0 v x rfl rfl)
      rw [← Array.toList_setIfInBounds] at h2
      have := ih h1 off (k + 1) _ _ h2
      simpa [setRun, List.zipIdx_cons, Nat.add_assoc] using this

theorem fill_run {w : World} {ρ β : Fam} {ev : Operand → AV} {ρv : Operand → Value} (he : ∀ x, AVRep w ρ β (ρv x) (ev x)) (place : Nat → Option (Nat × Nat)) : ∀ (parts : List (Nat × Operand)) (ps : List (Nat × List AC)),
    partsA ev parts = some ps → ∀ (raws : Array Value) (acs acs' : List AC), Seg w ρ β raws.toList acs → fillA place acs ps = some acs' →
    ∃ raws' : Array Value, Instr.fill place raws (parts.map fun p => (p.1, ρv p.2)) = some raws' ∧ Seg w ρ β raws'.toList acs'
  | [], ps, hp, raws, acs, acs', hs, hf => by
    simp [partsA] at hp
    subst hp
    simp [fillA] at hf
    subst hf
    exact ⟨raws, rfl, hs⟩
  | (i, x) :: r, ps, hp, raws, acs, acs', hs, hf => by
    simp only [partsA] at hp
    split at hp
    · rename_i cs l h1 h2
      cases hp
      have hx := cells_rep (he x) h1
      simp only [fillA] at hf
      split at hf
      · cases hf
      · rename_i off size hpl
        split at hf
        · cases hf
        · rename_i hc
          have hlen : (ρv x).cells.size = cs.length := by have := hx.len; simpa using this
          have hlen2 : raws.size = acs.length := by have := hs.len; simpa using this
          have h3 := seg_run hx off 0 raws acs hs
          rw [Nat.add_zero] at h3
          obtain ⟨raws', hr, hs'⟩ := fill_run he place r l h2 _ _ acs' h3 hf
          refine ⟨raws', ?_, hs'⟩
          have hcond : ((ρv x).cells.size ≠ size || off + (ρv x).cells.size > raws.size) = false := by
            simp only [Bool.or_eq_false_iff, decide_eq_false_iff_not]
            omega
          simp only [List.map_cons, Instr.fill, hpl, hcond, Bool.false_eq_true, if_false]
          rw [← hr, ← Array.foldl_toList, Array.toList_zipIdx]
    · cases hp

theorem placesA_mapM {P : Program} : ∀ (fs : List Field) (pl : List (Nat × Nat)), placesA P fs = some pl → fs.mapM (fun f => (P.info? f.type).map fun i => (f.offset, i.size)) = some pl
  | [], pl, h => by simp [placesA] at h; subst h; rfl
  | f :: fs, pl, h => by
    simp only [placesA] at h
    split at h
    · rename_i s l h1 h2
      cases h
      obtain ⟨i, hi, rfl⟩ := szOf_some h1
      simp [List.mapM_cons, hi, placesA_mapM fs l h2]
    · cases h

theorem zeroA_some {P : Program} {t : TypeId} {zs : List AC} (h : zeroA P t = some zs) (w : World) (ρ β : Fam) : ∃ i z, P.info? t = some i ∧ i.zero = some z ∧ Seg w ρ β z.cells.toList zs := by
  unfold zeroA at h
  split at h
  · rename_i i hi
    split at h
    · rename_i z hz
      split at h
      · rename_i ho
        cases h
        refine ⟨i, z, hi, hz, by simp, fun u hu => by rw [List.all_eq_true] at ho; exact ho u hu, fun j u x hu hx => ?_⟩
        rw [List.getElem?_map, hu] at hx
        simp at hx
        subst hx
        exact constAC_rep w ρ β u
      · cases h
    · cases h
  · cases h

section
variable {P : Program} {w : World} {prot : Nat → Prop} {ρ β : Fam} {id : Nat} (hA : Apart w prot ρ β)
include hA

theorem qbuild_run {ev : Operand → AV} {ρv : Operand → Value} (he : ∀ x, AVRep w ρ β (ρv x) (ev x)) {t : TypeId} {parts : Array (Nat × Operand)} {out : AV} (h : qbuild P t parts.toList ev = some out) :
    Runs P (Instr.build t (parts.map fun (i, x) => (i, ρv x))) w ρ β id out := by
  unfold qbuild at h
  have hmap : (parts.map fun (i, x) => (i, ρv x)).toList = parts.toList.map fun p => (p.1, ρv p.2) := by simp
  split at h
  · rename_i fields zero ps hu hz hp
    cases hpl : placesA P fields.toList with
    | none => simp [hpl] at h
    | some pl =>
      simp [hpl] at h
      obtain ⟨acs', hf, rfl⟩ := h
      obtain ⟨i, z, hi, hz', hs⟩ := zeroA_some hz w ρ β
      obtain ⟨raws', hr, hs'⟩ := fill_run he (fun i => pl[i]?) parts.toList ps hp z.cells zero acs' hs hf
      refine Runs.same hA (run_build w t _ raws' ?_) (by have := hs'.agg; simpa using this)
      simp only [Program.built, hi, hu, hz', placesA_mapM _ _ hpl, hmap]
      simpa using hr
  · rename_i n e zero ps hu hz hp
    cases hs0 : szOf P e with
    | none => simp [hs0] at h
    | some s =>
      simp [hs0] at h
      obtain ⟨acs', hf, rfl⟩ := h
      obtain ⟨ie, hie, rfl⟩ := szOf_some hs0
      obtain ⟨i, z, hi, hz', hs⟩ := zeroA_some hz w ρ β
      obtain ⟨raws', hr, hs'⟩ := fill_run he (fun i => some (i * ie.size, ie.size)) parts.toList ps hp z.cells zero acs' hs hf
      refine Runs.same hA (run_build w t _ raws' ?_) (by have := hs'.agg; simpa using this)
      simp only [Program.built, hi, hu, hz', hie, hmap]
      exact hr
  · cases h

omit hA in
theorem toCVs_rep {raws : List Value} {acs : List AC} (h : Seg w ρ β raws acs) : ∀ {cs : List CV}, toCVs acs = some cs → CReps w (Bad ρ β) raws cs := by
  obtain ⟨h1, h2, h3⟩ := h
  induction acs generalizing raws with
  | nil =>
    intro cs hc
    simp [toCVs] at hc
    subst hc
    exact ⟨h1, h2, fun j u c hu hc => by simp at hc⟩
  | cons x acs ih =>
    intro cs hc
    cases raws with
    | nil => simp at h1
    | cons u raws =>
      simp only [toCVs] at hc
      split at hc
      · rename_i c l e1 e2
        cases hc
        have := ih (raws := raws) (by simpa using h1) (fun u hu => h2 u (by simp [hu])) (fun j u y hu hy => h3 (j + 1) u y (by simpa using hu) (by simpa using hy)) e2
        refine ⟨by simpa using this.len, h2, fun j v c hv hc => ?_⟩
        cases j with
        | zero => simp at hv hc; subst hv hc; exact toCV_rep (h3 0 u x rfl rfl) e1
        | succ j => exact this.rep j v c (by simpa using hv) (by simpa using hc)
      · cases hc

omit hA in
theorem Seg.append {r1 r2 : List Value} {a1 a2 : List AC} (h : Seg w ρ β r1 a1) (k : Seg w ρ β r2 a2) : Seg w ρ β (r1 ++ r2) (a1 ++ a2) := by
  refine ⟨by simp [h.len, k.len], fun u hu => ?_, fun j u x hu hx => ?_⟩
  · rcases List.mem_append.1 hu with h' | h'
    · exact h.one u h'
    · exact k.one u h'
  · rcases Nat.lt_or_ge j r1.length with hj | hj
    · rw [List.getElem?_append_left hj] at hu
      rw [List.getElem?_append_left (by rw [← h.len]; exact hj)] at hx
      exact h.rep j u x hu hx
    · rw [List.getElem?_append_right hj] at hu
      rw [List.getElem?_append_right (by rw [← h.len]; exact hj), ← h.len] at hx
      exact k.rep _ u x hu hx

def repV (n : Nat) (z : List Value) : List Value := match n with | 0 => [] | n + 1 => z ++ repV n z

omit hA in
theorem repV_range (z : Array Value) : ∀ n, repV n z.toList = (List.range (n * z.size)).map (fun i => z[i % z.size]!)
  | 0 => by simp [repV]
  | n + 1 => by
    rw [repV, repV_range z n, Nat.succ_mul, Nat.add_comm, List.range_add, List.map_append, List.map_map]
    congr 1
    · apply List.ext_getElem
      · simp
      · intro i h1 h2
        have hi : i < z.size := by simpa using h1
        simp [Nat.mod_eq_of_lt hi, hi]
    · apply List.map_congr_left
      intro i _
      simp

omit hA in
theorem repA_seg {z : List Value} {zero : List AC} (h : Seg w ρ β z zero) : ∀ n, Seg w ρ β (repV n z) (repA n zero)
  | 0 => ⟨rfl, by simp [repV], by simp [repV]⟩
  | n + 1 => h.append (repA_seg h n)

omit hA in
theorem fillA_length (place : Nat → Option (Nat × Nat)) : ∀ (ps : List (Nat × List AC)) (cells cells' : List AC), fillA place cells ps = some cells' → cells'.length = cells.length
  | [], cells, cells', h => by simp [fillA] at h; rw [h]
  | (i, v) :: r, cells, cells', h => by
    simp only [fillA] at h
    split at h
    · cases h
    · split at h
      · cases h
      · rw [fillA_length place r _ _ h]
        have : ∀ (xs : List AC) (cells : List AC) (off : Nat), (setRun cells off xs).length = cells.length := by
          intro xs
          induction xs with
          | nil => intro cells off; rfl
          | cons x xs ih => intro cells off; simp [setRun, ih]
        exact this _ _ _

omit hA in
theorem repA_length (zero : List AC) : ∀ n, (repA n zero).length = n * zero.length
  | 0 => by simp [repA]
  | n + 1 => by rw [repA, List.length_append, repA_length zero n, Nat.succ_mul, Nat.add_comm]

theorem qbuildSlice_run (hid : ∀ f, id ≤ f → f < id + 64 → ρ f = none) {ev : Operand → AV} {ρv : Operand → Value} (he : ∀ x, AVRep w ρ β (ρv x) (ev x)) {t : TypeId} {len : Nat} {parts : Array (Nat × Operand)} {out : AV}
    (h : qbuildSlice P id t len parts.toList ev = some out) : Runs P (Instr.buildSlice t len (parts.map fun (i, x) => (i, ρv x))) w ρ β id out := by
  unfold qbuildSlice at h
  have hmap : (parts.map fun (i, x) => (i, ρv x)).toList = parts.toList.map fun p => (p.1, ρv p.2) := by simp
  split at h
  · rename_i e hu
    split at h
    · rename_i s zero ps hs0 hz hp
      split at h
      · rename_i hc
        obtain ⟨hc1, hc2, hc3⟩ := hc
        have hc1' : ¬ (len * s > 2 ^ 24) := by omega
        have hsz := run_sizeOf hs0
        obtain ⟨i, z, hi, hz', hs⟩ := zeroA_some hz w ρ β
        split at h
        · rename_i hl0
          subst hl0
          split at h
          · rename_i hpe
            cases h
            have hps : parts.toList = [] := by
              cases hpl : parts.toList with
              | nil => rfl
              | cons p r =>
                obtain ⟨a, b⟩ := p
                rw [hpl] at hp
                simp only [partsA] at hp
                split at hp
                · cases hp; simp at hpe
                · cases hp
            have hps' : parts = #[] := by apply Array.ext'; simpa using hps
            subst hps'
            refine ⟨.slice (some ⟨w.heap.size, 0, none⟩) 0 0, w.alloc (.cells #[] e), ρ, ?_, ?_, NewFam.refl hA id, .cell _ .z ⟨_, rfl⟩⟩
            · simp [Instr.buildSlice, run_underlying hu, hsz, Instr.fill, newRow, Array.range_zero']
            · exact (Below.refl _ _).alloc (Nat.le_refl _) _
          · cases h
        · rename_i hl0
          split at h
          · rename_i cells hf
            cases hcv : toCVs cells with
            | none => simp [hcv] at h
            | some cs =>
              simp [hcv] at h
              subst h
              have hseg := repA_seg hs len
              have hzl : z.cells.size = s := by have := hs.len; rw [hc2] at this; simpa using this
              have hne : len * s ≠ 0 := by
                intro e; rcases Nat.mul_eq_zero.1 e with e | e <;> omega
              have e1 : ((Array.range (len * s)).map (z.cells[· % z.cells.size]!)).toList = repV len z.cells.toList := by
                rw [repV_range, hzl]; simp
              rw [← e1] at hseg
              obtain ⟨raws', hr, hs'⟩ := fill_run he (fun i => some (i * s, s)) parts.toList ps hp _ _ cells hseg hf
              have hlen : raws'.size = len * s := by
                have := hs'.len
                rw [fillA_length _ _ _ _ hf, repA_length, hc2] at this
                simpa using this
              have hreps := toCVs_rep hs' hcv
              have hN := newOwn (β := β) (w' := w.alloc (.cells raws' e)) hA hid rfl rfl rfl rfl (.inl rfl) (cap := len) (n := len) (sz := s) hlen (Nat.le_refl _)
                (by unfold maxLen; have : len ≤ len * s := Nat.le_mul_of_pos_right _ hc3; omega) (cells := cs) (by
                  rw [List.take_of_length_le (by simp [hlen])]; exact hreps)
              refine ⟨_, _, _, ?_, hN.1, hN.2.1, .cell _ _ hN.2.2⟩
              rw [← hmap] at hr
              have hr' : Instr.fill (fun i => some (i * s, s)) (Array.map (fun x => z.cells[x % z.cells.size]!) (Array.range (len * s))) (parts.map fun (i, x) => (i, ρv x)).toList = some raws' := hr
              simp only [Instr.buildSlice, Sem.run_bind, run_underlying hu, Result.andThen_ok, hsz, hc1', if_false, hne, zeroValue, typeInfo, run_program, hi, hz', Sem.run_pure, hr', newRow, run_newObj]
              rfl
          · cases h
      · cases h
    · cases h
  · cases h

theorem qbuiltin_run {b : Builtin} {ts : Array TypeId} {ty : TypeId} {consts : Array Bool} {vs : Array Value} {xs : List AV} {out : AV} (hl : vs.size = xs.length) (hv : ∀ (j : Nat) (u : Value) (x : AV), vs[j]? = some u → xs[j]? = some x → AVRep w ρ β u x)
    (h : qbuiltin P b ts.toList xs = some out) : ∃ s, builtin b ts ty consts vs = (do pure (.value (← s)) : Sem Next) ∧ Runs P s w ρ β id out := by
  unfold qbuiltin at h
  split at h
  · rename_i t ts' x hts
    have hvs : ∃ v, vs = #[v] := by
      obtain ⟨l⟩ := vs
      match l, hl with
      | [v], _ => exact ⟨v, rfl⟩
    obtain ⟨v, rfl⟩ := hvs
    have hx := hv 0 v x rfl rfl
    have ht : ts[0]? = some t := by rw [← Array.getElem?_toList, hts]; rfl
    refine ⟨_, rfl, ?_⟩
    split at h
    · rename_i s hu
      cases h
      cases rep_c hx
      exact Runs.same hA (by simp [Builtin.len_, ht, run_underlying hu]; rfl) (.cell _ _ (.c _))
    · rename_i n e hu
      cases h
      exact Runs.same hA (by simp [Builtin.len_, ht, run_underlying hu]; rfl) (.cell _ _ (.c _))
    · rename_i e x hu
      cases hsl : x.sl? with
      | none => simp [hsl] at h
      | some p =>
        obtain ⟨n, cells⟩ := p
        simp [hsl] at h
        subst h
        obtain ⟨a, cap, raws, rfl, _⟩ := sl_rep (rep_cell hx) hsl
        exact Runs.same hA (by simp [Builtin.len_, ht, run_underlying hu]; rfl) (.cell _ _ (.c _))
    · cases h
  · rename_i k x k' y
    cases h
    have hvs : ∃ u v, vs = #[u, v] := by
      obtain ⟨l⟩ := vs
      match l, hl with
      | [u, v], _ => exact ⟨u, v, rfl⟩
    obtain ⟨u, v, rfl⟩ := hvs
    cases rep_c (hv 0 u _ rfl rfl)
    cases rep_c (hv 1 v _ rfl rfl)
    exact ⟨_, rfl, Runs.same hA (run_max_int2 w _ _ k k' x y) (.cell _ _ (.c _))⟩
  · rename_i k x k' y
    cases h
    have hvs : ∃ u v, vs = #[u, v] := by
      obtain ⟨l⟩ := vs
      match l, hl with
      | [u, v], _ => exact ⟨u, v, rfl⟩
    obtain ⟨u, v, rfl⟩ := hvs
    cases rep_c (hv 0 u _ rfl rfl)
    cases rep_c (hv 1 v _ rfl rfl)
    exact ⟨_, rfl, Runs.same hA (run_min_int2 w _ _ k k' x y) (.cell _ _ (.c _))⟩
  · cases h

omit hA in
theorem optRep {ev : Operand → AV} {ρv : Operand → Value} (he : ∀ x, AVRep w ρ β (ρv x) (ev x)) (o : Option Operand) : OptRep w ρ β (o.map ρv) (o.map ev) := by
  cases o with
  | none => trivial
  | some x => exact he x

/-- Operations that make a family. -/
def creates : Op → Bool
  | .convert _ _ _ => true
  | .buildSlice _ _ _ => true
  | _ => false

/-- ALL QUIET OPERATIONS. -/
theorem qval_run {o : Oper} (hid : creates o.op = true → ∀ f, id ≤ f → f < id + 64 → ρ f = none) {bx : Nat → Option (List AC)}
    (hbx : ∀ i xs, bx i = some xs → BoxRep w ρ β prot i xs)
    {ev : Operand → AV} {ρv : Operand → Value} (he : ∀ x, AVRep w ρ β (ρv x) (ev x)) {out : AV} (h : qval P id ev bx o.op = some out) :
    ∃ v w' ρ', (execOp ρv o).run P w = .ok (.value v) w' ∧ Below w.heap.size w w' ∧ NewFam w ρ w' ρ' id ∧ AVRep w' ρ' β v out := by
  have fin : ∀ s : Sem Value, execOp ρv o = (do pure (.value (← s)) : Sem Next) → Runs P s w ρ β id out →
      ∃ v w' ρ', (execOp ρv o).run P w = .ok (.value v) w' ∧ Below w.heap.size w w' ∧ NewFam w ρ w' ρ' id ∧ AVRep w' ρ' β v out := by
    rintro s e ⟨v, w', ρ', hr, h1, h2, h3⟩
    exact ⟨v, w', ρ', by rw [e]; simp [hr], h1, h2, h3⟩
  obtain ⟨dst, op, ty, pos, after, guard⟩ := o
  simp only at h fin hid ⊢
  have same : ∀ v, (execOp ρv ⟨dst, op, ty, pos, after, guard⟩).run P w = .ok (.value v) w → AVRep w ρ β v out →
      ∃ v w' ρ', (execOp ρv ⟨dst, op, ty, pos, after, guard⟩).run P w = .ok (.value v) w' ∧ Below w.heap.size w w' ∧ NewFam w ρ w' ρ' id ∧ AVRep w' ρ' β v out :=
    fun v hr hv => ⟨v, w, ρ, hr, Below.refl _ _, NewFam.refl hA id, hv⟩
  cases op <;> simp only [qval] at h <;> try (cases h; done)
  case move x => cases h; exact same _ rfl (he x)
  case assign x => cases h; exact same _ rfl (he x)
  case pick c a b =>
    split at h
    · rename_i t ht
      cases h
      have hc := he c
      rw [ht] at hc
      have hc := rep_c hc
      refine same (if t then ρv a else ρv b) (by simp [execOp, hc, asBool]) ?_
      split <;> exact he _
    · cases h
  case build t parts => exact fin _ rfl (qbuild_run hA he h)
  case buildSlice t len parts => exact fin _ rfl (qbuildSlice_run hA (hid rfl) he h)
  case load t x => exact fin _ rfl (qload_run hA hbx (he x) h)
  case nilCheck x =>
    split at h
    · rename_i b off hx
      cases h
      have hc := he x
      rw [hx] at hc
      obtain ⟨g, hg, hv⟩ := rep_cell hc
      exact same _ (by simp [execOp, hv]) (.cell _ _ ⟨g, hg, rfl⟩)
    · cases h
  case binOp op t x y ty' =>
    split at h
    · rename_i u v hx hy
      cases hb : valBin P op t u v with
      | none => simp [hb] at h
      | some r =>
        simp [hb] at h
        subst h
        have h1 := he x
        have h2 := he y
        rw [hx] at h1; rw [hy] at h2
        have h1 := rep_c h1
        have h2 := rep_c h2
        have := valBin_run hb w x y
        refine same r ?_ (.cell _ _ (.c _))
        simp only [execOp, h1, h2]
        rw [Sem.run_bind, this]
        rfl
    · rename_i xs ys hx hy
      have h1 := he x
      have h2 := he y
      rw [hx] at h1; rw [hy] at h2
      obtain ⟨cx, e1, s1⟩ := Seg.ofAgg h1
      obtain ⟨cy, e2, s2⟩ := Seg.ofAgg h2
      obtain ⟨r, hr, hv⟩ := qeq_run s1 s2 h x y
      refine same r ?_ hv
      simp only [execOp, e1, e2]
      rw [Sem.run_bind, hr]
      rfl
    · cases h
  case unOp op t x =>
    split at h
    · rename_i u hx
      cases hb : valUn op u with
      | none => simp [hb] at h
      | some r =>
        simp [hb] at h
        subst h
        have h1 := he x
        rw [hx] at h1
        have h1 := rep_c h1
        refine same r ?_ (.cell _ _ (.c _))
        simp [execOp, h1, valUn_run hb w]
    · cases h
  case convert src dst x => exact fin _ rfl (qconv_run hA (fun _ => hid rfl) (he x) h)
  case slice t x lo hi mx => exact fin _ rfl (qslice_run hA (he x) (optRep he lo) (optRep he hi) (optRep he mx) h)
  case fieldAddr s x f => exact fin _ rfl (qfieldAddr_run hA (he x) h)
  case field s x f => exact fin _ rfl (qfield_run hA (he x) h)
  case indexAddr t x i => exact fin _ rfl (qindexAddr_run hA (he x) (he i) h)
  case index t x i => exact fin _ rfl (qindex_run hA (he x) (he i) h)
  case lookup t x i ok =>
    obtain ⟨r, hr, hv⟩ := qlookup_run (he x) (he i) h
    exact same r (by simp [execOp, hr]) hv
  case extract t i =>
    split at h
    · rename_i xs hx
      have h1 := he t
      rw [hx] at h1
      obtain ⟨vs, hv, hl, hr⟩ := rep_tup h1
      have hi : i < vs.size := by
        rw [hl]
        rcases Nat.lt_or_ge i xs.length with h' | h'
        · exact h'
        · simp [List.getElem?_eq_none h'] at h
      refine same vs[i] ?_ (hr i _ _ (Array.getElem?_eq_getElem hi) h)
      simp [execOp, hv, Instr.extract, hi]
    · cases h
  case call c =>
    obtain ⟨callee, args, ts⟩ := c
    cases callee <;> simp only at h <;> try (cases h; done)
    rename_i b
    obtain ⟨s, hs, hr⟩ := qbuiltin_run (id := id) hA (ty := ty) (consts := args.map fun | .const _ => true | _ => false) (vs := args.map ρv) (by simp) (fun j u x hu hx => by
      simp at hu hx
      obtain ⟨x1, hx1, rfl⟩ := hu
      obtain ⟨x2, hx2, rfl⟩ := hx
      rw [hx1] at hx2; cases hx2
      exact he _) h
    refine fin s ?_ hr
    simp only [execOp, resolve, invoke, pure_bind]
    exact hs

end
end Go.Fw
end
section
set_option linter.all false
namespace Go.Fw
variable [Globals]
open Go.RowKit (Below)

def St.retire (F : Nat → Bool) (st : St) : St := ⟨fun s => (st.env s).retire F, fun i => (st.box i).map (·.map (·.retire F))⟩
def St.poison (F : Nat → Bool) (st : St) : St := ⟨fun s => (st.env s).poison F, fun i => (st.box i).map (·.map (·.poison F))⟩
def St.unbox (i : Nat) (st : St) : St := ⟨fun s => (st.env s).unbox i, fun k => if k = i then none else (st.box k).map (·.map (·.unbox i))⟩

theorem BoxRep.map {w w' : World} {ρ β ρ' β' : Fam} {prot : Nat → Prop} {i : Nat} {xs : List AC} (h : BoxRep w ρ β prot i xs) (g : AC → AC) (hβ : β' (2 * i) = β (2 * i))
    (hw : ∀ b, β (2 * i) = some b → w'.heap[b]? = w.heap[b]?) (hg : ∀ v x, ACRep w ρ β v x → ACRep w' ρ' β' v (g x)) : BoxRep w' ρ' β' prot i (xs.map g) := by
  obtain ⟨b, raws, e, h1, h2, h3, h4, h5, h6⟩ := h
  refine ⟨b, raws, e, by rw [hβ]; exact h1, h2, by rw [hw b h1]; exact h3, by simpa using h4, h5, fun j u x hu hx => ?_⟩
  rw [List.getElem?_map] at hx
  cases hj : xs[j]? with
  | none => simp [hj] at hx
  | some y => simp [hj] at hx; subst hx; exact hg u y (h6 j u y hu hj)

theorem ghost_retire {F : Nat → Bool} {x : AV} {l k : Nat} {xs : List (List EV)} {v : Bool} (h : x.retire F = .cell (.ghost l xs k v)) : x = .cell (.ghost l xs k v) := by
  cases x with
  | cell x =>
    simp only [AV.retire, AV.cell.injEq] at h
    cases x <;> simp only [AC.retire] at h <;> try (split at h <;> cases h)
    all_goals (try (rename_i k' _ _; cases k' <;> simp only at h))
    all_goals (first | (cases h; done) | (split at h <;> cases h; done) | (split at h; (split at h <;> cases h); cases h) | (rw [h]))
  | agg xs => simp [AV.retire] at h
  | tup xs => simp [AV.retire] at h
  | bad => simp [AV.retire] at h
theorem ghost_poison {F : Nat → Bool} {x : AV} {l k : Nat} {xs : List (List EV)} {v : Bool} (h : x.poison F = .cell (.ghost l xs k v)) : x = .cell (.ghost l xs k v) := by
  cases x with
  | cell x =>
    simp only [AV.poison, AV.cell.injEq] at h
    cases x <;> simp only [AC.poison] at h <;> try (split at h <;> cases h)
    all_goals (try (rename_i k' _ _; cases k' <;> simp only at h))
    all_goals (first | (cases h; done) | (split at h <;> cases h; done) | (rw [h]))
  | agg xs => simp [AV.poison] at h
  | tup xs => simp [AV.poison] at h
  | bad => simp [AV.poison] at h
theorem ghost_unbox {i : Nat} {x : AV} {l k : Nat} {xs : List (List EV)} {v : Bool} (h : x.unbox i = .cell (.ghost l xs k v)) : x = .cell (.ghost l xs k v) := by
  cases x with
  | cell x =>
    simp only [AV.unbox, AV.cell.injEq] at h
    cases x <;> simp only [AC.unbox] at h
    all_goals (first | (cases h; done) | (split at h <;> cases h; done) | (rw [h]))
  | agg xs => simp [AV.unbox] at h
  | tup xs => simp [AV.unbox] at h
  | bad => simp [AV.unbox] at h

section
variable {C : Cx} {st : St} {a : Act} {w : World} {ρ β : Fam}

theorem J.retire (h : J C st a w ρ β) (F : Nat → Bool) : J C (st.retire F) a w (ρ.drop F) β := by
  refine ⟨h.size, h.ext.of rfl (fun _ _ _ _ e => ghost_retire e), h.os, h.tape, h.output, h.grown, h.kept, h.protlt, h.phan, h.apart.drop F, fun s => retire_av h.apart F (h.env s), fun i xs hx => ?_, fun g cs hg => retire_av h.apart F (h.glob g cs hg), h.pin⟩
  simp only [St.retire] at hx
  cases hb : st.box i with
  | none => simp [hb] at hx
  | some ys => simp [hb] at hx; subst hx; exact (h.box i ys hb).map _ rfl (fun _ _ => rfl) (retire_ac h.apart F)

theorem J.unbox (h : J C st a w ρ β) (i : Nat) (hpin : C.pin i = none) : J C (st.unbox i) a w ρ (β.drop (· == 2 * i)) := by
  have e : ∀ f b, β.drop (· == 2 * i) f = some b → β f = some b := by intro f b; unfold Fam.drop; split <;> simp
  refine ⟨h.size, h.ext.of rfl (fun _ _ _ _ e => ghost_unbox e), h.os, h.tape, h.output, h.grown, h.kept, h.protlt, fun b hb => ?_, ⟨h.apart.fam, fun k b hb => h.apart.box k b (e _ _ hb), h.apart.inj, fun f f' b h1 h2 => h.apart.injB f f' b (e _ _ h1) (e _ _ h2), fun f k b h1 h2 => h.apart.sep f k b h1 (e _ _ h2), fun i b hb => h.apart.boxp i b (e _ _ hb)⟩, fun s => unbox_av i (h.env s), fun k xs hx => ?_, fun g cs hg => unbox_av i (h.glob g cs hg), fun k q hq => by
    have hne : k ≠ i := by rintro rfl; rw [hpin] at hq; cases hq
    simp only [Fam.drop]; rw [if_neg (by simp; omega)]; exact h.pin k q hq⟩
  · simp only [Fam.drop]; rw [if_neg (by simp; omega)]; exact h.phan b hb
  · simp only [St.unbox] at hx
    split at hx
    · cases hx
    · rename_i hne
      cases hb : st.box k with
      | none => simp [hb] at hx
      | some ys =>
        simp [hb] at hx; subst hx
        exact (h.box k ys hb).map _ (by simp only [Fam.drop]; rw [if_neg (by simp; omega)]) (fun _ _ => rfl) (unbox_ac i)

/-- Families in F are written: their blocks turn, or lead elsewhere. -/
theorem J.extE (h : J C st a w ρ β) {F : Nat → Bool} {w' : World} {ρ' : Fam} (E : ExtE F w ρ β w' ρ' β) (hA : Apart w' C.prot ρ' β) (hos : w'.os = w.os) (ht : w'.tape = w.tape) (hout : w'.output = w.output)
    (hsz : w.heap.size ≤ w'.heap.size) (hk : ∀ b, C.prot b → w'.heap[b]? = w.heap[b]?) (hbx : ∀ i b, β i = some b → w'.heap[b]? = w.heap[b]?) : J C (st.poison F) a w' ρ' β := by
  refine ⟨h.size, h.ext.of rfl (fun _ _ _ _ e => ghost_poison e), hos.trans h.os, ht.trans h.tape, hout.trans h.output, Nat.le_trans h.grown hsz, fun b hb => (hk b hb).trans (h.kept b hb), h.protlt, h.phan, hA, fun s => E.av (h.env s), fun i xs hx => ?_, fun g cs hg => E.av (h.glob g cs hg), h.pin⟩
  simp only [St.poison] at hx
  cases hb : st.box i with
  | none => simp [hb] at hx
  | some ys => simp [hb] at hx; subst hx; exact (h.box i ys hb).map _ rfl (fun b hb => hbx _ b hb) E.ac
end

/-! Labels. -/
def MV.labs : MV → List Nat
  | .inner f _ _ => [f]
  | _ => []
def MV.shift (k : Nat) : MV → MV
  | .inner f ks vs => .inner (k + f) ks vs
  | x => x
def MV.pure : MV → MV
  | .inner _ ks vs => .v (.mp ks vs)
  | x => x
def AC.labs : AC → List Nat
  | .mown f _ vs => f :: vs.flatMap MV.labs
  | .own f _ _ _ => [f]
  | .view f _ _ => [f]
  | .tl f _ _ _ => [f]
  | .ep (some f) _ _ => [f]
  | .epo f _ _ => [f]
  | _ => []
def AV.labs : AV → List Nat
  | .cell x => x.labs
  | .agg xs => xs.flatMap AC.labs
  | .tup xs => go xs
  | .bad => []
where
  go : List AV → List Nat
    | [] => []
    | x :: xs => x.labs ++ go xs

def AC.shift (k : Nat) : AC → AC
  | .mown f ks vs => .mown (k + f) ks (vs.map (·.shift k))
  | .own f sz n cells => .own (k + f) sz n cells
  | .view f n cells => .view (k + f) n cells
  | .tl f sz n cells => .tl (k + f) sz n cells
  | .ep (some f) cells pos => .ep (some (k + f)) cells pos
  | .epo f cells pos => .epo (k + f) cells pos
  | .fn _ _ => .bad
  | x => x
def AV.shift (k : Nat) : AV → AV
  | .cell x => .cell (x.shift k)
  | .agg xs => .agg (xs.map (·.shift k))
  | .tup xs => .tup (go xs)
  | .bad => .bad
where
  go : List AV → List AV
    | [] => []
    | x :: xs => x.shift k :: go xs

/-- How a value is seen as an argument: nothing is owned. -/
def AC.arg : AC → AC
  | .mown _ ks vs => match mvCVs (vs.map MV.pure) with | some cs => .p (.mp ks cs) | none => .bad
  | .p x => .p x
  | .z => .z
  | .own _ _ n cells => .p (.sl n cells)
  | .view _ n cells => .p (.sl n cells)
  | .tl _ _ n cells => .p (.sl n cells)
  | _ => .bad
def AV.arg : AV → AV
  | .cell x => .cell x.arg
  | .agg xs => .agg (xs.map AC.arg)
  | .tup xs => .tup (go xs)
  | .bad => .bad
where
  go : List AV → List AV
    | [] => []
    | x :: xs => x.arg :: go xs

def CV.isC : CV → Bool
  | .c _ => true
  | _ => false
/-- No block is reached but by a label. -/
def AC.flat : AC → Bool
  | .p x => x.isC
  | .z => true
  | .own _ _ _ cells => cells.all CV.isC
  | .bad => true
  | _ => false
def AV.flat : AV → Bool
  | .cell x => x.flat
  | .agg xs => xs.all AC.flat
  | .tup xs => go xs
  | .bad => true
where
  go : List AV → Bool
    | [] => true
    | x :: xs => x.flat && go xs

theorem labs_go (xs : List AV) : AV.labs.go xs = xs.flatMap AV.labs := by
  induction xs with
  | nil => rfl
  | cons x xs ih => simp [AV.labs.go, ih]
theorem shift_go (k : Nat) (xs : List AV) : AV.shift.go k xs = xs.map (·.shift k) := by
  induction xs with
  | nil => rfl
  | cons x xs ih => simp [AV.shift.go, ih]
theorem arg_go (xs : List AV) : AV.arg.go xs = xs.map AV.arg := by
  induction xs with
  | nil => rfl
  | cons x xs ih => simp [AV.arg.go, ih]
theorem flat_go (xs : List AV) : AV.flat.go xs = xs.all AV.flat := by
  induction xs with
  | nil => rfl
  | cons x xs ih => simp [AV.flat.go, ih]

/-- As 'AVRep.lift', for cells of which something is known. -/
theorem AVRep.lift' {w w' : World} {ρ β ρ' β' : Fam} (g : AC → AC) (G : AV → AV) (hcell : ∀ x, G (.cell x) = .cell (g x)) (hagg : ∀ xs, G (.agg xs) = .agg (xs.map g))
    (htup : ∀ xs, G (.tup xs) = .tup (xs.map G)) (hbad : G .bad = .bad) (p : AC → Prop) (q : AV → Prop) (qcell : ∀ x, q (.cell x) → p x) (qagg : ∀ xs, q (.agg xs) → ∀ x ∈ xs, p x) (qtup : ∀ xs, q (.tup xs) → ∀ x ∈ xs, q x)
    (hg : ∀ v x, p x → ACRep w ρ β v x → ACRep w' ρ' β' v (g x)) {v : Value} {x : AV} (h : AVRep w ρ β v x) : q x → AVRep w' ρ' β' v (G x) := by
  induction h with
  | cell v x h => intro hq; rw [hcell]; exact .cell v _ (hg v x (qcell x hq) h)
  | agg cs xs hl ho h =>
    intro hq
    rw [hagg]
    refine .agg cs _ (by simpa using hl) ho (fun j u x hu hx => ?_)
    rw [List.getElem?_map] at hx
    cases hj : xs[j]? with
    | none => simp [hj] at hx
    | some y => simp [hj] at hx; subst hx; exact hg u y (qagg xs hq y (List.mem_of_getElem? hj)) (h j u y hu hj)
  | tup vs xs hl h ih =>
    intro hq
    rw [htup]
    refine .tup vs _ (by simpa using hl) (fun j u x hu hx => ?_)
    rw [List.getElem?_map] at hx
    cases hj : xs[j]? with
    | none => simp [hj] at hx
    | some y => simp [hj] at hx; subst hx; exact ih j u y hu hj (qtup xs hq y (List.mem_of_getElem? hj))
  | bad v => intro _; rw [hbad]; exact .bad v

def noneF : Fam := fun _ => none
open Classical in
/-- Blocks that no pure value may lead to, as boxes that nobody names. -/
noncomputable def beta0 (bad : Nat → Prop) : Fam := fun i => if i % 2 = 1 ∧ bad (i / 2) then some (i / 2) else none

theorem bad_beta0 (ρ : Fam) (bad : Nat → Prop) (b : Nat) : Bad ρ (beta0 bad) b ↔ (∃ f, ρ f = some b) ∨ bad b := by
  constructor
  · rintro (h | ⟨i, hi⟩)
    · exact .inl h
    · unfold beta0 at hi; split at hi
      · rename_i h; cases hi; exact .inr h.2
      · cases hi
  · rintro (h | h)
    · exact .inl h
    · refine .inr ⟨2 * b + 1, ?_⟩
      unfold beta0
      have e : (2 * b + 1) / 2 = b := by omega
      rw [e, if_pos ⟨by omega, h⟩]

theorem bad_none (bad : Nat → Prop) (b : Nat) : Bad noneF (beta0 bad) b ↔ bad b := by
  rw [bad_beta0]; simp [noneF]

/-- THE CONTRACT OF ONE CALL: arguments that represent args; the result represents r; nothing old is written. -/
def At (P : Program) (f : FuncId) (args : List AV) (r : AV) : Prop :=
  (∃ fn, P.funcs[f]? = some fn ∧ (fn.name == "runtime.NumGoroutine") = false ∧ fn.body.isNone = false) ∧
  ∀ (w : World) (vs : Array Value) (bad0 : Nat → Prop), (∀ b, bad0 b → b < w.heap.size) → vs.size = args.length →
    (∀ (j : Nat) (u : Value) (x : AV), vs[j]? = some u → args[j]? = some x → AVRep w noneF (beta0 bad0) u x) →
    (∀ g cs, Globals.G g = some cs → AVRep w noneF (beta0 bad0) (.pointer (some ⟨g, 0, none⟩)) (.cell (.ep none cs 0))) →
    Calls P f vs w fun e w' => ∃ v ρr, e = .returned v ∧ Below w.heap.size w w' ∧ (∀ g b, ρr g = some b → w.heap.size ≤ b ∧ b < w'.heap.size) ∧
      (∀ g g' b, ρr g = some b → ρr g' = some b → g = g') ∧ AVRep w' ρr (beta0 bad0) v r

def inL (l : List Nat) : Nat → Bool := fun f => l.contains f
def isId (id : Nat) : Nat → Bool := fun f => decide (id ≤ f) && decide (f < id + 64)

theorem arg_ac {w : World} {prot : Nat → Prop} {ρ β : Fam} (hA : Apart w prot ρ β) (F : Nat → Bool) (v : Value) (x : AC) (hF : ∀ f ∈ x.labs, F f = true) (h : ACRep w ρ β v x) :
    ACRep w noneF (beta0 (Bad (ρ.drop F) β)) v x.arg := by
  have h1 := retire_ac hA F v x h
  have pm : Hx w (Bad (ρ.drop F) β) w (Bad noneF (beta0 (Bad (ρ.drop F) β))) := Hx.same fun b hb => by rw [bad_none]; exact hb
  cases x with
  | p x => exact CRep.mono pm h1
  | z => exact h
  | own f sz n cells => simp only [AC.retire, hF f (by simp [AC.labs]), if_true] at h1; exact CRep.mono pm h1
  | view f n cells => simp only [AC.retire, hF f (by simp [AC.labs]), if_true] at h1; exact CRep.mono pm h1
  | tl f sz n cells => simp only [AC.retire, hF f (by simp [AC.labs]), if_true] at h1; exact CRep.mono pm h1
  | ep k cells pos => trivial
  | epo f cells pos => trivial
  | ptr b off => trivial
  | fn g caps => trivial
  | yield l => trivial
  | ghost l xs k v => trivial
  | mown f ks vs =>
    have e : vs.map (·.retire F) = vs.map MV.pure := by
      apply List.map_congr_left
      intro x hx
      cases x with
      | inner f' ks' vs' =>
        have : F f' = true := hF f' (by simp only [AC.labs, List.mem_cons, List.mem_flatMap]; exact .inr ⟨_, hx, by simp [MV.labs]⟩)
        simp [MV.retire, MV.pure, this]
      | _ => rfl
    simp only [AC.retire, hF f (by simp [AC.labs]), if_true, e] at h1
    simp only [AC.arg]
    split <;> rename_i hc
    · rw [hc] at h1; exact CRep.mono pm h1
    · trivial
  | bad => trivial

theorem arg_av {w : World} {prot : Nat → Prop} {ρ β : Fam} (hA : Apart w prot ρ β) (F : Nat → Bool) {v : Value} {x : AV} (h : AVRep w ρ β v x) (hF : ∀ f ∈ x.labs, F f = true) :
    AVRep w noneF (beta0 (Bad (ρ.drop F) β)) v x.arg :=
  AVRep.lift' AC.arg AV.arg (fun _ => rfl) (fun _ => rfl) (fun xs => by simp [AV.arg, arg_go]) rfl (fun x => ∀ f ∈ x.labs, F f = true) (fun x => ∀ f ∈ x.labs, F f = true) (fun _ h => h)
    (fun xs h x hx f hf => h f (by simp only [AV.labs, List.mem_flatMap]; exact ⟨x, hx, hf⟩)) (fun xs h x hx f hf => h f (by simp only [AV.labs, labs_go, List.mem_flatMap]; exact ⟨x, hx, hf⟩))
    (fun v x hp hr => arg_ac hA F v x hp hr) h hF

/-- The families that a call's result brings. -/
def Fam.join (ρ ρr : Fam) (id : Nat) : Fam := fun g => if id ≤ g ∧ g < id + 64 then ρr (g - id) else ρ g

theorem isC_rep {w w' : World} {bad bad' : Nat → Prop} {raws : List Value} {cells : List CV} (h : CReps w bad raws cells) (hc : cells.all CV.isC = true) : CReps w' bad' raws cells := by
  refine ⟨h.len, h.one, fun j u c hu hj => ?_⟩
  have h1 := h.rep j u c hu hj
  rw [List.all_eq_true] at hc
  have h2 := hc c (List.mem_of_getElem? hj)
  cases c with
  | c v => cases h1; exact .c _
  | _ => simp [CV.isC] at h2

theorem shift_ac {w : World} {ρ ρr β βr : Fam} {id : Nat} (v : Value) (x : AC) (hlab : ∀ f ∈ x.labs, f < 64) (hp : x.flat = true ∨ ∀ b, ¬ Bad ρr βr b → ¬ Bad (ρ.join ρr id) β b) (hb : ∀ b, βr (2 * b) = none)
    (h : ACRep w ρr βr v x) : ACRep w (ρ.join ρr id) β v (x.shift id) := by
  have hj : ∀ f, f < 64 → (ρ.join ρr id) (id + f) = ρr f := by
    intro f hf
    unfold Fam.join
    rw [if_pos ⟨by omega, by omega⟩]
    congr 1; omega
  cases x with
  | p x =>
    rcases hp with hp | hp
    · cases x with
      | c u => cases h; exact .c _
      | _ => simp [AC.flat, CV.isC] at hp
    · exact CRep.mono (Hx.same hp) h
  | z => exact h
  | own f sz n cells =>
    have hf := hj f (hlab f (by simp [AC.labs]))
    obtain ⟨raws, ⟨hl, ho⟩, hr⟩ := h
    refine ⟨raws, ⟨hl, by rw [hf]; exact ho⟩, ?_⟩
    rcases hp with hp | hp
    · exact isC_rep hr hp
    · exact hr.mono (Hx.same hp)
  | tl f sz n cells =>
    have hf := hj f (hlab f (by simp [AC.labs]))
    rcases hp with hp | hp
    · simp [AC.flat] at hp
    · obtain ⟨raws, ⟨hl, ho⟩, hr⟩ := h
      exact ⟨raws, ⟨hl, by rw [hf]; exact ho⟩, hr.mono (Hx.same hp)⟩
  | view f n cells =>
    have hf := hj f (hlab f (by simp [AC.labs]))
    rcases hp with hp | hp
    · simp [AC.flat] at hp
    · obtain ⟨a, cap, raws, h1, h2, h3, h4, hr⟩ := h
      exact ⟨a, cap, raws, h1, h2, h3, by rw [hf]; exact h4, hr.mono (Hx.same hp)⟩
  | ep k cells pos =>
    rcases hp with hp | hp
    · simp [AC.flat] at hp
    · cases k with
      | none =>
        obtain ⟨y, raws, h1, h2, hr⟩ := h
        exact ⟨y, raws, h1, fun j u hj => ⟨hp _ (h2 j u hj).1, (h2 j u hj).2⟩, hr.mono (Hx.same hp)⟩
      | some f =>
        have hf := hj f (hlab f (by simp [AC.labs]))
        obtain ⟨y, raws, h1, h2, hr⟩ := h
        exact ⟨y, raws, h1, by rw [hf]; exact h2, hr.mono (Hx.same hp)⟩
  | epo f cells pos =>
    rcases hp with hp | hp
    · simp [AC.flat] at hp
    · have hf := hj f (hlab f (by simp [AC.labs]))
      obtain ⟨g, cur, e, fr, h1, h2, h3, h4, h5, hr⟩ := h
      exact ⟨g, cur, e, fr, h1, by rw [hf]; exact h2, h3, h4, h5, hr.mono (Hx.same hp)⟩
  | ptr b off =>
    obtain ⟨g, hg, _⟩ := h
    rw [hb] at hg; cases hg
  | fn g caps => trivial
  | yield l => exact h
  | ghost l xs k v => trivial
  | mown f ks vs =>
    rcases hp with hp | hp
    · simp [AC.flat] at hp
    · have hf := hj f (hlab f (by simp [AC.labs]))
      obtain ⟨g, raws, h1, h2, h3, h4, h5, h6⟩ := h
      refine ⟨g, raws, h1, by rw [hf]; exact h2, h3, by simpa using h4, h5, fun j u y hu hy => ?_⟩
      rw [List.getElem?_map] at hy
      cases hk : vs[j]? with
      | none => simp [hk] at hy
      | some x =>
        simp [hk] at hy; subst hy
        have hx := h6 j u x hu hk
        have hmem := List.mem_of_getElem? hk
        cases x with
        | v x => exact CRep.mono (Hx.same hp) hx
        | inner f' ks' vs' =>
          obtain ⟨g', raws', a1, a2, a3, a4⟩ := hx
          have hf' := hj f' (hlab f' (by simp only [AC.labs, List.mem_cons, List.mem_flatMap]; exact .inr ⟨_, hmem, by simp [MV.labs]⟩))
          exact ⟨g', raws', a1, by rw [hf']; exact a2, a3, a4.mono (Hx.same hp)⟩
        | bad => trivial
  | bad => trivial

theorem shift_av {w : World} {ρ ρr β βr : Fam} {id : Nat} (hb : ∀ b, βr (2 * b) = none) {v : Value} {x : AV} (h : AVRep w ρr βr v x) (hlab : ∀ f ∈ x.labs, f < 64)
    (hp : x.flat = true ∨ ∀ b, ¬ Bad ρr βr b → ¬ Bad (ρ.join ρr id) β b) : AVRep w (ρ.join ρr id) β v (x.shift id) :=
  AVRep.lift' (AC.shift id) (AV.shift id) (fun _ => rfl) (fun _ => rfl) (fun xs => by simp [AV.shift, shift_go]) rfl
    (fun x => (∀ f ∈ x.labs, f < 64) ∧ (x.flat = true ∨ ∀ b, ¬ Bad ρr βr b → ¬ Bad (ρ.join ρr id) β b)) (fun x => (∀ f ∈ x.labs, f < 64) ∧ (x.flat = true ∨ ∀ b, ¬ Bad ρr βr b → ¬ Bad (ρ.join ρr id) β b))
    (fun _ h => h)
    (fun xs h x hx => ⟨fun f hf => h.1 f (by simp only [AV.labs, List.mem_flatMap]; exact ⟨x, hx, hf⟩), h.2.imp (fun e => by simp only [AV.flat, List.all_eq_true] at e; exact e x hx) (fun h => h)⟩)
    (fun xs h x hx => ⟨fun f hf => h.1 f (by simp only [AV.labs, labs_go, List.mem_flatMap]; exact ⟨x, hx, hf⟩), h.2.imp (fun e => by simp only [AV.flat, flat_go, List.all_eq_true] at e; exact e x hx) (fun h => h)⟩)
    (fun v x hq hr => shift_ac v x hq.1 hq.2 hb hr) h ⟨hlab, hp⟩

theorem beta0_even (bad : Nat → Prop) (b : Nat) : beta0 bad (2 * b) = none := by
  unfold beta0; rw [if_neg]; omega

theorem join_new {w w' : World} {prot : Nat → Prop} {ρ β ρr : Fam} {id : Nat} (hA : Apart w prot ρ β) (hid : ∀ f, id ≤ f → f < id + 64 → ρ f = none)
    (h1 : ∀ g b, ρr g = some b → w.heap.size ≤ b ∧ b < w'.heap.size) (h2 : ∀ g g' b, ρr g = some b → ρr g' = some b → g = g') : NewFam w ρ w' (ρ.join ρr id) id := by
  refine ⟨fun f b h => ?_, fun f b h => ?_, fun f f' b h h' => ?_⟩
  · unfold Fam.join; split
    · rename_i e; rw [hid f e.1 e.2] at h; cases h
    · exact h
  · unfold Fam.join at h; split at h
    · rename_i e; exact .inr ⟨e.1, e.2, h1 _ _ h⟩
    · exact .inl h
  · unfold Fam.join at h h'
    split at h <;> split at h'
    · have := h2 _ _ b h h'; omega
    · have := (h1 _ _ h).1; have := (hA.fam _ _ h').2; omega
    · have := (h1 _ _ h').1; have := (hA.fam _ _ h).2; omega
    · exact hA.inj f f' b h h'

end Go.Fw
end
section
set_option linter.all false
namespace Go.Fw
variable [Globals]
open Go.RowKit (Below)

theorem setCells_heap (g : Nat) (e : TypeId) (fr : Nat × Nat) : ∀ (vs : List Value) (o : Nat) (w : World) (cur : Array Value), w.heap[g]? = some (.cells cur e fr) →
    (w.setCells g o vs).heap[g]? = some (.cells (setRun cur.toList o vs).toArray e fr) ∧ (∀ k, k ≠ g → (w.setCells g o vs).heap[k]? = w.heap[k]?) ∧ (w.setCells g o vs).os = w.os ∧
      (w.setCells g o vs).tape = w.tape ∧ (w.setCells g o vs).output = w.output ∧ (w.setCells g o vs).heap.size = w.heap.size
  | [], o, w, cur, h => ⟨by simpa [World.setCells, setRun] using h, fun _ _ => rfl, rfl, rfl, rfl, rfl⟩
  | v :: vs, o, w, cur, h => by
    have h1 : (w.setCell ⟨g, o, none⟩ v).heap[g]? = some (.cells (cur.setIfInBounds o v) e fr) := by
      simp only [World.setCell, Array.getElem?_modify, h]; rfl
    have h2 : ∀ k, k ≠ g → (w.setCell ⟨g, o, none⟩ v).heap[k]? = w.heap[k]? := fun k hk => by
      simp only [World.setCell, Array.getElem?_modify]; rw [if_neg (fun e => hk e.symm)]
    obtain ⟨a1, a2, a3, a4, a5, a6⟩ := setCells_heap g e fr vs (o + 1) _ _ h1
    refine ⟨?_, fun k hk => (a2 k hk).trans (h2 k hk), a3, a4, a5, a6.trans (by simp [World.setCell])⟩
    have : (cur.setIfInBounds o v).toList = cur.toList.set o v := by simp
    rw [this] at a1
    exact a1

theorem setRun_length {α : Type} : ∀ (vs : List α) (l : List α) (o : Nat), (setRun l o vs).length = l.length
  | [], l, o => rfl
  | v :: vs, l, o => by simp [setRun, setRun_length vs]

theorem setRun_take {α : Type} : ∀ (vs : List α) (l : List α) (o k : Nat), (setRun l o vs).take k = setRun (l.take k) o vs
  | [], l, o, k => rfl
  | v :: vs, l, o, k => by rw [setRun, setRun, setRun_take vs, List.take_set]

theorem setRun_fill {α : Type} : ∀ (vs : List α) (l : List α) (o : Nat), o + vs.length ≤ l.length → (setRun l o vs).take (o + vs.length) = l.take o ++ vs
  | [], l, o, h => by simp [setRun]
  | v :: vs, l, o, h => by
    have h' : o + 1 + vs.length ≤ (l.set o v).length := by simp at h ⊢; omega
    have := setRun_fill vs (l.set o v) (o + 1) h'
    have e : o + (v :: vs).length = o + 1 + vs.length := by simp; omega
    rw [setRun, e, this]
    have ho : o < l.length := by simp at h; omega
    have : (l.set o v).take (o + 1) = l.take o ++ [v] := by
      rw [List.take_succ_eq_append_getElem (by simpa using ho)]
      simp [List.take_set_of_le]
    rw [this]; simp

theorem seg_setRun {w : World} {ρ β : Fam} : ∀ {vs : List Value} {xs : List AC}, Seg w ρ β vs xs → ∀ (o : Nat) {raws : List Value} {acs : List AC}, Seg w ρ β raws acs → Seg w ρ β (setRun raws o vs) (setRun acs o xs)
  | [], xs, hv, o, raws, acs, h => by
    have : xs = [] := List.eq_nil_of_length_eq_zero (by rw [← hv.len]; rfl)
    subst this; exact h
  | v :: vs, [], hv, o, raws, acs, h => by have := hv.len; simp at this
  | v :: vs, x :: xs, hv, o, raws, acs, h => by
    have h1 : Seg w ρ β vs xs := ⟨by simpa using hv.len, fun u hu => hv.one u (by simp [hu]), fun j u y hu hy => hv.rep (j + 1) u y (by simpa using hu) (by simpa using hy)⟩
    exact seg_setRun h1 (o + 1) (h.set o (hv.one v (by simp)) (hv.rep 0 v x rfl rfl))

theorem creps_set {w : World} {bad : Nat → Prop} {raws : List Value} {cells : List CV} (h : CReps w bad raws cells) (i : Nat) {u : Value} {c : CV} (ho : u.oneCell' = true) (hu : CRep w bad u c) : CReps w bad (raws.set i u) (cells.set i c) := by
  refine ⟨by simp [h.len], fun v hv => ?_, fun j v y hv hy => ?_⟩
  · rcases List.mem_or_eq_of_mem_set hv with h' | rfl
    · exact h.one v h'
    · exact ho
  · rw [List.getElem?_set] at hv hy
    split at hv
    · rename_i e
      subst e
      split at hv
      · rename_i hlt
        cases hv
        rw [if_pos rfl, if_pos (by rw [← h.len]; exact hlt)] at hy
        cases hy; exact hu
      · cases hv
    · rename_i e
      rw [if_neg e] at hy
      exact h.rep j v y hv hy

theorem creps_setRun {w : World} {bad : Nat → Prop} : ∀ {vs : List Value} {xs : List CV}, CReps w bad vs xs → ∀ (o : Nat) {raws : List Value} {cells : List CV}, CReps w bad raws cells → CReps w bad (setRun raws o vs) (setRun cells o xs)
  | [], xs, hv, o, raws, acs, h => by
    have : xs = [] := List.eq_nil_of_length_eq_zero (by rw [← hv.len]; rfl)
    subst this; exact h
  | v :: vs, [], hv, o, raws, acs, h => by have := hv.len; simp at this
  | v :: vs, x :: xs, hv, o, raws, acs, h => by
    have h1 : CReps w bad vs xs := ⟨by simpa using hv.len, fun u hu => hv.one u (by simp [hu]), fun j u y hu hy => hv.rep (j + 1) u y (by simpa using hu) (by simpa using hy)⟩
    exact creps_setRun h1 (o + 1) (creps_set h o (hv.one v (by simp)) (hv.rep 0 v x rfl rfl))

/-! A store into a box. -/
def St.setBox (st : St) (i : Nat) (xs : List AC) : St := { st with box := fun k => if k = i then some xs else st.box k }

/-- A block turns that is neither old nor of a family, but of a box. -/
theorem J.boxStore {C : Cx} {st : St} {a : Act} {w : World} {ρ β : Fam} (h : J C st a w ρ β) {b g : Nat} {raws : Array Value} {e : TypeId} {xs : List AC} (hβ : β (2 * b) = some g) (hp : ¬ C.prot g)
    (hg : w.heap[g]? = some (.cells raws e (0, 0))) (hs : Seg w ρ β raws.toList xs) {vs : List Value} {ys : List AC} (hv : Seg w ρ β vs ys) (o : Nat) :
    J C (st.setBox b (setRun xs o ys)) a (w.setCells g o vs) ρ β := by
  obtain ⟨a1, a2, a3, a4, a5, a6⟩ := setCells_heap g e (0, 0) vs o w raws hg
  have E : Ext w ρ β (w.setCells g o vs) ρ β := by
    refine ⟨Hx.blocks fun k _ hx => ⟨hx, a2 _ (fun e => hx (.inr ⟨2 * b, by rw [e]; exact hβ⟩))⟩, fun f b' _ hf => ⟨hf, a2 b' (fun e => ?_)⟩, fun i b h => h⟩
    · subst e; exact h.apart.sep f _ _ hf hβ
  refine ⟨h.size, h.ext.of rfl (fun _ _ _ _ e => e), a3.trans h.os, a4.trans h.tape, a5.trans h.output, by rw [a6]; exact h.grown, fun b' hb' => ?_, h.protlt, h.phan, ⟨fun f b' hf => by rw [a6]; exact h.apart.fam f b' hf, fun i b' hi => by rw [a6]; exact h.apart.box i b' hi, h.apart.inj, h.apart.injB, h.apart.sep, h.apart.boxp⟩, fun s => E.av (h.env s), fun i zs hz => ?_, fun g cs hg => E.av (h.glob g cs hg), h.pin⟩
  · rw [a2 b' (fun e => hp (e ▸ hb'))]; exact h.kept b' hb'
  · simp only [St.setBox] at hz
    split at hz
    · rename_i hi
      subst hi
      cases hz
      have hs' := seg_setRun hv o hs
      refine ⟨g, _, e, hβ, hp, a1, by have := hs'.len; simpa using this, by simpa using hs'.one, fun j u x hu hx => E.ac (hs'.rep j u x (by simpa using hu) hx)⟩
    · rename_i hi
      obtain ⟨g', raws', e', h1, h2, h3, h4, h5, h6⟩ := h.box i zs hz
      have hne : g' ≠ g := fun e => by subst e; have := h.apart.injB _ _ _ h1 hβ; omega
      exact ⟨g', raws', e', h1, h2, by rw [a2 g' hne]; exact h3, h4, h5, fun j u x hu hx => E.ac (h6 j u x hu hx)⟩

/-! A store into an owned slice. -/
def AC.upd (f pos : Nat) (cs : List CV) : AC → AC
  | .mown g ks vs => if g = f then .bad else .mown g ks (vs.map (·.poison fun x => decide (x = f)))
  | .own g sz n cells => if g = f then .own g sz n (setRun cells pos cs) else .own g sz n cells
  | .view g n cells => if g = f then .bad else .view g n cells
  | .tl g sz n cells => if g = f then .bad else .tl g sz n cells
  | .ep (some g) cells k => if g = f then .bad else .ep (some g) cells k
  | .epo g cells k => if g = f then .epo g (setRun cells pos cs) k else .epo g cells k
  | x => x
def AV.upd (f pos : Nat) (cs : List CV) : AV → AV
  | .cell x => .cell (x.upd f pos cs)
  | .agg xs => .agg (xs.map (·.upd f pos cs))
  | .tup xs => .tup (go xs)
  | .bad => .bad
where
  go : List AV → List AV
    | [] => []
    | x :: xs => x.upd f pos cs :: go xs
theorem upd_go (f pos : Nat) (cs : List CV) (xs : List AV) : AV.upd.go f pos cs xs = xs.map (·.upd f pos cs) := by
  induction xs with
  | nil => rfl
  | cons x xs ih => simp [AV.upd.go, ih]
theorem ghost_upd {f pos : Nat} {cs : List CV} {x : AV} {l k : Nat} {xs : List (List EV)} {v : Bool} (h : x.upd f pos cs = .cell (.ghost l xs k v)) : x = .cell (.ghost l xs k v) := by
  cases x with
  | cell x =>
    simp only [AV.upd, AV.cell.injEq] at h
    cases x <;> simp only [AC.upd] at h <;> try (split at h <;> cases h)
    all_goals (try (rename_i k' _ _; cases k' <;> simp only at h))
    all_goals (first | (cases h; done) | (split at h <;> cases h; done) | (rw [h]))
  | agg xs => simp [AV.upd] at h
  | tup xs => simp [AV.upd] at h
  | bad => simp [AV.upd] at h
def St.upd (st : St) (f pos : Nat) (cs : List CV) : St := ⟨fun s => (st.env s).upd f pos cs, fun i => (st.box i).map (·.map (·.upd f pos cs))⟩

theorem J.famStore {C : Cx} {st : St} {a : Act} {w : World} {ρ β : Fam} (h : J C st a w ρ β) {f g : Nat} {cur : Array Value} {e : TypeId} {fr : Nat × Nat} (hρ : ρ f = some g)
    (hg : w.heap[g]? = some (.cells cur e fr)) {vs : List Value} {cs : List CV} (hv : CReps w (Bad ρ β) vs cs) (o : Nat) : J C (st.upd f o cs) a (w.setCells g o vs) ρ β := by
  obtain ⟨a1, a2, a3, a4, a5, a6⟩ := setCells_heap g e fr vs o w cur hg
  have hpure : Hx w (Bad ρ β) (w.setCells g o vs) (Bad ρ β) := Hx.blocks fun k _ hx => ⟨hx, a2 _ (fun e => hx (.inl ⟨f, by rw [e]; exact hρ⟩))⟩
  have hfam : ∀ f' b, f' ≠ f → ρ f' = some b → (w.setCells g o vs).heap[b]? = w.heap[b]? := fun f' b hne hf => a2 b (fun e => hne (h.apart.inj f' f b hf (e ▸ hρ)))
  have E : ∀ v x, ACRep w ρ β v x → ACRep (w.setCells g o vs) ρ β v (x.upd f o cs) := by
    intro v x hx
    cases x with
    | p x => exact CRep.mono hpure hx
    | z => exact hx
    | own f' sz n cells =>
      obtain ⟨raws, ⟨hl, ho⟩, hr⟩ := hx
      simp only [AC.upd]
      split
      · rename_i hf
        subst hf
        rcases ho with ⟨a', rfl, rfl⟩ | ⟨g', cap, cur', e', fr', rfl, hρ', hg', hfr, hn, hm, hcs, ht⟩
        · have h0 : raws = [] := List.eq_nil_of_length_eq_zero (by simpa using hl)
          subst h0
          have h1 : cells = [] := List.eq_nil_of_length_eq_zero (by rw [← hr.len]; rfl)
          subst h1
          have h2 : ∀ (l : List CV) (o : Nat), setRun ([] : List CV) o l = [] := by
            intro l; induction l with
            | nil => intro o; rfl
            | cons c l ih => intro o; simp [setRun, ih]
          rw [h2]
          exact ⟨[], ⟨by simp, .inl ⟨a', rfl, rfl⟩⟩, ⟨by simp, by simp, by simp⟩⟩
        · rw [hρ] at hρ'; cases hρ'
          rw [hg] at hg'; cases hg'
          refine ⟨setRun raws o vs, ⟨by rw [setRun_length]; exact hl, .inr ⟨g, cap, _, e, fr, rfl, hρ, a1, by simpa [setRun_length] using hfr, hn, hm, by simpa [setRun_length] using hcs, by rw [← ht]; exact setRun_take vs _ o _⟩⟩, ?_⟩
          exact (creps_setRun hv o hr).mono hpure
      · rename_i hf
        refine ⟨raws, ⟨hl, ?_⟩, hr.mono hpure⟩
        rcases ho with ho | ⟨g', cap, cur', e', fr', h1, h2, h3, rest⟩
        · exact .inl ho
        · exact .inr ⟨g', cap, cur', e', fr', h1, h2, by rw [hfam f' g' hf h2]; exact h3, rest⟩
    | tl f' sz n cells =>
      simp only [AC.upd]
      split
      · trivial
      · rename_i hf
        obtain ⟨raws, ⟨hl, ho⟩, hr⟩ := hx
        refine ⟨raws, ⟨hl, ?_⟩, hr.mono hpure⟩
        rcases ho with ho | ⟨g', o', cap, cur', e', fr', h1, h2, h3, rest⟩
        · exact .inl ho
        · exact .inr ⟨g', o', cap, cur', e', fr', h1, h2, by rw [hfam f' g' hf h2]; exact h3, rest⟩
    | view f' n cells =>
      simp only [AC.upd]
      split
      · trivial
      · rename_i hf
        obtain ⟨a', cap, raws, h1, h2, h3, h4, hr⟩ := hx
        refine ⟨a', cap, raws, h1, h2, h3, fun j u hj => ?_, hr.mono hpure⟩
        obtain ⟨y, e1, e2, e3⟩ := h4 j u hj
        exact ⟨y, e1, e2, (cell_of_heap (x := y.add j) (by rw [add_block]; exact hfam f' _ hf e2)).trans e3⟩
    | ep k cells pos =>
      cases k with
      | none => obtain ⟨y, raws, h1, h2, hr⟩ := hx; exact ⟨y, raws, h1, fun j u hj => let ⟨e1, e2⟩ := h2 j u hj; ⟨e1, (hpure.cell (y.add j) u (by rw [add_block]; exact e1) e2).2⟩, hr.mono hpure⟩
      | some f' =>
        simp only [AC.upd]
        split
        · trivial
        · rename_i hf
          obtain ⟨y, raws, h1, h2, hr⟩ := hx
          exact ⟨y, raws, h1, fun j u hj => let ⟨e1, e2⟩ := h2 j u hj; ⟨e1, (cell_of_heap (x := y.add j) (by rw [add_block]; exact hfam f' _ hf e1)).trans e2⟩, hr.mono hpure⟩
    | epo f' cells pos =>
      obtain ⟨g', cur', e', fr', h1, h2, h3, h4, h5, hr⟩ := hx
      simp only [AC.upd]
      split
      · rename_i hf
        subst hf
        rw [hρ] at h2; cases h2
        rw [hg] at h3; cases h3
        refine ⟨g, _, e, fr, h1, hρ, a1, by simpa [setRun_length] using h4, by simpa [setRun_length] using h5, ?_⟩
        rw [setRun_length]
        simp only [setRun_take]
        exact (creps_setRun hv o hr).mono hpure
      · rename_i hf
        exact ⟨g', cur', e', fr', h1, h2, by rw [hfam f' g' hf h2]; exact h3, h4, h5, hr.mono hpure⟩
    | ptr b off => exact hx
    | fn g caps =>
      obtain ⟨vs, hv, hl, h1, h2⟩ := hx
      exact ⟨vs, hv, hl, h1, fun j u c hu hc => CRep.mono hpure (h2 j u c hu hc)⟩
    | yield l => exact hx
    | ghost l xs k v => trivial
    | mown f' ks ms =>
      simp only [AC.upd]
      split
      · trivial
      · rename_i hf
        obtain ⟨g', raws, h1, h2, h3, h4, h5, h6⟩ := hx
        refine ⟨g', raws, h1, h2, h3.heap (hfam f' g' hf h2), by simpa using h4, h5, fun j u y hu hy => ?_⟩
        rw [List.getElem?_map] at hy
        cases hk : ms[j]? with
        | none => simp [hk] at hy
        | some x =>
          simp [hk] at hy; subst hy
          have hx := h6 j u x hu hk
          cases x with
          | v x => exact CRep.mono hpure hx
          | inner f2 ks' vs' =>
            simp only [MV.poison]
            split
            · trivial
            · rename_i hf2
              obtain ⟨g2, raws', b1, b2, b3, b4⟩ := hx
              exact ⟨g2, raws', b1, b2, b3.heap (hfam f2 g2 (by simpa using hf2) b2), b4.mono hpure⟩
          | bad => trivial
    | bad => trivial
  refine ⟨h.size, h.ext.of rfl (fun _ _ _ _ e => ghost_upd e), a3.trans h.os, a4.trans h.tape, a5.trans h.output, by rw [a6]; exact h.grown, fun b' hb' => ?_, h.protlt, h.phan, ⟨fun f b' hf => by rw [a6]; exact h.apart.fam f b' hf, fun i b' hi => by rw [a6]; exact h.apart.box i b' hi, h.apart.inj, h.apart.injB, h.apart.sep, h.apart.boxp⟩, fun s => ?_, fun i zs hz => ?_, fun g' cs' hg' => AVRep.lift (AC.upd f o cs) (AV.upd f o cs) (fun _ => rfl) (fun _ => rfl) (fun xs => by simp [AV.upd, upd_go]) rfl E (h.glob g' cs' hg'), h.pin⟩
  · rw [a2 b' (fun e => (h.apart.fam f g hρ).1 (e ▸ hb'))]; exact h.kept b' hb'
  · exact AVRep.lift (AC.upd f o cs) (AV.upd f o cs) (fun _ => rfl) (fun _ => rfl) (fun xs => by simp [AV.upd, upd_go]) rfl E (h.env s)
  · simp only [St.upd] at hz
    cases hb : st.box i with
    | none => simp [hb] at hz
    | some ys => simp [hb] at hz; subst hz; exact (h.box i ys hb).map _ rfl (fun b hb => a2 b (fun e => h.apart.sep f _ _ hρ (e ▸ hb))) E

/-! Append. -/
theorem append_run {P : Program} {w : World} {t tx ty e : TypeId} {i : TypeInfo} {z : Value} (ht : P.underlying t = some (.slice e)) (hi : P.info? e = some i) (hz : i.zero = some z) (hzs : z.cells.size = i.size)
    {b : Option Nat} {n : Nat} {v : Value} {raws : List Value} (ho : OwnRow w b i.size n v raws) {x : Value} {m : Nat} {news : List Value} (hs : Src P i.size tx x m news w)
    (h63 : n + m ≤ 1099511627776) (hby : (n + m) * i.bytes ≤ 140737488355328) :
    ∃ v' w' b', (Builtin.append_ #[t, tx] ty #[v, x]).run P w = .ok v' w' ∧ OwnRow w' b' i.size (n + m) v' (raws ++ news) ∧ w'.os = w.os ∧ w'.tape = w.tape ∧ w'.output = w.output ∧ w.heap.size ≤ w'.heap.size ∧
      (∀ k, k < w.heap.size → some k ≠ b → w'.heap[k]? = w.heap[k]?) ∧ (b' = b ∨ b' = some w.heap.size ∧ w.heap.size < w'.heap.size) := by
  obtain ⟨hl, ho⟩ := ho
  have hmax : n + m ≤ maxLen := by unfold maxLen; omega
  have hnl : (raws ++ news).length = (n + m) * i.size := by rw [List.length_append, hl, hs.newsLen, Nat.add_mul]
  have grown : ∀ old, (w.drew.alloc (.cells ((raws ++ news).toArray ++ Builtin.zeroCells z.cells (grownCap w (n + m) old e - (n + m))) e)).heap.size = w.heap.size + 1 ∧
      OwnRow (w.drew.alloc (.cells ((raws ++ news).toArray ++ Builtin.zeroCells z.cells (grownCap w (n + m) old e - (n + m))) e)) (some w.heap.size) i.size (n + m)
        (.slice (some ⟨w.heap.size, 0, none⟩) (n + m) (grownCap w (n + m) old e)) (raws ++ news) := by
    intro old
    have hge := grownCap_ge w (n + m) old e
    refine ⟨by simp [World.alloc], hnl, .inr ⟨w.heap.size, _, _, e, (0, 0), rfl, rfl, heap_alloc_new w.drew _, .inl rfl, hge, grownCap_le_maxLen w (n + m) old e hmax, ?_, ?_⟩⟩
    · simp only [Array.size_append, List.size_toArray, size_zeroCells, hzs, hnl, ← Nat.add_mul]
      congr 1; omega
    · rw [Array.toList_append, ← hnl]; exact List.take_left
  have old : ∀ (c : Nat) k, k < w.heap.size → some k ≠ b → (w.drew.alloc (.cells ((raws ++ news).toArray ++ Builtin.zeroCells z.cells c) e)).heap[k]? = w.heap[k]? := fun c k hk _ => heap_alloc_old w.drew _ hk
  rcases ho with ⟨a, rfl, rfl⟩ | ⟨g, cap, cur, e', fr, rfl, hb, hg, hfr, hnc, hm, hcs, htk⟩
  · have h0 : raws = [] := List.eq_nil_of_length_eq_zero (by simpa using hl)
    subst h0
    by_cases hm0 : m = 0
    · subst hm0
      have hn0 : news = [] := List.eq_nil_of_length_eq_zero (by have := hs.newsLen; simpa using this)
      subst hn0
      refine ⟨.slice a 0 0, w, b, ?_, ⟨by simp, .inl ⟨a, rfl, rfl⟩⟩, rfl, rfl, rfl, Nat.le_refl _, fun _ _ _ => rfl, .inl rfl⟩
      rcases hs.kind with ⟨e1, hk⟩ | hk <;> cases a <;> simp [Builtin.append_, run_underlying ht, run_underlying hk, sizeOf, typeInfo, hi, hs.len, hs.cells, storeCells]
    · have hr := run_append_grow_src (P := P) w t tx ty e i z ht hi hz a 0 0 [] (by
        cases a with
        | none => exact run_firstCells_none w.drew i.size 0 0 0
        | some a => exact run_firstCells_some w.drew i.size 0 a 0 0 [] (by simp) (by simp)) x m news hs (by omega) (by omega) (growslice_fits (by omega) hby)
      have hgr := grown 0
      exact ⟨_, _, _, hr, hgr.2, rfl, rfl, rfl, by rw [hgr.1]; omega, old _, .inr ⟨rfl, by rw [hgr.1]; omega⟩⟩
  · by_cases hroom : n + m ≤ cap
    · have hsz : n * i.size + news.length ≤ cur.size := by rw [hs.newsLen, hcs, ← Nat.add_mul]; exact Nat.mul_le_mul_right _ hroom
      have hr := run_append_room_src (P := P) w t tx ty e i ht hi g 0 n cap x m news hs hroom (fun j hj => by
        have : n * i.size + j < cur.size := by omega
        simp [World.cell?, hg, this]) (fun j hj => by
        have : n * i.size + j < cur.size := by omega
        simp only [World.frozen?, hg, Nat.zero_add]
        rcases hfr with h | h
        · simp; omega
        · simp; omega)
      rw [Nat.zero_add] at hr
      obtain ⟨a1, a2, a3, a4, a5, a6⟩ := setCells_heap g e' fr news (n * i.size) w cur hg
      refine ⟨_, _, b, hr, ⟨hnl, .inr ⟨g, cap, _, e', fr, rfl, hb, a1, by simpa [setRun_length] using hfr, hroom, hm, by simpa [setRun_length] using hcs, ?_⟩⟩, a3, a4, a5, by rw [a6]; exact Nat.le_refl _, fun k hk hne => a2 k (fun e => hne (by rw [e, hb])), .inl rfl⟩
      have e1 : (n + m) * i.size = n * i.size + news.length := by rw [hs.newsLen, Nat.add_mul]
      rw [e1]
      simp only
      rw [setRun_fill news cur.toList (n * i.size) (by simpa using hsz), htk]
    · have hold := run_firstCells_some (P := P) w.drew i.size n ⟨g, 0, none⟩ n cap raws hl (fun j u hj => by
        have := row_cell (k := n * i.size) hg (by rw [htk]; exact hj)
        simpa using this)
      have hr := run_append_grow_src (P := P) w t tx ty e i z ht hi hz (some ⟨g, 0, none⟩) n cap raws hold x m news hs (by omega) (by omega) (growslice_fits (by omega) hby)
      have hgr := grown cap
      exact ⟨_, _, _, hr, hgr.2, rfl, rfl, rfl, by rw [hgr.1]; omega, old _, .inr ⟨rfl, by rw [hgr.1]; omega⟩⟩

theorem setRun_drop' {α : Type} : ∀ (xs l : List α) (o k : Nat), (setRun l (o + k) xs).drop o = setRun (l.drop o) k xs
  | [], l, o, k => rfl
  | x :: xs, l, o, k => by
    rw [setRun, setRun, Nat.add_assoc, setRun_drop' xs, List.drop_set, if_neg (by omega), Nat.add_sub_cancel_left]
theorem append_runT {P : Program} {w : World} {t tx ty e : TypeId} {i : TypeInfo} {z : Value} (ht : P.underlying t = some (.slice e)) (hi : P.info? e = some i) (hz : i.zero = some z) (hzs : z.cells.size = i.size)
    {b : Option Nat} {n : Nat} {v : Value} {raws : List Value} (ho : TlRow w b i.size n v raws) {x : Value} {m : Nat} {news : List Value} (hs : Src P i.size tx x m news w)
    (h63 : n + m ≤ 1099511627776) (hby : (n + m) * i.bytes ≤ 140737488355328) :
    ∃ v' w' b', (Builtin.append_ #[t, tx] ty #[v, x]).run P w = .ok v' w' ∧ TlRow w' b' i.size (n + m) v' (raws ++ news) ∧ w'.os = w.os ∧ w'.tape = w.tape ∧ w'.output = w.output ∧ w.heap.size ≤ w'.heap.size ∧
      (∀ k, k < w.heap.size → some k ≠ b → w'.heap[k]? = w.heap[k]?) ∧ (b' = b ∨ b' = some w.heap.size ∧ w.heap.size < w'.heap.size) := by
  obtain ⟨hl, ho⟩ := ho
  have hmax : n + m ≤ maxLen := by unfold maxLen; omega
  have hnl : (raws ++ news).length = (n + m) * i.size := by rw [List.length_append, hl, hs.newsLen, Nat.add_mul]
  have grown : ∀ old, (w.drew.alloc (.cells ((raws ++ news).toArray ++ Builtin.zeroCells z.cells (grownCap w (n + m) old e - (n + m))) e)).heap.size = w.heap.size + 1 ∧
      TlRow (w.drew.alloc (.cells ((raws ++ news).toArray ++ Builtin.zeroCells z.cells (grownCap w (n + m) old e - (n + m))) e)) (some w.heap.size) i.size (n + m)
        (.slice (some ⟨w.heap.size, 0, none⟩) (n + m) (grownCap w (n + m) old e)) (raws ++ news) := by
    intro old
    have hge := grownCap_ge w (n + m) old e
    refine ⟨by simp [World.alloc], hnl, .inr ⟨w.heap.size, 0, _, _, e, (0, 0), rfl, rfl, heap_alloc_new w.drew _, .inl rfl, hge, grownCap_le_maxLen w (n + m) old e hmax, ?_, ?_⟩⟩
    · simp only [Array.size_append, List.size_toArray, size_zeroCells, hzs, hnl, ← Nat.add_mul, Nat.zero_add]
      congr 1; omega
    · rw [List.drop_zero, Array.toList_append, ← hnl]; exact List.take_left
  have old : ∀ (c : Nat) k, k < w.heap.size → some k ≠ b → (w.drew.alloc (.cells ((raws ++ news).toArray ++ Builtin.zeroCells z.cells c) e)).heap[k]? = w.heap[k]? := fun c k hk _ => heap_alloc_old w.drew _ hk
  rcases ho with ⟨a, rfl, rfl⟩ | ⟨g, o, cap, cur, e', fr, rfl, hb, hg, hfr, hnc, hm, hcs, htk⟩
  · have h0 : raws = [] := List.eq_nil_of_length_eq_zero (by simpa using hl)
    subst h0
    by_cases hm0 : m = 0
    · subst hm0
      have hn0 : news = [] := List.eq_nil_of_length_eq_zero (by have := hs.newsLen; simpa using this)
      subst hn0
      refine ⟨.slice a 0 0, w, b, ?_, ⟨by simp, .inl ⟨a, rfl, rfl⟩⟩, rfl, rfl, rfl, Nat.le_refl _, fun _ _ _ => rfl, .inl rfl⟩
      rcases hs.kind with ⟨e1, hk⟩ | hk <;> cases a <;> simp [Builtin.append_, run_underlying ht, run_underlying hk, sizeOf, typeInfo, hi, hs.len, hs.cells, storeCells]
    · have hr := run_append_grow_src (P := P) w t tx ty e i z ht hi hz a 0 0 [] (by
        cases a with
        | none => exact run_firstCells_none w.drew i.size 0 0 0
        | some a => exact run_firstCells_some w.drew i.size 0 a 0 0 [] (by simp) (by simp)) x m news hs (by omega) (by omega) (growslice_fits (by omega) hby)
      have hgr := grown 0
      exact ⟨_, _, _, hr, hgr.2, rfl, rfl, rfl, by rw [hgr.1]; omega, old _, .inr ⟨rfl, by rw [hgr.1]; omega⟩⟩
  · by_cases hroom : n + m ≤ cap
    · have hsz : o + n * i.size + news.length ≤ cur.size := by
        have := Nat.mul_le_mul_right i.size hroom
        rw [hs.newsLen, hcs]; rw [Nat.add_mul] at this; omega
      have hr := run_append_room_src (P := P) w t tx ty e i ht hi g o n cap x m news hs hroom (fun j hj => by
        have : o + n * i.size + j < cur.size := by omega
        simp [World.cell?, hg, this]) (fun j hj => by
        have : o + n * i.size + j < cur.size := by omega
        simp only [World.frozen?, hg]
        rcases hfr with h | h
        · simp; omega
        · simp; omega)
      obtain ⟨a1, a2, a3, a4, a5, a6⟩ := setCells_heap g e' fr news (o + n * i.size) w cur hg
      refine ⟨_, _, b, hr, ⟨hnl, .inr ⟨g, o, cap, _, e', fr, rfl, hb, a1, by simpa [setRun_length] using hfr, hroom, hm, by simpa [setRun_length] using hcs, ?_⟩⟩, a3, a4, a5, by rw [a6]; exact Nat.le_refl _, fun k hk hne => a2 k (fun e => hne (by rw [e, hb])), .inl rfl⟩
      have e1 : (n + m) * i.size = n * i.size + news.length := by rw [hs.newsLen, Nat.add_mul]
      rw [e1]
      simp only
      rw [setRun_drop' news cur.toList o (n * i.size), setRun_fill news (cur.toList.drop o) (n * i.size) (by simp; omega), htk]
    · have hold := run_firstCells_some (P := P) w.drew i.size n ⟨g, o, none⟩ n cap raws hl (fun j u hj => tl_cell hg htk hj)
      have hr := run_append_grow_src (P := P) w t tx ty e i z ht hi hz (some ⟨g, o, none⟩) n cap raws hold x m news hs (by omega) (by omega) (growslice_fits (by omega) hby)
      have hgr := grown cap
      exact ⟨_, _, _, hr, hgr.2, rfl, rfl, rfl, by rw [hgr.1]; omega, old _, .inr ⟨rfl, by rw [hgr.1]; omega⟩⟩

end Go.Fw
end
section
set_option linter.all false
namespace Go.Fw
variable [Globals]
open Go.RowKit (Below)

def eqF (f : Nat) : Nat → Bool := fun g => decide (g = f)
def MV.updM (f : Nat) (ks : List Int) (vs : List MV) : MV → MV
  | .inner g ks' vs' => if g = f then (match mvCVs vs with | some cs => .inner g ks cs | none => .bad) else .inner g ks' vs'
  | x => x
def AC.updM (f : Nat) (ks : List Int) (vs : List MV) : AC → AC
  | .mown g ks' vs' => if g = f then .mown g ks vs else .mown g ks' (vs'.map (·.updM f ks vs))
  | x => x.poison (eqF f)
def AV.updM (f : Nat) (ks : List Int) (vs : List MV) : AV → AV
  | .cell x => .cell (x.updM f ks vs)
  | .agg xs => .agg (xs.map (·.updM f ks vs))
  | .tup xs => .tup (go xs)
  | .bad => .bad
where
  go : List AV → List AV
    | [] => []
    | x :: xs => x.updM f ks vs :: go xs
theorem updM_go (f : Nat) (ks : List Int) (vs : List MV) (xs : List AV) : AV.updM.go f ks vs xs = xs.map (·.updM f ks vs) := by
  induction xs with
  | nil => rfl
  | cons x xs ih => simp [AV.updM.go, ih]
theorem ghost_updM {f : Nat} {ks : List Int} {vs : List MV} {x : AV} {l k : Nat} {xs : List (List EV)} {v : Bool} (h : x.updM f ks vs = .cell (.ghost l xs k v)) : x = .cell (.ghost l xs k v) := by
  cases x with
  | cell x =>
    simp only [AV.updM, AV.cell.injEq] at h
    cases x with
    | mown g ks' vs' => simp only [AC.updM] at h; split at h <;> cases h
    | _ => exact ghost_poison (F := eqF f) (by simpa [AC.updM, AV.poison] using h)
  | agg xs => simp [AV.updM] at h
  | tup xs => simp [AV.updM] at h
  | bad => simp [AV.updM] at h
def St.updM (st : St) (f : Nat) (ks : List Int) (vs : List MV) : St := ⟨fun s => (st.env s).updM f ks vs, fun i => (st.box i).map (·.map (·.updM f ks vs))⟩

theorem J.mapStore {C : Cx} {st : St} {a : Act} {w w' : World} {ρ β : Fam} (h : J C st a w ρ β) {f g : Nat} (hρ : ρ f = some g) (hos : w'.os = w.os) (htp : w'.tape = w.tape) (hout : w'.output = w.output)
    (hsize : w'.heap.size = w.heap.size) (hkeep : ∀ k, k ≠ g → w'.heap[k]? = w.heap[k]?) {es : Array MapEntry} {c : Nat} (hold : w.heap[g]? = some (.map es c)) {ks : List Int} {raws : List Value} {vs : List MV}
    (hm : MapCells w' g ks raws) (hl : raws.length = vs.length) (ho : ∀ u ∈ raws, u.oneCell' = true) (hr : ∀ (j : Nat) (u : Value) (x : MV), raws[j]? = some u → vs[j]? = some x → MVRep w' ρ β u x) :
    J C (st.updM f ks vs) a w' ρ β := by
  have hpure : Hx w (Bad ρ β) w' (Bad ρ β) := Hx.blocks fun k _ hx => ⟨hx, hkeep _ (fun e => hx (.inl ⟨f, by rw [e]; exact hρ⟩))⟩
  have hfam : ∀ f' b, f' ≠ f → ρ f' = some b → w'.heap[b]? = w.heap[b]? := fun f' b hne hf => hkeep b (fun e => hne (h.apart.inj f' f b hf (e ▸ hρ)))
  have E0 : ExtE (eqF f) w ρ β w' ρ β := ⟨hpure, fun f' b hF hf => ⟨hf, hfam f' b (by simpa [eqF] using hF) hf⟩, fun i b h => h⟩
  have E : ∀ v x, ACRep w ρ β v x → ACRep w' ρ β v (x.updM f ks vs) := by
    intro v x hx
    cases x with
    | mown f' ks' ms =>
      obtain ⟨g', raws', h1, h2, h3, h4, h5, h6⟩ := hx
      simp only [AC.updM]
      split
      · rename_i hf
        subst hf
        rw [hρ] at h2; cases h2
        exact ⟨g, raws, h1, hρ, hm, hl, ho, hr⟩
      · rename_i hf
        refine ⟨g', raws', h1, h2, h3.heap (hfam f' g' hf h2), by simpa using h4, h5, fun j u y hu hy => ?_⟩
        rw [List.getElem?_map] at hy
        cases hk : ms[j]? with
        | none => simp [hk] at hy
        | some x =>
          simp [hk] at hy; subst hy
          have hx := h6 j u x hu hk
          cases x with
          | v x => exact CRep.mono hpure hx
          | inner f2 ks2 vs2 =>
            obtain ⟨g2, raws2, b1, b2, b3, b4⟩ := hx
            simp only [MV.updM]
            split
            · rename_i hf2
              subst hf2
              rw [hρ] at b2; cases b2
              split
              · rename_i cs hcs
                have hc := mvCVs_get hcs
                exact ⟨g, raws, b1, hρ, hm, ⟨by rw [hl]; exact hc.1, ho, fun j u c hu hj => hr j u (.v c) hu (hc.2 j c hj)⟩⟩
              · trivial
            · rename_i hf2
              exact ⟨g2, raws2, b1, b2, b3.heap (hfam f2 g2 hf2 b2), b4.mono hpure⟩
          | bad => trivial
    | _ => exact E0.ac v _ hx
  refine ⟨h.size, h.ext.of rfl (fun _ _ _ _ e => ghost_updM e), hos.trans h.os, htp.trans h.tape, hout.trans h.output, by rw [hsize]; exact h.grown, fun b' hb' => ?_, h.protlt, h.phan, ⟨fun f b' hf => by rw [hsize]; exact h.apart.fam f b' hf, fun i b' hi => by rw [hsize]; exact h.apart.box i b' hi, h.apart.inj, h.apart.injB, h.apart.sep, h.apart.boxp⟩, fun s => ?_, fun i zs hz => ?_, fun g' cs' hg' => AVRep.lift (AC.updM f ks vs) (AV.updM f ks vs) (fun _ => rfl) (fun _ => rfl) (fun xs => by simp [AV.updM, updM_go]) rfl E (h.glob g' cs' hg'), h.pin⟩
  · rw [hkeep b' (fun e => (h.apart.fam f g hρ).1 (e ▸ hb'))]; exact h.kept b' hb'
  · exact AVRep.lift (AC.updM f ks vs) (AV.updM f ks vs) (fun _ => rfl) (fun _ => rfl) (fun xs => by simp [AV.updM, updM_go]) rfl E (h.env s)
  · simp only [St.updM] at hz
    cases hb : st.box i with
    | none => simp [hb] at hz
    | some ys => simp [hb] at hz; subst hz; exact (h.box i ys hb).map _ rfl (fun b hb => hkeep b (fun e => h.apart.sep f _ _ hρ (e ▸ hb))) E

def AV.mv? : AV → Option MV
  | .cell (.p x) => if (AC.p x).one then some (.v x) else none
  | .cell .z => some (.v (.sl 0 []))
  | .cell (.mown f ks vs) => (mvCVs vs).map (.inner f ks)
  | _ => none

theorem mv?_rep {w : World} {ρ β : Fam} {v : Value} {x : AV} (h : AVRep w ρ β v x) {y : MV} (hy : x.mv? = some y) : MVRep w ρ β v y ∧ v.oneCell' = true := by
  unfold AV.mv? at hy
  split at hy
  · split at hy
    · rename_i h1
      cases hy
      exact ⟨rep_cell h, one_rep (rep_cell h) h1⟩
    · cases hy
  · cases hy
    obtain ⟨a, rfl⟩ := rep_cell h
    exact ⟨.sl a 0 0 [] [] (Nat.le_refl _) (Nat.zero_le _) rfl (by simp) (by simp) (by simp), rfl⟩
  · rename_i f ks vs
    cases hc : mvCVs vs with
    | none => simp [hc] at hy
    | some cs =>
      simp [hc] at hy
      subst hy
      obtain ⟨g, raws, rfl, h2, h3, h4, h5, h6⟩ := rep_cell h
      have hg := mvCVs_get hc
      exact ⟨⟨g, raws, rfl, h2, h3, ⟨by rw [h4]; exact hg.1, h5, fun j u c hu hj => h6 j u (.v c) hu (hg.2 j c hj)⟩⟩, rfl⟩
  · cases hy

theorem mputV_rel {α : Type} {R : Value → α → Prop} {ks : List Int} {raws : List Value} {vs : List α} {n : Int} {u0 : Value} {x0 : α} (hl : raws.length = vs.length) (h0 : R u0 x0)
    (h : ∀ (j : Nat) (u : Value) (x : α), raws[j]? = some u → vs[j]? = some x → R u x) :
    (mputV ks raws n u0).length = (mputV ks vs n x0).length ∧ ∀ (j : Nat) (u : Value) (x : α), (mputV ks raws n u0)[j]? = some u → (mputV ks vs n x0)[j]? = some x → R u x := by
  unfold mputV
  cases mfind ks n with
  | some i =>
    refine ⟨by simpa using hl, fun j u x hu hx => ?_⟩
    simp only [List.getElem?_set] at hu hx
    split at hu
    · rename_i e
      subst e
      split at hu
      · rename_i hlt
        cases hu
        rw [if_pos rfl, if_pos (by omega)] at hx
        cases hx; exact h0
      · cases hu
    · rename_i e
      rw [if_neg e] at hx
      exact h j u x hu hx
  | none =>
    refine ⟨by simp [hl], fun j u x hu hx => ?_⟩
    rcases Nat.lt_or_ge j raws.length with hj | hj
    · rw [List.getElem?_append_left hj] at hu
      rw [List.getElem?_append_left (by omega)] at hx
      exact h j u x hu hx
    · rw [List.getElem?_append_right hj] at hu
      rw [List.getElem?_append_right (by omega), ← hl] at hx
      cases hk : j - raws.length with
      | zero => rw [hk] at hu hx; simp at hu hx; subst hu hx; exact h0
      | succ m => rw [hk] at hu; simp at hu

def mapUpdK (P : Program) (t : TypeId) (m k v : AV) (st : St) (K : AV → St → Prop) : Prop :=
  match P.underlying t, m with
  | some (.map kt _), .cell (.mown f ks vs) =>
    match keyC P kt ks k, v.mv? with
    | some n, some x => K .bad (st.updM f (mputK ks n) (mputV ks (vs.map (·.poison (eqF f))) n (x.poison (eqF f))))
    | _, _ => False
  | _, _ => False

theorem mapUpdK_sound {P : Program} {C : Cx} {st : St} {a : Act} {w : World} {ρ β : Fam} {K : AV → St → Prop} {next : Act → World → Prop} (hJ : J C st a w ρ β) {t : TypeId} {m k v : Operand}
    (h : mapUpdK P t (evAV st.env m) (evAV st.env k) (evAV st.env v) st K) (hn : ∀ st' w' ρ' β', K .bad st' → J C st' a w' ρ' β' → next a w') :
    ∃ w', (Instr.mapUpdate t (a.eval m) (a.eval k) (a.eval v)).run P w = .ok () w' ∧ next a w' := by
  unfold mapUpdK at h
  split at h
  · rename_i kt e f ks vs ht hm
    split at h
    · rename_i n x hk hx
      have hmr := hJ.ev m
      have hkr := hJ.ev k
      have hvr := hJ.ev v
      simp only [St.ev, hm] at hmr
      obtain ⟨ek, KR⟩ := keyC_run hkr hk
      obtain ⟨g, raws, em, hρ, hmc, hl, ho, hr⟩ := rep_cell hmr
      obtain ⟨hxr, hx1⟩ := mv?_rep hvr hx
      obtain ⟨w', hrun, hmc', hos, htp, hout, hsize, hkeep⟩ := run_mapUpdate ht hmc KR (a.eval v)
      refine ⟨w', by rw [em, ek]; exact hrun, ?_⟩
      have hpure : Hx w (Bad ρ β) w' (Bad ρ β) := Hx.blocks fun k _ hx => ⟨hx, hkeep _ (fun e => hx (.inl ⟨f, by rw [e]; exact hρ⟩))⟩
      have E0 : ExtE (eqF f) w ρ β w' ρ β := ⟨hpure, fun f' b hF hf => ⟨hf, hkeep b (fun e => (by simpa [eqF] using hF : f' ≠ f) (hJ.apart.inj f' f b hf (e ▸ hρ)))⟩, fun i b h => h⟩
      have hrel := mputV_rel (R := fun u x => MVRep w' ρ β u x) (ks := ks) (raws := raws) (vs := vs.map (·.poison (eqF f))) (n := n) (u0 := a.eval v) (x0 := x.poison (eqF f)) (by simpa using hl) (E0.mv _ _ hxr) (fun j u y hu hy => by
        rw [List.getElem?_map] at hy
        cases hj : vs[j]? with
        | none => simp [hj] at hy
        | some x => simp [hj] at hy; subst hy; exact E0.mv u x (hr j u x hu hj))
      obtain ⟨es, c, hold, _⟩ := hmc
      refine hn _ w' ρ β h (hJ.mapStore hρ hos htp hout hsize hkeep hold hmc' hrel.1 (fun u hu => ?_) hrel.2)
      unfold mputV at hu
      split at hu
      · rcases List.mem_or_eq_of_mem_set hu with h' | rfl
        · exact ho u h'
        · exact hx1
      · rcases List.mem_append.1 hu with h' | h'
        · exact ho u h'
        · simp at h'; subst h'; exact hx1
    · exact h.elim
  · exact h.elim

/-- A new map. -/
theorem makeMap_sound {P : Program} {C : Cx} {st : St} {a : Act} {w : World} {ρ β : Fam} {id : Nat} (hJ : J C (st.retire (isId id)) a w (ρ.drop (isId id)) β) (t : TypeId) (hid : ∀ f, id ≤ f → f < id + 64 → (ρ.drop (isId id)) f = none) :
    ∃ w' ρ', (Instr.makeMap t none).run P w = .ok (.map (some w.heap.size)) w' ∧ J C (st.retire (isId id)) a w' ρ' β ∧ AVRep w' ρ' β (.map (some w.heap.size)) (.cell (.mown id [] [])) := by
  refine ⟨w.alloc (.map #[] 0), (ρ.drop (isId id)).set id w.heap.size, by simp [Instr.makeMap, run_newObj], ?_, ?_⟩
  · have hBl : Below w.heap.size w (w.alloc (.map #[] 0)) := (Below.refl _ _).alloc (Nat.le_refl _) _
    exact hJ.grow (id := id) hBl (newFam_set (k := 0) hJ.apart hid (by simp) (by omega))
  · exact .cell _ _ ⟨w.heap.size, [], rfl, by simp [Fam.set], ⟨#[], 0, heap_alloc_new w _, rfl, rfl⟩, rfl, by simp, by simp⟩
end Go.Fw
end
