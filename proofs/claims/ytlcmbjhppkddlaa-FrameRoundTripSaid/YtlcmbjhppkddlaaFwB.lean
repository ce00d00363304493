/- The abstract operations that touch no state but their own slot ('quiet'), and their soundness. -/
import Derived.Test.YtlcmbjhppkddlaaFwA
import Derived.Laws.BitsAllLaws
namespace Go.Fw
open Go.RowKit (Below)

structure St where
  env : Nat → AV
  box : Nat → Option (List AC)

def St.put (st : St) (d : Option Nat) (x : AV) : St :=
  match d with
  | some d => { st with env := fun s => if s = d then x else st.env s }
  | none => st

def constAC : Value → AC
  | .slice none 0 0 => .z
  | v => .p (.c v)

def constAV : Value → AV
  | .slice none 0 0 => .cell .z
  | .slice _ _ _ => .bad
  | .agg cs => if cs.toList.all (·.oneCell') then .agg (cs.toList.map constAC) else .bad
  | .tuple _ => .bad
  | v => .cell (.p (.c v))

def evAV (env : Nat → AV) : Operand → AV
  | .tmp t => env t
  | .const v => constAV v
  | .global _ => .bad
  | .func f => .cell (.p (.c (.func (.func f) #[] #[])))

abbrev St.ev (st : St) : Operand → AV := evAV st.env

/-- What a proof about one call is relative to: the blocks that may not be written, blocks that no pure value may lead to, the world in which the call began, the number of slots. -/
structure Cx where
  prot : Nat → Prop
  bad0 : Nat → Prop
  w0 : World
  N : Nat

def BoxRep (w : World) (ρ β : Fam) (prot : Nat → Prop) (i : Nat) (xs : List AC) : Prop :=
  ∃ g raws e, β (2 * i) = some g ∧ ¬ prot g ∧ w.heap[g]? = some (.cells raws e (0, 0)) ∧ raws.size = xs.length ∧ (∀ u ∈ raws.toList, u.oneCell' = true) ∧
    ∀ (j : Nat) (u : Value) (x : AC), raws[j]? = some u → xs[j]? = some x → ACRep w ρ β u x

/-- What holds of an abstract state, a frame and a world. -/
structure J (C : Cx) (st : St) (a : Act) (w : World) (ρ β : Fam) : Prop where
  size : a.tmps.size = C.N
  defers : a.defers = []
  os : w.os = C.w0.os
  tape : w.tape = C.w0.tape
  output : w.output = C.w0.output
  grown : C.w0.heap.size ≤ w.heap.size
  kept : ∀ b, C.prot b → w.heap[b]? = C.w0.heap[b]?
  protlt : ∀ b, C.prot b → b < C.w0.heap.size
  phan : ∀ b, C.bad0 b → β (2 * b + 1) = some b
  apart : Apart w C.prot ρ β
  env : ∀ s, AVRep w ρ β (a.tmps.getD s undef) (st.env s)
  box : ∀ i xs, st.box i = some xs → BoxRep w ρ β C.prot i xs

structure NewFam (w : World) (ρ : Fam) (w' : World) (ρ' : Fam) (id : Nat) : Prop where
  old : ∀ f b, ρ f = some b → ρ' f = some b
  new : ∀ f b, ρ' f = some b → ρ f = some b ∨ (id ≤ f ∧ f < id + 64 ∧ w.heap.size ≤ b ∧ b < w'.heap.size)
  inj : ∀ f f' b, ρ' f = some b → ρ' f' = some b → f = f'

theorem lt_of_cell {w : World} {x : Addr} {u : Value} (h : w.cell? x = some u) : x.block < w.heap.size := World.block_lt_of_cell? w x h

theorem ext_of_grow {prot : Nat → Prop} {w w' : World} {ρ β ρ' : Fam} {id : Nat} (hA : Apart w prot ρ β) (hb : Below w.heap.size w w') (hn : NewFam w ρ w' ρ' id) : Ext w ρ β w' ρ' β := by
  refine ⟨fun x u hx hu => ?_, fun f b _ hf => ⟨hn.old f b hf, hb.block b (hA.fam f b hf).2⟩, fun i b h => h⟩
  have hlt := lt_of_cell hu
  refine ⟨?_, (cell_of_heap (hb.block _ hlt)).trans hu⟩
  rintro (⟨f, hf⟩ | ⟨i, hi⟩)
  · rcases hn.new f _ hf with h | ⟨_, _, h, _⟩
    · exact hx (.inl ⟨f, h⟩)
    · omega
  · exact hx (.inr ⟨i, hi⟩)

theorem J.grow {C : Cx} {st : St} {a : Act} {w w' : World} {ρ β ρ' : Fam} {id : Nat} (h : J C st a w ρ β)
    (hb : Below w.heap.size w w') (hn : NewFam w ρ w' ρ' id) : J C st a w' ρ' β := by
  have E := ext_of_grow h.apart hb hn
  refine ⟨h.size, h.defers, hb.os.trans h.os, hb.tape.trans h.tape, hb.output.trans h.output, Nat.le_trans h.grown hb.size, fun b hp => ?_, h.protlt, h.phan, ⟨?_, ?_, hn.inj, h.apart.injB, ?_⟩, fun s => E.av (h.env s), fun i xs hx => ?_⟩
  · rw [hb.block b (Nat.lt_of_lt_of_le (h.protlt b hp) h.grown)]; exact h.kept b hp
  · intro f b hf
    rcases hn.new f b hf with h1 | ⟨_, _, h1, h2⟩
    · exact ⟨(h.apart.fam f b h1).1, Nat.lt_of_lt_of_le (h.apart.fam f b h1).2 hb.size⟩
    · exact ⟨fun hp => by have := h.protlt b hp; have := h.grown; omega, h2⟩
  · intro i b hi; exact Nat.lt_of_lt_of_le (h.apart.box i b hi) hb.size
  · intro f i b hf hi
    rcases hn.new f b hf with h1 | ⟨_, _, h1, _⟩
    · exact h.apart.sep f i b h1 hi
    · have := h.apart.box i b hi; omega
  · obtain ⟨g, raws, e, h1, hp, h2, h3, h4, h5⟩ := h.box i xs hx
    exact ⟨g, raws, e, h1, hp, by rw [hb.block g (h.apart.box _ g h1)]; exact h2, h3, h4, fun j u x hu hx => E.ac (h5 j u x hu hx)⟩

theorem getD_set (t : Array Value) (d s : Nat) (v : Value) (hd : d < t.size) : (t.setIfInBounds d v).getD s undef = if s = d then v else t.getD s undef := by
  simp only [Array.getD_eq_getD_getElem?, Array.getElem?_setIfInBounds]
  by_cases h : d = s
  · subst h; simp [hd]
  · rw [if_neg h, if_neg (fun e => h e.symm)]

def dstOk (N : Nat) (d : Option Nat) : Prop := ∀ k, d = some k → k < N

theorem J.put {C : Cx} {st : St} {a : Act} {w : World} {ρ β : Fam} (h : J C st a w ρ β) {d : Option Nat} (hd : dstOk C.N d) {v : Value} {x : AV}
    (hv : AVRep w ρ β v x) : J C (st.put d x) (a.put d v) w ρ β := by
  cases d with
  | none => exact h
  | some d =>
    refine ⟨by simp [Act.put, h.size], h.defers, h.os, h.tape, h.output, h.grown, h.kept, h.protlt, h.phan, h.apart, fun s => ?_, h.box⟩
    simp only [Act.put, St.put]
    rw [getD_set _ _ _ _ (by rw [h.size]; exact hd d rfl)]
    split
    · exact hv
    · exact h.env s

theorem constAC_rep (w : World) (ρ β : Fam) (v : Value) : ACRep w ρ β v (constAC v) := by
  unfold constAC
  split
  · exact ⟨none, rfl⟩
  · exact .c v

theorem constAV_rep (w : World) (ρ β : Fam) (v : Value) : AVRep w ρ β v (constAV v) := by
  unfold constAV
  split
  · exact .cell _ _ ⟨none, rfl⟩
  · exact .bad _
  · rename_i cs
    split
    · rename_i h1
      refine .agg cs _ (by simp) (fun u hu => by rw [List.all_eq_true] at h1; exact h1 u hu) (fun j u x hu hx => ?_)
      rw [List.getElem?_map] at hx
      have : cs.toList[j]? = some u := by simpa using hu
      rw [this] at hx
      simp at hx
      subst hx
      exact constAC_rep w ρ β u
    · exact .bad _
  · exact .bad _
  · exact .cell _ _ (.c _)

theorem J.ev {C : Cx} {st : St} {a : Act} {w : World} {ρ β : Fam} (h : J C st a w ρ β) (x : Operand) : AVRep w ρ β (a.eval x) (st.ev x) := by
  cases x with
  | tmp t => exact h.env t
  | const v => exact constAV_rep w ρ β v
  | global g => exact .bad _
  | func f => exact .cell _ _ (.c _)

/-! Inversion. -/
theorem rep_c {w : World} {ρ β : Fam} {v u : Value} (h : AVRep w ρ β v (.cell (.p (.c u)))) : v = u := by
  cases h with
  | cell v x h => cases h; rfl

theorem rep_cell {w : World} {ρ β : Fam} {v : Value} {x : AC} (h : AVRep w ρ β v (.cell x)) : ACRep w ρ β v x := by
  cases h with
  | cell v x h => exact h

theorem rep_agg {w : World} {ρ β : Fam} {v : Value} {xs : List AC} (h : AVRep w ρ β v (.agg xs)) : ∃ cs : Array Value, v = .agg cs ∧ cs.size = xs.length ∧ (∀ u ∈ cs.toList, u.oneCell' = true) ∧
    ∀ (j : Nat) (u : Value) (x : AC), cs[j]? = some u → xs[j]? = some x → ACRep w ρ β u x := by
  cases h with
  | agg cs xs hl ho h => exact ⟨cs, rfl, hl, ho, h⟩

theorem rep_tup {w : World} {ρ β : Fam} {v : Value} {xs : List AV} (h : AVRep w ρ β v (.tup xs)) : ∃ vs : Array Value, v = .tuple vs ∧ vs.size = xs.length ∧
    ∀ (j : Nat) (u : Value) (x : AV), vs[j]? = some u → xs[j]? = some x → AVRep w ρ β u x := by
  cases h with
  | tup vs xs hl h => exact ⟨vs, rfl, hl, h⟩

/-! Numbers, bools, strings. -/
abbrev iV (k : IntKind) (n : Int) : AV := .cell (.p (.c (.int k n)))
abbrev bV (b : Bool) : AV := .cell (.p (.c (.bool b)))
abbrev sV (s : ByteArray) : AV := .cell (.p (.c (.string s)))

def shlI (k : IntKind) (a b : Int) : Int := k.wrap (a * 2 ^ (min b.toNat k.bits))
def shrI (k : IntKind) (a b : Int) : Int := a.fdiv (2 ^ (min b.toNat k.bits))
def intBin (op : BinOp) (k : IntKind) (a b : Int) : Option Value :=
  match op with
  | .add => some (.int k (k.wrap (a + b)))
  | .sub => some (.int k (k.wrap (a - b)))
  | .mul => some (.int k (k.wrap (a * b)))
  | .quo => if b = 0 then none else some (.int k (k.wrap (a.tdiv b)))
  | .rem => if b = 0 then none else some (.int k (a.tmod b))
  | .and => some (.int k (bits .and k a b))
  | .or => some (.int k (bits .or k a b))
  | .xor => some (.int k (bits .xor k a b))
  | .andNot => some (.int k (bits .andNot k a b))
  | .eql => some (.bool (a == b))
  | .neq => some (.bool (a != b))
  | .lss => some (.bool (decide (a < b)))
  | .leq => some (.bool (decide (a ≤ b)))
  | .gtr => some (.bool (decide (a > b)))
  | .geq => some (.bool (decide (a ≥ b)))
  | _ => none

def strBin (op : BinOp) (x y : ByteArray) : Option Value :=
  match op with
  | .add => if ((x.size + y.size : Nat) : Int) > IntKind.i64.max then none else some (.string (x ++ y))
  | .eql => some (.bool (x.toList == y.toList))
  | .neq => some (.bool (!(x.toList == y.toList)))
  | .lss => some (.bool (Op.bytesLess x.toList y.toList))
  | _ => none

def valBin (P : Program) (op : BinOp) (t : TypeId) (x y : Value) : Option Value :=
  match x, y with
  | .int k a, .int k' b =>
    match op with
    | .shl => if b < 0 then none else some (.int k (shlI k a b))
    | .shr => if b < 0 then none else some (.int k (shrI k a b))
    | op => if k = k' then intBin op k a b else none
  | .string a, .string b => strBin op a b
  | .bool a, .bool b =>
    match op, P.underlying t with
    | .eql, some .bool => some (.bool (a == b))
    | .neq, some .bool => some (.bool (!(a == b)))
    | _, _ => none
  | _, _ => none

theorem valBin_run {P : Program} {op : BinOp} {t : TypeId} {x y : Value} {v : Value} (h : valBin P op t x y = some v) (w : World) (ox oy : Operand) :
    (do Go.eqGuard op t ox oy x y; Go.binOp op t x y : Sem Value).run P w = .ok v w := by
  unfold valBin at h
  split at h
  · rename_i k a k' b
    have hg : ∀ op, (Go.eqGuard op t ox oy (.int k a) (.int k' b)).run P w = .ok () w := by
      intro op; cases op <;> simp [Go.eqGuard]
    split at h
    · split at h
      · cases h
      · rename_i hb; cases h; simp [hg, Go.binOp, Op.shift, hb, shlI, shrI]
    · split at h
      · cases h
      · rename_i hb; cases h; simp [hg, Go.binOp, Op.shift, hb, shlI, shrI]
    · split at h
      · rename_i hk
        subst hk
        simp only [Sem.run_bind, hg, Result.andThen_ok]
        cases op <;> simp [intBin] at h <;> (try subst h) <;> (try simp [Go.binOp, Op.intArith, Op.intBits, Op.intCmp, bits]) <;>
          (obtain ⟨h0, rfl⟩ := h; simp [Op.intDiv, h0])
      · cases h
  · rename_i a b
    have hg : ∀ op, (Go.eqGuard op t ox oy (.string a) (.string b)).run P w = .ok () w := by
      intro op; cases op <;> simp [Go.eqGuard]
    simp only [Sem.run_bind, hg, Result.andThen_ok]
    cases op <;> simp [strBin] at h <;> (try subst h) <;> (try simp [Go.binOp, Op.stringOp])
    obtain ⟨h0, rfl⟩ := h
    simp; omega
  · rename_i a b
    have hg : ∀ op, (Go.eqGuard op t ox oy (.bool a) (.bool b)).run P w = .ok () w := by
      intro op; cases op <;> simp [Go.eqGuard]
    split at h
    · rename_i hu; cases h; simp only [Sem.run_bind, hg, Result.andThen_ok]; exact run_eql_bool w t a b hu
    · rename_i hu; cases h; simp only [Sem.run_bind, hg, Result.andThen_ok]; exact run_neq_bool w t a b hu
    · cases h
  · cases h

def valUn (op : UnOp) (x : Value) : Option Value :=
  match op, x with
  | .neg, .int k n => some (.int k (k.wrap (0 - n)))
  | .xor, .int k n => some (.int k (bits .xor k (if k.signed then -1 else k.max) n))
  | .not, .bool b => some (.bool !b)
  | _, _ => none

theorem valUn_run {P : Program} {op : UnOp} {x : Value} {v : Value} (h : valUn op x = some v) (w : World) : (Op.unary op x).run P w = .ok v w := by
  unfold valUn at h
  split at h <;> first | cases h | skip
  all_goals simp [Op.unary, Op.intArith, Op.intBits, bits]

end Go.Fw
