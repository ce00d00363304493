/- Contracts of functions, by their numbers, and the laws that walk them. Conditions: as each states. -/
import Derived.Test.YtgcinmhiohlmiaaDoorG2
import Derived.ChangeArms
import Derived.OpenShut
import Derived.DataReads
import Derived.DataElems
set_option linter.all false
section
set_option linter.all false
namespace Go.Fw
variable [Globals]
open Go.RowKit (Below)

/-- What boxes a loop holds fast: those that it does not make itself. -/
def pinF (T : List Nat) (β : Fam) : Nat → Option Nat := fun i => if T.contains (i / 65536) then none else β (2 * i)

/-- The context of a round. -/
def rCx (C : Cx) (T : List Nat) (β0 : Fam) (L : Nat) (W : World) (Oz : Nat → Prop) (ρ β : Fam) : Cx :=
  { prot := fun b => b < W.heap.size ∧ ¬ Own ρ β b, bad0 := fun b => C.bad0 b ∨ Oz b, w0 := W, N := C.N, perm := fun b => b < W.heap.size ∧ ¬ Own ρ β b ∧ ¬ C.out b, marks := [], loop := some L, out := C.out,
    pin := pinF T β0, seq := fun _ _ _ _ _ _ _ => False }

/-- What is set when a loop begins. -/
structure LoopAt where
  C : Cx
  T : List Nat
  st : St
  a : Act
  w : World
  ρ : Fam
  β : Fam
  L : Nat
  M : List Nat
  fn : FuncId
  ps : Array Tmp
  assign : Code
  body : Code
  dfr : Nat
  Q : Exit → St → Prop
  xs : List (List EV)
  I : Nat → (Nat → Option (List AC)) → Prop

def LoopAt.record (X : LoopAt) (st : LoopState) (pe : Option Code) : Loop := { state := st, pending := pe, fn := X.fn, tmps := X.a.tmps, params := X.ps, assign := X.assign, body := X.body, defers := X.dfr }

def LoopAt.keeps (X : LoopAt) (W : World) (ρ β : Fam) : Prop := ∀ b, b < X.w.heap.size → ¬ Own X.ρ X.β b → ¬ X.C.out b → ¬ Own ρ β b ∧ W.heap[b]? = X.w.heap[b]?

/-- What holds between two rounds. -/
structure RInv (X : LoopAt) (k : Nat) (live : Bool) (Oz Bz : Nat → Prop) (W : World) (bx : Nat → Option (List AC)) (ρ β : Fam) : Prop where
  J : J (rCx X.C X.T X.β X.L W Oz ρ β) (X.st.base X.T bx) ⟨X.a.tmps, []⟩ W ρ β
  keeps : X.keeps W ρ β
  bad : ∀ b, Bad ρ β b → Own ρ β b ∨ X.C.bad0 b ∨ Oz b
  own : ∀ b, Own ρ β b → Bz b
  badB : ∀ b, X.C.bad0 b → Bz b
  L : Bz X.L ∧ ¬ Oz X.L
  oz : ∀ b, Oz b → X.w.heap.size ≤ b
  M : ∀ D ∈ X.M, D < W.heap.size ∧ ¬ Own ρ β D ∧ ¬ Oz D ∧ W.heap[D]? = some (.deferred (some []))
  size : X.w.heap.size ≤ W.heap.size
  os : W.os = X.w.os
  tape : W.tape = X.w.tape
  output : W.output = X.w.output
  on : live = true → X.I k bx ∧ W.heap[X.L]? = some (.loop (X.record .ready none))
  off : live = false → ∃ c, W.heap[X.L]? = some (.loop (X.record .done (some c))) ∧ ((c = .ret ∧ X.Q .ret (X.st.base X.T bx)) ∨ ∃ id, c = .exit id ∧ X.Q (.exit id) (X.st.base X.T bx))

structure LoopOk (X : LoopAt) : Prop where
  J : J X.C X.st X.a X.w X.ρ X.β
  L : X.w.heap.size ≤ X.L
  M : ∀ D ∈ X.M, X.w.heap.size ≤ D ∧ D ≠ X.L
  nodup : X.M.Nodup

/-- FROM ANY WALK TO BETWEEN TWO ROUNDS. -/
theorem LoopOk.move {X : LoopAt} (hX : LoopOk X) {C2 : Cx} {s2 : St} {a2 : Act} {W2 W3 : World} {ρ2 β2 : Fam} (h2 : Go.Fw.J C2 s2 a2 W2 ρ2 β2) {Y : Nat → Prop} (hT : Turn (fun b => C2.bad0 b ∨ Y b) W2 W3)
    (hY : ∀ b, Y b → C2.prot b ∧ NotData W2 b) (hN : C2.N = X.C.N) (hpin : C2.pin = pinF X.T X.β) {Oz : Nat → Prop} (hb : ∀ b, X.C.bad0 b → C2.bad0 b)
    (hoz : ∀ b, Oz b → b < W3.heap.size ∧ (C2.bad0 b ∨ W2.heap.size ≤ b) ∧ X.w.heap.size ≤ b) (hk : X.keeps W3 ρ2 β2) (hL : X.L < W3.heap.size ∧ ¬ Own ρ2 β2 X.L ∧ ¬ Oz X.L ∧ ∃ r, W3.heap[X.L]? = some (.loop r)) :
    ∃ β3, Go.Fw.J (rCx X.C X.T X.β X.L W3 Oz ρ2 β3) (X.st.base X.T s2.box) ⟨X.a.tmps, []⟩ W3 ρ2 β3 ∧ (∀ b, Own ρ2 β3 b ↔ Own ρ2 β2 b) ∧ ∀ b, Bad ρ2 β3 b → Own ρ2 β3 b ∨ X.C.bad0 b ∨ Oz b := by
  have hown : ∀ b, Own ρ2 (phanF β2 fun b => X.C.bad0 b ∨ Oz b) b ↔ Own ρ2 β2 b := by
    intro b; unfold Own; simp only [phanF_even]
  have hbl : ∀ b, X.C.bad0 b → b < X.w.heap.size := fun b h => hX.J.apart.box _ b (hX.J.phan b h)
  have hw : Go.Fw.J C2 ⟨fun _ => .bad, s2.box⟩ a2 W2 ρ2 β2 := h2.weaken (fun _ => .inr rfl)
  have hpr : (rCx X.C X.T X.β X.L W3 Oz ρ2 (phanF β2 fun b => X.C.bad0 b ∨ Oz b)).prot = fun b => b < W3.heap.size ∧ ¬ Own ρ2 β2 b := by
    funext b; show (_ ∧ ¬ _) = _; rw [propext (hown b)]
  have hbl2 : ∀ b, C2.bad0 b → b < W2.heap.size := fun b h => h2.apart.box _ b (h2.phan b h)
  have hf := hw.foreign (X := Y) (C' := rCx X.C X.T X.β X.L W3 Oz ρ2 (phanF β2 fun b => X.C.bad0 b ∨ Oz b)) (a' := ⟨a2.tmps, []⟩) hT hY rfl hN.symm
    (fun i q hq => h2.pin i q (by rw [hpin]; exact hq))
    (fun b h => h.elim (fun h => ⟨Nat.lt_of_lt_of_le (hbl2 b (hb b h)) hT.size, .inl (hb b h)⟩) (fun h => ⟨(hoz b h).1, (hoz b h).2.1⟩))
    (fun b h => by rw [hpr] at h; exact h)
    ⟨hX.J.ext.small, rfl, List.nodup_nil, fun D hD => by simp [rCx] at hD, fun b h => ⟨⟨h.1, h.2.1⟩, h.2.2⟩, fun b h => .inl (hX.J.ext.outb b h), fun l hl => by
      simp only [rCx, Option.some.injEq] at hl; subst hl
      exact ⟨⟨hL.1, fun h => hL.2.1 ((hown _).1 h)⟩, fun h => h.elim (fun h => by have := hbl _ h; have := hX.L; omega) hL.2.2.1, hL.2.2.2⟩, fun l xs k v e => by simp at e⟩ rfl
  refine ⟨phanF β2 (fun b => X.C.bad0 b ∨ Oz b), ?_, hown, fun b h => ?_⟩
  · have hext := hf.ext
    refine hf.withEnv (X.st.base X.T s2.box).env ⟨hext.small, rfl, hext.nodup, hext.marks, hext.perm, hext.outb, hext.loop, fun l xs k v e => by simp [St.base] at e⟩ (by exact hX.J.size) (fun s => ?_)
    simp only [St.base]
    split
    · exact .bad _
    · refine only_av (Hx.blocks fun y hlt hx => ?_) (fun i b hi hbi => ?_) (only_rep X.T (hX.J.env s))
      · have h1 : ¬ Own X.ρ X.β y := fun h => hx (bad_own hX.J (.inl h))
        have h3 : ¬ X.C.bad0 y := fun h => hx (bad_own hX.J (.inr h))
        obtain ⟨k1, k2⟩ := hk y hlt h1 (fun h => h3 (hX.J.ext.outb _ h))
        refine ⟨?_, k2⟩
        show ¬ Bad ρ2 (phanF β2 fun b => X.C.bad0 b ∨ Oz b) y
        rw [bad_phanF]
        rintro (h | h | h)
        · exact k1 h
        · exact h3 h
        · have := (hoz _ h).2.2; omega
      · show phanF β2 (fun b => X.C.bad0 b ∨ Oz b) (2 * i) = some b
        rw [phanF_even]
        refine h2.pin i b ?_
        rw [hpin]; unfold pinF; rw [if_neg (by rw [hi]; simp)]; exact hbi
  · rw [bad_phanF] at h
    rcases h with h | h | h
    · exact .inl ((hown b).2 h)
    · exact .inr (.inl h)
    · exact .inr (.inr h)
end Go.Fw
end
section
set_option linter.all false
namespace Go.Fw
variable [Globals]
open Go.RowKit (Below)

def seqR (X : LoopAt) (l : Nat) (xs : List (List EV)) (k : Nat) (live : Bool) (Oz Bz : Nat → Prop) (W : World) : Prop := l = X.L ∧ xs = X.xs ∧ ∃ bx ρ β, RInv X k live Oz Bz W bx ρ β

theorem RInv.loop {X : LoopAt} {k : Nat} {live : Bool} {Oz Bz : Nat → Prop} {W : World} {bx : Nat → Option (List AC)} {ρ β : Fam} (h : RInv X k live Oz Bz W bx ρ β) : X.L < W.heap.size ∧ ¬ Own ρ β X.L ∧ ∃ r, W.heap[X.L]? = some (.loop r) := by
  obtain ⟨h1, _, r, h3⟩ := h.J.ext.loop X.L rfl
  exact ⟨h1.1, h1.2, r, h3⟩

theorem RInv.stable {X : LoopAt} (hX : LoopOk X) {k : Nat} {live : Bool} {Oz Bz Oz' : Nat → Prop} {W W' : World} {bx : Nat → Option (List AC)} {ρ β : Fam} (h : RInv X k live Oz Bz W bx ρ β) (hT : Turn Oz W W')
    (ho : ∀ b, Oz' b → b < W'.heap.size ∧ (Oz b ∨ W.heap.size ≤ b)) : ∃ β', RInv X k live Oz' Bz W' bx ρ β' := by
  obtain ⟨l1, l2, r, l3⟩ := h.loop
  have hlt : ∀ b, b < X.w.heap.size → W'.heap[b]? = W.heap[b]? := fun b hb => hT.same b (Nat.lt_of_lt_of_le hb h.size) (fun hz => by have := h.oz b hz; omega)
  have hLs : W'.heap[X.L]? = W.heap[X.L]? := hT.same _ l1 h.L.2
  have hnz : ¬ Oz' X.L := fun hz => (ho _ hz).2.elim h.L.2 (fun h => by omega)
  have hkeep : X.keeps W' ρ β := fun b hb h1 h2 => ⟨(h.keeps b hb h1 h2).1, (hlt b hb).trans (h.keeps b hb h1 h2).2⟩
  obtain ⟨β', hJ', hown, hbad⟩ := hX.move (Y := fun _ => False) (Oz := Oz') h.J (hT.mono (fun b _ hz => .inl (.inr hz))) (fun b h => h.elim) rfl rfl (fun b hb => .inl hb)
    (fun b hz => ⟨(ho b hz).1, (ho b hz).2.elim (fun h => .inl (.inr h)) .inr, (ho b hz).2.elim (fun hz => h.oz b hz) (fun hz => Nat.le_trans h.size hz)⟩) hkeep ⟨Nat.lt_of_lt_of_le l1 hT.size, l2, hnz, r, hLs.trans l3⟩
  refine ⟨β', hJ', fun b hb h1 h2 => ⟨fun ho => (hkeep b hb h1 h2).1 ((hown b).1 ho), (hkeep b hb h1 h2).2⟩, hbad, fun b hb => h.own b ((hown b).1 hb), h.badB, ⟨h.L.1, hnz⟩, fun b hz => (ho b hz).2.elim (fun hz => h.oz b hz) (fun hz => Nat.le_trans h.size hz), fun D hD => ?_, Nat.le_trans h.size hT.size, hT.os.trans h.os, hT.tape.trans h.tape, hT.output.trans h.output, fun hl => ?_, fun hl => ?_⟩
  · obtain ⟨m1, m2, m3, m4⟩ := h.M D hD
    exact ⟨Nat.lt_of_lt_of_le m1 hT.size, fun ho => m2 ((hown D).1 ho), fun hz => (ho D hz).2.elim m3 (fun h => by omega), (hT.same D m1 m3).trans m4⟩
  · obtain ⟨i1, i2⟩ := h.on hl; exact ⟨i1, hLs.trans i2⟩
  · obtain ⟨c, i1, i2⟩ := h.off hl; exact ⟨c, hLs.trans i1, i2⟩

theorem putObj_turn {w : World} {l : Nat} {o : Obj} : Turn (fun b => b = l) w (w.putObj l o) :=
  ⟨by simp, rfl, rfl, rfl, fun b _ hn => World.putObj_heap_other hn⟩

/-- Behind a round, or ahead of the first: the loop's record is written. -/
theorem RInv.behind {X : LoopAt} (hX : LoopOk X) {k k' : Nat} {live live' : Bool} {Oz Bz : Nat → Prop} {W W1 : World} {bx : Nat → Option (List AC)} {ρ β : Fam} (h : RInv X k live Oz Bz W bx ρ β) {C2 : Cx} {s2 : St} {a2 : Act} {ρ2 β2 : Fam}
    (hJ2 : Go.Fw.J C2 s2 a2 W1 ρ2 β2) (hN : C2.N = X.C.N) (hpin : C2.pin = pinF X.T X.β) (hbd : ∀ b, (rCx X.C X.T X.β X.L W Oz ρ β).bad0 b → C2.bad0 b)
    (hperm : ∀ b, b < W.heap.size → ¬ Own ρ β b → ¬ X.C.out b → C2.prot b ∧ (b ≠ X.L → W1.heap[b]? = W.heap[b]?)) (hsz : W.heap.size ≤ W1.heap.size) (hos : W1.os = W.os) (htp : W1.tape = W.tape) (hout : W1.output = W.output)
    {o : Loop} (hL : ∃ r, W1.heap[X.L]? = some (.loop r)) (hon : live' = true → X.I k' s2.box ∧ o = X.record .ready none)
    (hoff : live' = false → ∃ c, o = X.record .done (some c) ∧ ((c = .ret ∧ X.Q .ret (X.st.base X.T s2.box)) ∨ ∃ id, c = .exit id ∧ X.Q (.exit id) (X.st.base X.T s2.box))) :
    Turn Bz W (W1.putObj X.L (.loop o)) ∧ ∃ ρ' β', RInv X k' live' Oz (fun b => Bz b ∨ newB W (W1.putObj X.L (.loop o)) b) (W1.putObj X.L (.loop o)) s2.box ρ' β' := by
  obtain ⟨l1, l2, _⟩ := h.loop
  have hLout : ¬ X.C.out X.L := fun ho => by have := hX.J.apart.box _ _ (hX.J.phan _ (hX.J.ext.outb _ ho)); have := hX.L; omega
  have hW3 : (W1.putObj X.L (.loop o)).heap.size = W1.heap.size := by simp
  have hLn : (W1.putObj X.L (.loop o)).heap[X.L]? = some (.loop o) := World.putObj_heap_same (Nat.lt_of_lt_of_le l1 hsz)
  have hpL := (hperm X.L l1 l2 hLout).1
  have hoth : ∀ b, b ≠ X.L → b < W.heap.size → ¬ Own ρ β b → ¬ X.C.out b → (W1.putObj X.L (.loop o)).heap[b]? = W.heap[b]? := fun b hne hb h1 h2 => (World.putObj_heap_other hne).trans ((hperm b hb h1 h2).2 hne)
  have hno2 : ∀ b, C2.prot b → ¬ Own ρ2 β2 b := fun b hp ho => (own_not_prot hJ2 ho).1 hp
  have hkeep : X.keeps (W1.putObj X.L (.loop o)) ρ2 β2 := fun b hb h1 h2 => by
    obtain ⟨k1, k2⟩ := h.keeps b hb h1 h2
    have hbW := Nat.lt_of_lt_of_le hb h.size
    have hne : b ≠ X.L := by have := hX.L; omega
    exact ⟨hno2 b (hperm b hbW k1 h2).1, (hoth b hne hbW k1 h2).trans k2⟩
  have hozlt : ∀ b, Oz b → b < W.heap.size := fun b hz => h.J.apart.box _ b (h.J.phan b (.inr hz))
  obtain ⟨β', hJ', hown, hbad⟩ := hX.move (Y := fun b => b = X.L) (W3 := W1.putObj X.L (.loop o)) (Oz := Oz) hJ2 (putObj_turn.mono (fun b _ e => .inr e)) (fun b e => by
      subst e; obtain ⟨r, hr⟩ := hL; exact ⟨hpL, NotData.of hr trivial⟩) hN hpin (fun b hb => hbd b (.inl hb))
    (fun b hz => ⟨by rw [hW3]; exact Nat.lt_of_lt_of_le (hozlt b hz) hsz, .inl (hbd b (.inr hz)), h.oz b hz⟩) hkeep ⟨by rw [hW3]; exact Nat.lt_of_lt_of_le l1 hsz, hno2 _ hpL, h.L.2, o, hLn⟩
  have hnew : ∀ b, Own ρ2 β2 b → Bz b ∨ newB W (W1.putObj X.L (.loop o)) b := fun b ho => by
    obtain ⟨h1, h2, h3⟩ := own_not_prot hJ2 ho
    rcases Nat.lt_or_ge b W.heap.size with hb | hb
    · refine .inl ?_
      by_cases ho' : Own ρ β b
      · exact h.own b ho'
      · by_cases hou : X.C.out b
        · exact h.badB b (hX.J.ext.outb b hou)
        · exact (h1 (hperm b hb ho' hou).1).elim
    · exact .inr ⟨hb, by rw [hW3]; exact h2⟩
  refine ⟨⟨by rw [hW3]; exact hsz, hos, htp, hout, fun b hb hn => ?_⟩, ρ2, β', hJ', fun b hb h1 h2 => ⟨fun ho => (hkeep b hb h1 h2).1 ((hown b).1 ho), (hkeep b hb h1 h2).2⟩, hbad, fun b ho => hnew b ((hown b).1 ho), fun b hb => .inl (h.badB b hb), ⟨.inl h.L.1, h.L.2⟩, h.oz, fun D hD => ?_,
    by rw [hW3]; exact Nat.le_trans h.size hsz, hos.trans h.os, htp.trans h.tape, hout.trans h.output, fun hl => ?_, fun hl => ?_⟩
  · refine hoth b (fun e => hn (e ▸ h.L.1)) hb (fun ho => hn (h.own b ho)) (fun ho => hn (h.badB b (hX.J.ext.outb b ho)))
  · obtain ⟨m1, m2, m3, m4⟩ := h.M D hD
    obtain ⟨d1, d2⟩ := hX.M D hD
    have hDout : ¬ X.C.out D := fun ho => by have := hX.J.apart.box _ _ (hX.J.phan _ (hX.J.ext.outb _ ho)); omega
    exact ⟨by rw [hW3]; exact Nat.lt_of_lt_of_le m1 hsz, fun ho => hno2 D (hperm D m1 m2 hDout).1 ((hown D).1 ho), m3, (hoth D d2 m1 m2 hDout).trans m4⟩
  · obtain ⟨i1, i2⟩ := hon hl; exact ⟨i1, by rw [hLn, i2]⟩
  · obtain ⟨c, i1, i2⟩ := hoff hl; exact ⟨c, by rw [hLn, i1], i2⟩
end Go.Fw
end
section
set_option linter.all false
namespace Go.Fw
variable [Globals]
open Go.RowKit (Below)

theorem seqLaw_none (P : Program) : SeqLaw P (fun _ _ _ _ _ _ _ => False) := ⟨fun _ _ _ _ _ _ _ _ _ h => h.elim, fun _ _ _ _ _ _ _ _ h => h.elim⟩

/-- What is proved of a code. -/
def Sound (P : Program) (c : Code) : Prop := ∀ (F : Fence) (n : Nat) (C : Cx) (Q : Exit → St → Prop) (st : St) (a : Act) (w : World) (ρ β : Fam), FenceOk F C → SeqLaw P C.seq → PinOk C c → codeOk C.N c = true → awp P c Q st → J C st a w ρ β → c.wpIn F n P (lift C Q) a w

theorem seqR_law {P : Program} {X : LoopAt} (hX : LoopOk X) (hA : Sound P X.assign) (hB : Sound P X.body) (hT : X.T = rids X.assign ++ rids X.body) (okA : codeOk X.C.N X.assign = true) (okB : codeOk X.C.N X.body = true) (okP : ∀ p ∈ X.ps.toList, p < X.C.N)
    (hlen : ∀ x ∈ X.xs, x.length = X.ps.size)
    (hround : ∀ k x bx, X.xs[k]? = some x → X.I k bx → awp P X.assign (aThen (awp P X.body (rPost X.st X.T (X.I (k + 1)) X.Q)) (fun _ _ => False)) (setPs X.ps.toList x (X.st.base X.T bx))) : SeqLaw P (seqR X) := by
  refine ⟨fun l xs k live Oz Bz w w' Oz' ⟨h1, h2, bx, ρ, β, h⟩ hT ho => ⟨h1, h2, bx, ρ, h.stable hX hT ho⟩, ?_⟩
  rintro l xs k x Oz Bz W args ⟨rfl, rfl, bx, ρ, β, h⟩ hx hsz hrep F n hF
  have hxl := hlen x (List.mem_of_getElem? hx)
  obtain ⟨hI, hrec⟩ := h.on rfl
  obtain ⟨l1, l2, _⟩ := h.loop
  have hy := run_yield (P := P) (args := args) hrec (by show args.size = X.ps.size; omega)
  refine ⟨X.fn, _, X.assign, X.body, hy, roundIn_of_wpIn (hF.fn _) ?_⟩
  have hLout : ¬ X.C.out X.L := fun ho => by have := hX.J.apart.box _ _ (hX.J.phan _ (hX.J.ext.outb _ ho)); have := hX.L; omega
  have hfo : F.inRound X.L = Fence.wide.inRound X.L := by rcases hF with rfl | ⟨l, rfl⟩ <;> rfl
  have hJ0 := h.J.setPs X.ps.toList x args.toList _ _ okP (by simpa using hxl.symm) (by simpa using hsz) (fun j u y hu hy => by
    refine Ext.av ⟨Hx.same fun z hz hb => hz ?_, fun f b _ hf => by simp [noneF] at hf, fun i b hi => by rw [beta0_even] at hi; cases hi⟩ (hrep j u y (by simpa using hu) hy)
    rw [bad_none]
    rcases h.bad _ hb with h1 | h1 | h1
    · exact .inr (h.own _ h1)
    · exact .inr (h.badB _ h1)
    · exact .inl h1)
  have hfold : (X.ps.toList.zip args.toList).foldl (fun t (p, v) => t.setIfInBounds p v) X.a.tmps = (X.ps.zip args).foldl (fun tmps (t, a) => tmps.setIfInBounds t a) X.a.tmps := by
    rw [← Array.foldl_toList, Array.toList_zip]
  simp only [hfold] at hJ0
  have hpn : ∀ c : Code, (∀ i, (rids c).contains i = true → X.T.contains i = true) → PinOk (rCx X.C X.T X.β X.L W Oz ρ β) c := fun c hc i hi => by
    show pinF X.T X.β i = none
    unfold pinF; rw [if_pos (hc _ hi)]
  have hpA : PinOk (rCx X.C X.T X.β X.L W Oz ρ β) X.assign := hpn _ (fun i hi => by rw [hT]; simp at hi ⊢; exact .inl hi)
  have hpB : PinOk (rCx X.C X.T X.β X.L W Oz ρ β) X.body := hpn _ (fun i hi => by rw [hT]; simp at hi ⊢; exact .inr hi)
  refine Code.wpIn_mono ?_ (hA (F.inRound X.L) n (rCx X.C X.T X.β X.L W Oz ρ β) _ _ _ _ ρ β (.inr ⟨X.L, hfo, rfl⟩) (seqLaw_none P) hpA okA (hround k x bx hx hI) hJ0)
  rintro e a1 w1 ⟨_, C1, s1, ρ1, β1, hle, hq, hJ1⟩
  cases e with
  | normal =>
    obtain ⟨p1, p2⟩ := hle.perm X.L ⟨l1, l2, hLout⟩
    have hrec1 : w1.heap[X.L]? = some (.loop (X.record .ready none)) := (hJ1.kept _ (hJ1.ext.perm _ p1).1).trans (p2.trans hrec)
    have hLlt1 : X.L < w1.heap.size := (Array.getElem?_eq_some_iff.1 hrec1).1
    refine ⟨_, run_beginRound hrec1 rfl, ?_⟩
    have hw2 : (w1.putObj X.L (.loop (X.record .busy none))).heap.size = w1.heap.size := by simp
    have hmk : C1.marks = [] := by obtain ⟨m, e1, e2, _⟩ := hle.marks; rw [e1, e2 rfl]; rfl
    have hno1 : ∀ b, C1.prot b → ¬ Own ρ1 β1 b := fun b hp ho => (own_not_prot hJ1 ho).1 hp
    have hlt1 : ∀ b, C1.prot b → b < w1.heap.size := fun b hp => Nat.lt_of_lt_of_le (hJ1.protlt b hp) hJ1.grown
    have hL1 : C1.loop = some X.L := hle.loop
    obtain ⟨e1, e2, _⟩ := hJ1.ext.loop X.L hL1
    let C1' : Cx := { C1 with w0 := w1.putObj X.L (.loop (X.record .busy none)), prot := fun b => b < (w1.putObj X.L (.loop (X.record .busy none))).heap.size ∧ ¬ Own ρ1 β1 b, seq := fun _ _ _ _ _ _ _ => False }
    have hs1 : C1.seq = fun _ _ _ _ _ _ _ => False := hle.seq
    have hbl1 : ∀ b, C1.bad0 b → b < w1.heap.size := fun b h => hJ1.apart.box _ b (hJ1.phan b h)
    have hL2 : (w1.putObj X.L (.loop (X.record .busy none))).heap[X.L]? = some (.loop (X.record .busy none)) := World.putObj_heap_same hLlt1
    have hext : JExt C1' s1 a1 := by
      refine ⟨hJ1.ext.small, hJ1.ext.defers, hJ1.ext.nodup, fun D hD => ?_, fun b hb => ?_, hJ1.ext.outb, fun l hl => ?_, fun l xs k v e => ?_⟩
      · have hD' : D ∈ C1.marks := hD
        rw [hmk] at hD'; cases hD'
      · exact ⟨⟨by rw [hw2]; exact hlt1 b (hJ1.ext.perm b hb).1, hno1 b (hJ1.ext.perm b hb).1⟩, (hJ1.ext.perm b hb).2⟩
      · have hl' : some X.L = some l := hL1.symm.trans hl
        cases hl'
        exact ⟨⟨by rw [hw2]; exact hLlt1, hno1 _ e1⟩, e2, _, hL2⟩
      · have h9 := hJ1.ext.seq l xs k v e
        rw [hs1] at h9; exact h9
    have hJ2 := hJ1.foreign (X := fun b => b = X.L) (C' := C1') (a' := a1) (putObj_turn.mono (fun b _ e => .inr e)) (fun b e => by
      subst e
      exact ⟨e1, NotData.of hrec1 trivial⟩) rfl rfl hJ1.pin (fun b hb => ⟨by
        show b < (w1.putObj X.L (.loop (X.record .busy none))).heap.size
        rw [hw2]; exact hbl1 b hb, .inl hb⟩) (fun b hb => hb) hext rfl
    refine Code.wpIn_mono ?_ (hB (F.inRound X.L) n C1' _ _ _ _ ρ1 _ (.inr ⟨X.L, hfo, hL1⟩) (seqLaw_none P) (fun i hi => by show C1.pin i = none; rw [hle.pin]; exact hpB i hi) (by show codeOk C1.N X.body = true; rw [hle.N]; exact okB) hq hJ2)
    have main : ∀ (live' : Bool) (o : Loop) (C2 : Cx) (s2 : St) (a2 : Act) (w3 : World) (ρ2 β2 : Fam), C1'.le C2 → J C2 s2 a2 w3 ρ2 β2 → (live' = true → X.I (k + 1) s2.box ∧ o = X.record .ready none) →
        (live' = false → ∃ c, o = X.record .done (some c) ∧ ((c = .ret ∧ X.Q .ret (X.st.base X.T s2.box)) ∨ ∃ id, c = .exit id ∧ X.Q (.exit id) (X.st.base X.T s2.box))) →
        w3.heap[X.L]? = some (.loop (X.record .busy none)) ∧ Turn Bz W (w3.putObj X.L (.loop o)) ∧ ∀ k', (live' = true → k' = k + 1) → seqR X X.L X.xs k' live' Oz (fun b => Bz b ∨ newB W (w3.putObj X.L (.loop o)) b) (w3.putObj X.L (.loop o)) := by
      intro live' o C2 s2 a2 w3 ρ2 β2 hle2 hJ3 hon hoff
      obtain ⟨q1, q2⟩ := hle2.perm X.L p1
      have hrec3 : w3.heap[X.L]? = some (.loop (X.record .busy none)) := (hJ3.kept _ (hJ3.ext.perm _ q1).1).trans (q2.trans hL2)
      have hg1 : W.heap.size ≤ w1.heap.size := Nat.le_trans hle.size hJ1.grown
      have hg2 : w1.heap.size ≤ w3.heap.size := by have := Nat.le_trans hle2.size hJ3.grown; simpa [C1'] using this
      have hperm : ∀ b, b < W.heap.size → ¬ Own ρ β b → ¬ X.C.out b → C2.prot b ∧ (b ≠ X.L → w3.heap[b]? = W.heap[b]?) := by
        intro b hb h1 h2
        obtain ⟨r1, r2⟩ := hle.perm b ⟨hb, h1, h2⟩
        obtain ⟨r3, r4⟩ := hle2.perm b r1
        refine ⟨(hJ3.ext.perm b r3).1, fun hne => ?_⟩
        have s1 : w3.heap[b]? = C2.w0.heap[b]? := hJ3.kept b (hJ3.ext.perm b r3).1
        have s2 : C2.w0.heap[b]? = (w1.putObj X.L (.loop (X.record .busy none))).heap[b]? := r4
        have s3 : (w1.putObj X.L (.loop (X.record .busy none))).heap[b]? = w1.heap[b]? := World.putObj_heap_other hne
        have s4 : w1.heap[b]? = C1.w0.heap[b]? := hJ1.kept b (hJ1.ext.perm b r1).1
        have s5 : C1.w0.heap[b]? = W.heap[b]? := r2
        rw [s1, s2, s3, s4, s5]
      have hos : w3.os = W.os := (hJ3.os.trans (hle2.os.trans (show (w1.putObj X.L (.loop (X.record .busy none))).os = w1.os from rfl))).trans (hJ1.os.trans hle.os)
      have htp : w3.tape = W.tape := (hJ3.tape.trans (hle2.tape.trans (show (w1.putObj X.L (.loop (X.record .busy none))).tape = w1.tape from rfl))).trans (hJ1.tape.trans hle.tape)
      have hou : w3.output = W.output := (hJ3.output.trans (hle2.output.trans (show (w1.putObj X.L (.loop (X.record .busy none))).output = w1.output from rfl))).trans (hJ1.output.trans hle.output)
      obtain ⟨t1, t2⟩ := h.behind hX (live' := live') (k' := k + 1) hJ3 (hle2.N.trans hle.N) (hle2.pin.trans hle.pin) (fun b hb => hle2.bad b (hle.bad b hb)) hperm (Nat.le_trans hg1 hg2) hos htp hou (o := o) ⟨_, hrec3⟩ hon hoff
      obtain ⟨ρ4, β4, t2⟩ := t2
      refine ⟨hrec3, t1, fun k' hk' => ⟨rfl, rfl, s2.box, ρ4, β4, ?_⟩⟩
      cases live' with
      | true => rw [hk' rfl]; exact t2
      | false => exact ⟨t2.J, t2.keeps, t2.bad, t2.own, t2.badB, t2.L, t2.oz, t2.M, t2.size, t2.os, t2.tape, t2.output, fun h => (by cases h), t2.off⟩
    rintro e a2 w3 ⟨hne, C2, s2, ρ2, β2, hle2, hq2, hJ3⟩
    cases e with
    | normal =>
      obtain ⟨m1, m2, m3⟩ := main true (X.record .ready none) C2 s2 a2 w3 ρ2 β2 hle2 hJ3 (fun _ => ⟨hq2, rfl⟩) (fun h => by cases h)
      exact ⟨_, _, run_endRound none m1, m2, .inl ⟨rfl, m3 (k + 1) (fun _ => rfl)⟩⟩
    | ret =>
      obtain ⟨m1, m2, m3⟩ := main false (X.record .done (some .ret)) C2 s2 a2 w3 ρ2 β2 hle2 hJ3 (fun h => by cases h) (fun _ => ⟨.ret, rfl, .inl ⟨rfl, hq2⟩⟩)
      exact ⟨_, _, run_endRound (some .ret) m1, m2, .inr ⟨rfl, m3 k (fun h => by cases h)⟩⟩
    | exit id =>
      obtain ⟨m1, m2, m3⟩ := main false (X.record .done (some (.exit id))) C2 s2 a2 w3 ρ2 β2 hle2 hJ3 (fun h => by cases h) (fun _ => ⟨.exit id, rfl, .inr ⟨id, rfl, hq2⟩⟩)
      exact ⟨_, _, run_endRound (some (.exit id)) m1, m2, .inr ⟨rfl, m3 k (fun h => by cases h)⟩⟩
    | goto l => exact hq2.elim
    | panic ch => exact hq2.elim
    | outgrown => exact (hne rfl).elim
  | _ => exact hq.elim
end Go.Fw
end
section
set_option linter.all false
namespace Go.Fw
variable [Globals]
open Go.RowKit (Below)

theorem J.repin {C : Cx} {st : St} {a : Act} {w : World} {ρ β : Fam} (h : J C st a w ρ β) (T : List Nat) : J { C with pin := pinF T β } st a w ρ β :=
  ⟨h.size, ⟨h.ext.small, h.ext.defers, h.ext.nodup, h.ext.marks, h.ext.perm, h.ext.outb, h.ext.loop, h.ext.seq⟩, h.os, h.tape, h.output, h.grown, h.kept, h.protlt, h.phan, h.apart, h.env, h.box, h.glob, fun i q hq => by
    have hq' : pinF T β i = some q := hq
    unfold pinF at hq'
    split at hq'
    · cases hq'
    · exact hq'⟩

theorem range_core {P : Program} {F : Fence} {n : Nat} {X : LoopAt} (hX : LoopOk X) (hF : FenceOk F X.C) (hMl : X.C.loop.isSome = true → X.M = []) {W1 : World} (hT1 : Turn (fun _ => False) X.w W1) (hL : X.L < W1.heap.size) (hrec : W1.heap[X.L]? = some (.loop (X.record .ready none)))
    (hM : ∀ D ∈ X.M, D < W1.heap.size ∧ W1.heap[D]? = some (.deferred (some []))) (hpin : ∀ i, X.T.contains (i / 65536) = true → X.C.pin i = none) (hlaw : SeqLaw P (seqR X)) {gf : FuncId} {cs : List CV} {vs : Array Value} (hvl : vs.size = cs.length)
    (hvr : ∀ (j : Nat) (u : Value) (c : CV), vs[j]? = some u → cs[j]? = some c → CRep X.w (Bad X.ρ X.β) u c) (hseq : SeqAt P gf (cs.map fun c => .cell (.p c)) X.xs) (h0 : X.I 0 X.st.box) (hdone : ∀ bx, X.I X.xs.length bx → X.Q .normal (X.st.base X.T bx)) {C0 : Cx} {Q0 : Exit → St → Prop}
    (hfin : ∀ (C3 : Cx) (ρ2 β2 : Fam) (W4 : World) (bx : Nat → Option (List AC)) (e : Exit), X.C.le C3 → (C3.bad0 = X.C.bad0 ∧ C3.perm = X.C.perm ∧ C3.out = X.C.out) → J C3 (X.st.base X.T bx) { X.a with defers := X.M.map markOf ++ X.a.defers } W4 ρ2 β2 → (X.keeps W4 ρ2 β2 ∧ X.w.heap.size ≤ W4.heap.size) →
      (∀ b, Bad ρ2 β2 b → Own ρ2 β2 b ∨ X.C.bad0 b) → X.Q e (X.st.base X.T bx) → ∃ C4 st4 ρ4 β4, C0.le C4 ∧ Q0 e st4 ∧ J C4 st4 { X.a with defers := X.M.map markOf ++ X.a.defers } W4 ρ4 β4) :
    CallsIn F (n - 1) P gf (#[.func (.yield X.L) #[] #[]] ++ vs) W1 (rangePost F n P X.L (lift C0 Q0) { X.a with defers := X.M.map markOf ++ X.a.defers }) := by
  have hJ := hX.J
  have hbl : ∀ b, X.C.bad0 b → b < X.w.heap.size := fun b h => hJ.apart.box _ b (hJ.phan b h)
  have hol : ∀ b, Own X.ρ X.β b → b < X.w.heap.size := fun b h => (own_not_prot hJ h).2.1
  have hcell : Hx X.w (Bad X.ρ X.β) W1 (Bad noneF (beta0 fun b => Own X.ρ X.β b ∨ X.C.bad0 b ∨ b = X.L)) := by
    refine Hx.blocks fun y hlt hx => ⟨?_, hT1.same _ hlt id⟩
    rw [bad_none]
    rintro (h | h | h)
    · exact hx (bad_own hJ (.inl h))
    · exact hx (bad_own hJ (.inr h))
    · have := hX.L; omega
  -- ahead of the first round
  have hstart : seqR X X.L X.xs 0 true (fun _ => False) (fun b => Own X.ρ X.β b ∨ X.C.bad0 b ∨ b = X.L) W1 := by
    have hkeep : X.keeps W1 X.ρ X.β := fun b hb h1 _ => ⟨h1, hT1.same b hb id⟩
    obtain ⟨β3, hJ3, hown, hbad⟩ := hX.move (Y := fun _ => False) (W3 := W1) (Oz := fun _ => False) (hJ.repin X.T) (hT1.mono (fun b _ h => h.elim)) (fun b h => h.elim) rfl rfl (fun b h => h) (fun b h => h.elim) hkeep ⟨hL, fun h => by have := hol _ h; have := hX.L; omega, id, _, hrec⟩
    refine ⟨rfl, rfl, X.st.box, X.ρ, β3, hJ3, fun b hb h1 h2 => ⟨fun h => h1 ((hown b).1 h), hT1.same b hb id⟩, hbad, fun b h => .inl ((hown b).1 h), fun b h => .inr (.inl h), ⟨.inr (.inr rfl), id⟩, fun b h => h.elim, fun D hD => ?_, hT1.size, hT1.os, hT1.tape, hT1.output, fun _ => ⟨h0, hrec⟩, fun h => by cases h⟩
    obtain ⟨m1, m2⟩ := hM D hD
    exact ⟨m1, fun h => by have := hol _ ((hown D).1 h); have := (hX.M D hD).1; omega, id, m2⟩
  have hcall := hseq.2 W1 vs (fun b => Own X.ρ X.β b ∨ X.C.bad0 b ∨ b = X.L) X.L (seqR X) (fun b h => by
      rcases h with h | h | h
      · exact Nat.lt_of_lt_of_le (hol b h) hT1.size
      · exact Nat.lt_of_lt_of_le (hbl b h) hT1.size
      · rw [h]; exact hL) (by simpa using hvl) (fun j u x hu hx => by
      rw [List.getElem?_map] at hx
      cases hc : cs[j]? with
      | none => simp [hc] at hx
      | some c => simp [hc] at hx; subst hx; exact .cell _ _ ((hvr j u c hu hc).mono hcell)) (fun g cs hg => by
      obtain ⟨y, raws, hv, h2, hr⟩ := rep_cell (hJ.glob g cs hg)
      refine .cell _ _ ⟨y, raws, hv, fun j u hj => ?_, hr.mono hcell⟩
      obtain ⟨q1, q2⟩ := hcell.cell (y.add j) u (by rw [add_block]; exact (h2 j u hj).1) (h2 j u hj).2
      exact ⟨by rw [add_block] at q1; exact q1, q2⟩) hlaw hstart
  refine hF.wide.calls.2 (hcall.mono ?_)
  rintro e W2 ⟨⟨v, rfl⟩, Oz, Bz', k, live, hk, ⟨_, _, bx, ρ2, β2, h⟩, hT2, _, _⟩
  obtain ⟨l1, l2, _⟩ := h.loop
  -- behind the statement
  have fin : ∀ o : Loop, (∃ r, W2.heap[X.L]? = some (.loop r)) → ∃ C3 β4, X.C.le C3 ∧ (C3.bad0 = X.C.bad0 ∧ C3.perm = X.C.perm ∧ C3.out = X.C.out) ∧ J C3 (X.st.base X.T bx) { X.a with defers := X.M.map markOf ++ X.a.defers } (W2.putObj X.L (.loop o)) ρ2 β4 ∧ (X.keeps (W2.putObj X.L (.loop o)) ρ2 β4 ∧ X.w.heap.size ≤ (W2.putObj X.L (.loop o)).heap.size) ∧ ∀ b, Bad ρ2 β4 b → Own ρ2 β4 b ∨ X.C.bad0 b := by
    rintro o ⟨r, hr⟩
    have hW4 : (W2.putObj X.L (.loop o)).heap.size = W2.heap.size := by simp
    let C3 : Cx := { X.C with w0 := W2.putObj X.L (.loop o), prot := fun b => b < (W2.putObj X.L (.loop o)).heap.size ∧ ¬ Own ρ2 β2 b, marks := X.M ++ X.C.marks }
    have hold : ∀ b, X.C.prot b → ¬ X.C.out b → (b < (W2.putObj X.L (.loop o)).heap.size ∧ ¬ Own ρ2 β2 b) ∧ (W2.putObj X.L (.loop o)).heap[b]? = X.C.w0.heap[b]? := fun b hp ho => by
      have hlt : b < X.w.heap.size := Nat.lt_of_lt_of_le (hJ.protlt b hp) hJ.grown
      obtain ⟨k1, k2⟩ := h.keeps b hlt (fun hw => (own_not_prot hJ hw).1 hp) ho
      refine ⟨⟨by rw [hW4]; exact Nat.lt_of_lt_of_le hlt h.size, k1⟩, ?_⟩
      rw [World.putObj_heap_other (by have := hX.L; omega), k2]
      exact hJ.kept b hp
    have hno : ∀ b, ¬ X.C.bad0 b → ¬ X.C.out b := fun b hb ho => hb (hJ.ext.outb b ho)
    have hext : JExt C3 (X.st.base X.T bx) { X.a with defers := X.M.map markOf ++ X.a.defers } := by
      refine ⟨hJ.ext.small, ?_, ?_, fun D hD => ?_, fun b hb => ?_, hJ.ext.outb, fun l hl => ?_, fun l xs k v e => by simp [St.base] at e⟩
      · show _ ++ _ = (X.M ++ X.C.marks).map markOf
        rw [List.map_append, hJ.ext.defers]
      · show (X.M ++ X.C.marks).Nodup
        rw [List.nodup_append]
        refine ⟨hX.nodup, hJ.ext.nodup, fun a ha b hb e => ?_⟩
        subst e
        have := (hX.M a ha).1
        have := hJ.protlt a (hJ.ext.marks a hb).1
        have := hJ.grown
        omega
      · have hD' : D ∈ X.M ++ X.C.marks := hD
        rcases List.mem_append.1 hD' with hm | hm
        · obtain ⟨m1, m2, m3, m4⟩ := h.M D hm
          obtain ⟨d1, d2⟩ := hX.M D hm
          exact ⟨⟨by rw [hW4]; exact m1, m2⟩, fun hb => by have := hbl D hb; omega, (World.putObj_heap_other d2).trans m4⟩
        · obtain ⟨m1, m2, m3⟩ := hJ.ext.marks D hm
          obtain ⟨q1, q2⟩ := hold D m1 (hno D m2)
          exact ⟨q1, m2, q2.trans m3⟩
      · obtain ⟨m1, m2⟩ := hJ.ext.perm b hb
        exact ⟨(hold b m1 m2).1, m2⟩
      · obtain ⟨m1, m2, r, m3⟩ := hJ.ext.loop l hl
        obtain ⟨q1, q2⟩ := hold l m1 (hno l m2)
        exact ⟨q1, m2, r, q2.trans m3⟩
    have hJ4 := h.J.foreign (X := fun b => b = X.L) (C' := C3) (a' := { X.a with defers := X.M.map markOf ++ X.a.defers }) (putObj_turn.mono (fun b _ e => .inr e)) (fun b e => by
      subst e
      exact ⟨⟨l1, l2⟩, NotData.of hr trivial⟩) rfl rfl (fun i q hq => h.J.pin i q (by
        have h1 : X.β (2 * i) = some q := hJ.pin i q hq
        show pinF X.T X.β i = some q
        unfold pinF
        split
        · rename_i hc
          have : X.C.pin i = none := hpin i hc
          have hq' : X.C.pin i = some q := hq
          rw [this] at hq'; cases hq'
        · exact h1)) (fun b hb => ⟨by rw [hW4]; exact Nat.lt_of_lt_of_le (hbl b hb) h.size, .inl (.inl hb)⟩) (fun b hb => hb) hext rfl
    refine ⟨C3, _, ⟨rfl, rfl, rfl, ⟨X.M, rfl, hMl, fun D hD => Nat.le_trans hJ.grown (hX.M D hD).1⟩, fun b hb => ?_, h.os.trans hJ.os, h.tape.trans hJ.tape, h.output.trans hJ.output, ?_, fun b hb => hb, fun b hb => hb, fun b hb => .inl hb, rfl⟩, ⟨rfl, rfl, rfl⟩, hJ4, ⟨fun b hb h1 h2 => ?_, by rw [hW4]; exact h.size⟩, fun b hb => ?_⟩
    · obtain ⟨m1, m2⟩ := hJ.ext.perm b hb
      exact ⟨hb, (hold b m1 m2).2⟩
    · show X.C.w0.heap.size ≤ (W2.putObj X.L (.loop o)).heap.size
      rw [hW4]; exact Nat.le_trans hJ.grown h.size
    · obtain ⟨k1, k2⟩ := h.keeps b hb h1 h2
      refine ⟨fun ho => k1 ?_, ?_⟩
      · unfold Own at ho ⊢; simp only [phanF_even] at ho; exact ho
      · rw [World.putObj_heap_other (by have := hX.L; omega), k2]
    · rw [bad_phanF] at hb
      refine hb.imp (fun ho => ?_) (fun hb => hb)
      unfold Own at ho ⊢; simp only [phanF_even]; exact ho
  cases live with
  | true =>
    obtain ⟨hI, hr⟩ := h.on rfl
    obtain ⟨C3, β4, hle, heq, hJ4, hkp, hbd⟩ := fin _ ⟨_, hr⟩
    have hkx : k = X.xs.length := hk rfl
    subst hkx
    obtain ⟨C4, st4, ρ4, β5, f1, f2, f3⟩ := hfin C3 ρ2 β4 _ bx .normal hle heq hJ4 hkp hbd (hdone bx hI)
    refine ⟨none, _, run_endLoop hr (by simp [LoopAt.record]), ⟨by simp, C4, st4, ρ4, β5, f1, f2, f3⟩⟩
  | false =>
    obtain ⟨c, hr, hc⟩ := h.off rfl
    refine ⟨some c, _, run_endLoop hr (by simp [LoopAt.record]), ?_⟩
    rcases hc with ⟨rfl, hq⟩ | ⟨id, rfl, hq⟩
    · obtain ⟨C3, β4, hle, heq, hJ4, hkp, hbd⟩ := fin _ ⟨_, hr⟩
      obtain ⟨C4, st4, ρ4, β5, f1, f2, f3⟩ := hfin C3 ρ2 β4 _ bx .ret hle heq hJ4 hkp hbd hq
      exact wpIn_ret ⟨by simp, C4, st4, ρ4, β5, f1, f2, f3⟩
    · obtain ⟨C3, β4, hle, heq, hJ4, hkp, hbd⟩ := fin _ ⟨_, hr⟩
      obtain ⟨C4, st4, ρ4, β5, f1, f2, f3⟩ := hfin C3 ρ2 β4 _ bx (.exit id) hle heq hJ4 hkp hbd hq
      exact wpIn_exit ⟨by simp, C4, st4, ρ4, β5, f1, f2, f3⟩

theorem poison_only_ac (K T : List Nat) (x : AC) : (x.poison (inL K)).only T = x.only T := by
  cases x <;> simp only [AC.poison] <;> try rfl
  · split <;> rfl
  · split <;> rfl
  · split <;> rfl
  · rename_i k cells pos
    cases k with
    | none => rfl
    | some f => simp only; split <;> rfl
  · split <;> rfl
  · split <;> rfl
theorem poison_only (K T : List Nat) : ∀ x : AV, (x.poison (inL K)).only T = x.only T
  | .cell x => by simp only [AV.poison, AV.only, poison_only_ac]
  | .agg xs => by
    simp only [AV.poison, AV.only, List.map_map]
    congr 1
    exact List.map_congr_left fun x _ => poison_only_ac K T x
  | .tup xs => by
    simp only [AV.poison, AV.only]
    rw [go xs]
  | .bad => rfl
where
  go : ∀ xs : List AV, AV.only.go T (AV.poison.go (inL K) xs) = AV.only.go T xs
    | [] => rfl
    | x :: xs => by simp only [AV.poison.go, AV.only.go]; rw [poison_only K T x, go xs]
theorem base_poison (st : St) (K T : List Nat) (bx : Nat → Option (List AC)) : (st.poison (inL K)).base T bx = st.base T bx := by
  unfold St.base St.poison
  congr 1
  funext i
  split
  · rfl
  · exact poison_only K T _

/-- The blocks of families. -/
def Kb (ρ : Fam) (K : List Nat) (b : Nat) : Prop := ∃ f, inL K f = true ∧ ρ f = some b
/-- Families are set aside. -/
theorem J.aside {C : Cx} {st : St} {a : Act} {w : World} {ρ β : Fam} (hJ : J C st a w ρ β) (K : List Nat) :
    J { C with bad0 := fun b => C.bad0 b ∨ Kb ρ K b } (st.poison (inL K)) a w (ρ.drop (inL K)) (phanF β fun b => C.bad0 b ∨ Kb ρ K b) := by
  have hd : ∀ f b, (ρ.drop (inL K)) f = some b → inL K f = false ∧ ρ f = some b := by
    intro f b h; unfold Fam.drop at h; split at h
    · cases h
    · rename_i hn; exact ⟨by simpa using hn, h⟩
  have hko : ∀ b, Kb ρ K b → Own ρ β b := fun b ⟨f, _, hf⟩ => .inl ⟨f, hf⟩
  have hnk : ∀ b, C.prot b → ¬ Kb ρ K b := fun b hp hk => (own_not_prot hJ (hko b hk)).1 hp
  have hbl : ∀ b, C.bad0 b ∨ Kb ρ K b → b < w.heap.size := fun b h => h.elim (fun h => hJ.apart.box _ b (hJ.phan b h)) (fun h => (own_not_prot hJ (hko b h)).2.1)
  have hev : ∀ b k, (C.bad0 b ∨ Kb ρ K b) → β (2 * k) = some b → False := fun b k h hk => h.elim (fun h => (own_not_prot hJ (.inr ⟨k, hk⟩)).2.2 h) (fun ⟨f, _, hf⟩ => hJ.apart.sep f _ b hf hk)
  have E : ExtE (inL K) w ρ β w (ρ.drop (inL K)) (phanF β fun b => C.bad0 b ∨ Kb ρ K b) := by
    refine ⟨Hx.same fun b hb hb' => hb ?_, fun f b hf h => ⟨by unfold Fam.drop; rw [hf]; exact h, rfl⟩, fun i b hi => by rw [phanF_even]; exact hi⟩
    rw [bad_phanF] at hb'
    rcases hb' with (⟨f, hf⟩ | ⟨i, hi⟩) | hb' | hb'
    · exact .inl ⟨f, (hd f b hf).2⟩
    · exact .inr ⟨_, hi⟩
    · exact .inr ⟨_, hJ.phan b hb'⟩
    · exact bad_own hJ (.inl (hko b hb'))
  refine ⟨hJ.size, ⟨hJ.ext.small, hJ.ext.defers, hJ.ext.nodup, fun D hD => ?_, hJ.ext.perm, fun b h => .inl (hJ.ext.outb b h), fun l hl => ?_, fun l xs k v e => hJ.ext.seq l xs k v (ghost_poison e)⟩, hJ.os, hJ.tape, hJ.output, hJ.grown, hJ.kept, hJ.protlt, fun b h => phanF_odd _ _ _ h,
    ⟨fun f b hf => hJ.apart.fam f b (hd f b hf).2, fun i b hi => ?_, fun f f' b h1 h2 => hJ.apart.inj f f' b (hd f b h1).2 (hd f' b h2).2, fun i k b h1 h2 => ?_, fun f i b hf hi => ?_, fun i b hi => hJ.apart.boxp i b (by rw [phanF_even] at hi; exact hi)⟩,
    fun s => E.av (hJ.env s), fun i xs hx => ?_, fun g cs hg => by have := E.av (hJ.glob g cs hg); exact this, fun i q hq => by rw [phanF_even]; exact hJ.pin i q hq⟩
  · obtain ⟨m1, m2, m3⟩ := hJ.ext.marks D hD
    exact ⟨m1, fun h => h.elim m2 (hnk D m1), m3⟩
  · obtain ⟨m1, m2, m3⟩ := hJ.ext.loop l hl
    exact ⟨m1, fun h => h.elim m2 (hnk l m1), m3⟩
  · rcases phanF_some hi with ⟨_, h⟩ | ⟨k, _, h⟩
    · exact hbl b h
    · exact hJ.apart.box _ b h
  · rcases phanF_some h1 with ⟨e1, b1⟩ | ⟨k1, e1, c1⟩ <;> rcases phanF_some h2 with ⟨e2, b2⟩ | ⟨k2, e2, c2⟩
    · omega
    · exact (hev b k2 b1 c2).elim
    · exact (hev b k1 b2 c1).elim
    · have := hJ.apart.injB _ _ b c1 c2; omega
  · obtain ⟨f1, f2⟩ := hd f b hf
    rcases phanF_some hi with ⟨_, h | ⟨f', h1, h2⟩⟩ | ⟨k, _, h⟩
    · exact (own_not_prot hJ (.inl ⟨f, f2⟩)).2.2 h
    · have := hJ.apart.inj f f' b f2 h2
      subst this
      rw [h1] at f1; cases f1
    · exact hJ.apart.sep f _ b f2 h
  · simp only [St.poison] at hx
    cases hb : st.box i with
    | none => rw [hb] at hx; cases hx
    | some ys =>
      rw [hb] at hx
      simp only [Option.map_some, Option.some.injEq] at hx
      subst hx
      exact (hJ.box i ys hb).map _ (by rw [phanF_even]) (fun _ _ => rfl) E.ac
theorem range_gen {P : Program} {F : Fence} {n : Nat} {C C0 : Cx} {Q0 : Exit → St → Prop} {st : St} {a : Act} {w : World} {ρ β : Fam} (hF : FenceOk F C) (hJ : J C st a w ρ β) {g : Operand} {ps : Array Tmp} {assign body : Code} {Q : Exit → St → Prop} (hA : Sound P assign) (hB : Sound P body)
    (hok : codeOk C.N (.rangeFunc g ps assign body) = true) (hpin : PinOk C (.rangeFunc g ps assign body)) {gf : Nat} {cs : List CV} (hg : evAV st.env g = .cell (.p (.fn gf cs))) {xs : List (List EV)} {I : Nat → (Nat → Option (List AC)) → Prop} (hseq : SeqAt P gf (cs.map fun c => .cell (.p c)) xs) (hlen : ∀ x ∈ xs, x.length = ps.size) (h0 : I 0 st.box)
    (hround : ∀ k x bx, xs[k]? = some x → I k bx → awp P assign (aThen (awp P body (rPost st (rids assign ++ rids body) (I (k + 1)) Q)) (fun _ _ => False)) (setPs ps.toList x (st.base (rids assign ++ rids body) bx)))
    (hdone : ∀ bx, I xs.length bx → Q .normal (st.base (rids assign ++ rids body) bx))
    (hfin : ∀ (C3 : Cx) (ρ2 β2 : Fam) (W4 : World) (bx : Nat → Option (List AC)) (e : Exit) (df : List Deferred), C.le C3 → (C3.bad0 = C.bad0 ∧ C3.perm = C.perm ∧ C3.out = C.out) → J C3 (st.base (rids assign ++ rids body) bx) { a with defers := df } W4 ρ2 β2 → ((∀ b, b < w.heap.size → ¬ Own ρ β b → ¬ C.out b → ¬ Own ρ2 β2 b ∧ W4.heap[b]? = w.heap[b]?) ∧ w.heap.size ≤ W4.heap.size) →
      (∀ b, Bad ρ2 β2 b → Own ρ2 β2 b ∨ C.bad0 b) → Q e (st.base (rids assign ++ rids body) bx) → ∃ C4 st4 ρ4 β4, C0.le C4 ∧ Q0 e st4 ∧ J C4 st4 { a with defers := df } W4 ρ4 β4) : (Code.rangeFunc g ps assign body).wpIn F n P (lift C0 Q0) a w := by
  simp only [codeOk, Bool.and_eq_true, List.all_eq_true, decide_eq_true_eq] at hok
  obtain ⟨⟨okA, okB⟩, okP⟩ := hok
  have hv := hJ.ev g
  simp only [St.ev, hg] at hv
  have hev : ∃ vs : List Value, a.eval g = .func (.func gf) #[] vs.toArray ∧ vs.length = cs.length ∧ ∀ (j : Nat) (u : Value) (c : CV), vs[j]? = some u → cs[j]? = some c → CRep w (Bad ρ β) u c := by
    have hv' := rep_cell hv
    generalize a.eval g = q at hv'
    cases hv' with
    | fn g vs caps hl hr => exact ⟨vs, rfl, hl, hr⟩
  obtain ⟨vs, hev, hvl, hvr⟩ := hev
  obtain ⟨fn0, f1, f2, f3⟩ := hseq.1
  have hcf : ∀ args w, (callFunc gf args).run P w = .ok (.enter gf args) w := by
    intro args w
    have h2' : ¬ fn0.name = "runtime.NumGoroutine" := by simpa using f2
    have h3' : ¬ fn0.body = none := by intro e; rw [e] at f3; simp at f3
    simp [callFunc, f1, h2', h3']
  refine wpIn_rangeFunc ?_
  intro fn hfn
  -- what is laid
  have lay : ∃ (L : Nat) (M : List Nat) (W1 : World) (dfr : Nat), (Instr.enterLoop fn a.tmps ps assign body F.round).run P w = .ok (L, M.map markOf) W1 ∧ (C.loop.isSome = true → M = []) ∧ w.heap.size ≤ L ∧ (∀ D ∈ M, w.heap.size ≤ D ∧ D ≠ L) ∧ M.Nodup ∧ Turn (fun _ => False) w W1 ∧ L < W1.heap.size ∧
      W1.heap[L]? = some (.loop { state := .ready, pending := none, fn := fn, tmps := a.tmps, params := ps, assign := assign, body := body, defers := dfr }) ∧ ∀ D ∈ M, D < W1.heap.size ∧ W1.heap[D]? = some (.deferred (some [])) := by
    rcases hF with ⟨rfl, hl⟩ | ⟨l0, rfl, hl⟩
    · refine ⟨w.heap.size + 1, [w.heap.size], _, w.heap.size, run_enterLoop_outer _ _ _ _ _, ?_, by omega, ?_, ?_, ?_, by simp, ?_, ?_⟩
      · intro h; rw [hl] at h; cases h
      · intro D hD; simp at hD; subst hD; exact ⟨Nat.le_refl _, by omega⟩
      · simp
      · exact ⟨by simp; omega, rfl, rfl, rfl, fun b hb _ => (Below.heap_alloc _ _ _ (by simp; omega)).trans (Below.heap_alloc _ _ _ hb)⟩
      · have := World.alloc_heap_new (w.alloc (.deferred (some []))) (.loop { state := .ready, pending := none, fn := fn, tmps := a.tmps, params := ps, assign := assign, body := body, defers := w.heap.size })
        rwa [World.size_alloc] at this
      · intro D hD
        simp at hD; subst hD
        exact ⟨by simp; omega, (Below.heap_alloc _ _ _ (by simp)).trans (World.alloc_heap_new w _)⟩
    · obtain ⟨q1, _, r0, q2⟩ := hJ.ext.loop l0 hl
      have hr0 : w.heap[l0]? = some (.loop r0) := (hJ.kept l0 q1).trans q2
      refine ⟨w.heap.size, [], _, r0.defers, run_enterLoop_inner hr0 _ _ _ _ _, fun _ => rfl, Nat.le_refl _, ?_, List.nodup_nil, ?_, by simp, World.alloc_heap_new w _, ?_⟩
      · intro D hD; cases hD
      rotate_left
      · intro D hD; cases hD
      exact ⟨by simp, rfl, rfl, rfl, fun b hb _ => Below.heap_alloc _ _ _ hb⟩
  obtain ⟨L, M, W1, dfr, hent, hMl, hLw, hMw, hMn, hT1, hL1, hrec, hM1⟩ := lay
  let X : LoopAt := { C := C, T := rids assign ++ rids body, st := st, a := a, w := w, ρ := ρ, β := β, L := L, M := M, fn := fn, ps := ps, assign := assign, body := body, dfr := dfr, Q := Q, xs := xs, I := I }
  have hX : LoopOk X := ⟨hJ, hLw, hMw, hMn⟩
  have hlaw : SeqLaw P (seqR X) := seqR_law hX hA hB rfl okA okB (fun p hp => by simpa using okP p hp) hlen hround
  refine ⟨L, M.map markOf, W1, { target := .fn (.func gf) vs.toArray, args := #[.func (.yield L) #[] #[]] }, W1, gf, #[.func (.yield L) #[] #[]] ++ vs.toArray, W1, hent, ?_, fun f' _ => hF.wide.fn f', ?_, hF.wide.one, ?_⟩
  · simp only [resolve, hev]
    simp [go_sem]
  · simp [invoke, go_sem, hcf]
  · exact range_core (X := X) hX hF hMl hT1 hL1 hrec hM1 (fun i hi => hpin i (by simp only [rids]; exact hi)) hlaw (by simpa using hvl) (fun j u c hu hc => hvr j u c (by simpa using hu) hc) hseq h0 hdone (C0 := C0) (Q0 := Q0) (fun C3 ρ2 β2 W4 bx e q1 q2 q3 q4 q5 q6 => hfin C3 ρ2 β2 W4 bx e _ q1 q2 q3 q4 q5 q6)

theorem only_poison_ac (F : Nat → Bool) (T : List Nat) (x : AC) : (x.only T).poison F = x.only T := by
  cases x <;> try rfl
  · rename_i k cells pos; cases k <;> rfl
  · simp only [AC.only]; split <;> rfl
  · simp only [AC.only]; split <;> rfl
theorem only_poison (F : Nat → Bool) (T : List Nat) : ∀ x : AV, (x.only T).poison F = x.only T
  | .cell x => by simp only [AV.poison, AV.only, only_poison_ac]
  | .agg xs => by
    simp only [AV.poison, AV.only, List.map_map]
    congr 1
    exact List.map_congr_left fun x _ => only_poison_ac F T x
  | .tup xs => by
    simp only [AV.poison, AV.only]
    rw [go xs]
  | .bad => rfl
where
  go : ∀ xs : List AV, AV.poison.go F (AV.only.go T xs) = AV.only.go T xs
    | [] => rfl
    | x :: xs => by simp only [AV.poison.go, AV.only.go]; rw [only_poison F T x, go xs]
theorem onlyK_ac {w w' : World} {ρ β ρ' β' : Fam} {K T : List Nat} (hx : Hx w (Bad ρ β) w' (Bad ρ' β')) (hf : ∀ f, inL K f = true → ρ' f = ρ f ∧ ∀ b, ρ f = some b → w'.heap[b]? = w.heap[b]?) {v : Value} {x : AC} (h1 : ACRep w ρ β v x) (h2 : ACRep w' ρ' β' v (x.only T)) : ACRep w' ρ' β' v (x.onlyK K T) := by
  cases x with
  | own f sz n cells =>
    simp only [AC.onlyK]
    split
    · rename_i hK
      obtain ⟨e, hb⟩ := hf f hK
      obtain ⟨raws, ⟨hl, ho⟩, hr⟩ := h1
      refine ⟨raws, ⟨hl, ?_⟩, hr.mono hx⟩
      rcases ho with ho | ⟨g, cap, cur, ty, fr, hv, hρ, hg, rest⟩
      · exact .inl ho
      · exact .inr ⟨g, cap, cur, ty, fr, hv, e.trans hρ, by rw [hb g hρ]; exact hg, rest⟩
    · trivial
  | _ => exact h2
theorem onlyK_av {w w' : World} {ρ β ρ' β' : Fam} {K T : List Nat} (hx : Hx w (Bad ρ β) w' (Bad ρ' β')) (hf : ∀ f, inL K f = true → ρ' f = ρ f ∧ ∀ b, ρ f = some b → w'.heap[b]? = w.heap[b]?) {v : Value} {x : AV} (h1 : AVRep w ρ β v x) (h2 : AVRep w' ρ' β' v (x.only T)) : AVRep w' ρ' β' v (x.onlyK K T) := by
  cases x with
  | cell x => exact .cell _ _ (onlyK_ac hx hf (rep_cell h1) (rep_cell h2))
  | agg xs =>
    obtain ⟨cs, rfl, hl, ho, hr⟩ := rep_agg h1
    obtain ⟨cs', e, hl', ho', hr'⟩ := rep_agg (xs := xs.map (·.only T)) h2
    cases e
    refine .agg _ _ (by simpa using hl) ho fun j u y hu hy => ?_
    rw [List.getElem?_map, Option.map_eq_some_iff] at hy
    obtain ⟨z, hz, rfl⟩ := hy
    exact onlyK_ac hx hf (hr j u z hu hz) (hr' j u _ hu (by rw [List.getElem?_map, hz]; rfl))
  | tup xs => exact h2
  | bad => exact .bad _
/-- Families that were set aside come back. -/
theorem J.restore {C C3 : Cx} {st : St} {a : Act} {w : World} {ρ β : Fam} (hJ : J C st a w ρ β) {K T : List Nat} {ρ2 β2 : Fam} {W4 : World} {bx : Nat → Option (List AC)} {df : List Deferred} (hle : Cx.le { C with bad0 := fun b => C.bad0 b ∨ Kb ρ K b } C3)
    (heq : C3.bad0 = (fun b => C.bad0 b ∨ Kb ρ K b) ∧ C3.perm = C.perm ∧ C3.out = C.out) (h3 : J C3 (st.base T bx) { a with defers := df } W4 ρ2 β2)
    (hk : ∀ b, b < w.heap.size → ¬ Own (ρ.drop (inL K)) (phanF β fun b => C.bad0 b ∨ Kb ρ K b) b → ¬ C.out b → ¬ Own ρ2 β2 b ∧ W4.heap[b]? = w.heap[b]?) (hsz : w.heap.size ≤ W4.heap.size)
    (hbd : ∀ b, Bad ρ2 β2 b → Own ρ2 β2 b ∨ C.bad0 b ∨ Kb ρ K b) : ∃ C4 ρ4 β4, C.le C4 ∧ J C4 (st.baseK K T bx) { a with defers := df } W4 ρ4 β4 := by
  obtain ⟨eb, ep, eo⟩ := heq
  have hko : ∀ b, Kb ρ K b → Own ρ β b := fun b ⟨f, _, hf⟩ => .inl ⟨f, hf⟩
  have hb3 : ∀ b, C3.bad0 b ↔ C.bad0 b ∨ Kb ρ K b := fun b => by rw [eb]
  have hn2 : ∀ b, Own ρ2 β2 b → ¬ (C.bad0 b ∨ Kb ρ K b) := fun b ho h => (own_not_prot h3 ho).2.2 ((hb3 b).2 h)
  let ρ4 : Fam := fun f => if inL K f then ρ f else ρ2 f
  have hρK : ∀ f, inL K f = true → ρ4 f = ρ f := fun f h => by simp only [ρ4, h, if_true]
  have hρN : ∀ f, inL K f = false → ρ4 f = ρ2 f := fun f h => by simp only [ρ4, h]; rfl
  have hkb : ∀ f b, inL K f = true → ρ f = some b → W4.heap[b]? = w.heap[b]? := fun f b hK hf => by
    have ho : Own ρ β b := .inl ⟨f, hf⟩
    obtain ⟨_, h2, h4⟩ := own_not_prot hJ ho
    refine (hk b h2 ?_ (fun h => h4 (hJ.ext.outb b h))).2
    rintro (⟨f', hf'⟩ | ⟨i, hi⟩)
    · unfold Fam.drop at hf'
      split at hf'
      · cases hf'
      · rename_i hn
        have := hJ.apart.inj f f' b hf hf'
        subst this
        exact hn hK
    · rw [phanF_even] at hi
      exact hJ.apart.sep f _ b hf hi
  have hx : Hx w (Bad ρ β) W4 (Bad ρ4 (phanF β2 C.bad0)) := by
    refine Hx.blocks fun b hlt hb => ?_
    have hno : ¬ Own ρ β b := fun h => hb (bad_own hJ (.inl h))
    have hnb : ¬ C.bad0 b := fun h => hb (bad_own hJ (.inr h))
    obtain ⟨k1, k2⟩ := hk b hlt (by
      rintro (⟨f', hf'⟩ | ⟨i, hi⟩)
      · unfold Fam.drop at hf'
        split at hf'
        · cases hf'
        · exact hno (.inl ⟨f', hf'⟩)
      · rw [phanF_even] at hi; exact hno (.inr ⟨i, hi⟩)) (fun h => hnb (hJ.ext.outb b h))
    refine ⟨?_, k2⟩
    rw [bad_phanF]
    rintro ((⟨f, hf⟩ | ⟨i, hi⟩) | h)
    · cases hK : inL K f with
      | true => rw [hρK f hK] at hf; exact hno (.inl ⟨f, hf⟩)
      | false => rw [hρN f hK] at hf; exact k1 (.inl ⟨f, hf⟩)
    · exact k1 (.inr ⟨i, hi⟩)
    · exact hnb h
  have E : ExtE (inL K) W4 ρ2 β2 W4 ρ4 (phanF β2 C.bad0) := by
    refine ⟨Hx.same fun b hb hb' => hb ?_, fun f b hf h => ⟨(hρN f hf).trans h, rfl⟩, fun i b hi => by rw [phanF_even]; exact hi⟩
    rw [bad_phanF] at hb'
    rcases hb' with (⟨f, hf⟩ | ⟨i, hi⟩) | h
    · cases hK : inL K f with
      | true => rw [hρK f hK] at hf; exact bad_own h3 (.inr ((hb3 b).2 (.inr ⟨f, hK, hf⟩)))
      | false => rw [hρN f hK] at hf; exact .inl ⟨f, hf⟩
    · exact .inr ⟨_, hi⟩
    · exact bad_own h3 (.inr ((hb3 b).2 (.inl h)))
  refine ⟨{ C3 with bad0 := C.bad0, prot := fun b => C3.prot b ∧ ¬ Kb ρ K b, perm := C.perm }, ρ4, phanF β2 C.bad0,
    ⟨hle.N, hle.loop, hle.pin, hle.marks, fun b hb => ⟨hb, (hle.perm b hb).2⟩, hle.os, hle.tape, hle.output, hle.size, fun b h => h, hle.out, hle.newo, hle.seq⟩,
    h3.size, ⟨h3.ext.small, h3.ext.defers, h3.ext.nodup, fun D hD => ?_, fun b hb => ?_, fun b h => ?_, fun l hl => ?_, fun l xs k v e => by simp [St.baseK] at e⟩, h3.os, h3.tape, h3.output, h3.grown, fun b h => h3.kept b h.1, fun b h => h3.protlt b h.1, fun b h => phanF_odd _ _ _ h,
    ⟨fun f b hf => ?_, fun i b hi => ?_, fun f f' b h1 h2 => ?_, fun i k b h1 h2 => ?_, fun f i b hf hi => ?_, fun i b hi h => h3.apart.boxp i b (by rw [phanF_even] at hi; exact hi) h.1⟩,
    fun s => ?_, fun i xs hx' => ?_, fun g cs hg => by have := E.av (h3.glob g cs hg); exact this, fun i q hq => by rw [phanF_even]; exact h3.pin i q hq⟩
  · obtain ⟨m1, m2, m3⟩ := h3.ext.marks D hD
    rw [hb3] at m2
    exact ⟨⟨m1, fun h => m2 (.inr h)⟩, fun h => m2 (.inl h), m3⟩
  · obtain ⟨m1, m2⟩ := h3.ext.perm b (by rw [ep]; exact hb)
    exact ⟨⟨m1, fun h => (own_not_prot hJ (hko b h)).1 (hJ.ext.perm b hb).1⟩, m2⟩
  · have h' : C3.out b := h
    rw [eo] at h'
    exact hJ.ext.outb b h'
  · obtain ⟨m1, m2, m3⟩ := h3.ext.loop l hl
    rw [hb3] at m2
    exact ⟨⟨m1, fun h => m2 (.inr h)⟩, fun h => m2 (.inl h), m3⟩
  · cases hK : inL K f with
    | true =>
      rw [hρK f hK] at hf
      exact ⟨fun h => h.2 ⟨f, hK, hf⟩, Nat.lt_of_lt_of_le (hJ.apart.fam f b hf).2 hsz⟩
    | false =>
      rw [hρN f hK] at hf
      exact ⟨fun h => (h3.apart.fam f b hf).1 h.1, (h3.apart.fam f b hf).2⟩
  · rcases phanF_some hi with ⟨_, h⟩ | ⟨k, _, h⟩
    · exact Nat.lt_of_lt_of_le (hJ.apart.box _ b (hJ.phan b h)) hsz
    · exact h3.apart.box _ b h
  · cases hK : inL K f with
    | true =>
      rw [hρK f hK] at h1
      cases hK' : inL K f' with
      | true => rw [hρK f' hK'] at h2; exact hJ.apart.inj f f' b h1 h2
      | false => rw [hρN f' hK'] at h2; exact (hn2 b (.inl ⟨f', h2⟩) (.inr ⟨f, hK, h1⟩)).elim
    | false =>
      rw [hρN f hK] at h1
      cases hK' : inL K f' with
      | true => rw [hρK f' hK'] at h2; exact (hn2 b (.inl ⟨f, h1⟩) (.inr ⟨f', hK', h2⟩)).elim
      | false => rw [hρN f' hK'] at h2; exact h3.apart.inj f f' b h1 h2
  · rcases phanF_some h1 with ⟨e1, b1⟩ | ⟨k1, e1, c1⟩ <;> rcases phanF_some h2 with ⟨e2, b2⟩ | ⟨k2, e2, c2⟩
    · omega
    · exact (hn2 b (.inr ⟨k2, c2⟩) (.inl b1)).elim
    · exact (hn2 b (.inr ⟨k1, c1⟩) (.inl b2)).elim
    · have := h3.apart.injB _ _ b c1 c2; omega
  · cases hK : inL K f with
    | true =>
      rw [hρK f hK] at hf
      rcases phanF_some hi with ⟨_, h⟩ | ⟨k, _, h⟩
      · exact (own_not_prot hJ (.inl ⟨f, hf⟩)).2.2 h
      · exact hn2 b (.inr ⟨k, h⟩) (.inr ⟨f, hK, hf⟩)
    | false =>
      rw [hρN f hK] at hf
      rcases phanF_some hi with ⟨_, h⟩ | ⟨k, _, h⟩
      · exact hn2 b (.inl ⟨f, hf⟩) (.inl h)
      · exact h3.apart.sep f _ b hf h
  · simp only [St.baseK]
    split
    · exact .bad _
    · rename_i hne
      have h1 := E.av (h3.env s)
      simp only [St.base, if_neg hne] at h1
      rw [only_poison] at h1
      exact onlyK_av hx (fun f hK => ⟨hρK f hK, fun b hf => hkb f b hK hf⟩) (hJ.env s) h1
  · simp only [St.baseK] at hx'
    cases hb : bx i with
    | none => rw [hb] at hx'; cases hx'
    | some ys =>
      rw [hb] at hx'
      simp only [Option.map_some, Option.some.injEq] at hx'
      subst hx'
      obtain ⟨g, raws, e, g1, g2, g3, g4, g5, g6⟩ := (h3.box i ys hb).map _ (by rw [phanF_even]) (fun _ _ => rfl) E.ac
      exact ⟨g, raws, e, g1, fun h => g2 h.1, g3, g4, g5, g6⟩

theorem range_sound {P : Program} {F : Fence} {n : Nat} {C : Cx} {st : St} {a : Act} {w : World} {ρ β : Fam} (hF : FenceOk F C) (hJ : J C st a w ρ β) {g : Operand} {ps : Array Tmp} {assign body : Code} {Q : Exit → St → Prop} (hA : Sound P assign) (hB : Sound P body)
    (hok : codeOk C.N (.rangeFunc g ps assign body) = true) (hpin : PinOk C (.rangeFunc g ps assign body)) (h : awp P (.rangeFunc g ps assign body) Q st) : (Code.rangeFunc g ps assign body).wpIn F n P (lift C Q) a w := by
  unfold awp at h
  split at h
  · rename_i gf cs hg
    rcases h with ⟨xs, I, hseq, hlen, h0, hround, hdone⟩ | ⟨K, xs, I, hseq, hlen, h0, hround, hdone⟩
    · exact range_gen hF hJ hA hB hok hpin hg hseq hlen h0 hround hdone (fun C3 ρ2 β2 W4 bx e df q1 q2 q3 q4 q5 q6 => ⟨C3, _, ρ2, β2, q1, q6, q3⟩)
    · refine range_gen (C := { C with bad0 := fun b => C.bad0 b ∨ Kb ρ K b }) (st := st.poison (inL K)) (Q := fun e s => Q e (st.baseK K (rids assign ++ rids body) s.box)) hF (hJ.aside K) hA hB hok hpin ?_ hseq hlen h0 (fun k x bx h1 h2 => ?_) (fun bx h => hdone bx h) ?_
      · cases g with
        | tmp t => have hg' : st.env t = _ := hg; show (st.env t).poison (inL K) = _; rw [hg']; rfl
        | const v => exact hg
        | global g => exact hg
        | func f => exact hg
      · rw [base_poison]
        have e : rPost (st.poison (inL K)) (rids assign ++ rids body) (I (k + 1)) (fun e s => Q e (st.baseK K (rids assign ++ rids body) s.box)) = rPost st (rids assign ++ rids body) (I (k + 1)) (fun e s => Q e (st.baseK K (rids assign ++ rids body) s.box)) := by
          funext e s; cases e <;> rfl
        rw [e]
        exact hround k x bx h1 h2
      · intro C3 ρ2 β2 W4 bx e df q1 q2 q3 q4 q5 q6
        rw [base_poison] at q3
        obtain ⟨C4, ρ4, β4, k1, k2⟩ := hJ.restore q1 q2 q3 q4.1 q4.2 q5
        exact ⟨C4, _, ρ4, β4, k1, q6, k2⟩
  · exact h.elim
end Go.Fw
end
section
set_option linter.all false
namespace Go.Fw
variable [Globals]
open Go.RowKit (Below)

theorem awp_loop_sound {P : Program} {F : Fence} {n : Nat} (hF : WideR F) {c : Code} {Q : Exit → Act → World → Prop} {I : St → Prop} {μ : St → Nat} {C0 : Cx}
    (round : ∀ C st a w ρ β, C0.le C → I st → J C st a w ρ β → c.wpIn F n P (Exit.then (fun a' w' => ∃ C' st' ρ' β', C.le C' ∧ (I st' ∧ μ st' < μ st) ∧ J C' st' a' w' ρ' β') Q) a w) {st : St} {a : Act} {w : World} {ρ β : Fam} (h0 : I st) (hJ : J C0 st a w ρ β) :
    (Code.loop c).wpIn F n P Q a w := by
  intro b k cs hro hb hr
  have key : ∀ j C st a w ρ β, μ st = j → C0.le C → I st → J C st a w ρ β →
      ∃ e a' w', Q e a' w' ∧ ArrivesIn (Machine.fenced P F) P (lone (b.atR a (.code c :: .inLoop c :: k)) cs w) b k cs e a' w' := by
    intro j
    induction j using Nat.strongRecOn with
    | _ j ih =>
      intro C st a w ρ β hn hle hI hJ
      obtain ⟨e, a₁, w₁, hq, harr⟩ := round C st a w ρ β hle hI hJ b (.inLoop c :: k) cs hro hb hr
      cases e with
      | normal =>
        obtain ⟨C', st', ρ', β', hle', ⟨hI₁, hlt⟩, hJ'⟩ := hq
        obtain ⟨e₂, a₂, w₂, hq₂, harr₂⟩ := ih (μ st') (hn ▸ hlt) C' st' a₁ w₁ ρ' β' rfl (hle.trans hle') hI₁ hJ'
        exact ⟨e₂, a₂, w₂, hq₂, .of_steps (StepsIn.trans harr (.one (fenced_calm hb hr rfl) stepR_inLoop)) harr₂⟩
      | exit id => exact ⟨_, a₁, w₁, hq, .pass (x := .inLoop c) rfl (fun _ _ => .inl (by simp)) harr⟩
      | goto l => exact ⟨_, a₁, w₁, hq, .pass (x := .inLoop c) rfl (fun _ _ => .inl (by simp)) harr⟩
      | ret => exact ⟨_, a₁, w₁, hq, .pass (x := .inLoop c) rfl (fun _ _ => .inl (by simp)) harr⟩
      | panic ch => exact ⟨_, a₁, w₁, hq, .pass (x := .inLoop c) rfl (fun _ _ => .inl (by simp)) harr⟩
      | outgrown => exact ⟨_, a₁, w₁, hq, .pass (x := .inLoop c) rfl (fun _ _ => .inl (by simp)) harr⟩
  obtain ⟨e, a', w', hq, harr⟩ := key _ C0 st a w ρ β rfl (Cx.le.refl C0) h0 hJ
  exact ⟨e, a', w', hq, .of_steps (.one (fenced_calm hb hr rfl) stepR_loop) harr⟩

theorem PinOk.sub {C : Cx} {c d : Code} (h : PinOk C c) (hs : ∀ i, (rids d).contains i = true → (rids c).contains i = true) : PinOk C d := fun i hi => h i (hs _ hi)

theorem awp_sound {P : Program} (hm : P.follows .mixedOrders = true) : ∀ c : Code, Sound P c
  | .skip => fun F n C Q st a w ρ β hF hS hp hok h hJ => wpIn_skip ⟨by simp, C, st, ρ, β, Cx.le.refl C, h, hJ⟩
  | .region rid ops false => fun F n C Q st a w ρ β hF hS hp hok h hJ => by
    obtain ⟨k1, k2⟩ := codeOk_region hok
    exact wpIn_region_list (aops_sound hF.wide ops.toList 0 C st a w ρ β hS (fun j => hp.region j) (by simpa using k1) h hJ k2 (fun C' st' a' w' ρ' β' hle hk hJ' => ⟨by simp, C', st', ρ', β', hle, hk, hJ'⟩))
  | .region rid ops true => fun F n C Q st a w ρ β hF hS hp hok h hJ => by
    obtain ⟨k1, k2⟩ := codeOk_region hok
    rcases h with h | h
    · exact dops_sound hF.wide hm rfl (fun j => hp.region j) h hJ k2 (lift_out C Q) (fun st' a' w' ρ' β' hk hJ' => ⟨by simp, C, st', ρ', β', Cx.le.refl C, hk, hJ'⟩)
    · exact dops2_sound hF.wide hm rfl (fun j => hp.region j) h hJ k2 (lift_out C Q) (fun st' a' w' ρ' β' hk hJ' => ⟨by simp, C, st', ρ', β', Cx.le.refl C, hk, hJ'⟩)
  | .seq x y => fun F n C Q st a w ρ β hF hS hp hok h hJ => by
    simp only [codeOk, Bool.and_eq_true] at hok
    refine wpIn_seq (Code.wpIn_mono ?_ (awp_sound hm x F n C _ st a w ρ β hF hS (hp.sub (fun i hi => by simp [rids] at hi ⊢; exact .inl hi)) hok.1 h hJ))
    rintro e a' w' ⟨hne, C', st', ρ', β', hle, hq, hJ'⟩
    cases e with
    | normal => exact Code.wpIn_mono (fun e a w h => lift_le hle h) (awp_sound hm y F n C' Q st' a' w' ρ' β' (hF.le hle) (by rw [hle.seq]; exact hS) ((hp.sub (fun i hi => by simp [rids] at hi ⊢; exact .inr hi)).le hle) (by rw [hle.N]; exact hok.2) hq hJ')
    | _ => exact ⟨hne, C', st', ρ', β', hle, hq, hJ'⟩
  | .cond c x y => fun F n C Q st a w ρ β hF hS hp hok h hJ => by
    simp only [codeOk, Bool.and_eq_true] at hok
    unfold awp at h
    split at h
    · rename_i t ht
      have hr := hJ.ev c
      simp only [St.ev, ht] at hr
      exact wpIn_cond_split (rep_c hr) (fun e => awp_sound hm x F n C Q st a w ρ β hF hS (hp.sub (fun i hi => by simp [rids] at hi ⊢; exact .inl hi)) hok.1 (h.1 e) hJ) (fun e => awp_sound hm y F n C Q st a w ρ β hF hS (hp.sub (fun i hi => by simp [rids] at hi ⊢; exact .inr hi)) hok.2 (h.2 e) hJ)
    · exact h.elim
  | .block id b => fun F n C Q st a w ρ β hF hS hp hok h hJ => by
    refine wpIn_block (Code.wpIn_mono ?_ (awp_sound hm b F n C _ st a w ρ β hF hS hp hok h hJ))
    rintro e a' w' ⟨hne, C', st', ρ', β', hle, hq, hJ'⟩
    cases e with
    | exit id' =>
      simp only [aBlock] at hq
      simp only [Exit.inBlock]
      split at hq
      · rename_i e; rw [if_pos e]; exact ⟨by simp, C', st', ρ', β', hle, hq, hJ'⟩
      · rename_i e; rw [if_neg e]; exact ⟨hne, C', st', ρ', β', hle, hq, hJ'⟩
    | _ => exact ⟨hne, C', st', ρ', β', hle, hq, hJ'⟩
  | .loop b => fun F n C Q st a w ρ β hF hS hp hok h hJ => by
    obtain ⟨I, μ, st', hwk, h0, hr⟩ := h
    refine awp_loop_sound hF.wide (I := I) (μ := μ) (C0 := C) (fun C1 st a w ρ β hle hI hJ => ?_) h0 (hJ.weak hwk)
    refine Code.wpIn_mono ?_ (awp_sound hm b F n C1 _ st a w ρ β (hF.le hle) (by rw [hle.seq]; exact hS) (PinOk.le (c := b) hp hle) (by rw [hle.N]; exact hok) (hr st hI) hJ)
    rintro e a' w' ⟨hne, C', st', ρ', β', hle', hq, hJ'⟩
    cases e with
    | normal => exact ⟨C', st', ρ', β', hle', hq, hJ'⟩
    | _ => exact ⟨hne, C', st', ρ', β', hle.trans hle', hq, hJ'⟩
  | .exit id => fun F n C Q st a w ρ β hF hS hp hok h hJ => wpIn_exit ⟨by simp, C, st, ρ, β, Cx.le.refl C, h, hJ⟩
  | .ret => fun F n C Q st a w ρ β hF hS hp hok h hJ => wpIn_ret ⟨by simp, C, st, ρ, β, Cx.le.refl C, h, hJ⟩
  | .label l => fun F n C Q st a w ρ β hF hS hp hok h hJ => wpIn_label ⟨by simp, C, st, ρ, β, Cx.le.refl C, h, hJ⟩
  | .scope b => fun F n C Q st a w ρ β hF hS hp hok h hJ => by
    refine wpIn_scope_straight (Code.wpIn_mono ?_ (awp_sound hm b F n C _ st a w ρ β hF hS hp hok h hJ))
    rintro e a' w' ⟨hne, C', st', ρ', β', hle, hq, hJ'⟩
    cases e with
    | goto l => exact hq.elim
    | _ => exact ⟨hne, C', st', ρ', β', hle, hq, hJ'⟩
  | .goto l => fun F n C Q st a w ρ β hF hS hp hok h hJ => h.elim
  | .refuse _ => fun F n C Q st a w ρ β hF hS hp hok h hJ => h.elim
  | .rangeFunc g ps x y => fun F n C Q st a w ρ β hF hS hp hok h hJ => range_sound hF hJ (awp_sound hm x) (awp_sound hm y) hok hp h
end Go.Fw
end
section
set_option linter.all false
namespace Go.Fw
variable [Globals]
open Go.RowKit (Below)

/-! ### Functions -/

def resAV (P : Program) (st : St) : List ResultVar → Option (List AV)
  | [] => some []
  | .tmp t :: r => (resAV P st r).map (st.env t :: ·)
  | .cell t ty :: r => match st.env t, resAV P st r with
    | .cell (.ptr b off), some l => match st.box b with
      | some xs => (partAC P ty xs off).map (· :: l)
      | none => none
    | _, _ => none

def retAV (P : Program) (st : St) (rs : List ResultVar) : Option AV :=
  match resAV P st rs with
  | some [x] => some x
  | some l => some (.tup l)
  | none => none

/-- The labels of a result that are kept: maps are handed over for good. -/
def AC.rlabs : AC → List Nat
  | .mown _ _ _ => []
  | x => x.labs
def AV.rlabs : AV → List Nat
  | .cell x => x.rlabs
  | .agg xs => xs.flatMap AC.rlabs
  | .tup xs => go xs
  | .bad => []
where
  go : List AV → List Nat
    | [] => []
    | x :: xs => x.rlabs ++ go xs
theorem rlabs_go (xs : List AV) : AV.rlabs.go xs = xs.flatMap AV.rlabs := by
  induction xs with
  | nil => rfl
  | cons x xs ih => simp [AV.rlabs.go, ih]

/-- The labels of a result, numbered in the order in which they are met. -/
def AC.relab (l : List Nat) : AC → AC
  | .mown f ks vs => if (f :: vs.flatMap MV.labs).any (fun g => l.contains g) then .bad else match mvCVs (vs.map MV.pure) with
    | some cs => .p (.mp ks cs)
    | none => .bad
  | .own f sz n cells => .own (l.idxOf f) sz n cells
  | .view f n cells => .view (l.idxOf f) n cells
  | .tl f sz n cells => .tl (l.idxOf f) sz n cells
  | .ep (some f) cells pos => .ep (some (l.idxOf f)) cells pos
  | .epo f cells pos => .epo (l.idxOf f) cells pos
  | .ptr _ _ => .bad
  | .fn _ _ => .bad
  | .yield _ => .bad
  | .ghost _ _ _ _ => .bad
  | x => x
def AV.relab (l : List Nat) : AV → AV
  | .cell x => .cell (x.relab l)
  | .agg xs => .agg (xs.map (·.relab l))
  | .tup xs => .tup (go xs)
  | .bad => .bad
where
  go : List AV → List AV
    | [] => []
    | x :: xs => x.relab l :: go xs
theorem relab_go (l : List Nat) (xs : List AV) : AV.relab.go l xs = xs.map (·.relab l) := by
  induction xs with
  | nil => rfl
  | cons x xs ih => simp [AV.relab.go, ih]

def canon (x : AV) : AV := x.relab x.rlabs

def relF (ρ : Fam) (l : List Nat) : Fam := fun k => match l[k]? with
  | some f => if l.idxOf f = k then ρ f else none
  | none => none

theorem relF_idx {ρ : Fam} {l : List Nat} {f : Nat} (h : f ∈ l) : relF ρ l (l.idxOf f) = ρ f := by
  unfold relF
  have h1 : l.idxOf f < l.length := List.idxOf_lt_length_of_mem h
  rw [List.getElem?_eq_getElem h1, List.getElem_idxOf h1]
  simp

theorem relF_some {ρ : Fam} {l : List Nat} {k b : Nat} (h : relF ρ l k = some b) : ∃ f, l.idxOf f = k ∧ ρ f = some b := by
  unfold relF at h
  split at h
  · split at h
    · rename_i f _ e; exact ⟨f, e, h⟩
    · cases h
  · cases h

theorem relab_ac {w : World} {ρ β β' : Fam} {l : List Nat} (hb : ∀ b, ¬ Bad ρ β b → ¬ Bad (relF ρ l) β' b) (hm : ∀ f b, f ∉ l → ρ f = some b → ¬ Bad (relF ρ l) β' b) (v : Value) (x : AC) (hl : ∀ f ∈ x.rlabs, f ∈ l) (h : ACRep w ρ β v x) : ACRep w (relF ρ l) β' v (x.relab l) := by
  have pm : Hx w (Bad ρ β) w (Bad (relF ρ l) β') := Hx.same hb
  cases x with
  | p x => exact CRep.mono pm h
  | z => exact h
  | own f sz n cells =>
    have hf := relF_idx (ρ := ρ) (hl f (by simp [AC.rlabs, AC.labs]))
    obtain ⟨raws, ⟨h1, h2⟩, hr⟩ := h
    exact ⟨raws, ⟨h1, by rw [hf]; exact h2⟩, hr.mono pm⟩
  | tl f sz n cells =>
    have hf := relF_idx (ρ := ρ) (hl f (by simp [AC.rlabs, AC.labs]))
    obtain ⟨raws, ⟨h1, h2⟩, hr⟩ := h
    exact ⟨raws, ⟨h1, by rw [hf]; exact h2⟩, hr.mono pm⟩
  | view f n cells =>
    have hf := relF_idx (ρ := ρ) (hl f (by simp [AC.rlabs, AC.labs]))
    obtain ⟨a, cap, raws, h1, h2, h3, h4, hr⟩ := h
    exact ⟨a, cap, raws, h1, h2, h3, by rw [hf]; exact h4, hr.mono pm⟩
  | ep k cells pos =>
    cases k with
    | none => obtain ⟨y, raws, h1, h2, hr⟩ := h; exact ⟨y, raws, h1, fun j u hj => ⟨hb _ (h2 j u hj).1, (h2 j u hj).2⟩, hr.mono pm⟩
    | some f =>
      have hf := relF_idx (ρ := ρ) (hl f (by simp [AC.rlabs, AC.labs]))
      obtain ⟨y, raws, h1, h2, hr⟩ := h
      exact ⟨y, raws, h1, by rw [hf]; exact h2, hr.mono pm⟩
  | epo f cells pos =>
    have hf := relF_idx (ρ := ρ) (hl f (by simp [AC.rlabs, AC.labs]))
    obtain ⟨g, cur, e, fr, h1, h2, h3, h4, h5, hr⟩ := h
    exact ⟨g, cur, e, fr, h1, by rw [hf]; exact h2, h3, h4, h5, hr.mono pm⟩
  | ptr b off => trivial
  | fn g caps => trivial
  | yield l => trivial
  | ghost l xs k v => trivial
  | mown f ks vs =>
    simp only [AC.relab]
    split
    · trivial
    · rename_i hn
      have hn' : ∀ g ∈ (f :: vs.flatMap MV.labs), g ∉ l := fun g hg hgl => hn (List.any_eq_true.2 ⟨g, hg, by simpa using hgl⟩)
      split
      · rename_i cs hcs
        obtain ⟨g, raws, rfl, hρ, hmc, hlen, ho, hr⟩ := h
        have hc := mvCVs_get hcs
        refine .mp g raws ks cs (hm f g (hn' f (by simp)) hρ) hmc (by rw [hlen]; simpa using hc.1) ho (fun j u c hu hj => ?_)
        have h1 := hc.2 j c hj
        rw [List.getElem?_map] at h1
        cases hk : vs[j]? with
        | none => simp [hk] at h1
        | some x =>
          simp [hk] at h1
          have hx := hr j u x hu hk
          have hmem := List.mem_of_getElem? hk
          cases x with
          | v x => simp [MV.pure] at h1; subst h1; exact CRep.mono pm hx
          | inner f' ks' vs' =>
            simp [MV.pure] at h1
            subst h1
            obtain ⟨g', raws', rfl, a2, a3, a4⟩ := hx
            have a4' := a4.mono pm
            exact .mp g' raws' ks' vs' (hm f' g' (hn' f' (by simp only [List.mem_cons, List.mem_flatMap]; exact .inr ⟨_, hmem, by simp [MV.labs]⟩)) a2) a3 a4'.len a4'.one a4'.rep
          | bad => simp [MV.pure] at h1
      · trivial
  | bad => trivial

theorem relab_av {w : World} {ρ β β' : Fam} {l : List Nat} (hb : ∀ b, ¬ Bad ρ β b → ¬ Bad (relF ρ l) β' b) (hm : ∀ f b, f ∉ l → ρ f = some b → ¬ Bad (relF ρ l) β' b) {v : Value} {x : AV} (h : AVRep w ρ β v x) (hl : ∀ f ∈ x.rlabs, f ∈ l) : AVRep w (relF ρ l) β' v (x.relab l) :=
  AVRep.lift' (AC.relab l) (AV.relab l) (fun _ => rfl) (fun _ => rfl) (fun xs => by simp [AV.relab, relab_go]) rfl (fun x => ∀ f ∈ x.rlabs, f ∈ l) (fun x => ∀ f ∈ x.rlabs, f ∈ l) (fun _ h => h)
    (fun xs h x hx f hf => h f (by simp only [AV.rlabs, List.mem_flatMap]; exact ⟨x, hx, hf⟩)) (fun xs h x hx f hf => h f (by simp only [AV.rlabs, rlabs_go, List.mem_flatMap]; exact ⟨x, hx, hf⟩))
    (fun v x hp hr => relab_ac hb hm v x hp hr) h hl

def st0 (args : List AV) : St := ⟨fun s => args.getD s .bad, fun _ => none⟩

def resF (tmps : Array Value) : ResultVar → Sem Value
  | .tmp t => pure (tmps.getD t undef)
  | .cell t ty => do loadVar ty (← asAddr (tmps.getD t undef))

theorem results_eq (fn : Func) (tmps : Array Value) : results fn tmps = (do let vs ← fn.results.mapM (resF tmps); pure (if h : vs.size = 1 then vs[0] else .tuple vs)) := by
  have e : (fun (r : ResultVar) => match r with
      | .tmp t => pure (tmps.getD t undef)
      | .cell a t => do loadVar t (← asAddr (tmps.getD a undef)) : ResultVar → Sem Value) = resF tmps := by
    funext r; cases r <;> rfl
  rw [← e]; rfl

theorem res_run {P : Program} {C : Cx} {st : St} {a : Act} {w : World} {ρ β : Fam} (hJ : J C st a w ρ β) : ∀ (rs : List ResultVar) (l : List AV), resAV P st rs = some l →
    ∃ vs : List Value, (rs.mapM (resF a.tmps) : Sem (List Value)).run P w = .ok vs w ∧ vs.length = l.length ∧ ∀ (j : Nat) (u : Value) (x : AV), vs[j]? = some u → l[j]? = some x → AVRep w ρ β u x
  | [], l, h => by
    simp [resAV] at h
    subst h
    exact ⟨[], by simp, rfl, by simp⟩
  | .tmp t :: r, l, h => by
    simp only [resAV] at h
    cases hr : resAV P st r with
    | none => simp [hr] at h
    | some l' =>
      simp [hr] at h
      subst h
      obtain ⟨vs, h1, h2, h3⟩ := res_run hJ r l' hr
      refine ⟨a.tmps.getD t undef :: vs, by simp only [List.mapM_cons, resF, Sem.run_bind, Sem.run_pure, Result.andThen_ok, h1], by simp [h2], fun j u x hu hx => ?_⟩
      cases j with
      | zero =>
        simp only [List.getElem?_cons_zero, Option.some.injEq] at hu hx
        subst hu hx; exact hJ.env t
      | succ j => exact h3 j u x (by simpa using hu) (by simpa using hx)
  | .cell t ty :: r, l, h => by
    simp only [resAV] at h
    split at h
    · rename_i b off l' ht hr
      cases hb : st.box b with
      | none => simp [hb] at h
      | some xs =>
        simp only [hb] at h
        cases hp : partAC P ty xs off with
        | none => simp [hp] at h
        | some y =>
          simp [hp] at h
          subst h
          obtain ⟨vs, h1, h2, h3⟩ := res_run hJ r l' hr
          have hx := hJ.env t
          rw [ht] at hx
          obtain ⟨g, hβ, hv⟩ := rep_cell hx
          obtain ⟨g', raws, e, hβ', hpr, hg, hl, ho, hrep⟩ := hJ.box b xs hb
          rw [hβ] at hβ'; cases hβ'
          have hs : Seg w ρ β raws.toList xs := ⟨by simpa using hl, ho, fun j u x hu hx => hrep j u x (by simpa using hu) hx⟩
          obtain ⟨v, hrun, hv'⟩ := load_run (P := P) (a := ⟨g, 0, none⟩) hs (fun j u hj => by
            rw [ptr_add, Nat.zero_add]
            simp [World.cell?, hg]
            simpa using hj) hp
          rw [ptr_add, Nat.zero_add] at hrun
          refine ⟨v :: vs, ?_, by simp [h2], fun j u x hu hx => ?_⟩
          · have hA : (asAddr (a.tmps.getD t undef)).run P w = .ok ⟨g, off, none⟩ w := by rw [hv]; rfl
            simp only [List.mapM_cons, resF, Sem.run_bind, hA, Sem.run_pure, Result.andThen_ok, hrun, h1]
          · cases j with
            | zero => simp at hu hx; subst hu hx; exact hv'
            | succ j => exact h3 j u x (by simpa using hu) (by simpa using hx)
    · cases h

theorem ret_run {P : Program} {C : Cx} {st : St} {a : Act} {w : World} {ρ β : Fam} (hJ : J C st a w ρ β) {fn : Func} {x : AV} (h : retAV P st fn.results.toList = some x) :
    ∃ v, (results fn a.tmps).run P w = .ok v w ∧ AVRep w ρ β v x := by
  unfold retAV at h
  have main : ∀ l, resAV P st fn.results.toList = some l → ∃ vs : List Value, (results fn a.tmps).run P w = .ok (if h : vs.toArray.size = 1 then vs.toArray[0] else .tuple vs.toArray) w ∧ vs.length = l.length ∧
      ∀ (j : Nat) (u : Value) (x : AV), vs[j]? = some u → l[j]? = some x → AVRep w ρ β u x := by
    intro l hl
    obtain ⟨vs, h1, h2, h3⟩ := res_run hJ _ l hl
    refine ⟨vs, ?_, h2, h3⟩
    rw [results_eq, Array.mapM_eq_mapM_toList]
    simp only [Sem.run_bind, Sem.run_map, h1, Result.andThen_ok, Sem.run_pure]
  split at h
  · rename_i y hy
    cases h
    obtain ⟨vs, h1, h2, h3⟩ := main _ hy
    match vs, h2 with
    | [v], _ => exact ⟨v, by simpa using h1, h3 0 v _ rfl rfl⟩
  · rename_i l hne hl
    cases h
    obtain ⟨vs, h1, h2, h3⟩ := main _ hl
    have hsz : ¬ vs.toArray.size = 1 := by
      intro e
      match l, h2 with
      | [y], _ => exact hne y rfl
      | [], h2 => simp only [List.size_toArray] at e; simp only [List.length_nil] at h2; omega
      | _ :: _ :: _, h2 => simp only [List.size_toArray] at e; simp only [List.length_cons] at h2; omega
    rw [dif_neg hsz] at h1
    exact ⟨_, h1, .tup _ _ (by simpa using h2) fun j u x hu hx => h3 j u x (by simpa using hu) hx⟩
  · cases h

/-- A result, as the caller sees it: labels numbered, captured boxes read. -/
def fin (bx : Nat → Option (List AC)) (x : AV) : AV :=
  match x with
  | .cell (.fn g caps) => match capsCV bx caps with
    | some cs => .cell (.p (.fn g cs))
    | none => .bad
  | x => canon x

theorem fin_rep {C : Cx} {st : St} {a : Act} {w : World} {ρ β : Fam} (hJ : J C st a w ρ β) {bad0 : Nat → Prop} (hb : ∀ b, bad0 b → C.bad0 b) {v : Value} {x : AV} (h : AVRep w ρ β v x) :
    AVRep w (relF ρ x.rlabs) (beta0 bad0) v (fin st.box x) := by
  have hmd : ∀ f b, f ∉ x.rlabs → ρ f = some b → ¬ Bad (relF ρ x.rlabs) (beta0 bad0) b := by
    intro f b hf hρ
    rw [bad_beta0]
    rintro (⟨k, hk⟩ | hb')
    · have hk' := hk
      unfold relF at hk'
      split at hk'
      · rename_i f' hf'
        split at hk'
        · have := hJ.apart.inj f' f b hk' hρ
          subst this
          exact hf (List.mem_of_getElem? hf')
        · cases hk'
      · cases hk'
    · exact hJ.apart.sep f _ b hρ (hJ.phan b (hb b hb'))
  have hbd : ∀ b, ¬ Bad ρ β b → ¬ Bad (relF ρ x.rlabs) (beta0 bad0) b := by
    intro b hnb
    rw [bad_beta0]
    rintro (⟨k, hk⟩ | hb')
    · obtain ⟨f, _, hf⟩ := relF_some hk
      exact hnb (.inl ⟨f, hf⟩)
    · exact hnb (.inr ⟨2 * b + 1, hJ.phan b (hb b hb')⟩)
  unfold fin
  split
  · rename_i g caps
    split
    · rename_i cs hcs
      obtain ⟨vs, rfl, hl, h1, h2⟩ := rep_cell h
      have hlab : (AV.cell (AC.fn g caps)).rlabs = [] := rfl
      obtain ⟨k1, k2⟩ := capsCV_rep hJ (bad := Bad (relF ρ (AV.cell (AC.fn g caps)).rlabs) (beta0 bad0)) (fun b hb' => Classical.byContradiction fun hn => hbd b hn hb') (fun b i hi hb' => by
        rw [bad_beta0, hlab] at hb'
        rcases hb' with ⟨k, hk⟩ | hb'
        · have h0 : relF ρ [] k = none := by simp [relF]
          rw [h0] at hk; cases hk
        · exact (own_not_prot hJ (.inr ⟨i, hi⟩)).2.2 (hb b hb')) caps cs hcs
      have hv : Value.func (.func g) #[] vs = .func (.func g) #[] vs.toList.toArray := by simp
      rw [hv]
      exact .cell _ _ (.fn g vs.toList cs (by simpa [k1] using hl) (k2 vs.toList (by simpa using hl) (fun j u b hu hc => h1 j u b (by simpa using hu) hc) (fun j u c hu hc => h2 j u c (by simpa using hu) hc)))
    · exact .bad _
  · exact relab_av hbd hmd h (fun f hf => hf)

/-- A function's end, marks and all. -/
theorem leaves {P : Program} {F : Fence} {n : Nat} (hF : WideR F) {fn : Func} {R : Ending → World → Prop} {B0 : Nat} : ∀ (ms : List Nat) (C : Cx) (st : St) (a : Act) (w : World) (ρ β : Fam), SeqLaw P C.seq → J C st a w ρ β → C.marks = ms → (∀ D ∈ ms, B0 ≤ D) →
    (∀ C' a' w' β', C'.marks = [] → C'.seq = C.seq → (∀ b, C.bad0 b → C'.bad0 b) → (∀ b, C.out b ↔ C'.out b) → Turn (fun b => B0 ≤ b) w w' → a'.tmps = a.tmps → J C' st a' w' ρ β' → ∃ v, (results fn a'.tmps).run P w' = .ok v w' ∧ R (.returned v) w') → LeavesInM F n P fn a.tmps R a.defers .returning w
  | [], C, st, a, w, ρ, β, hS, hJ, hm, hB, h => by
    have hd := hJ.ext.defers
    rw [hm] at hd
    rw [hd]
    exact h C a w β hm rfl (fun _ h => h) (fun _ => Iff.rfl) (Turn.refl _ _) rfl hJ
  | D :: ms, C, st, a, w, ρ, β, hS, hJ, hm, hB, h => by
    have hd := hJ.ext.defers
    rw [hm] at hd
    rw [hd]
    obtain ⟨m1, m2, m3⟩ := hJ.ext.marks D (by rw [hm]; simp)
    have hD : w.heap[D]? = some (.deferred (some [])) := (hJ.kept D m1).trans m3
    have hDlt : D < w.heap.size := (Array.getElem?_eq_some_iff.1 hD).1
    have hw2 : (w.putObj D (.deferred none)).heap.size = w.heap.size := by simp
    have hno : ∀ b, C.prot b → ¬ Own ρ β b := fun b hp ho => (own_not_prot hJ ho).1 hp
    have hlt : ∀ b, C.prot b → b < w.heap.size := fun b hp => Nat.lt_of_lt_of_le (hJ.protlt b hp) hJ.grown
    have hnd := hJ.ext.nodup
    rw [hm] at hnd
    let C' : Cx := { C with w0 := w.putObj D (.deferred none), prot := fun b => b < (w.putObj D (.deferred none)).heap.size ∧ ¬ Own ρ β b, marks := ms }
    have hext : JExt C' st ⟨a.tmps, ms.map markOf⟩ := by
      refine ⟨hJ.ext.small, rfl, (List.nodup_cons.1 hnd).2, fun E hE => ?_, fun b hb => ?_, hJ.ext.outb, fun l hl => ?_, fun l xs k v e => ?_⟩
      · obtain ⟨q1, q2, q3⟩ := hJ.ext.marks E (by rw [hm]; exact List.mem_cons_of_mem _ hE)
        have hne : E ≠ D := fun e => (List.nodup_cons.1 hnd).1 (e ▸ hE)
        exact ⟨⟨by rw [hw2]; exact hlt E q1, hno E q1⟩, q2, (World.putObj_heap_other hne).trans ((hJ.kept E q1).trans q3)⟩
      · obtain ⟨q1, q2⟩ := hJ.ext.perm b hb
        exact ⟨⟨by rw [hw2]; exact hlt b q1, hno b q1⟩, q2⟩
      · obtain ⟨q1, q2, r, q3⟩ := hJ.ext.loop l hl
        have hl' : w.heap[l]? = some (.loop r) := (hJ.kept l q1).trans q3
        have hne : l ≠ D := fun e => by rw [e, hD] at hl'; cases hl'
        exact ⟨⟨by rw [hw2]; exact hlt l q1, hno l q1⟩, q2, r, (World.putObj_heap_other hne).trans hl'⟩
      · refine hS.stable l xs k v _ _ _ _ _ (seq_here hS hJ e) (putObj_turn.mono (fun b _ hb => .inr (by rw [hm, hb]; simp))) (fun b hb => ⟨hb.1, .inl ?_⟩)
        rcases hb.2 with h1 | h1
        · exact .inl (Classical.byContradiction fun ho => h1 ⟨hb.1, ho⟩)
        · exact .inr (by rw [hm]; exact List.mem_cons_of_mem _ h1)
    have hbl : ∀ b, C.bad0 b → b < w.heap.size := fun b h => hJ.apart.box _ b (hJ.phan b h)
    have hJ2 := hJ.foreign (X := fun b => b = D) (C' := C') (a' := ⟨a.tmps, ms.map markOf⟩) (putObj_turn.mono (fun b _ e => .inr e)) (fun b e => by
      subst e
      exact ⟨m1, NotData.of hD trivial⟩) rfl rfl hJ.pin (fun b hb => ⟨by
        show b < (w.putObj D (.deferred none)).heap.size
        rw [hw2]; exact hbl b hb, .inl hb⟩) (fun b hb => hb) hext rfl
    refine ⟨by simp, .inl ⟨D, _, rfl, run_takeDeferred hD, ?_⟩⟩
    refine leaves hF ms C' st ⟨a.tmps, ms.map markOf⟩ _ ρ _ hS hJ2 rfl (fun E hE => hB E (List.mem_cons_of_mem _ hE)) (fun C'' a' w' β' c1 c2 c3 c4 c5 c6 c7 => h C'' a' w' β' c1 c2 c3 c4 ?_ c6 c7)
    exact putObj_turn.trans c5 (fun b _ e => by rw [e]; exact hB D (by simp)) (fun b _ e => e)

/-- The state in which a call begins. -/
theorem J.start {fn : Func} {args : List AV} (hargs : args.length ≤ fn.ntmps) (hsm : fn.ntmps ≤ gslot) {w : World} {vs : Array Value} {bad0 : Nat → Prop} (hbad : ∀ b, bad0 b → b < w.heap.size) (hlen : vs.size = args.length)
    (hrep : ∀ (j : Nat) (u : Value) (x : AV), vs[j]? = some u → args[j]? = some x → AVRep w noneF (beta0 bad0) u x)
    (hglob : ∀ g cs, Globals.G g = some cs → AVRep w noneF (beta0 bad0) (.pointer (some ⟨g, 0, none⟩)) (.cell (.ep none cs 0))) {out : Nat → Prop} (hout : ∀ b, out b → bad0 b)
    (seq : Nat → List (List EV) → Nat → Bool → (Nat → Prop) → (Nat → Prop) → World → Prop) (hg : args[gslot]? = none) :
    J { prot := fun b => b < w.heap.size, bad0 := bad0, w0 := w, N := fn.ntmps, perm := fun b => b < w.heap.size ∧ ¬ out b, marks := [], loop := none, out := out, pin := fun _ => none, seq := seq } (st0 args)
      { tmps := vs ++ Array.replicate (fn.ntmps - vs.size) undef, defers := [] } w noneF (beta0 bad0) := by
  refine ⟨by simp; omega, ⟨hsm, rfl, List.nodup_nil, fun D hD => (by cases hD), fun b hb => hb, hout, fun l hl => (by cases hl), fun l xs k v e => ?_⟩, rfl, rfl, rfl, Nat.le_refl _, fun _ _ => rfl, fun b h => h, fun b hb => ?_, ⟨fun f b h => by simp [noneF] at h, fun i b h => ?_, fun f f' b h => by simp [noneF] at h, fun i k b h1 h2 => ?_, fun f i b h => by simp [noneF] at h, fun i b h => by rw [beta0_even] at h; cases h⟩, fun s => ?_, fun i xs h => by simp [st0] at h, hglob, fun i q h => by cases h⟩
  · simp only [st0, List.getD_eq_getElem?_getD, hg] at e; cases e
  · unfold beta0
    have e : (2 * b + 1) / 2 = b := by omega
    rw [e, if_pos ⟨by omega, hb⟩]
  · unfold beta0 at h; split at h
    · rename_i hc; cases h; exact hbad _ hc.2
    · cases h
  · unfold beta0 at h1 h2
    split at h1
    · split at h2
      · rename_i c1 c2; simp only [Option.some.injEq] at h1 h2; omega
      · cases h2
    · cases h1
  · simp only [st0]
    rcases Nat.lt_or_ge s args.length with hs | hs
    · have h1 : (vs ++ Array.replicate (fn.ntmps - vs.size) undef).getD s undef = vs[s]'(by omega) := by
        rw [Array.getD_eq_getD_getElem?, Array.getElem?_append_left (by omega), Array.getElem?_eq_getElem (by omega)]; rfl
      rw [h1, List.getD_eq_getElem?_getD, List.getElem?_eq_getElem hs]
      exact hrep s _ _ (Array.getElem?_eq_getElem (by omega)) (List.getElem?_eq_getElem hs)
    · rw [List.getD_eq_getElem?_getD, List.getElem?_eq_none hs]; exact .bad _

/-- THE CONTRACT OF A FUNCTION, from its code. -/
theorem at_intro {P : Program} {f : FuncId} {fn : Func} {c : Code} {args : List AV} {r : AV} (hm : P.follows .mixedOrders = true) (hf : P.funcs[f]? = some fn) (hname : (fn.name == "runtime.NumGoroutine") = false) (hb : fn.body = some c)
    (hargs : args.length ≤ fn.ntmps) (hsm : fn.ntmps ≤ gslot) (hok : codeOk fn.ntmps c = true)
    (h : awp P c (fun e st => (e = .normal ∨ e = .ret) ∧ ∃ st', Weak st st' ∧ ∃ x, retAV P st' fn.results.toList = some x ∧ fin st'.box x = r) (st0 args)) : At P f args r := by
  refine ⟨⟨fn, hf, hname, by rw [hb]; rfl⟩, fun w vs bad0 hbad hlen hrep hglob => ?_⟩
  refine callsIn_wide (n := 0) |>.1 (callsIn_of_wp_marks (F := Fence.wide) hf hb trivial ?_)
  have hJ := J.start hargs hsm hbad hlen hrep hglob (out := fun _ => False) (fun _ h => h.elim) (fun _ _ _ _ _ _ _ => False) (List.getElem?_eq_none (by omega))
  refine Code.wpIn_mono ?_ (awp_sound hm c Fence.wide 0 _ _ _ _ _ _ _ (.inl ⟨rfl, rfl⟩) (seqLaw_none P) (fun _ _ => rfl) hok h hJ)
  rintro e a' w' ⟨_, C', st₀, ρ, β, hle, ⟨he, st, hwk, x, hx, rfl⟩, hJ'⟩
  replace hJ' := hJ'.weak hwk
  obtain ⟨m, e1, _, e3⟩ := hle.marks
  have hmk : C'.marks = m := by rw [e1]; exact List.append_nil m
  have main : LeavesInM Fence.wide 0 P fn a'.tmps (fun e w' => ∃ v ρr, e = .returned v ∧ Below w.heap.size w w' ∧ (∀ g b, ρr g = some b → w.heap.size ≤ b ∧ b < w'.heap.size) ∧ (∀ g g' b, ρr g = some b → ρr g' = some b → g = g') ∧ AVRep w' ρr (beta0 bad0) v (fin st.box x)) a'.defers .returning w' := by
    refine leaves (.inl rfl) (B0 := w.heap.size) m C' st a' w' ρ β (by rw [hle.seq]; exact seqLaw_none P) hJ' hmk (fun D hD => e3 D hD) (fun C'' a'' w'' β' c1 c2 c3 c4 c5 c6 hJ2 => ?_)
    obtain ⟨v, hr, hv⟩ := ret_run hJ2 hx
    refine ⟨v, hr, v, relF ρ x.rlabs, rfl, ⟨c5.os.trans (hJ'.os.trans hle.os), c5.tape.trans (hJ'.tape.trans hle.tape), c5.output.trans (hJ'.output.trans hle.output), Nat.le_trans hle.size (Nat.le_trans hJ'.grown c5.size), fun b hb => ?_⟩, fun g b hg => ?_, fun g g' b h1 h2 => ?_, fin_rep hJ2 (fun b hb => c3 b (hle.bad b hb)) hv⟩
    · obtain ⟨q1, q2⟩ := hle.perm b ⟨hb, id⟩
      have hbs : b < w'.heap.size := Nat.lt_of_lt_of_le hb (Nat.le_trans hle.size hJ'.grown)
      exact (c5.same b hbs (by omega)).trans ((hJ'.kept b (hJ'.ext.perm b q1).1).trans q2)
    · obtain ⟨f, _, hf⟩ := relF_some hg
      have h1 := own_not_prot hJ' (.inl ⟨_, hf⟩)
      refine ⟨Nat.le_of_not_lt fun hlt => ?_, Nat.lt_of_lt_of_le h1.2.1 c5.size⟩
      obtain ⟨q1, _⟩ := hle.perm b ⟨hlt, id⟩
      exact h1.1 (hJ'.ext.perm b q1).1
    · obtain ⟨f, e1, hf⟩ := relF_some h1
      obtain ⟨f', e2, hf'⟩ := relF_some h2
      have := hJ'.apart.inj f f' b hf hf'
      subst this; omega
  rcases he with rfl | rfl <;> exact main

/-- THE CONTRACT OF AN ITERATOR, from its code. -/
theorem seqAt_intro {P : Program} {f : FuncId} {fn : Func} {c : Code} {caps : List AV} {xs : List (List EV)} (hm : P.follows .mixedOrders = true) (hf : P.funcs[f]? = some fn) (hname : (fn.name == "runtime.NumGoroutine") = false) (hb : fn.body = some c)
    (hargs : caps.length + 1 ≤ fn.ntmps) (hsm : fn.ntmps ≤ gslot) (hok : codeOk fn.ntmps c = true)
    (h : ∀ l, awp P c (fun e st => (e = .normal ∨ e = .ret) ∧ (∃ x, retAV P st fn.results.toList = some x) ∧ ∃ k live, st.env gslot = .cell (.ghost l xs k live) ∧ (live = true → k = xs.length)) ((st0 (.cell (.yield l) :: caps)).setG (.ghost l xs 0 true))) : SeqAt P f caps xs := by
  refine ⟨⟨fn, hf, hname, by rw [hb]; rfl⟩, fun w vs Bz l seq hbad hlen hrep hglob hS h0 => ?_⟩
  refine callsIn_wide (n := 0) |>.1 (callsIn_of_wp_marks (F := Fence.wide) hf hb trivial ?_)
  have hJ := (J.start (fn := fn) (args := .cell (.yield l) :: caps) (vs := #[.func (.yield l) #[] #[]] ++ vs) (by simpa using hargs) hsm hbad (by simp [hlen]; omega) (fun j u x hu hx => by
    cases j with
    | zero =>
      rw [Array.getElem?_append_left (by simp)] at hu
      simp at hu hx; subst hu hx; exact .cell _ _ rfl
    | succ j =>
      rw [Array.getElem?_append_right (by simp)] at hu
      exact hrep j u x (by simpa using hu) (by simpa using hx)) hglob (out := Bz) (fun _ h => h) seq (List.getElem?_eq_none (by simp; omega))).putG (l := l) (xs := xs) (k := 0) (v := true)
    (hS.stable l xs 0 true _ _ _ _ _ h0 (Turn.refl _ _) (fun b hb => by
      obtain ⟨h1, h2 | h2⟩ := hb
      · exact (h2 h1).elim
      · cases h2))
  refine Code.wpIn_mono ?_ (awp_sound hm c Fence.wide 0 _ _ _ _ _ _ _ (.inl ⟨rfl, rfl⟩) hS (fun _ _ => rfl) hok (h l) hJ)
  rintro e a' w' ⟨_, C', st, ρ, β, hle, ⟨he, ⟨x, hx⟩, k, live, hg, hk⟩, hJ'⟩
  obtain ⟨m, e1, _, e3⟩ := hle.marks
  have hmk : C'.marks = m := by rw [e1]; exact List.append_nil m
  have hSc : SeqLaw P C'.seq := by rw [hle.seq]; exact hS
  have main : LeavesInM Fence.wide 0 P fn a'.tmps (fun e w' => (∃ v, e = .returned v) ∧ ∃ Oz Bz' k live, (live = true → k = xs.length) ∧ seq l xs k live Oz Bz' w' ∧ Turn Bz w w' ∧ (∀ b, Bz b → Bz' b) ∧ (∀ b, Bz' b → Bz b ∨ w.heap.size ≤ b)) a'.defers .returning w' := by
    refine leaves (.inl rfl) (B0 := w.heap.size) m C' st a' w' ρ β hSc hJ' hmk (fun D hD => e3 D hD) (fun C'' a'' w'' β' c1 c2 c3 c4 c5 c6 hJ2 => ?_)
    obtain ⟨v, hr, hv⟩ := ret_run hJ2 hx
    have hs := seq_here (by rw [c2]; exact hSc) hJ2 hg
    rw [c2, hle.seq] at hs
    refine ⟨v, hr, ⟨v, rfl⟩, _, _, k, live, hk, hs, ⟨Nat.le_trans hle.size (Nat.le_trans hJ'.grown c5.size), c5.os.trans (hJ'.os.trans hle.os), c5.tape.trans (hJ'.tape.trans hle.tape), c5.output.trans (hJ'.output.trans hle.output), fun b hb hn => ?_⟩, fun b hb => (c4 b).1 (hle.out b hb), fun b hb => hle.newo b ((c4 b).2 hb)⟩
    obtain ⟨q1, q2⟩ := hle.perm b ⟨hb, hn⟩
    have hbs : b < w'.heap.size := Nat.lt_of_lt_of_le hb (Nat.le_trans hle.size hJ'.grown)
    exact (c5.same b hbs (by omega)).trans ((hJ'.kept b (hJ'.ext.perm b q1).1).trans q2)
  rcases he with rfl | rfl <;> exact main
end Go.Fw
end
section
set_option linter.all false
namespace Go.Fw
variable [Globals]

def retPost (P : Program) (rs : List ResultVar) (r : AV) : Exit → St → Prop := fun e st => (e = .normal ∨ e = .ret) ∧ ∃ st', Weak st st' ∧ ∃ x, retAV P st' rs = some x ∧ fin st'.box x = r

theorem Weak.refl (st : St) : Weak st st := ⟨fun _ => .inl rfl, fun _ ys h => ⟨ys, h, rfl, fun _ x y hx hy => by rw [hx] at hy; cases hy; exact .inl rfl⟩⟩
theorem retPost_ret {P : Program} {rs : List ResultVar} {r x : AV} {st : St} (h : retAV P st rs = some x) (hc : fin st.box x = r) : retPost P rs r .ret st := ⟨.inr rfl, st, Weak.refl st, x, h, hc⟩
/-- The same, with empty slices counted as owned. -/
theorem retPost_retw {P : Program} {rs : List ResultVar} {r x : AV} {st : St} (st' : St) (hw : Weak st st') (h : retAV P st' rs = some x) (hc : fin st'.box x = r) : retPost P rs r .ret st := ⟨.inr rfl, st', hw, x, h, hc⟩
theorem retPost_normal {P : Program} {rs : List ResultVar} {r x : AV} {st : St} (h : retAV P st rs = some x) (hc : fin st.box x = r) : retPost P rs r .normal st := ⟨.inl rfl, st, Weak.refl st, x, h, hc⟩

/-- An iterator's end. -/
def seqPost (P : Program) (rs : List ResultVar) (l : Nat) (xs : List (List EV)) : Exit → St → Prop := fun e st => (e = .normal ∨ e = .ret) ∧ (∃ x, retAV P st rs = some x) ∧ ∃ k live, st.env gslot = .cell (.ghost l xs k live) ∧ (live = true → k = xs.length)
theorem seqPost_end {P : Program} {rs : List ResultVar} {l k : Nat} {xs : List (List EV)} {live : Bool} {e : Exit} {st : St} {x : AV} (he : e = .normal ∨ e = .ret) (hx : retAV P st rs = some x) (hg : st.env gslot = .cell (.ghost l xs k live)) (hk : live = true → k = xs.length) : seqPost P rs l xs e st := ⟨he, ⟨x, hx⟩, k, live, hg, hk⟩

theorem at_code {P : Program} {f : FuncId} {fn : Func} {c : Code} {args : List AV} {r : AV} (hm : P.follows .mixedOrders = true) (hf : P.funcs[f]? = some fn) (hname : (fn.name == "runtime.NumGoroutine") = false) (hb : fn.body = some c)
    (hargs : (decide (args.length ≤ fn.ntmps) && decide (fn.ntmps ≤ gslot)) = true) (hok : codeOk fn.ntmps c = true) {rs : List ResultVar} (hrs : fn.results.toList = rs)
    (h : ∀ Q : Exit → St → Prop, (∀ e st, retPost P rs r e st → Q e st) → awp P c Q (st0 args)) : At P f args r := by
  subst hrs
  simp only [Bool.and_eq_true, decide_eq_true_eq] at hargs
  exact at_intro hm hf hname hb hargs.1 hargs.2 hok (h _ (fun e st h => h))

theorem seq_code {P : Program} {f : FuncId} {fn : Func} {c : Code} {caps : List AV} {xs : List (List EV)} (hm : P.follows .mixedOrders = true) (hf : P.funcs[f]? = some fn) (hname : (fn.name == "runtime.NumGoroutine") = false) (hb : fn.body = some c)
    (hargs : (decide (caps.length + 1 ≤ fn.ntmps) && decide (fn.ntmps ≤ gslot)) = true) (hok : codeOk fn.ntmps c = true) {rs : List ResultVar} (hrs : fn.results.toList = rs)
    (h : ∀ (l : Nat) (Q : Exit → St → Prop), (∀ e st, seqPost P rs l xs e st → Q e st) → awp P c Q ((st0 (.cell (.yield l) :: caps)).setG (.ghost l xs 0 true))) : SeqAt P f caps xs := by
  subst hrs
  simp only [Bool.and_eq_true, decide_eq_true_eq] at hargs
  exact seqAt_intro hm hf hname hb hargs.1 hargs.2 hok (fun l => h l _ (fun e st h => h))

/-- The number in a slot. -/
def St.num (s : St) (d : Nat) : Int := match s.env d with
  | .cell (.p (.c (.int _ n))) => n
  | _ => 0
theorem num_of {s : St} {d : Nat} {k : IntKind} {n : Int} (h : s.env d = iV k n) : s.num d = n := by unfold St.num; rw [h]

section
variable {P : Program} {Q : Exit → St → Prop} {st : St}

theorem awp_seq {a b : Code} (h : ∀ K : St → Prop, (∀ s, awp P b Q s → K s) → awp P a (aThen K Q) st) : awp P (.seq a b) Q st := h _ (fun _ h => h)
/-- A cut: what holds between the two. -/
theorem awp_cut {a b : Code} (R : St → Prop) (h : ∀ K : St → Prop, (∀ s, R s → K s) → awp P a (aThen K Q) st) (h2 : ∀ s, R s → awp P b Q s) : awp P (.seq a b) Q st := h _ h2
theorem awp_region {rid : Nat} {ops : Array Oper} (h : aops P rid ops 0 ops.toList st (Q .normal)) : awp P (.region rid ops false) Q st := h
theorem awp_drawn {rid : Nat} {ops : Array Oper} (h : dops P rid ops st (Q .normal)) : awp P (.region rid ops true) Q st := .inl h
theorem awp_drawn2 {rid : Nat} {ops : Array Oper} (h : dops2 P rid ops st (Q .normal)) : awp P (.region rid ops true) Q st := .inr h
theorem awp_cond {c : Operand} {x y : Code} {t : Bool} (hc : evAV st.env c = bV t) (h1 : t = true → awp P x Q st) (h2 : t = false → awp P y Q st) : awp P (.cond c x y) Q st := by
  unfold awp; rw [hc]; exact ⟨h1, h2⟩
theorem awp_block {id : Nat} {b : Code} (h : awp P b (aBlock id Q) st) : awp P (.block id b) Q st := h
theorem awp_scope {b : Code} (h : awp P b (aNoGoto Q) st) : awp P (.scope b) Q st := h
theorem awp_skip (h : Q .normal st) : awp P .skip Q st := h
theorem awp_exit {id : Nat} (h : Q (.exit id) st) : awp P (.exit id) Q st := h
theorem awp_ret (h : Q .ret st) : awp P .ret Q st := h
theorem awp_label {l : Nat} (h : Q .normal st) : awp P (.label l) Q st := h
theorem awp_loop {b : Code} (I : St → Prop) (μ : St → Nat) (st' : St) (hw : Weak st st') (h0 : I st') (h : ∀ s, I s → ∀ K : St → Prop, (∀ s', I s' ∧ μ s' < μ s → K s') → awp P b (aThen K Q) s) : awp P (.loop b) Q st :=
  ⟨I, μ, st', hw, h0, fun s hs => h s hs _ (fun _ h => h)⟩
theorem awp_range {g : Operand} {ps : Array Tmp} {assign body : Code} {gf : FuncId} {cs : List CV} (xs : List (List EV)) (I : Nat → (Nat → Option (List AC)) → Prop) {T : List Nat} (hT : rids assign ++ rids body = T) (hg : evAV st.env g = .cell (.p (.fn gf cs))) (hseq : SeqAt P gf (cs.map fun c => .cell (.p c)) xs)
    (hlen : ∀ x ∈ xs, x.length = ps.size) (h0 : I 0 st.box) (hr : ∀ k x bx, xs[k]? = some x → I k bx → awp P assign (aThen (awp P body (rPost st T (I (k + 1)) Q)) (fun _ _ => False)) (setPs ps.toList x (st.base T bx))) (hd : ∀ bx, I xs.length bx → Q .normal (st.base T bx)) : awp P (.rangeFunc g ps assign body) Q st := by
  subst hT
  unfold awp; rw [hg]; exact .inl ⟨xs, I, hseq, hlen, h0, hr, hd⟩
/-- The same, families K set aside. -/
theorem awp_rangeK {g : Operand} {ps : Array Tmp} {assign body : Code} {gf : FuncId} {cs : List CV} (K : List Nat) (xs : List (List EV)) (I : Nat → (Nat → Option (List AC)) → Prop) {T : List Nat} (hT : rids assign ++ rids body = T) (hg : evAV st.env g = .cell (.p (.fn gf cs))) (hseq : SeqAt P gf (cs.map fun c => .cell (.p c)) xs)
    (hlen : ∀ x ∈ xs, x.length = ps.size) (h0 : I 0 (st.poison (inL K)).box) (hr : ∀ k x bx, xs[k]? = some x → I k bx → awp P assign (aThen (awp P body (rPost st T (I (k + 1)) (fun e s => Q e (st.baseK K T s.box)))) (fun _ _ => False)) (setPs ps.toList x (st.base T bx))) (hd : ∀ bx, I xs.length bx → Q .normal (st.baseK K T bx)) : awp P (.rangeFunc g ps assign body) Q st := by
  subst hT
  unfold awp; rw [hg]; exact .inr ⟨K, xs, I, hseq, hlen, h0, hr, hd⟩
theorem rPost_normal {T : List Nat} {I : (Nat → Option (List AC)) → Prop} {s : St} (h : I s.box) : rPost st T I Q .normal s := h
theorem rPost_ret {T : List Nat} {I : (Nat → Option (List AC)) → Prop} {s : St} (h : Q .ret (st.base T s.box)) : rPost st T I Q .ret s := h
theorem rPost_exit {T : List Nat} {I : (Nat → Option (List AC)) → Prop} {s : St} {id : Nat} (h : Q (.exit id) (st.base T s.box)) : rPost st T I Q (.exit id) s := h
theorem aops_nil {rid : Nat} {ops : Array Oper} {i : Nat} {K : St → Prop} (h : K st) : aops P rid ops i [] st K := h
theorem aops_cons {rid : Nat} {ops : Array Oper} {i : Nat} {K : St → Prop} {o : Oper} {rest : List Oper} (hg : o.guard = none)
    (h : ∀ K' : St → Prop, (∀ s, aops P rid ops (i + 1) rest s K → K' s) → gop P (rid * 65536 + i * 64) o.op st (fun out st' => K' (st'.put o.dst out))) : aops P rid ops i (o :: rest) st K := by
  unfold aops; rw [hg]; exact h _ (fun _ h => h)
theorem MV.retire_none (x : MV) : x.retire (fun _ => false) = x := by cases x <;> rfl
theorem AC.retire_none (x : AC) : x.retire (fun _ => false) = x := by
  cases x <;> try rfl
  · rename_i k cells pos; cases k <;> rfl
  · rename_i f ks vs
    simp only [AC.retire, Bool.false_eq_true, if_false]
    congr 1
    conv => rhs; rw [← List.map_id vs]
    exact List.map_congr_left fun x _ => MV.retire_none x
theorem AV.retire_none : ∀ x : AV, x.retire (fun _ => false) = x
  | .cell x => by simp [AV.retire, AC.retire_none]
  | .agg xs => by simp [AV.retire, AC.retire_none]
  | .tup xs => by simp only [AV.retire]; rw [go xs]
  | .bad => rfl
where
  go : ∀ xs : List AV, AV.retire.go (fun _ => false) xs = xs
    | [] => rfl
    | x :: xs => by simp only [AV.retire.go]; rw [AV.retire_none x, go xs]
theorem St.retire_none (st : St) : st.retire (fun _ => false) = st := by
  obtain ⟨env, box⟩ := st
  simp only [St.retire]
  congr 1
  · funext s; exact AV.retire_none _
  · funext i
    cases box i with
    | none => rfl
    | some xs => simp [AC.retire_none]

/-- What qval alone says. -/
def pureB : Op → Bool
  | .move _ | .assign _ | .pick _ _ _ | .binOp _ _ _ _ _ | .unOp _ _ _ | .load _ _ | .nilCheck _ | .fieldAddr _ _ _ | .field _ _ _ | .indexAddr _ _ _ | .index _ _ _ | .slice _ _ _ _ _ | .extract _ _ | .build _ _ | .lookup _ _ _ _ => true
  | .call { callee := .builtin .len, args := _, argTypes := _ } => true
  | .call { callee := .builtin .min, args := _, argTypes := _ } => true
  | .call { callee := .builtin .max, args := _, argTypes := _ } => true
  | _ => false
theorem pureB_gop {P : Program} {id : Nat} {op : Op} {st : St} {v : AV} (hp : pureB op = true) (h : qval P id (evAV st.env) st.box op = some v) {K : AV → St → Prop} (hk : K v st) : gop P id op st K := by
  unfold pureB at hp
  split at hp <;> first | (cases hp; done) | skip
  all_goals (simp only [gop, fop, h]; exact hk)
/-- A guarded operation, both ways at once: its slot holds the value if the condition holds. -/
theorem gsel_pure {id : Nat} {c : Bool} {op : Op} {X : AV → St → Prop} (hp : pureB op = true) (v : AV) (h1 : c = true → qval P id (evAV st.env) st.box op = some v)
    (h2 : X (if c = true then v else uV) st) : gsel P id (some c) op st X := by
  cases c with
  | true => exact pureB_gop hp (h1 rfl) (by simpa using h2)
  | false =>
    have : isCallB op = false := by
      unfold pureB at hp
      split at hp <;> first | rfl | (cases hp; done)
    unfold gsel
    rw [this]
    simpa using h2
/-- The same for a call. -/
theorem gsel_call {id : Nat} {c : Bool} {X : AV → St → Prop} {n : Nat} {args : Array Operand} {ts : Array TypeId} {as : List AV} {r : AV} (hAt : c = true → At P n as r) (has : c = true → (args.toList.map fun x => (evAV st.env x).arg) = as)
    (hlab : r.labs.all (fun f => decide (f < 64)) = true) (hflat : r.flat = true)
    (h2 : X (if c = true then r.shift id else uV) (st.retire (isId id))) : gsel P id (some c) (.call { callee := .value (.func n), args := args, argTypes := ts }) st X := by
  cases c with
  | true =>
    unfold gsel
    simp only [gop, fop]
    exact ⟨r, by rw [has rfl]; exact hAt rfl, hlab, by rw [if_pos hflat]; simpa using h2⟩
  | false =>
    unfold gsel
    simpa [isCallB] using h2
/-- What is known of the state is all that is kept. -/
theorem awp_gen {c : Code} (p : St → Prop) (h0 : p st) (h : ∀ s, p s → awp P c Q s) : awp P c Q st := h st h0
theorem aops_gen {rid : Nat} {ops : Array Oper} {i : Nat} {l : List Oper} {K : St → Prop} (p : St → Prop) (h0 : p st) (h : ∀ s, p s → aops P rid ops i l s K) : aops P rid ops i l st K := h st h0
theorem aThen_normal {K : St → Prop} (h : K st) : aThen K Q .normal st := h
theorem aThen_exit {K : St → Prop} {i : Nat} (h : Q (.exit i) st) : aThen K Q (.exit i) st := h
theorem aThen_ret {K : St → Prop} (h : Q .ret st) : aThen K Q .ret st := h
theorem aBlock_normal {i : Nat} (h : Q .normal st) : aBlock i Q .normal st := h
theorem aBlock_ret {i : Nat} (h : Q .ret st) : aBlock i Q .ret st := h
theorem aBlock_eq {i : Nat} (h : Q .normal st) : aBlock i Q (.exit i) st := by simp only [aBlock, if_true]; exact h
theorem aBlock_ne {i j : Nat} (hne : decide (j = i) = false) (h : Q (.exit j) st) : aBlock i Q (.exit j) st := by
  simp only [aBlock]; rw [if_neg (by simpa using hne)]; exact h
theorem aNoGoto_normal (h : Q .normal st) : aNoGoto Q .normal st := h
theorem aNoGoto_ret (h : Q .ret st) : aNoGoto Q .ret st := h
theorem aNoGoto_exit {i : Nat} (h : Q (.exit i) st) : aNoGoto Q (.exit i) st := h
/-- An empty slice counts as owned. -/
theorem Weak.own (d f sz : Nat) (h : st.env d = .cell .z) : Weak st (st.put (some d) (.cell (.own f sz 0 []))) := by
  refine ⟨fun s => ?_, fun _ ys h => ⟨ys, h, rfl, fun _ x y hx hy => by rw [hx] at hy; cases hy; exact .inl rfl⟩⟩
  simp only [St.put]
  split
  · rename_i e; subst e; rw [h]; exact .inr (.inl ⟨_, _, rfl, rfl, .inr (.inl ⟨rfl, f, sz, rfl⟩)⟩)
  · exact .inl rfl
theorem Weak.trans {a b c : St} (h : Weak a b) (k : Weak b c) : Weak a c := by
  have tc : ∀ x y u, wkC x y → wkC y u → wkC x u := by
    rintro x y u (rfl | ⟨rfl, f, sz, rfl⟩ | rfl) (rfl | ⟨e, f', sz', rfl⟩ | rfl)
    · exact .inl rfl
    · exact .inr (.inl ⟨e, f', sz', rfl⟩)
    · exact .inr (.inr rfl)
    · exact .inr (.inl ⟨rfl, f, sz, rfl⟩)
    · cases e
    · exact .inr (.inr rfl)
    · exact .inr (.inr rfl)
    · cases e
    · exact .inr (.inr rfl)
  refine ⟨fun s => ?_, fun i ys hy => ?_⟩
  · rcases h.env s with e | ⟨a', b', e1, e2, hw⟩ | e <;> rcases k.env s with e' | ⟨a2, b2, e3, e4, hw'⟩ | e'
    · exact .inl (e'.trans e)
    · exact .inr (.inl ⟨a2, b2, e.symm.trans e3, e4, hw'⟩)
    · exact .inr (.inr e')
    · exact .inr (.inl ⟨a', b', e1, e'.trans e2, hw⟩)
    · rw [e2] at e3; cases e3; exact .inr (.inl ⟨a', b2, e1, e4, tc _ _ _ hw hw'⟩)
    · exact .inr (.inr e')
    · exact .inr (.inr (e'.trans e))
    · rw [e] at e3; cases e3
    · exact .inr (.inr e')
  · obtain ⟨xs, h1, h2, h3⟩ := k.box i ys hy
    obtain ⟨zs, h4, h5, h6⟩ := h.box i xs h1
    refine ⟨zs, h4, h5.trans h2, fun j x y hx hy' => ?_⟩
    have hj : j < xs.length := by
      rw [h2]
      rcases Nat.lt_or_ge j ys.length with h | h
      · exact h
      · simp [List.getElem?_eq_none h] at hy'
    exact tc _ _ _ (h6 j x _ hx (List.getElem?_eq_getElem hj)) (h3 j _ y (List.getElem?_eq_getElem hj) hy')
end
end Go.Fw
end
section
set_option linter.all false
namespace Go.Fw
variable [Globals]

@[simp] theorem AC.retire_p (F : Nat → Bool) (x : CV) : (AC.p x).retire F = .p x := rfl
@[simp] theorem AC.retire_z (F : Nat → Bool) : AC.z.retire F = .z := rfl
@[simp] theorem AC.retire_own (F : Nat → Bool) (f sz n : Nat) (cells : List CV) : (AC.own f sz n cells).retire F = if F f then .p (.sl n cells) else .own f sz n cells := rfl
@[simp] theorem AC.retire_view (F : Nat → Bool) (f n : Nat) (cells : List CV) : (AC.view f n cells).retire F = if F f then .p (.sl n cells) else .view f n cells := rfl
@[simp] theorem AC.retire_tl (F : Nat → Bool) (f sz n : Nat) (cells : List CV) : (AC.tl f sz n cells).retire F = if F f then .p (.sl n cells) else .tl f sz n cells := rfl
@[simp] theorem AC.retire_ep (F : Nat → Bool) (k : Nat) (cells : List CV) (pos : Nat) : (AC.ep (some k) cells pos).retire F = if F k then .ep none cells pos else .ep (some k) cells pos := rfl
@[simp] theorem AC.retire_epn (F : Nat → Bool) (cells : List CV) (pos : Nat) : (AC.ep none cells pos).retire F = .ep none cells pos := rfl
@[simp] theorem AC.retire_epo (F : Nat → Bool) (k : Nat) (cells : List CV) (pos : Nat) : (AC.epo k cells pos).retire F = if F k then .ep none cells pos else .epo k cells pos := rfl
@[simp] theorem AC.retire_ptr (F : Nat → Bool) (b o : Nat) : (AC.ptr b o).retire F = .ptr b o := rfl
@[simp] theorem AC.retire_yield (F : Nat → Bool) (l : Nat) : (AC.yield l).retire F = .yield l := rfl
@[simp] theorem AC.retire_ghost (F : Nat → Bool) (l k : Nat) (xs : List (List EV)) (v : Bool) : (AC.ghost l xs k v).retire F = .ghost l xs k v := rfl
@[simp] theorem AC.retire_fn (F : Nat → Bool) (g : Nat) (caps : List (Nat ⊕ CV)) : (AC.fn g caps).retire F = .fn g caps := rfl
@[simp] theorem AC.retire_bad (F : Nat → Bool) : AC.bad.retire F = .bad := rfl
@[simp] theorem AV.retire_cell (F : Nat → Bool) (x : AC) : (AV.cell x).retire F = .cell (x.retire F) := rfl
@[simp] theorem AV.retire_agg (F : Nat → Bool) (xs : List AC) : (AV.agg xs).retire F = .agg (xs.map (·.retire F)) := rfl
@[simp] theorem AV.retire_tup (F : Nat → Bool) (xs : List AV) : (AV.tup xs).retire F = .tup (xs.map (·.retire F)) := by simp [AV.retire, retire_go_map]
@[simp] theorem AV.retire_bad (F : Nat → Bool) : AV.bad.retire F = .bad := rfl
@[simp] theorem AC.poison_p (F : Nat → Bool) (x : CV) : (AC.p x).poison F = .p x := rfl
@[simp] theorem AC.poison_z (F : Nat → Bool) : AC.z.poison F = .z := rfl
@[simp] theorem AC.poison_own (F : Nat → Bool) (f sz n : Nat) (cells : List CV) : (AC.own f sz n cells).poison F = if F f then .bad else .own f sz n cells := rfl
@[simp] theorem AC.poison_view (F : Nat → Bool) (f n : Nat) (cells : List CV) : (AC.view f n cells).poison F = if F f then .bad else .view f n cells := rfl
@[simp] theorem AC.poison_tl (F : Nat → Bool) (f sz n : Nat) (cells : List CV) : (AC.tl f sz n cells).poison F = if F f then .bad else .tl f sz n cells := rfl
@[simp] theorem AC.poison_ep (F : Nat → Bool) (k : Nat) (cells : List CV) (pos : Nat) : (AC.ep (some k) cells pos).poison F = if F k then .bad else .ep (some k) cells pos := rfl
@[simp] theorem AC.poison_epn (F : Nat → Bool) (cells : List CV) (pos : Nat) : (AC.ep none cells pos).poison F = .ep none cells pos := rfl
@[simp] theorem AC.poison_epo (F : Nat → Bool) (k : Nat) (cells : List CV) (pos : Nat) : (AC.epo k cells pos).poison F = if F k then .bad else .epo k cells pos := rfl
@[simp] theorem AC.poison_ptr (F : Nat → Bool) (b o : Nat) : (AC.ptr b o).poison F = .ptr b o := rfl
@[simp] theorem AC.poison_yield (F : Nat → Bool) (l : Nat) : (AC.yield l).poison F = .yield l := rfl
@[simp] theorem AC.poison_ghost (F : Nat → Bool) (l k : Nat) (xs : List (List EV)) (v : Bool) : (AC.ghost l xs k v).poison F = .ghost l xs k v := rfl
@[simp] theorem AC.poison_fn (F : Nat → Bool) (g : Nat) (caps : List (Nat ⊕ CV)) : (AC.fn g caps).poison F = .fn g caps := rfl
@[simp] theorem AC.poison_bad (F : Nat → Bool) : AC.bad.poison F = .bad := rfl
@[simp] theorem AV.poison_cell (F : Nat → Bool) (x : AC) : (AV.cell x).poison F = .cell (x.poison F) := rfl
@[simp] theorem AV.poison_agg (F : Nat → Bool) (xs : List AC) : (AV.agg xs).poison F = .agg (xs.map (·.poison F)) := rfl
@[simp] theorem AV.poison_tup (F : Nat → Bool) (xs : List AV) : (AV.tup xs).poison F = .tup (xs.map (·.poison F)) := by simp [AV.poison, poison_go_map]
@[simp] theorem AV.poison_bad (F : Nat → Bool) : AV.bad.poison F = .bad := rfl
@[simp] theorem AC.upd_p (f pos : Nat) (cs : List CV) (x : CV) : (AC.p x).upd f pos cs = .p x := rfl
@[simp] theorem AC.upd_z (f pos : Nat) (cs : List CV) : AC.z.upd f pos cs = .z := rfl
@[simp] theorem AC.upd_own (f pos : Nat) (cs : List CV) (g sz n : Nat) (cells : List CV) : (AC.own g sz n cells).upd f pos cs = if g = f then .own g sz n (setRun cells pos cs) else .own g sz n cells := rfl
@[simp] theorem AC.upd_view (f pos : Nat) (cs : List CV) (g n : Nat) (cells : List CV) : (AC.view g n cells).upd f pos cs = if g = f then .bad else .view g n cells := rfl
@[simp] theorem AC.upd_tl (f pos : Nat) (cs : List CV) (g sz n : Nat) (cells : List CV) : (AC.tl g sz n cells).upd f pos cs = if g = f then .bad else .tl g sz n cells := rfl
@[simp] theorem AC.upd_ep (f pos : Nat) (cs : List CV) (g : Nat) (cells : List CV) (k : Nat) : (AC.ep (some g) cells k).upd f pos cs = if g = f then .bad else .ep (some g) cells k := rfl
@[simp] theorem AC.upd_epn (f pos : Nat) (cs : List CV) (cells : List CV) (k : Nat) : (AC.ep none cells k).upd f pos cs = .ep none cells k := rfl
@[simp] theorem AC.upd_epo (f pos : Nat) (cs : List CV) (g : Nat) (cells : List CV) (k : Nat) : (AC.epo g cells k).upd f pos cs = if g = f then .epo g (setRun cells pos cs) k else .epo g cells k := rfl
@[simp] theorem AC.upd_ptr (f pos : Nat) (cs : List CV) (b o : Nat) : (AC.ptr b o).upd f pos cs = .ptr b o := rfl
@[simp] theorem AC.upd_yield (f pos : Nat) (cs : List CV) (l : Nat) : (AC.yield l).upd f pos cs = .yield l := rfl
@[simp] theorem AC.upd_ghost (f pos : Nat) (cs : List CV) (l k : Nat) (xs : List (List EV)) (v : Bool) : (AC.ghost l xs k v).upd f pos cs = .ghost l xs k v := rfl
@[simp] theorem AC.upd_fn (f pos : Nat) (cs : List CV) (g : Nat) (caps : List (Nat ⊕ CV)) : (AC.fn g caps).upd f pos cs = .fn g caps := rfl
@[simp] theorem AC.upd_bad (f pos : Nat) (cs : List CV) : AC.bad.upd f pos cs = .bad := rfl
@[simp] theorem AV.upd_cell (f pos : Nat) (cs : List CV) (x : AC) : (AV.cell x).upd f pos cs = .cell (x.upd f pos cs) := rfl
@[simp] theorem AV.upd_agg (f pos : Nat) (cs : List CV) (xs : List AC) : (AV.agg xs).upd f pos cs = .agg (xs.map (·.upd f pos cs)) := rfl
@[simp] theorem AV.upd_tup (f pos : Nat) (cs : List CV) (xs : List AV) : (AV.tup xs).upd f pos cs = .tup (xs.map (·.upd f pos cs)) := by simp [AV.upd, upd_go]
@[simp] theorem AV.upd_bad (f pos : Nat) (cs : List CV) : AV.bad.upd f pos cs = .bad := rfl
@[simp] theorem AC.unbox_p (i : Nat) (x : CV) : (AC.p x).unbox i = .p x := rfl
@[simp] theorem AC.unbox_z (i : Nat) : AC.z.unbox i = .z := rfl
@[simp] theorem AC.unbox_own (i f sz n : Nat) (cells : List CV) : (AC.own f sz n cells).unbox i = .own f sz n cells := rfl
@[simp] theorem AC.unbox_view (i f n : Nat) (cells : List CV) : (AC.view f n cells).unbox i = .view f n cells := rfl
@[simp] theorem AC.unbox_tl (i f sz n : Nat) (cells : List CV) : (AC.tl f sz n cells).unbox i = .tl f sz n cells := rfl
@[simp] theorem AC.unbox_ep (i : Nat) (k : Option Nat) (cells : List CV) (pos : Nat) : (AC.ep k cells pos).unbox i = .ep k cells pos := rfl
@[simp] theorem AC.unbox_epo (i k : Nat) (cells : List CV) (pos : Nat) : (AC.epo k cells pos).unbox i = .epo k cells pos := rfl
@[simp] theorem AC.unbox_ptr (i b o : Nat) : (AC.ptr b o).unbox i = if b = i then .bad else .ptr b o := rfl
@[simp] theorem AC.unbox_yield (i l : Nat) : (AC.yield l).unbox i = .yield l := rfl
@[simp] theorem AC.unbox_ghost (i l k : Nat) (xs : List (List EV)) (v : Bool) : (AC.ghost l xs k v).unbox i = .ghost l xs k v := rfl
@[simp] theorem AC.unbox_fn (i g : Nat) (caps : List (Nat ⊕ CV)) : (AC.fn g caps).unbox i = if caps.any (fun c => match c with | .inl b => b == i | _ => false) then .bad else .fn g caps := rfl
@[simp] theorem AC.unbox_bad (i : Nat) : AC.bad.unbox i = .bad := rfl
@[simp] theorem AV.unbox_cell (i : Nat) (x : AC) : (AV.cell x).unbox i = .cell (x.unbox i) := rfl
@[simp] theorem AV.unbox_agg (i : Nat) (xs : List AC) : (AV.agg xs).unbox i = .agg (xs.map (·.unbox i)) := rfl
@[simp] theorem AV.unbox_tup (i : Nat) (xs : List AV) : (AV.tup xs).unbox i = .tup (xs.map (·.unbox i)) := by simp [AV.unbox, unbox_go_map]
@[simp] theorem AV.unbox_bad (i : Nat) : AV.bad.unbox i = .bad := rfl
@[simp] theorem AC.arg_p (x : CV) : (AC.p x).arg = .p x := rfl
@[simp] theorem AC.arg_z : AC.z.arg = .z := rfl
@[simp] theorem AC.arg_own (f sz n : Nat) (cells : List CV) : (AC.own f sz n cells).arg = .p (.sl n cells) := rfl
@[simp] theorem AC.arg_view (f n : Nat) (cells : List CV) : (AC.view f n cells).arg = .p (.sl n cells) := rfl
@[simp] theorem AC.arg_tl (f sz n : Nat) (cells : List CV) : (AC.tl f sz n cells).arg = .p (.sl n cells) := rfl
@[simp] theorem AV.arg_cell (x : AC) : (AV.cell x).arg = .cell x.arg := rfl
@[simp] theorem AV.arg_agg (xs : List AC) : (AV.agg xs).arg = .agg (xs.map AC.arg) := rfl
@[simp] theorem AV.arg_bad : AV.bad.arg = .bad := rfl
@[simp] theorem AV.shift_tup (k : Nat) (xs : List AV) : (AV.tup xs).shift k = .tup (xs.map (·.shift k)) := by simp [AV.shift, shift_go]
@[simp] theorem AV.shift_cell (k : Nat) (x : AC) : (AV.cell x).shift k = .cell (x.shift k) := rfl
@[simp] theorem AV.shift_agg (k : Nat) (xs : List AC) : (AV.agg xs).shift k = .agg (xs.map (·.shift k)) := rfl
@[simp] theorem AV.shift_bad (k : Nat) : AV.bad.shift k = .bad := rfl
@[simp] theorem AC.shift_p (k : Nat) (x : CV) : (AC.p x).shift k = .p x := rfl
@[simp] theorem AC.shift_z (k : Nat) : AC.z.shift k = .z := rfl
@[simp] theorem AC.shift_own (k f sz n : Nat) (cells : List CV) : (AC.own f sz n cells).shift k = .own (k + f) sz n cells := rfl
@[simp] theorem AC.shift_view (k f n : Nat) (cells : List CV) : (AC.view f n cells).shift k = .view (k + f) n cells := rfl
@[simp] theorem AC.shift_tl (k f sz n : Nat) (cells : List CV) : (AC.tl f sz n cells).shift k = .tl (k + f) sz n cells := rfl
@[simp] theorem AC.shift_bad (k : Nat) : AC.bad.shift k = .bad := rfl
@[simp] theorem AV.labs_cell (x : AC) : (AV.cell x).labs = x.labs := rfl
@[simp] theorem AV.labs_agg (xs : List AC) : (AV.agg xs).labs = xs.flatMap AC.labs := rfl
@[simp] theorem AV.labs_tup (xs : List AV) : (AV.tup xs).labs = xs.flatMap AV.labs := by simp [AV.labs, labs_go]
@[simp] theorem AV.labs_bad : AV.bad.labs = [] := rfl
@[simp] theorem AC.labs_p (x : CV) : (AC.p x).labs = [] := rfl
@[simp] theorem AC.labs_z : AC.z.labs = [] := rfl
@[simp] theorem AC.labs_own (f sz n : Nat) (cells : List CV) : (AC.own f sz n cells).labs = [f] := rfl
@[simp] theorem AC.labs_view (f n : Nat) (cells : List CV) : (AC.view f n cells).labs = [f] := rfl
@[simp] theorem AC.labs_tl (f sz n : Nat) (cells : List CV) : (AC.tl f sz n cells).labs = [f] := rfl
@[simp] theorem AC.labs_ptr (b o : Nat) : (AC.ptr b o).labs = [] := rfl
@[simp] theorem AC.labs_yield (l : Nat) : (AC.yield l).labs = [] := rfl
@[simp] theorem AC.labs_fn (g : Nat) (caps : List (Nat ⊕ CV)) : (AC.fn g caps).labs = [] := rfl
@[simp] theorem AC.labs_ghost (l k : Nat) (xs : List (List EV)) (v : Bool) : (AC.ghost l xs k v).labs = [] := rfl
@[simp] theorem AC.labs_epn (cells : List CV) (pos : Nat) : (AC.ep none cells pos).labs = [] := rfl
@[simp] theorem AC.labs_bad : AC.bad.labs = [] := rfl
@[simp] theorem AV.flat_cell (x : AC) : (AV.cell x).flat = x.flat := rfl
@[simp] theorem AV.flat_agg (xs : List AC) : (AV.agg xs).flat = xs.all AC.flat := rfl
@[simp] theorem AV.flat_tup (xs : List AV) : (AV.tup xs).flat = xs.all AV.flat := by simp [AV.flat, flat_go]
@[simp] theorem AV.flat_bad : AV.bad.flat = true := rfl
@[simp] theorem AC.flat_p (x : CV) : (AC.p x).flat = x.isC := rfl
@[simp] theorem AC.flat_z : AC.z.flat = true := rfl
@[simp] theorem AC.flat_own (f sz n : Nat) (cells : List CV) : (AC.own f sz n cells).flat = cells.all CV.isC := rfl
@[simp] theorem AC.flat_bad : AC.bad.flat = true := rfl
@[simp] theorem CV.isC_c (v : Value) : (CV.c v).isC = true := rfl
@[simp] theorem CV.isC_fn (g : Nat) (caps : List CV) : (CV.fn g caps).isC = false := rfl
@[simp] theorem CV.isC_bx (cells : List CV) : (CV.bx cells).isC = false := rfl
@[simp] theorem CV.isC_sl (n : Nat) (cells : List CV) : (CV.sl n cells).isC = false := rfl

/-! Maps. -/
@[simp] theorem MV.poison_v (F : Nat → Bool) (x : CV) : (MV.v x).poison F = .v x := rfl
@[simp] theorem MV.poison_inner (F : Nat → Bool) (f : Nat) (ks : List Int) (vs : List CV) : (MV.inner f ks vs).poison F = if F f then .bad else .inner f ks vs := rfl
@[simp] theorem MV.retire_v (F : Nat → Bool) (x : CV) : (MV.v x).retire F = .v x := rfl
@[simp] theorem MV.retire_inner (F : Nat → Bool) (f : Nat) (ks : List Int) (vs : List CV) : (MV.inner f ks vs).retire F = if F f then .v (.mp ks vs) else .inner f ks vs := rfl
@[simp] theorem MV.updM_v (f : Nat) (ks : List Int) (vs : List MV) (x : CV) : (MV.v x).updM f ks vs = .v x := rfl
@[simp] theorem MV.updM_inner (f : Nat) (ks : List Int) (vs : List MV) (g : Nat) (ks' : List Int) (vs' : List CV) : (MV.inner g ks' vs').updM f ks vs = if g = f then (match mvCVs vs with | some cs => .inner g ks cs | none => .bad) else .inner g ks' vs' := rfl
@[simp] theorem MV.pure_v (x : CV) : (MV.v x).pure = .v x := rfl
@[simp] theorem MV.pure_inner (f : Nat) (ks : List Int) (vs : List CV) : (MV.inner f ks vs).pure = .v (.mp ks vs) := rfl
@[simp] theorem MV.labs_v (x : CV) : (MV.v x).labs = [] := rfl
@[simp] theorem MV.labs_inner (f : Nat) (ks : List Int) (vs : List CV) : (MV.inner f ks vs).labs = [f] := rfl
@[simp] theorem mvCVs_v (l : List CV) : mvCVs (l.map .v) = some l := by
  induction l with
  | nil => rfl
  | cons x l ih => simp [mvCVs, MV.toCV, ih]
@[simp] theorem mvCVs_nil : mvCVs [] = some [] := rfl
@[simp] theorem mvpoison_map (F : Nat → Bool) (l : List CV) : (l.map MV.v).map (·.poison F) = l.map .v := by simp [Function.comp_def]
@[simp] theorem mvretire_map (F : Nat → Bool) (l : List CV) : (l.map MV.v).map (·.retire F) = l.map .v := by simp [Function.comp_def]
@[simp] theorem mvpure_map (l : List CV) : (l.map MV.v).map MV.pure = l.map .v := by simp [Function.comp_def]
@[simp] theorem mvupd_map (f : Nat) (ks : List Int) (vs : List MV) (l : List CV) : (l.map MV.v).map (·.updM f ks vs) = l.map .v := by simp [Function.comp_def]
@[simp] theorem mvlabs_map (l : List CV) : (l.map MV.v).flatMap MV.labs = [] := by simp [List.flatMap_map]
@[simp] theorem posK_nil : posK [] = true := rfl
@[simp] theorem negK_nil : negK [] = true := rfl
@[simp] theorem AC.retire_mown (F : Nat → Bool) (f : Nat) (ks : List Int) (vs : List MV) : (AC.mown f ks vs).retire F = if F f then (match mvCVs (vs.map (·.retire F)) with | some cs => .p (.mp ks cs) | none => .bad) else .mown f ks (vs.map (·.retire F)) := rfl
@[simp] theorem AC.poison_mown (F : Nat → Bool) (f : Nat) (ks : List Int) (vs : List MV) : (AC.mown f ks vs).poison F = if F f then .bad else .mown f ks (vs.map (·.poison F)) := rfl
@[simp] theorem AC.unbox_mown (i f : Nat) (ks : List Int) (vs : List MV) : (AC.mown f ks vs).unbox i = .mown f ks vs := rfl
@[simp] theorem AC.upd_mown (f pos : Nat) (cs : List CV) (g : Nat) (ks : List Int) (vs : List MV) : (AC.mown g ks vs).upd f pos cs = if g = f then .bad else .mown g ks (vs.map (·.poison fun x => decide (x = f))) := rfl
@[simp] theorem AC.arg_mown (f : Nat) (ks : List Int) (vs : List MV) : (AC.mown f ks vs).arg = match mvCVs (vs.map MV.pure) with | some cs => .p (.mp ks cs) | none => .bad := rfl
@[simp] theorem AC.labs_mown (f : Nat) (ks : List Int) (vs : List MV) : (AC.mown f ks vs).labs = f :: vs.flatMap MV.labs := rfl
@[simp] theorem AC.flat_mown (f : Nat) (ks : List Int) (vs : List MV) : (AC.mown f ks vs).flat = false := rfl
@[simp] theorem AC.only_mown (T : List Nat) (f : Nat) (ks : List Int) (vs : List MV) : (AC.mown f ks vs).only T = .bad := rfl
@[simp] theorem AC.updM_mown (f : Nat) (ks : List Int) (vs : List MV) (g : Nat) (ks' : List Int) (vs' : List MV) : (AC.mown g ks' vs').updM f ks vs = if g = f then .mown g ks vs else .mown g ks' (vs'.map (·.updM f ks vs)) := rfl
@[simp] theorem AC.updM_p (f : Nat) (ks : List Int) (vs : List MV) (x : CV) : (AC.p x).updM f ks vs = .p x := rfl
@[simp] theorem AC.updM_z (f : Nat) (ks : List Int) (vs : List MV) : AC.z.updM f ks vs = .z := rfl
@[simp] theorem AC.updM_own (f : Nat) (ks : List Int) (vs : List MV) (g sz n : Nat) (cells : List CV) : (AC.own g sz n cells).updM f ks vs = if eqF f g then .bad else .own g sz n cells := rfl
@[simp] theorem AC.updM_view (f : Nat) (ks : List Int) (vs : List MV) (g n : Nat) (cells : List CV) : (AC.view g n cells).updM f ks vs = if eqF f g then .bad else .view g n cells := rfl
@[simp] theorem AC.updM_tl (f : Nat) (ks : List Int) (vs : List MV) (g sz n : Nat) (cells : List CV) : (AC.tl g sz n cells).updM f ks vs = if eqF f g then .bad else .tl g sz n cells := rfl
@[simp] theorem AC.updM_epn (f : Nat) (ks : List Int) (vs : List MV) (cells : List CV) (pos : Nat) : (AC.ep none cells pos).updM f ks vs = .ep none cells pos := rfl
@[simp] theorem AC.updM_epo (f : Nat) (ks : List Int) (vs : List MV) (g : Nat) (cells : List CV) (pos : Nat) : (AC.epo g cells pos).updM f ks vs = if eqF f g then .bad else .epo g cells pos := rfl
@[simp] theorem AC.updM_ptr (f : Nat) (ks : List Int) (vs : List MV) (b o : Nat) : (AC.ptr b o).updM f ks vs = .ptr b o := rfl
@[simp] theorem AC.updM_fn (f : Nat) (ks : List Int) (vs : List MV) (g : Nat) (caps : List (Nat ⊕ CV)) : (AC.fn g caps).updM f ks vs = .fn g caps := rfl
@[simp] theorem AC.updM_bad (f : Nat) (ks : List Int) (vs : List MV) : AC.bad.updM f ks vs = .bad := rfl
@[simp] theorem AV.updM_cell (f : Nat) (ks : List Int) (vs : List MV) (x : AC) : (AV.cell x).updM f ks vs = .cell (x.updM f ks vs) := rfl
@[simp] theorem AV.updM_agg (f : Nat) (ks : List Int) (vs : List MV) (xs : List AC) : (AV.agg xs).updM f ks vs = .agg (xs.map (·.updM f ks vs)) := rfl
@[simp] theorem AV.updM_tup (f : Nat) (ks : List Int) (vs : List MV) (xs : List AV) : (AV.tup xs).updM f ks vs = .tup (xs.map (·.updM f ks vs)) := by simp [AV.updM, updM_go]
@[simp] theorem AV.updM_bad (f : Nat) (ks : List Int) (vs : List MV) : AV.bad.updM f ks vs = .bad := rfl
@[simp] theorem CV.isC_mp (ks : List Int) (vs : List CV) : (CV.mp ks vs).isC = false := rfl
@[simp] theorem AC.rlabs_mown (f : Nat) (ks : List Int) (vs : List MV) : (AC.mown f ks vs).rlabs = [] := rfl
@[simp] theorem AC.rlabs_p (x : CV) : (AC.p x).rlabs = [] := rfl
@[simp] theorem AC.rlabs_z : AC.z.rlabs = [] := rfl
@[simp] theorem AC.rlabs_own (f sz n : Nat) (cells : List CV) : (AC.own f sz n cells).rlabs = [f] := rfl
@[simp] theorem AC.rlabs_view (f n : Nat) (cells : List CV) : (AC.view f n cells).rlabs = [f] := rfl
@[simp] theorem AC.rlabs_tl (f sz n : Nat) (cells : List CV) : (AC.tl f sz n cells).rlabs = [f] := rfl
@[simp] theorem AC.rlabs_bad : AC.bad.rlabs = [] := rfl
@[simp] theorem AV.rlabs_cell (x : AC) : (AV.cell x).rlabs = x.rlabs := rfl
@[simp] theorem AV.rlabs_agg (xs : List AC) : (AV.agg xs).rlabs = xs.flatMap AC.rlabs := rfl
@[simp] theorem AV.rlabs_tup (xs : List AV) : (AV.tup xs).rlabs = xs.flatMap AV.rlabs := by simp [AV.rlabs, rlabs_go]
@[simp] theorem AV.rlabs_bad : AV.bad.rlabs = [] := rfl
/-! Rows of pure cells. -/
@[simp] theorem comp_retire_p {α : Type} (F : Nat → Bool) (g : α → CV) : ((fun x => AC.retire F x) ∘ fun b => AC.p (g b)) = fun b => AC.p (g b) := rfl
@[simp] theorem comp_poison_p {α : Type} (F : Nat → Bool) (g : α → CV) : ((fun x => AC.poison F x) ∘ fun b => AC.p (g b)) = fun b => AC.p (g b) := rfl
@[simp] theorem comp_unbox_p {α : Type} (i : Nat) (g : α → CV) : ((fun x => AC.unbox i x) ∘ fun b => AC.p (g b)) = fun b => AC.p (g b) := rfl
@[simp] theorem comp_shift_p {α : Type} (k : Nat) (g : α → CV) : ((fun x => AC.shift k x) ∘ fun b => AC.p (g b)) = fun b => AC.p (g b) := rfl
@[simp] theorem comp_arg_p {α : Type} (g : α → CV) : (AC.arg ∘ fun b => AC.p (g b)) = fun b => AC.p (g b) := rfl
@[simp] theorem comp_upd_p {α : Type} (f pos : Nat) (cs : List CV) (g : α → CV) : ((fun x => AC.upd f pos cs x) ∘ fun b => AC.p (g b)) = fun b => AC.p (g b) := rfl
@[simp] theorem comp_updM_p {α : Type} (f : Nat) (ks : List Int) (vs : List MV) (g : α → CV) : ((fun x => AC.updM f ks vs x) ∘ fun b => AC.p (g b)) = fun b => AC.p (g b) := rfl
@[simp] theorem comp_only_p {α : Type} (T : List Nat) (g : α → CV) : ((fun x => AC.only T x) ∘ fun b => AC.p (g b)) = fun b => AC.p (g b) := rfl
@[simp] theorem comp_retire_p' (F : Nat → Bool) : ((fun x => AC.retire F x) ∘ AC.p) = AC.p := rfl
@[simp] theorem comp_poison_p' (F : Nat → Bool) : ((fun x => AC.poison F x) ∘ AC.p) = AC.p := rfl
@[simp] theorem comp_unbox_p' (i : Nat) : ((fun x => AC.unbox i x) ∘ AC.p) = AC.p := rfl
@[simp] theorem comp_shift_p' (k : Nat) : ((fun x => AC.shift k x) ∘ AC.p) = AC.p := rfl
@[simp] theorem comp_arg_p' : (AC.arg ∘ AC.p) = AC.p := rfl
@[simp] theorem comp_upd_p' (f pos : Nat) (cs : List CV) : ((fun x => AC.upd f pos cs x) ∘ AC.p) = AC.p := rfl
@[simp] theorem comp_updM_p' (f : Nat) (ks : List Int) (vs : List MV) : ((fun x => AC.updM f ks vs x) ∘ AC.p) = AC.p := rfl
@[simp] theorem comp_only_p' (T : List Nat) : ((fun x => AC.only T x) ∘ AC.p) = AC.p := rfl
/-! Both ways at once. -/
@[simp] theorem AV.retire_ite (F : Nat → Bool) (p : Prop) [Decidable p] (x y : AV) : (if p then x else y).retire F = if p then x.retire F else y.retire F := by split <;> rfl
@[simp] theorem AV.poison_ite (F : Nat → Bool) (p : Prop) [Decidable p] (x y : AV) : (if p then x else y).poison F = if p then x.poison F else y.poison F := by split <;> rfl
@[simp] theorem AV.unbox_ite (i : Nat) (p : Prop) [Decidable p] (x y : AV) : (if p then x else y).unbox i = if p then x.unbox i else y.unbox i := by split <;> rfl
@[simp] theorem AV.upd_ite (f pos : Nat) (cs : List CV) (p : Prop) [Decidable p] (x y : AV) : (if p then x else y).upd f pos cs = if p then x.upd f pos cs else y.upd f pos cs := by split <;> rfl
@[simp] theorem AV.updM_ite (f : Nat) (ks : List Int) (vs : List MV) (p : Prop) [Decidable p] (x y : AV) : (if p then x else y).updM f ks vs = if p then x.updM f ks vs else y.updM f ks vs := by split <;> rfl
@[simp] theorem AV.only_ite (T : List Nat) (p : Prop) [Decidable p] (x y : AV) : (if p then x else y).only T = if p then x.only T else y.only T := by split <;> rfl
@[simp] theorem AV.arg_ite (p : Prop) [Decidable p] (x y : AV) : (if p then x else y).arg = if p then x.arg else y.arg := by split <;> rfl
@[simp] theorem AV.shift_ite (k : Nat) (p : Prop) [Decidable p] (x y : AV) : (if p then x else y).shift k = if p then x.shift k else y.shift k := by split <;> rfl
@[simp] theorem gdV_b (b w : Bool) : gdV (bV b) w = some (b == w) := rfl
@[simp] theorem gdV_u (w : Bool) : gdV (.tup []) w = some false := rfl
@[simp] theorem gdV_ite (p : Prop) [Decidable p] (x y : AV) (w : Bool) : gdV (if p then x else y) w = if p then gdV x w else gdV y w := by split <;> rfl
@[simp] theorem some_ite (p : Prop) [Decidable p] (a b : Bool) : (if p then some a else some b) = some (if p then a else b) := by split <;> rfl
@[simp] theorem ite_tt {α : Type} (p : Prop) [Decidable p] (x y z : α) : (if p then (if p then x else y) else z) = if p then x else z := by split <;> rfl
@[simp] theorem ite_and_l {α : Type} (p q : Prop) [Decidable p] [Decidable q] (x y z : α) : (if p then (if p ∧ q then x else y) else z) = if p then (if q then x else y) else z := by by_cases p <;> simp_all
@[simp] theorem ite_bV_and (a b : Bool) : (if a = true then bV b else bV false) = bV (andB a b) := by cases a <;> rfl
@[simp] theorem ite_bV_and' (a b : Bool) : (if a = false then bV b else bV false) = bV (andB (!a) b) := by cases a <;> rfl
@[simp] theorem ite_bV_or (a b : Bool) : (if a = true then bV true else bV b) = bV (orB a b) := by cases a <;> rfl
@[simp] theorem ite_bV_or' (a b : Bool) : (if a = false then bV true else bV b) = bV (orB (!a) b) := by cases a <;> rfl
@[simp] theorem ite_tf {α : Type} (a : Bool) (x y z : α) : (if a = true then x else if a = false then y else z) = if a = true then x else y := by cases a <;> rfl
@[simp] theorem ite_ft {α : Type} (a : Bool) (x y z : α) : (if a = false then x else if a = true then y else z) = if a = false then x else y := by cases a <;> rfl
@[simp] theorem ite_t_tf {α : Type} (a : Bool) (x y z : α) : (if a = true then (if a = false then x else y) else z) = if a = true then y else z := by cases a <;> rfl
@[simp] theorem ite_tf2 {α : Type} (a : Bool) (x y z : α) : (if a = false then (if a = true then x else y) else z) = if a = false then y else z := by cases a <;> rfl

attribute [simp] mapUpdK keyC outK AV.mv? MV.av qlookup eqF qeq eqPair callT capsA capA capCV capsCV EV.av selfB qval evAV constAV constAC valBin intBin strBin valUn appendK srcA AC.sl? storeK inL isId qconv qbuildSlice qbuild partsA AV.cells? AC.one fillA setRun repA toCVs AC.toCV Value.oneCell' AV.isC
  qload qfieldAddr qfield qindexAddr qindex qslice bound partAC placesA qbuiltin makeK
@[simp] theorem st0_env (args : List AV) (s : Nat) : (st0 args).env s = args.getD s .bad := rfl
@[simp] theorem st0_box (args : List AV) (i : Nat) : (st0 args).box i = none := rfl
@[simp] theorem put_none (st : St) (x : AV) : st.put none x = st := rfl
@[simp] theorem put_env (st : St) (d : Nat) (x : AV) (s : Nat) : (st.put (some d) x).env s = if s = d then x else st.env s := rfl
@[simp] theorem put_box (st : St) (d : Nat) (x : AV) : (st.put (some d) x).box = st.box := rfl
@[simp] theorem retire_env (st : St) (F : Nat → Bool) (s : Nat) : (st.retire F).env s = (st.env s).retire F := rfl
@[simp] theorem retire_box (st : St) (F : Nat → Bool) (i : Nat) : (st.retire F).box i = (st.box i).map (·.map (·.retire F)) := rfl
@[simp] theorem poison_env (st : St) (F : Nat → Bool) (s : Nat) : (st.poison F).env s = (st.env s).poison F := rfl
@[simp] theorem poison_box (st : St) (F : Nat → Bool) (i : Nat) : (st.poison F).box i = (st.box i).map (·.map (·.poison F)) := rfl
@[simp] theorem unbox_env (st : St) (i : Nat) (s : Nat) : (st.unbox i).env s = (st.env s).unbox i := rfl
@[simp] theorem unbox_box (st : St) (i k : Nat) : (st.unbox i).box k = if k = i then none else (st.box k).map (·.map (·.unbox i)) := rfl
@[simp] theorem setBox_env (st : St) (i : Nat) (xs : List AC) : (st.setBox i xs).env = st.env := rfl
@[simp] theorem setBox_box (st : St) (i k : Nat) (xs : List AC) : (st.setBox i xs).box k = if k = i then some xs else st.box k := rfl
@[simp] theorem upd_env (st : St) (f pos : Nat) (cs : List CV) (s : Nat) : (st.upd f pos cs).env s = (st.env s).upd f pos cs := rfl
@[simp] theorem upd_box (st : St) (f pos : Nat) (cs : List CV) (i : Nat) : (st.upd f pos cs).box i = (st.box i).map (·.map (·.upd f pos cs)) := rfl
@[simp] theorem updM_env (st : St) (f : Nat) (ks : List Int) (vs : List MV) (s : Nat) : (st.updM f ks vs).env s = (st.env s).updM f ks vs := rfl
@[simp] theorem updM_box (st : St) (f : Nat) (ks : List Int) (vs : List MV) (i : Nat) : (st.updM f ks vs).box i = (st.box i).map (·.map (·.updM f ks vs)) := rfl
@[simp] theorem setG_env (st : St) (x : AC) (s : Nat) : (st.setG x).env s = if s = gslot then .cell x else st.env s := rfl
@[simp] theorem setG_box (st : St) (x : AC) : (st.setG x).box = st.box := rfl
@[simp] theorem base_env (st : St) (T : List Nat) (bx : Nat → Option (List AC)) (s : Nat) : (st.base T bx).env s = if s = gslot then .bad else (st.env s).only T := rfl
@[simp] theorem base_box (st : St) (T : List Nat) (bx : Nat → Option (List AC)) : (st.base T bx).box = bx := rfl

/-- The result of a call, relabelled. -/
theorem callK_at {P : Program} {id n : Nat} {args : List Operand} {st : St} {K : AV → St → Prop} {as : List AV} {r : AV} (hAt : At P n as r) (has : (args.map fun x => (evAV st.env x).arg) = as)
    (hlab : r.labs.all (fun f => decide (f < 64)) = true) (hflat : r.flat = true) (hK : K (r.shift id) (st.retire (isId id))) : callK P id n args st K := by
  subst has
  exact ⟨r, hAt, hlab, by rw [if_pos hflat]; exact hK⟩
/-- The same, where the result may lead to what the arguments lead to. -/
theorem callK_at' {P : Program} {id n : Nat} {args : List Operand} {st : St} {K : AV → St → Prop} {as : List AV} {r : AV} (hAt : At P n as r) (has : (args.map fun x => (evAV st.env x).arg) = as)
    (hlab : r.labs.all (fun f => decide (f < 64)) = true) (hflat : r.flat = false) (hK : K (r.shift id) ((st.retire (isId id)).retire (inL (args.flatMap fun x => (evAV st.env x).labs)))) : callK P id n args st K := by
  subst has
  exact ⟨r, hAt, hlab, by rw [hflat]; exact hK⟩

/-! canon -/
@[simp] theorem AC.relab_p (l : List Nat) (x : CV) : (AC.p x).relab l = .p x := rfl
@[simp] theorem AC.relab_z (l : List Nat) : AC.z.relab l = .z := rfl
@[simp] theorem AC.relab_own (l : List Nat) (f sz n : Nat) (cells : List CV) : (AC.own f sz n cells).relab l = .own (l.idxOf f) sz n cells := rfl
@[simp] theorem AC.relab_view (l : List Nat) (f n : Nat) (cells : List CV) : (AC.view f n cells).relab l = .view (l.idxOf f) n cells := rfl
@[simp] theorem AC.relab_tl (l : List Nat) (f sz n : Nat) (cells : List CV) : (AC.tl f sz n cells).relab l = .tl (l.idxOf f) sz n cells := rfl
@[simp] theorem AC.relab_bad (l : List Nat) : AC.bad.relab l = .bad := rfl
@[simp] theorem AV.relab_cell (l : List Nat) (x : AC) : (AV.cell x).relab l = .cell (x.relab l) := rfl
@[simp] theorem AV.relab_agg (l : List Nat) (xs : List AC) : (AV.agg xs).relab l = .agg (xs.map (·.relab l)) := rfl
@[simp] theorem AV.relab_tup (l : List Nat) (xs : List AV) : (AV.tup xs).relab l = .tup (xs.map (·.relab l)) := by simp [AV.relab, relab_go]
@[simp] theorem AV.relab_bad (l : List Nat) : AV.bad.relab l = .bad := rfl
theorem only_tup (T : List Nat) (xs : List AV) : (AV.tup xs).only T = .tup (xs.map (·.only T)) := by simp [AV.only, only_go]
@[simp] theorem AV.only_cell (T : List Nat) (x : AC) : (AV.cell x).only T = .cell (x.only T) := rfl
@[simp] theorem AV.only_agg (T : List Nat) (xs : List AC) : (AV.agg xs).only T = .agg (xs.map (·.only T)) := rfl
@[simp] theorem AV.only_bad (T : List Nat) : AV.bad.only T = .bad := rfl
@[simp] theorem AC.only_p (T : List Nat) (x : CV) : (AC.p x).only T = .p x := rfl
@[simp] theorem AC.only_z (T : List Nat) : AC.z.only T = .z := rfl
@[simp] theorem AC.only_epn (T : List Nat) (cells : List CV) (pos : Nat) : (AC.ep none cells pos).only T = .ep none cells pos := rfl
@[simp] theorem AC.only_ptr (T : List Nat) (b off : Nat) : (AC.ptr b off).only T = if T.contains (b / 65536) then .bad else .ptr b off := rfl
@[simp] theorem AC.only_own (T : List Nat) (f sz n : Nat) (cells : List CV) : (AC.own f sz n cells).only T = .bad := rfl
@[simp] theorem AC.only_bad (T : List Nat) : AC.bad.only T = .bad := rfl
attribute [simp] fin canon retAV resAV List.idxOf_cons

/-! Numbers -/
theorem wrap_i64 {n : Int} (h1 : -9223372036854775808 ≤ n) (h2 : n ≤ 9223372036854775807) : IntKind.wrap .i64 n = n := by
  rw [IntKind.wrap_i64]; omega
/-- A number's lowest byte. -/
def byteN (n : Nat) : UInt8 := UInt8.ofNat n
theorem byteN_toNat (n : Nat) : (byteN n).toNat = n % 256 := by simp [byteN]
theorem wrap_u8_nat (n : Nat) : IntKind.wrap .u8 (n : Int) = ((byteN n).toNat : Int) := by
  simp [byteN, IntKind.wrap, IntKind.bits, IntKind.signed]
theorem wrap_u8_lt {n : Int} (h1 : 0 ≤ n) (h2 : n < 256) : IntKind.wrap .u8 n = n := by
  simp [IntKind.wrap, IntKind.bits, IntKind.signed]; omega
theorem tmod_nat (a b : Nat) : (a : Int).tmod (b : Int) = ((a % b : Nat) : Int) := by rw [Int.tmod_eq_emod_of_nonneg (by omega)]; simp
theorem tdiv_nat (a b : Nat) : (a : Int).tdiv (b : Int) = ((a / b : Nat) : Int) := by rw [Int.tdiv_eq_ediv_of_nonneg (by omega)]; simp

theorem shl_nat {k : IntKind} {a s : Nat} (hs : s ≤ k.bits) : shlI k (a : Int) (s : Int) = k.wrap ((a * 2 ^ s : Nat) : Int) := by
  simp [shlI, Nat.min_eq_left hs]
theorem shr_nat {k : IntKind} {a s : Nat} (hs : s ≤ k.bits) : shrI k (a : Int) (s : Int) = ((a / 2 ^ s : Nat) : Int) := by
  unfold shrI
  rw [Int.toNat_natCast, Nat.min_eq_left hs, Int.fdiv_eq_ediv_of_nonneg _ (by exact Int.le_of_lt (Int.pow_pos (by omega)))]
  simp
theorem wrap_u64_nat (n : Nat) : IntKind.wrap .u64 (n : Int) = ((n % 18446744073709551616 : Nat) : Int) := by rw [IntKind.wrap_u64]; simp
theorem wrap_u32_nat (n : Nat) : IntKind.wrap .u32 (n : Int) = ((n % 4294967296 : Nat) : Int) := by rw [IntKind.wrap_u32']; simp

/-! Bytes -/
theorem byteCV_def (b : UInt8) : CV.c (.int .u8 (b.toNat : Int)) = byteCV b := rfl
@[simp] theorem bytesCV_length (l : List UInt8) : (bytesCV l).length = l.length := by simp [bytesCV]
theorem bytesCV_append (l r : List UInt8) : bytesCV l ++ bytesCV r = bytesCV (l ++ r) := by simp [bytesCV]
theorem bytesCV_one (b : UInt8) : [CV.c (.int .u8 (b.toNat : Int))] = bytesCV [b] := rfl
theorem bytesCV_nil : ([] : List CV) = bytesCV [] := rfl
@[simp] theorem bytesCV_isC (l : List UInt8) : (bytesCV l).all CV.isC = true := by simp [bytesCV, byteCV]
theorem bytesCV_drop (l : List UInt8) (n : Nat) : (bytesCV l).drop n = bytesCV (l.drop n) := by simp [bytesCV]
theorem bytesCV_take (l : List UInt8) (n : Nat) : (bytesCV l).take n = bytesCV (l.take n) := by simp [bytesCV]
@[simp] theorem bytesCV_getE (l : List UInt8) (n : Nat) (h : n < (bytesCV l).length) : (bytesCV l)[n] = .c (.int .u8 ((l[n]'(by simpa using h)).toNat : Int)) := by simp [bytesCV, byteCV]
/-- Parts of a slice of bytes. -/
@[simp] theorem bytes_rest (l : List UInt8) (a : Nat) : ((bytesCV l).drop a).take (l.length - a) = bytesCV (l.drop a) := by
  rw [bytesCV_drop, bytesCV_take, List.take_of_length_le (by simp)]
theorem bytes_part (l : List UInt8) (a b : Nat) : ((bytesCV l).drop a).take (b - a) = bytesCV ((l.take b).drop a) := by
  rw [bytesCV_drop, bytesCV_take, List.drop_take]
theorem bytesCV_get (l : List UInt8) (n : Nat) (h : n < l.length) : (bytesCV l)[n]? = some (.c (.int .u8 (l[n].toNat : Int))) := by simp [bytesCV, byteCV, h]
@[simp] theorem cellsBytes_bytesCV : ∀ l : List UInt8, cellsBytes (bytesCV l) = some l
  | [] => rfl
  | b :: l => by show (cellsBytes (bytesCV l)).map (UInt8.ofNat (b.toNat : Int).toNat :: ·) = _; rw [cellsBytes_bytesCV l]; simp

/-- A slice of bytes, as an argument. -/
abbrev bA (l : List UInt8) : AV := .cell (.p (.sl l.length (bytesCV l)))
/-- A slice of bytes of its own. -/
abbrev bO (f : Nat) (l : List UInt8) : AV := .cell (.own f 1 l.length (bytesCV l))

end Go.Fw
end
section
set_option linter.all false
namespace Go.Fw
variable [Globals]

section
variable {P : Program} {rid : Nat} {ops : Array Oper} {st : St} {bx : Nat → Option (List AC)} {env : Nat → AV} {outs : List AV} {nds : List (Nat × Nat)} {i : Nat}

theorem dops_bars {K : St → Prop} {m : Nat} (hchk : dchk ops = true) (hsz : (decide (ops.size ≤ 1024) && decide (m ≤ ops.size) && barChk ops m) = true)
    (h : dgo P rid ops (st.retire (isRid rid)).box 0 (ops.toList.take m) (st.retire (isRid rid)).env [] [] fun outs nds env => ndOk outs nds = true ∧ tops P rid m (ops.toList.drop m) ⟨env, (st.retire (isRid rid)).box⟩ K) : dops P rid ops st K := by
  simp only [Bool.and_eq_true, decide_eq_true_eq] at hsz
  exact ⟨⟨hchk, hsz.1.1⟩, m, hsz.1.2, hsz.2, h⟩
theorem dgo_nil {K : List AV → List (Nat × Nat) → (Nat → AV) → Prop} (h : K outs nds env) : dgo P rid ops bx i [] env outs nds K := h
theorem dgo_cons {K : List AV → List (Nat × Nat) → (Nat → AV) → Prop} {o : Oper} {rest : List Oper} (hg : o.guard = none)
    (h : ∀ K' : AV → Option (Nat × Nat) → Prop, (∀ out nd, dgo P rid ops bx (i + 1) rest (wr o out env) (outs ++ [out]) (nd.toList ++ nds) K → K' out nd) → dq P rid (rid * 65536 + i * 64) ops bx env o K') : dgo P rid ops bx i (o :: rest) env outs nds K := by
  unfold dgo dstep; rw [hg]; exact h _ (fun _ _ h => h)
theorem dgo_gt {K : List AV → List (Nat × Nat) → (Nat → AV) → Prop} {o : Oper} {rest : List Oper} {j : Nat} {want b : Bool} (hg : o.guard = some (j, want)) {d : Nat} (hd : (ops[j]?).bind (·.dst) = some d) (hb : env d = bV b) (hw : b = want)
    (h : ∀ K' : AV → Option (Nat × Nat) → Prop, (∀ out nd, dgo P rid ops bx (i + 1) rest (wr o out env) (outs ++ [out]) (nd.toList ++ nds) K → K' out nd) → dq P rid (rid * 65536 + i * 64) ops bx env o K') : dgo P rid ops bx i (o :: rest) env outs nds K := by
  have : guardB ops env j want = some true := by unfold guardB; rw [hd]; simp [hb, gdV, hw]
  unfold dgo dstep; rw [hg]; simp only [this]
  exact ⟨fun _ => h _ (fun _ _ h => h), fun hn => by cases hn⟩
theorem dgo_gf {K : List AV → List (Nat × Nat) → (Nat → AV) → Prop} {o : Oper} {rest : List Oper} {j : Nat} {want b : Bool} (hg : o.guard = some (j, want)) {d : Nat} (hd : (ops[j]?).bind (·.dst) = some d) (hb : env d = bV b) (hw : b ≠ want)
    (h : dgo P rid ops bx (i + 1) rest (wr o uV env) (outs ++ [uV]) nds K) : dgo P rid ops bx i (o :: rest) env outs nds K := by
  have : guardB ops env j want = some false := by unfold guardB; rw [hd]; simp [hb, gdV, hw]
  unfold dgo dstep; rw [hg]; simp only [this]
  exact ⟨(fun hn => by cases hn), fun _ => h⟩
theorem pureB_dq {id : Nat} {o : Oper} {v : AV} (hp : pureB o.op = true) (h : qval P id (evAV env) bx o.op = some v) {K : AV → Option (Nat × Nat) → Prop} (hk : K v none) : dq P rid id ops bx env o K := by
  unfold dq
  generalize o.op = op at *
  unfold pureB at hp
  split at hp <;> first | (cases hp; done) | skip
  all_goals (simp only [h]; exact hk)
theorem dgo_ite {K : List AV → List (Nat × Nat) → (Nat → AV) → Prop} {o : Oper} {rest : List Oper} {j : Nat} {want c : Bool} (hg : o.guard = some (j, want)) {d : Nat} (hd : (ops[j]?).bind (·.dst) = some d) (hc : gdV (env d) want = some c)
    (hp : pureB o.op = true) (v : AV) (h1 : c = true → qval P (rid * 65536 + i * 64) (evAV env) bx o.op = some v)
    (h2 : dgo P rid ops bx (i + 1) rest (wr o (if c = true then v else uV) env) (outs ++ [if c = true then v else uV]) nds K) : dgo P rid ops bx i (o :: rest) env outs nds K := by
  have : guardB ops env j want = some c := by unfold guardB; rw [hd]; exact hc
  unfold dgo dstep; rw [hg]; simp only [this]
  refine ⟨fun e => pureB_dq hp (h1 e) ?_, fun e => ?_⟩
  · rw [if_pos e] at h2; exact h2
  · rw [if_neg (by rw [e]; simp)] at h2; exact h2
theorem dgo_icall {K : List AV → List (Nat × Nat) → (Nat → AV) → Prop} {o : Oper} {rest : List Oper} {j : Nat} {want c : Bool} (hg : o.guard = some (j, want)) {d : Nat} (hd : (ops[j]?).bind (·.dst) = some d) (hc : gdV (env d) want = some c)
    {n : Nat} {args : Array Operand} {ts : Array TypeId} (ho : o.op = .call { callee := .value (.func n), args := args, argTypes := ts }) {as : List AV} {r : AV} (hAt : c = true → At P n as r) (has : c = true → (args.toList.map fun x => (evAV env x).arg) = as)
    (hlab : r.labs.all (fun f => decide (f < 64)) = true) (hflat : r.flat = true)
    (h2 : dgo P rid ops bx (i + 1) rest (wr o (if c = true then r.shift (rid * 65536 + i * 64) else uV) env) (outs ++ [if c = true then r.shift (rid * 65536 + i * 64) else uV]) nds K) : dgo P rid ops bx i (o :: rest) env outs nds K := by
  have : guardB ops env j want = some c := by unfold guardB; rw [hd]; exact hc
  unfold dgo dstep; rw [hg]; simp only [this]
  refine ⟨fun e => ?_, fun e => ?_⟩
  · rw [if_pos e] at h2
    unfold dq; rw [ho]
    exact ⟨r, by rw [has e]; exact hAt e, ⟨hlab, by rw [hflat]; rfl⟩, h2⟩
  · rw [if_neg (by rw [e]; simp)] at h2; exact h2
theorem dq_call {id n : Nat} {args : Array Operand} {ts : Array TypeId} {o : Oper} {K : AV → Option (Nat × Nat) → Prop} {as : List AV} {r : AV} (ho : o.op = .call { callee := .value (.func n), args := args, argTypes := ts })
    (hAt : At P n as r) (has : (args.toList.map fun x => (evAV env x).arg) = as) (hlab : r.labs.all (fun f => decide (f < 64)) = true) (hflat : r.flat = true) (hK : K (r.shift id) none) : dq P rid id ops bx env o K := by
  subst has
  unfold dq; rw [ho]
  exact ⟨r, hAt, ⟨hlab, by rw [hflat]; rfl⟩, hK⟩
end
attribute [simp] dq wr putE cons isRid
end Go.Fw
end
section
set_option linter.all false
namespace Go.Fw
variable [Globals]

/-! Frames: what comes behind. simp looks into none of them. -/
def aSeq (P : Program) (b : Code) (Q : Exit → St → Prop) : Exit → St → Prop := aThen (awp P b Q) Q
def nx (P : Program) (rid : Nat) (ops : Array Oper) (i : Nat) (dst : Option Tmp) (rest : List Oper) (K : St → Prop) : AV → St → Prop := fun out st' => aops P rid ops i rest (st'.put dst out) K
def optK (o : Option AV) (K : AV → St → Prop) (st : St) : Prop := match o with
  | some v => K v st
  | none => False
def condK (x : AV) (A B : St → Prop) (st : St) : Prop := match x with
  | .cell (.p (.c (.bool t))) => (t = true → A st) ∧ (t = false → B st)
  | _ => False
def optD (o : Option AV) (X : AV → Option (Nat × Nat) → Prop) : Prop := match o with
  | some v => X v none
  | none => False
/-- A drawn region's operations, over a state. -/
def ego (P : Program) (rid : Nat) (ops : Array Oper) (i : Nat) (l : List Oper) (st : St) (outs : List AV) (nds : List (Nat × Nat)) (K : St → Prop) : Prop :=
  dgo P rid ops st.box i (l.take (barAt l)) st.env outs nds fun outs nds env => ndOk outs nds = true ∧ tops P rid (i + barAt l) (l.drop (barAt l)) ⟨env, st.box⟩ K
def eq_ (P : Program) (rid id : Nat) (ops : Array Oper) (st : St) (o : Oper) (X : AV → Option (Nat × Nat) → Prop) : Prop := dq P rid id ops st.box st.env o X
def dnx (P : Program) (rid : Nat) (ops : Array Oper) (i : Nat) (co dst : Option Nat) (rest : List Oper) (st : St) (outs : List AV) (nds : List (Nat × Nat)) (K : St → Prop) : AV → Option (Nat × Nat) → Prop :=
  fun out nd => ego P rid ops i rest ((st.put co .bad).put dst out) (outs ++ [out]) (nd.toList ++ nds) K
def dsel (P : Program) (rid id : Nat) (ops : Array Oper) (st : St) (c : Option Bool) (o : Oper) (X : AV → Option (Nat × Nat) → Prop) : Prop := match c with
  | some b => (b = true → eq_ P rid id ops st o X) ∧ (b = false → X uV none)
  | none => False

def tK (P : Program) (rid i : Nat) (l : List Oper) (K : St → Prop) : St → Prop := fun st => tops P rid i l st K
def nxt (P : Program) (rid : Nat) (i : Nat) (dst : Option Tmp) (rest : List Oper) (K : St → Prop) : AV → St → Prop := fun out st' => tops P rid i rest (st'.put dst out) K
def pdSt (F : St) (pd : List (Nat × Nat × List AC)) : St := pd.foldr (fun p s => s.setBox p.2.1 p.2.2) F
/-- The same with stores on the way; F: the boxes as they were, st: without those that are stored into. -/
def ego2 (P : Program) (rid : Nat) (ops : Array Oper) (i : Nat) (l : List Oper) (F st : St) (outs : List AV) (nds : List (Nat × Nat)) (pd : List (Nat × Nat × List AC)) (K : St → Prop) : Prop :=
  dgo2 P rid ops F.box st.box i l st.env outs nds pd fun outs nds pd env => ndOk outs nds = true ∧ K ⟨env, sx F.box pd (fun _ => true)⟩
def dnx2 (P : Program) (rid : Nat) (ops : Array Oper) (i : Nat) (co dst : Option Nat) (rest : List Oper) (F st : St) (outs : List AV) (nds : List (Nat × Nat)) (pd : List (Nat × Nat × List AC)) (K : St → Prop) : AV → Option (Nat × Nat) → Prop :=
  fun out nd => ego2 P rid ops i rest F ((st.put co .bad).put dst out) (outs ++ [out]) (nd.toList ++ nds) pd K
def rmB (st : St) (R : List Nat) : St := ⟨st.env, fun i => if R.contains i then none else st.box i⟩

section congr
variable {P : Program} {c : Code} {Q : Exit → St → Prop} {st st' : St} {K : St → Prop} {e : Exit}
@[congr] theorem awp_congr {zz : Nat} (hz : (0 + 0 : Nat) = zz) (h : st = st') : awp P c Q st = awp P c Q st' := by rw [h]
@[congr] theorem aSeq_congr {zz : Nat} (hz : (0 + 0 : Nat) = zz) {b : Code} (h : st = st') : aSeq P b Q e st = aSeq P b Q e st' := by rw [h]
@[congr] theorem aThen_congr {zz : Nat} (hz : (0 + 0 : Nat) = zz) (h : st = st') : aThen K Q e st = aThen K Q e st' := by rw [h]
@[congr] theorem aBlock_congr {zz : Nat} (hz : (0 + 0 : Nat) = zz) {i : Nat} (h : st = st') : aBlock i Q e st = aBlock i Q e st' := by rw [h]
@[congr] theorem aNoGoto_congr {zz : Nat} (hz : (0 + 0 : Nat) = zz) (h : st = st') : aNoGoto Q e st = aNoGoto Q e st' := by rw [h]
@[congr] theorem aops_congr {zz : Nat} (hz : (0 + 0 : Nat) = zz) {rid i : Nat} {ops : Array Oper} {l : List Oper} (h : st = st') : aops P rid ops i l st K = aops P rid ops i l st' K := by rw [h]
@[congr] theorem gop_congr {zz : Nat} (hz : (0 + 0 : Nat) = zz) {id : Nat} {o : Op} {X : AV → St → Prop} (h : st = st') : gop P id o st X = gop P id o st' X := by rw [h]
@[congr] theorem gsel_congr {zz : Nat} (hz : (0 + 0 : Nat) = zz) {id : Nat} {o : Op} {X : AV → St → Prop} {a b : Option Bool} (h0 : a = b) (h : st = st') : gsel P id a o st X = gsel P id b o st' X := by rw [h0, h]
@[congr] theorem optK_congr {zz : Nat} (hz : (0 + 0 : Nat) = zz) {a b : Option AV} {X : AV → St → Prop} (h0 : a = b) (h : st = st') : optK a X st = optK b X st' := by rw [h0, h]
@[congr] theorem condK_congr {zz : Nat} (hz : (0 + 0 : Nat) = zz) {a b : AV} {A B : St → Prop} (h0 : a = b) (h : st = st') : condK a A B st = condK b A B st' := by rw [h0, h]
@[congr] theorem nx_congr {zz : Nat} (hz : (0 + 0 : Nat) = zz) {rid i : Nat} {ops : Array Oper} {dst : Option Tmp} {rest : List Oper} {a b : AV} (h0 : a = b) (h : st = st') : nx P rid ops i dst rest K a st = nx P rid ops i dst rest K b st' := by rw [h0, h]
@[congr] theorem rPost_congr {zz : Nat} (hz : (0 + 0 : Nat) = zz) {st0 : St} {T : List Nat} {I : (Nat → Option (List AC)) → Prop} (h : st = st') : rPost st0 T I Q e st = rPost st0 T I Q e st' := by rw [h]
@[congr] theorem tK_congr {zz : Nat} (hz : (0 + 0 : Nat) = zz) {rid i : Nat} {l : List Oper} (h : st = st') : tK P rid i l K st = tK P rid i l K st' := by rw [h]
@[congr] theorem nxt_congr {zz : Nat} (hz : (0 + 0 : Nat) = zz) {rid i : Nat} {dst : Option Tmp} {rest : List Oper} {a b : AV} (h0 : a = b) (h : st = st') : nxt P rid i dst rest K a st = nxt P rid i dst rest K b st' := by rw [h0, h]
@[congr] theorem fop_congr {zz : Nat} (hz : (0 + 0 : Nat) = zz) {id : Nat} {o : Op} {X : AV → St → Prop} (h : st = st') : fop P id o st X = fop P id o st' X := by rw [h]
@[congr] theorem callK_congr {zz : Nat} (hz : (0 + 0 : Nat) = zz) {id n : Nat} {args : List Operand} {X : AV → St → Prop} (h : st = st') : callK P id n args st X = callK P id n args st' X := by rw [h]
@[congr] theorem storeK_congr {zz : Nat} (hz : (0 + 0 : Nat) = zz) {t : TypeId} {x y : Operand} {X : AV → St → Prop} (h : st = st') : storeK P t x y st X = storeK P t x y st' X := by rw [h]
@[congr] theorem appendK_congr {zz : Nat} (hz : (0 + 0 : Nat) = zz) {id : Nat} {t tx : TypeId} {s s' x x' : AV} {X : AV → St → Prop} (h1 : s = s') (h2 : x = x') (h : st = st') : appendK P id t tx s x st X = appendK P id t tx s' x' st' X := by rw [h1, h2, h]
@[congr] theorem makeK_congr {zz : Nat} (hz : (0 + 0 : Nat) = zz) {id : Nat} {t : TypeId} {s s' x x' : AV} {X : AV → St → Prop} (h1 : s = s') (h2 : x = x') (h : st = st') : makeK P id t s x st X = makeK P id t s' x' st' X := by rw [h1, h2, h]
@[congr] theorem mapUpdK_congr {zz : Nat} (hz : (0 + 0 : Nat) = zz) {t : TypeId} {m m' k k' v v' : AV} {X : AV → St → Prop} (h1 : m = m') (h2 : k = k') (h3 : v = v') (h : st = st') : mapUpdK P t m k v st X = mapUpdK P t m' k' v' st' X := by rw [h1, h2, h3, h]
@[congr] theorem callT_congr {zz : Nat} (hz : (0 + 0 : Nat) = zz) {id t : Nat} {args : List Operand} {X : AV → St → Prop} (h : st = st') : callT P id t args st X = callT P id t args st' X := by rw [h]
@[congr] theorem ego_congr {zz : Nat} (hz : (0 + 0 : Nat) = zz) {rid i : Nat} {ops : Array Oper} {l : List Oper} {outs outs' : List AV} {nds nds' : List (Nat × Nat)} (h1 : st = st') (h2 : outs = outs') (h3 : nds = nds') : ego P rid ops i l st outs nds K = ego P rid ops i l st' outs' nds' K := by rw [h1, h2, h3]
@[congr] theorem dnx_congr {zz : Nat} (hz : (0 + 0 : Nat) = zz) {rid i : Nat} {ops : Array Oper} {co dst : Option Nat} {l : List Oper} {outs : List AV} {nds : List (Nat × Nat)} {a b : AV} {nd nd' : Option (Nat × Nat)} (h1 : a = b) (h2 : nd = nd') : dnx P rid ops i co dst l st outs nds K a nd = dnx P rid ops i co dst l st outs nds K b nd' := by rw [h1, h2]
@[congr] theorem eq__congr {zz : Nat} (hz : (0 + 0 : Nat) = zz) {rid id : Nat} {ops : Array Oper} {o : Oper} {X : AV → Option (Nat × Nat) → Prop} (h1 : st = st') : eq_ P rid id ops st o X = eq_ P rid id ops st' o X := by rw [h1]
@[congr] theorem optD_congr {zz : Nat} (hz : (0 + 0 : Nat) = zz) {a b : Option AV} {X : AV → Option (Nat × Nat) → Prop} (h0 : a = b) : optD a X = optD b X := by rw [h0]
@[congr] theorem dsel_congr {zz : Nat} (hz : (0 + 0 : Nat) = zz) {rid id : Nat} {ops : Array Oper} {o : Oper} {a b : Option Bool} {X : AV → Option (Nat × Nat) → Prop} (h1 : a = b) : dsel P rid id ops st a o X = dsel P rid id ops st b o X := by rw [h1]
@[congr] theorem ego2_congr {zz : Nat} (hz : (0 + 0 : Nat) = zz) {rid i : Nat} {ops : Array Oper} {l : List Oper} {F F' : St} {outs outs' : List AV} {nds nds' : List (Nat × Nat)} {pd pd' : List (Nat × Nat × List AC)} (h0 : F = F') (h1 : st = st') (h2 : outs = outs') (h3 : nds = nds') (h4 : pd = pd') : ego2 P rid ops i l F st outs nds pd K = ego2 P rid ops i l F' st' outs' nds' pd' K := by rw [h0, h1, h2, h3, h4]
@[congr] theorem dnx2_congr {zz : Nat} (hz : (0 + 0 : Nat) = zz) {rid i : Nat} {ops : Array Oper} {co dst : Option Nat} {l : List Oper} {F : St} {outs : List AV} {nds : List (Nat × Nat)} {pd : List (Nat × Nat × List AC)} {a b : AV} {nd nd' : Option (Nat × Nat)} (h1 : a = b) (h2 : nd = nd') : dnx2 P rid ops i co dst l F st outs nds pd K a nd = dnx2 P rid ops i co dst l F st outs nds pd K b nd' := by rw [h1, h2]
end congr

/-- The slot of an operation's result. -/
def slotOf : List Oper → Nat → Option Nat
  | [], _ => none
  | o :: _, 0 => o.dst
  | _ :: l, n + 1 => slotOf l n
@[congr] theorem slotOf_congr {zz : Nat} (hz : (0 + 0 : Nat) = zz) {l : List Oper} {n m : Nat} (h : n = m) : slotOf l n = slotOf l m := by rw [h]
theorem slotOf_eq : ∀ (l : List Oper) (j : Nat), slotOf l j = (l[j]?).bind (·.dst)
  | [], j => by simp [slotOf]
  | o :: l, 0 => rfl
  | o :: l, j + 1 => by simp [slotOf, slotOf_eq l j]
def gdO (d : Option Nat) (env : Nat → AV) (want : Bool) : Option Bool := match d with
  | some d => gdV (env d) want
  | none => none
@[congr] theorem guardB_cg {zz : Nat} (hz : (0 + 0 : Nat) = zz) {ops : Array Oper} {env : Nat → AV} {j j' : Nat} {want : Bool} (h : j = j') : guardB ops env j want = guardB ops env j' want := by rw [h]

section eqns
variable {P : Program} {Q : Exit → St → Prop} {st : St} {K : St → Prop} {rid id i : Nat} {ops : Array Oper} {dst : Option Tmp} {ty : TypeId} {pos : String} {after : Array Edge} {rest : List Oper} {X : AV → St → Prop} {op : Op}
@[simp] theorem awp_seq_eq {a b : Code} : awp P (.seq a b) Q st = awp P a (aSeq P b Q) st := propext Iff.rfl
@[simp] theorem awp_region_eq {l : List Oper} : awp P (.region rid l.toArray false) Q st = aops P rid l.toArray 0 l st (Q .normal) := propext Iff.rfl
@[simp] theorem awp_skip_eq : awp P .skip Q st = Q .normal st := propext Iff.rfl
@[simp] theorem awp_ret_eq : awp P .ret Q st = Q .ret st := propext Iff.rfl
@[simp] theorem awp_exit_eq {k : Nat} : awp P (.exit k) Q st = Q (.exit k) st := propext Iff.rfl
@[simp] theorem awp_label_eq {k : Nat} : awp P (.label k) Q st = Q .normal st := propext Iff.rfl
@[simp] theorem awp_block_eq {k : Nat} {b : Code} : awp P (.block k b) Q st = awp P b (aBlock k Q) st := propext Iff.rfl
@[simp] theorem awp_scope_eq {b : Code} : awp P (.scope b) Q st = awp P b (aNoGoto Q) st := propext Iff.rfl
@[simp] theorem awp_cond_eq {c : Operand} {x y : Code} : awp P (.cond c x y) Q st = condK (evAV st.env c) (awp P x Q) (awp P y Q) st := propext Iff.rfl
@[simp] theorem condK_true {A B : St → Prop} : condK (bV true) A B st = A st := by simp [condK]
@[simp] theorem condK_false {A B : St → Prop} : condK (bV false) A B st = B st := by simp [condK]
theorem condK_intro {A B : St → Prop} {t : Bool} (h1 : t = true → A st) (h2 : t = false → B st) : condK (bV t) A B st := ⟨h1, h2⟩
/-- What is known of the state is all that is kept. -/
theorem condK_at {A B : St → Prop} {x : AV} (p : St → Prop) (c : Bool) (hc : x = bV c) (h0 : p st) (h1 : c = true → ∀ s, p s → A s) (h2 : c = false → ∀ s, p s → B s) : condK x A B st := by
  subst hc; exact ⟨fun e => h1 e st h0, fun e => h2 e st h0⟩
@[simp] theorem aSeq_normal {b : Code} : aSeq P b Q .normal st = awp P b Q st := propext Iff.rfl
@[simp] theorem aSeq_ret {b : Code} : aSeq P b Q .ret st = Q .ret st := propext Iff.rfl
@[simp] theorem aSeq_exit {b : Code} {k : Nat} : aSeq P b Q (.exit k) st = Q (.exit k) st := propext Iff.rfl
@[simp] theorem aThen_normal_eq : aThen K Q .normal st = K st := propext Iff.rfl
@[simp] theorem aThen_ret_eq : aThen K Q .ret st = Q .ret st := propext Iff.rfl
@[simp] theorem aThen_exit_eq {k : Nat} : aThen K Q (.exit k) st = Q (.exit k) st := propext Iff.rfl
@[simp] theorem aBlock_normal_eq {k : Nat} : aBlock k Q .normal st = Q .normal st := propext Iff.rfl
@[simp] theorem aBlock_ret_eq {k : Nat} : aBlock k Q .ret st = Q .ret st := propext Iff.rfl
@[simp] theorem aBlock_same {k : Nat} : aBlock k Q (.exit k) st = Q .normal st := by simp [aBlock]
@[simp] theorem aBlock_exit_eq {k j : Nat} : aBlock k Q (.exit j) st = if j = k then Q .normal st else Q (.exit j) st := propext Iff.rfl
@[simp] theorem aNoGoto_normal_eq : aNoGoto Q .normal st = Q .normal st := propext Iff.rfl
@[simp] theorem aNoGoto_ret_eq : aNoGoto Q .ret st = Q .ret st := propext Iff.rfl
@[simp] theorem aNoGoto_exit_eq {k : Nat} : aNoGoto Q (.exit k) st = Q (.exit k) st := propext Iff.rfl
@[simp] theorem rPost_ret_eq {st0 : St} {T : List Nat} {I : (Nat → Option (List AC)) → Prop} : rPost st0 T I Q .ret st = Q .ret (st0.base T st.box) := propext Iff.rfl
@[simp] theorem rPost_exit_eq {st0 : St} {T : List Nat} {I : (Nat → Option (List AC)) → Prop} {k : Nat} : rPost st0 T I Q (.exit k) st = Q (.exit k) (st0.base T st.box) := propext Iff.rfl
@[simp] theorem setPs_nil {xs : List EV} : setPs [] xs st = st := rfl
@[simp] theorem setPs_cons {p : Tmp} {ps : List Tmp} {x : EV} {xs : List EV} : setPs (p :: ps) (x :: xs) st = setPs ps xs (st.put (some p) x.av) := rfl
attribute [simp] gslot
@[simp] theorem aops_nil_eq : aops P rid ops i [] st K = K st := propext Iff.rfl
@[simp] theorem aops_cons_eq : aops P rid ops i (⟨dst, op, ty, pos, after, none⟩ :: rest) st K = gop P (rid * 65536 + i * 64) op st (nx P rid ops (i + 1) dst rest K) := propext Iff.rfl
@[simp] theorem aops_guard_eq {j : Nat} {want : Bool} : aops P rid ops i (⟨dst, op, ty, pos, after, some (j, want)⟩ :: rest) st K = gsel P (rid * 65536 + i * 64) (guardB ops st.env j want) op st (nx P rid ops (i + 1) dst rest K) := propext Iff.rfl
@[simp] theorem nx_eq {x : AV} : nx P rid ops i dst rest K x st = aops P rid ops i rest (st.put dst x) K := propext Iff.rfl
@[simp] theorem guardB_eq {l : List Oper} {env : Nat → AV} {j : Nat} {want : Bool} : guardB l.toArray env j want = gdO (slotOf l j) env want := by unfold guardB gdO; rw [slotOf_eq]; simp; rfl
@[simp] theorem slotOf_zero {o : Oper} {l : List Oper} : slotOf (o :: l) 0 = o.dst := rfl
@[simp] theorem slotOf_succ {o : Oper} {l : List Oper} {n : Nat} : slotOf (o :: l) (n + 1) = slotOf l n := rfl
@[simp] theorem gdO_some {d : Nat} {env : Nat → AV} {want : Bool} : gdO (some d) env want = gdV (env d) want := rfl
@[simp] theorem gsel_true : gsel P id (some true) op st X = gop P id op st X := propext Iff.rfl
@[simp] theorem gsel_false : gsel P id (some false) op st X = X uV (if isCallB op = true then st.retire (isId id) else st) := propext Iff.rfl
@[simp] theorem optK_some {x : AV} : optK (some x) X st = X x st := propext Iff.rfl
attribute [simp] isCallB
end eqns

section ops
variable {P : Program} {id : Nat} {st : St} {K : AV → St → Prop}
@[simp] theorem gop_move {x : Operand} : gop P id (.move x) st K = K (evAV st.env x) st := propext Iff.rfl
@[simp] theorem gop_assign {x : Operand} : gop P id (.assign x) st K = K (evAV st.env x) st := propext Iff.rfl
@[simp] theorem gop_pick {c a b : Operand} : gop P id (.pick c a b) st K = optK (match evAV st.env c with | .cell (.p (.c (.bool t))) => some (if t then evAV st.env a else evAV st.env b) | _ => none) K st := propext Iff.rfl
@[simp] theorem gop_bin {op : BinOp} {t : TypeId} {x y : Operand} {r} : gop P id (.binOp op t x y r) st K = optK (match evAV st.env x, evAV st.env y with
    | .cell (.p (.c u)), .cell (.p (.c v)) => (valBin P op t u v).map fun r => .cell (.p (.c r))
    | .agg xs, .agg ys => qeq P op t xs ys
    | _, _ => none) K st := propext Iff.rfl
@[simp] theorem gop_un {op : UnOp} {t : TypeId} {x : Operand} : gop P id (.unOp op t x) st K = optK (match evAV st.env x with
    | .cell (.p (.c u)) => (valUn op u).map fun r => .cell (.p (.c r))
    | _ => none) K st := propext Iff.rfl
@[simp] theorem gop_load {t : TypeId} {x : Operand} : gop P id (.load t x) st K = optK (qload P t (evAV st.env x) st.box) K st := propext Iff.rfl
@[simp] theorem gop_nilCheck {x : Operand} : gop P id (.nilCheck x) st K = optK (match evAV st.env x with
    | .cell (.ptr b o) => some (.cell (.ptr b o))
    | _ => none) K st := propext Iff.rfl
@[simp] theorem gop_fieldAddr {t : TypeId} {x : Operand} {f : Nat} : gop P id (.fieldAddr t x f) st K = optK (qfieldAddr P t (evAV st.env x) f) K st := propext Iff.rfl
@[simp] theorem gop_field {t : TypeId} {x : Operand} {f : Nat} : gop P id (.field t x f) st K = optK (qfield P t (evAV st.env x) f) K st := propext Iff.rfl
@[simp] theorem gop_indexAddr {t : TypeId} {x i : Operand} : gop P id (.indexAddr t x i) st K = optK (qindexAddr P t (evAV st.env x) (evAV st.env i)) K st := propext Iff.rfl
@[simp] theorem gop_index {t : TypeId} {x i : Operand} : gop P id (.index t x i) st K = optK (qindex P t (evAV st.env x) (evAV st.env i)) K st := propext Iff.rfl
@[simp] theorem gop_slice {t : TypeId} {x : Operand} {l h m : Option Operand} : gop P id (.slice t x l h m) st K = optK (qslice P t (evAV st.env x) (l.map (evAV st.env)) (h.map (evAV st.env)) (m.map (evAV st.env))) K st := propext Iff.rfl
@[simp] theorem gop_lookup {t : TypeId} {x i : Operand} {ok : Bool} : gop P id (.lookup t x i ok) st K = optK (qlookup P t (evAV st.env x) (evAV st.env i) ok) K st := propext Iff.rfl
@[simp] theorem gop_extract {t : Operand} {i : Nat} : gop P id (.extract t i) st K = optK (match evAV st.env t with
    | .tup xs => xs[i]?
    | _ => none) K st := propext Iff.rfl
@[simp] theorem gop_build {t : TypeId} {parts : List (Nat × Operand)} : gop P id (.build t parts.toArray) st K = optK (qbuild P t parts (evAV st.env)) K st := propext Iff.rfl
@[simp] theorem gop_builtin {b : Builtin} {args : List Operand} {ts : List TypeId} (h : (match b with | .len | .max | .min => true | _ => false) = true) : gop P id (.call { callee := .builtin b, args := args.toArray, argTypes := ts.toArray }) st K = optK (qbuiltin P b ts (args.map (evAV st.env))) K st := by
  cases b <;> first | rfl | (simp at h; done)
@[simp] theorem gop_append {s x : Operand} {t tx : TypeId} : gop P id (.call { callee := .builtin .append, args := #[s, x], argTypes := #[t, tx] }) st K = appendK P id t tx (evAV st.env s) (evAV st.env x) st K := propext Iff.rfl
@[simp] theorem gop_store {t : TypeId} {a v : Operand} : gop P id (.store t a v) st K = storeK P t a v st K := propext Iff.rfl
@[simp] theorem gop_box {t : TypeId} {v : Operand} : gop P id (.box t v) st K = (match (evAV st.env v).cells? with
    | some xs => K (.cell (.ptr id 0)) ((st.unbox id).setBox id (xs.map (·.unbox id)))
    | none => False) := propext Iff.rfl
@[simp] theorem gop_alloc {e : TypeId} : gop P id (.alloc e) st K = (match zeroA P e with
    | some xs => K (.cell (.ptr id 0)) ((st.unbox id).setBox id xs)
    | none => False) := propext Iff.rfl
@[simp] theorem gop_makeSlice {t : TypeId} {l c : Operand} : gop P id (.makeSlice t l c) st K = makeK P id t (evAV st.env l) (evAV st.env c) st K := propext Iff.rfl
@[simp] theorem gop_makeMap {t : TypeId} : gop P id (.makeMap t none) st K = K (.cell (.mown id [] [])) (st.retire (isId id)) := propext Iff.rfl
@[simp] theorem gop_mapUpdate {t : TypeId} {m k x : Operand} : gop P id (.mapUpdate t m k x) st K = mapUpdK P t (evAV st.env m) (evAV st.env k) (evAV st.env x) st K := propext Iff.rfl
@[simp] theorem gop_insert {t : TypeId} {m k x : Operand} : gop P id (.insert t m k x) st K = mapUpdK P t (evAV st.env m) (evAV st.env k) (evAV st.env x) st K := propext Iff.rfl
@[simp] theorem gop_convert {a b : TypeId} {x : Operand} : gop P id (.convert a b x) st K = (if selfB P a b = true then (match evAV st.env x with
      | .cell (.own f sz n cells) => 0 < n ∧ K (.cell (.own f sz n cells)) (st.poison (inL [f]))
      | _ => False) else
    match qconv P id a b (evAV st.env x) with
    | some out =>
      if out.isC then K out st else
      match qconv P id a b ((evAV st.env x).retire (isId id)) with
      | some out' => K out' (st.retire (isId id))
      | none => False
    | none => False) := propext Iff.rfl
@[simp] theorem gop_buildSlice {t : TypeId} {len : Nat} {parts : List (Nat × Operand)} : gop P id (.buildSlice t len parts.toArray) st K = optK (qbuildSlice P id t len parts (evAV (st.retire (fun f => isId id f || inL (parts.flatMap fun p => (evAV st.env p.2).labs) f)).env)) K (st.retire (fun f => isId id f || inL (parts.flatMap fun p => (evAV st.env p.2).labs) f)) := propext Iff.rfl
@[simp] theorem gop_makeFunc {g : FuncId} {first caps : List Operand} : gop P id (.makeFunc (.func g) first.toArray caps.toArray) st K = (first.isEmpty = true ∧ ∃ cs, capsA (evAV st.env) caps = some cs ∧ K (.cell (.fn g cs)) st) := by
  cases first <;> rfl
@[simp] theorem gop_callT {t : Nat} {args : List Operand} {ts : Array TypeId} : gop P id (.call { callee := .value (.tmp t), args := args.toArray, argTypes := ts }) st K = callT P id t args st K := propext Iff.rfl

/-- A call by its contract. -/
theorem gop_call {n : Nat} {args : Array Operand} {ts : Array TypeId} {as : List AV} {r : AV} (hAt : At P n as r) (has : (args.toList.map fun x => (evAV st.env x).arg) = as)
    (hlab : r.labs.all (fun f => decide (f < 64)) = true) (hflat : r.flat = true) (hK : K (r.shift id) (st.retire (isId id))) : gop P id (.call { callee := .value (.func n), args := args, argTypes := ts }) st K :=
  callK_at hAt has hlab hflat hK
theorem gop_call' {n : Nat} {args : Array Operand} {ts : Array TypeId} {as : List AV} {r : AV} (hAt : At P n as r) (has : (args.toList.map fun x => (evAV st.env x).arg) = as)
    (hlab : r.labs.all (fun f => decide (f < 64)) = true) (hflat : r.flat = false) (hK : K (r.shift id) ((st.retire (isId id)).retire (inL (args.toList.flatMap fun x => (evAV st.env x).labs)))) : gop P id (.call { callee := .value (.func n), args := args, argTypes := ts }) st K :=
  callK_at' hAt has hlab hflat hK
@[simp] theorem fop_store {t : TypeId} {a v : Operand} : fop P id (.store t a v) st K = storeK P t a v st K := propext Iff.rfl
@[simp] theorem fop_assign {x : Operand} : fop P id (.assign x) st K = K (evAV st.env x) st := propext Iff.rfl
@[simp] theorem fop_move {x : Operand} : fop P id (.move x) st K = K (evAV st.env x) st := propext Iff.rfl
@[simp] theorem fop_mapUpdate {t : TypeId} {m k x : Operand} : fop P id (.mapUpdate t m k x) st K = mapUpdK P t (evAV st.env m) (evAV st.env k) (evAV st.env x) st K := propext Iff.rfl
end ops

section drawn
variable {P : Program} {Q : Exit → St → Prop} {st : St} {rid i : Nat} {ops : Array Oper} {dst : Option Tmp} {ty : TypeId} {pos : String} {after : Array Edge} {rest : List Oper} {op : Op} {outs : List AV} {nds : List (Nat × Nat)} {K : St → Prop}
theorem awp_draw {l : List Oper} (hchk : dchk l.toArray = true) (hsz : (decide (l.toArray.size ≤ 1024) && decide (barAt l ≤ l.toArray.size) && barChk l.toArray (barAt l)) = true)
    (h : ego P rid l.toArray 0 l (st.retire (isRid rid)) [] [] (Q .normal)) : awp P (.region rid l.toArray true) Q st := by
  unfold ego at h
  rw [Nat.zero_add] at h
  exact awp_drawn (dops_bars hchk hsz h)
@[simp] theorem tK_nil : tK P rid i [] K st = K st := propext Iff.rfl
@[simp] theorem tK_cons {o : Oper} : tK P rid i (o :: rest) K st = fop P (rid * 65536 + i * 64) o.op st (nxt P rid (i + 1) o.dst rest K) := propext Iff.rfl
@[simp] theorem nxt_eq {x : AV} : nxt P rid i dst rest K x st = tK P rid i rest K (st.put dst x) := propext Iff.rfl
@[simp] theorem ego_nil : ego P rid ops i [] st outs nds K = (ndOk outs nds = true ∧ K st) := propext Iff.rfl
theorem put2_box (st : St) (c d : Option Nat) (x y : AV) : ((st.put c x).put d y).box = st.box := by cases c <;> cases d <;> rfl
theorem put2_env (st : St) (c d : Option Nat) (x y : AV) : ((st.put c x).put d y).env = putE (putE st.env c x) d y := by cases c <;> cases d <;> rfl
theorem barAt_cons {o : Oper} (h : isBar o.op = false) : barAt (o :: rest) = barAt rest + 1 := by simp [barAt, List.findIdx_cons, h]
theorem barAt_bar {o : Oper} (h : isBar o.op = true) : barAt (o :: rest) = 0 := by simp [barAt, List.findIdx_cons, h]
theorem ego_step {o : Oper} (h : isBar o.op = false) : ego P rid ops i (o :: rest) st outs nds K = dstep P rid i ops st.box st.env o (dnx P rid ops (i + 1) (cons o) o.dst rest st outs nds K) := by
  unfold dnx ego
  rw [barAt_cons h, List.take_succ_cons, List.drop_succ_cons]
  simp only [put2_box, put2_env, dgo]
  have e : i + (barAt rest + 1) = i + 1 + barAt rest := by omega
  rw [e]
  rfl
@[simp] theorem ego_bar {g : Option (Nat × Bool)} (h : isBar op = true) : ego P rid ops i (⟨dst, op, ty, pos, after, g⟩ :: rest) st outs nds K = (ndOk outs nds = true ∧ tK P rid i (⟨dst, op, ty, pos, after, g⟩ :: rest) K st) := by
  unfold ego
  rw [barAt_bar h]
  exact propext Iff.rfl
@[simp] theorem ego_cons (h : isBar op = false) : ego P rid ops i (⟨dst, op, ty, pos, after, none⟩ :: rest) st outs nds K = eq_ P rid (rid * 65536 + i * 64) ops st ⟨dst, op, ty, pos, after, none⟩ (dnx P rid ops (i + 1) (cons ⟨dst, op, ty, pos, after, none⟩) dst rest st outs nds K) := by
  rw [ego_step h]; exact propext Iff.rfl
@[simp] theorem ego_guard (h : isBar op = false) {j : Nat} {want : Bool} : ego P rid ops i (⟨dst, op, ty, pos, after, some (j, want)⟩ :: rest) st outs nds K = dsel P rid (rid * 65536 + i * 64) ops st (guardB ops st.env j want) ⟨dst, op, ty, pos, after, some (j, want)⟩ (dnx P rid ops (i + 1) (cons ⟨dst, op, ty, pos, after, some (j, want)⟩) dst rest st outs nds K) := by
  rw [ego_step h]; exact propext Iff.rfl
@[simp] theorem isBar_move {vx} : isBar (.move vx) = false := by unfold isBar; rfl
@[simp] theorem isBar_assign {vx} : isBar (.assign vx) = false := by unfold isBar; rfl
@[simp] theorem isBar_pick {va vb vc} : isBar (.pick va vb vc) = false := by unfold isBar; rfl
@[simp] theorem isBar_alloc {va} : isBar (.alloc va) = false := by unfold isBar; rfl
@[simp] theorem isBar_box {va vb} : isBar (.box va vb) = false := by unfold isBar; rfl
@[simp] theorem isBar_build {va vb} : isBar (.build va vb) = false := by unfold isBar; rfl
@[simp] theorem isBar_buildSlice {va vb vc} : isBar (.buildSlice va vb vc) = false := by unfold isBar; rfl
@[simp] theorem isBar_load {va vb} : isBar (.load va vb) = false := by unfold isBar; rfl
@[simp] theorem isBar_nilCheck {va} : isBar (.nilCheck va) = false := by unfold isBar; rfl
@[simp] theorem isBar_binOp {va vb vc vd ve} : isBar (.binOp va vb vc vd ve) = false := by unfold isBar; rfl
@[simp] theorem isBar_unOp {va vb vc} : isBar (.unOp va vb vc) = false := by unfold isBar; rfl
@[simp] theorem isBar_convert {va vb vc} : isBar (.convert va vb vc) = false := by unfold isBar; rfl
@[simp] theorem isBar_makeFunc {va vb vc} : isBar (.makeFunc va vb vc) = false := by unfold isBar; rfl
@[simp] theorem isBar_makeMap {va vb} : isBar (.makeMap va vb) = false := by unfold isBar; rfl
@[simp] theorem isBar_makeSlice {va vb vc} : isBar (.makeSlice va vb vc) = false := by unfold isBar; rfl
@[simp] theorem isBar_slice {va vb vc vd ve} : isBar (.slice va vb vc vd ve) = false := by unfold isBar; rfl
@[simp] theorem isBar_fieldAddr {va vb vc} : isBar (.fieldAddr va vb vc) = false := by unfold isBar; rfl
@[simp] theorem isBar_field {va vb vc} : isBar (.field va vb vc) = false := by unfold isBar; rfl
@[simp] theorem isBar_indexAddr {va vb vc} : isBar (.indexAddr va vb vc) = false := by unfold isBar; rfl
@[simp] theorem isBar_index {va vb vc} : isBar (.index va vb vc) = false := by unfold isBar; rfl
@[simp] theorem isBar_lookup {va vb vc vd} : isBar (.lookup va vb vc vd) = false := by unfold isBar; rfl
@[simp] theorem isBar_extract {va vb} : isBar (.extract va vb) = false := by unfold isBar; rfl
@[simp] theorem isBar_call {va} : isBar (.call va) = false := by unfold isBar; rfl
@[simp] theorem isBar_store {a b c} : isBar (.store a b c) = true := by unfold isBar; rfl
@[simp] theorem isBar_mapUpdate {a b c d} : isBar (.mapUpdate a b c d) = true := by unfold isBar; rfl
@[simp] theorem isAl_move {vx} : isAl (.move vx) = false := by unfold isAl; rfl
@[simp] theorem isAl_assign {vx} : isAl (.assign vx) = false := by unfold isAl; rfl
@[simp] theorem isAl_pick {va vb vc} : isAl (.pick va vb vc) = false := by unfold isAl; rfl
@[simp] theorem isAl_alloc {va} : isAl (.alloc va) = true := by unfold isAl; rfl
@[simp] theorem isAl_box {va vb} : isAl (.box va vb) = false := by unfold isAl; rfl
@[simp] theorem isAl_build {va vb} : isAl (.build va vb) = false := by unfold isAl; rfl
@[simp] theorem isAl_buildSlice {va vb vc} : isAl (.buildSlice va vb vc) = false := by unfold isAl; rfl
@[simp] theorem isAl_load {va vb} : isAl (.load va vb) = false := by unfold isAl; rfl
@[simp] theorem isAl_nilCheck {va} : isAl (.nilCheck va) = false := by unfold isAl; rfl
@[simp] theorem isAl_binOp {va vb vc vd ve} : isAl (.binOp va vb vc vd ve) = false := by unfold isAl; rfl
@[simp] theorem isAl_unOp {va vb vc} : isAl (.unOp va vb vc) = false := by unfold isAl; rfl
@[simp] theorem isAl_convert {va vb vc} : isAl (.convert va vb vc) = false := by unfold isAl; rfl
@[simp] theorem isAl_makeFunc {va vb vc} : isAl (.makeFunc va vb vc) = false := by unfold isAl; rfl
@[simp] theorem isAl_makeMap {va vb} : isAl (.makeMap va vb) = false := by unfold isAl; rfl
@[simp] theorem isAl_makeSlice {va vb vc} : isAl (.makeSlice va vb vc) = false := by unfold isAl; rfl
@[simp] theorem isAl_slice {va vb vc vd ve} : isAl (.slice va vb vc vd ve) = false := by unfold isAl; rfl
@[simp] theorem isAl_fieldAddr {va vb vc} : isAl (.fieldAddr va vb vc) = false := by unfold isAl; rfl
@[simp] theorem isAl_field {va vb vc} : isAl (.field va vb vc) = false := by unfold isAl; rfl
@[simp] theorem isAl_indexAddr {va vb vc} : isAl (.indexAddr va vb vc) = false := by unfold isAl; rfl
@[simp] theorem isAl_index {va vb vc} : isAl (.index va vb vc) = false := by unfold isAl; rfl
@[simp] theorem isAl_lookup {va vb vc vd} : isAl (.lookup va vb vc vd) = false := by unfold isAl; rfl
@[simp] theorem isAl_extract {va vb} : isAl (.extract va vb) = false := by unfold isAl; rfl
@[simp] theorem isAl_call {va} : isAl (.call va) = false := by unfold isAl; rfl
@[simp] theorem isAl_store {a b c} : isAl (.store a b c) = false := by unfold isAl; rfl
@[simp] theorem isAl_mapUpdate {a b c d} : isAl (.mapUpdate a b c d) = false := by unfold isAl; rfl
@[simp] theorem dnx_eq {co : Option Nat} {x : AV} {nd : Option (Nat × Nat)} : dnx P rid ops i co dst rest st outs nds K x nd = ego P rid ops i rest ((st.put co .bad).put dst x) (outs ++ [x]) (nd.toList ++ nds) K := propext Iff.rfl
@[simp] theorem ndOk_nil : ndOk outs [] = true := rfl
/-! The same, where from the m-th operation on the operations stand in one order. -/
def egoS (P : Program) (rid : Nat) (ops : Array Oper) (i : Nat) (l1 l2 : List Oper) (st : St) (outs : List AV) (nds : List (Nat × Nat)) (K : St → Prop) : Prop :=
  dgo P rid ops st.box i l1 st.env outs nds fun outs nds env => ndOk outs nds = true ∧ tops P rid (i + l1.length) l2 ⟨env, st.box⟩ K
def dnxS (P : Program) (rid : Nat) (ops : Array Oper) (i : Nat) (co dst : Option Nat) (l1 l2 : List Oper) (st : St) (outs : List AV) (nds : List (Nat × Nat)) (K : St → Prop) : AV → Option (Nat × Nat) → Prop :=
  fun out nd => egoS P rid ops i l1 l2 ((st.put co .bad).put dst out) (outs ++ [out]) (nd.toList ++ nds) K
@[congr] theorem egoS_congr {zz : Nat} (hz : (0 + 0 : Nat) = zz) {st' : St} {l1 l2 : List Oper} {outs outs' : List AV} {nds nds' : List (Nat × Nat)} (h1 : st = st') (h2 : outs = outs') (h3 : nds = nds') : egoS P rid ops i l1 l2 st outs nds K = egoS P rid ops i l1 l2 st' outs' nds' K := by rw [h1, h2, h3]
@[congr] theorem dnxS_congr {zz : Nat} (hz : (0 + 0 : Nat) = zz) {co dst : Option Nat} {l1 l2 : List Oper} {a b : AV} {nd nd' : Option (Nat × Nat)} (h1 : a = b) (h2 : nd = nd') : dnxS P rid ops i co dst l1 l2 st outs nds K a nd = dnxS P rid ops i co dst l1 l2 st outs nds K b nd' := by rw [h1, h2]
theorem awp_drawS {l l1 l2 : List Oper} (m : Nat) (h1 : l.take m = l1) (h2 : l.drop m = l2) (hchk : dchk l.toArray = true) (hsz : (decide (l.toArray.size ≤ 1024) && decide (m ≤ l.toArray.size) && barChk l.toArray m) = true)
    (h : egoS P rid l.toArray 0 l1 l2 (st.retire (isRid rid)) [] [] (Q .normal)) : awp P (.region rid l.toArray true) Q st := by
  subst h1; subst h2
  unfold egoS at h
  simp only [Bool.and_eq_true, decide_eq_true_eq] at hsz
  rw [Nat.zero_add, List.length_take, Nat.min_eq_left (by have := hsz.1.2; simpa using this)] at h
  exact awp_drawn (dops_bars hchk (by simp only [Bool.and_eq_true, decide_eq_true_eq]; exact hsz) h)
@[simp] theorem egoS_nil {l2 : List Oper} : egoS P rid ops i [] l2 st outs nds K = (ndOk outs nds = true ∧ tK P rid i l2 K st) := propext Iff.rfl
theorem egoS_step {o : Oper} {l2 : List Oper} : egoS P rid ops i (o :: rest) l2 st outs nds K = dstep P rid i ops st.box st.env o (dnxS P rid ops (i + 1) (cons o) o.dst rest l2 st outs nds K) := by
  unfold dnxS egoS
  simp only [put2_box, put2_env, dgo, List.length_cons]
  have e : i + (rest.length + 1) = i + 1 + rest.length := by omega
  rw [e]
  rfl
@[simp] theorem egoS_cons {l2 : List Oper} : egoS P rid ops i (⟨dst, op, ty, pos, after, none⟩ :: rest) l2 st outs nds K = eq_ P rid (rid * 65536 + i * 64) ops st ⟨dst, op, ty, pos, after, none⟩ (dnxS P rid ops (i + 1) (cons ⟨dst, op, ty, pos, after, none⟩) dst rest l2 st outs nds K) := by
  rw [egoS_step]; exact propext Iff.rfl
@[simp] theorem egoS_guard {l2 : List Oper} {j : Nat} {want : Bool} : egoS P rid ops i (⟨dst, op, ty, pos, after, some (j, want)⟩ :: rest) l2 st outs nds K = dsel P rid (rid * 65536 + i * 64) ops st (guardB ops st.env j want) ⟨dst, op, ty, pos, after, some (j, want)⟩ (dnxS P rid ops (i + 1) (cons ⟨dst, op, ty, pos, after, some (j, want)⟩) dst rest l2 st outs nds K) := by
  rw [egoS_step]; exact propext Iff.rfl
@[simp] theorem dnxS_eq {co : Option Nat} {l2 : List Oper} {x : AV} {nd : Option (Nat × Nat)} : dnxS P rid ops i co dst rest l2 st outs nds K x nd = egoS P rid ops i rest l2 ((st.put co .bad).put dst x) (outs ++ [x]) (nd.toList ++ nds) K := propext Iff.rfl
@[simp] theorem fop_fieldAddr {id : Nat} {t : TypeId} {x : Operand} {f : Nat} {X : AV → St → Prop} : fop P id (.fieldAddr t x f) st X = optK (qfieldAddr P t (evAV st.env x) f) X st := propext Iff.rfl
@[simp] theorem fop_indexAddr {id : Nat} {t : TypeId} {x i : Operand} {X : AV → St → Prop} : fop P id (.indexAddr t x i) st X = optK (qindexAddr P t (evAV st.env x) (evAV st.env i)) X st := propext Iff.rfl
@[simp] theorem fop_load {id : Nat} {t : TypeId} {x : Operand} {X : AV → St → Prop} : fop P id (.load t x) st X = optK (qload P t (evAV st.env x) st.box) X st := propext Iff.rfl
@[simp] theorem fop_append {id : Nat} {s x : Operand} {t tx : TypeId} {X : AV → St → Prop} : fop P id (.call { callee := .builtin .append, args := #[s, x], argTypes := #[t, tx] }) st X = appendK P id t tx (evAV st.env s) (evAV st.env x) st X := propext Iff.rfl
theorem sx_pdSt (env : Nat → AV) (bx : Nat → Option (List AC)) : ∀ pd : List (Nat × Nat × List AC), (⟨env, sx bx pd (fun _ => true)⟩ : St) = pdSt ⟨env, bx⟩ pd
  | [] => rfl
  | p :: pd => by
    show _ = (pdSt ⟨env, bx⟩ pd).setBox p.2.1 p.2.2
    rw [← sx_pdSt env bx pd]
    unfold St.setBox sx
    congr 1
    funext k
    rw [List.find?_cons]
    by_cases h : k = p.2.1
    · subst h; simp
    · have : (p.2.1 == k) = false := by simp; omega
      rw [this, if_neg h]
@[simp] theorem pdSt_nil {F : St} : pdSt F [] = F := rfl
@[simp] theorem pdSt_cons {F : St} {p : Nat × Nat × List AC} {pd : List (Nat × Nat × List AC)} : pdSt F (p :: pd) = (pdSt F pd).setBox p.2.1 p.2.2 := rfl
@[simp] theorem rmB_env {R : List Nat} {s : Nat} : (rmB st R).env s = st.env s := rfl
@[simp] theorem rmB_box {R : List Nat} {i : Nat} : (rmB st R).box i = if R.contains i then none else st.box i := rfl
/-- The allocs' boxes, as they are at first. -/
def alSt (rid : Nat) : List (Nat × List AC) → St → St
  | [], st => st
  | q :: r, st => (alSt rid r st).setBox (rid * 65536 + q.1 * 64) q.2
@[simp] theorem alSt_nil {rid : Nat} {st : St} : alSt rid [] st = st := rfl
@[simp] theorem alSt_cons {rid : Nat} {q : Nat × List AC} {r : List (Nat × List AC)} {st : St} : alSt rid (q :: r) st = (alSt rid r st).setBox (rid * 65536 + q.1 * 64) q.2 := rfl
@[simp] theorem ubs_nil {rid : Nat} {st : St} : ubs rid [] st = st := rfl
@[simp] theorem ubs_cons {rid : Nat} {q : Nat × List AC} {r : List (Nat × List AC)} {st : St} : ubs rid (q :: r) st = (ubs rid r st).unbox (rid * 65536 + q.1 * 64) := rfl
theorem alSt_bs (rid : Nat) (st : St) : ∀ AL : List (Nat × List AC), (⟨st.env, bs rid AL st.box fun _ => true⟩ : St) = alSt rid AL st
  | [] => rfl
  | q :: r => by
    rw [alSt_cons, ← alSt_bs rid st r]
    unfold St.setBox bs
    congr 1
    funext k
    rw [List.find?_cons]
    by_cases h : k = rid * 65536 + q.1 * 64
    · subst h; simp
    · have : (rid * 65536 + q.1 * 64 == k) = false := by simp; omega
      rw [this, if_neg h]
@[simp] theorem alOf_nil {i : Nat} : alOf P i [] = [] := rfl
@[simp] theorem alOf_alloc {i : Nat} {t : TypeId} {g : Option (Nat × Bool)} : alOf P i (⟨dst, .alloc t, ty, pos, after, g⟩ :: rest) = match zeroA P t with
    | some zs => (i, zs) :: alOf P (i + 1) rest
    | none => alOf P (i + 1) rest := rfl
theorem alOf_other {i : Nat} {o : Oper} (h : isAl o.op = false) : alOf P i (o :: rest) = alOf P (i + 1) rest := by
  rw [alOf]
  split
  · rename_i e he; rw [he] at h; cases h
  · rfl
/-- AL: the allocs; R: the boxes that are stored into, or made. -/
theorem awp_draw3 {l : List Oper} (AL : List (Nat × List AC)) (R : List Nat) (hAL : alOf P 0 l = AL) (hchk : (dchk l.toArray && alChk l.toArray) = true) (hsz : (decide (l.toArray.size ≤ 1024) && barChk l.toArray l.toArray.size) = true)
    (hR : (AL.all fun q => R.contains (rid * 65536 + q.1 * 64)) = true)
    (h : ego2 P rid l.toArray 0 l (alSt rid AL (ubs rid AL (st.retire (isRid rid)))) (rmB (ubs rid AL (st.retire (isRid rid))) R) [] [] [] (Q .normal)) : awp P (.region rid l.toArray true) Q st := by
  subst hAL
  simp only [Bool.and_eq_true, decide_eq_true_eq] at hsz hchk
  have e1 : List.take l.toArray.size l.toArray.toList = l := by simp
  have e2 : List.drop l.toArray.size l.toArray.toList = [] := by simp
  refine awp_drawn2 ⟨⟨hchk, hsz.1⟩, l.toArray.size, Nat.le_refl _, hsz.2, (rmB (ubs rid (alOf P 0 l) (st.retire (isRid rid))) R).box, fun S i xs hx => ?_, ?_⟩
  · rw [e1]
    simp only [rmB] at hx
    split at hx
    · cases hx
    · rename_i hn
      unfold bs
      split
      · rename_i q hq
        rw [List.all_eq_true] at hR
        have h1 := hR q (List.mem_of_find?_eq_some hq)
        have h2 := List.find?_some hq
        simp only [beq_iff_eq] at h2
        rw [h2] at h1
        exact (hn h1).elim
      · exact hx
  · rw [e1, e2]
    have e3 := alSt_bs rid (ubs rid (alOf P 0 l) (st.retire (isRid rid))) (alOf P 0 l)
    have e4 : (bs rid (alOf P 0 l) (ubs rid (alOf P 0 l) (st.retire (isRid rid))).box fun _ => true) = (alSt rid (alOf P 0 l) (ubs rid (alOf P 0 l) (st.retire (isRid rid)))).box := by rw [← e3]
    rw [e4]
    unfold ego2 at h
    exact h
/-- R: the boxes that are stored into. -/
theorem awp_draw2 {l : List Oper} (R : List Nat) (hchk : (dchk l.toArray && alChk l.toArray && l.all fun o => !isAl o.op) = true) (hsz : (decide (l.toArray.size ≤ 1024) && barChk l.toArray l.toArray.size) = true)
    (h : ego2 P rid l.toArray 0 l (st.retire (isRid rid)) (rmB (st.retire (isRid rid)) R) [] [] [] (Q .normal)) : awp P (.region rid l.toArray true) Q st := by
  rw [Bool.and_eq_true] at hchk
  have hA : ∀ (l : List Oper) (i : Nat), (l.all fun o => !isAl o.op) = true → alOf P i l = [] := by
    intro l
    induction l with
    | nil => intro i _; rfl
    | cons o l ih =>
      intro i h
      simp only [List.all_cons, Bool.and_eq_true, Bool.not_eq_true'] at h
      rw [alOf_other h.1]
      exact ih (i + 1) h.2
  exact awp_draw3 [] R (hA l 0 hchk.2) hchk.1 hsz rfl h
@[simp] theorem ego2_nil {F : St} {pd : List (Nat × Nat × List AC)} : ego2 P rid ops i [] F st outs nds pd K = (ndOk outs nds = true ∧ K (pdSt ⟨st.env, F.box⟩ pd)) := by
  unfold ego2
  rw [← sx_pdSt]; exact propext Iff.rfl
theorem ego2_step {F : St} {pd : List (Nat × Nat × List AC)} {o : Oper} (h : (isBar o.op || isAl o.op) = false) : ego2 P rid ops i (o :: rest) F st outs nds pd K = dstep P rid i ops st.box st.env o (dnx2 P rid ops (i + 1) (cons o) o.dst rest F st outs nds pd K) := by
  simp only [Bool.or_eq_false_iff] at h
  unfold dnx2 ego2
  simp only [put2_box, put2_env, dgo2, h.1, h.2]
  rfl
@[simp] theorem ego2_cons {F : St} {pd : List (Nat × Nat × List AC)} (h : (isBar op || isAl op) = false) : ego2 P rid ops i (⟨dst, op, ty, pos, after, none⟩ :: rest) F st outs nds pd K = eq_ P rid (rid * 65536 + i * 64) ops st ⟨dst, op, ty, pos, after, none⟩ (dnx2 P rid ops (i + 1) (cons ⟨dst, op, ty, pos, after, none⟩) dst rest F st outs nds pd K) := by
  rw [ego2_step h]; exact propext Iff.rfl
@[simp] theorem ego2_guard {F : St} {pd : List (Nat × Nat × List AC)} (h : (isBar op || isAl op) = false) {j : Nat} {want : Bool} : ego2 P rid ops i (⟨dst, op, ty, pos, after, some (j, want)⟩ :: rest) F st outs nds pd K = dsel P rid (rid * 65536 + i * 64) ops st (guardB ops st.env j want) ⟨dst, op, ty, pos, after, some (j, want)⟩ (dnx2 P rid ops (i + 1) (cons ⟨dst, op, ty, pos, after, some (j, want)⟩) dst rest F st outs nds pd K) := by
  rw [ego2_step h]; exact propext Iff.rfl
@[simp] theorem ego2_store {F : St} {pd : List (Nat × Nat × List AC)} {t : TypeId} {a v : Operand} : ego2 P rid ops i (⟨none, .store t a v, ty, pos, after, none⟩ :: rest) F st outs nds pd K = (match evAV st.env a with
    | .cell (.ptr b off) => match F.box b, (evAV st.env v).cells? with
      | some xs0, some ys => ((szOf P t = some ys.length ∧ off + ys.length ≤ xs0.length) ∧ (ys.flatMap AC.labs).isEmpty = true ∧ (st.box b).isNone = true ∧ (pd.all fun p => p.2.1 != b) = true ∧ (decide (b < rid * 65536 + i * 64) || decide (rid * 65536 + 65536 ≤ b)) = true) ∧ ego2 P rid ops (i + 1) rest F st (outs ++ [.bad]) nds (pd ++ [(i, b, setRun xs0 off ys)]) K
      | _, _ => False
    | _ => False) := by
  unfold ego2
  simp only [dgo2, isBar_store]
  exact propext Iff.rfl
@[simp] theorem ego2_alloc {F : St} {pd : List (Nat × Nat × List AC)} {t d : Nat} : ego2 P rid ops i (⟨some d, .alloc t, ty, pos, after, none⟩ :: rest) F st outs nds pd K = ((zeroA P t).isSome = true ∧ ego2 P rid ops (i + 1) rest F (st.put (some d) (.cell (.ptr (rid * 65536 + i * 64) 0))) (outs ++ [.cell (.ptr (rid * 65536 + i * 64) 0)]) nds pd K) := by
  unfold ego2
  simp only [dgo2, isBar_alloc, astep, isAl]
  exact propext Iff.rfl
@[simp] theorem dnx2_eq {F : St} {pd : List (Nat × Nat × List AC)} {co : Option Nat} {x : AV} {nd : Option (Nat × Nat)} : dnx2 P rid ops i co dst rest F st outs nds pd K x nd = ego2 P rid ops i rest F ((st.put co .bad).put dst x) (outs ++ [x]) (nd.toList ++ nds) pd K := propext Iff.rfl
variable {id : Nat} {X : AV → Option (Nat × Nat) → Prop} {g : Option (Nat × Bool)}
@[simp] theorem optD_some {x : AV} : optD (some x) X = X x none := propext Iff.rfl
@[simp] theorem dsel_true {o : Oper} : dsel P rid id ops st (some true) o X = eq_ P rid id ops st o X := by simp [dsel]
@[simp] theorem dsel_false {o : Oper} : dsel P rid id ops st (some false) o X = X uV none := by simp [dsel]
@[simp] theorem dq_bin {o : BinOp} {t : TypeId} {x y : Operand} {r} : eq_ P rid id ops st ⟨dst, .binOp o t x y r, ty, pos, after, g⟩ X = optD (match evAV st.env x, evAV st.env y with
    | .cell (.p (.c u)), .cell (.p (.c v)) => (valBin P o t u v).map fun r => .cell (.p (.c r))
    | .agg xs, .agg ys => qeq P o t xs ys
    | _, _ => none) X := propext Iff.rfl
@[simp] theorem dq_un {o : UnOp} {t : TypeId} {x : Operand} : eq_ P rid id ops st ⟨dst, .unOp o t x, ty, pos, after, g⟩ X = optD (match evAV st.env x with
    | .cell (.p (.c u)) => (valUn o u).map fun r => .cell (.p (.c r))
    | _ => none) X := propext Iff.rfl
@[simp] theorem dq_move {x : Operand} : eq_ P rid id ops st ⟨dst, .move x, ty, pos, after, g⟩ X = X (evAV st.env x) none := propext Iff.rfl
@[simp] theorem dq_assign {x : Operand} : eq_ P rid id ops st ⟨dst, .assign x, ty, pos, after, g⟩ X = X (evAV st.env x) none := propext Iff.rfl
@[simp] theorem dq_pick {c a b : Operand} : eq_ P rid id ops st ⟨dst, .pick c a b, ty, pos, after, g⟩ X = optD (match evAV st.env c with | .cell (.p (.c (.bool t))) => some (if t then evAV st.env a else evAV st.env b) | _ => none) X := propext Iff.rfl
@[simp] theorem dq_load {t : TypeId} {x : Operand} : eq_ P rid id ops st ⟨dst, .load t x, ty, pos, after, g⟩ X = optD (qload P t (evAV st.env x) st.box) X := propext Iff.rfl
@[simp] theorem dq_nilCheck {x : Operand} : eq_ P rid id ops st ⟨dst, .nilCheck x, ty, pos, after, g⟩ X = optD (match evAV st.env x with
    | .cell (.ptr b o) => some (.cell (.ptr b o))
    | _ => none) X := propext Iff.rfl
@[simp] theorem dq_fieldAddr {t : TypeId} {x : Operand} {f : Nat} : eq_ P rid id ops st ⟨dst, .fieldAddr t x f, ty, pos, after, g⟩ X = optD (qfieldAddr P t (evAV st.env x) f) X := propext Iff.rfl
@[simp] theorem dq_field {t : TypeId} {x : Operand} {f : Nat} : eq_ P rid id ops st ⟨dst, .field t x f, ty, pos, after, g⟩ X = optD (qfield P t (evAV st.env x) f) X := propext Iff.rfl
@[simp] theorem dq_indexAddr {t : TypeId} {x y : Operand} : eq_ P rid id ops st ⟨dst, .indexAddr t x y, ty, pos, after, g⟩ X = optD (qindexAddr P t (evAV st.env x) (evAV st.env y)) X := propext Iff.rfl
@[simp] theorem dq_index {t : TypeId} {x y : Operand} : eq_ P rid id ops st ⟨dst, .index t x y, ty, pos, after, g⟩ X = optD (qindex P t (evAV st.env x) (evAV st.env y)) X := propext Iff.rfl
@[simp] theorem dq_slice {t : TypeId} {x : Operand} {l h m : Option Operand} : eq_ P rid id ops st ⟨dst, .slice t x l h m, ty, pos, after, g⟩ X = optD (qslice P t (evAV st.env x) (l.map (evAV st.env)) (h.map (evAV st.env)) (m.map (evAV st.env))) X := propext Iff.rfl
@[simp] theorem dq_lookup {t : TypeId} {x y : Operand} {ok : Bool} : eq_ P rid id ops st ⟨dst, .lookup t x y ok, ty, pos, after, g⟩ X = optD (qlookup P t (evAV st.env x) (evAV st.env y) ok) X := propext Iff.rfl
@[simp] theorem dq_extract {t : Operand} {k : Nat} : eq_ P rid id ops st ⟨dst, .extract t k, ty, pos, after, g⟩ X = optD (match evAV st.env t with
    | .tup xs => xs[k]?
    | _ => none) X := propext Iff.rfl
@[simp] theorem dq_convert {a b : TypeId} {x : Operand} : eq_ P rid id ops st ⟨dst, .convert a b x, ty, pos, after, g⟩ X = optD (qconv P id a b (evAV st.env x)) X := propext Iff.rfl
@[simp] theorem dq_build {t : TypeId} {parts : List (Nat × Operand)} : eq_ P rid id ops st ⟨dst, .build t parts.toArray, ty, pos, after, g⟩ X = optD (qbuild P t parts (evAV st.env)) X := propext Iff.rfl
@[simp] theorem dq_buildSlice {t : TypeId} {len : Nat} {parts : List (Nat × Operand)} : eq_ P rid id ops st ⟨dst, .buildSlice t len parts.toArray, ty, pos, after, g⟩ X = optD (qbuildSlice P id t len parts (evAV st.env)) X := propext Iff.rfl
@[simp] theorem dq_builtin {b : Builtin} {args : List Operand} {ts : List TypeId} (h : (match b with | .len | .max | .min => true | _ => false) = true) : eq_ P rid id ops st ⟨dst, .call { callee := .builtin b, args := args.toArray, argTypes := ts.toArray }, ty, pos, after, g⟩ X = optD (qbuiltin P b ts (args.map (evAV st.env))) X := by
  cases b <;> first | exact propext Iff.rfl | (simp at h; done)
theorem dq_at {n : Nat} {args : Array Operand} {ts : Array TypeId} {as : List AV} {r : AV}
    (hAt : At P n as r) (has : (args.toList.map fun x => (evAV st.env x).arg) = as) (hlab : r.labs.all (fun f => decide (f < 64)) = true) (hflat : r.flat = true) (hK : X (r.shift id) none) :
    eq_ P rid id ops st ⟨dst, .call { callee := .value (.func n), args := args, argTypes := ts }, ty, pos, after, g⟩ X := dq_call rfl hAt has hlab hflat hK
theorem dsel_pure {c : Bool} {o : Oper} (hp : pureB o.op = true) (v : AV) (h1 : c = true → qval P id (evAV st.env) st.box o.op = some v) (h2 : X (if c = true then v else uV) none) : dsel P rid id ops st (some c) o X := by
  refine ⟨fun e => pureB_dq hp (h1 e) ?_, fun e => ?_⟩
  · rw [if_pos e] at h2; exact h2
  · rw [if_neg (by rw [e]; simp)] at h2; exact h2
theorem dsel_call {c : Bool} {n : Nat} {args : Array Operand} {ts : Array TypeId} {as : List AV} {r : AV} (hAt : c = true → At P n as r) (has : c = true → (args.toList.map fun x => (evAV st.env x).arg) = as)
    (hlab : r.labs.all (fun f => decide (f < 64)) = true) (hflat : r.flat = true)
    (h2 : X (if c = true then r.shift id else uV) none) : dsel P rid id ops st (some c) ⟨dst, .call { callee := .value (.func n), args := args, argTypes := ts }, ty, pos, after, g⟩ X := by
  refine ⟨fun e => ?_, fun e => ?_⟩
  · rw [if_pos e] at h2
    exact dq_call rfl (hAt e) (has e) hlab hflat h2
  · rw [if_neg (by rw [e]; simp)] at h2; exact h2
attribute [simp] cons isRid
end drawn
theorem ret2 {P : Program} {rs : List ResultVar} {r x y : AV} {st : St} (h : retAV P st rs = some x) (hf : fin st.box x = y) (hr : y = r) : retPost P rs r .ret st := retPost_ret h (hf.trans hr)
theorem retn2 {P : Program} {rs : List ResultVar} {r x y : AV} {st : St} (h : retAV P st rs = some x) (hf : fin st.box x = y) (hr : y = r) : retPost P rs r .normal st := retPost_normal h (hf.trans hr)
theorem retw2 {P : Program} {rs : List ResultVar} {r x y : AV} {st : St} (st' : St) (hw : Weak st st') (h : retAV P st' rs = some x) (hf : fin st'.box x = y) (hr : y = r) : retPost P rs r .ret st := retPost_retw st' hw h (hf.trans hr)
end Go.Fw
end
section
set_option linter.all false
namespace Go.Fw
variable [Globals]
open Go.RowKit (Below)

theorem at_calls {P : Program} {f : FuncId} {args : List AV} {b : Bool} (h : At P f args (bV b)) {w : World} {vs : Array Value} (hsz : vs.size = args.length)
    (hr : ∀ (j : Nat) (u : Value) (x : AV), vs[j]? = some u → args[j]? = some x → AVRep w noneF (beta0 fun _ => False) u x)
    (hg : ∀ g cs, Globals.G g = some cs → AVRep w noneF (beta0 fun _ => False) (.pointer (some ⟨g, 0, none⟩)) (.cell (.ep none cs 0))) :
    Calls P f vs w fun e w' => e = .returned (.bool b) ∧ Below w.heap.size w w' := by
  refine (h.2 w vs (fun _ => False) (fun _ h => h.elim) hsz hr hg).mono ?_
  rintro e w' ⟨v, ρr, rfl, hb, _, _, hv⟩
  exact ⟨by rw [rep_c hv], hb⟩

/-- A slice of integers that came in: nil, or a row of cells. -/
theorem rep_ints {k : IntKind} {w : World} {a : Option Addr} {len cap : Nat} {zs : List Int}
    (h : (a = none ∧ len = 0 ∧ cap = 0 ∧ zs = []) ∨ ∃ x, a = some x ∧ len ≤ cap ∧ cap ≤ maxLen ∧ zs.length = cap ∧ (∀ i, i < zs.length → w.cell? (x.add i) = some (.int k (zs.getD i 0))) ∧ ∀ n ∈ zs, (Lit.int k n).wf = true)
 :
    ∃ l : List Int, l.length = len ∧ (∀ n ∈ l, (Lit.int k n).wf = true) ∧ AVRep w noneF (beta0 fun _ => False) (.slice a len cap) (.cell (.p (.sl len (l.map fun n => .c (.int k n))))) := by
  rcases h with ⟨rfl, rfl, rfl, rfl⟩ | ⟨x, rfl, hlc, hm, hz, hc, hwf⟩
  · exact ⟨[], rfl, by simp, .cell _ _ (.sl none 0 0 [] [] (Nat.le_refl _) (Nat.zero_le _) rfl (by simp) (by simp) (by simp))⟩
  · refine ⟨zs.take len, by simp; omega, fun n hn => hwf n (List.mem_of_mem_take hn), .cell _ _ (.sl (some x) len cap ((zs.take len).map (Value.int k)) _ hlc hm (by simp) ?_ ?_ ?_)⟩
    · intro u hu; rw [List.mem_map] at hu; obtain ⟨n, _, rfl⟩ := hu; rfl
    · intro j u hj
      refine ⟨x, rfl, fun hb => (bad_none _ _).1 hb, ?_⟩
      simp only [List.getElem?_map, Option.map_eq_some_iff] at hj
      obtain ⟨n, hn, rfl⟩ := hj
      rw [List.getElem?_take] at hn
      split at hn
      · have hjz : j < zs.length := by
          rcases Nat.lt_or_ge j zs.length with h | h
          · exact h
          · rw [List.getElem?_eq_none h] at hn; cases hn
        rw [hc j hjz, List.getD_eq_getElem?_getD, hn]; rfl
      · cases hn
    · intro j u c hj hc'
      simp only [List.getElem?_map, Option.map_eq_some_iff] at hj hc'
      obtain ⟨n, hn, rfl⟩ := hj
      obtain ⟨n', hn', rfl⟩ := hc'
      rw [hn] at hn'; cases hn'
      exact .c _

theorem bytes_of_wf : ∀ (l : List Int), (∀ n ∈ l, (Lit.int .u8 n).wf = true) → ∃ b : List UInt8, b.length = l.length ∧ (l.map fun n => CV.c (.int .u8 n)) = bytesCV b
  | [], _ => ⟨[], rfl, rfl⟩
  | n :: l, h => by
    obtain ⟨b, hb, e⟩ := bytes_of_wf l (fun m hm => h m (by simp [hm]))
    have hn := h n (by simp)
    have h1 : 0 ≤ n ∧ n < 256 := by
      simp [Lit.wf] at hn
      have e1 : IntKind.u8.min = 0 := by decide
      have e2 : IntKind.u8.max = 255 := by decide
      omega
    refine ⟨UInt8.ofNat n.toNat :: b, by simp [hb], ?_⟩
    simp only [List.map_cons, e, bytesCV, byteCV]
    congr 3
    simp; omega

/-- A slice of bytes that came in. -/
theorem rep_bytes {w : World} {a : Option Addr} {len cap : Nat} {zs : List Int}
    (h : (a = none ∧ len = 0 ∧ cap = 0 ∧ zs = []) ∨ ∃ x, a = some x ∧ len ≤ cap ∧ cap ≤ maxLen ∧ zs.length = cap ∧ (∀ i, i < zs.length → w.cell? (x.add i) = some (.int .u8 (zs.getD i 0))) ∧ ∀ n ∈ zs, (Lit.int .u8 n).wf = true) :
    ∃ b : List UInt8, b.length = len ∧ AVRep w noneF (beta0 fun _ => False) (.slice a len cap) (bA b) := by
  obtain ⟨l, hl, hwf, hr⟩ := rep_ints h
  obtain ⟨b, hb, e⟩ := bytes_of_wf l hwf
  have : b.length = len := by omega
  subst this
  rw [e] at hr
  exact ⟨b, rfl, hr⟩
theorem rep_int (w : World) (k : IntKind) (n : Int) : AVRep w noneF (beta0 fun _ => False) (.int k n) (iV k n) := .cell _ _ (.c _)
theorem rep1 {w : World} {v : Value} {x : AV} (h : AVRep w noneF (beta0 fun _ => False) v x) : ∀ (j : Nat) (u : Value) (y : AV), #[v][j]? = some u → [x][j]? = some y → AVRep w noneF (beta0 fun _ => False) u y := by
  intro j u y hu hy
  match j, hu, hy with
  | 0, hu, hy => simp at hu hy; subst hu hy; exact h
  | j + 1, hu, hy => simp at hy
theorem rep2 {w : World} {v v' : Value} {x x' : AV} (h : AVRep w noneF (beta0 fun _ => False) v x) (h' : AVRep w noneF (beta0 fun _ => False) v' x') :
    ∀ (j : Nat) (u : Value) (y : AV), #[v, v'][j]? = some u → [x, x'][j]? = some y → AVRep w noneF (beta0 fun _ => False) u y := by
  intro j u y hu hy
  match j, hu, hy with
  | 0, hu, hy => simp at hu hy; subst hu hy; exact h
  | 1, hu, hy => simp at hu hy; subst hu hy; exact h'
  | j + 2, hu, hy => simp at hy
theorem rep3 {w : World} {v v' v'' : Value} {x x' x'' : AV} (h : AVRep w noneF (beta0 fun _ => False) v x) (h' : AVRep w noneF (beta0 fun _ => False) v' x') (h'' : AVRep w noneF (beta0 fun _ => False) v'' x'') :
    ∀ (j : Nat) (u : Value) (y : AV), #[v, v', v''][j]? = some u → [x, x', x''][j]? = some y → AVRep w noneF (beta0 fun _ => False) u y := by
  intro j u y hu hy
  match j, hu, hy with
  | 0, hu, hy => simp at hu hy; subst hu hy; exact h
  | 1, hu, hy => simp at hu hy; subst hu hy; exact h'
  | 2, hu, hy => simp at hu hy; subst hu hy; exact h''
  | j + 3, hu, hy => simp at hy
end Go.Fw
end
section
set_option linter.all false
namespace Go.Fw
variable [Globals]

/-- No slice is longer than can be. -/
inductive LenOk : CV → Prop
  | c (v : Value) : LenOk (.c v)
  | sl (n : Nat) (cells : List CV) (h : n ≤ maxLen) (hc : ∀ x ∈ cells, LenOk x) : LenOk (.sl n cells)
  | fn (g : Nat) (caps : List CV) : LenOk (.fn g caps)
  | bx (cells : List CV) : LenOk (.bx cells)
  | mp (ks : List Int) (vs : List CV) : LenOk (.mp ks vs)

theorem CRep.lenOk {w : World} {bad : Nat → Prop} {v : Value} {x : CV} (h : CRep w bad v x) : LenOk x := by
  induction h with
  | c v => exact .c v
  | sl a n cap raws cells hn hm hl ho hc hr ih =>
    refine .sl n cells (Nat.le_trans hn hm) fun x hx => ?_
    obtain ⟨j, hj⟩ := List.getElem?_of_mem hx
    have hlt : j < raws.length := by
      rw [hl]
      rcases Nat.lt_or_ge j cells.length with h | h
      · exact h
      · rw [List.getElem?_eq_none h] at hj; cases hj
    exact ih j raws[j] x (List.getElem?_eq_getElem hlt) hj
  | fn g vs caps hl hr ih => exact .fn g caps
  | bx g raws cells hl ho hc hr ih => exact .bx cells
  | mp g raws ks vs hg hm hl ho hr ih => exact .mp ks vs

def AC.lenOk : AC → Prop
  | .p x => LenOk x
  | _ => True
def AV.lenOk : AV → Prop
  | .cell x => x.lenOk
  | .agg xs => ∀ x ∈ xs, x.lenOk
  | _ => True
theorem ACRep.lenOk {w : World} {ρ β : Fam} {v : Value} {x : AC} (h : ACRep w ρ β v x) : x.lenOk := by
  cases x <;> first | trivial | exact CRep.lenOk h
theorem AVRep.lenOk {w : World} {ρ β : Fam} {v : Value} {x : AV} (h : AVRep w ρ β v x) : x.lenOk := by
  cases h with
  | cell v x h => exact ACRep.lenOk h
  | agg cs xs hl ho h =>
    intro x hx
    obtain ⟨j, hj⟩ := List.getElem?_of_mem hx
    have hlt : j < cs.size := by
      rw [hl]
      rcases Nat.lt_or_ge j xs.length with h | h
      · exact h
      · rw [List.getElem?_eq_none h] at hj; cases hj
    exact ACRep.lenOk (h j cs[j] x (Array.getElem?_eq_getElem hlt) hj)
  | tup => trivial
  | bad => trivial

def fnOk (P : Program) (f : FuncId) : Bool := match P.funcs[f]? with
  | some fn => !(fn.name == "runtime.NumGoroutine") && !fn.body.isNone
  | none => false
/-- What every value keeps may be assumed. -/
theorem at_bound {P : Program} {f : FuncId} {args : List AV} {r : AV} (hf : fnOk P f = true) (h : (∀ x ∈ args, x.lenOk) → At P f args r) : At P f args r := by
  refine ⟨?_, fun w vs bad0 hbad hlen hrep hglob => ?_⟩
  · unfold fnOk at hf
    split at hf
    · rename_i fn hfn
      simp only [Bool.and_eq_true, Bool.not_eq_true'] at hf
      exact ⟨fn, hfn, hf.1, hf.2⟩
    · cases hf
  · refine (h fun x hx => ?_).2 w vs bad0 hbad hlen hrep hglob
    obtain ⟨j, hj⟩ := List.getElem?_of_mem hx
    have hlt : j < vs.size := by
      rw [hlen]
      rcases Nat.lt_or_ge j args.length with h | h
      · exact h
      · rw [List.getElem?_eq_none h] at hj; cases hj
    exact (hrep j vs[j] x (Array.getElem?_eq_getElem hlt) hj).lenOk
theorem LenOk.len {n : Nat} {cells : List CV} (h : LenOk (.sl n cells)) : n ≤ maxLen := by cases h; assumption
theorem LenOk.mem {n : Nat} {cells : List CV} (h : LenOk (.sl n cells)) {x : CV} (hx : x ∈ cells) : LenOk x := by cases h; rename_i h; exact h x hx

theorem wrap_succ {k n : Nat} (h : k < n) (hn : n ≤ maxLen) : IntKind.i64.wrap ((k : Int) + 1) = ((k + 1 : Nat) : Int) := by
  unfold maxLen at hn
  rw [wrap_i64 (by omega) (by omega)]; simp

/-! Rows of equal cells. -/
@[simp] theorem row_le (k n s : Nat) : k * s + s ≤ n * s ↔ k < n ∨ s = 0 := by
  constructor
  · intro h
    rcases Nat.eq_zero_or_pos s with h0 | h0
    · exact .inr h0
    · refine .inl ?_
      have h' : (k + 1) * s ≤ n * s := by rw [Nat.succ_mul]; exact h
      have := Nat.le_of_mul_le_mul_right h' h0
      omega
  · rintro (h | rfl)
    · have := Nat.mul_le_mul_right s (show k + 1 ≤ n from h)
      rwa [Nat.succ_mul] at this
    · simp
theorem row_lt {k n s j : Nat} (hj : j < s) : k * s + j < n * s ↔ k < n := by
  constructor
  · intro h
    rcases Nat.lt_or_ge k n with h' | h'
    · exact h'
    · have := Nat.mul_le_mul_right s h'; omega
  · intro h
    have := Nat.mul_le_mul_right s (show k + 1 ≤ n from h)
    rw [Nat.succ_mul] at this; omega
@[simp] theorem row_lt21 (k n : Nat) : k * 2 + 1 < n * 2 ↔ k < n := row_lt (by omega)
@[simp] theorem row_lt81 (k n : Nat) : k * 8 + 1 < n * 8 ↔ k < n := row_lt (by omega)
@[simp] theorem row_lt82 (k n : Nat) : k * 8 + 2 < n * 8 ↔ k < n := row_lt (by omega)
@[simp] theorem row_lt83 (k n : Nat) : k * 8 + 3 < n * 8 ↔ k < n := row_lt (by omega)
@[simp] theorem row_lt84 (k n : Nat) : k * 8 + 4 < n * 8 ↔ k < n := row_lt (by omega)
@[simp] theorem row_lt85 (k n : Nat) : k * 8 + 5 < n * 8 ↔ k < n := row_lt (by omega)
@[simp] theorem row_lt86 (k n : Nat) : k * 8 + 6 < n * 8 ↔ k < n := row_lt (by omega)
@[simp] theorem row_lt87 (k n : Nat) : k * 8 + 7 < n * 8 ↔ k < n := row_lt (by omega)

/-- Ownership may be given up. -/
theorem at_pure {P : Program} {f : FuncId} {args : List AV} {r r' : AV} (h : At P f args r) (he : r.retire (fun _ => true) = r') : At P f args r' := by
  subst he
  refine ⟨h.1, fun w vs bad0 hbad hlen hrep hglob => (h.2 w vs bad0 hbad hlen hrep hglob).mono ?_⟩
  rintro e w' ⟨v, ρr, he, hb, h1, h2, hv⟩
  have hbe : ∀ i b, beta0 bad0 i = some b → bad0 b ∧ i = 2 * b + 1 := by
    intro i b hi
    unfold beta0 at hi
    split at hi
    · rename_i hc; cases hi; exact ⟨hc.2, by omega⟩
    · cases hi
  have hA : Apart w' (fun _ => False) ρr (beta0 bad0) := by
    refine ⟨fun g b hg => ⟨fun h => h.elim, (h1 g b hg).2⟩, fun i b hi => ?_, h2, fun i i' b hi hi' => ?_, fun g i b hg hi => ?_, fun _ _ _ h => h.elim⟩
    · exact Nat.lt_of_lt_of_le (hbad b (hbe i b hi).1) hb.size
    · rw [(hbe i b hi).2, (hbe i' b hi').2]
    · have := (h1 g b hg).1; have := hbad b (hbe i b hi).1; omega
  refine ⟨v, ρr.drop (fun _ => true), he, hb, fun g b hg => ?_, fun g g' b hg _ => ?_, retire_av hA _ hv⟩
  · simp [Fam.drop] at hg
  · simp [Fam.drop] at hg

section
variable {P : Program} {rid id : Nat} {ops : Array Oper} {st : St} {dst : Option Tmp} {ty : TypeId} {pos : String} {after : Array Edge} {g : Option (Nat × Bool)} {X : AV → Option (Nat × Nat) → Prop}
/-- A call in a drawn region whose arguments lead to nothing owned. -/
theorem dq_at' {n : Nat} {args : Array Operand} {ts : Array TypeId} {as : List AV} {r : AV}
    (hAt : At P n as r) (has : (args.toList.map fun x => (evAV st.env x).arg) = as) (hlab : r.labs.all (fun f => decide (f < 64)) = true) (hargs : (args.toList.flatMap fun x => (evAV st.env x).labs).isEmpty = true) (hK : X (r.shift id) none) :
    eq_ P rid id ops st ⟨dst, .call { callee := .value (.func n), args := args, argTypes := ts }, ty, pos, after, g⟩ X := by
  unfold eq_ dq
  exact ⟨r, by rw [has]; exact hAt, ⟨hlab, by rw [hargs]; simp⟩, hK⟩
end

/-- A captured box is read through a pointer to its head. -/
def AV.unbx : AV → AV
  | .cell (.p (.bx cells)) => .cell (.ep none cells 0)
  | x => x
theorem unbx_rep {w : World} {ρ β : Fam} {v : Value} {x : AV} (h : AVRep w ρ β v x) : AVRep w ρ β v x.unbx := by
  unfold AV.unbx
  split
  · rename_i cells
    have hr := rep_cell h
    cases hr with
    | bx g raws _ hl ho hc hr =>
      have ha : ∀ j, (⟨g, 0, none⟩ : Addr).add j = ⟨g, j, none⟩ := fun j => by rw [ptr_add]; simp
      refine .cell _ _ ⟨⟨g, 0, none⟩, raws, by rw [ha], fun j u hj => ?_, ⟨hl, ho, hr⟩⟩
      rw [ha]; exact hc j u hj
  · exact h
theorem unbx_get {vs : Array Value} {args : List AV} {w : World} {ρ β : Fam} (h : ∀ (j : Nat) (u : Value) (x : AV), vs[j]? = some u → args[j]? = some x → AVRep w ρ β u x) :
    ∀ (j : Nat) (u : Value) (x : AV), vs[j]? = some u → (args.map AV.unbx)[j]? = some x → AVRep w ρ β u x := by
  intro j u x hu hx
  rw [List.getElem?_map, Option.map_eq_some_iff] at hx
  obtain ⟨y, hy, rfl⟩ := hx
  exact unbx_rep (h j u y hu hy)
theorem at_unbx {P : Program} {f : FuncId} {args args' : List AV} {r : AV} (ha : args.map AV.unbx = args') (h : At P f args' r) : At P f args r := by
  subst ha
  exact ⟨h.1, fun w vs bad0 hbad hlen hrep hglob => h.2 w vs bad0 hbad (by simpa using hlen) (unbx_get hrep) hglob⟩
theorem seq_unbx {P : Program} {f : FuncId} {caps caps' : List AV} {xs : List (List EV)} (ha : caps.map AV.unbx = caps') (h : SeqAt P f caps' xs) : SeqAt P f caps xs := by
  subst ha
  exact ⟨h.1, fun w vs Bz l seq hbad hlen hrep hglob hS h0 => h.2 w vs Bz l seq hbad (by simpa using hlen) (unbx_get hrep) hglob hS h0⟩
attribute [simp] AV.unbx

/-- An empty slice of capacity 0 is an empty slice. -/
def AC.unz : AC → AC
  | .z => .p (.sl 0 [])
  | x => x
def AV.unz : AV → AV
  | .cell x => .cell x.unz
  | .agg xs => .agg (xs.map AC.unz)
  | x => x
theorem unz_ac {w : World} {ρ β : Fam} {v : Value} {x : AC} (h : ACRep w ρ β v x) : ACRep w ρ β v x.unz := by
  cases x <;> try exact h
  obtain ⟨a, rfl⟩ := h
  exact CRep.sl a 0 0 [] [] (Nat.le_refl _) (Nat.zero_le _) rfl (by simp) (by simp) (by simp)
theorem unz_rep {w : World} {ρ β : Fam} {v : Value} {x : AV} (h : AVRep w ρ β v x) : AVRep w ρ β v x.unz := by
  cases h with
  | cell v x h => exact .cell _ _ (unz_ac h)
  | agg cs xs hl ho h =>
    refine .agg cs _ (by simpa using hl) ho fun j u x hu hx => ?_
    rw [List.getElem?_map, Option.map_eq_some_iff] at hx
    obtain ⟨y, hy, rfl⟩ := hx
    exact unz_ac (h j u y hu hy)
  | tup vs xs hl h => exact .tup vs xs hl h
  | bad v => exact .bad v
theorem at_unz {P : Program} {f : FuncId} {args args' : List AV} {r : AV} (ha : args.map AV.unz = args') (h : At P f args' r) : At P f args r := by
  subst ha
  refine ⟨h.1, fun w vs bad0 hbad hlen hrep hglob => h.2 w vs bad0 hbad (by simpa using hlen) (fun j u x hu hx => ?_) hglob⟩
  rw [List.getElem?_map, Option.map_eq_some_iff] at hx
  obtain ⟨y, hy, rfl⟩ := hx
  exact unz_rep (hrep j u y hu hy)
attribute [simp] AV.unz AC.unz
end Go.Fw
end
section
set_option linter.all false
namespace Go.Fw
variable [Globals]

/-- A loop: p tells the state by a plain value v; the measure is of v. -/
theorem awp_loopW {V : Type} {P : Program} {Q : Exit → St → Prop} {st : St} {b : Code} (p : V → St → Prop) (μ : V → Nat) (st' : St) (hw : Weak st st') (v0 : V) (h0 : p v0 st')
    (h : ∀ v s, p v s → ∀ K : St → Prop, (∀ v' s', p v' s' → μ v' < μ v → K s') → awp P b (aThen K Q) s) : awp P (.loop b) Q st := by
  classical
  have key : ∀ s, (∃ v, p v s) → ∃ m, (∃ v, p v s ∧ μ v = m) ∧ ∀ v, p v s → m ≤ μ v := by
    intro s ⟨v, hv⟩
    have : ∀ n, ∀ v, p v s → μ v = n → ∃ m, (∃ v, p v s ∧ μ v = m) ∧ ∀ v, p v s → m ≤ μ v := by
      intro n
      induction n using Nat.strongRecOn with
      | _ n ih =>
        intro v hv hn
        by_cases hx : ∃ u, p u s ∧ μ u < n
        · obtain ⟨u, hu, hlt⟩ := hx
          exact ih _ hlt u hu rfl
        · refine ⟨n, ⟨v, hv, hn⟩, fun u hu => ?_⟩
          rcases Nat.lt_or_ge (μ u) n with h | h
          · exact (hx ⟨u, hu, h⟩).elim
          · exact h
    exact this _ v hv rfl
  refine awp_loop (fun s => ∃ v, p v s) (fun s => if hs : ∃ v, p v s then Classical.choose (key s hs) else 0) st' hw ⟨v0, h0⟩ fun s hs K hK => ?_
  obtain ⟨⟨v, hv, he⟩, hmin⟩ := Classical.choose_spec (key s hs)
  refine h v s hv K fun v' s' hv' hlt => hK s' ⟨⟨v', hv'⟩, ?_⟩
  have hs' : ∃ v, p v s' := ⟨v', hv'⟩
  have h2 := (Classical.choose_spec (key s' hs')).2 v' hv'
  show (if hs : ∃ v, p v s' then Classical.choose (key s' hs) else 0) < (if hs : ∃ v, p v s then Classical.choose (key s hs) else 0)
  rw [dif_pos hs, dif_pos hs', ← he]
  exact Nat.lt_of_le_of_lt h2 hlt
theorem awp_loopV {V : Type} {P : Program} {Q : Exit → St → Prop} {st : St} {b : Code} (p : V → St → Prop) (μ : V → Nat) (v0 : V) (h0 : p v0 st)
    (h : ∀ v s, p v s → ∀ K : St → Prop, (∀ v' s', p v' s' → μ v' < μ v → K s') → awp P b (aThen K Q) s) : awp P (.loop b) Q st := awp_loopW p μ st (Weak.refl _) v0 h0 h
/-- A guarded call of a function in a slot. -/
theorem gsel_callT {P : Program} {id t : Nat} {c : Bool} {st : St} {X : AV → St → Prop} {args : List Operand} {ts : Array TypeId} {g : Nat} {caps : List (Nat ⊕ CV)} {cs : List CV} {as : List AV} {r : AV}
    (ht : c = true → st.env t = .cell (.fn g caps)) (hcs : c = true → capsCV st.box caps = some cs) (hAt : At P g as r) (has : c = true → (args.map fun y => (evAV st.env y).arg) ++ (cs.map fun c => .cell (.p c)) = as)
    (hlab : r.labs.all (fun f => decide (f < 64)) = true) (hflat : r.flat = true)
    (h2 : X (if c = true then r.shift id else uV) (st.retire (isId id))) : gsel P id (some c) (.call { callee := .value (.tmp t), args := args.toArray, argTypes := ts }) st X := by
  cases c with
  | true =>
    unfold gsel
    simp only [gop_callT]
    unfold callT
    rw [ht rfl]
    exact ⟨cs, hcs rfl, r, by rw [has rfl]; exact hAt, hlab, hflat, by simpa using h2⟩
  | false =>
    unfold gsel
    simpa [isCallB] using h2
/-- The same with no guard. -/
theorem callT_fn {P : Program} {id t : Nat} {st : St} {X : AV → St → Prop} {args : List Operand} {g : Nat} {caps : List (Nat ⊕ CV)} {cs : List CV} {as : List AV} {r : AV}
    (ht : st.env t = .cell (.fn g caps)) (hcs : capsCV st.box caps = some cs) (hAt : At P g as r) (has : (args.map fun y => (evAV st.env y).arg) ++ (cs.map fun c => .cell (.p c)) = as)
    (hlab : r.labs.all (fun f => decide (f < 64)) = true) (hflat : r.flat = true)
    (h2 : X (r.shift id) (st.retire (isId id))) : callT P id t args st X := by
  unfold callT
  rw [ht]
  exact ⟨cs, hcs, r, by rw [has]; exact hAt, hlab, hflat, h2⟩
/-- A bound that holds. -/
theorem optK_if {c : Prop} [Decidable c] {v : Option AV} {K : AV → St → Prop} {st : St} (hc : c) (h : optK v K st) : optK (if c then v else none) K st := by rw [if_pos hc]; exact h
theorem optD_if {c : Prop} [Decidable c] {v : Option AV} {X : AV → Option (Nat × Nat) → Prop} (hc : c) (h : optD v X) : optD (if c then v else none) X := by rw [if_pos hc]; exact h
/-- An empty slice in a box counts as owned. -/
theorem Weak.ownB {st : St} (b f sz : Nat) (h : st.box b = some [.z]) : Weak st (st.setBox b [.own f sz 0 []]) := by
  refine ⟨fun _ => .inl rfl, fun i ys hy => ?_⟩
  simp only [St.setBox] at hy
  split at hy
  · rename_i e
    subst e
    cases hy
    refine ⟨_, h, rfl, fun j x y hx hy => ?_⟩
    cases j with
    | zero => simp at hx hy; subst hx; subst hy; exact .inr (.inl ⟨rfl, f, sz, rfl⟩)
    | succ j => simp at hx
  · exact ⟨ys, hy, rfl, fun _ x y hx hy => by rw [hx] at hy; cases hy; exact .inl rfl⟩
attribute [simp] St.baseK
@[simp] theorem AC.onlyK_own (K T : List Nat) (f sz n : Nat) (cells : List CV) : (AC.own f sz n cells).onlyK K T = if K.contains f then .own f sz n cells else .bad := rfl
@[simp] theorem AV.onlyK_cell (K T : List Nat) (x : AC) : (AV.cell x).onlyK K T = .cell (x.onlyK K T) := rfl
@[simp] theorem AV.onlyK_agg (K T : List Nat) (xs : List AC) : (AV.agg xs).onlyK K T = .agg (xs.map (·.onlyK K T)) := rfl
@[simp] theorem AV.onlyK_bad (K T : List Nat) : AV.bad.onlyK K T = .bad := rfl
@[simp] theorem AC.onlyK_p (K T : List Nat) (x : CV) : (AC.p x).onlyK K T = .p x := rfl
@[simp] theorem AC.onlyK_z (K T : List Nat) : AC.z.onlyK K T = .z := rfl
@[simp] theorem AC.onlyK_bad (K T : List Nat) : AC.bad.onlyK K T = .bad := rfl
@[simp] theorem AC.onlyK_ptr (K T : List Nat) (b o : Nat) : (AC.ptr b o).onlyK K T = if T.contains (b / 65536) then .bad else .ptr b o := rfl
@[simp] theorem AC.onlyK_epn (K T : List Nat) (cells : List CV) (pos : Nat) : (AC.ep none cells pos).onlyK K T = .ep none cells pos := rfl
@[simp] theorem ltI_self (a : Int) : ltI a a = false := by simp [ltI]
@[simp] theorem ltI_zero_succ (n : Nat) : ltI 0 ((n : Int) + 1) = true := by unfold ltI; exact decide_eq_true (by omega)
@[simp] theorem eqI_self (a : Int) : eqI a a = true := by simp [eqI]
/-- An empty slice of capacity 0 as a result. -/
theorem at_unzr {P : Program} {f : FuncId} {args : List AV} {r r' : AV} (h : At P f args r) (he : r.unz = r') : At P f args r' := by
  subst he
  refine ⟨h.1, fun w vs bad0 hbad hlen hrep hglob => (h.2 w vs bad0 hbad hlen hrep hglob).mono ?_⟩
  rintro e w' ⟨v, ρr, he, hb, h1, h2, hv⟩
  exact ⟨v, ρr, he, hb, h1, h2, unz_rep hv⟩
end Go.Fw
end
section
set_option linter.all false
namespace Go.Fw
variable [Globals]

def concatM : List (Option (List CV)) → Option (List CV)
  | [] => some []
  | none :: _ => none
  | some a :: r => (concatM r).map (a ++ ·)
/-- The cells of a datum of a type. -/
def cvD {H : Type} (P : Program) : Nat → TypeId → DataW H → Option (List CV)
  | 0, _, _ => none
  | n + 1, t, d => match P.underlying t with
    | some .bool => match d with
      | .lit (.bool b) => some [.c (.bool b)]
      | _ => none
    | some (.int k) => match d with
      | .lit (.int _ m) => some [.c (.int k m)]
      | _ => none
    | some .string => match d with
      | .lit (.string l) => some [.c (.string ⟨l.toArray⟩)]
      | _ => none
    | some (.slice e) => match d with
      | .nil => some [.sl 0 []]
      | .slice l _ => (concatM (l.map (cvD P n e))).map fun c => [.sl l.length c]
      | _ => none
    | some (.struct fs) => match d with
      | .agg l => if l.length = fs.size then concatM (List.zipWith (fun f d => cvD P n f.type d) fs.toList l) else none
      | _ => none
    | some (.array k e) => match d with
      | .agg l => if l.length = k then concatM (l.map (cvD P n e)) else none
      | _ => none
    | _ => none
def contig (P : Program) : Nat → List Field → Option Nat
  | off, [] => some off
  | off, f :: r => if f.offset = off then contig P (off + P.cellsOf f.type) r else none
/-- Types of booleans, integers, strings, slices, structs and arrays alone, laid one behind the other. -/
def plainT (P : Program) : Nat → TypeId → Bool
  | 0, _ => false
  | n + 1, t => match P.underlying t with
    | some .bool => P.cellsOf t == 1
    | some (.int _) => P.cellsOf t == 1
    | some .string => P.cellsOf t == 1
    | some (.slice e) => plainT P n e && P.cellsOf t == 1
    | some (.struct fs) => fs.toList.all (fun f => plainT P n f.type) && contig P 0 fs.toList == some (P.cellsOf t)
    | some (.array k e) => plainT P n e && P.cellsOf t == k * P.cellsOf e
    | _ => false
theorem CReps.nil {w : World} {bad : Nat → Prop} : CReps w bad [] [] := ⟨rfl, by simp, by simp⟩
theorem CReps.single {w : World} {bad : Nat → Prop} {v : Value} {c : CV} (h : CRep w bad v c) (ho : v.oneCell' = true) : CReps w bad [v] [c] := by
  refine ⟨rfl, by simpa using ho, fun j u x hu hx => ?_⟩
  cases j with
  | zero => simp at hu hx; subst hu; subst hx; exact h
  | succ j => simp at hu
theorem CReps.append {w : World} {bad : Nat → Prop} {a b : List Value} {c d : List CV} (h : CReps w bad a c) (k : CReps w bad b d) : CReps w bad (a ++ b) (c ++ d) := by
  refine ⟨by simp [h.len, k.len], fun u hu => ?_, fun j u x hu hx => ?_⟩
  · rcases List.mem_append.1 hu with hu | hu
    · exact h.one u hu
    · exact k.one u hu
  · rcases Nat.lt_or_ge j a.length with hj | hj
    · rw [List.getElem?_append_left hj] at hu
      rw [List.getElem?_append_left (by rw [← h.len]; exact hj)] at hx
      exact h.rep j u x hu hx
    · rw [List.getElem?_append_right hj] at hu
      rw [List.getElem?_append_right (by rw [← h.len]; exact hj), ← h.len] at hx
      exact k.rep _ u x hu hx
theorem contig_le {P : Program} : ∀ {fl : List Field} {off tot : Nat}, contig P off fl = some tot → off ≤ tot
  | [], off, tot, h => by simp [contig] at h; omega
  | f :: r, off, tot, h => by
    rw [contig] at h
    split at h
    · have := contig_le h; omega
    · cases h
section
variable {H : Type} {enc : TypeId × Value → H} {P : Program} {w : World} {sp : Nat → Bool} {held : Bool} {bad : Nat → Prop}
theorem drop_split {α : Type} (cs : List α) {off sz tot : Nat} (h : off + sz ≤ tot) : (cs.drop off).take (tot - off) = (cs.drop off).take sz ++ (cs.drop (off + sz)).take (tot - (off + sz)) := by
  have : tot - off = sz + (tot - (off + sz)) := by omega
  rw [this, List.take_add, List.drop_drop]
theorem trod_fields {m fuel : Nat} (ih : ∀ (t : TypeId) (cs : List Value) (x : DataW H × List MemPlace) (fuel : Nat), plainT P m t = true → DataW.trod enc P w 0 sp held fuel t cs = some x → ∃ cvs, cvD P m t x.1 = some cvs ∧ CReps w bad cs cvs) {cs : List Value} :
    ∀ (fl : List Field) (xs : List (DataW H × List MemPlace)) (off tot : Nat), (fl.all fun f => plainT P m f.type) = true → contig P off fl = some tot → xs.length = fl.length →
      (∀ (i : Nat) (f : Field), fl[i]? = some f → DataW.trod enc P w 0 sp held fuel f.type ((cs.drop f.offset).take (P.cellsOf f.type)) = xs[i]?) →
      ∃ cvs, concatM (List.zipWith (fun f d => cvD P m f.type d) fl (xs.map (·.1))) = some cvs ∧ CReps w bad ((cs.drop off).take (tot - off)) cvs
  | [], xs, off, tot, _, hc, hl, _ => by
    simp [contig] at hc
    subst hc
    exact ⟨[], by simp [concatM], by simpa using CReps.nil⟩
  | f :: r, [], off, tot, _, _, hl, _ => by simp at hl
  | f :: r, x :: xs, off, tot, hp, hc, hl, ht => by
    rw [contig] at hc
    split at hc
    · rename_i ho
      simp only [List.all_cons, Bool.and_eq_true] at hp
      have h0 := ht 0 f rfl
      simp at h0
      rw [ho] at h0
      obtain ⟨c1, e1, r1⟩ := ih f.type _ x fuel hp.1 h0
      obtain ⟨c2, e2, r2⟩ := trod_fields ih r xs (off + P.cellsOf f.type) tot hp.2 hc (by simpa using hl) (fun i g hg => by simpa using ht (i + 1) g (by simpa using hg))
      refine ⟨c1 ++ c2, ?_, ?_⟩
      · simp only [List.map_cons, List.zipWith_cons_cons, e1, concatM, e2, Option.map_some]
      · rw [drop_split cs (contig_le hc)]
        exact r1.append r2
    · cases hc
theorem trod_elems {m fuel : Nat} {e : TypeId} (hp : plainT P m e = true) (ih : ∀ (t : TypeId) (cs : List Value) (x : DataW H × List MemPlace) (fuel : Nat), plainT P m t = true → DataW.trod enc P w 0 sp held fuel t cs = some x → ∃ cvs, cvD P m t x.1 = some cvs ∧ CReps w bad cs cvs) {cs : List Value} :
    ∀ (xs : List (DataW H × List MemPlace)) (i0 : Nat), (∀ i, i < xs.length → DataW.trod enc P w 0 sp held fuel e ((cs.drop ((i0 + i) * P.cellsOf e)).take (P.cellsOf e)) = xs[i]?) →
      ∃ cvs, concatM ((xs.map (·.1)).map (cvD P m e)) = some cvs ∧ CReps w bad ((cs.drop (i0 * P.cellsOf e)).take (xs.length * P.cellsOf e)) cvs
  | [], i0, _ => ⟨[], by simp [concatM], by simpa using CReps.nil⟩
  | x :: xs, i0, ht => by
    have h0 := ht 0 (by simp)
    simp at h0
    obtain ⟨c1, e1, r1⟩ := ih e _ x fuel hp h0
    obtain ⟨c2, e2, r2⟩ := trod_elems hp ih xs (i0 + 1) (fun i hi => by
      have := ht (i + 1) (by simpa using hi)
      rw [show i0 + (i + 1) = i0 + 1 + i by omega] at this
      simpa using this)
    refine ⟨c1 ++ c2, by simp only [List.map_cons, e1, concatM, e2, Option.map_some], ?_⟩
    have h1 : (i0 + 1) * P.cellsOf e = i0 * P.cellsOf e + P.cellsOf e := by rw [Nat.succ_mul]
    rw [h1] at r2
    have h2 : (x :: xs).length * P.cellsOf e = P.cellsOf e + xs.length * P.cellsOf e := by rw [List.length_cons, Nat.succ_mul]; omega
    rw [h2, List.take_add, List.drop_drop]
    exact r1.append r2
theorem addr_add (a : Addr) (i j : Nat) : (a.add i).add j = a.add (i + j) := Go.Addr.add_add a i j
theorem trod_slots {m fuel : Nat} {e : TypeId} {a : Addr} (hp : plainT P m e = true) (ih : ∀ (t : TypeId) (cs : List Value) (x : DataW H × List MemPlace) (fuel : Nat), plainT P m t = true → DataW.trod enc P w 0 sp held fuel t cs = some x → ∃ cvs, cvD P m t x.1 = some cvs ∧ CReps w bad cs cvs) :
    ∀ (xs : List (DataW H × List MemPlace)) (i0 : Nat), (∀ i, i < xs.length → (w.cells? 0 (a.add ((i0 + i) * P.cellsOf e)) (P.cellsOf e)).bind (DataW.trod enc P w 0 sp held fuel e) = xs[i]?) →
      ∃ cvs raws, concatM ((xs.map (·.1)).map (cvD P m e)) = some cvs ∧ CReps w bad raws cvs ∧ raws.length = xs.length * P.cellsOf e ∧ ∀ j u, raws[j]? = some u → w.cell? (a.add (i0 * P.cellsOf e + j)) = some u
  | [], i0, _ => ⟨[], [], by simp [concatM], CReps.nil, by simp, by simp⟩
  | x :: xs, i0, ht => by
    have h0 := ht 0 (by simp)
    simp only [Nat.add_zero, List.getElem?_cons_zero, Option.bind_eq_some_iff] at h0
    obtain ⟨us, hu, h0⟩ := h0
    obtain ⟨c1, e1, r1⟩ := ih e _ x fuel hp h0
    obtain ⟨c2, raws, e2, r2, hl, hm⟩ := trod_slots hp ih xs (i0 + 1) (fun i hi => by
      have := ht (i + 1) (by simpa using hi)
      rw [show i0 + (i + 1) = i0 + 1 + i by omega] at this
      simpa using this)
    obtain ⟨_, hul, huc⟩ := World.cells?_some hu
    refine ⟨c1 ++ c2, us ++ raws, by simp only [List.map_cons, e1, concatM, e2, Option.map_some], r1.append r2, ?_, fun j u hj => ?_⟩
    · rw [List.length_append, hul, hl, List.length_cons, Nat.succ_mul]; omega
    · rcases Nat.lt_or_ge j us.length with hj' | hj'
      · rw [List.getElem?_append_left hj'] at hj
        have := huc j (by omega)
        rw [addr_add] at this
        rw [this, hj]
      · rw [List.getElem?_append_right hj'] at hj
        have := hm _ u hj
        have h1 : (i0 + 1) * P.cellsOf e = i0 * P.cellsOf e + P.cellsOf e := by rw [Nat.succ_mul]
        rw [h1, Nat.add_assoc, show P.cellsOf e + (j - us.length) = j by omega] at this
        exact this
/-- What reads as a datum is its cells. -/
theorem trod_cvs (hbad : ∀ b, ¬ bad b) : ∀ (m : Nat) (t : TypeId) (cs : List Value) (x : DataW H × List MemPlace) (fuel : Nat), plainT P m t = true → DataW.trod enc P w 0 sp held fuel t cs = some x → ∃ cvs, cvD P m t x.1 = some cvs ∧ CReps w bad cs cvs
  | 0, t, cs, x, fuel, hp, _ => by simp [plainT] at hp
  | m + 1, t, cs, x, fuel, hp, h => by
    have ih := trod_cvs hbad m
    rw [plainT] at hp
    split at hp
    · rename_i hu
      obtain ⟨b, rfl, rfl⟩ := DataW.trod_bool hu h
      exact ⟨[.c (.bool b)], by simp [cvD, hu], .single (.c _) rfl⟩
    · rename_i k hu
      obtain ⟨n, rfl, rfl, _⟩ := DataW.trod_int hu h
      exact ⟨[.c (.int k n)], by simp [cvD, hu], .single (.c _) rfl⟩
    · rename_i hu
      obtain ⟨s, rfl, rfl, _⟩ := DataW.trod_string hu h
      exact ⟨[.c (.string s)], by simp [cvD, hu], .single (.c _) rfl⟩
    · rename_i e hu
      simp only [Bool.and_eq_true] at hp
      rcases DataW.trod_slice hu h with ⟨rfl, rfl⟩ | ⟨a, len, cap, elems, rest, n, rfl, rfl, rfl, _, hlc, hcm, hel, hE, _, _⟩
      · exact ⟨[.sl 0 []], by simp [cvD, hu], .single (.sl none 0 0 [] [] (Nat.le_refl _) (Nat.zero_le _) rfl (by simp) (by simp) (by simp)) rfl⟩
      · obtain ⟨cvs, raws, e1, r1, hl, hm⟩ := trod_slots hp.1 ih elems 0 (fun i hi => by simpa using hE i (by omega))
        refine ⟨[.sl elems.length cvs], by simp only [cvD, hu, e1, Option.map_some, List.length_map], .single ?_ rfl⟩
        rw [← hel]
        exact .sl (some a) _ cap raws cvs (by omega) hcm r1.len r1.one (fun j u hj => ⟨a, rfl, hbad _, by simpa using hm j u hj⟩) r1.rep
    · rename_i fs hu
      simp only [Bool.and_eq_true, beq_iff_eq] at hp
      obtain ⟨xs, n, rfl, rfl, hcl, hxl, hF⟩ := DataW.trod_struct hu h
      obtain ⟨cvs, e1, r1⟩ := trod_fields (fuel := n) ih (cs := cs) fs.toList xs 0 (P.cellsOf t) hp.1 hp.2 (by simpa using hxl) (fun i f hf => hF i f (by simpa using hf))
      refine ⟨cvs, by simp only [cvD, hu, e1, List.length_map, hxl, if_true], ?_⟩
      have : (cs.drop 0).take (P.cellsOf t - 0) = cs := by rw [← hcl]; simp
      rwa [this] at r1
    · rename_i k e hu
      simp only [Bool.and_eq_true, beq_iff_eq] at hp
      obtain ⟨xs, n, rfl, rfl, hcl, hxl, hE⟩ := DataW.trod_array hu h
      obtain ⟨cvs, e1, r1⟩ := trod_elems (fuel := n) hp.1 ih (cs := cs) xs 0 (fun i hi => by simpa using hE i (by omega))
      refine ⟨cvs, by simp only [cvD, hu, e1, List.length_map, hxl, if_true], ?_⟩
      have : (cs.drop (0 * P.cellsOf e)).take (xs.length * P.cellsOf e) = cs := by
        rw [hxl, ← hp.2, ← hcl]; simp
      rwa [this] at r1
    · cases hp
open Go.WideShapes in
/-- A struct that came in. -/
theorem rep_struct {m : Nat} {t : TypeId} {fs : Array Field} {v : Value} {d : DataW H} {p : List MemPlace} {r : Go.Reach} {b0 : Nat} (hu : P.underlying t = some (.struct fs)) (hp : plainT P m t = true) (hv : Value.okWide P w r b0 t v)
    (h : DataW.Trod enc P w 0 sp held t v d p) : ∃ cvs, cvD P m t d = some cvs ∧ AVRep w noneF (beta0 fun _ => False) v (.agg (cvs.map .p)) := by
  obtain ⟨cs, rfl, hsz⟩ := okWide_struct hu hv
  obtain ⟨fuel, hf⟩ := h
  obtain ⟨cvs, e, hr⟩ := trod_cvs (bad := Bad noneF (beta0 fun _ => False)) (fun b hb => (bad_none _ _).1 hb) m t _ _ _ hp hf
  have hr : CReps w (Bad noneF (beta0 fun _ => False)) cs.toList cvs := hr
  refine ⟨cvs, e, .agg cs _ (by have := hr.len; simpa using this) hr.one fun j u x hj hx => ?_⟩
  rw [List.getElem?_map, Option.map_eq_some_iff] at hx
  obtain ⟨c, hc, rfl⟩ := hx
  exact hr.rep j u c (by simpa using hj) hc
open Go.WideShapes in
/-- A slice that came in. -/
theorem rep_slice {m : Nat} {t e : TypeId} {v : Value} {d : DataW H} {p : List MemPlace} {r : Go.Reach} {b0 : Nat} (hu : P.underlying t = some (.slice e)) (hp : plainT P m t = true) (hv : Value.okWide P w r b0 t v)
    (h : DataW.Trod enc P w 0 sp held t v d p) : ∃ c, cvD P m t d = some [c] ∧ AVRep w noneF (beta0 fun _ => False) v (.cell (.p c)) := by
  obtain ⟨a, len, cap, rfl⟩ := okWide_slice hu hv
  obtain ⟨fuel, hf⟩ := h
  obtain ⟨cvs, e, hr⟩ := trod_cvs (bad := Bad noneF (beta0 fun _ => False)) (fun b hb => (bad_none _ _).1 hb) m t _ _ _ hp hf
  have hl := hr.len
  match cvs, hl with
  | [c], _ => exact ⟨c, e, .cell _ _ (hr.rep 0 _ _ rfl rfl)⟩
/-- A package variable, by what it reads as. -/
theorem rep_global {m g : Nat} {t : TypeId} {cs : List Value} {x : DataW H × List MemPlace} {fuel : Nat} {cells : List CV} (hp : plainT P m t = true) (h : DataW.trod enc P w 0 sp held fuel t cs = some x) (hx : cvD P m t x.1 = some cells)
    (hc : ∀ j, w.cell? ⟨g, j, none⟩ = cs[j]?) : AVRep w noneF (beta0 fun _ => False) (.pointer (some ⟨g, 0, none⟩)) (.cell (.ep none cells 0)) := by
  obtain ⟨cvs, e, hr⟩ := trod_cvs (bad := Bad noneF (beta0 fun _ => False)) (fun b hb => (bad_none _ _).1 hb) m t _ _ _ hp h
  rw [hx] at e
  cases e
  have ha : ∀ j, (⟨g, 0, none⟩ : Addr).add j = ⟨g, j, none⟩ := fun j => by
    cases j with
    | zero => rfl
    | succ j => simp [Addr.add]
  refine .cell _ _ ⟨⟨g, 0, none⟩, cs, by rw [ha], fun j u hj => ⟨fun hb => (bad_none _ _).1 hb, by rw [ha, hc, hj]⟩, hr⟩
end
/-! What the cells are. -/
theorem concatM_map {α δ : Type} {f : δ → Option (List CV)} {g : α → List CV} : ∀ {l : List δ} {c : List CV}, (∀ d ∈ l, ∀ c, f d = some c → ∃ x, c = g x) → concatM (l.map f) = some c → ∃ L : List α, L.length = l.length ∧ c = L.flatMap g
  | [], c, _, h => by simp [concatM] at h; subst h; exact ⟨[], rfl, rfl⟩
  | d :: l, c, hf, h => by
    rw [List.map_cons] at h
    cases hd : f d with
    | none => rw [hd] at h; simp [concatM] at h
    | some a =>
      rw [hd, concatM, Option.map_eq_some_iff] at h
      obtain ⟨b, hb, rfl⟩ := h
      obtain ⟨x, rfl⟩ := hf d (by simp) a hd
      obtain ⟨L, hL, rfl⟩ := concatM_map (fun d hd => hf d (by simp [hd])) hb
      exact ⟨x :: L, by simp [hL], by simp⟩
theorem concatM_cons {o : Option (List CV)} {r : List (Option (List CV))} {c : List CV} (h : concatM (o :: r) = some c) : ∃ a b, o = some a ∧ concatM r = some b ∧ c = a ++ b := by
  cases o with
  | none => simp [concatM] at h
  | some a =>
    rw [concatM, Option.map_eq_some_iff] at h
    obtain ⟨b, hb, rfl⟩ := h
    exact ⟨a, b, rfl, hb, rfl⟩
theorem concatM_nil {c : List CV} (h : concatM [] = some c) : c = [] := by simpa [concatM] using h.symm
section
variable {H : Type} {P : Program} {n t e : Nat} {d : DataW H} {c : List CV}
theorem cvD_int {k : IntKind} (hu : P.underlying t = some (.int k)) (h : cvD P n t d = some c) : ∃ m, c = [.c (.int k m)] := by
  cases n with
  | zero => simp [cvD] at h
  | succ n =>
    simp only [cvD, hu] at h
    split at h
    · exact ⟨_, (Option.some.inj h).symm⟩
    · cases h
theorem cvD_bool (hu : P.underlying t = some .bool) (h : cvD P n t d = some c) : ∃ b, c = [.c (.bool b)] := by
  cases n with
  | zero => simp [cvD] at h
  | succ n =>
    simp only [cvD, hu] at h
    split at h
    · exact ⟨_, (Option.some.inj h).symm⟩
    · cases h
theorem cvD_string (hu : P.underlying t = some .string) (h : cvD P n t d = some c) : ∃ s, c = [.c (.string s)] := by
  cases n with
  | zero => simp [cvD] at h
  | succ n =>
    simp only [cvD, hu] at h
    split at h
    · exact ⟨_, (Option.some.inj h).symm⟩
    · cases h
theorem cvD_slice {α : Type} {g : α → List CV} (hu : P.underlying t = some (.slice e)) (hg : ∀ n (d : DataW H) c, cvD P n e d = some c → ∃ x, c = g x) (h : cvD P n t d = some c) : ∃ L : List α, c = [.sl L.length (L.flatMap g)] := by
  cases n with
  | zero => simp [cvD] at h
  | succ n =>
    simp only [cvD, hu] at h
    split at h
    · exact ⟨[], (Option.some.inj h).symm⟩
    · rename_i l _
      rw [Option.map_eq_some_iff] at h
      obtain ⟨b, hb, rfl⟩ := h
      obtain ⟨L, hL, rfl⟩ := concatM_map (fun d _ c hc => hg n d c hc) hb
      exact ⟨L, by rw [hL]⟩
    · cases h
theorem cvD_struct {fs : Array Field} (hu : P.underlying t = some (.struct fs)) (h : cvD P n t d = some c) : ∃ m l, n = m + 1 ∧ d = .agg l ∧ l.length = fs.size ∧ concatM (List.zipWith (fun f d => cvD P m f.type d) fs.toList l) = some c := by
  cases n with
  | zero => simp [cvD] at h
  | succ n =>
    simp only [cvD, hu] at h
    split at h
    · split at h
      · rename_i l hl
        exact ⟨n, _, rfl, rfl, by assumption, h⟩
      · cases h
    · cases h
end
end Go.Fw
end
