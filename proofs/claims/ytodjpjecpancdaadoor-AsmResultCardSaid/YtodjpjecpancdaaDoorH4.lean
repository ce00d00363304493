/- Contracts of functions, by their numbers, and the laws that walk them. Conditions: as each states. -/
import Derived.Test.YtodjpjecpancdaaDoorH3
import Derived.Test.YtodjpjecpancdaaDoorProg
import Derived.KernelRfl
import Derived.RecoverIn
set_option linter.all false
section
set_option linter.all false
namespace Go.Hw
/-- A type whose values fill a row of cells. -/
class Enc (α : Type) where
 sz : Nat
 enc : α -> List CV
 len : ∀ x, (enc x).length = sz
def encL {α : Type} [Enc α] (l : List α) : List CV := l.flatMap Enc.enc
instance : Enc Int := ⟨1, fun n => [.c (.int .i64 n)], fun _ => rfl⟩
instance : Enc Bool := ⟨1, fun b => [.c (.bool b)], fun _ => rfl⟩
instance : Enc ByteArray := ⟨1, fun s => [.c (.string s)], fun _ => rfl⟩
instance : Enc UInt8 := ⟨1, fun b => [.c (.int .u8 (b.toNat : Int))], fun _ => rfl⟩
instance {α : Type} [Enc α] : Enc (List α) := ⟨1, fun l => [.sl l.length (encL l)], fun _ => rfl⟩
@[simp] theorem enc_int (n : Int) : Enc.enc n = [CV.c (.int .i64 n)] := rfl
@[simp] theorem enc_bool (n : Bool) : Enc.enc n = [CV.c (.bool n)] := rfl
@[simp] theorem enc_str (n : ByteArray) : Enc.enc n = [CV.c (.string n)] := rfl
@[simp] theorem enc_u8 (n : UInt8) : Enc.enc n = [CV.c (.int .u8 (n.toNat : Int))] := rfl
@[simp] theorem enc_list {α : Type} [Enc α] (l : List α) : Enc.enc l = [CV.sl l.length (encL l)] := rfl
@[simp] theorem sz_int : Enc.sz Int = 1 := rfl
@[simp] theorem sz_bool : Enc.sz Bool = 1 := rfl
@[simp] theorem sz_str : Enc.sz ByteArray = 1 := rfl
@[simp] theorem sz_u8 : Enc.sz UInt8 = 1 := rfl
@[simp] theorem sz_list {α : Type} [Enc α] : Enc.sz (List α) = 1 := rfl
/-! Arrays. -/
structure Arr (n : Nat) (α : Type) where
 f : Nat -> α
instance {n : Nat} {α : Type} [Inhabited α] : Inhabited (Arr n α) := ⟨⟨fun _ => default⟩⟩
theorem flatMap_len {α β : Type} (l : List α) (g : α -> List β) (k : Nat) (h : ∀ x ∈ l, (g x).length = k) : (l.flatMap g).length = l.length * k := by
 induction l with
 | nil => simp
 | cons x l ih =>
  have h1 := h x (by simp)
  have h2 := ih fun y hy => h y (by simp [hy])
  simp [h1, h2, Nat.add_mul]; omega
instance {n : Nat} {α : Type} [Enc α] : Enc (Arr n α) := ⟨n * Enc.sz α, fun a => (List.range n).flatMap fun j => Enc.enc (a.f j), fun a => by rw [flatMap_len _ _ (Enc.sz α) (fun _ _ => Enc.len _)]; simp⟩
variable [Globals]
section
variable {α : Type} [Enc α]
@[simp] theorem encL_nil : encL ([] : List α) = [] := rfl
@[simp] theorem encL_cons (x : α) (l : List α) : encL (x :: l) = Enc.enc x ++ encL l := rfl
@[simp] theorem encL_append (l r : List α) : encL (l ++ r) = encL l ++ encL r := by simp [encL]
@[simp] theorem encL_length (l : List α) : (encL l).length = l.length * Enc.sz α := by
 induction l with
 | nil => simp
 | cons x l ih => simp [ih, Enc.len, Nat.add_mul]; omega
theorem encL_drop (l : List α) (k : Nat) : (encL l).drop (k * Enc.sz α) = encL (l.drop k) := by
 induction l generalizing k with
 | nil => simp
 | cons x l ih =>
  cases k with
  | zero => simp
  | succ k =>
   have : (k + 1) * Enc.sz α = (Enc.enc x).length + k * Enc.sz α := by rw [Enc.len, Nat.add_mul]; omega
   rw [this]; simp [<- ih, List.drop_append]
theorem encL_take (l : List α) (k : Nat) : (encL l).take (k * Enc.sz α) = encL (l.take k) := by
 induction l generalizing k with
 | nil => simp
 | cons x l ih =>
  cases k with
  | zero => simp
  | succ k =>
   have : (k + 1) * Enc.sz α = (Enc.enc x).length + k * Enc.sz α := by rw [Enc.len, Nat.add_mul]; omega
   rw [this]; simp [<- ih, List.take_append, List.take_of_length_le]
theorem encL_all (l : List α) : (encL l).take (l.length * Enc.sz α) = encL l := by rw [encL_take, List.take_length]
theorem encL_split {l : List α} {j : Nat} {x : α} (hx : l[j]? = some x) : encL l = encL (l.take j) ++ (Enc.enc x ++ encL (l.drop (j + 1))) := by
 obtain ⟨h, rfl⟩ := List.getElem?_eq_some_iff.1 hx
 have e := congrArg encL (List.take_append_drop j l)
 rw [List.drop_eq_getElem_cons h] at e
 exact e.symm.trans (by rw [encL_append, encL_cons])
theorem encL_pre {l : List α} {j : Nat} {x : α} (hx : l[j]? = some x) : (encL (l.take j)).length = j * Enc.sz α := by
 obtain ⟨h, _⟩ := List.getElem?_eq_some_iff.1 hx
 rw [encL_length, List.length_take]
 congr 1; omega
theorem encL_get {l : List α} {j : Nat} {x : α} (hx : l[j]? = some x) {f : Nat} (hf : f < Enc.sz α) : (encL l)[j * Enc.sz α + f]? = (Enc.enc x)[f]? := by
 rw [encL_split hx, List.getElem?_append_right (by rw [encL_pre hx]; omega), encL_pre hx, Nat.add_sub_cancel_left, List.getElem?_append_left (by rw [Enc.len]; exact hf)]
theorem encL_seg {l : List α} {j : Nat} {x : α} (hx : l[j]? = some x) {f n : Nat} (hf : f + n <= Enc.sz α) : ((encL l).drop (j * Enc.sz α + f)).take n = ((Enc.enc x).drop f).take n := by
 have h1 : f + n <= (Enc.enc x).length := by rw [Enc.len]; exact hf
 rw [encL_split hx, <- encL_pre hx, <- List.drop_drop, List.drop_left, List.drop_append_of_le_length (by omega), List.take_append_of_le_length (by simp; omega)]
/-- A load of a part of an element. -/
theorem partCV_enc {P : Program} {t : TypeId} {l : List α} {j : Nat} {x : α} (hx : l[j]? = some x) {f : Nat} {v : AV} (h : partCV P t (Enc.enc x) f = some v) : partCV P t (encL l) (j * Enc.sz α + f) = some v := by
 have hlt : j < l.length := (List.getElem?_eq_some_iff.1 hx).1
 unfold partCV at h ⊢
 split at h
 ·rename_i s h1 h2
  split at h
  ·rename_i hle
   rw [Enc.len] at hle
   rw [encL_seg hx hle, if_pos, h]
   have := Nat.mul_le_mul_right (Enc.sz α) (show j + 1 <= l.length from hlt)
   rw [encL_length]; rw [Nat.add_mul] at this; omega
  ·cases h
 ·rename_i h1
  rw [encL_get hx, h]
  rcases Nat.lt_or_ge f (Enc.sz α) with h' | h'
  ·exact h'
  ·rw [List.getElem?_eq_none (by rw [Enc.len]; exact h')] at h; cases h
 ·cases h
theorem partCV_enc1 {P : Program} {t : TypeId} {l : List α} {j : Nat} {x : α} (hx : l[j]? = some x) {v : AV} (h : partCV P t (Enc.enc x) 0 = some v) (hz : Enc.sz α = 1 := by rfl) : partCV P t (encL l) j = some v := by
 have := partCV_enc hx h
 rwa [hz, Nat.mul_one] at this
@[simp] theorem encL_takeN (l : List α) {n : Nat} (h : Enc.sz α = n) : (encL l).take (l.length * n) = encL l := by subst h; exact encL_all l
@[simp] theorem encL_take1 (l : List α) (h : Enc.sz α = 1) : (encL l).take l.length = encL l := by have := encL_all l; rwa [h, Nat.mul_one] at this
theorem setRun_append {β : Type} (a b : List β) (n : Nat) (v : List β) : setRun (a ++ b) (a.length + n) v = a ++ setRun b n v := by
 induction v generalizing b n with
 | nil => rfl
 | cons x v ih =>
  show setRun ((a ++ b).set (a.length + n) x) (a.length + n + 1) v = _
  rw [List.set_append_right _ _ (by omega), Nat.add_sub_cancel_left, Nat.add_assoc, ih]; rfl
theorem setRun_left {β : Type} (a b : List β) (n : Nat) (v : List β) (h : n + v.length <= a.length) : setRun (a ++ b) n v = setRun a n v ++ b := by
 induction v generalizing a n with
 | nil => rfl
 | cons x v ih =>
  simp only [List.length_cons] at h
  show setRun ((a ++ b).set n x) (n + 1) v = setRun (a.set n x) (n + 1) v ++ b
  rw [List.set_append_left _ _ (by omega), ih _ _ (by simp; omega)]
/-- A store into a part of an element. -/
theorem setRun_enc {l : List α} {j : Nat} {x y : α} (hx : l[j]? = some x) {f : Nat} {v : List CV} (hf : f + v.length <= Enc.sz α) (h : setRun (Enc.enc x) f v = Enc.enc y) : setRun (encL l) (j * Enc.sz α + f) v = encL (l.set j y) := by
 obtain ⟨hlt, rfl⟩ := List.getElem?_eq_some_iff.1 hx
 rw [encL_split hx, <- encL_pre hx, setRun_append, setRun_left _ _ _ _ (by rw [Enc.len]; exact hf), h]
 have e : (l.set j y)[j]? = some y := by rw [List.getElem?_set]; simp [hlt]
 rw [encL_split e]
 simp [List.take_set_of_le, List.drop_set_of_lt]
end
theorem ord_c {ops : Array Oper} {i j : Nat} {B C : Prop} (h : ordB ops i j = true) (k : B /\ C) : (ordB ops i j = true /\ B) /\ C := ⟨⟨h, k.1⟩, k.2⟩
theorem ord_d {ops : Array Oper} {i j : Nat} {A B C : Prop} (h : ordB ops i j = true) (k : B /\ C) : ((ordB ops i j = true \/ A) /\ B) /\ C := ⟨⟨.inl h, k.1⟩, k.2⟩
theorem ord_c3 {ops : Array Oper} {i j : Nat} {B C D : Prop} (h : ordB ops i j = true) (k : B /\ (C /\ D)) : (((ordB ops i j = true /\ B) /\ C) /\ D) := ⟨⟨⟨h, k.1⟩, k.2.1⟩, k.2.2⟩
theorem ord_d3 {ops : Array Oper} {i j : Nat} {A B C D : Prop} (h : ordB ops i j = true) (k : B /\ (C /\ D)) : ((((ordB ops i j = true \/ A) /\ B) /\ C) /\ D) := ⟨⟨⟨.inl h, k.1⟩, k.2.1⟩, k.2.2⟩
theorem take_one {β : Type} {l : List β} {k : Nat} {v : β} (h : l[k]? = some v) : (l.drop k).take 1 = [v] := by
 obtain ⟨h1, rfl⟩ := List.getElem?_eq_some_iff.1 h
 rw [List.drop_eq_getElem_cons h1]; rfl
theorem get_of {β : Type} {l : List β} {k : Nat} {v : β} (h : l[k]? = some v) (hh : k < l.length) : l[k]'hh = v := by
 rw [List.getElem?_eq_getElem hh] at h; exact Option.some.inj h
/-! Reading by number. -/
def getI {α : Type} (l : List α) (i : Int) : Option α := if 0 <= i then l[i.toNat]? else none
theorem getI_some {α : Type} {l : List α} {i : Int} {x : α} (h : getI l i = some x) : 0 <= i /\ i < l.length /\ i.toNat < l.length /\ l[i.toNat]? = some x := by
 unfold getI at h
 split at h
 ·rename_i h0
  obtain ⟨h1, _⟩ := List.getElem?_eq_some_iff.1 h
  exact ⟨h0, by omega, h1, h⟩
 ·cases h
theorem getN_some {α : Type} {l : List α} {i : Nat} {x : α} (h : l[i]? = some x) : i < l.length := (List.getElem?_eq_some_iff.1 h).1
def getS (s : ByteArray) (i : Int) : Option UInt8 := if 0 <= i then s[i.toNat]? else none
theorem getS_some {s : ByteArray} {i : Int} {x : UInt8} (h : getS s i = some x) : 0 <= i /\ i < s.size /\ i.toNat < s.size /\ s[i.toNat]? = some x := by
 unfold getS at h
 split at h
 ·rename_i h0
  have h1 : i.toNat < s.size := by
   rcases Nat.lt_or_ge i.toNat s.size with h' | h'
   ·exact h'
   ·rw [getElem?_neg s i.toNat (by simpa using h')] at h; cases h
  exact ⟨h0, by omega, h1, h⟩
 ·cases h
/-- A number within bounds. -/
def inB (i : Int) (n : Nat) : Bool := decide (0 <= i /\ i < n)
/-- A row of n elements of b bytes can be made. -/
def limB (b n : Nat) : Bool := decide (n <= 1099511627776 /\ n * b <= 140737488355328)
theorem limB_t {b n : Nat} (h : limB b n = true) : n <= 1099511627776 /\ n * b <= 140737488355328 := by simpa [limB] using h
def guardO {α : Type} (c : Bool) (k : Option α) : Option α := cond c k none
theorem guardO_some {α : Type} {c : Bool} {k : Option α} {r : α} (h : guardO c k = some r) : c = true /\ k = some r := by
 cases c with
 | true => exact ⟨rfl, h⟩
 | false => cases h
theorem bindO {α β : Type} {o : Option α} {f : α -> Option β} {r : β} (h : o.bind f = some r) : ∃ x, o = some x /\ f x = some r := Option.bind_eq_some_iff.1 h
/-- A condition, as_ the text of the specification has it. -/
theorem condK_spec {c : Bool} (d : Bool) {A B : St -> Prop} {st : St} (h : c = d) (h1 : d = true -> A st) (h2 : d = false -> B st) : condK (bV c) A B st := by
 subst h; exact ⟨h1, h2⟩
theorem gsel_split {P : Program} {g i : Nat} {op : Op} {st : St} {X E : AV -> St -> Prop} {c : Bool} (h1 : c = true -> gsel P g i (some c) op st X E) (h2 : c = false -> gsel P g i (some c) op st X E) : gsel P g i (some c) op st X E := by
 cases c with
 | true => exact h1 rfl
 | false => exact h2 rfl
/-! Ghost steps ahead of code. -/
def ghC : Code -> Bool
 | .region _ _ _ => true
 | .seq a _ => ghC a
 | .block _ a => ghC a
 | .scope a => ghC a
 | .loop _ => true
 | .rangeFunc _ _ _ _ => true
 | _ => false
theorem awp_gh {P : Program} : ∀ {c : Code} {Q : AX -> St -> Prop} {s s' : St}, ghC c = true -> Gh s s' -> awp P c Q s' -> awp P c Q s
 | .region _ _ false, Q, s, s', _, hg, h => by obtain ⟨t, h1, h2⟩ := h; exact ⟨t, hg.trans h1, h2⟩
 | .region _ _ true, Q, s, s', _, hg, h => by obtain ⟨t, h1, h2⟩ := h; exact ⟨t, hg.trans h1, h2⟩
 | .seq a b, Q, s, s', hc, hg, h => awp_gh (c := a) hc hg h
 | .block _ a, Q, s, s', hc, hg, h => awp_gh (c := a) hc hg h
 | .scope a, Q, s, s', hc, hg, h => awp_gh (c := a) hc hg h
 | .loop b, Q, s, s', _, hg, h => by obtain ⟨I, μ, t, h1, h2⟩ := h; exact ⟨I, μ, t, hg.trans h1, h2⟩
 | .rangeFunc _ _ _ _, Q, s, s', _, hg, h => by obtain ⟨t, A, h1, h2⟩ := h; exact ⟨t, A, hg.trans h1, h2⟩
 | .skip, _, _, _, hc, _, _ => by cases hc
 | .cond _ _ _, _, _, _, hc, _, _ => by cases hc
 | .exit _, _, _, _, hc, _, _ => by cases hc
 | .label _, _, _, _, hc, _, _ => by cases hc
 | .goto _, _, _, _, hc, _, _ => by cases hc
 | .ret, _, _, _, hc, _, _ => by cases hc
 | .refuse _, _, _, _, hc, _, _ => by cases hc
/-- A cut: whatever way the first part is left, the second is walked once. -/
theorem awp_cutK {V : Type} {P : Program} {a b : Code} {Q : AX -> St -> Prop} {st : St} (p : V -> St -> Prop) (hb : ghC b = true)
  (h1 : ∀ K : AX -> St -> Prop, (∀ v s s', Gh s s' -> p v s' -> K .normal s) -> (∀ e s, e ≠ .normal -> Q e s -> K e s) -> awp P a K st) (h2 : ∀ v s, p v s -> awp P b Q s) : awp P a (xSeq P b Q) st := by
 refine h1 _ (fun v s s' hg hp => awp_gh hb hg (h2 v s' hp)) fun e s he hq => ?_
 cases e with
 | normal => exact (he rfl).elim
 | _ => exact hq
theorem awp_cut0 {V : Type} {P : Program} {a b : Code} {Q : AX -> St -> Prop} {st : St} (p : V -> St -> Prop)
  (h1 : ∀ K : AX -> St -> Prop, (∀ v s, p v s -> K .normal s) -> (∀ e s, e ≠ .normal -> Q e s -> K e s) -> awp P a K st) (h2 : ∀ v s, p v s -> awp P b Q s) : awp P a (xSeq P b Q) st := by
 refine h1 _ (fun v s hp => h2 v s hp) fun e s he hq => ?_
 cases e with
 | normal => exact (he rfl).elim
 | _ => exact hq
theorem rPost_gh {I : (Id -> Option Blk) -> Nat -> Prop} {s0 s s' : St} {Q : AX -> St -> Prop} (hg : Gh s s') (h : I s'.hp s'.gen) : rPost s0 (noA I) Q .normal s := ⟨s', none, hg, .inr rfl, rfl, h⟩
theorem map_get {α β : Type} {l : List α} {f : α -> β} {k : Nat} {x : β} (h : (l.map f)[k]? = some x) : ∃ y, l[k]? = some y /\ x = f y := by
 rw [List.getElem?_map, Option.map_eq_some_iff] at h
 obtain ⟨y, h1, h2⟩ := h; exact ⟨y, h1, h2.symm⟩
theorem drop_at {α : Type} {l : List α} {k : Nat} {x : α} (h : l[k]? = some x) : l.drop k = x :: l.drop (k + 1) := by
 obtain ⟨h1, rfl⟩ := List.getElem?_eq_some_iff.1 h
 exact List.drop_eq_getElem_cons h1
/-! Lengths of what is given. -/
theorem condT {α : Type} {c : Bool} {A B : Option α} {r : α} (h : c = true) (hs : cond c A B = some r) : A = some r := by subst h; exact hs
theorem condF {α : Type} {c : Bool} {A B : Option α} {r : α} (h : c = false) (hs : cond c A B = some r) : B = some r := by subst h; exact hs
theorem condK_t {c : Bool} {A B : St -> Prop} {st : St} (h : c = true) (h1 : A st) : condK (bV c) A B st := by subst h; exact ⟨fun _ => h1, fun h => by cases h⟩
theorem condK_f {c : Bool} {A B : St -> Prop} {st : St} (h : c = false) (h1 : B st) : condK (bV c) A B st := by subst h; exact ⟨fun h => by (cases h), fun _ => h1⟩
theorem drop_end {α : Type} {l : List α} {k : Nat} (h : [] = l.drop k) : ¬ k < l.length := by
 have := congrArg List.length h; simp at this; omega
theorem drop_next {α : Type} {l r : List α} {k : Nat} {x : α} (h : x :: r = l.drop k) : l[k]? = some x /\ k < l.length /\ r = l.drop (k + 1) := by
 have h1 : k < l.length := by have := congrArg List.length h; simp at this; omega
 rw [List.drop_eq_getElem_cons h1] at h
 injection h with h2 h3
 exact ⟨by rw [List.getElem?_eq_getElem h1, h2], h1, h3⟩
def lenB (n : Nat) : Bool := decide (n <= 1099511627776)
theorem wrap_succG {k n : Nat} (h : k < n) (hn : lenB n = true) : IntKind.i64.wrap ((k : Int) + 1) = ((k + 1 : Nat) : Int) := by
 simp [lenB] at hn
 rw [wrap_i64 (by omega) (by omega)]; simp
theorem under_call {α : Type} [Inhabited α] {c : Bool} {o : Option α} (h : orB (!c) o.isSome = true) (hc : c = true) : o = some (o.getD default) := by
 subst hc
 cases o with
 | none => simp [orB] at h
 | some x => rfl
theorem getB_eq {s : ByteArray} {i : Nat} {x : UInt8} (h : s[i]? = some x) (hh : i < s.size) : s[i]'hh = x := by
 rw [getElem?_pos s i hh] at h; exact Option.some.inj h
def strB2 (a b : ByteArray) : Bool := decide (a.size + b.size <= 4611686018427387904)
def mkB2 (b : Nat) (n : Int) : Bool := decide (0 <= n /\ (b : Int) * n <= 281474976710656 /\ n <= 1099511627776)
theorem getB_some {s : ByteArray} {i : Nat} {x : UInt8} (h : s[i]? = some x) : i < s.size := by
 rcases Nat.lt_or_ge i s.size with h' | h'
 ·exact h'
 ·rw [getElem?_neg s i (by simpa using h')] at h; cases h
theorem partCV_cons {P : Program} {t : TypeId} {a : CV} {l : List CV} {off : Nat} : partCV P t (a :: l) off = match aggB P t, szOf P t with
 | some true, some s => if off + s <= (a :: l).length then some (.agg ((((a :: l).drop off).take s).map .p)) else none
 | some false, _ => ((a :: l)[off]?).map fun x => .cell (.p x)
 | _, _ => none := rfl
attribute [simp] partCV_cons
/-! Empty slices as_ pure ones. -/
def Blk.unz : Blk -> Blk
 | .cells l => .cells (l.map AC.unz)
 | b => b
def St.unz (st : St) : St := { st with env := fun s => (st.env s).unz, hp := fun i => (st.hp i).map Blk.unz }
theorem unz_cell {w : World} {m : Mem} {bad0 : Nat -> Prop} {hs : List Nat} {v : Value} {x : AC} (h : CellR w m bad0 hs v x) : CellR w m bad0 hs v x.unz := by
 cases x <;> try exact h
 exact unz_ac (x := .z) h
theorem Gh.unz (st : St) : Gh st st.unz := by
 intro C a w m hJ
 refine ⟨m, hJ.withHp _ _ (fun s => unz_rep (hJ.env s)) (fun i b hb => ?_)⟩
 rw [Option.map_eq_some_iff] at hb
 obtain ⟨b0, hb0, rfl⟩ := hb
 obtain ⟨h1, h2⟩ := hJ.hp i b0 hb0
 refine ⟨h1, ?_⟩
 cases b0 with
 | pure l => exact h2
 | map ks vs => exact h2
 | cells l =>
  show CellsR w m C.bad0 i (l.map AC.unz)
  have h3 : CellsR w m C.bad0 i l := h2
  unfold CellsR at h3 ⊢
  cases hs : m.ρ i with
  | un => rw [hs] at h3; exact h3
  | dead => rw [hs] at h3; exact h3
  | vd => rw [hs] at h3; simp only at h3 ⊢; rw [h3]; rfl
  | at_ g base =>
   rw [hs] at h3
   obtain ⟨cur, e, fr, hg, hfr, hl, hc⟩ := h3
   refine ⟨cur, e, fr, hg, hfr, by simpa using hl, fun j u x hu hx => ?_⟩
   rw [List.getElem?_map, Option.map_eq_some_iff] at hx
   obtain ⟨y, hy, rfl⟩ := hx
   obtain ⟨h4, h5⟩ := hc j u y hu hy
   exact ⟨h4, unz_cell h5⟩
@[simp] theorem unz_env (st : St) (s : Nat) : st.unz.env s = (st.env s).unz := rfl
@[simp] theorem unz_hp (st : St) (i : Id) : st.unz.hp i = (st.hp i).map Blk.unz := rfl
@[simp] theorem unz_gen (st : St) : st.unz.gen = st.gen := rfl
attribute [simp] Blk.unz
def Arr.of {α : Type} [Inhabited α] (n : Nat) (l : List α) : Arr n α := ⟨fun j => l.getD j default⟩
def Arr.set {n : Nat} {α : Type} (a : Arr n α) (k : Nat) (v : α) : Arr n α := ⟨fun j => if j = k then v else a.f j⟩
theorem arr_read {β : Type} {n : Nat} (g : Nat -> β) {k : Nat} (h : k < n) : ((List.range n).map g)[k]? = some (g k) := by simp [h]
theorem arr_readL {α β : Type} [Inhabited α] (l : List α) (g : α -> β) {k n : Nat} (h : k < l.length) : (l.map g)[k]? = some (g ((Arr.of n l).f k)) := by
 simp [Arr.of, h]
def gd {α : Type} [Inhabited α] (l : List α) (n : Nat) : α := l.getD n default
/-- An element behind a condition. -/
theorem under_elem {α : Type} [Inhabited α] {c : Bool} {l : List α} {i : Int} (h : orB (!c) (inB i l.length) = true) (hc : c = true) : 0 <= i /\ i < l.length /\ i.toNat < l.length /\ l[i.toNat]? = some (gd l i.toNat) := by
 unfold gd
 subst hc
 simp [orB, inB] at h
 have h2 : i.toNat < l.length := by omega
 refine ⟨h.1, h.2, h2, ?_⟩
 rw [List.getD_eq_getElem?_getD, List.getElem?_eq_getElem h2]; rfl
def bget (s : ByteArray) (k : Nat) : UInt8 := s[k]?.getD 0
theorem under_byte {c : Bool} {s : ByteArray} {i : Int} (h : orB (!c) (inB i s.size) = true) (hc : c = true) : 0 <= i /\ i.toNat < s.size /\ s[i.toNat]? = some (bget s i.toNat) := by
 subst hc
 simp [orB, inB] at h
 have h2 : i.toNat < s.size := by omega
 refine ⟨h.1, h2, ?_⟩
 unfold bget
 rw [getElem?_pos s i.toNat h2]; rfl
theorem inB_t {i : Int} {n : Nat} (h : inB i n = true) : 0 <= i /\ i < n /\ i.toNat < n := by simp [inB] at h; omega
/-! Parts of slices and strings. -/
def slB (l h n : Int) : Bool := decide (0 <= l /\ l <= h /\ h <= n)
theorem slB_t {l h n : Int} (e : slB l h n = true) : 0 <= l /\ l <= h /\ h <= n := by simpa [slB] using e
def subL {α : Type} (l : List α) (a b : Int) : List α := (l.drop a.toNat).take (b - a).toNat
theorem subL_len {α : Type} {l : List α} {a b : Int} (h : 0 <= a /\ a <= b /\ b <= l.length) : (subL l a b).length = (b - a).toNat := by
 unfold subL; rw [List.length_take, List.length_drop]; omega
theorem subL_enc {α : Type} [Enc α] {l : List α} {a b : Int} : ((encL l).drop (a.toNat * Enc.sz α)).take ((b - a).toNat * Enc.sz α) = encL (subL l a b) := by
 unfold subL; rw [encL_drop, encL_take]
theorem subL_ok {α : Type} [Enc α] {l : List α} {a b : Int} (h : LenOk (.sl l.length (encL l))) : LenOk (.sl (subL l a b).length (encL (subL l a b))) := by
 refine .sl _ _ ?_ fun x hx => ?_
 ·refine Nat.le_trans ?_ h.len
  unfold subL; rw [List.length_take, List.length_drop]; omega
 ·refine h.mem ?_
  rw [<- subL_enc] at hx
  exact List.mem_of_mem_drop (List.mem_of_mem_take hx)
/-! Blocks that turn pure. -/
def St.pur (st : St) (b : Id) : St := match st.hp b with
 | some (.cells l) => match toCVs l with
  | some cs => { st with hp := fun i => if i = b then some (.pure cs) else st.hp i }
  | none => st
 | _ => st
@[simp] theorem toCVs_append (a b : List AC) : toCVs (a ++ b) = match toCVs a, toCVs b with | some x, some y => some (x ++ y) | _, _ => none := by
 induction a with
 | nil => simp; cases toCVs b <;> rfl
 | cons x a ih =>
  simp only [List.cons_append, toCVs, ih]
  cases x.toCV <;> cases toCVs a <;> cases toCVs b <;> rfl
theorem toCVs_unz : ∀ {l : List AC} {cs : List CV}, toCVs l = some cs -> l.map AC.unz = cs.map .p
 | [], cs, h => by simp [toCVs] at h; subst h; rfl
 | x :: l, cs, h => by
  simp only [toCVs] at h
  split at h
  ·rename_i c l' h1 h2
   cases h
   have := toCVs_unz h2
   simp only [List.map_cons, this]
   cases x <;> simp [AC.toCV] at h1 ⊢ <;> simp [h1, AC.unz]
  ·cases h
theorem Gh.pur (st : St) (b : Id) : Gh st (st.pur b) := by
 intro C a w m hJ
 unfold St.pur
 split
 ·rename_i l hb
  split
  ·rename_i cs hc
   refine ⟨m, hJ.withHp _ _ hJ.env (fun i bl hi => ?_)⟩
   split at hi
   ·rename_i e
    subst e
    cases hi
    obtain ⟨h1, h2⟩ := hJ.hp _ _ hb
    refine ⟨h1, ?_⟩
    show CellsR w m C.bad0 i (cs.map .p)
    rw [<- toCVs_unz hc]
    obtain ⟨m', hJ'⟩ := Gh.unz st C a w m hJ
    have h3 : CellsR w m C.bad0 i l := h2
    unfold CellsR at h3 ⊢
    cases hs : m.ρ i with
    | un => rw [hs] at h3; exact h3
    | dead => rw [hs] at h3; exact h3
    | vd => rw [hs] at h3; simp only at h3 ⊢; rw [h3]; rfl
    | at_ g base =>
     rw [hs] at h3
     obtain ⟨cur, e, fr, hg, hfr, hl, hcc⟩ := h3
     refine ⟨cur, e, fr, hg, hfr, by simpa using hl, fun j u x hu hx => ?_⟩
     rw [List.getElem?_map, Option.map_eq_some_iff] at hx
     obtain ⟨y, hy, rfl⟩ := hx
     obtain ⟨h4, h5⟩ := hcc j u y hu hy
     exact ⟨h4, unz_cell h5⟩
   ·exact hJ.hp i bl hi
  ·exact ⟨m, hJ⟩
 ·exact ⟨m, hJ⟩
/-! Rows whose elements own slices. -/
class OEnc (α : Type) [Enc α] where
 oenc : α -> List AC
 olen : ∀ x, (oenc x).length = Enc.sz α
 ocv : ∀ x, cvs (oenc x) = some (Enc.enc x)
 opl : ∀ x, ∀ c ∈ oenc x, (∃ v, c = .p v) \/ ∃ t, c = .own t
def oencL {α : Type} [Enc α] [OEnc α] (l : List α) : List AC := l.flatMap OEnc.oenc
section
variable {α : Type} [Enc α] [OEnc α]
@[simp] theorem oencL_nil : oencL ([] : List α) = [] := rfl
@[simp] theorem oencL_cons (x : α) (l : List α) : oencL (x :: l) = OEnc.oenc x ++ oencL l := rfl
@[simp] theorem oencL_append (l r : List α) : oencL (l ++ r) = oencL l ++ oencL r := by simp [oencL]
@[simp] theorem oencL_length (l : List α) : (oencL l).length = l.length * Enc.sz α := by
 induction l with
 | nil => simp
 | cons x l ih => simp [ih, OEnc.olen, Nat.add_mul]; omega
theorem cvs_append : ∀ (a b : List AC), cvs (a ++ b) = match cvs a, cvs b with | some x, some y => some (x ++ y) | _, _ => none
 | [], b => by simp [cvs]; cases cvs b <;> rfl
 | x :: a, b => by
  simp only [List.cons_append, cvs, cvs_append a b]
  cases x.cv <;> cases cvs a <;> cases cvs b <;> rfl
@[simp] theorem oencL_cvs (l : List α) : cvs (oencL l) = some (encL l) := by
 induction l with
 | nil => rfl
 | cons x l ih => rw [oencL_cons, cvs_append, OEnc.ocv, ih]; rfl
@[simp] theorem oencL_map (l : List α) (f : AC -> AC) (h1 : ∀ v, f (.p v) = .p v) (h2 : ∀ t, f (.own t) = .own t) : (oencL l).map f = oencL l := by
 induction l with
 | nil => rfl
 | cons x l ih =>
  rw [oencL_cons, List.map_append, ih]
  congr 1
  have := OEnc.opl x
  generalize OEnc.oenc x = cs at this
  induction cs with
  | nil => rfl
  | cons c cs ih2 =>
   rw [List.map_cons, ih2 fun c' hc => this c' (by simp [hc])]
   rcases this c (by simp) with ⟨v, rfl⟩ | ⟨t, rfl⟩
   ·rw [h1]
   ·rw [h2]
theorem oencL_split {l : List α} {j : Nat} {x : α} (hx : l[j]? = some x) : oencL l = oencL (l.take j) ++ (OEnc.oenc x ++ oencL (l.drop (j + 1))) := by
 obtain ⟨h, rfl⟩ := List.getElem?_eq_some_iff.1 hx
 have e := congrArg oencL (List.take_append_drop j l)
 rw [List.drop_eq_getElem_cons h] at e
 exact e.symm.trans (by rw [oencL_append, oencL_cons])
theorem oencL_pre {l : List α} {j : Nat} {x : α} (hx : l[j]? = some x) : (oencL (l.take j)).length = j * Enc.sz α := by
 obtain ⟨h, _⟩ := List.getElem?_eq_some_iff.1 hx
 rw [oencL_length, List.length_take]
 congr 1; omega
theorem oencL_get {l : List α} {j : Nat} {x : α} (hx : l[j]? = some x) {f : Nat} {c : AC} (h : (OEnc.oenc x)[f]? = some c) : (oencL l)[j * Enc.sz α + f]? = some c := by
 have hf : f < (OEnc.oenc x).length := (List.getElem?_eq_some_iff.1 h).1
 rw [oencL_split hx, List.getElem?_append_right (by rw [oencL_pre hx]; omega), oencL_pre hx, Nat.add_sub_cancel_left, List.getElem?_append_left hf, h]
theorem oencL_set {l : List α} {j : Nat} {x y : α} (hx : l[j]? = some x) {f : Nat} {c : AC} (hf : f < Enc.sz α) (h : (OEnc.oenc x).set f c = OEnc.oenc y) : (oencL l).set (j * Enc.sz α + f) c = oencL (l.set j y) := by
 obtain ⟨hlt, rfl⟩ := List.getElem?_eq_some_iff.1 hx
 rw [oencL_split hx, <- oencL_pre hx, List.set_append_right _ _ (by omega), Nat.add_sub_cancel_left, List.set_append_left _ _ (by rw [OEnc.olen]; exact hf), h]
 have e : (l.set j y)[j]? = some y := by rw [List.getElem?_set]; simp [hlt]
 rw [oencL_split e]
 simp [List.take_set_of_le, List.drop_set_of_lt]
end
theorem set_seg {β : Type} {l : List β} {k : Nat} (h : k < l.length) (c : β) : ((l.set k c).drop k).take 1 = [c] /\ (l.set k c)[k]? = some c := by
 have h1 : (l.set k c)[k]? = some c := by rw [List.getElem?_set]; simp [h]
 exact ⟨take_one h1, h1⟩
@[simp] theorem close_env (st : St) (b : Id) (j s : Nat) : (st.close b j).env s = st.env s := rfl
@[simp] theorem close_hp (st : St) (b : Id) (j : Nat) : (st.close b j).hp = close1 b j st.hp := rfl
@[simp] theorem close_gen (st : St) (b : Id) (j : Nat) : (st.close b j).gen = st.gen := rfl
@[simp] theorem close_acc (st : St) (b : Id) (j : Nat) : (st.close b j).acc = st.acc := rfl
attribute [simp] close1 treeB otCs otC
/-- A pure block as_ one of cells. -/
def St.cel (st : St) (b : Id) : St := { st with hp := fun i => if i = b then (match st.hp b with | some (.pure l) => some (.cells (l.map .p)) | x => x) else st.hp i }
theorem Gh.cel (st : St) (b : Id) : Gh st (st.cel b) := by
 intro C a w m hJ
 refine ⟨m, hJ.withHp _ _ hJ.env (fun i bl hi => ?_)⟩
 split at hi
 ·rename_i e
  subst e
  cases hb : st.hp i with
  | none => rw [hb] at hi; cases hi
  | some x =>
   rw [hb] at hi
   cases x with
   | pure l =>
    cases hi
    obtain ⟨h1, h2⟩ := hJ.hp i _ hb
    exact ⟨h1, h2⟩
   | cells l => cases hi; exact hJ.hp i _ hb
   | map ks vs => cases hi; exact hJ.hp i _ hb
 ·exact hJ.hp i bl hi
@[simp] theorem cel_env (st : St) (b : Id) (s : Nat) : (st.cel b).env s = st.env s := rfl
@[simp] theorem cel_hp (st : St) (b i : Id) : (st.cel b).hp i = if i = b then (match st.hp b with | some (.pure l) => some (.cells (l.map .p)) | x => x) else st.hp i := rfl
@[simp] theorem cel_gen (st : St) (b : Id) : (st.cel b).gen = st.gen := rfl
section
variable {α : Type} [Enc α] [OEnc α] (l : List α)
@[simp] theorem oencL_ren (x y : Id) : (oencL l).map (AC.ren x y) = oencL l := oencL_map l _ (fun v => by simp) fun t => by simp
@[simp] theorem oencL_kil (y : Id) : (oencL l).map (AC.kil y) = oencL l := oencL_map l _ (fun v => by simp) fun t => by simp
@[simp] theorem oencL_frz (b : Id) (cs : List CV) : (oencL l).map (AC.frz b cs) = oencL l := oencL_map l _ (fun v => by simp) fun t => by simp
@[simp] theorem oencL_unz : (oencL l).map AC.unz = oencL l := oencL_map l _ (fun v => by simp) fun t => by simp
@[simp] theorem oencL_toF (fp : List Id) : (oencL l).map (AC.toF fp) = oencL l := oencL_map l _ (fun v => by simp) fun t => by simp
@[simp] theorem oencL_back (fp bors : List Id) (post : List (Id × Blk)) (g i : Nat) : (oencL l).map (AC.back fp bors post g i) = oencL l := oencL_map l _ (fun v => by simp) fun t => by simp
end
/-- An owned cell is opened ahead of a region. -/
def St.opn (st : St) (b : Id) (off : Nat) : St := { st with hp := openAt (st.gen + 1) 0 b off 1 st.hp, gen := st.gen + 1 }
theorem Gh.opn (st : St) (b : Id) (off : Nat) : Gh st (st.opn b off) := by
 intro C a w m hJ
 obtain ⟨m', h, _⟩ := J.openAt (g := st.gen + 1) (i := 0) b 1 off _ m hJ.up (Nat.le_refl _) (fun k _ => hJ.gen _ _ _ (Nat.lt_succ_self _))
 exact ⟨m', h⟩
@[simp] theorem opn_env (st : St) (b : Id) (off s : Nat) : (st.opn b off).env s = st.env s := rfl
@[simp] theorem opn_hp (st : St) (b : Id) (off : Nat) : (st.opn b off).hp = openAt (st.gen + 1) 0 b off 1 st.hp := rfl
@[simp] theorem opn_gen (st : St) (b : Id) (off : Nat) : (st.opn b off).gen = st.gen + 1 := rfl
@[simp] theorem opn_acc (st : St) (b : Id) (off : Nat) : (st.opn b off).acc = st.acc := rfl
/-- The first k elements own their slices. -/
def mixL {α : Type} [Enc α] [OEnc α] (k : Nat) (l : List α) : List AC := oencL (l.take k) ++ (encL (l.drop k)).map .p
section
variable {α : Type} [Enc α] [OEnc α]
@[simp] theorem mixL_zero (l : List α) : mixL 0 l = (encL l).map .p := by simp [mixL]
@[simp] theorem mixL_length (k : Nat) (l : List α) : (mixL k l).length = l.length * Enc.sz α := by
 simp only [mixL, List.length_append, oencL_length, List.length_map, encL_length, List.length_take, List.length_drop]
 rw [<- Nat.add_mul]; congr 1; omega
@[simp] theorem mixL_ren (k : Nat) (l : List α) (x y : Id) : (mixL k l).map (AC.ren x y) = mixL k l := by
 unfold mixL
 rw [List.map_append, oencL_ren, List.map_map]
 congr 1
end
end Go.Hw
end
section
set_option linter.all false
namespace Go.Dc.Pl
open Go Go.Hw
variable [Globals] {α β σ : Type}
def toS : Option β -> Unit ⊕ β | none => .inl () | some r => .inr r
@[simp] theorem toS_none : toS (none : Option β) = .inl () := rfl
@[simp] theorem toS_some (r : β) : toS (some r) = .inr r := rfl
/-- The first answer that a list's elements give. -/
def first (f : Nat -> α -> Option β) : List α -> Nat -> Option β
 | [], _ => none
 | x :: q, k => match f k x with | some r => some r | none => first f q (k + 1)
@[simp] theorem first_nil (f : Nat -> α -> Option β) (k : Nat) : first f [] k = none := rfl
theorem first_cons (f : Nat -> α -> Option β) (x : α) (q : List α) (k : Nat) : first f (x :: q) k = match f k x with | some r => some r | none => first f q (k + 1) := rfl
def stepS (o : Option β) (k : Option (Unit ⊕ β)) : Option (Unit ⊕ β) := match o with | some r => some (.inr r) | none => k
@[simp] theorem stepS_some (r : β) (k : Option (Unit ⊕ β)) : stepS (some r) k = some (.inr r) := rfl
@[simp] theorem stepS_none (k : Option (Unit ⊕ β)) : stepS none k = k := rfl
def onlyIf (c : Bool) (r : β) : Option β := cond c (some r) none
@[simp] theorem onlyIf_t (r : β) : onlyIf true r = some r := rfl
@[simp] theorem onlyIf_f (r : β) : onlyIf false r = none := rfl
theorem step_only (c : Bool) (r : β) (k : Option (Unit ⊕ β)) : cond c (some (.inr r)) k = stepS (onlyIf c r) k := by cases c <;> rfl
/-- A search over a list. -/
theorem srch {L : List α -> Nat -> Option (Unit ⊕ β)} (f : Nat -> α -> Option β) (h0 : ∀ k, L [] k = some (.inl ())) :
  ∀ (l : List α) (k : Nat), (∀ j x, l[j]? = some x -> ∀ q, L (x :: q) (k + j) = stepS (f (k + j) x) (L q (k + j + 1))) -> L l k = some (toS (first f l k))
 | [], k, _ => h0 k
 | x :: q, k, h => by
  rw [show L (x :: q) k = stepS (f k x) (L q (k + 1)) from h 0 x rfl q, first_cons]
  have ih := srch f h0 q (k + 1) fun j y hy q' => by have := h (j + 1) y (by simpa using hy) q'; rwa [show k + (j + 1) = k + 1 + j by omega] at this
  cases f k x with
  | some r => rfl
  | none => exact ih
/-- A search over the places of a list, with fuel. -/
theorem srchI {L : Nat -> Int -> Option (Unit ⊕ β)} (l : List α) (f : Nat -> α -> Option β) (h0 : ∀ q, L (q + 1) ((l.length : Nat) : Int) = some (.inl ()))
  (h1 : ∀ (q k : Nat) x, l[k]? = some x -> L (q + 1) (k : Int) = stepS (f k x) (L q ((k + 1 : Nat) : Int))) : ∀ (q k : Nat), k <= l.length -> l.length < k + q -> L q (k : Int) = some (toS (first f (l.drop k) k))
 | 0, k, hk, hq => absurd hq (by omega)
 | q + 1, k, hk, hq => by
  rcases Nat.lt_or_ge k l.length with h | h
  ·have hx : l[k]? = some l[k] := List.getElem?_eq_getElem h
   rw [h1 q k _ hx, drop_at hx, first_cons]
   cases f k l[k] with
   | some r => rfl
   | none => exact srchI l f h0 h1 q (k + 1) h (by omega)
  ·obtain rfl : k = l.length := by omega
   rw [h0, List.drop_length]; rfl
/-- A search over the bytes of a string (or over numbers below a bound). -/
theorem srchN {L : Nat -> Nat -> Option (Unit ⊕ β)} (f : Nat -> Option β) (h0 : ∀ k, L 0 k = some (.inl ())) :
  ∀ (q k : Nat), (∀ q' j, j < q -> L (q' + 1) (k + j) = stepS (f (k + j)) (L q' (k + j + 1))) -> L q k = some (toS (first (fun k (_ : Unit) => f k) (List.replicate q ()) k))
 | 0, k, _ => h0 k
 | q + 1, k, h => by
  rw [show L (q + 1) k = stepS (f k) (L q (k + 1)) from h q 0 (by omega), List.replicate_succ, first_cons]
  have ih := srchN f h0 q (k + 1) fun q' j hj => by have := h q' (j + 1) (by omega); rwa [show k + (j + 1) = k + 1 + j by omega] at this
  cases f k with
  | some r => rfl
  | none => exact ih
theorem first_some {f : Nat -> α -> Option β} : ∀ {l : List α} {k : Nat} {r : β}, first f l k = some r -> ∃ j x, l[j]? = some x /\ f (k + j) x = some r
 | [], _, _, h => by cases h
 | x :: q, k, r, h => by
  rw [first_cons] at h
  cases hc : f k x with
  | some y => rw [hc] at h; exact ⟨0, x, rfl, hc.trans h⟩
  | none => rw [hc] at h; obtain ⟨j, y, hy, e⟩ := first_some h; exact ⟨j + 1, y, by simpa using hy, by rwa [show k + (j + 1) = k + 1 + j by omega]⟩
theorem first_map {γ : Type} {f : Nat -> α -> Option β} {g : γ -> β} : ∀ (l : List α) (k : Nat) {h : Nat -> α -> Option γ}, (∀ j x, f j x = (h j x).map g) -> first f l k = (first h l k).map g
 | [], _, _, _ => rfl
 | x :: q, k, h, e => by rw [first_cons, first_cons, e, first_map q (k + 1) e]; cases h k x <;> rfl
theorem appM {L : List α -> List β -> Nat -> Option (List β)} {b m : Nat} (g : α -> β) (hm : limB b m = true) (h0 : ∀ a k, L [] a k = some a)
  (h1 : ∀ x q a k, L (x :: q) a k = guardO (limB b (a.length + 1)) (L q (a ++ [g x]) (k + 1))) : ∀ (l : List α) (a : List β) (k : Nat), a.length + l.length <= m -> L l a k = some (a ++ l.map g)
 | [], a, k, _ => by simp [h0]
 | x :: q, a, k, hl => by
  simp only [List.length_cons] at hl
  have hb : limB b (a.length + 1) = true := by
   simp only [limB, decide_eq_true_eq] at hm ⊢
   exact ⟨by omega, Nat.le_trans (Nat.mul_le_mul_right b (by omega)) hm.2⟩
  rw [h1, hb]
  show L q (a ++ [g x]) (k + 1) = _
  rw [appM g hm h0 h1 q (a ++ [g x]) (k + 1) (by rw [List.length_append, List.length_singleton]; omega), List.append_assoc]; rfl
theorem wrapN {n : Nat} (h : n <= 1099511627777) : IntKind.i64.wrap (n : Int) = (n : Int) := wrap_i64 (by omega) (by omega)
@[simp] theorem getI_nat (l : List α) (k : Nat) : getI l (k : Int) = l[k]? := by simp [getI]
@[simp] theorem guardO_t (k : Option α) : guardO true k = k := rfl
end Go.Dc.Pl
end
section
set_option linter.all false
namespace Go.Hw
variable [Globals]
attribute [simp] eqCells eqRow List.range'
section
variable {α : Type} [Inhabited α] {n : Nat} {l : List α}
@[simp] theorem arr_of_0 : (Arr.of n l).f 0 = l.getD 0 default := rfl
@[simp] theorem arr_of_1 : (Arr.of n l).f 1 = l.getD 1 default := rfl
@[simp] theorem arr_of_2 : (Arr.of n l).f 2 = l.getD 2 default := rfl
@[simp] theorem arr_of_3 : (Arr.of n l).f 3 = l.getD 3 default := rfl
@[simp] theorem arr_of_4 : (Arr.of n l).f 4 = l.getD 4 default := rfl
@[simp] theorem arr_of_5 : (Arr.of n l).f 5 = l.getD 5 default := rfl
@[simp] theorem arr_of_6 : (Arr.of n l).f 6 = l.getD 6 default := rfl
@[simp] theorem arr_of_7 : (Arr.of n l).f 7 = l.getD 7 default := rfl
end
@[simp] theorem toCVs_setp (l : List CV) (k : Nat) (c : CV) : toCVs ((l.map AC.p).set k (.p c)) = some (l.set k c) := by
 rw [<- List.map_set]
 generalize l.set k c = m
 induction m with
 | nil => rfl
 | cons x m ih => simp [toCVs, ih, AC.toCV]
theorem f0 : (0 : Nat) <= 0 := Nat.le_refl 0
theorem an {a b : Prop} (h : a) (k : b) : a /\ b := ⟨h, k⟩
theorem sj {α : Type} {a b : α} (h : some a = some b) : a = b := Option.some.inj h
structure Hid (p : Prop) : Prop where
 out : p
section
variable {A G : Prop} {G' : A -> Prop}
theorem goR (F : A) (k : G' F) (h : ∀ F : A, Hid (G' F) -> G := by
 intro F k
 repeat (first | simp [F] | with_reducible first | refine awp_reg ?_ | refine And.intro (by omega) ?_ | refine optF_if (by omega) ?_)
 exact k.out) : G := h F ⟨k⟩
theorem goR2 (F : A) (k : G' F) (h : ∀ F : A, Hid (G' F) -> G := by
 intro F k
 repeat (first | simp [-awp_cond_eq, -awp_block_eq, F] | with_reducible first | refine awp_reg ?_ | refine And.intro (by omega) ?_ | refine optF_if (by omega) ?_)
 exact k.out) : G := h F ⟨k⟩
theorem goN (F : A) (k : G' F) (h : ∀ F : A, Hid (G' F) -> G := by
 intro F k
 repeat (first | simp [F] | with_reducible first | refine ord_l (by decide +kernel) ?_ | refine ord_e (by decide +kernel) ?_ | refine ord_c (by decide +kernel) ?_ | refine ord_d (by decide +kernel) ?_ | refine ord_c3 (by decide +kernel) ?_ | refine ord_d3 (by decide +kernel) ?_ | refine And.intro (by omega) ?_ | refine optF_if (by omega) ?_)
 exact k.out) : G := h F ⟨k⟩
theorem goD (F : A) (k : G' F) (h : ∀ F : A, Hid (G' F) -> G := by
 intro F k
 repeat (first | simp [F] | with_reducible first | refine awp_reg ?_ | refine awp_draw ?_ | refine ord_l (by decide +kernel) ?_ | refine ord_e (by decide +kernel) ?_ | refine ord_c (by decide +kernel) ?_ | refine ord_d (by decide +kernel) ?_ | refine ord_c3 (by decide +kernel) ?_ | refine ord_d3 (by decide +kernel) ?_ | refine And.intro (by omega) ?_ | refine optF_if (by omega) ?_)
 exact k.out) : G := h F ⟨k⟩
theorem goD2 (F : A) (k : G' F) (h : ∀ F : A, Hid (G' F) -> G := by
 intro F k
 repeat (first | simp [-awp_cond_eq, -awp_block_eq, F] | with_reducible first | refine awp_reg ?_ | refine awp_draw ?_ | refine ord_l (by decide +kernel) ?_ | refine ord_e (by decide +kernel) ?_ | refine ord_c (by decide +kernel) ?_ | refine ord_d (by decide +kernel) ?_ | refine ord_c3 (by decide +kernel) ?_ | refine ord_d3 (by decide +kernel) ?_ | refine And.intro (by omega) ?_ | refine optF_if (by omega) ?_)
 exact k.out) : G := h F ⟨k⟩
end
section
variable {A A' G : Prop} {G' : A -> A' -> Prop}
theorem goG (F : A) (H : A') (k : G' F H) (h : ∀ (F : A) (H : A'), Hid (G' F H) -> G := by
 intro F H k
 repeat (first | simp [F] | with_reducible first | refine awp_reg ?_ | refine And.intro (by omega) ?_ | refine optF_if (by omega) ?_ | refine gsel_pure (by with_unfolding_all rfl) _ (fun hg => by (try simp at hg); first | (simp [hg, H]; rfl) | (simp [F]; simp only [if_pos hg]; simp [F]; rfl)) ?_)
 exact k.out) : G := h F H ⟨k⟩
theorem goG2 (F : A) (H : A') (k : G' F H) (h : ∀ (F : A) (H : A'), Hid (G' F H) -> G := by
 intro F H k
 repeat (first | simp [-awp_cond_eq, -awp_block_eq, F] | with_reducible first | refine awp_reg ?_ | refine And.intro (by omega) ?_ | refine optF_if (by omega) ?_ | refine gsel_pure (by with_unfolding_all rfl) _ (fun hg => by (try simp at hg); first | (simp [hg, H]; rfl) | (simp [F]; simp only [if_pos hg]; simp [F]; rfl)) ?_)
 exact k.out) : G := h F H ⟨k⟩
theorem goE (F : A) (H : A') (k : G' F H) (h : ∀ (F : A) (H : A'), Hid (G' F H) -> G := by
 intro F H k
 repeat (first | simp [F] | with_reducible first | refine awp_reg ?_ | refine awp_draw ?_ | refine ord_l (by decide +kernel) ?_ | refine ord_e (by decide +kernel) ?_ | refine ord_c (by decide +kernel) ?_ | refine ord_d (by decide +kernel) ?_ | refine ord_c3 (by decide +kernel) ?_ | refine ord_d3 (by decide +kernel) ?_ | refine And.intro (by omega) ?_ | refine optF_if (by omega) ?_ | refine gsel_pure (by with_unfolding_all rfl) _ (fun hg => by (try simp at hg); first | (simp [hg, H]; rfl) | (simp [F]; simp only [if_pos hg]; simp [F]; rfl)) ?_ | refine dskip_intro ?_ | refine dsel_pure (by with_unfolding_all rfl) _ (fun hg => by (try simp at hg); simp [hg, H]; rfl) ?_)
 exact k.out) : G := h F H ⟨k⟩
theorem pv (F : A) (h : A -> G := by intro F; simp [St.frz, St.pur, F]) : G := h F
theorem pg (h : G := by first | (simp; done) | (simp; omega) | omega) : G := h
end
section
variable {A G : Prop} {α β : Type}
theorem bK {a : Option α} {f : α -> Option β} {r : β} (k : ∀ y, a = some y -> f y = some r -> G) (h : a.bind f = some r) : G := by
 obtain ⟨y, h1, h2⟩ := bindO h
 exact k y h1 h2
theorem lK {a : α} {f : α -> Option β} {r : β} (k : ∀ y, y = a -> f y = some r -> G) (h : (some a).bind f = some r) : G := k a rfl h
theorem cS {c d : Bool} {X Y : St -> Prop} {st : St} {x y : Option β} {r : β} (F : A) (h1 : d = true -> x = some r -> X st) (h2 : d = false -> y = some r -> Y st)
  (h : A -> c = d := by intro F; first | rfl | (simp [F]; done) | (simp [andB, orB, eqI, ltI, Int.natCast_inj, F]; done)) (hs : cond d x y = some r) : condK (bV c) X Y st :=
 condK_spec d (h F) (fun e => h1 e (by subst e; exact hs)) (fun e => h2 e (by subst e; exact hs))
end
section
variable {A : Prop}
theorem cP {P : Program} {g i n : Nat} {xs as_ : List AV} {r : AV} {hp : Id -> Option Blk} {K E : AV -> List (Id × Option Blk) -> Prop} (F : A) (hAt : CAt P n as_ [] (.ret r) []) (hK : K r [])
  (has : A -> xs.map (·.toC [] hp) = as_ := by intro F; (first | simp [F] | simp (disch := omega) [F]); try rfl)
  (hb : xs.flatMap (·.bor [] hp) = [] := by simp) (hr : r.mp (AC.back [] [] [] g i) = r := by simp) : callK P g i n xs hp K E := callK_pure hAt (has F) hb hr hK
theorem cA {P : Program} {g i n : Nat} {xs as_ : List AV} {r r' : AV} {post : List (Id × Blk)} {u : A -> List (Id × Option Blk)} {hp : Id -> Option Blk} {K E : AV -> List (Id × Option Blk) -> Prop} (F : A) (hAt : CAt P n as_ [] (.ret r) post) (hK : K r' (u F))
  (has : A -> xs.map (·.toC [] hp) = as_ := by intro F; (first | simp [F] | simp (disch := omega) [F]); try rfl)
  (hr : r.mp (AC.back [] (xs.flatMap (·.bor [] hp)) post g i) = r' := by simp; rfl) (hu : ∀ F : A, callU [] (xs.flatMap (·.bor [] hp)) g i (.ret r) post = u F := by intro F; simp [F]; rfl) : callK P g i n xs hp K E :=
 callK_at hAt [] (has F) rfl List.nodup_nil hr (hu F) hK
theorem cB {P : Program} {g i n : Nat} {xs as_ : List AV} {pre : List Blk} {r r' : AV} {post : List (Id × Blk)} {u : A -> List (Id × Option Blk)} {hp : Id -> Option Blk} {K E : AV -> List (Id × Option Blk) -> Prop} (F : A) (hAt : CAt P n as_ pre (.ret r) post) (fp : List Id) (hK : K r' (u F))
  (has : A -> xs.map (·.toC fp hp) = as_ := by intro F; (first | simp [F] | simp (disch := omega) [F]); try rfl) (hpre : A -> fp.map (fun b => (hp b).map (Blk.mp (AC.toF fp))) = pre.map some := by intro F; simp [F]) (hnd : fp.Nodup := by simp)
  (hr : r.mp (AC.back fp (xs.flatMap (·.bor fp hp)) post g i) = r' := by simp; rfl) (hu : ∀ F : A, callU fp (xs.flatMap (·.bor fp hp)) g i (.ret r) post = u F := by intro F; simp [F]; rfl) : callK P g i n xs hp K E :=
 callK_at hAt fp (has F) (hpre F) hnd hr (hu F) hK
theorem rg {P : Program} {rs : List ResultVar} {r : AV} {x : A -> AV} {post : List (Id × Blk)} {st st' : St} (F : A) (hg : Gh st st') (h : ∀ F : A, retAV P st' rs = some (x F) := by intro F; simp [St.frz, St.pur, F]; rfl)
  (hr : ∀ F : A, x F = r := by intro F; first | rfl | (simp [St.frz, St.pur, F]; done) | (rw [if_pos (by first | omega | (simp; omega))]; simp [St.frz, St.pur, F]; first | omega | exact List.take_of_length_le (by simp; omega) | skip))
  (hp : ∀ p ∈ post, st'.hp p.1 = some p.2 := by simp) : retPost P rs (.ret r) post .ret st := ret2g st' hg (h F) (hr F) hp
end
/-- The cells of arguments that are pure. -/
def cvsOf : List AV -> List CV
 | [] => []
 | .cell (.p c) :: l => c :: cvsOf l
 | .agg xs :: l => (xs.filterMap fun x => match x with | .p c => some c | _ => none) ++ cvsOf l
 | _ :: l => cvsOf l
theorem cvsOf_ok : ∀ (l : List AV), (∀ x ∈ l, x.lenOk) -> ∀ c ∈ cvsOf l, LenOk c
 | [], _, c, hc => by cases hc
 | .cell (.p d) :: l, h, c, hc => by
  simp only [cvsOf, List.mem_cons] at hc
  rcases hc with rfl | hc
  ·exact h (.cell (.p c)) (by simp)
  ·exact cvsOf_ok l (fun x hx => h x (by simp [hx])) c hc
 | .agg xs :: l, h, c, hc => by
  simp only [cvsOf, List.mem_append, List.mem_filterMap] at hc
  rcases hc with ⟨x, hx, e⟩ | hc
  ·split at e
   ·rename_i d; cases e; exact h (.agg xs) (by simp) (.p c) hx
   ·cases e
  ·exact cvsOf_ok l (fun x hx => h x (by simp [hx])) c hc
 | .cell .z :: l, h, c, hc => cvsOf_ok l (fun x hx => h x (by simp [hx])) c hc
 | .cell (.ref _ _) :: l, h, c, hc => cvsOf_ok l (fun x hx => h x (by simp [hx])) c hc
 | .cell (.sl _ _ _ _) :: l, h, c, hc => cvsOf_ok l (fun x hx => h x (by simp [hx])) c hc
 | .cell (.mp _) :: l, h, c, hc => cvsOf_ok l (fun x hx => h x (by simp [hx])) c hc
 | .cell (.ep _ _) :: l, h, c, hc => cvsOf_ok l (fun x hx => h x (by simp [hx])) c hc
 | .cell (.fn _ _) :: l, h, c, hc => cvsOf_ok l (fun x hx => h x (by simp [hx])) c hc
 | .cell (.own _) :: l, h, c, hc => cvsOf_ok l (fun x hx => h x (by simp [hx])) c hc
 | .cell (.yl _) :: l, h, c, hc => cvsOf_ok l (fun x hx => h x (by simp [hx])) c hc
 | .cell .bad :: l, h, c, hc => cvsOf_ok l (fun x hx => h x (by simp [hx])) c hc
 | .tup _ :: l, h, c, hc => cvsOf_ok l (fun x hx => h x (by simp [hx])) c hc
 | .bad :: l, h, c, hc => cvsOf_ok l (fun x hx => h x (by simp [hx])) c hc
theorem lkc {l : List AV} {c : CV} (h : ∀ x ∈ l, x.lenOk) (hc : c ∈ cvsOf l := by simp [cvsOf]) : LenOk c := cvsOf_ok l h c hc
/-- Cells of plain values. -/
abbrev nC (n : Int) : AC := .p (.c (.int .i64 n))
abbrev bC (b : Bool) : AC := .p (.c (.bool b))
abbrev tC (s : ByteArray) : AC := .p (.c (.string s))
abbrev sC {α : Type} [Enc α] (l : List α) : AC := .p (.sl l.length (encL l))
/-- The cells of a value. -/
def eA {α : Type} [Enc α] (x : α) : List AC := (Enc.enc x).map .p
attribute [simp] eA
/-! Maps. -/
abbrev Map (κ ν : Type) := List (κ × ν)
class KEnc (κ : Type) where
 kenc : κ -> MK
 inj : ∀ a b, kenc a = kenc b -> a = b
 same : ∀ a b, sameK (kenc a) (kenc b) = true
instance : KEnc Int := ⟨MK.i .i64, fun a b h => by injection h, fun a b => by simp [sameK]⟩
instance : KEnc UInt8 := ⟨fun b => MK.i .u8 (b.toNat : Int), fun a b h => by injection h with _ h; exact UInt8.toNat_inj.1 (by omega), fun a b => by simp [sameK]⟩
instance : KEnc ByteArray := ⟨fun b => MK.s b.data.toList, fun a b h => by
 injection h with h
 cases a; cases b; simp at h; rw [h], fun a b => rfl⟩
class VEnc (ν : Type) where
 venc : ν -> CV
instance : VEnc Int := ⟨fun n => .c (.int .i64 n)⟩
instance : VEnc Bool := ⟨fun n => .c (.bool n)⟩
instance : VEnc ByteArray := ⟨fun n => .c (.string n)⟩
section
variable {κ ν : Type} [KEnc κ] [DecidableEq κ] [VEnc ν]
def mK (l : Map κ ν) : List MK := l.map fun x => KEnc.kenc x.1
def mV (l : Map κ ν) : List AC := l.map fun x => .p (VEnc.venc x.2)
def mlk : Map κ ν -> κ -> Option ν
 | [], _ => none
 | (a, b) :: q, k => if a = k then some b else mlk q k
def mpt : Map κ ν -> κ -> ν -> Map κ ν
 | [], k, v => [(k, v)]
 | (a, b) :: q, k, v => if a = k then (k, v) :: q else (a, b) :: mpt q k v
def mdl : Map κ ν -> κ -> Map κ ν
 | [], _ => []
 | (a, b) :: q, k => if a = k then q else (a, b) :: mdl q k
@[simp] theorem mK_nil : mK ([] : Map κ ν) = [] := rfl
@[simp] theorem mV_nil : mV ([] : Map κ ν) = [] := rfl
theorem mK_all (l : Map κ ν) (k : κ) : (mK l).all (sameK (KEnc.kenc k)) = true := by
 simp [mK, KEnc.same]
theorem kenc_iff {a b : κ} : KEnc.kenc a = KEnc.kenc b ↔ a = b := ⟨KEnc.inj a b, fun h => by rw [h]⟩
theorem mget_m (k : κ) : ∀ l : Map κ ν, mget (mK l) (mV l) (KEnc.kenc k) = (mlk l k).map fun v => .p (VEnc.venc v)
 | [] => rfl
 | (a, b) :: q => by
  have ih := mget_m k q
  simp only [mget, mK, mV, List.map_cons, mfind, kenc_iff, mlk] at ih ⊢
  split
  ·rfl
  ·rw [<- ih]
   cases hm : mfind (List.map (fun x => KEnc.kenc x.1) q) (KEnc.kenc k) with
   | none => simp
   | some j => simp
theorem mputK_ne {a n : MK} (h : a ≠ n) (ks : List MK) : mputK (a :: ks) n = a :: mputK ks n := by
 unfold mputK; rw [mfind, if_neg h]; cases mfind ks n <;> simp
theorem mputV_ne {α : Type} {a n : MK} (h : a ≠ n) (ks : List MK) (y : α) (vs : List α) (x : α) : mputV (a :: ks) (y :: vs) n x = y :: mputV ks vs n x := by
 unfold mputV; rw [mfind, if_neg h]; cases mfind ks n <;> simp
theorem mdel_ne {α : Type} {a n : MK} (h : a ≠ n) (ks : List MK) (y : α) (vs : List α) : mdel (a :: ks) (y :: vs) n = y :: mdel ks vs n := by
 unfold mdel; rw [mfind, if_neg h]; cases mfind ks n <;> simp
theorem mK_cons (a : κ) (b : ν) (q : Map κ ν) : mK ((a, b) :: q) = KEnc.kenc a :: mK q := rfl
theorem mV_cons (a : κ) (b : ν) (q : Map κ ν) : mV ((a, b) :: q) = .p (VEnc.venc b) :: mV q := rfl
theorem mput_m (k : κ) (v : ν) : ∀ l : Map κ ν, mputK (mK l) (KEnc.kenc k) = mK (mpt l k v) /\ mputV (mK l) (mV l) (KEnc.kenc k) (.p (VEnc.venc v)) = mV (mpt l k v)
 | [] => ⟨rfl, rfl⟩
 | (a, b) :: q => by
  have ih := mput_m k v q
  rw [mpt]
  split
  ·rename_i e; subst e; rw [mK_cons, mV_cons]; exact ⟨by simp [mputK, mfind, mK_cons], by simp [mputV, mfind, mV_cons]⟩
  ·rename_i e
   have e' : KEnc.kenc a ≠ KEnc.kenc k := fun h => e (KEnc.inj _ _ h)
   rw [mK_cons, mV_cons, mK_cons, mV_cons, mputK_ne e', mputV_ne e', ih.1, ih.2]; exact ⟨rfl, rfl⟩
theorem mdel_m (k : κ) : ∀ l : Map κ ν, mdel (mK l) (mK l) (KEnc.kenc k) = mK (mdl l k) /\ mdel (mK l) (mV l) (KEnc.kenc k) = mV (mdl l k)
 | [] => ⟨rfl, rfl⟩
 | (a, b) :: q => by
  have ih := mdel_m k q
  rw [mdl]
  split
  ·rename_i e; subst e; rw [mK_cons, mV_cons]; exact ⟨by simp [mdel, mfind], by simp [mdel, mfind]⟩
  ·rename_i e
   have e' : KEnc.kenc a ≠ KEnc.kenc k := fun h => e (KEnc.inj _ _ h)
   rw [mK_cons, mV_cons, mK_cons, mV_cons, mdel_ne e', mdel_ne e', ih.1, ih.2]; exact ⟨rfl, rfl⟩
@[simp] theorem mV_ren (l : Map κ ν) (x y : Id) : (mV l).map (AC.ren x y) = mV l := by simp [mV, AC.ren]
@[simp] theorem mV_kil (l : Map κ ν) (y : Id) : (mV l).map (AC.kil y) = mV l := by simp [mV, AC.kil]
@[simp] theorem mV_frz (l : Map κ ν) (b : Id) (cs : List CV) : (mV l).map (AC.frz b cs) = mV l := by simp [mV, AC.frz]
@[simp] theorem mV_unz (l : Map κ ν) : (mV l).map AC.unz = mV l := by simp [mV, AC.unz]
@[simp] theorem mV_toF (l : Map κ ν) (fp : List Id) : (mV l).map (AC.toF fp) = mV l := by simp [mV, AC.toF]
@[simp] theorem mV_back (l : Map κ ν) (fp bors : List Id) (post : List (Id × Blk)) (g i : Nat) : (mV l).map (AC.back fp bors post g i) = mV l := by simp [mV, AC.back]
end
@[simp] theorem mapPut_ii (l : Map Int Int) (k v : Int) : mapPut (mK l) (mV l) (.i .i64 k) (.p (.c (.int .i64 v))) = .map (mK (mpt l k v)) (mV (mpt l k v)) := by
 have h := mput_m k v l
 simp only [mapPut]; rw [<- h.1, <- h.2]; rfl
@[simp] theorem mapDel_i {ν : Type} [VEnc ν] (l : Map Int ν) (k : Int) : mapDel (mK l) (mV l) (.i .i64 k) = .map (mK (mdl l k)) (mV (mdl l k)) := by
 have h := mdel_m k l
 simp only [mapDel]; rw [<- h.1, <- h.2]; rfl
@[simp] theorem mall_i {ν : Type} [VEnc ν] (l : Map Int ν) (k : Int) : (mK l).all (sameK (.i .i64 k)) = true := mK_all l k
@[simp] theorem mall_s {ν : Type} [VEnc ν] (l : Map ByteArray ν) (k : ByteArray) : (mK l).all (sameK (.s k.data.toList)) = true := mK_all l k
theorem mget_ii (l : Map Int Int) (k : Int) : mget (mK l) (mV l) (.i .i64 k) = (mlk l k).map fun v => .p (.c (.int .i64 v)) := mget_m k l
@[simp] theorem mapPut_ib (l : Map Int Bool) (k : Int) (v : Bool) : mapPut (mK l) (mV l) (.i .i64 k) (.p (.c (.bool v))) = .map (mK (mpt l k v)) (mV (mpt l k v)) := by
 have h := mput_m k v l
 simp only [mapPut]; rw [<- h.1, <- h.2]; rfl
@[simp] theorem mapPut_si (l : Map ByteArray Int) (k : ByteArray) (v : Int) : mapPut (mK l) (mV l) (.s k.data.toList) (.p (.c (.int .i64 v))) = .map (mK (mpt l k v)) (mV (mpt l k v)) := by
 have h := mput_m k v l
 simp only [mapPut]; rw [<- h.1, <- h.2]; rfl
@[simp] theorem mapPut0_ii (k v : Int) : mapPut [] [] (.i .i64 k) (.p (.c (.int .i64 v))) = .map (mK (mpt ([] : Map Int Int) k v)) (mV (mpt ([] : Map Int Int) k v)) := mapPut_ii [] k v
@[simp] theorem mapPut0_ib (k : Int) (v : Bool) : mapPut [] [] (.i .i64 k) (.p (.c (.bool v))) = .map (mK (mpt ([] : Map Int Bool) k v)) (mV (mpt ([] : Map Int Bool) k v)) := mapPut_ib [] k v
@[simp] theorem mapPut0_si (k : ByteArray) (v : Int) : mapPut [] [] (.s k.data.toList) (.p (.c (.int .i64 v))) = .map (mK (mpt ([] : Map ByteArray Int) k v)) (mV (mpt ([] : Map ByteArray Int) k v)) := mapPut_si [] k v
theorem mget_ib (l : Map Int Bool) (k : Int) : mget (mK l) (mV l) (.i .i64 k) = (mlk l k).map fun v => .p (.c (.bool v)) := mget_m k l
theorem mget_si (l : Map ByteArray Int) (k : ByteArray) : mget (mK l) (mV l) (.s k.data.toList) = (mlk l k).map fun v => .p (.c (.int .i64 v)) := mget_m k l
/-! A block is cut to its first cells. -/
def St.cut (st : St) (b : Id) (n : Nat) : St := { st with hp := fun i => if i = b then (match st.hp b with | some (.pure l) => some (.pure (l.take n)) | some (.cells l) => some (.cells (l.take n)) | x => x) else st.hp i }
theorem CellsR.take {w : World} {m : Mem} {bad0 : Nat -> Prop} {i : Id} {l : List AC} (h : CellsR w m bad0 i l) (n : Nat) : CellsR w m bad0 i (l.take n) := by
 unfold CellsR at h ⊢
 cases hs : m.ρ i with
 | un => rw [hs] at h; exact h
 | dead => rw [hs] at h; exact h
 | vd => rw [hs] at h; simp only at h ⊢; subst h; simp
 | at_ g base =>
  rw [hs] at h
  obtain ⟨cur, e, fr, hg, hfr, hl, hc⟩ := h
  refine ⟨cur, e, fr, hg, hfr, by rw [List.length_take]; omega, fun j u x hu hx => hc j u x hu ?_⟩
  rw [List.getElem?_take] at hx
  split at hx
  ·exact hx
  ·cases hx
theorem Gh.cut (st : St) (b : Id) (n : Nat) : Gh st (st.cut b n) := by
 intro C a w m hJ
 refine ⟨m, hJ.withHp _ _ hJ.env (fun i bl hi => ?_)⟩
 split at hi
 ·rename_i e
  subst e
  cases hb : st.hp i with
  | none => rw [hb] at hi; cases hi
  | some x =>
   rw [hb] at hi
   cases x with
   | pure l =>
    cases hi
    obtain ⟨h1, h2⟩ := hJ.hp i _ hb
    refine ⟨h1, ?_⟩
    show CellsR w m C.bad0 i ((l.take n).map .p)
    rw [List.map_take]
    exact CellsR.take h2 n
   | cells l =>
    cases hi
    obtain ⟨h1, h2⟩ := hJ.hp i _ hb
    exact ⟨h1, CellsR.take h2 n⟩
   | map ks vs => cases hi; exact hJ.hp i _ hb
 ·exact hJ.hp i bl hi
@[simp] theorem cut_env (st : St) (b : Id) (n s : Nat) : (st.cut b n).env s = st.env s := rfl
@[simp] theorem cut_hp (st : St) (b i : Id) (n : Nat) : (st.cut b n).hp i = if i = b then (match st.hp b with | some (.pure l) => some (.pure (l.take n)) | some (.cells l) => some (.cells (l.take n)) | x => x) else st.hp i := rfl
@[simp] theorem cut_gen (st : St) (b : Id) (n : Nat) : (st.cut b n).gen = st.gen := rfl
@[simp] theorem cut_acc (st : St) (b : Id) (n : Nat) : (st.cut b n).acc = st.acc := rfl
def mhas {κ ν : Type} [KEnc κ] [DecidableEq κ] [VEnc ν] (l : Map κ ν) (k : κ) : Bool := (mlk l k).isSome
def mval {κ ν : Type} [KEnc κ] [DecidableEq κ] [VEnc ν] (l : Map κ ν) (k : κ) (z : ν) : ν := (mlk l k).getD z
@[simp] theorem outK_ii (z : Int) (l : Map Int Int) (k : Int) : outK (.p (.c (.int .i64 z))) true (mget (mK l) (mV l) (.i .i64 k)) = .tup [iV .i64 (mval l k z), bV (mhas l k)] := by rw [mget_ii]; simp only [mval, mhas]; cases mlk l k <;> rfl
@[simp] theorem outK_ii' (z : Int) (l : Map Int Int) (k : Int) : outK (.p (.c (.int .i64 z))) false (mget (mK l) (mV l) (.i .i64 k)) = iV .i64 (mval l k z) := by rw [mget_ii]; simp only [mval]; cases mlk l k <;> rfl
@[simp] theorem outK_ib (z : Bool) (l : Map Int Bool) (k : Int) : outK (.p (.c (.bool z))) true (mget (mK l) (mV l) (.i .i64 k)) = .tup [bV (mval l k z), bV (mhas l k)] := by rw [mget_ib]; simp only [mval, mhas]; cases mlk l k <;> rfl
@[simp] theorem outK_ib' (z : Bool) (l : Map Int Bool) (k : Int) : outK (.p (.c (.bool z))) false (mget (mK l) (mV l) (.i .i64 k)) = bV (mval l k z) := by rw [mget_ib]; simp only [mval]; cases mlk l k <;> rfl
@[simp] theorem outK_si (z : Int) (l : Map ByteArray Int) (k : ByteArray) : outK (.p (.c (.int .i64 z))) true (mget (mK l) (mV l) (.s k.data.toList)) = .tup [iV .i64 (mval l k z), bV (mhas l k)] := by rw [mget_si]; simp only [mval, mhas]; cases mlk l k <;> rfl
/-! Arrays whose elements fill several cells. -/
section
variable {α : Type} [Enc α] {n : Nat}
end
end Go.Hw
end
section
set_option linter.all false
namespace Go.Proofs
open Go.Hw
set_option maxRecDepth 100000
theorem mixed : Tryd.prog.follows .mixedOrders = true := by kernel_rfl
@[simp] theorem sz1 : szOf Tryd.prog 1 = some 1 := by kernel_rfl
@[simp] theorem ag1 : aggB Tryd.prog 1 = some false := by kernel_rfl
@[simp] theorem ei1 : eInfo Tryd.prog 1 = some (1, 8) := by kernel_rfl
@[simp] theorem ze1 : zeroA Tryd.prog 1 = some [.p (.c .nilFunc)] := by kernel_rfl
@[simp] theorem sz3 : szOf Tryd.prog 3 = some 1 := by kernel_rfl
@[simp] theorem ag3 : aggB Tryd.prog 3 = some false := by kernel_rfl
@[simp] theorem ei3 : eInfo Tryd.prog 3 = some (1, 8) := by kernel_rfl
@[simp] theorem zo3 : zero1 Tryd.prog 3 = some (.p (.c (.int .i64 0))) := by kernel_rfl
@[simp] theorem ze3 : zeroA Tryd.prog 3 = some [.p (.c (.int .i64 0))] := by kernel_rfl
@[simp] theorem sz4 : szOf Tryd.prog 4 = some 1 := by kernel_rfl
@[simp] theorem ag4 : aggB Tryd.prog 4 = some false := by kernel_rfl
@[simp] theorem ei4 : eInfo Tryd.prog 4 = some (1, 1) := by kernel_rfl
@[simp] theorem zo4 : zero1 Tryd.prog 4 = some (.p (.c (.bool false))) := by kernel_rfl
@[simp] theorem ze4 : zeroA Tryd.prog 4 = some [.p (.c (.bool false))] := by kernel_rfl
@[simp] theorem sz5 : szOf Tryd.prog 5 = some 1 := by kernel_rfl
@[simp] theorem ag5 : aggB Tryd.prog 5 = some false := by kernel_rfl
@[simp] theorem ei5 : eInfo Tryd.prog 5 = some (1, 1) := by kernel_rfl
@[simp] theorem zo5 : zero1 Tryd.prog 5 = some (.p (.c (.int .u8 0))) := by kernel_rfl
@[simp] theorem ze5 : zeroA Tryd.prog 5 = some [.p (.c (.int .u8 0))] := by kernel_rfl
@[simp] theorem sz9 : szOf Tryd.prog 9 = some 1 := by kernel_rfl
@[simp] theorem ag9 : aggB Tryd.prog 9 = some false := by kernel_rfl
@[simp] theorem ei9 : eInfo Tryd.prog 9 = some (1, 16) := by kernel_rfl
@[simp] theorem zo9 : zero1 Tryd.prog 9 = some (.p (.c (.string ⟨#[]⟩))) := by kernel_rfl
@[simp] theorem ze9 : zeroA Tryd.prog 9 = some [.p (.c (.string ⟨#[]⟩))] := by kernel_rfl
@[simp] theorem sz20 : szOf Tryd.prog 20 = some 1 := by kernel_rfl
@[simp] theorem ag20 : aggB Tryd.prog 20 = some false := by kernel_rfl
@[simp] theorem ei20 : eInfo Tryd.prog 20 = some (1, 16) := by kernel_rfl
@[simp] theorem ze20 : zeroA Tryd.prog 20 = some [.p (.c .nilIface)] := by kernel_rfl
@[simp] theorem sz23 : szOf Tryd.prog 23 = some 1 := by kernel_rfl
@[simp] theorem ag23 : aggB Tryd.prog 23 = some false := by kernel_rfl
@[simp] theorem ei23 : eInfo Tryd.prog 23 = some (1, 24) := by kernel_rfl
@[simp] theorem zo23 : zero1 Tryd.prog 23 = some (.z) := by kernel_rfl
@[simp] theorem ze23 : zeroA Tryd.prog 23 = some [.z] := by kernel_rfl
@[simp] theorem sz24 : szOf Tryd.prog 24 = some 1 := by kernel_rfl
@[simp] theorem ag24 : aggB Tryd.prog 24 = some false := by kernel_rfl
@[simp] theorem ei24 : eInfo Tryd.prog 24 = some (1, 24) := by kernel_rfl
@[simp] theorem zo24 : zero1 Tryd.prog 24 = some (.z) := by kernel_rfl
@[simp] theorem ze24 : zeroA Tryd.prog 24 = some [.z] := by kernel_rfl
@[simp] theorem sz25 : szOf Tryd.prog 25 = some 1 := by kernel_rfl
@[simp] theorem ag25 : aggB Tryd.prog 25 = some false := by kernel_rfl
@[simp] theorem ei25 : eInfo Tryd.prog 25 = some (1, 24) := by kernel_rfl
@[simp] theorem zo25 : zero1 Tryd.prog 25 = some (.z) := by kernel_rfl
@[simp] theorem ze25 : zeroA Tryd.prog 25 = some [.z] := by kernel_rfl
@[simp] theorem sz26 : szOf Tryd.prog 26 = some 1 := by kernel_rfl
@[simp] theorem ag26 : aggB Tryd.prog 26 = some false := by kernel_rfl
@[simp] theorem ei26 : eInfo Tryd.prog 26 = some (1, 24) := by kernel_rfl
@[simp] theorem zo26 : zero1 Tryd.prog 26 = some (.z) := by kernel_rfl
@[simp] theorem ze26 : zeroA Tryd.prog 26 = some [.z] := by kernel_rfl
@[simp] theorem sz27 : szOf Tryd.prog 27 = some 5 := by kernel_rfl
@[simp] theorem ag27 : aggB Tryd.prog 27 = some true := by kernel_rfl
@[simp] theorem ei27 : eInfo Tryd.prog 27 = some (5, 120) := by kernel_rfl
@[simp] theorem ze27 : zeroA Tryd.prog 27 = some [.z, .z, .z, .z, .z] := by kernel_rfl
@[simp] theorem sz28 : szOf Tryd.prog 28 = some 5 := by kernel_rfl
@[simp] theorem ag28 : aggB Tryd.prog 28 = some true := by kernel_rfl
@[simp] theorem ei28 : eInfo Tryd.prog 28 = some (5, 120) := by kernel_rfl
@[simp] theorem ze28 : zeroA Tryd.prog 28 = some [.z, .z, .z, .z, .z] := by kernel_rfl
@[simp] theorem sz29 : szOf Tryd.prog 29 = some 1 := by kernel_rfl
@[simp] theorem ag29 : aggB Tryd.prog 29 = some false := by kernel_rfl
@[simp] theorem ei29 : eInfo Tryd.prog 29 = some (1, 8) := by kernel_rfl
@[simp] theorem zo29 : zero1 Tryd.prog 29 = some (.p (.c (.int .i64 0))) := by kernel_rfl
@[simp] theorem ze29 : zeroA Tryd.prog 29 = some [.p (.c (.int .i64 0))] := by kernel_rfl
@[simp] theorem sz30 : szOf Tryd.prog 30 = some 2 := by kernel_rfl
@[simp] theorem ag30 : aggB Tryd.prog 30 = some true := by kernel_rfl
@[simp] theorem ei30 : eInfo Tryd.prog 30 = some (2, 16) := by kernel_rfl
@[simp] theorem ze30 : zeroA Tryd.prog 30 = some [.p (.c (.int .i64 0)), .p (.c (.int .i64 0))] := by kernel_rfl
@[simp] theorem eqo30 : eqOk Tryd.prog 30 = true := by first | kernel_rfl
@[simp] theorem sz31 : szOf Tryd.prog 31 = some 2 := by kernel_rfl
@[simp] theorem ag31 : aggB Tryd.prog 31 = some true := by kernel_rfl
@[simp] theorem ei31 : eInfo Tryd.prog 31 = some (2, 16) := by kernel_rfl
@[simp] theorem ze31 : zeroA Tryd.prog 31 = some [.p (.c (.int .i64 0)), .p (.c (.int .i64 0))] := by kernel_rfl
@[simp] theorem eqo31 : eqOk Tryd.prog 31 = true := by first | kernel_rfl
@[simp] theorem sz38 : szOf Tryd.prog 38 = some 1 := by kernel_rfl
@[simp] theorem ag38 : aggB Tryd.prog 38 = some false := by kernel_rfl
@[simp] theorem ei38 : eInfo Tryd.prog 38 = some (1, 8) := by kernel_rfl
@[simp] theorem zo38 : zero1 Tryd.prog 38 = some (.p (.c (.int .i64 0))) := by kernel_rfl
@[simp] theorem ze38 : zeroA Tryd.prog 38 = some [.p (.c (.int .i64 0))] := by kernel_rfl
@[simp] theorem sz39 : szOf Tryd.prog 39 = some 1 := by kernel_rfl
@[simp] theorem ag39 : aggB Tryd.prog 39 = some false := by kernel_rfl
@[simp] theorem ei39 : eInfo Tryd.prog 39 = some (1, 8) := by kernel_rfl
@[simp] theorem zo39 : zero1 Tryd.prog 39 = some (.p (.c (.int .i64 0))) := by kernel_rfl
@[simp] theorem ze39 : zeroA Tryd.prog 39 = some [.p (.c (.int .i64 0))] := by kernel_rfl
@[simp] theorem sz40 : szOf Tryd.prog 40 = some 1 := by kernel_rfl
@[simp] theorem ag40 : aggB Tryd.prog 40 = some false := by kernel_rfl
@[simp] theorem ei40 : eInfo Tryd.prog 40 = some (1, 8) := by kernel_rfl
@[simp] theorem zo40 : zero1 Tryd.prog 40 = some (.p (.c (.int .i64 0))) := by kernel_rfl
@[simp] theorem ze40 : zeroA Tryd.prog 40 = some [.p (.c (.int .i64 0))] := by kernel_rfl
@[simp] theorem sz41 : szOf Tryd.prog 41 = some 8 := by kernel_rfl
@[simp] theorem ag41 : aggB Tryd.prog 41 = some true := by kernel_rfl
@[simp] theorem ei41 : eInfo Tryd.prog 41 = some (8, 64) := by kernel_rfl
@[simp] theorem ze41 : zeroA Tryd.prog 41 = some [.p (.c (.int .i64 0)), .p (.c (.int .i64 0)), .p (.c (.int .i64 0)), .p (.c (.int .i64 0)), .p (.c (.int .i64 0)), .p (.c (.int .i64 0)), .p (.c (.int .i64 0)), .p (.c (.int .i64 0))] := by kernel_rfl
@[simp] theorem eqo41 : eqOk Tryd.prog 41 = true := by first | kernel_rfl
@[simp] theorem sz42 : szOf Tryd.prog 42 = some 8 := by kernel_rfl
@[simp] theorem ag42 : aggB Tryd.prog 42 = some true := by kernel_rfl
@[simp] theorem ei42 : eInfo Tryd.prog 42 = some (8, 64) := by kernel_rfl
@[simp] theorem ze42 : zeroA Tryd.prog 42 = some [.p (.c (.int .i64 0)), .p (.c (.int .i64 0)), .p (.c (.int .i64 0)), .p (.c (.int .i64 0)), .p (.c (.int .i64 0)), .p (.c (.int .i64 0)), .p (.c (.int .i64 0)), .p (.c (.int .i64 0))] := by kernel_rfl
@[simp] theorem eqo42 : eqOk Tryd.prog 42 = true := by first | kernel_rfl
@[simp] theorem sz45 : szOf Tryd.prog 45 = some 2 := by kernel_rfl
@[simp] theorem ag45 : aggB Tryd.prog 45 = some true := by kernel_rfl
@[simp] theorem ei45 : eInfo Tryd.prog 45 = some (2, 24) := by kernel_rfl
@[simp] theorem ze45 : zeroA Tryd.prog 45 = some [.p (.c (.string ⟨#[]⟩)), .p (.c (.int .i64 0))] := by kernel_rfl
@[simp] theorem eqo45 : eqOk Tryd.prog 45 = true := by first | kernel_rfl
@[simp] theorem sz46 : szOf Tryd.prog 46 = some 2 := by kernel_rfl
@[simp] theorem ag46 : aggB Tryd.prog 46 = some true := by kernel_rfl
@[simp] theorem ei46 : eInfo Tryd.prog 46 = some (2, 24) := by kernel_rfl
@[simp] theorem ze46 : zeroA Tryd.prog 46 = some [.p (.c (.string ⟨#[]⟩)), .p (.c (.int .i64 0))] := by kernel_rfl
@[simp] theorem eqo46 : eqOk Tryd.prog 46 = true := by first | kernel_rfl
@[simp] theorem sz47 : szOf Tryd.prog 47 = some 1 := by kernel_rfl
@[simp] theorem ag47 : aggB Tryd.prog 47 = some false := by kernel_rfl
@[simp] theorem ei47 : eInfo Tryd.prog 47 = some (1, 24) := by kernel_rfl
@[simp] theorem zo47 : zero1 Tryd.prog 47 = some (.z) := by kernel_rfl
@[simp] theorem ze47 : zeroA Tryd.prog 47 = some [.z] := by kernel_rfl
@[simp] theorem sz48 : szOf Tryd.prog 48 = some 2 := by kernel_rfl
@[simp] theorem ag48 : aggB Tryd.prog 48 = some true := by kernel_rfl
@[simp] theorem ei48 : eInfo Tryd.prog 48 = some (2, 40) := by kernel_rfl
@[simp] theorem ze48 : zeroA Tryd.prog 48 = some [.p (.c (.string ⟨#[]⟩)), .z] := by kernel_rfl
@[simp] theorem sz49 : szOf Tryd.prog 49 = some 2 := by kernel_rfl
@[simp] theorem ag49 : aggB Tryd.prog 49 = some true := by kernel_rfl
@[simp] theorem ei49 : eInfo Tryd.prog 49 = some (2, 40) := by kernel_rfl
@[simp] theorem ze49 : zeroA Tryd.prog 49 = some [.p (.c (.string ⟨#[]⟩)), .z] := by kernel_rfl
@[simp] theorem sz50 : szOf Tryd.prog 50 = some 2 := by kernel_rfl
@[simp] theorem ag50 : aggB Tryd.prog 50 = some true := by kernel_rfl
@[simp] theorem ei50 : eInfo Tryd.prog 50 = some (2, 16) := by kernel_rfl
@[simp] theorem ze50 : zeroA Tryd.prog 50 = some [.p (.c (.int .i64 0)), .p (.c (.int .i64 0))] := by kernel_rfl
@[simp] theorem eqo50 : eqOk Tryd.prog 50 = true := by first | kernel_rfl
@[simp] theorem sz51 : szOf Tryd.prog 51 = some 2 := by kernel_rfl
@[simp] theorem ag51 : aggB Tryd.prog 51 = some true := by kernel_rfl
@[simp] theorem ei51 : eInfo Tryd.prog 51 = some (2, 16) := by kernel_rfl
@[simp] theorem ze51 : zeroA Tryd.prog 51 = some [.p (.c (.int .i64 0)), .p (.c (.int .i64 0))] := by kernel_rfl
@[simp] theorem eqo51 : eqOk Tryd.prog 51 = true := by first | kernel_rfl
@[simp] theorem sz52 : szOf Tryd.prog 52 = some 1 := by kernel_rfl
@[simp] theorem ag52 : aggB Tryd.prog 52 = some false := by kernel_rfl
@[simp] theorem ei52 : eInfo Tryd.prog 52 = some (1, 24) := by kernel_rfl
@[simp] theorem zo52 : zero1 Tryd.prog 52 = some (.z) := by kernel_rfl
@[simp] theorem ze52 : zeroA Tryd.prog 52 = some [.z] := by kernel_rfl
@[simp] theorem sz56 : szOf Tryd.prog 56 = some 1 := by kernel_rfl
@[simp] theorem ag56 : aggB Tryd.prog 56 = some false := by kernel_rfl
@[simp] theorem ei56 : eInfo Tryd.prog 56 = some (1, 8) := by kernel_rfl
@[simp] theorem ze56 : zeroA Tryd.prog 56 = some [.p (.c (.pointer none))] := by kernel_rfl
@[simp] theorem sz57 : szOf Tryd.prog 57 = some 1 := by kernel_rfl
@[simp] theorem ag57 : aggB Tryd.prog 57 = some false := by kernel_rfl
@[simp] theorem ei57 : eInfo Tryd.prog 57 = some (1, 24) := by kernel_rfl
@[simp] theorem zo57 : zero1 Tryd.prog 57 = some (.z) := by kernel_rfl
@[simp] theorem ze57 : zeroA Tryd.prog 57 = some [.z] := by kernel_rfl
@[simp] theorem sz58 : szOf Tryd.prog 58 = some 1 := by kernel_rfl
@[simp] theorem ag58 : aggB Tryd.prog 58 = some false := by kernel_rfl
@[simp] theorem ei58 : eInfo Tryd.prog 58 = some (1, 24) := by kernel_rfl
@[simp] theorem zo58 : zero1 Tryd.prog 58 = some (.z) := by kernel_rfl
@[simp] theorem ze58 : zeroA Tryd.prog 58 = some [.z] := by kernel_rfl
@[simp] theorem sz59 : szOf Tryd.prog 59 = some 1 := by kernel_rfl
@[simp] theorem ag59 : aggB Tryd.prog 59 = some false := by kernel_rfl
@[simp] theorem ei59 : eInfo Tryd.prog 59 = some (1, 24) := by kernel_rfl
@[simp] theorem zo59 : zero1 Tryd.prog 59 = some (.z) := by kernel_rfl
@[simp] theorem ze59 : zeroA Tryd.prog 59 = some [.z] := by kernel_rfl
@[simp] theorem sz60 : szOf Tryd.prog 60 = some 10 := by kernel_rfl
@[simp] theorem ag60 : aggB Tryd.prog 60 = some true := by kernel_rfl
@[simp] theorem ei60 : eInfo Tryd.prog 60 = some (10, 224) := by kernel_rfl
@[simp] theorem ze60 : zeroA Tryd.prog 60 = some [.z, .p (.c (.int .i64 0)), .z, .z, .z, .z, .z, .z, .z, .z] := by kernel_rfl
@[simp] theorem sz61 : szOf Tryd.prog 61 = some 10 := by kernel_rfl
@[simp] theorem ag61 : aggB Tryd.prog 61 = some true := by kernel_rfl
@[simp] theorem ei61 : eInfo Tryd.prog 61 = some (10, 224) := by kernel_rfl
@[simp] theorem ze61 : zeroA Tryd.prog 61 = some [.z, .p (.c (.int .i64 0)), .z, .z, .z, .z, .z, .z, .z, .z] := by kernel_rfl
@[simp] theorem sz67 : szOf Tryd.prog 67 = some 1 := by kernel_rfl
@[simp] theorem ag67 : aggB Tryd.prog 67 = some false := by kernel_rfl
@[simp] theorem ei67 : eInfo Tryd.prog 67 = some (1, 8) := by kernel_rfl
@[simp] theorem ze67 : zeroA Tryd.prog 67 = some [.p (.c .nilFunc)] := by kernel_rfl
@[simp] theorem sz69 : szOf Tryd.prog 69 = some 1 := by kernel_rfl
@[simp] theorem ag69 : aggB Tryd.prog 69 = some false := by kernel_rfl
@[simp] theorem ei69 : eInfo Tryd.prog 69 = some (1, 8) := by kernel_rfl
@[simp] theorem zo69 : zero1 Tryd.prog 69 = some (.p (.c (.int .i64 0))) := by kernel_rfl
@[simp] theorem ze69 : zeroA Tryd.prog 69 = some [.p (.c (.int .i64 0))] := by kernel_rfl
@[simp] theorem sz70 : szOf Tryd.prog 70 = some 4 := by kernel_rfl
@[simp] theorem ag70 : aggB Tryd.prog 70 = some true := by kernel_rfl
@[simp] theorem ei70 : eInfo Tryd.prog 70 = some (4, 40) := by kernel_rfl
@[simp] theorem ze70 : zeroA Tryd.prog 70 = some [.p (.c (.int .i64 0)), .p (.c (.string ⟨#[]⟩)), .p (.c (.int .i64 0)), .p (.c (.int .i64 0))] := by kernel_rfl
@[simp] theorem eqo70 : eqOk Tryd.prog 70 = true := by first | kernel_rfl
@[simp] theorem sz71 : szOf Tryd.prog 71 = some 4 := by kernel_rfl
@[simp] theorem ag71 : aggB Tryd.prog 71 = some true := by kernel_rfl
@[simp] theorem ei71 : eInfo Tryd.prog 71 = some (4, 40) := by kernel_rfl
@[simp] theorem ze71 : zeroA Tryd.prog 71 = some [.p (.c (.int .i64 0)), .p (.c (.string ⟨#[]⟩)), .p (.c (.int .i64 0)), .p (.c (.int .i64 0))] := by kernel_rfl
@[simp] theorem eqo71 : eqOk Tryd.prog 71 = true := by first | kernel_rfl
@[simp] theorem sz76 : szOf Tryd.prog 76 = some 7 := by kernel_rfl
@[simp] theorem ag76 : aggB Tryd.prog 76 = some true := by kernel_rfl
@[simp] theorem ei76 : eInfo Tryd.prog 76 = some (7, 72) := by kernel_rfl
@[simp] theorem ze76 : zeroA Tryd.prog 76 = some [.p (.c (.int .i64 0)), .p (.c (.string ⟨#[]⟩)), .p (.c (.int .i64 0)), .p (.c (.int .i64 0)), .p (.c (.string ⟨#[]⟩)), .p (.c (.int .i64 0)), .p (.c (.int .i64 0))] := by kernel_rfl
@[simp] theorem sz77 : szOf Tryd.prog 77 = some 7 := by kernel_rfl
@[simp] theorem ag77 : aggB Tryd.prog 77 = some true := by kernel_rfl
@[simp] theorem ei77 : eInfo Tryd.prog 77 = some (7, 72) := by kernel_rfl
@[simp] theorem ze77 : zeroA Tryd.prog 77 = some [.p (.c (.int .i64 0)), .p (.c (.string ⟨#[]⟩)), .p (.c (.int .i64 0)), .p (.c (.int .i64 0)), .p (.c (.string ⟨#[]⟩)), .p (.c (.int .i64 0)), .p (.c (.int .i64 0))] := by kernel_rfl
@[simp] theorem sz79 : szOf Tryd.prog 79 = some 2 := by kernel_rfl
@[simp] theorem ag79 : aggB Tryd.prog 79 = some true := by kernel_rfl
@[simp] theorem ei79 : eInfo Tryd.prog 79 = some (2, 16) := by kernel_rfl
@[simp] theorem ze79 : zeroA Tryd.prog 79 = some [.p (.c (.int .i64 0)), .p (.c (.int .i64 0))] := by kernel_rfl
@[simp] theorem eqo79 : eqOk Tryd.prog 79 = true := by first | kernel_rfl
@[simp] theorem sz80 : szOf Tryd.prog 80 = some 2 := by kernel_rfl
@[simp] theorem ag80 : aggB Tryd.prog 80 = some true := by kernel_rfl
@[simp] theorem ei80 : eInfo Tryd.prog 80 = some (2, 16) := by kernel_rfl
@[simp] theorem ze80 : zeroA Tryd.prog 80 = some [.p (.c (.int .i64 0)), .p (.c (.int .i64 0))] := by kernel_rfl
@[simp] theorem eqo80 : eqOk Tryd.prog 80 = true := by first | kernel_rfl
@[simp] theorem sz88 : szOf Tryd.prog 88 = some 1 := by kernel_rfl
@[simp] theorem ag88 : aggB Tryd.prog 88 = some false := by kernel_rfl
@[simp] theorem ei88 : eInfo Tryd.prog 88 = some (1, 8) := by kernel_rfl
@[simp] theorem ze88 : zeroA Tryd.prog 88 = some [.p (.c (.pointer none))] := by kernel_rfl
@[simp] theorem sz94 : szOf Tryd.prog 94 = some 1 := by kernel_rfl
@[simp] theorem ag94 : aggB Tryd.prog 94 = some false := by kernel_rfl
@[simp] theorem ei94 : eInfo Tryd.prog 94 = some (1, 24) := by kernel_rfl
@[simp] theorem zo94 : zero1 Tryd.prog 94 = some (.z) := by kernel_rfl
@[simp] theorem ze94 : zeroA Tryd.prog 94 = some [.z] := by kernel_rfl
@[simp] theorem sz99 : szOf Tryd.prog 99 = some 1 := by kernel_rfl
@[simp] theorem ag99 : aggB Tryd.prog 99 = some false := by kernel_rfl
@[simp] theorem ei99 : eInfo Tryd.prog 99 = some (1, 8) := by kernel_rfl
@[simp] theorem ze99 : zeroA Tryd.prog 99 = some [.p (.c .nilFunc)] := by kernel_rfl
@[simp] theorem sz100 : szOf Tryd.prog 100 = some 1 := by kernel_rfl
@[simp] theorem ag100 : aggB Tryd.prog 100 = some false := by kernel_rfl
@[simp] theorem ei100 : eInfo Tryd.prog 100 = some (1, 8) := by kernel_rfl
@[simp] theorem ze100 : zeroA Tryd.prog 100 = some [.p (.c .nilFunc)] := by kernel_rfl
@[simp] theorem sz101 : szOf Tryd.prog 101 = some 1 := by kernel_rfl
@[simp] theorem ag101 : aggB Tryd.prog 101 = some false := by kernel_rfl
@[simp] theorem ei101 : eInfo Tryd.prog 101 = some (1, 8) := by kernel_rfl
@[simp] theorem ze101 : zeroA Tryd.prog 101 = some [.p (.c .nilFunc)] := by kernel_rfl
@[simp] theorem sz104 : szOf Tryd.prog 104 = some 7 := by kernel_rfl
@[simp] theorem ag104 : aggB Tryd.prog 104 = some true := by kernel_rfl
@[simp] theorem ei104 : eInfo Tryd.prog 104 = some (7, 7) := by kernel_rfl
@[simp] theorem ze104 : zeroA Tryd.prog 104 = some [.p (.c (.bool false)), .p (.c (.bool false)), .p (.c (.bool false)), .p (.c (.bool false)), .p (.c (.bool false)), .p (.c (.bool false)), .p (.c (.bool false))] := by kernel_rfl
@[simp] theorem sz105 : szOf Tryd.prog 105 = some 8 := by kernel_rfl
@[simp] theorem ag105 : aggB Tryd.prog 105 = some true := by kernel_rfl
@[simp] theorem ei105 : eInfo Tryd.prog 105 = some (8, 24) := by kernel_rfl
@[simp] theorem ze105 : zeroA Tryd.prog 105 = some [.p (.c (.string ⟨#[]⟩)), .p (.c (.bool false)), .p (.c (.bool false)), .p (.c (.bool false)), .p (.c (.bool false)), .p (.c (.bool false)), .p (.c (.bool false)), .p (.c (.bool false))] := by kernel_rfl
@[simp] theorem sz106 : szOf Tryd.prog 106 = some 8 := by kernel_rfl
@[simp] theorem ag106 : aggB Tryd.prog 106 = some true := by kernel_rfl
@[simp] theorem ei106 : eInfo Tryd.prog 106 = some (8, 24) := by kernel_rfl
@[simp] theorem ze106 : zeroA Tryd.prog 106 = some [.p (.c (.string ⟨#[]⟩)), .p (.c (.bool false)), .p (.c (.bool false)), .p (.c (.bool false)), .p (.c (.bool false)), .p (.c (.bool false)), .p (.c (.bool false)), .p (.c (.bool false))] := by kernel_rfl
@[simp] theorem sz107 : szOf Tryd.prog 107 = some 176 := by kernel_rfl
@[simp] theorem ag107 : aggB Tryd.prog 107 = some true := by kernel_rfl
@[simp] theorem ei107 : eInfo Tryd.prog 107 = some (176, 528) := by kernel_rfl
@[simp] theorem sz109 : szOf Tryd.prog 109 = some 1 := by kernel_rfl
@[simp] theorem ag109 : aggB Tryd.prog 109 = some false := by kernel_rfl
@[simp] theorem ei109 : eInfo Tryd.prog 109 = some (1, 8) := by kernel_rfl
@[simp] theorem ze109 : zeroA Tryd.prog 109 = some [.p (.c (.pointer none))] := by kernel_rfl
@[simp] theorem sz114 : szOf Tryd.prog 114 = some 1 := by kernel_rfl
@[simp] theorem ag114 : aggB Tryd.prog 114 = some false := by kernel_rfl
@[simp] theorem ei114 : eInfo Tryd.prog 114 = some (1, 8) := by kernel_rfl
@[simp] theorem ze114 : zeroA Tryd.prog 114 = some [.p (.c .nilFunc)] := by kernel_rfl
@[simp] theorem sz121 : szOf Tryd.prog 121 = some 7 := by kernel_rfl
@[simp] theorem ag121 : aggB Tryd.prog 121 = some true := by kernel_rfl
@[simp] theorem ei121 : eInfo Tryd.prog 121 = some (7, 56) := by kernel_rfl
@[simp] theorem ze121 : zeroA Tryd.prog 121 = some [.p (.c (.int .i64 0)), .p (.c (.int .i64 0)), .p (.c (.int .i64 0)), .p (.c (.int .i64 0)), .p (.c (.int .i64 0)), .p (.c (.int .i64 0)), .p (.c (.int .i64 0))] := by kernel_rfl
@[simp] theorem eqo121 : eqOk Tryd.prog 121 = true := by kernel_rfl
@[simp] theorem int121 : intT Tryd.prog 3 = true := by kernel_rfl
@[simp] theorem sz123 : szOf Tryd.prog 123 = some 3 := by kernel_rfl
@[simp] theorem ag123 : aggB Tryd.prog 123 = some true := by kernel_rfl
@[simp] theorem ei123 : eInfo Tryd.prog 123 = some (3, 24) := by kernel_rfl
@[simp] theorem ze123 : zeroA Tryd.prog 123 = some [.p (.c (.int .i64 0)), .p (.c (.int .i64 0)), .p (.c (.int .i64 0))] := by kernel_rfl
@[simp] theorem eqo123 : eqOk Tryd.prog 123 = true := by kernel_rfl
@[simp] theorem int123 : intT Tryd.prog 3 = true := by kernel_rfl
@[simp] theorem sz129 : szOf Tryd.prog 129 = some 10 := by kernel_rfl
@[simp] theorem ag129 : aggB Tryd.prog 129 = some true := by kernel_rfl
@[simp] theorem ei129 : eInfo Tryd.prog 129 = some (10, 160) := by kernel_rfl
@[simp] theorem ze129 : zeroA Tryd.prog 129 = some [.p (.c (.string ⟨#[]⟩)), .p (.c (.string ⟨#[]⟩)), .p (.c (.string ⟨#[]⟩)), .p (.c (.string ⟨#[]⟩)), .p (.c (.string ⟨#[]⟩)), .p (.c (.string ⟨#[]⟩)), .p (.c (.string ⟨#[]⟩)), .p (.c (.string ⟨#[]⟩)), .p (.c (.string ⟨#[]⟩)), .p (.c (.string ⟨#[]⟩))] := by kernel_rfl
@[simp] theorem sz130 : szOf Tryd.prog 130 = some 3 := by kernel_rfl
@[simp] theorem ag130 : aggB Tryd.prog 130 = some true := by kernel_rfl
@[simp] theorem ei130 : eInfo Tryd.prog 130 = some (3, 48) := by kernel_rfl
@[simp] theorem ze130 : zeroA Tryd.prog 130 = some [.p (.c (.string ⟨#[]⟩)), .p (.c (.string ⟨#[]⟩)), .p (.c (.string ⟨#[]⟩))] := by kernel_rfl
attribute [simp] Tryd.underlying1 Tryd.underlying2 Tryd.underlying3 Tryd.underlying4 Tryd.underlying5 Tryd.underlying6 Tryd.underlying7 Tryd.underlying8 Tryd.underlying9 Tryd.underlying10 Tryd.underlying11 Tryd.underlying12 Tryd.underlying13 Tryd.underlying14 Tryd.underlying15 Tryd.underlying16 Tryd.underlying17 Tryd.underlying18 Tryd.underlying19 Tryd.underlying20 Tryd.underlying21 Tryd.underlying22 Tryd.underlying23 Tryd.underlying24 Tryd.underlying25 Tryd.underlying26 Tryd.underlying27 Tryd.underlying28 Tryd.underlying29 Tryd.underlying30 Tryd.underlying31 Tryd.underlying33 Tryd.underlying34 Tryd.underlying35 Tryd.underlying36 Tryd.underlying37 Tryd.underlying38 Tryd.underlying39 Tryd.underlying40 Tryd.underlying41 Tryd.underlying42 Tryd.underlying44 Tryd.underlying45 Tryd.underlying46 Tryd.underlying47 Tryd.underlying48 Tryd.underlying49 Tryd.underlying50 Tryd.underlying51 Tryd.underlying52 Tryd.underlying54 Tryd.underlying55 Tryd.underlying56 Tryd.underlying57 Tryd.underlying58 Tryd.underlying59 Tryd.underlying60 Tryd.underlying61 Tryd.underlying62 Tryd.underlying63 Tryd.underlying65 Tryd.underlying66 Tryd.underlying67 Tryd.underlying68 Tryd.underlying69 Tryd.underlying70 Tryd.underlying71 Tryd.underlying73 Tryd.underlying75 Tryd.underlying76 Tryd.underlying77 Tryd.underlying78 Tryd.underlying79 Tryd.underlying80 Tryd.underlying82 Tryd.underlying84 Tryd.underlying85 Tryd.underlying87 Tryd.underlying88 Tryd.underlying89 Tryd.underlying90 Tryd.underlying92 Tryd.underlying93 Tryd.underlying94 Tryd.underlying96 Tryd.underlying97 Tryd.underlying98 Tryd.underlying99 Tryd.underlying100 Tryd.underlying101 Tryd.underlying102 Tryd.underlying103 Tryd.underlying104 Tryd.underlying105 Tryd.underlying106 Tryd.underlying107 Tryd.underlying108 Tryd.underlying109 Tryd.underlying110 Tryd.underlying111 Tryd.underlying112 Tryd.underlying113 Tryd.underlying114 Tryd.underlying115 Tryd.underlying116 Tryd.underlying117 Tryd.underlying118 Tryd.underlying119 Tryd.underlying120 Tryd.underlying121 Tryd.underlying122 Tryd.underlying123 Tryd.underlying124 Tryd.underlying126 Tryd.underlying128 Tryd.underlying129 Tryd.underlying130 Tryd.underlying131 Tryd.underlying132 Tryd.underlying133 Tryd.underlying134 Tryd.underlying135 Tryd.underlying136 Tryd.underlying137 Tryd.underlying138 Tryd.underlying139 Tryd.underlying140 Tryd.underlying141 Tryd.underlying142 Tryd.underlying143 Tryd.underlying144 Tryd.underlying145 Tryd.underlying146
end Go.Proofs
end
section
set_option linter.all false
namespace Go.Hw
class TEnc (α : Type) [Enc α] where
 ot : α -> List OT
 olen : ∀ x, (ot x).length = Enc.sz α
 ocv : ∀ x, (ot x).map otCV = Enc.enc x
def otL {α : Type} [Enc α] [TEnc α] (l : List α) : List OT := l.flatMap TEnc.ot
theorem otCV_g : ∀ l : List OT, otCV.go l = l.map otCV
 | [] => rfl
 | t :: r => by rw [List.map_cons, otCV.go, otCV_g r]
theorem otA_cv (t : OT) : (otA t).cv = some (otCV t) := by cases t <;> rfl
theorem cvs_otA : ∀ l : List OT, cvs (l.map otA) = some (l.map otCV)
 | [] => rfl
 | t :: r => by rw [List.map_cons, cvs, otA_cv, cvs_otA r]; rfl
theorem otC_otA (t : OT) : otC (otA t) = some t := by cases t <;> rfl
theorem otCs_otA : ∀ l : List OT, otCs (l.map otA) = some l
 | [] => rfl
 | t :: r => by rw [List.map_cons, otCs, otC_otA, otCs_otA r]
instance {α : Type} [Enc α] [TEnc α] : OEnc α := ⟨fun x => (TEnc.ot x).map otA, fun x => by rw [List.length_map, TEnc.olen], fun x => by rw [cvs_otA, TEnc.ocv], fun x c hc => by
 obtain ⟨t, _, rfl⟩ := List.mem_map.1 hc
 cases t with
 | p c => exact .inl ⟨c, rfl⟩
 | sp a b c => exact .inr ⟨_, rfl⟩
 | sl a b c => exact .inr ⟨_, rfl⟩⟩
section
variable {α : Type} [Enc α] [TEnc α]
theorem oenc_t (x : α) : OEnc.oenc x = (TEnc.ot x).map otA := rfl
@[simp] theorem otL_nil : otL ([] : List α) = [] := rfl
theorem otL_cons (x : α) (l : List α) : otL (x :: l) = TEnc.ot x ++ otL l := rfl
@[simp] theorem otL_map (l : List α) : (otL l).map otA = oencL l := by
 induction l with
 | nil => rfl
 | cons x l ih => rw [otL_cons, List.map_append, ih]; rfl
@[simp] theorem oencL_takeN [Globals] (l : List α) {n : Nat} (h : Enc.sz α = n) : (oencL l).take (l.length * n) = oencL l := by
 subst h; exact List.take_of_length_le (by rw [oencL_length]; exact Nat.le_refl _)
@[simp] theorem oencL_otCs (l : List α) : otCs (oencL l) = some (otL l) := by rw [<- otL_map, otCs_otA]
theorem otL_cv (l : List α) : (otL l).map otCV = encL l := by
 induction l with
 | nil => rfl
 | cons x l ih => rw [otL_cons, List.map_append, ih, TEnc.ocv]; rfl
@[simp] theorem otL_go (l : List α) : otCV.go (otL l) = encL l := by rw [otCV_g, otL_cv]
end
end Go.Hw
end
section
set_option linter.all false
namespace Go.Hw
variable [Globals] {α : Type} [Enc α] [OEnc α]
/-- An element whose first c cells are deep. -/
def partL (c : Nat) (x : α) : List AC := (OEnc.oenc x).take c ++ ((Enc.enc x).map AC.p).drop c
def mixP (n c : Nat) (l : List α) : List AC := oencL (l.take n) ++ (((l.drop n).take 1).flatMap (partL c) ++ (encL (l.drop (n + 1))).map .p)
theorem AC_ren_oenc (x : α) (a b : Id) : (OEnc.oenc x).map (AC.ren a b) = OEnc.oenc x := by
 have := oencL_ren [x] a b; simpa using this
@[simp] theorem mixP_ren (n c : Nat) (l : List α) (x y : Id) : (mixP n c l).map (AC.ren x y) = mixP n c l := by
 unfold mixP
 rw [List.map_append, oencL_ren, List.map_append, List.map_map]
 congr 2
 rw [List.map_flatMap]
 congr 1; funext v
 unfold partL
 rw [List.map_append, List.map_take, AC_ren_oenc, List.map_drop, List.map_map]
 congr 1
end Go.Hw
end
section
set_option linter.all false
namespace Go.Hw
variable [Globals] {α : Type} [Enc α] [OEnc α]
/-- A row whose element n has the cells cs. -/
def frow (n : Nat) (cs : List AC) (l : List α) : List AC := oencL (l.take n) ++ (cs ++ oencL (l.drop (n + 1)))
section
variable (n : Nat) (cs : List AC) (l : List α)
theorem frow_map {f : AC -> AC} (h1 : ∀ v, f (.p v) = .p v) (h2 : ∀ t, f (.own t) = .own t) : (frow n cs l).map f = frow n (cs.map f) l := by
 unfold frow; rw [List.map_append, List.map_append, oencL_map _ _ h1 h2, oencL_map _ _ h1 h2]
@[simp] theorem frow_ren (x y : Id) : (frow n cs l).map (AC.ren x y) = frow n (cs.map (AC.ren x y)) l := frow_map n cs l (fun v => by simp) fun t => by simp
@[simp] theorem frow_kil (y : Id) : (frow n cs l).map (AC.kil y) = frow n (cs.map (AC.kil y)) l := frow_map n cs l (fun v => by simp) fun t => by simp
@[simp] theorem frow_frz (b : Id) (xs : List CV) : (frow n cs l).map (AC.frz b xs) = frow n (cs.map (AC.frz b xs)) l := frow_map n cs l (fun v => by simp) fun t => by simp
@[simp] theorem frow_unz : (frow n cs l).map AC.unz = frow n (cs.map AC.unz) l := frow_map n cs l (fun v => by simp) fun t => by simp
@[simp] theorem frow_toF (fp : List Id) : (frow n cs l).map (AC.toF fp) = frow n (cs.map (AC.toF fp)) l := frow_map n cs l (fun v => by simp) fun t => by simp
@[simp] theorem frow_back (fp bors : List Id) (post : List (Id × Blk)) (g i : Nat) : (frow n cs l).map (AC.back fp bors post g i) = frow n (cs.map (AC.back fp bors post g i)) l := frow_map n cs l (fun v => by simp) fun t => by simp
end
theorem strB2_u {a b : ByteArray} (h : strB2 a b = true) : ¬ (9223372036854775807 < (a.size : Int) + (b.size : Int)) := by
 simp [strB2] at h; omega
end Go.Hw
end
section
set_option linter.all false
namespace Go.Hw
variable [Globals]
theorem byteCV_enc (l : List UInt8) : bytesCV l = encL l := by
 induction l with
 | nil => rfl
 | cons x l ih => rw [encL_cons, <- ih]; rfl
theorem cellsBytes_enc (l : List UInt8) : cellsBytes (encL l) = some l := by
 induction l with
 | nil => rfl
 | cons x l ih =>
  rw [encL_cons]
  show (cellsBytes (encL l)).map (UInt8.ofNat (Int.toNat _) :: ·) = _
  rw [ih]; simp
attribute [simp] byteCV_enc cellsBytes_enc
/-- A string short enough to be laid out. -/
def strB3 (s : ByteArray) : Bool := decide (s.size <= 4611686018427387904)
@[simp] theorem ones8 : (if IntKind.u8.signed = true then (-1 : Int) else IntKind.u8.max) = 255 := rfl
@[simp] theorem ones32 : (if IntKind.u32.signed = true then (-1 : Int) else IntKind.u32.max) = 4294967295 := rfl
@[simp] theorem ones64 : (if IntKind.u64.signed = true then (-1 : Int) else IntKind.u64.max) = 18446744073709551615 := rfl
@[simp] theorem onesI : (if IntKind.i64.signed = true then (-1 : Int) else IntKind.i64.max) = -1 := rfl
/-- A byte out of a number. -/
def u8 (n : Int) : UInt8 := UInt8.ofNat n.toNat
theorem u8_wrap {n : Int} (h : 0 <= n) (h' : n < 256) : ((u8 n).toNat : Int) = n := by
 unfold u8
 rw [UInt8.toNat_ofNat']
 omega
@[simp] theorem u8_wr (n : Int) : ((u8 (IntKind.u8.wrap n)).toNat : Int) = IntKind.u8.wrap n := by
 refine u8_wrap ?_ ?_ <;> simp [IntKind.wrap, IntKind.bits, IntKind.signed] <;> omega
/-- Types whose cells are constants. -/
class FlatT (α : Type) [Enc α] : Prop where
 h : ∀ x : α, ∀ c ∈ Enc.enc x, c.isC = true
instance : FlatT UInt8 := ⟨fun x c h => by simp at h; subst h; rfl⟩
instance : FlatT Int := ⟨fun x c h => by simp at h; subst h; rfl⟩
instance : FlatT ByteArray := ⟨fun x c h => by simp at h; subst h; rfl⟩
theorem flat_all {α : Type} [Enc α] [FlatT α] (l : List α) : ∀ c ∈ encL l, c.isC = true := fun c h => by
 obtain ⟨x, _, hx⟩ := List.mem_flatMap.1 h
 exact FlatT.h x c hx
@[simp high] theorem flat_all1 {α : Type} [Enc α] [FlatT α] (l : List α) : (encL l).all CV.isC = true := List.all_eq_true.2 (flat_all l)
@[simp high] theorem flat_all2 {α : Type} [Enc α] [FlatT α] (l : List α) : Blk.flat (.pure (encL l)) = true := flat_all1 l
@[simp high] theorem flat_all3 {α : Type} [Enc α] [FlatT α] (l : List α) : (∀ x, x ∈ encL l -> (match x with | CV.c v => true | x => false) = true) = True := by
 simp only [eq_iff_iff, iff_true]
 intro x h
 have := flat_all l x h
 unfold CV.isC at this
 exact this
end Go.Hw
end
section
set_option linter.all false
namespace Go.Hw
variable [Globals] {P : Program} {Q : AX -> St -> Prop} {st : St}
/-- The state behind the toss. -/
def St.coin (st : St) (d1 d4 : Tmp) (b : Bool) : St :=
  { ({ st with gen := st.gen + 1, env := putE st.env (some d1) (.cell (.ref (.o (st.gen + 1) 0 0) 0)), hp := hput st.hp [(.o (st.gen + 1) 0 0, some (.cells [.p (.c (.bool b))]))] } : St) with
    env := putE (putE st.env (some d1) (.cell (.ref (.o (st.gen + 1) 0 0) 0))) (some d4) (bV b) }
@[simp] theorem pur_gen {b : Id} {s : St} : (s.pur b).gen = s.gen := by
 unfold St.pur
 split
 ·split <;> rfl
 ·rfl
@[simp] theorem stbOf_nil {x : Operand} {env : Nat -> AV} {hp : Id -> Option Blk} {out : AV} {b : Id} {v : Option Blk} : stbOf P (.nilCheck x) env hp out b v = (v.isSome = true /\ (hp b).isSome = true) := rfl
@[simp] theorem stbOf_fld {x : Operand} {env : Nat -> AV} {hp : Id -> Option Blk} {out : AV} {b : Id} {v : Option Blk} {t i : Nat} : stbOf P (.fieldAddr t x i) env hp out b v = (v.isSome = true /\ (hp b).isSome = true) := rfl
@[simp] theorem andB_1 (b : Bool) : andB true b = b := rfl
@[simp] theorem orB_0 (b : Bool) : orB false b = b := rfl
end Go.Hw
end
section
set_option linter.all false
namespace Go.Hw
variable [Globals]
open Go.RowKit (Below)
/-- How a frame leaves: with what panic, if with any. -/
def modeOf : Option Value -> FrameMode
 | none => .returning
 | some v => .panicking [⟨v, false, false⟩]
/-- What recover gives then. -/
def recOf : Option Value -> Value
 | none => .nilIface
 | some v => v
/-- How the frame leaves when the panic is recovered. -/
def modeRec : Option Value -> FrameMode
 | none => .returning
 | some v => .panicking [⟨v, true, false⟩]
theorem settle_rec (ca : Option Value) : settle (modeRec ca) = .returning := by cases ca <;> rfl
/-- THE CONTRACT OF A CALL THAT WAS DEFERRED: it recovers what there is. -/
def DAt (P : Program) (n : FuncId) (ca : Option Value) (as_ : List AV) (pre : List Blk) (post : List (Id × Blk)) : Prop :=
 fnOkB P n /\ ∀ (w : World) (vs : Array Value) (bad0 : Nat -> Prop) (m : Mem), Pre w m bad0 pre -> vs.size = as_.length ->
  (∀ (j : Nat) (u : Value) (x : AV), vs[j]? = some u -> as_[j]? = some x -> AVRep w m bad0 u x) ->
  (∀ g cs, Globals.G g = some cs -> AVRep w m bad0 (.pointer (some ⟨g, 0, none⟩)) (.cell (.ep cs 0))) ->
  CallsDIn Fence.wide 0 P n vs (modeOf ca) w fun e u' w' => u' = modeRec ca /\ ∃ m', EndR w' m' bad0 (.ret (.tup [])) e /\ Post w m bad0 w' m' post
theorem recoverD_of {c₀ : Frame} {cs : List Frame} {ca : Option Value} (h : c₀.mode = modeOf ca) : (∀ v, ca = some v -> recoverD (c₀ :: cs) = some (v, { c₀ with mode := modeRec ca } :: cs)) /\ (ca = none -> recoverD (c₀ :: cs) = none) := by
 constructor
 ·rintro v rfl; simp [recoverD, h, modeOf, modeRec]
 ·rintro rfl; simp [recoverD, h, modeOf]
section
variable {F : Fence} {n : Nat} {P : Program} {ops : Array Oper} {Q : Exit -> Act -> List Frame -> World -> Prop} {i : Nat} {rest : List Nat} {a : Act} {cs : List Frame} {w w' : World} {o : Oper}
theorem opsS_val {v : Value} (hF : ∀ f, F.fn f) (ho : ops[i]? = some o) (hg : o.guard = none) (hr : (execOp a.eval o).run P w = .ok (.value v) w') (h : wpOpsSIn F n P ops Q rest (a.put o.dst v) cs w') : wpOpsSIn F n P ops Q (i :: rest) a cs w := by
 unfold wpOpsSIn
 simp only [ho]
 refine ⟨fun f _ => hF f, ?_⟩
 rw [if_pos (wanted_none hg), hr]
 exact h
theorem opsS_rec {v : Value} {cs' : List Frame} (hF : ∀ f, F.fn f) (ho : ops[i]? = some o) (hg : o.guard = none) (hr : (execOp a.eval o).run P w = .ok .recover w') (hc : recoverD cs = some (v, cs') \/ recoverD cs = none /\ v = .nilIface /\ cs' = cs)
  (h : wpOpsSIn F n P ops Q rest (a.put o.dst v) cs' w') : wpOpsSIn F n P ops Q (i :: rest) a cs w := by
 unfold wpOpsSIn
 simp only [ho]
 refine ⟨fun f _ => hF f, ?_⟩
 rw [if_pos (wanted_none hg), hr]
 rcases hc with hc | ⟨hc, rfl, rfl⟩
 ·simp only [hc]; exact h
 ·simp only [hc]; exact h
end
theorem dat_code {P : Program} {f : FuncId} {fn : Func} {rest : Code} {rid d1 d2 : Nat} {t ty1 ty2 : TypeId} {ts1 : Array TypeId} {pos1 pos2 : String} {after1 after2 : Array Edge} {op2 : Op} {ca : Option Value} {args : List AV} {pre : List Blk} {post : List (Id × Blk)} {x2 : AV}
  (hm : P.follows .mixedOrders = true) (hf : P.funcs[f]? = some fn) (hname : (fn.name == "runtime.NumGoroutine") = false)
  (hb : fn.body = some (.seq (.region rid #[⟨some d1, .call { callee := .builtin .recover, args := #[], argTypes := ts1 }, ty1, pos1, after1, none⟩, ⟨some d2, op2, ty2, pos2, after2, none⟩] false) rest))
  (hargs : args.length <= fn.ntmps) (hd1 : d1 < fn.ntmps) (hd2 : d2 < fn.ntmps) (hok : codeOkP fn.ntmps (some fn.ntmps) rest = true) (hres : fn.results.toList = [])
  (hq : qval P (st0 args pre).hp (evAV ((st0 args pre).put (some d1) (.cell (.p (.c (recOf ca))))).env) op2 = some x2)
  (h : awp P rest (retPost P [] (.ret (.tup [])) post) (((st0 args pre).put (some d1) (.cell (.p (.c (recOf ca))))).put (some d2) x2)) : DAt P f ca args pre post := by
 refine ⟨⟨fn, hf, hname, by rw [hb]; rfl⟩, fun w vs bad0 m hP hlen hrep hglob => ?_⟩
 refine callsDIn_of_wpSIn hf hb trivial fun c₀ cs hc => ?_
 have hJ0 := J.start hargs hP hlen hrep hglob (out := fun _ => False) (fun _ h => h.elim) (fun _ _ _ _ h => h) (fun _ _ _ _ _ _ _ => False)
 let C : Cx := { prot := fun b => b < w.heap.size /\ ¬ Own m b, bad0 := bad0, w0 := w, N := fn.ntmps, perm := fun b => (b < w.heap.size /\ ¬ Own m b) /\ ¬ (fun _ => False) b, marks := [], loop := none, out := fun _ => False, fore := m.ρ, wi := w, seq := fun _ _ _ _ _ _ _ => False, also := fun _ => False, pin := some (fn.ntmps, undef) }
 have hJ : J C (st0 args pre) { tmps := vs ++ Array.replicate (fn.ntmps - vs.size) undef, defers := [] } w m := by
  refine { hJ0 with ext := ⟨hJ0.ext.defers, hJ0.ext.nodup, hJ0.ext.marks, hJ0.ext.perm, hJ0.ext.outb, hJ0.ext.loop, hJ0.ext.seq, hJ0.ext.fore, hJ0.ext.also, fun t v e => ?_⟩ }
  cases e
  rw [Array.getD_eq_getD_getElem?, Array.getElem?_eq_none (by simp; omega)]
  rfl
 have p1 : dstOk C (some d1) := fun k hk => by cases hk; exact ⟨hd1, fun v e => by cases e; omega⟩
 have p2 : dstOk C (some d2) := fun k hk => by cases hk; exact ⟨hd2, fun v e => by cases e; omega⟩
 have hJ1 := hJ.put p1 (v := recOf ca) (x := .cell (.p (.c (recOf ca)))) (.cell _ _ (.c _))
 obtain ⟨v2, hr2, hv2⟩ := qval_run (o := ⟨some d2, op2, ty2, pos2, after2, none⟩) hJ1.hp (fun x => hJ1.ev x) hq
 have hJ2 := hJ1.put p2 hv2
 have key : rest.wpSIn Fence.wide 0 P (bodyPostS P fn c₀ cs fun e u' w' => u' = modeRec ca /\ ∃ m', EndR w' m' bad0 (.ret (.tup [])) e /\ Post w m bad0 w' m' post) (({ tmps := vs ++ Array.replicate (fn.ntmps - vs.size) undef, defers := [] } : Act).put (some d1) (recOf ca) |>.put (some d2) v2) ({ c₀ with mode := modeRec ca } :: cs) w := by
  refine wpSIn_of_wpIn rfl (Code.wpIn_mono ?_ (awp_sound hm rest Fence.wide 0 C _ _ _ _ _ (.inl ⟨rfl, rfl⟩) (seqLaw_none P) hok h hJ2))
  rintro e a' w' ⟨C', st₁, m₁, z, hle, hq, hJ₁, hz⟩
  have main : (∃ st', Gh st₁ st' /\ ∃ x, retAV P st' [] = some x /\ Out.ret (.tup []) = .ret x /\ ∀ p ∈ post, st'.hp p.1 = some p.2) -> bodyPostS P fn c₀ cs (fun e u' w' => u' = modeRec ca /\ ∃ m', EndR w' m' bad0 (.ret (.tup [])) e /\ Post w m bad0 w' m' post) .ret a' ({ c₀ with mode := modeRec ca } :: cs) w' := by
   rintro ⟨st', hgh, x, hx, hxe, hpost⟩
   obtain ⟨m', hJ'⟩ := hgh _ _ _ _ hJ₁
   obtain ⟨ms, e1, e2, _⟩ := hle.marks
   have hmk : C'.marks = [] := by rw [e1, e2 (by rfl)]; rfl
   have hdf : a'.defers = [] := by rw [hJ'.ext.defers, hmk, hle.dfr]; rfl
   obtain ⟨v, hr, hv⟩ := ret_run hJ' (fn := fn) (by rw [hres]; exact hx)
   cases hxe
   have k1 : ∀ b, b < w.heap.size -> ¬ Own m b -> w'.heap[b]? = w.heap[b]? := fun b hb ho => by
    obtain ⟨q1, q2⟩ := hle.perm b ⟨⟨hb, ho⟩, id⟩
    exact (hJ'.kept b (hJ'.ext.perm b q1).1).trans q2
   have k2 : ∀ b, b < w.heap.size -> ¬ Own m b -> ¬ Own m' b := fun b hb ho ho' => by
    obtain ⟨q1, _⟩ := hle.perm b ⟨⟨hb, ho⟩, id⟩
    exact (own_lt hJ' ho').1 (hJ'.ext.perm b q1).1
   obtain ⟨E, hPo⟩ := post_of hP hJ' hle.fore hle.wi (fun b hb => hle.bad b hb) ⟨Nat.le_trans hle.size hJ'.grown, hJ'.os.trans hle.os, hJ'.tape.trans hle.tape, hJ'.output.trans hle.output, k1⟩ k2 hpost
   exact ⟨hdf, _, rfl, v, hr, rfl, _, ⟨v, rfl, E.av hv⟩, hPo⟩
  cases z with
  | normal => have e0 : e = .normal := hz; subst e0; exact main hq
  | ret => have e0 : e = .ret := hz; subst e0; exact main hq
  | pan x => obtain ⟨_, hq, _⟩ := hq; cases hq
  | exit i => exact hq.elim
  | goto i => exact hq.elim
 refine wpSIn_seq (wpSIn_region ?_)
 have hrg : List.range (2 : Nat) = [0, 1] := rfl
 show wpOpsSIn _ _ _ _ _ [0, 1] _ _ _
 obtain ⟨r1, r2⟩ := recoverD_of (cs := cs) hc
 refine opsS_rec (v := recOf ca) (cs' := { c₀ with mode := modeRec ca } :: cs) (fun _ => trivial) (o := ⟨some d1, .call { callee := .builtin .recover, args := #[], argTypes := ts1 }, ty1, pos1, after1, none⟩) rfl rfl (w' := w) rfl ?_ ?_
 ·cases ca with
  | none => exact .inr ⟨r2 rfl, rfl, by cases c₀; simp only [modeOf] at hc; subst hc; rfl⟩
  | some v => exact .inl (r1 v rfl)
 ·exact opsS_val (fun _ => trivial) (o := ⟨some d2, op2, ty2, pos2, after2, none⟩) rfl rfl hr2 key
/-- The slot with the closure that is deferred. -/
def deferOf (o : Oper) : Option Nat := match o with
 | ⟨none, .defer c, _, _, _, none⟩ => match c.callee with
  | .value (.tmp t) => if c.args.isEmpty then some t else none
  | _ => none
 | _ => none
/-- Code up to the region that defers; what comes after it ends in QD. -/
def awpD (P : Program) (N : Nat) (QD : Nat -> AX -> St -> Prop) : Code -> (AX -> St -> Prop) -> St -> Prop
 | .seq (.region rid ops false) b, Q, st =>
  match ops.toList.getLast?.bind deferOf with
  | some t => codeOkP N (some N) (.region rid ops.toList.dropLast.toArray false) = true /\ codeOkP N (some t) b = true /\ ∃ st', Gh st st' /\
    aops P (st'.gen + 1) ops 0 ops.toList.dropLast { st' with gen := st'.gen + 1 } (fun s => (∃ g caps, s.env t = .cell (.fn g caps)) /\ awp P b (QD t) s) (fun x => Q (.pan x))
  | none => codeOkP N (some N) (.region rid ops false) = true /\ awp P (.region rid ops false) (fun x s => match x with | .normal => awpD P N QD b Q s | x => Q x s) st
 | .seq a b, Q, st => codeOkP N (some N) a = true /\ awp P a (fun x s => match x with | .normal => awpD P N QD b Q s | x => Q x s) st
 | _, _, _ => False
/-- The deferred call at the end. -/
def callD (P : Program) (ca : Option Value) (t : Nat) (st : St) (K : St -> Prop) : Prop :=
 ∃ g caps, st.env t = .cell (.fn g caps) /\ ∃ fp as_ pre post, DAt P g ca as_ pre post /\ ((caps.map capAV).map (·.toC fp st.hp) = as_ /\ fp.map (fun b => (st.hp b).map (Blk.mp (AC.toF fp))) = pre.map some /\ fp.Nodup) /\
  K ({ st with gen := st.gen + 1 }.app (callU fp ((caps.map capAV).flatMap fun x : AV => x.bor fp st.hp) (st.gen + 1) 0 (.ret (.tup [])) post))
/-- How the walk ends behind the defer. -/
def retPostD (P : Program) (rs : List ResultVar) (r : AV) (post : List (Id × Blk)) (t : Nat) : AX -> St -> Prop
 | .normal, st | .ret, st => ∃ st', Gh st st' /\ callD P none t st' fun s => ∃ s', Gh s s' /\ retAV P s' rs = some r /\ ∀ p ∈ post, s'.hp p.1 = some p.2
 | .pan x, st => ∃ u, x = .cell (.p (.c u)) /\ ∃ st', Gh st st' /\ callD P (some u) t st' fun s => ∃ s', Gh s s' /\ retAV P s' rs = some r /\ ∀ p ∈ post, s'.hp p.1 = some p.2
 | _, _ => False
/-- A deferred call, at the end of a frame. -/
theorem callD_sound {P : Program} {C : Cx} {st : St} {a : Act} {w : World} {m : Mem} {ca : Option Value} {t g : Nat} {vs : Array Value} {K : St -> Prop} {fn : Func} {R : Ending -> World -> Prop} (hJ : J C st a w m) (hpin : C.pin = some (t, .func (.func g) #[] vs)) (h : callD P ca t st K)
  (hfin : ∀ st' w' m', K st' -> J C st' a w' m' -> LeavesInM Fence.wide 0 P fn a.tmps R [] .returning w') :
  LeavesInM Fence.wide 0 P fn a.tmps R [{ target := .fn (.func g) vs, args := #[] }] (modeOf ca) w := by
 obtain ⟨g', caps, henv, fp, as_, pre, post, hD, ⟨has, hpre, hnd⟩, hK⟩ := h
 have hraw := hJ.ext.pin _ _ hpin
 have hr := hJ.env t
 rw [henv, hraw] at hr
 obtain ⟨vs', hv, hl, hr1, hr2⟩ := rep_cell hr
 cases hv
 have hU := hJ.up
 obtain ⟨bad1, m1, hP, h1, h2, h3, hfinG⟩ := callG_sound (g := st.gen + 1) (i := 0) hU (Nat.le_refl _) (fun k => hJ.gen _ _ _ (Nat.lt_succ_self _)) (xs := caps.map capAV) (vs := vs) (by simp [hl]) (capAV_rep hl hr1 hr2) has hpre hnd
 have hcall := hD.2 w vs bad1 m1 hP h1 h2 h3
 obtain ⟨⟨fn0, f1, f2, f3⟩, _⟩ := hD
 have hcf : ∀ args w, (callFunc g args).run P w = .ok (.enter g args) w := by
  intro args w
  have h2' : ¬ fn0.name = "runtime.NumGoroutine" := by simpa using f2
  have h3' : ¬ fn0.body = none := by intro e; rw [e] at f3; simp at f3
  simp [callFunc, f1, h2', h3']
 refine ⟨by cases ca <;> simp [modeOf], .inr ⟨(fun e => by cases e), Fn.func g, vs, g, vs, rfl, by simp [invoke, go_sem, hcf], fun _ _ => trivial, hcall.mono ?_⟩⟩
 rintro e u' w' ⟨rfl, mc, hE, hPost⟩
 obtain ⟨m', hJ', hE', _⟩ := hfinG (.ret (.tup [])) hE hPost
 obtain ⟨v, rfl, _⟩ := hE'
 show LeavesInM Fence.wide 0 P fn a.tmps R [] (settle (modeRec ca)) w'
 rw [settle_rec]
 exact hfin _ _ _ hK hJ'
/-- The context behind the defer. -/
def Cx.deferred (C : Cx) (t g : Nat) (vs : Array Value) : Cx := { C with dfr := [{ target := .fn (.func g) vs, args := #[] }], pin := some (t, .func (.func g) #[] vs) }
def endD (C : Cx) (QD : Nat -> AX -> St -> Prop) (Q : AX -> St -> Prop) (e : Exit) (a : Act) (w : World) : Prop :=
 lift C Q e a w \/ ∃ C1 t g vs, C.le C1 /\ lift (C1.deferred t g vs) (QD t) e a w
theorem defer_op {P : Program} {C : Cx} {ops : Array Oper} {Q : Exit -> Act -> World -> Prop} {o : Oper} {t : Nat} {st : St} {a : Act} {w : World} {m : Mem} (hJ : J C st a w m) (ho : deferOf o = some t) {g : Nat} {caps : List (Id ⊕ CV)} (henv : st.env t = .cell (.fn g caps))
  (hm : C.marks = []) (hd : C.dfr = []) (h : ∀ vs a', J (C.deferred t g vs) st a' w m -> Q .normal a' w) : wpListIn Fence.wide 0 P ops Q [o] a w := by
 unfold deferOf at ho
 split at ho
 ·rename_i c ty pos after
  split at ho
  ·rename_i t' hc
   split at ho
   ·rename_i he
    cases ho
    have hr := hJ.env t
    rw [henv] at hr
    obtain ⟨vs, hv, hl, hr1, hr2⟩ := rep_cell hr
    unfold wpListIn
    rw [if_pos (wanted_none rfl)]
    refine ⟨fun _ _ => trivial, ?_⟩
    obtain ⟨callee, args, ts⟩ := c
    simp only at hc he
    subst hc
    have hargs : args = #[] := by simpa using he
    subst hargs
    have hev : a.eval (.tmp t) = .func (.func g) #[] vs := hv
    have hx : (Oper.semAt none a.eval ⟨none, .defer { callee := .value (.tmp t), args := #[], argTypes := ts }, ty, pos, after, none⟩).run P w = .ok (.defer { target := .fn (.func g) vs, args := #[] }) w := by
     have hx0 : (resolve a.eval { callee := .value (.tmp t), args := #[], argTypes := ts } ty).run P w = .ok { target := .fn (.func g) vs, args := #[] } w := by
      show (Deferred.ofValue (a.eval (.tmp t)) (#[].map a.eval)).run P w = _
      rw [hev]
      simp [Deferred.ofValue]
     rw [Oper.semAt_none]
     simp only [execOp, Sem.run_bind]
     rw [hx0]
     rfl
    show Oper.uponIn _ _ _ _ _ _ _ ((Oper.semAt none a.eval _).run P w)
    rw [hx, Oper.uponIn_defer]
    refine h vs _ { hJ with ext := ⟨?_, ?_, ?_, hJ.ext.perm, hJ.ext.outb, hJ.ext.loop, hJ.ext.seq, hJ.ext.fore, hJ.ext.also, fun t' v e => ?_⟩ }
    ·show _ :: a.defers = C.marks.map markOf ++ _
     rw [hJ.ext.defers, hm, hd]; rfl
    ·exact hJ.ext.nodup
    ·exact hJ.ext.marks
    ·cases e; exact hv
   ·cases ho
  ·cases ho
 ·cases ho
theorem endD_le {C C1 : Cx} {QD : Nat -> AX -> St -> Prop} {Q : AX -> St -> Prop} (hle : C.le C1) {e : Exit} {a : Act} {w : World} (h : endD C1 QD Q e a w) : endD C QD Q e a w := by
 rcases h with h | ⟨C2, t, g, vs, h1, h2⟩
 ·exact .inl (lift_le hle h)
 ·exact .inr ⟨C2, t, g, vs, hle.trans h1, h2⟩
theorem awpD_sound {P : Program} (hm : P.follows .mixedOrders = true) {QD : Nat -> AX -> St -> Prop} {Q : AX -> St -> Prop} : ∀ (c : Code) (C : Cx) (st : St) (a : Act) (w : World) (m : Mem), C.pin = some (C.N, undef) -> C.dfr = [] -> C.marks = [] -> C.loop = none -> SeqLaw P C.seq ->
  awpD P C.N QD c Q st -> J C st a w m -> c.wpIn Fence.wide 0 P (endD C QD Q) a w := by
 intro c
 induction c with
 | seq x y _ ihy =>
  intro C st a w m hpin hd hmk hlo hS h hJ
  have plain : codeOkP C.N (some C.N) x = true -> awp P x (fun x s => match x with | .normal => awpD P C.N QD y Q s | x => Q x s) st -> (Code.seq x y).wpIn Fence.wide 0 P (endD C QD Q) a w := by
   intro hok h
   refine wpIn_seq (Code.wpIn_mono ?_ (awp_sound hm x Fence.wide 0 C _ st a w m (.inl ⟨rfl, hlo⟩) hS (by unfold Cx.codeOk; rw [hpin]; exact hok) h hJ))
   rintro e a' w' ⟨C', st', m', z, hle, hq, hJ', hz⟩
   cases z with
   | normal =>
    have e0 : e = .normal := hz
    subst e0
    obtain ⟨ms, e1, e2, _⟩ := hle.marks
    exact Code.wpIn_mono (fun e a w h => endD_le hle h) (ihy C' st' a' w' m' (by rw [hle.pin, hle.N]; exact hpin) (hle.dfr.trans hd) (by rw [e1, e2 (by rw [hpin]; simp), hmk]; rfl) (hle.loop.trans hlo) (by rw [hle.seq]; exact hS) (by rw [hle.N]; exact hq) hJ')
   | pan v => obtain ⟨u, rfl, hu⟩ := hz; exact .inl (lift_map (x := .pan v) hle hq hJ' ⟨u, rfl, hu⟩)
   | exit i => have e0 : e = .exit i := hz; subst e0; exact .inl (lift_map (x := .exit i) hle hq hJ' rfl)
   | goto i => have e0 : e = .goto i := hz; subst e0; exact .inl (lift_map (x := .goto i) hle hq hJ' rfl)
   | ret => have e0 : e = .ret := hz; subst e0; exact .inl (lift_map (x := .ret) hle hq hJ' rfl)
  cases x with
  | region rid ops d =>
   cases d with
   | true => simp only [awpD] at h; exact plain h.1 h.2
   | false =>
    simp only [awpD] at h
    split at h
    ·rename_i t ht
     obtain ⟨ok1, ok2, st', hgh, haops⟩ := h
     obtain ⟨m', hJ⟩ := hgh _ _ _ _ hJ
     rw [Option.bind_eq_some_iff] at ht
     obtain ⟨o, ho1, ho2⟩ := ht
     have hl : ops.toList = ops.toList.dropLast ++ [o] := by
      rw [List.getLast?_eq_some_iff] at ho1
      obtain ⟨ys, hy⟩ := ho1
      rw [hy]; simp
     refine wpIn_seq (wpIn_region_list ?_)
     rw [hl]
     have k2 := (codeOk_region (C := C) (by unfold Cx.codeOk; rw [hpin]; exact ok1)).2
     refine aops_sound (.inl rfl) [o] ops.toList.dropLast 0 C _ a w m' hS rfl (fun j k _ => hJ.gen _ _ _ (Nat.lt_succ_self _)) haops hJ.up (fun o' ho' => k2 o' (by simpa using ho')) (fun C' s a' w' m1 hle hk hJ' => ?_) (fun C' x s v a' w' m1 hle hx hJ' hv => .inl (lift_map (x := .pan x) hle hx hJ' ⟨v, rfl, hv⟩))
     obtain ⟨⟨g, caps, henv⟩, hb⟩ := hk
     obtain ⟨ms, e1, e2, _⟩ := hle.marks
     refine defer_op hJ' ho2 henv (by rw [e1, e2 (by rw [hpin]; simp), hmk]; rfl) (hle.dfr.trans hd) (fun vs a2 hJ2 => ?_)
     refine Code.wpIn_mono (fun e a w h => .inr ⟨C', t, g, vs, hle, h⟩) (awp_sound hm y Fence.wide 0 (C'.deferred t g vs) _ s a2 w' m1 (.inl ⟨rfl, hle.loop.trans hlo⟩) (by show SeqLaw P C'.seq; rw [hle.seq]; exact hS) ?_ hb hJ2)
     show codeOkP C'.N (some t) y = true
     rw [hle.N]; exact ok2
    ·exact plain h.1 h.2
  | _ => simp only [awpD] at h; exact plain h.1 h.2
 | _ => intro C st a w m _ _ _ _ _ h _; exact (by unfold awpD at h; exact h.elim)
/-- THE CONTRACT OF A FUNCTION THAT DEFERS A CALL. -/
theorem at_introD {P : Program} {f : FuncId} {fn : Func} {c : Code} {args : List AV} {pre : List Blk} {r : AV} {post : List (Id × Blk)} (hm : P.follows .mixedOrders = true) (hf : P.funcs[f]? = some fn) (hname : (fn.name == "runtime.NumGoroutine") = false) (hb : fn.body = some c)
  (hargs : args.length <= fn.ntmps)
  (h : awpD P fn.ntmps (retPostD P fn.results.toList r post) c (retPost P fn.results.toList (.ret r) post) (st0 args pre)) : CAt P f args pre (.ret r) post := by
 refine ⟨⟨fn, hf, hname, by rw [hb]; rfl⟩, fun w vs bad0 m hP hlen hrep hglob => ?_⟩
 refine callsIn_wide (n := 0) |>.1 (callsIn_of_wp_marks (F := Fence.wide) hf hb trivial ?_)
 have hJ0 := J.start hargs hP hlen hrep hglob (out := fun _ => False) (fun _ h => h.elim) (fun _ _ _ _ h => h) (fun _ _ _ _ _ _ _ => False)
 let C : Cx := { prot := fun b => b < w.heap.size /\ ¬ Own m b, bad0 := bad0, w0 := w, N := fn.ntmps, perm := fun b => (b < w.heap.size /\ ¬ Own m b) /\ ¬ (fun _ => False) b, marks := [], loop := none, out := fun _ => False, fore := m.ρ, wi := w, seq := fun _ _ _ _ _ _ _ => False, also := fun _ => False, pin := some (fn.ntmps, undef) }
 have hJ : J C (st0 args pre) { tmps := vs ++ Array.replicate (fn.ntmps - vs.size) undef, defers := [] } w m := by
  refine { hJ0 with ext := ⟨hJ0.ext.defers, hJ0.ext.nodup, hJ0.ext.marks, hJ0.ext.perm, hJ0.ext.outb, hJ0.ext.loop, hJ0.ext.seq, hJ0.ext.fore, hJ0.ext.also, fun t v e => ?_⟩ }
  cases e
  rw [Array.getD_eq_getD_getElem?, Array.getElem?_eq_none (by simp; omega)]
  rfl
 -- the end, in whatever context
 have fin : ∀ {C1 : Cx} {st : St} {a' : Act} {w' : World} {m' : Mem}, C.fore = C1.fore -> C1.wi = w -> (∀ b, bad0 b -> C1.bad0 b) -> w.heap.size <= C1.w0.heap.size -> C1.w0.os = w.os -> C1.w0.tape = w.tape -> C1.w0.output = w.output ->
   (∀ b, b < w.heap.size -> ¬ Own m b -> C1.perm b /\ C1.w0.heap[b]? = w.heap[b]?) -> J C1 st a' w' m' -> retAV P st fn.results.toList = some r -> (∀ p ∈ post, st.hp p.1 = some p.2) ->
   LeavesInM Fence.wide 0 P fn a'.tmps (fun e w' => ∃ m', EndR w' m' bad0 (.ret r) e /\ Post w m bad0 w' m' post) [] .returning w' := by
  intro C1 st a' w' m' c1 c2 c3 c4 c5 c6 c7 c8 hJ' hx hpost
  obtain ⟨v, hr, hv⟩ := ret_run hJ' hx
  have k1 : ∀ b, b < w.heap.size -> ¬ Own m b -> w'.heap[b]? = w.heap[b]? := fun b hb ho => by
   obtain ⟨q1, q2⟩ := c8 b hb ho
   exact (hJ'.kept b (hJ'.ext.perm b q1).1).trans q2
  have k2 : ∀ b, b < w.heap.size -> ¬ Own m b -> ¬ Own m' b := fun b hb ho ho' => by
   obtain ⟨q1, _⟩ := c8 b hb ho
   exact (own_lt hJ' ho').1 (hJ'.ext.perm b q1).1
  obtain ⟨E, hPo⟩ := post_of hP hJ' c1.symm c2 c3 ⟨Nat.le_trans c4 hJ'.grown, hJ'.os.trans c5, hJ'.tape.trans c6, hJ'.output.trans c7, k1⟩ k2 hpost
  exact ⟨v, hr, _, ⟨v, rfl, E.av hv⟩, hPo⟩
 refine Code.wpIn_mono ?_ (awpD_sound hm c C _ _ w m rfl rfl rfl rfl (seqLaw_none P) h hJ)
 rintro e a' w' (⟨C', st₁, m₁, z, hle, hq, hJ₁, hz⟩ | ⟨C1, t, g, vs', hle1, C3, st₁, m₁, z, hle, hq, hJ₁, hz⟩)
 ·obtain ⟨ms, e1, e2, _⟩ := hle.marks
  have hmk : C'.marks = [] := by rw [e1, e2 (by rfl)]; rfl
  have hdf : a'.defers = [] := by rw [hJ₁.ext.defers, hmk, hle.dfr]; rfl
  have main : (∃ st', Gh st₁ st' /\ ∃ x, retAV P st' fn.results.toList = some x /\ Out.ret r = .ret x /\ ∀ p ∈ post, st'.hp p.1 = some p.2) -> LeavesInM Fence.wide 0 P fn a'.tmps (fun e w' => ∃ m', EndR w' m' bad0 (.ret r) e /\ Post w m bad0 w' m' post) a'.defers .returning w' := by
   rintro ⟨st', hgh, x, hx, hxe, hpost⟩
   obtain ⟨m', hJ'⟩ := hgh _ _ _ _ hJ₁
   cases hxe
   rw [hdf]
   exact fin hle.fore.symm hle.wi (fun b hb => hle.bad b hb) hle.size hle.os hle.tape hle.output (fun b hb ho => hle.perm b ⟨⟨hb, ho⟩, id⟩) hJ' hx hpost
  cases z with
  | normal => have e0 : e = .normal := hz; subst e0; exact main hq
  | ret => have e0 : e = .ret := hz; subst e0; exact main hq
  | pan x => obtain ⟨_, hq, _⟩ := hq; cases hq
  | exit i => exact hq.elim
  | goto i => exact hq.elim
 ·obtain ⟨ms1, e11, e12, _⟩ := hle1.marks
  have hmk1 : C1.marks = [] := by rw [e11, e12 (by rfl)]; rfl
  obtain ⟨ms, e1, e2, _⟩ := hle.marks
  have hmk : C3.marks = [] := by rw [e1, e2 (by simp [Cx.deferred])]; exact hmk1
  have hdf : a'.defers = [{ target := .fn (.func g) vs', args := #[] }] := by rw [hJ₁.ext.defers, hmk, hle.dfr]; rfl
  have main : ∀ (ca : Option Value), (∃ st', Gh st₁ st' /\ callD P ca t st' fun s => ∃ s', Gh s s' /\ retAV P s' fn.results.toList = some r /\ ∀ p ∈ post, s'.hp p.1 = some p.2) -> LeavesInM Fence.wide 0 P fn a'.tmps (fun e w' => ∃ m', EndR w' m' bad0 (.ret r) e /\ Post w m bad0 w' m' post) a'.defers (modeOf ca) w' := by
   rintro ca ⟨st', hgh, hcd⟩
   obtain ⟨m', hJ'⟩ := hgh _ _ _ _ hJ₁
   rw [hdf]
   refine callD_sound hJ' hle.pin hcd fun st'' w'' m'' hk hJ'' => ?_
   obtain ⟨s', hg', hx, hpost⟩ := hk
   obtain ⟨m3, hJ3⟩ := hg' _ _ _ _ hJ''
   exact fin (hle.fore.trans hle1.fore).symm (hle.wi.trans hle1.wi) (fun b hb => hle.bad b (hle1.bad b hb)) (Nat.le_trans hle1.size hle.size) (hle.os.trans hle1.os) (hle.tape.trans hle1.tape) (hle.output.trans hle1.output)
    (fun b hb ho => have p1 := hle1.perm b ⟨⟨hb, ho⟩, id⟩; have p3 := hle.perm b p1.1; ⟨p3.1, p3.2.trans p1.2⟩) hJ3 hx hpost
  cases z with
  | normal => have e0 : e = .normal := hz; subst e0; exact main none hq
  | ret => have e0 : e = .ret := hz; subst e0; exact main none hq
  | pan x =>
   obtain ⟨v, rfl, hv⟩ := hz
   obtain ⟨u, rfl, hq⟩ := hq
   cases rep_c hv
   exact main (some v) hq
  | exit i => exact hq.elim
  | goto i => exact hq.elim
end Go.Hw
end
section
set_option linter.all false
namespace Go.Hw
variable [Globals]
/-! Panics. -/
@[reducible] def panO {ε ρ : Type} (f : ε -> Value) (g : ρ -> AV) : ε ⊕ ρ -> Out
 | .inl e => .pan (.cell (.p (.c (f e))))
 | .inr r => .ret (g r)
@[reducible] def panP {ε ρ : Type} (g : ρ -> List (Id × Blk)) : ε ⊕ ρ -> List (Id × Blk)
 | .inl _ => []
 | .inr r => g r
@[simp] theorem panP_inr {ε ρ : Type} (g : ρ -> List (Id × Blk)) (r : ρ) : panP (ε := ε) g (.inr r) = g r := rfl
@[simp] theorem panO_inr {ε ρ : Type} (f : ε -> Value) (g : ρ -> AV) (r : ρ) : panO f g (.inr r) = .ret (g r) := rfl
theorem retPan {P : Program} {rs : List ResultVar} {u : Value} {st : St} : retPost P rs (.pan (.cell (.p (.c u)))) [] (.pan (.cell (.p (.c u)))) st := ⟨⟨u, rfl⟩, rfl, fun p h => by cases h⟩
section
variable {P : Program} {g i : Nat} {env : Nat -> AV} {hp : Id -> Option Blk} {K E : AV -> List (Id × Option Blk) -> Prop}
@[simp] theorem fopB_ta {x s t ok} : fopB (.typeAssert x s t ok) = true := by unfold fopB; rfl
@[simp] theorem fopB_mi {x t} : fopB (.makeInterface t x) = true := by unfold fopB; rfl
@[simp] theorem fopB_pa {x} : fopB (.panic x) = true := by unfold fopB; rfl
attribute [simp] qassert qiface constVals ofVal
@[simp] theorem fop_panic {x : Operand} : fop P g i (.panic x) env hp K E = (match evAV env x with | .cell (.p (.c (.iface t u))) => E (.cell (.p (.c (.iface t u)))) [] | _ => False) := propext Iff.rfl
@[simp] theorem fop_makeInterface {t : TypeId} {x : Operand} : fop P g i (.makeInterface t x) env hp K E = optF (qiface P t (evAV env x)) K := propext Iff.rfl
@[simp] theorem fop_typeAssert {x : Operand} {s t : TypeId} {ok : Bool} : fop P g i (.typeAssert x s t ok) env hp K E = optF (qassert P t ok (evAV env x)) K := propext Iff.rfl
theorem cX {A : Prop} {n : Nat} {xs as_ : List AV} {pre : List Blk} {u : Value} {post : List (Id × Blk)} (F : A) (hAt : CAt P n as_ pre (.pan (.cell (.p (.c u)))) post) (fp : List Id) (hK : ∀ v, E (.cell (.p (.c u))) v)
  (has : A -> xs.map (·.toC fp hp) = as_ := by intro F; (first | simp [F] | simp (disch := omega) [F]); try rfl) (hpre : A -> fp.map (fun b => (hp b).map (Blk.mp (AC.toF fp))) = pre.map some := by intro F; simp [F]) (hnd : fp.Nodup := by simp) : callK P g i n xs hp K E :=
 callK_pan hAt fp (has F) (hpre F) hnd rfl rfl (hK _)
theorem cXd {A : Prop} {n : Nat} {xs as_ : List AV} {pre : List Blk} {w : Value} {post : List (Id × Blk)} {u : A -> List (Id × Option Blk)} (F : A) (hAt : CAt P n as_ pre (.pan (.cell (.p (.c w)))) post) (fp : List Id) (hK : E (.cell (.p (.c w))) (u F))
  (has : A -> xs.map (·.toC fp hp) = as_ := by intro F; (first | simp [F] | simp (disch := omega) [F]); try rfl) (hpre : A -> fp.map (fun b => (hp b).map (Blk.mp (AC.toF fp))) = pre.map some := by intro F; simp [F]) (hnd : fp.Nodup := by simp)
  (hu : ∀ F : A, callU fp (xs.flatMap (·.bor fp hp)) g i (.pan (.cell (.p (.c w)))) post = u F := by intro F; simp [F]; rfl) : callK P g i n xs hp K E :=
 callK_pan hAt fp (has F) (hpre F) hnd rfl (hu F) hK
end
theorem goP {A G : Prop} (F : A) (h : A -> G := by
 intro F
 repeat (first | simp [F] | with_reducible first | refine pgo_dead (by decide +kernel) ?_ | refine pgo_live ?_ | refine ord_l (by decide +kernel) ?_ | refine ord_e (by decide +kernel) ?_ | refine ord_c (by decide +kernel) ?_ | refine ord_d (by decide +kernel) ?_ | refine ord_c3 (by decide +kernel) ?_ | refine ord_d3 (by decide +kernel) ?_ | refine And.intro (by omega) ?_ | refine optF_if (by omega) ?_)) : G := h F
section logs
variable {P : Program} {ops : Array Oper} {i j : Nat} {op op' : Op} {env env' : Nat -> AV} {hp hp' : Id -> Option Blk} {v v' : AV} {u u' : List (Id × Option Blk)} {x x' : Id × Option Blk} {r : List Lg} {e : Lg}
@[simp] theorem cfs1_pq : cfs1 ops i (lgP op env u) j (lgOf P op' env' hp' v' [] :: r) = cfs1 ops i (lgP op env u) (j + 1) r := by
 simp [cfs1, cf, lgOf, lgP, lgU, noK, stbL]
@[simp] theorem cfs1_qp : cfs1 ops i (lgOf P op env hp v []) j (lgP op' env' u' :: r) = cfs1 ops i (lgOf P op env hp v []) (j + 1) r := by
 simp [cfs1, cf, lgOf, lgP, lgU, noK, stbL]
@[simp] theorem cfs1_pe : cfs1 ops i (lgP op env u) j (lgOf P op' env' hp' v' (x' :: u') :: r) = ((ordB ops i j = true \/ stbL (tch op env ++ u.map Prod.fst) (fun _ _ => False) (lgU hp' (x' :: u') (x' :: u'))) /\ cfs1 ops i (lgP op env u) (j + 1) r) := by
 simp [cfs1, cf, lgOf, lgP, lgU, noK, stbL]
theorem noK_r : ∀ l : List (Id × Option Blk × Option Blk), noK l [] = true := fun l => by
 induction l with
 | nil => rfl
 | cons y l ih => simp [noK, noK.go, inI, ih]
@[simp] theorem cfs1_ep : cfs1 ops i (lgOf P op env hp v (x :: u)) j (lgP op' env' u' :: r) = ((ordB ops i j = true \/ stbL (tch op' env' ++ u'.map Prod.fst) (fun _ _ => False) (lgU hp (x :: u) (x :: u))) /\ cfs1 ops i (lgOf P op env hp v (x :: u)) (j + 1) r) := by
 simp only [cfs1, cf, lgOf, lgP, noK_r, stbL, true_and]
@[simp] theorem cfs1_0 : cfs1 ops i e j (lg0 :: r) = cfs1 ops i e (j + 1) r := by
 simp only [cfs1, cf, lg0, noK_r, stbL, stbL_nil, true_and, and_true, or_true]
@[simp] theorem cfs1_z : ∀ {l : List Lg} {j : Nat}, cfs1 ops i lg0 j l = True
 | [], j => rfl
 | f :: r, j => by
  simp only [cfs1, cf, lg0, noK, stbL, stbL_nil, true_and, and_true, or_true]
  exact cfs1_z
end logs
section
variable {P : Program} {env : Nat -> AV} {hp : Id -> Option Blk} {out : AV} {b : Id} {v : Option Blk}
@[simp] theorem stbOf_load {t : TypeId} {x : Operand} : stbOf P (.load t x) env hp out b v = (qload P (fun y => if y = b then v else hp y) t (evAV env x) = some out) := rfl
@[simp] theorem stbOf_ixa {t : TypeId} {x y : Operand} : stbOf P (.indexAddr t x y) env hp out b v = (v.isSome = true /\ (hp b).isSome = true) := rfl
@[simp] theorem stbOf_slice {t : TypeId} {x : Operand} {l h m : Option Operand} : stbOf P (.slice t x l h m) env hp out b v = (v.isSome = true /\ (hp b).isSome = true) := rfl
@[simp] theorem stbOf_len {args : Array Operand} {ts : Array TypeId} : stbOf P (.call { callee := .builtin .len, args := args, argTypes := ts }) env hp out b v = (v.isSome = true /\ (hp b).isSome = true) := rfl
@[simp] theorem stbOf_store {t : TypeId} {x y : Operand} : stbOf P (.store t x y) env hp out b v = False := rfl
@[simp] theorem stbOf_app {args : Array Operand} {ts : Array TypeId} : stbOf P (.call { callee := .builtin .append, args := args, argTypes := ts }) env hp out b v = False := rfl
@[simp] theorem stbOf_call {x : Operand} {args : Array Operand} {ts : Array TypeId} : stbOf P (.call { callee := .value x, args := args, argTypes := ts }) env hp out b v = False := rfl
end
/-! Cells that lead to no name of the frame. -/
def AC.fo : AC -> Bool
 | .p _ => true
 | .ref b _ => isF b
 | .sl b _ _ _ => isF b
 | .mp b => isF b
 | .ep _ _ => true
 | .own _ => true
 | .bad => true
 | _ => false
section
variable {x : AC} {a b : Id}
theorem F_ne {a b : Id} (ha : isF a = true) (hb : isF b = false) : a ≠ b := fun e => by subst e; rw [ha] at hb; cases hb
theorem ren_fo (h : x.fo = true) (ha : isF a = false) (hb : isF b = false) : x.ren a b = x := by
 have key : ∀ c : Id, isF c = true -> idR a b c = some c := fun c hc => by
  unfold idR; rw [if_neg (F_ne hc ha), if_neg (F_ne hc hb)]
 cases x with
 | ref c off => simp only [AC.ren, key c h]
 | sl c off sz n => simp only [AC.ren, key c h]
 | mp c => simp only [AC.ren, key c h]
 | fn _ _ => cases h
 | z => cases h
 | yl l => cases h
 | _ => rfl
theorem unz_fo (h : x.fo = true) : x.unz = x := by
 cases x with
 | z => cases h
 | _ => simp [AC.unz]
theorem frz_fo {cs : List CV} (h : x.fo = true) (hb : isF b = false) : x.frz b cs = x := by
 cases x with
 | ref c off => simp only [AC.frz]; rw [if_neg (F_ne h hb)]
 | sl c off sz n => simp only [AC.frz]; rw [if_neg (F_ne h hb)]
 | mp c => simp only [AC.frz]; rw [if_neg (F_ne h hb)]
 | fn _ _ => cases h
 | z => cases h
 | yl l => cases h
 | _ => rfl
theorem kil_fo (h : x.fo = true) (hb : isF b = false) : x.kil b = x := by
 cases x with
 | ref c off => simp only [AC.kil]; rw [if_neg (F_ne h hb)]
 | sl c off sz n => simp only [AC.kil]; rw [if_neg (F_ne h hb)]
 | mp c => simp only [AC.kil]; rw [if_neg (F_ne h hb)]
 | fn _ _ => cases h
 | z => cases h
 | yl l => cases h
 | _ => rfl
theorem ix_F {fp : List Id} (hf : ∀ b ∈ fp, isF b = false) {c : Id} (hc : isF c = true) : ix fp c 0 = none := by
 cases h : ix fp c 0 with
 | none => rfl
 | some k =>
  obtain ⟨_, h2⟩ := ix_some h
  have := hf c (List.mem_of_getElem? h2)
  rw [hc] at this; cases this
theorem toF_fo {fp : List Id} (h : x.fo = true) (hf : ∀ b ∈ fp, isF b = false) : (x.toF fp).fo = true := by
 have key : ∀ {c : Id}, isF c = true -> isF (idC fp c) = true := fun {c} hc => by unfold idC; rw [ix_F hf hc]; rfl
 cases x with
 | ref c off => exact key h
 | sl c off sz n => exact key h
 | mp c => exact key h
 | fn _ _ => cases h
 | z => cases h
 | yl l => cases h
 | _ => rfl
theorem idB_F {fp bors : List Id} {post : List (Id × Blk)} {g i : Nat} (hf : ∀ b ∈ fp, isF b = false) (hb : ∀ b ∈ bors, isF b = false) {c : Id} (hc : isF c = true) : idB fp bors post g i (idC fp c) = some c := by
 have h1 : fp.contains c = false := by rw [<- Bool.not_eq_true, List.contains_iff_mem]; intro h; have := hf c h; rw [hc] at this; cases this
 have h2 : bors.contains c = false := by rw [<- Bool.not_eq_true, List.contains_iff_mem]; intro h; have := hb c h; rw [hc] at this; cases this
 unfold idC
 rw [ix_F hf hc]
 simp only [idB, h1, h2, Bool.or_self, Bool.false_eq_true, if_false]
theorem back_fo {fp bors : List Id} {post : List (Id × Blk)} {g i : Nat} (h : x.fo = true) (hf : ∀ b ∈ fp, isF b = false) (hb : ∀ b ∈ bors, isF b = false) : (x.toF fp).back fp bors post g i = x := by
 cases x with
 | ref c off => simp only [AC.toF, AC.back, idB_F hf hb h]
 | sl c off sz n => simp only [AC.toF, AC.back, idB_F hf hb h]
 | mp c => simp only [AC.toF, AC.back, idB_F hf hb h]
 | fn _ _ => cases h
 | z => cases h
 | yl l => cases h
 | _ => rfl
end
/-- A cell that a function does not look at. -/
structure FC where
 ac : AC
 ok : ac.fo = true
def noF : List Id -> Bool
 | [] => true
 | b :: l => !isF b && noF l
@[simp] theorem noF_nil : noF [] = true := eq_of_heq HEq.rfl
@[simp] theorem noF_cons (b : Id) (l : List Id) : noF (b :: l) = (!isF b && noF l) := eq_of_heq HEq.rfl
theorem all_F : ∀ {fp : List Id} (h : noF fp = true), ∀ b ∈ fp, isF b = false
 | c :: l, h, b, hb => by
  simp only [noF, Bool.and_eq_true, Bool.not_eq_true'] at h
  rcases List.mem_cons.1 hb with rfl | hb
  ·exact h.1
  ·exact all_F h.2 b hb
def FC.toF (c : FC) (fp : List Id) : FC := if h : noF fp = true then ⟨c.ac.toF fp, toF_fo c.ok (all_F h)⟩ else ⟨.bad, rfl⟩
section
variable (c : FC)
@[simp high] theorem FC.toF_n {fp : List Id} (h : noF fp = true) : c.ac.toF fp = (c.toF fp).ac := by unfold FC.toF; rw [dif_pos h]
@[simp high] theorem FC.mk_ac (x : AC) (h : x.fo = true) : (FC.mk x h).ac = x := rfl
@[simp high] theorem FC.ren {a b : Id} (h : (isF a || isF b) = false) : c.ac.ren a b = c.ac := by
 simp only [Bool.or_eq_false_iff] at h; exact ren_fo c.ok h.1 h.2
@[simp high] theorem FC.kil {b : Id} (hb : isF b = false) : c.ac.kil b = c.ac := kil_fo c.ok hb
@[simp high] theorem FC.frz {b : Id} {cs : List CV} (hb : isF b = false) : c.ac.frz b cs = c.ac := frz_fo c.ok hb
@[simp high] theorem FC.unz : c.ac.unz = c.ac := unz_fo c.ok
@[simp high] theorem FC.back {fp bors : List Id} {post : List (Id × Blk)} {g i : Nat} (h : (noF fp && noF bors) = true) : (c.toF fp).ac.back fp bors post g i = c.ac := by
 simp only [Bool.and_eq_true] at h; rw [<- FC.toF_n c h.1]; exact back_fo c.ok (all_F h.1) (all_F h.2)
@[simp high] theorem FC.okk : c.ac.fo = true := c.ok
end
section
variable {α : Type} [Enc α] [OEnc α]
theorem oencL_get1 {l : List α} {j : Nat} {x : α} (hx : l[j]? = some x) {c : AC} (h : (OEnc.oenc x)[0]? = some c) (hz : Enc.sz α = 1 := by rfl) : (oencL l)[j]? = some c := by
 have := oencL_get hx (f := 0) h
 rwa [hz, Nat.mul_one, Nat.add_zero] at this
theorem oencL_take1 (l : List α) (h : Enc.sz α = 1) : (oencL l).take l.length = oencL l := List.take_of_length_le (by rw [oencL_length, h]; omega)
theorem oencL_seg1 {l : List α} {j : Nat} {x : α} (hx : l[j]? = some x) {c : AC} (h : (OEnc.oenc x)[0]? = some c) (hz : Enc.sz α = 1 := by rfl) : ((oencL l).drop j).take 1 = [c] := take_one (oencL_get1 hx h hz)
theorem oencL_set1 {l : List α} {j : Nat} {x y : α} (hx : l[j]? = some x) {c : AC} (h : (OEnc.oenc x).set 0 c = OEnc.oenc y) (hz : Enc.sz α = 1 := by rfl) : (oencL l).set j c = oencL (l.set j y) := by
 have := oencL_set (y := y) hx (f := 0) (c := c) (by rw [hz]; exact Nat.one_pos) h
 rwa [hz, Nat.mul_one, Nat.add_zero] at this
end
attribute [simp] AC.fo
@[simp] theorem isF_f (x : Id) : isF (.f x) = true := eq_of_heq HEq.rfl
@[simp] theorem isF_o (g i k : Nat) : isF (.o g i k) = false := eq_of_heq HEq.rfl
@[simp] theorem isF_l (k : Nat) : isF (.l k) = false := eq_of_heq HEq.rfl
@[simp] theorem isF_a (k : Nat) : isF (.a k) = false := eq_of_heq HEq.rfl
@[simp] theorem isF_r (k : Nat) : isF (.r k) = false := eq_of_heq HEq.rfl
instance {α : Type} [Enc α] : TEnc (List α) := ⟨fun l => [.sp (Enc.sz α) l.length (encL l)], fun _ => rfl, fun _ => rfl⟩
@[simp] theorem ot_list {α : Type} [Enc α] (l : List α) : TEnc.ot l = [OT.sp (Enc.sz α) l.length (encL l)] := rfl
@[simp] theorem oenc_list {α : Type} [Enc α] (l : List α) : OEnc.oenc l = [AC.own (.sp (Enc.sz α) l.length (encL l))] := rfl
/-! Numbers that come later. -/
@[simp] theorem up_ne2 (n : Nat) : (n + 1 + 1 = n) = False := eq_false (by omega)
@[simp] theorem up_en2 (n : Nat) : (n = n + 1 + 1) = False := eq_false (by omega)
@[simp] theorem up_ne3 (n : Nat) : (n + 1 + 1 + 1 = n) = False := eq_false (by omega)
@[simp] theorem up_en3 (n : Nat) : (n = n + 1 + 1 + 1) = False := eq_false (by omega)
@[simp] theorem up_ne4 (n : Nat) : (n + 1 + 1 + 1 + 1 = n) = False := eq_false (by omega)
@[simp] theorem up_en4 (n : Nat) : (n = n + 1 + 1 + 1 + 1) = False := eq_false (by omega)
@[simp] theorem up_ne5 (n : Nat) : (n + 1 + 1 + 1 + 1 + 1 = n) = False := eq_false (by omega)
@[simp] theorem up_en5 (n : Nat) : (n = n + 1 + 1 + 1 + 1 + 1) = False := eq_false (by omega)
@[simp] theorem up_ne6 (n : Nat) : (n + 1 + 1 + 1 + 1 + 1 + 1 = n) = False := eq_false (by omega)
@[simp] theorem up_en6 (n : Nat) : (n = n + 1 + 1 + 1 + 1 + 1 + 1) = False := eq_false (by omega)
@[simp] theorem up_ne7 (n : Nat) : (n + 1 + 1 + 1 + 1 + 1 + 1 + 1 = n) = False := eq_false (by omega)
@[simp] theorem up_en7 (n : Nat) : (n = n + 1 + 1 + 1 + 1 + 1 + 1 + 1) = False := eq_false (by omega)
@[simp] theorem up_ne8 (n : Nat) : (n + 1 + 1 + 1 + 1 + 1 + 1 + 1 + 1 = n) = False := eq_false (by omega)
@[simp] theorem up_en8 (n : Nat) : (n = n + 1 + 1 + 1 + 1 + 1 + 1 + 1 + 1) = False := eq_false (by omega)
@[simp] theorem up_ne9 (n : Nat) : (n + 1 + 1 + 1 + 1 + 1 + 1 + 1 + 1 + 1 = n) = False := eq_false (by omega)
@[simp] theorem up_en9 (n : Nat) : (n = n + 1 + 1 + 1 + 1 + 1 + 1 + 1 + 1 + 1) = False := eq_false (by omega)
@[simp] theorem up_ne10 (n : Nat) : (n + 1 + 1 + 1 + 1 + 1 + 1 + 1 + 1 + 1 + 1 = n) = False := eq_false (by omega)
@[simp] theorem up_en10 (n : Nat) : (n = n + 1 + 1 + 1 + 1 + 1 + 1 + 1 + 1 + 1 + 1) = False := eq_false (by omega)
@[simp] theorem up_ne11 (n : Nat) : (n + 1 + 1 + 1 + 1 + 1 + 1 + 1 + 1 + 1 + 1 + 1 = n) = False := eq_false (by omega)
@[simp] theorem up_en11 (n : Nat) : (n = n + 1 + 1 + 1 + 1 + 1 + 1 + 1 + 1 + 1 + 1 + 1) = False := eq_false (by omega)
@[simp] theorem up_ne12 (n : Nat) : (n + 1 + 1 + 1 + 1 + 1 + 1 + 1 + 1 + 1 + 1 + 1 + 1 = n) = False := eq_false (by omega)
@[simp] theorem up_en12 (n : Nat) : (n = n + 1 + 1 + 1 + 1 + 1 + 1 + 1 + 1 + 1 + 1 + 1 + 1) = False := eq_false (by omega)
@[simp] theorem up_ne13 (n : Nat) : (n + 1 + 1 + 1 + 1 + 1 + 1 + 1 + 1 + 1 + 1 + 1 + 1 + 1 = n) = False := eq_false (by omega)
@[simp] theorem up_en13 (n : Nat) : (n = n + 1 + 1 + 1 + 1 + 1 + 1 + 1 + 1 + 1 + 1 + 1 + 1 + 1) = False := eq_false (by omega)
@[simp] theorem up_ne14 (n : Nat) : (n + 1 + 1 + 1 + 1 + 1 + 1 + 1 + 1 + 1 + 1 + 1 + 1 + 1 + 1 = n) = False := eq_false (by omega)
@[simp] theorem up_en14 (n : Nat) : (n = n + 1 + 1 + 1 + 1 + 1 + 1 + 1 + 1 + 1 + 1 + 1 + 1 + 1 + 1) = False := eq_false (by omega)
@[simp] theorem up_ne15 (n : Nat) : (n + 1 + 1 + 1 + 1 + 1 + 1 + 1 + 1 + 1 + 1 + 1 + 1 + 1 + 1 + 1 = n) = False := eq_false (by omega)
@[simp] theorem up_en15 (n : Nat) : (n = n + 1 + 1 + 1 + 1 + 1 + 1 + 1 + 1 + 1 + 1 + 1 + 1 + 1 + 1 + 1) = False := eq_false (by omega)
@[simp] theorem up_ne16 (n : Nat) : (n + 1 + 1 + 1 + 1 + 1 + 1 + 1 + 1 + 1 + 1 + 1 + 1 + 1 + 1 + 1 + 1 = n) = False := eq_false (by omega)
@[simp] theorem up_en16 (n : Nat) : (n = n + 1 + 1 + 1 + 1 + 1 + 1 + 1 + 1 + 1 + 1 + 1 + 1 + 1 + 1 + 1 + 1) = False := eq_false (by omega)
@[simp] theorem up_ne17 (n : Nat) : (n + 1 + 1 + 1 + 1 + 1 + 1 + 1 + 1 + 1 + 1 + 1 + 1 + 1 + 1 + 1 + 1 + 1 = n) = False := eq_false (by omega)
@[simp] theorem up_en17 (n : Nat) : (n = n + 1 + 1 + 1 + 1 + 1 + 1 + 1 + 1 + 1 + 1 + 1 + 1 + 1 + 1 + 1 + 1 + 1) = False := eq_false (by omega)
@[simp] theorem up_ne18 (n : Nat) : (n + 1 + 1 + 1 + 1 + 1 + 1 + 1 + 1 + 1 + 1 + 1 + 1 + 1 + 1 + 1 + 1 + 1 + 1 = n) = False := eq_false (by omega)
@[simp] theorem up_en18 (n : Nat) : (n = n + 1 + 1 + 1 + 1 + 1 + 1 + 1 + 1 + 1 + 1 + 1 + 1 + 1 + 1 + 1 + 1 + 1 + 1) = False := eq_false (by omega)
@[simp] theorem up_ne19 (n : Nat) : (n + 1 + 1 + 1 + 1 + 1 + 1 + 1 + 1 + 1 + 1 + 1 + 1 + 1 + 1 + 1 + 1 + 1 + 1 + 1 = n) = False := eq_false (by omega)
@[simp] theorem up_en19 (n : Nat) : (n = n + 1 + 1 + 1 + 1 + 1 + 1 + 1 + 1 + 1 + 1 + 1 + 1 + 1 + 1 + 1 + 1 + 1 + 1 + 1) = False := eq_false (by omega)
@[simp] theorem up_ne20 (n : Nat) : (n + 1 + 1 + 1 + 1 + 1 + 1 + 1 + 1 + 1 + 1 + 1 + 1 + 1 + 1 + 1 + 1 + 1 + 1 + 1 + 1 = n) = False := eq_false (by omega)
@[simp] theorem up_en20 (n : Nat) : (n = n + 1 + 1 + 1 + 1 + 1 + 1 + 1 + 1 + 1 + 1 + 1 + 1 + 1 + 1 + 1 + 1 + 1 + 1 + 1 + 1) = False := eq_false (by omega)
@[simp] theorem up_ne21 (n : Nat) : (n + 1 + 1 + 1 + 1 + 1 + 1 + 1 + 1 + 1 + 1 + 1 + 1 + 1 + 1 + 1 + 1 + 1 + 1 + 1 + 1 + 1 = n) = False := eq_false (by omega)
@[simp] theorem up_en21 (n : Nat) : (n = n + 1 + 1 + 1 + 1 + 1 + 1 + 1 + 1 + 1 + 1 + 1 + 1 + 1 + 1 + 1 + 1 + 1 + 1 + 1 + 1 + 1) = False := eq_false (by omega)
@[simp] theorem up_ne22 (n : Nat) : (n + 1 + 1 + 1 + 1 + 1 + 1 + 1 + 1 + 1 + 1 + 1 + 1 + 1 + 1 + 1 + 1 + 1 + 1 + 1 + 1 + 1 + 1 = n) = False := eq_false (by omega)
@[simp] theorem up_en22 (n : Nat) : (n = n + 1 + 1 + 1 + 1 + 1 + 1 + 1 + 1 + 1 + 1 + 1 + 1 + 1 + 1 + 1 + 1 + 1 + 1 + 1 + 1 + 1 + 1) = False := eq_false (by omega)
@[simp] theorem up_ne23 (n : Nat) : (n + 1 + 1 + 1 + 1 + 1 + 1 + 1 + 1 + 1 + 1 + 1 + 1 + 1 + 1 + 1 + 1 + 1 + 1 + 1 + 1 + 1 + 1 + 1 = n) = False := eq_false (by omega)
@[simp] theorem up_en23 (n : Nat) : (n = n + 1 + 1 + 1 + 1 + 1 + 1 + 1 + 1 + 1 + 1 + 1 + 1 + 1 + 1 + 1 + 1 + 1 + 1 + 1 + 1 + 1 + 1 + 1) = False := eq_false (by omega)
@[simp] theorem up_ne24 (n : Nat) : (n + 1 + 1 + 1 + 1 + 1 + 1 + 1 + 1 + 1 + 1 + 1 + 1 + 1 + 1 + 1 + 1 + 1 + 1 + 1 + 1 + 1 + 1 + 1 + 1 = n) = False := eq_false (by omega)
@[simp] theorem up_en24 (n : Nat) : (n = n + 1 + 1 + 1 + 1 + 1 + 1 + 1 + 1 + 1 + 1 + 1 + 1 + 1 + 1 + 1 + 1 + 1 + 1 + 1 + 1 + 1 + 1 + 1 + 1) = False := eq_false (by omega)
@[simp] theorem up_ne25 (n : Nat) : (n + 1 + 1 + 1 + 1 + 1 + 1 + 1 + 1 + 1 + 1 + 1 + 1 + 1 + 1 + 1 + 1 + 1 + 1 + 1 + 1 + 1 + 1 + 1 + 1 + 1 = n) = False := eq_false (by omega)
@[simp] theorem up_en25 (n : Nat) : (n = n + 1 + 1 + 1 + 1 + 1 + 1 + 1 + 1 + 1 + 1 + 1 + 1 + 1 + 1 + 1 + 1 + 1 + 1 + 1 + 1 + 1 + 1 + 1 + 1 + 1) = False := eq_false (by omega)
@[simp] theorem up_ne26 (n : Nat) : (n + 1 + 1 + 1 + 1 + 1 + 1 + 1 + 1 + 1 + 1 + 1 + 1 + 1 + 1 + 1 + 1 + 1 + 1 + 1 + 1 + 1 + 1 + 1 + 1 + 1 + 1 = n) = False := eq_false (by omega)
@[simp] theorem up_en26 (n : Nat) : (n = n + 1 + 1 + 1 + 1 + 1 + 1 + 1 + 1 + 1 + 1 + 1 + 1 + 1 + 1 + 1 + 1 + 1 + 1 + 1 + 1 + 1 + 1 + 1 + 1 + 1 + 1) = False := eq_false (by omega)
@[simp] theorem up_ne27 (n : Nat) : (n + 1 + 1 + 1 + 1 + 1 + 1 + 1 + 1 + 1 + 1 + 1 + 1 + 1 + 1 + 1 + 1 + 1 + 1 + 1 + 1 + 1 + 1 + 1 + 1 + 1 + 1 + 1 = n) = False := eq_false (by omega)
@[simp] theorem up_en27 (n : Nat) : (n = n + 1 + 1 + 1 + 1 + 1 + 1 + 1 + 1 + 1 + 1 + 1 + 1 + 1 + 1 + 1 + 1 + 1 + 1 + 1 + 1 + 1 + 1 + 1 + 1 + 1 + 1 + 1) = False := eq_false (by omega)
@[simp] theorem up_ne28 (n : Nat) : (n + 1 + 1 + 1 + 1 + 1 + 1 + 1 + 1 + 1 + 1 + 1 + 1 + 1 + 1 + 1 + 1 + 1 + 1 + 1 + 1 + 1 + 1 + 1 + 1 + 1 + 1 + 1 + 1 = n) = False := eq_false (by omega)
@[simp] theorem up_en28 (n : Nat) : (n = n + 1 + 1 + 1 + 1 + 1 + 1 + 1 + 1 + 1 + 1 + 1 + 1 + 1 + 1 + 1 + 1 + 1 + 1 + 1 + 1 + 1 + 1 + 1 + 1 + 1 + 1 + 1 + 1) = False := eq_false (by omega)
@[simp] theorem up_ne29 (n : Nat) : (n + 1 + 1 + 1 + 1 + 1 + 1 + 1 + 1 + 1 + 1 + 1 + 1 + 1 + 1 + 1 + 1 + 1 + 1 + 1 + 1 + 1 + 1 + 1 + 1 + 1 + 1 + 1 + 1 + 1 = n) = False := eq_false (by omega)
@[simp] theorem up_en29 (n : Nat) : (n = n + 1 + 1 + 1 + 1 + 1 + 1 + 1 + 1 + 1 + 1 + 1 + 1 + 1 + 1 + 1 + 1 + 1 + 1 + 1 + 1 + 1 + 1 + 1 + 1 + 1 + 1 + 1 + 1 + 1) = False := eq_false (by omega)
@[simp] theorem up_ne30 (n : Nat) : (n + 1 + 1 + 1 + 1 + 1 + 1 + 1 + 1 + 1 + 1 + 1 + 1 + 1 + 1 + 1 + 1 + 1 + 1 + 1 + 1 + 1 + 1 + 1 + 1 + 1 + 1 + 1 + 1 + 1 + 1 = n) = False := eq_false (by omega)
@[simp] theorem up_en30 (n : Nat) : (n = n + 1 + 1 + 1 + 1 + 1 + 1 + 1 + 1 + 1 + 1 + 1 + 1 + 1 + 1 + 1 + 1 + 1 + 1 + 1 + 1 + 1 + 1 + 1 + 1 + 1 + 1 + 1 + 1 + 1 + 1) = False := eq_false (by omega)
@[simp] theorem up_ne31 (n : Nat) : (n + 1 + 1 + 1 + 1 + 1 + 1 + 1 + 1 + 1 + 1 + 1 + 1 + 1 + 1 + 1 + 1 + 1 + 1 + 1 + 1 + 1 + 1 + 1 + 1 + 1 + 1 + 1 + 1 + 1 + 1 + 1 = n) = False := eq_false (by omega)
@[simp] theorem up_en31 (n : Nat) : (n = n + 1 + 1 + 1 + 1 + 1 + 1 + 1 + 1 + 1 + 1 + 1 + 1 + 1 + 1 + 1 + 1 + 1 + 1 + 1 + 1 + 1 + 1 + 1 + 1 + 1 + 1 + 1 + 1 + 1 + 1 + 1) = False := eq_false (by omega)
@[simp] theorem up_ne32 (n : Nat) : (n + 1 + 1 + 1 + 1 + 1 + 1 + 1 + 1 + 1 + 1 + 1 + 1 + 1 + 1 + 1 + 1 + 1 + 1 + 1 + 1 + 1 + 1 + 1 + 1 + 1 + 1 + 1 + 1 + 1 + 1 + 1 + 1 = n) = False := eq_false (by omega)
@[simp] theorem up_en32 (n : Nat) : (n = n + 1 + 1 + 1 + 1 + 1 + 1 + 1 + 1 + 1 + 1 + 1 + 1 + 1 + 1 + 1 + 1 + 1 + 1 + 1 + 1 + 1 + 1 + 1 + 1 + 1 + 1 + 1 + 1 + 1 + 1 + 1 + 1) = False := eq_false (by omega)
@[simp] theorem up_ne33 (n : Nat) : (n + 1 + 1 + 1 + 1 + 1 + 1 + 1 + 1 + 1 + 1 + 1 + 1 + 1 + 1 + 1 + 1 + 1 + 1 + 1 + 1 + 1 + 1 + 1 + 1 + 1 + 1 + 1 + 1 + 1 + 1 + 1 + 1 + 1 = n) = False := eq_false (by omega)
@[simp] theorem up_en33 (n : Nat) : (n = n + 1 + 1 + 1 + 1 + 1 + 1 + 1 + 1 + 1 + 1 + 1 + 1 + 1 + 1 + 1 + 1 + 1 + 1 + 1 + 1 + 1 + 1 + 1 + 1 + 1 + 1 + 1 + 1 + 1 + 1 + 1 + 1 + 1) = False := eq_false (by omega)
@[simp] theorem up_ne34 (n : Nat) : (n + 1 + 1 + 1 + 1 + 1 + 1 + 1 + 1 + 1 + 1 + 1 + 1 + 1 + 1 + 1 + 1 + 1 + 1 + 1 + 1 + 1 + 1 + 1 + 1 + 1 + 1 + 1 + 1 + 1 + 1 + 1 + 1 + 1 + 1 = n) = False := eq_false (by omega)
@[simp] theorem up_en34 (n : Nat) : (n = n + 1 + 1 + 1 + 1 + 1 + 1 + 1 + 1 + 1 + 1 + 1 + 1 + 1 + 1 + 1 + 1 + 1 + 1 + 1 + 1 + 1 + 1 + 1 + 1 + 1 + 1 + 1 + 1 + 1 + 1 + 1 + 1 + 1 + 1) = False := eq_false (by omega)
@[simp] theorem up_ne35 (n : Nat) : (n + 1 + 1 + 1 + 1 + 1 + 1 + 1 + 1 + 1 + 1 + 1 + 1 + 1 + 1 + 1 + 1 + 1 + 1 + 1 + 1 + 1 + 1 + 1 + 1 + 1 + 1 + 1 + 1 + 1 + 1 + 1 + 1 + 1 + 1 + 1 = n) = False := eq_false (by omega)
@[simp] theorem up_en35 (n : Nat) : (n = n + 1 + 1 + 1 + 1 + 1 + 1 + 1 + 1 + 1 + 1 + 1 + 1 + 1 + 1 + 1 + 1 + 1 + 1 + 1 + 1 + 1 + 1 + 1 + 1 + 1 + 1 + 1 + 1 + 1 + 1 + 1 + 1 + 1 + 1 + 1) = False := eq_false (by omega)
@[simp] theorem up_ne36 (n : Nat) : (n + 1 + 1 + 1 + 1 + 1 + 1 + 1 + 1 + 1 + 1 + 1 + 1 + 1 + 1 + 1 + 1 + 1 + 1 + 1 + 1 + 1 + 1 + 1 + 1 + 1 + 1 + 1 + 1 + 1 + 1 + 1 + 1 + 1 + 1 + 1 + 1 = n) = False := eq_false (by omega)
@[simp] theorem up_en36 (n : Nat) : (n = n + 1 + 1 + 1 + 1 + 1 + 1 + 1 + 1 + 1 + 1 + 1 + 1 + 1 + 1 + 1 + 1 + 1 + 1 + 1 + 1 + 1 + 1 + 1 + 1 + 1 + 1 + 1 + 1 + 1 + 1 + 1 + 1 + 1 + 1 + 1 + 1) = False := eq_false (by omega)
@[simp] theorem up_ne37 (n : Nat) : (n + 1 + 1 + 1 + 1 + 1 + 1 + 1 + 1 + 1 + 1 + 1 + 1 + 1 + 1 + 1 + 1 + 1 + 1 + 1 + 1 + 1 + 1 + 1 + 1 + 1 + 1 + 1 + 1 + 1 + 1 + 1 + 1 + 1 + 1 + 1 + 1 + 1 = n) = False := eq_false (by omega)
@[simp] theorem up_en37 (n : Nat) : (n = n + 1 + 1 + 1 + 1 + 1 + 1 + 1 + 1 + 1 + 1 + 1 + 1 + 1 + 1 + 1 + 1 + 1 + 1 + 1 + 1 + 1 + 1 + 1 + 1 + 1 + 1 + 1 + 1 + 1 + 1 + 1 + 1 + 1 + 1 + 1 + 1 + 1) = False := eq_false (by omega)
@[simp] theorem up_ne38 (n : Nat) : (n + 1 + 1 + 1 + 1 + 1 + 1 + 1 + 1 + 1 + 1 + 1 + 1 + 1 + 1 + 1 + 1 + 1 + 1 + 1 + 1 + 1 + 1 + 1 + 1 + 1 + 1 + 1 + 1 + 1 + 1 + 1 + 1 + 1 + 1 + 1 + 1 + 1 + 1 = n) = False := eq_false (by omega)
@[simp] theorem up_en38 (n : Nat) : (n = n + 1 + 1 + 1 + 1 + 1 + 1 + 1 + 1 + 1 + 1 + 1 + 1 + 1 + 1 + 1 + 1 + 1 + 1 + 1 + 1 + 1 + 1 + 1 + 1 + 1 + 1 + 1 + 1 + 1 + 1 + 1 + 1 + 1 + 1 + 1 + 1 + 1 + 1) = False := eq_false (by omega)
@[simp] theorem up_ne39 (n : Nat) : (n + 1 + 1 + 1 + 1 + 1 + 1 + 1 + 1 + 1 + 1 + 1 + 1 + 1 + 1 + 1 + 1 + 1 + 1 + 1 + 1 + 1 + 1 + 1 + 1 + 1 + 1 + 1 + 1 + 1 + 1 + 1 + 1 + 1 + 1 + 1 + 1 + 1 + 1 + 1 = n) = False := eq_false (by omega)
@[simp] theorem up_en39 (n : Nat) : (n = n + 1 + 1 + 1 + 1 + 1 + 1 + 1 + 1 + 1 + 1 + 1 + 1 + 1 + 1 + 1 + 1 + 1 + 1 + 1 + 1 + 1 + 1 + 1 + 1 + 1 + 1 + 1 + 1 + 1 + 1 + 1 + 1 + 1 + 1 + 1 + 1 + 1 + 1 + 1) = False := eq_false (by omega)
@[simp] theorem up_ne40 (n : Nat) : (n + 1 + 1 + 1 + 1 + 1 + 1 + 1 + 1 + 1 + 1 + 1 + 1 + 1 + 1 + 1 + 1 + 1 + 1 + 1 + 1 + 1 + 1 + 1 + 1 + 1 + 1 + 1 + 1 + 1 + 1 + 1 + 1 + 1 + 1 + 1 + 1 + 1 + 1 + 1 + 1 = n) = False := eq_false (by omega)
@[simp] theorem up_en40 (n : Nat) : (n = n + 1 + 1 + 1 + 1 + 1 + 1 + 1 + 1 + 1 + 1 + 1 + 1 + 1 + 1 + 1 + 1 + 1 + 1 + 1 + 1 + 1 + 1 + 1 + 1 + 1 + 1 + 1 + 1 + 1 + 1 + 1 + 1 + 1 + 1 + 1 + 1 + 1 + 1 + 1 + 1) = False := eq_false (by omega)
/-! Functions of constants that leave all as it is. -/
theorem cat_const {P : Program} {n : Nat} {us : List Value} {r : Value} (hn : fnOkB P n) (h : ∀ w, Calls P n us.toArray w fun e w' => e = .returned r /\ w' = w) : At P n (us.map fun u => .cell (.p (.c u))) (.cell (.p (.c r))) := by
 refine ⟨hn, fun w vs bad0 m hP hlen hrep hglob => ?_⟩
 have e : vs = us.toArray := by
  apply Array.ext
  ·simpa using hlen
  ·intro i h1 h2
   have h3 : i < us.length := by simpa using h2
   have := hrep i vs[i] (.cell (.p (.c us[i]))) (Array.getElem?_eq_getElem h1) (by rw [List.getElem?_map, List.getElem?_eq_getElem h3]; rfl)
   have := rep_c this
   rw [this]; simp
 rw [e]
 refine (h w).mono ?_
 rintro e w' ⟨rfl, rfl⟩
 have hown : ∀ q, ¬ Own ⟨fun i => if isF i then m.ρ i else .dead, fun _ _ => []⟩ q := by
  rintro q (⟨i, base, h1, h2⟩ | ⟨i, j, h1⟩)
  ·simp only [h1] at h2; cases h2
  ·cases h1
 refine ⟨⟨fun i => if isF i then m.ρ i else .dead, fun _ _ => []⟩, ⟨_, rfl, .cell _ _ (.c _)⟩, ⟨Nat.le_refl _, rfl, rfl, rfl, fun _ _ _ => rfl⟩, ⟨fun q hq => (hown q hq).elim, fun i j g b b' h1 _ h3 _ => ?_, fun i g b j k h1 h2 => ?_, fun _ _ => List.nodup_nil, fun _ _ _ _ _ h => (by cases h)⟩, fun q hq => (hown q hq).elim, fun i b h => (by cases h), fun x => rfl, fun k => .inl rfl, fun k q base n h => (by cases h), fun i hF _ => ⟨by simp [hF], fun _ => rfl⟩⟩
 ·exact (hown g (.inl ⟨i, b, h1, h3⟩)).elim
 ·exact (hown g (.inl ⟨i, b, h1, h2⟩)).elim
end Go.Hw
end
section
set_option linter.all false
namespace Go.Hw
variable [Globals]
/-- What comes behind a part of a function ahead of its defer. -/
def xD (P : Program) (N : Nat) (QD : Nat -> AX -> St -> Prop) (b : Code) (Q : AX -> St -> Prop) : AX -> St -> Prop
 | .normal, s => awpD P N QD b Q s
 | x, s => Q x s
section
variable {P : Program} {N : Nat} {QD : Nat -> AX -> St -> Prop} {b : Code} {Q : AX -> St -> Prop} {st st' : St} {e : AX}
@[congr] theorem xD_congr {zz : Nat} (hz : (0 + 0 : Nat) = zz) (h : st = st') : xD P N QD b Q e st = xD P N QD b Q e st' := by rw [h]
@[congr] theorem awpD_congr {zz : Nat} (hz : (0 + 0 : Nat) = zz) (h : st = st') : awpD P N QD b Q st = awpD P N QD b Q st' := by rw [h]
@[simp] theorem xD_normal : xD P N QD b Q .normal st = awpD P N QD b Q st := propext Iff.rfl
@[simp] theorem xD_ret : xD P N QD b Q .ret st = Q .ret st := propext Iff.rfl
@[simp] theorem xD_exit {k : Nat} : xD P N QD b Q (.exit k) st = Q (.exit k) st := propext Iff.rfl
@[simp] theorem xD_pan {x : AV} : xD P N QD b Q (.pan x) st = Q (.pan x) st := propext Iff.rfl
def dfrOf : Code -> Option Nat
 | .region _ ops false => ops.toList.getLast?.bind deferOf
 | _ => none
theorem xD_eq : (fun x s => match x with | .normal => awpD P N QD b Q s | x => Q x s) = xD P N QD b Q := by
 funext x s; cases x <;> rfl
theorem awpD_next {a : Code} (hd : dfrOf a = none) (hc : codeOkP N (some N) a = true) (k : awp P a (xD P N QD b Q) st) : awpD P N QD (.seq a b) Q st := by
 rw [<- xD_eq] at k
 unfold awpD
 split
 ·rename_i ha
  cases ha
  have hd' : _ = none := hd
  simp only [dfrOf] at hd
  rw [hd]; exact ⟨hc, k⟩
 ·rename_i ha
  cases ha
  exact ⟨hc, k⟩
 ·rename_i h1 h2
  exact (h2 _ _ rfl).elim
/-- What comes behind the defer. -/
def kD (P : Program) (b : Code) (QD : Nat -> AX -> St -> Prop) (t : Nat) : St -> Prop := fun s => (∃ g caps, s.env t = .cell (.fn g caps)) /\ awp P b (QD t) s
@[congr] theorem kD_congr {zz : Nat} (hz : (0 + 0 : Nat) = zz) {t : Nat} (h : st = st') : kD P b QD t st = kD P b QD t st' := by rw [h]
theorem awpD_defer {rid : Nat} {l l' : List Oper} {t : Nat} (hd : l.getLast?.bind deferOf = some t) (hl : l.dropLast = l') (hc : codeOkP N (some N) (.region rid l'.toArray false) = true) (hb : codeOkP N (some t) b = true)
  (k : aops P (st.gen + 1) l.toArray 0 l' st.up (kD P b QD t) (panQ Q)) : awpD P N QD (.seq (.region rid l.toArray false) b) Q st := by
 subst hl
 unfold awpD
 simp only [hd]
 exact ⟨hc, hb, st, Gh.refl st, k⟩
theorem kD_intro {t g : Nat} {caps : List (Id ⊕ CV)} (h : st.env t = .cell (.fn g caps)) (k : ∀ Q, (∀ e s, QD t e s -> Q e s) -> awp P b Q st) : kD P b QD t st := ⟨⟨g, caps, h⟩, k _ fun _ _ h => h⟩
end
theorem at_codeD {P : Program} {f : FuncId} {fn : Func} {c : Code} {args : List AV} {pre : List Blk} {r : AV} {post : List (Id × Blk)} (hm : P.follows .mixedOrders = true) (hf : P.funcs[f]? = some fn) (hname : (fn.name == "runtime.NumGoroutine") = false) (hb : fn.body = some c)
  (hargs : decide (args.length <= fn.ntmps) = true) {rs : List ResultVar} (hrs : fn.results.toList = rs) {N : Nat} (hN : fn.ntmps = N)
  (h : ∀ Q, (∀ e st, retPost P rs (.ret r) post e st -> Q e st) -> awpD P N (retPostD P rs r post) c Q (st0 args pre)) : CAt P f args pre (.ret r) post := by
 subst hrs; subst hN
 exact at_introD hm hf hname hb (of_decide_eq_true hargs) (h _ fun _ _ h => h)
theorem callD_at {P : Program} {ca : Option Value} {t g : Nat} {st : St} {K : St -> Prop} {caps : List (Id ⊕ CV)} (ht : st.env t = .cell (.fn g caps)) (fp : List Id) {as_ : List AV} {pre : List Blk} {post : List (Id × Blk)} (hD : DAt P g ca as_ pre post)
  (has : (caps.map capAV).map (·.toC fp st.hp) = as_) (hpre : fp.map (fun b => (st.hp b).map (Blk.mp (AC.toF fp))) = pre.map some) (hnd : fp.Nodup) {u : List (Id × Option Blk)} (hu : callU fp ((caps.map capAV).flatMap fun x : AV => x.bor fp st.hp) (st.gen + 1) 0 (.ret (.tup [])) post = u)
  (hK : K (st.up.app u)) : callD P ca t st K := by
 subst hu
 exact ⟨g, caps, ht, fp, as_, pre, post, hD, ⟨has, hpre, hnd⟩, hK⟩
/-- The end behind a defer. -/
theorem rD {P : Program} {rs : List ResultVar} {r : AV} {x : AV} {post post' : List (Id × Blk)} {t g : Nat} {st st' s' : St} {as_ : List AV} {pre : List Blk} {u : List (Id × Option Blk)} (hg : Gh st st') (caps : List (Id ⊕ CV)) (fp : List Id)
  (hD : DAt P g none as_ pre post') (hg2 : Gh (st'.up.app u) s') (ht : st'.env t = .cell (.fn g caps))
  (has : (caps.map capAV).map (·.toC fp st'.hp) = as_) (hpre : fp.map (fun b => (st'.hp b).map (Blk.mp (AC.toF fp))) = pre.map some) (hnd : fp.Nodup)
  (hu : callU fp ((caps.map capAV).flatMap fun x : AV => x.bor fp st'.hp) (st'.gen + 1) 0 (.ret (.tup [])) post' = u)
  (h : retAV P s' rs = some x) (hr : x = r) (hp : ∀ p ∈ post, s'.hp p.1 = some p.2) : retPostD P rs r post t .ret st :=
 ⟨st', hg, callD_at ht fp hD has hpre hnd hu ⟨s', hg2, by rw [h, hr], hp⟩⟩
theorem pD {P : Program} {rs : List ResultVar} {r : AV} {x : AV} {w : Value} {post post' : List (Id × Blk)} {t g : Nat} {st st' s' : St} {as_ : List AV} {pre : List Blk} {u : List (Id × Option Blk)} (hg : Gh st st') (caps : List (Id ⊕ CV)) (fp : List Id)
  (hD : DAt P g (some w) as_ pre post') (hg2 : Gh (st'.up.app u) s') (ht : st'.env t = .cell (.fn g caps))
  (has : (caps.map capAV).map (·.toC fp st'.hp) = as_) (hpre : fp.map (fun b => (st'.hp b).map (Blk.mp (AC.toF fp))) = pre.map some) (hnd : fp.Nodup)
  (hu : callU fp ((caps.map capAV).flatMap fun x : AV => x.bor fp st'.hp) (st'.gen + 1) 0 (.ret (.tup [])) post' = u)
  (h : retAV P s' rs = some x) (hr : x = r) (hp : ∀ p ∈ post, s'.hp p.1 = some p.2) : retPostD P rs r post t (.pan (.cell (.p (.c w)))) st :=
 ⟨w, rfl, st', hg, callD_at ht fp hD has hpre hnd hu ⟨s', hg2, by rw [h, hr], hp⟩⟩
/-- The contract of a deferred closure, from its code. -/
theorem dat_codeQ {P : Program} {f : FuncId} {fn : Func} {rest : Code} {rid d1 d2 : Nat} {ty1 ty2 : TypeId} {ts1 : Array TypeId} {pos1 pos2 : String} {after1 after2 : Array Edge} {op2 : Op} {ca : Option Value} {args : List AV} {pre : List Blk} {post : List (Id × Blk)} {x2 : AV}
  (hm : P.follows .mixedOrders = true) (hf : P.funcs[f]? = some fn) (hname : (fn.name == "runtime.NumGoroutine") = false)
  (hb : fn.body = some (.seq (.region rid #[⟨some d1, .call { callee := .builtin .recover, args := #[], argTypes := ts1 }, ty1, pos1, after1, none⟩, ⟨some d2, op2, ty2, pos2, after2, none⟩] false) rest))
  (hargs : args.length <= fn.ntmps) (hd1 : d1 < fn.ntmps) (hd2 : d2 < fn.ntmps) (hok : codeOkP fn.ntmps (some fn.ntmps) rest = true) (hres : fn.results.toList = [])
  (hq : qval P (st0 args pre).hp (evAV ((st0 args pre).put (some d1) (.cell (.p (.c (recOf ca))))).env) op2 = some x2)
  (h : ∀ Q, (∀ e st, retPost P [] (.ret (.tup [])) post e st -> Q e st) -> awp P rest Q (((st0 args pre).put (some d1) (.cell (.p (.c (recOf ca))))).put (some d2) x2)) : DAt P f ca args pre post :=
 dat_code (t := 0) hm hf hname hb hargs hd1 hd2 hok hres hq (h _ fun _ _ h => h)
@[simp] theorem recOf_none : recOf none = .nilIface := rfl
@[simp] theorem recOf_some (v : Value) : recOf (some v) = v := rfl
/-! A cell that holds nil owns an empty row. -/
def AC.isZt : OT -> Bool
 | .sp _ 0 [] => true
 | .sl _ 0 [] => true
 | _ => false
def St.own0 (st : St) (b : Id) (j : Nat) (t : OT) : St := { st with hp := fun i => if i = b then (match st.hp b with | some (.cells l) => (match l[j]? with | some .z => some (.cells (l.set j (.own t))) | _ => some (.cells l)) | o => o) else st.hp i }
def Mem.clr (m : Mem) (b : Id) (j : Nat) : Mem := ⟨m.ρ, fun i k => if i = b /\ k = j then [] else m.hid i k⟩
theorem Upd.own0 {w : World} {m : Mem} {bad0 prot : Nat -> Prop} {g i : Nat} (hm : MemOk w prot bad0 m) {b : Id} (hF : isF b = false) {l : List AC} (hR : CellsR w m bad0 b l) {j : Nat} (hj : l[j]? = some .z) {t : OT} (ht : AC.isZt t = true) :
  Upd w m bad0 prot w (m.clr b j) g i [(b, some (.cells (l.set j (.own t))))] := by
 obtain ⟨q0, b0, cur0, e0, fr0, u0, hst, hg0, hu0, hc0⟩ := hR.get hj
 have hid : ∀ c n k, k ∈ (m.clr b j).hid c n -> k ∈ m.hid c n := fun c n k h => by
  simp only [Mem.clr] at h
  split at h
  ·cases h
  ·exact h
 have hown : ∀ k, Own (m.clr b j) k -> Own m k := by
  rintro k (⟨c, bs, h1, h2⟩ | ⟨c, n, h⟩)
  ·exact .inl ⟨c, bs, h1, h2⟩
  ·exact .inr ⟨c, n, hid c n k h⟩
 have hok : MemOk w prot bad0 (m.clr b j) := ⟨fun k hk => hm.lt k (hown k hk), hm.inj, fun c k b1 d n h1 h2 h3 => hm.sep c k b1 d n h1 h2 (hid _ _ _ h3), fun c n => by
  simp only [Mem.clr]
  split
  ·exact List.nodup_nil
  ·exact hm.hnd c n, fun c n c' n' k h1 h2 => hm.hdj c n c' n' k (hid _ _ _ h1) (hid _ _ _ h2)⟩
 have E : Ext w m bad0 w (m.clr b j) bad0 := by
  refine ⟨Hx.same fun k hn => ?_, fun c => .inr (.inr rfl), fun _ _ _ _ _ _ h => h⟩
  rintro (ho | ho)
  ·exact hn (.inl (hown k ho))
  ·exact hn (.inr ho)
 obtain ⟨a, rfl⟩ := hc0
 have hO : ∀ bad : Nat -> Prop, OTR w bad (.slice a 0 0) t [] := fun bad => by
  unfold AC.isZt at ht
  split at ht
  ·exact .zp a _
  ·exact .z a _
  ·cases ht
 refine Upd.names hok E (fun d bl' hd => ?_) (fun d hd => ?_) (fun x => rfl) (fun x hx _ => hx)
 ·simp only [List.mem_cons, Prod.mk.injEq, Option.some.injEq, List.not_mem_nil, or_false] at hd
  obtain ⟨rfl, rfl⟩ := hd
  refine ⟨hF, CellsR.swap E hR rfl (fun k' hk' => by simp [Mem.clr, hk']) fun q' base cur e fr u p1 p2 p3 hu => ?_⟩
  rw [hst] at p1; cases p1
  rw [hg0] at p2; cases p2
  rw [hu0] at p3; cases p3
  have hh : (m.clr d j).hid d j = [] := by simp [Mem.clr]
  rw [hh]
  exact hO _
 ·have n1 : d ≠ b := fun e => hd _ (by rw [e]; exact List.mem_cons_self ..)
  exact ⟨rfl, fun j' => by simp [Mem.clr, n1]⟩
theorem Gh.own0 (st : St) (b : Id) (j : Nat) (t : OT) (ht : AC.isZt t = true) : Gh st (st.own0 b j t) := by
 intro C a w m hJ
 cases hb : st.hp b with
 | none => exact ⟨m, hJ.withHp _ _ hJ.env fun i bl hi => by
   split at hi
   ·rename_i e; subst e; rw [hb] at hi; cases hi
   ·exact hJ.hp i bl hi⟩
 | some bl =>
  have same : (∀ l, bl ≠ .cells l) \/ (∃ l, bl = .cells l /\ l[j]? ≠ some .z) \/ ∃ l, bl = .cells l /\ l[j]? = some .z := by
   cases bl with
   | cells l =>
    by_cases h : l[j]? = some .z
    ·exact .inr (.inr ⟨l, rfl, h⟩)
    ·exact .inr (.inl ⟨l, rfl, h⟩)
   | pure l => exact .inl fun l h => by cases h
   | map ks vs => exact .inl fun l h => by cases h
  rcases same with h | ⟨l, rfl, h⟩ | ⟨l, rfl, h⟩
  ·refine ⟨m, hJ.withHp _ _ hJ.env fun i bl' hi => ?_⟩
   split at hi
   ·rename_i e; subst e; rw [hb] at hi
    cases bl with
    | cells l => exact (h l rfl).elim
    | _ => cases hi; exact hJ.hp i _ hb
   ·exact hJ.hp i bl' hi
  ·refine ⟨m, hJ.withHp _ _ hJ.env fun i bl' hi => ?_⟩
   split at hi
   ·rename_i e; subst e; rw [hb] at hi
    simp only at hi
    cases hi; exact hJ.hp i _ hb
   ·exact hJ.hp i bl' hi
  ·obtain ⟨hF, hR⟩ := hJ.hp b _ hb
   have U := Upd.own0 (g := 0) (i := 0) hJ.mem hF hR h ht
   refine ⟨_, (by
    have := hJ.upd U (Nat.zero_le _)
    have e : st.own0 b j t = st.app [(b, some (.cells (l.set j (.own t))))] := by
     unfold St.own0 St.app
     congr 1
     funext i
     simp only [hput, hb, h]
    rw [e]; exact this)⟩
@[simp] theorem own0_env (st : St) (b : Id) (j s : Nat) (t : OT) : (st.own0 b j t).env s = st.env s := rfl
@[simp] theorem own0_hp (st : St) (b i : Id) (j : Nat) (t : OT) : (st.own0 b j t).hp i = if i = b then (match st.hp b with | some (.cells l) => (match l[j]? with | some .z => some (.cells (l.set j (.own t))) | _ => some (.cells l)) | o => o) else st.hp i := rfl
@[simp] theorem own0_gen (st : St) (b : Id) (j : Nat) (t : OT) : (st.own0 b j t).gen = st.gen := rfl
@[simp] theorem own0_acc (st : St) (b : Id) (j : Nat) (t : OT) : (st.own0 b j t).acc = st.acc := rfl
end Go.Hw
end
section
set_option linter.all false
namespace Go.Dc
open Go Go.Hw Go.Proofs
set_option maxRecDepth 100000
@[simp] theorem enc_Arr_7_Bool (x : Arr 7 Bool) : Enc.enc x = [.c (.bool (x.f 0)), .c (.bool (x.f 1)), .c (.bool (x.f 2)), .c (.bool (x.f 3)), .c (.bool (x.f 4)), .c (.bool (x.f 5)), .c (.bool (x.f 6))] := rfl
@[simp] theorem sz_Arr_7_Bool : Enc.sz (Arr 7 Bool) = 7 := rfl
@[simp] theorem enc_Arr_7_Int (x : Arr 7 Int) : Enc.enc x = [.c (.int .i64 (x.f 0)), .c (.int .i64 (x.f 1)), .c (.int .i64 (x.f 2)), .c (.int .i64 (x.f 3)), .c (.int .i64 (x.f 4)), .c (.int .i64 (x.f 5)), .c (.int .i64 (x.f 6))] := rfl
@[simp] theorem sz_Arr_7_Int : Enc.sz (Arr 7 Int) = 7 := rfl
structure InstRow where
 name : ByteArray
 uses : Arr 7 Bool
 deriving Inhabited
instance : Enc InstRow := ⟨8, fun x => [.c (.string x.name), .c (.bool (x.uses.f 0)), .c (.bool (x.uses.f 1)), .c (.bool (x.uses.f 2)), .c (.bool (x.uses.f 3)), .c (.bool (x.uses.f 4)), .c (.bool (x.uses.f 5)), .c (.bool (x.uses.f 6))], fun _ => rfl⟩
@[simp] theorem enc_InstRow (x : InstRow) : Enc.enc x = [.c (.string x.name), .c (.bool (x.uses.f 0)), .c (.bool (x.uses.f 1)), .c (.bool (x.uses.f 2)), .c (.bool (x.uses.f 3)), .c (.bool (x.uses.f 4)), .c (.bool (x.uses.f 5)), .c (.bool (x.uses.f 6))] := rfl
@[simp] theorem sz_InstRow : Enc.sz InstRow = 8 := rfl
structure Fault where
 Err : Int
 At : Int
 deriving Inhabited
instance : Enc Fault := ⟨2, fun x => [.c (.int .i64 x.Err), .c (.int .i64 x.At)], fun _ => rfl⟩
@[simp] theorem enc_Fault (x : Fault) : Enc.enc x = [.c (.int .i64 x.Err), .c (.int .i64 x.At)] := rfl
@[simp] theorem sz_Fault : Enc.sz Fault = 2 := rfl
structure Var where
 Name : ByteArray
 Init : Int
 deriving Inhabited
instance : Enc Var := ⟨2, fun x => [.c (.string x.Name), .c (.int .i64 x.Init)], fun _ => rfl⟩
@[simp] theorem enc_Var (x : Var) : Enc.enc x = [.c (.string x.Name), .c (.int .i64 x.Init)] := rfl
@[simp] theorem sz_Var : Enc.sz Var = 2 := rfl
structure Inst where
 Op : Int
 A : Int
 B : Int
 C : Int
 Obj : Int
 N : Int
 Fn : Int
 Order : Int
 deriving Inhabited
instance : Enc Inst := ⟨8, fun x => [.c (.int .i64 x.Op), .c (.int .i64 x.A), .c (.int .i64 x.B), .c (.int .i64 x.C), .c (.int .i64 x.Obj), .c (.int .i64 x.N), .c (.int .i64 x.Fn), .c (.int .i64 x.Order)], fun _ => rfl⟩
@[simp] theorem enc_Inst (x : Inst) : Enc.enc x = [.c (.int .i64 x.Op), .c (.int .i64 x.A), .c (.int .i64 x.B), .c (.int .i64 x.C), .c (.int .i64 x.Obj), .c (.int .i64 x.N), .c (.int .i64 x.Fn), .c (.int .i64 x.Order)] := rfl
@[simp] theorem sz_Inst : Enc.sz Inst = 8 := rfl
structure Func where
 Name : ByteArray
 Code : List Inst
 deriving Inhabited
instance : Enc Func := ⟨2, fun x => [.c (.string x.Name), .sl x.Code.length (encL x.Code)], fun _ => rfl⟩
@[simp] theorem enc_Func (x : Func) : Enc.enc x = [.c (.string x.Name), .sl x.Code.length (encL x.Code)] := rfl
@[simp] theorem sz_Func : Enc.sz Func = 2 := rfl
instance : TEnc Func := ⟨fun x => [.p (.c (.string x.Name)), .sp 8 x.Code.length (encL x.Code)], fun x => rfl, fun x => by simp only [List.map_cons, List.map_nil, otCV, otCV_g, otL_cv]; rfl⟩
@[simp] theorem ot_Func (x : Func) : TEnc.ot x = [.p (.c (.string x.Name)), .sp 8 x.Code.length (encL x.Code)] := rfl
@[simp] theorem oenc_Func (x : Func) : OEnc.oenc x = [.p (.c (.string x.Name)), .own (.sp 8 x.Code.length (encL x.Code))] := by rw [oenc_t, ot_Func]; rfl
structure Start where
 Func : Int
 Arg : Int
 deriving Inhabited
instance : Enc Start := ⟨2, fun x => [.c (.int .i64 x.Func), .c (.int .i64 x.Arg)], fun _ => rfl⟩
@[simp] theorem enc_Start (x : Start) : Enc.enc x = [.c (.int .i64 x.Func), .c (.int .i64 x.Arg)] := rfl
@[simp] theorem sz_Start : Enc.sz Start = 2 := rfl
structure Program where
 Vars : List Var
 Mutexes : List ByteArray
 Conds : List ByteArray
 Funcs : List Func
 Threads : List Start
 deriving Inhabited
instance : Enc Program := ⟨5, fun x => [.sl x.Vars.length (encL x.Vars), .sl x.Mutexes.length (encL x.Mutexes), .sl x.Conds.length (encL x.Conds), .sl x.Funcs.length (encL x.Funcs), .sl x.Threads.length (encL x.Threads)], fun _ => rfl⟩
@[simp] theorem enc_Program (x : Program) : Enc.enc x = [.sl x.Vars.length (encL x.Vars), .sl x.Mutexes.length (encL x.Mutexes), .sl x.Conds.length (encL x.Conds), .sl x.Funcs.length (encL x.Funcs), .sl x.Threads.length (encL x.Threads)] := rfl
@[simp] theorem sz_Program : Enc.sz Program = 5 := rfl
structure Token where
 Kind : Int
 Text : ByteArray
 N : Int
 At : Int
 deriving Inhabited
instance : Enc Token := ⟨4, fun x => [.c (.int .i64 x.Kind), .c (.string x.Text), .c (.int .i64 x.N), .c (.int .i64 x.At)], fun _ => rfl⟩
@[simp] theorem enc_Token (x : Token) : Enc.enc x = [.c (.int .i64 x.Kind), .c (.string x.Text), .c (.int .i64 x.N), .c (.int .i64 x.At)] := rfl
@[simp] theorem sz_Token : Enc.sz Token = 4 := rfl
structure AsmName where
 token : Token
 kind : ByteArray
 fn : Int
 at_ : Int
 deriving Inhabited
instance : Enc AsmName := ⟨7, fun x => [.c (.int .i64 x.token.Kind), .c (.string x.token.Text), .c (.int .i64 x.token.N), .c (.int .i64 x.token.At), .c (.string x.kind), .c (.int .i64 x.fn), .c (.int .i64 x.at_)], fun _ => rfl⟩
@[simp] theorem enc_AsmName (x : AsmName) : Enc.enc x = [.c (.int .i64 x.token.Kind), .c (.string x.token.Text), .c (.int .i64 x.token.N), .c (.int .i64 x.token.At), .c (.string x.kind), .c (.int .i64 x.fn), .c (.int .i64 x.at_)] := rfl
@[simp] theorem sz_AsmName : Enc.sz AsmName = 7 := rfl
structure AsmParser where
 tokens : List Token
 end_ : Int
 p : Program
 names : List AsmName
 funcs : List Int
 insts : List (List Int)
 deriving Inhabited
instance : Enc AsmParser := ⟨10, fun x => [.sl x.tokens.length (encL x.tokens), .c (.int .i64 x.end_), .sl x.p.Vars.length (encL x.p.Vars), .sl x.p.Mutexes.length (encL x.p.Mutexes), .sl x.p.Conds.length (encL x.p.Conds), .sl x.p.Funcs.length (encL x.p.Funcs), .sl x.p.Threads.length (encL x.p.Threads), .sl x.names.length (encL x.names), .sl x.funcs.length (encL x.funcs), .sl x.insts.length (encL x.insts)], fun _ => rfl⟩
@[simp] theorem enc_AsmParser (x : AsmParser) : Enc.enc x = [.sl x.tokens.length (encL x.tokens), .c (.int .i64 x.end_), .sl x.p.Vars.length (encL x.p.Vars), .sl x.p.Mutexes.length (encL x.p.Mutexes), .sl x.p.Conds.length (encL x.p.Conds), .sl x.p.Funcs.length (encL x.p.Funcs), .sl x.p.Threads.length (encL x.p.Threads), .sl x.names.length (encL x.names), .sl x.funcs.length (encL x.funcs), .sl x.insts.length (encL x.insts)] := rfl
@[simp] theorem sz_AsmParser : Enc.sz AsmParser = 10 := rfl
structure ProgramPlace where
 fn : Int
 inst : Int
 deriving Inhabited
instance : Enc ProgramPlace := ⟨2, fun x => [.c (.int .i64 x.fn), .c (.int .i64 x.inst)], fun _ => rfl⟩
@[simp] theorem enc_ProgramPlace (x : ProgramPlace) : Enc.enc x = [.c (.int .i64 x.fn), .c (.int .i64 x.inst)] := rfl
@[simp] theorem sz_ProgramPlace : Enc.sz ProgramPlace = 2 := rfl
def rowsTab : List InstRow := [⟨⟨#[99, 111, 110, 115, 116]⟩, Arr.of 7 [true, false, false, false, true, false, false]⟩, ⟨⟨#[99, 111, 112, 121]⟩, Arr.of 7 [true, true, false, false, false, false, false]⟩, ⟨⟨#[99, 97, 108, 99]⟩, Arr.of 7 [true, true, true, false, false, true, false]⟩, ⟨⟨#[106, 117, 109, 112]⟩, Arr.of 7 [false, false, false, false, true, false, false]⟩, ⟨⟨#[98, 114, 97, 110, 99, 104]⟩, Arr.of 7 [false, true, false, false, true, false, false]⟩, ⟨⟨#[97, 115, 115, 101, 114, 116]⟩, Arr.of 7 [false, true, false, false, false, false, false]⟩, ⟨⟨#[115, 116, 111, 112]⟩, Arr.of 7 [false, false, false, false, false, false, false]⟩, ⟨⟨#[108, 111, 97, 100]⟩, Arr.of 7 [true, false, false, true, false, false, true]⟩, ⟨⟨#[115, 116, 111, 114, 101]⟩, Arr.of 7 [false, true, false, true, false, false, true]⟩, ⟨⟨#[115, 119, 97, 112]⟩, Arr.of 7 [true, true, false, true, false, false, true]⟩, ⟨⟨#[102, 101, 116, 99, 104, 97, 100, 100]⟩, Arr.of 7 [true, true, false, true, false, false, true]⟩, ⟨⟨#[99, 97, 115]⟩, Arr.of 7 [true, true, true, true, false, false, true]⟩, ⟨⟨#[102, 101, 110, 99, 101]⟩, Arr.of 7 [false, false, false, false, false, false, false]⟩, ⟨⟨#[97, 119, 97, 105, 116]⟩, Arr.of 7 [true, true, false, true, false, true, true]⟩, ⟨⟨#[108, 111, 99, 107]⟩, Arr.of 7 [false, false, false, true, false, false, false]⟩, ⟨⟨#[117, 110, 108, 111, 99, 107]⟩, Arr.of 7 [false, false, false, true, false, false, false]⟩, ⟨⟨#[116, 114, 121, 108, 111, 99, 107]⟩, Arr.of 7 [true, false, false, true, false, false, false]⟩, ⟨⟨#[119, 97, 105, 116]⟩, Arr.of 7 [false, false, false, true, true, false, false]⟩, ⟨⟨#[115, 105, 103, 110, 97, 108]⟩, Arr.of 7 [false, false, false, true, false, false, false]⟩, ⟨⟨#[98, 114, 111, 97, 100, 99, 97, 115, 116]⟩, Arr.of 7 [false, false, false, true, false, false, false]⟩, ⟨⟨#[115, 112, 97, 119, 110]⟩, Arr.of 7 [true, true, false, true, false, false, false]⟩, ⟨⟨#[106, 111, 105, 110]⟩, Arr.of 7 [false, true, false, false, false, false, false]⟩]
def namesTab : List ByteArray := [⟨#[97, 100, 100]⟩, ⟨#[115, 117, 98]⟩, ⟨#[109, 117, 108]⟩, ⟨#[97, 110, 100]⟩, ⟨#[111, 114]⟩, ⟨#[120, 111, 114]⟩, ⟨#[101, 113]⟩, ⟨#[110, 101]⟩, ⟨#[108, 116]⟩, ⟨#[108, 101]⟩]
def ordersTab : List ByteArray := [⟨#[112, 108, 97, 105, 110]⟩, ⟨#[114, 101, 108, 97, 120, 101, 100]⟩, ⟨#[114, 101, 108, 97, 99, 113]⟩]
instance : Globals where
 G := fun g => if g = 0 then some (encL rowsTab) else if g = 1 then some (encL namesTab) else if g = 2 then some (encL ordersTab) else none
@[simp] theorem glob0 : Globals.G 0 = some (encL rowsTab) := rfl
@[simp] theorem glob1 : Globals.G 1 = some (encL namesTab) := rfl
@[simp] theorem glob2 : Globals.G 2 = some (encL ordersTab) := rfl
/-- What a panic holds. -/
@[reducible] def panV (x : Fault) : Value := .iface 31 (.agg #[.int .i64 x.Err, .int .i64 x.At])
end Go.Dc
end
section
set_option linter.all false
namespace Go.Dc
open Go Go.Hw Go.Proofs
set_option maxRecDepth 100000
def asm_fail (a0 : Int) (a1 : Int) : Option Fault :=
 some ({ Err := a0, At := a1 } : Fault)
set_option maxHeartbeats 2000000 in
theorem at_asm_fail {a0 : Int} {a1 : Int} {r : Fault} (hs : asm_fail a0 a1 = some r) : CAt Tryd.prog 27 [iV .i64 a0, iV .i64 a1] [] (.pan (.cell (.p (.c (panV r))))) [] := by
 refine at_bound (by kernel_rfl) fun hb => ?_
 refine at_code mixed Tryd.func27 (by kernel_rfl) rfl (by kernel_rfl) rfl fun Q hQ => ?_
 rw [asm_fail] at hs
 refine goR f0 ?_
 obtain rfl := sj hs
 exact hQ _ _ retPan
end Go.Dc
end
section
set_option linter.all false
namespace Go.Dc
open Go Go.Hw Go.Proofs
set_option maxRecDepth 100000
def asm_parser_at (a0_0 : List Token) (a0_1 : Int) : Option Int :=
 cond (eqI ((a0_0.length : Nat) : Int) 0) (some a0_1) (Option.bind (a0_0[0]?) (fun x2 => some x2.At))
set_option maxHeartbeats 2000000 in
theorem at_asm_parser_at {c0_2 : FC} {c0_3 : FC} {c0_4 : FC} {c0_5 : FC} {c0_6 : FC} {c0_7 : FC} {c0_8 : FC} {c0_9 : FC} {a0_0 : List Token} {a0_1 : Int} {r : Int} (hs : asm_parser_at a0_0 a0_1 = some r) : CAt Tryd.prog 57 [.cell (.ref (.a 0) 0)] [.cells [sC a0_0, nC a0_1, c0_2.ac, c0_3.ac, c0_4.ac, c0_5.ac, c0_6.ac, c0_7.ac, c0_8.ac, c0_9.ac]] (.ret (iV .i64 r)) [(.a 0, .cells [sC a0_0, nC a0_1, c0_2.ac, c0_3.ac, c0_4.ac, c0_5.ac, c0_6.ac, c0_7.ac, c0_8.ac, c0_9.ac])] := by
 refine at_bound (by kernel_rfl) fun hb => ?_
 refine at_code mixed Tryd.func57 (by kernel_rfl) rfl (by kernel_rfl) rfl fun Q hQ => ?_
 rw [asm_parser_at] at hs
 refine goR f0 ?_
 revert hs; refine cS f0 ?_ ?_ <;> intro h1 hs
 ·refine goR f0 ?_
  obtain rfl := sj hs
  refine hQ _ _ (ret2g _ (Gh.refl _) (by simp [St.frz, St.pur]; rfl) (by first | rfl | (simp [St.frz, St.pur]; done) | (rw [if_pos (by first | omega | (simp; omega))]; simp [St.frz, St.pur]; first | omega | exact List.take_of_length_le (by simp; omega) | skip)) (pv f0))
 ·revert hs; refine bK fun x2 hx3 hs => ?_
  have hx3b := getN_some hx3
  have f4 : partCV Tryd.prog 3 (encL a0_0) (0 * 4 + 3) = some (iV .i64 x2.At) := partCV_enc hx3 (f := 3) (by simp)
  refine goR f4 ?_
  obtain rfl := sj hs
  refine hQ _ _ (ret2g _ (Gh.refl _) (by simp [St.frz, St.pur, f4]; rfl) (by first | rfl | (simp [St.frz, St.pur, f4]; done) | (rw [if_pos (by first | omega | (simp; omega))]; simp [St.frz, St.pur, f4]; first | omega | exact List.take_of_length_le (by simp; omega) | skip)) (pv f4))
end Go.Dc
end
section
set_option linter.all false
namespace Go.Dc
open Go Go.Hw Go.Proofs
set_option maxRecDepth 100000
def asm_parser_next (a0_0 : List Token) (a0_1 : Int) (a1 : Int) : Option (Fault ⊕ (Token × (List Token))) :=
 guardO (orB (!(!(eqI ((a0_0.length : Nat) : Int) 0))) (inB (0 : Int) a0_0.length)) (cond (orB (eqI ((a0_0.length : Nat) : Int) 0) (eqI ((gd a0_0 0).Kind) 4)) (Option.bind (asm_parser_at a0_0 a0_1) (fun y4 => Option.bind (asm_fail 15 y4) (fun y6 => some (.inl y6)))) (Option.bind (a0_0[0]?) (fun x8 => cond (!(eqI x8.Kind a1)) (Option.bind (asm_fail 14 x8.At) (fun y12 => some (.inl y12))) (guardO (slB (1 : Int) (a0_0.length : Int) a0_0.length) (Option.bind (some (subL a0_0 (1 : Int) (a0_0.length : Int))) (fun l15 => some (.inr (x8, l15))))))))
set_option maxHeartbeats 2000000 in
theorem at_asm_parser_next {c0_2 : FC} {c0_3 : FC} {c0_4 : FC} {c0_5 : FC} {c0_6 : FC} {c0_7 : FC} {c0_8 : FC} {c0_9 : FC} {a0_0 : List Token} {a0_1 : Int} {a1 : Int} {r : Fault ⊕ (Token × (List Token))} (hs : asm_parser_next a0_0 a0_1 a1 = some r) : CAt Tryd.prog 41 [.cell (.ref (.a 0) 0), iV .i64 a1] [.cells [sC a0_0, nC a0_1, c0_2.ac, c0_3.ac, c0_4.ac, c0_5.ac, c0_6.ac, c0_7.ac, c0_8.ac, c0_9.ac]] (panO panV (fun (r : Token × (List Token)) => .agg (eA r.1)) r) (panP (fun (r : Token × (List Token)) => [(.a 0, .cells [sC r.2, nC a0_1, c0_2.ac, c0_3.ac, c0_4.ac, c0_5.ac, c0_6.ac, c0_7.ac, c0_8.ac, c0_9.ac])]) r) := by
 refine at_bound (by kernel_rfl) fun hb => ?_
 refine at_code mixed Tryd.func41 (by kernel_rfl) rfl (by kernel_rfl) rfl fun Q hQ => ?_
 rw [asm_parser_next] at hs
 obtain ⟨g1, hs⟩ := guardO_some hs
 have g1a : (!(eqI ((a0_0.length : Nat) : Int) 0)) = true -> 0 <= (0 : Int) := fun hg => (under_elem g1 hg).1
 have g1b : (!(eqI ((a0_0.length : Nat) : Int) 0)) = true -> (0 : Int) < (a0_0.length : Int) := fun hg => (under_elem g1 hg).2.1
 have g1n : (!(eqI ((a0_0.length : Nat) : Int) 0)) = true -> 0 < a0_0.length := fun hg => by simpa using (under_elem g1 hg).2.2.1
 have g1c : (!(eqI ((a0_0.length : Nat) : Int) 0)) = true -> a0_0[0]? = some (gd a0_0 0) := fun hg => by simpa using (under_elem g1 hg).2.2.2
 have f2 : (!(eqI ((a0_0.length : Nat) : Int) 0)) = true -> partCV Tryd.prog 69 (encL a0_0) (0 * 4) = some (iV .i64 ((gd a0_0 0).Kind)) := fun hg => partCV_enc (g1c hg) (f := 0) (by simp)
 have F1 := an g1a (an g1b (an g1n f2))
 refine goG F1 F1 ?_
 revert hs; refine cS F1 ?_ ?_ <;> intro h3 hs
 ·refine goG F1 F1 ?_
  revert hs; refine bK fun y4 hx5 hs => ?_
  refine cB F1 (at_asm_parser_at (c0_2 := (c0_2.toF [.a 0])) (c0_3 := (c0_3.toF [.a 0])) (c0_4 := (c0_4.toF [.a 0])) (c0_5 := (c0_5.toF [.a 0])) (c0_6 := (c0_6.toF [.a 0])) (c0_7 := (c0_7.toF [.a 0])) (c0_8 := (c0_8.toF [.a 0])) (c0_9 := (c0_9.toF [.a 0])) hx5) [.a 0] ?_
  refine goG F1 F1 ?_
  revert hs; refine bK fun y6 hx7 hs => ?_
  refine cX F1 (at_asm_fail hx7) [] (fun v => ?_)
  obtain rfl := sj hs
  exact hQ _ _ retPan
 ·revert hs; refine bK fun x8 hx9 hs => ?_
  have hx9b := getN_some hx9
  have f10 : partCV Tryd.prog 71 (encL a0_0) (0 * 4) = some (.agg (eA x8)) := partCV_enc hx9 (f := 0) (by simp)
  have F2 := an F1 f10
  have F3 := an F2 hx9b
  refine goG F2 F3 ?_
  revert hs; refine cS F2 ?_ ?_ <;> intro h11 hs
  ·refine goG F2 F3 ?_
   revert hs; refine bK fun y12 hx13 hs => ?_
   refine cX F2 (at_asm_fail hx13) [] (fun v => ?_)
   obtain rfl := sj hs
   exact hQ _ _ retPan
  ·obtain ⟨g14, hs⟩ := guardO_some hs
   obtain ⟨g14a, g14b, g14c⟩ := slB_t g14
   revert hs; refine lK fun l15 hx16 hs => ?_
   have f17n : l15.length = ((a0_0.length : Int) - (1 : Int)).toNat := by rw [hx16]; exact subL_len ⟨g14a, g14b, g14c⟩
   have f17e : ((encL a0_0).drop (((1 : Int) : Int).toNat * 4)).take (((a0_0.length : Int) - (1 : Int)).toNat * 4) = encL l15 := by rw [hx16]; exact subL_enc (α := Token)
   try simp at f17n
   try simp at f17e
   have F4 := an F2 (an g14a (an g14b (an g14c (an f17n f17e))))
   have F5 := an F4 hx9b
   refine goG F4 F5 ?_
   obtain rfl := sj hs
   refine hQ _ _ (ret2g _ (Gh.refl _) (by simp [St.frz, St.pur, F4]; rfl) (by first | rfl | (simp [St.frz, St.pur, F4]; done) | (rw [if_pos (by first | omega | (simp; omega))]; simp [St.frz, St.pur, F4]; first | omega | exact List.take_of_length_le (by simp; omega) | skip)) (pv F4))
end Go.Dc
end
section
set_option linter.all false
namespace Go.Dc
open Go Go.Hw Go.Proofs
set_option maxRecDepth 100000
def asm_parser_object (a0_0 : List Token) (a0_1 : Int) (a0_7 : List AsmName) (a1 : ByteArray) (a2 : Int) (a3 : Int) : Option (Fault ⊕ ((List Token) × (List AsmName))) :=
 Option.bind (asm_parser_next a0_0 a0_1 1) (fun y10 => (match y10 with | .inl e12 => some (.inl e12) | .inr y13 => Option.bind (some ([({ token := y13.1, kind := a1, fn := a2, at_ := a3 } : AsmName)])) (fun l14 => guardO (limB 72 (a0_7.length + l14.length)) (Option.bind (some (a0_7 ++ l14)) (fun l17 => some (.inr (y13.2, l17)))))))
set_option maxHeartbeats 2000000 in
theorem at_asm_parser_object {c0_2 : FC} {c0_3 : FC} {c0_4 : FC} {c0_5 : FC} {c0_6 : FC} {c0_8 : FC} {c0_9 : FC} {a0_0 : List Token} {a0_1 : Int} {a0_7 : List AsmName} {a1 : ByteArray} {a2 : Int} {a3 : Int} {r : Fault ⊕ ((List Token) × (List AsmName))} (hs : asm_parser_object a0_0 a0_1 a0_7 a1 a2 a3 = some r) : CAt Tryd.prog 42 [.cell (.ref (.a 0) 0), sV a1, iV .i64 a2, iV .i64 a3] [.cells [sC a0_0, nC a0_1, c0_2.ac, c0_3.ac, c0_4.ac, c0_5.ac, c0_6.ac, .own (.sp 7 a0_7.length (encL a0_7)), c0_8.ac, c0_9.ac]] (panO panV (fun (r : (List Token) × (List AsmName)) => .tup []) r) (panP (fun (r : (List Token) × (List AsmName)) => [(.a 0, .cells [sC r.1, nC a0_1, c0_2.ac, c0_3.ac, c0_4.ac, c0_5.ac, c0_6.ac, .own (.sp 7 r.2.length (encL r.2)), c0_8.ac, c0_9.ac])]) r) := by
 refine at_bound (by kernel_rfl) fun hb => ?_
 refine at_code mixed Tryd.func42 (by kernel_rfl) rfl (by kernel_rfl) rfl fun Q hQ => ?_
 rw [asm_parser_object] at hs
 refine goN f0 ?_
 refine awp_gh (by rfl) (Gh.opn _ (.a 0) 7) ?_
 try simp only [St.frz, St.pur]
 refine goD f0 ?_
 revert hs; refine bK fun y10 hx11 hs => ?_
 rcases y10 with e12 | y13
 ·try dsimp only at hs
  refine cXd f0 (at_asm_parser_next (c0_2 := (c0_2.toF [.a 0])) (c0_3 := (c0_3.toF [.a 0])) (c0_4 := (c0_4.toF [.a 0])) (c0_5 := (c0_5.toF [.a 0])) (c0_6 := (c0_6.toF [.a 0])) (c0_7 := ⟨AC.toF [.a 0] (.sl (.o 1 0 7) 0 7 a0_7.length), by simp⟩) (c0_8 := (c0_8.toF [.a 0])) (c0_9 := (c0_9.toF [.a 0])) hx11) [.a 0] ?_
  refine dpa_intro (fun s => ?_) ?_
  ·obtain rfl := sj hs
   exact hQ _ _ retPan
  ·exact goP f0
 ·try dsimp only at hs
  refine cB f0 (at_asm_parser_next (c0_2 := (c0_2.toF [.a 0])) (c0_3 := (c0_3.toF [.a 0])) (c0_4 := (c0_4.toF [.a 0])) (c0_5 := (c0_5.toF [.a 0])) (c0_6 := (c0_6.toF [.a 0])) (c0_7 := ⟨AC.toF [.a 0] (.sl (.o 1 0 7) 0 7 a0_7.length), by simp⟩) (c0_8 := (c0_8.toF [.a 0])) (c0_9 := (c0_9.toF [.a 0])) hx11) [.a 0] ?_
  revert hs; refine lK fun l14 hx15 hs => ?_
  have hx15n : l14.length = 1 := by rw [hx15]; rfl
  obtain ⟨g16, hs⟩ := guardO_some hs
  have g16 := limB_t g16
  obtain ⟨g16a, g16b⟩ := g16
  revert hs; refine lK fun l17 hx18 hs => ?_
  have hx18n : l17.length = (a0_7.length + l14.length) := by rw [hx18]; simp
  have hx18e : encL l17 = encL a0_7 ++ encL l14 := by rw [hx18]; simp
  have F1 := an hx15 (an hx18n hx18e)
  refine goD F1 ?_
  have f19 : (encL l17).take (l17.length * 7) = encL l17 := encL_takeN _ (by simp)
  try simp [F1] at f19
  have f19l : l17.length * 7 <= (encL l17).length := by rw [encL_length]; simp
  try simp [F1] at f19l
  obtain rfl := sj hs
  have F2 := an F1 (an f19 f19l)
  refine hQ _ _ (ret2g _ (Gh.close _ (.a 0) 7) (by simp [St.frz, St.pur, F2]; rfl) (by first | rfl | (simp [St.frz, St.pur, F2]; done) | (rw [if_pos (by first | omega | (simp; omega))]; simp [St.frz, St.pur, F2]; first | omega | exact List.take_of_length_le (by simp; omega) | skip)) (pv F2))
end Go.Dc
end
section
set_option linter.all false
namespace Go.Dc
open Go Go.Hw Go.Proofs
set_option maxRecDepth 100000
def asm_parser_register (a0_0 : List Token) (a0_1 : Int) : Option (Fault ⊕ (Int × (List Token))) :=
 Option.bind (asm_parser_next a0_0 a0_1 1) (fun y1 => (match y1 with | .inl e3 => some (.inl e3) | .inr y4 => guardO (orB (!(eqI ((y4.1.Text.size : Nat) : Int) 2)) (inB ((0 : Nat) : Int) y4.1.Text.size)) (guardO (orB (!(!(orB (!(eqI ((y4.1.Text.size : Nat) : Int) 2)) (!(eqI (((bget y4.1.Text 0)).toNat : Int) 114))))) (inB ((1 : Nat) : Int) y4.1.Text.size)) (guardO (orB (!(!(orB (orB (!(eqI ((y4.1.Text.size : Nat) : Int) 2)) (!(eqI (((bget y4.1.Text 0)).toNat : Int) 114))) (ltI (((bget y4.1.Text 1)).toNat : Int) 48)))) (inB ((1 : Nat) : Int) y4.1.Text.size)) (cond (orB (orB (orB (!(eqI ((y4.1.Text.size : Nat) : Int) 2)) (!(eqI (((bget y4.1.Text 0)).toNat : Int) 114))) (ltI (((bget y4.1.Text 1)).toNat : Int) 48)) (ltI 55 (((bget y4.1.Text 1)).toNat : Int))) (Option.bind (asm_fail 10 y4.1.At) (fun y9 => some (.inl y9))) (Option.bind (y4.1.Text[1]?) (fun c11 => some (.inr (IntKind.i64.wrap (IntKind.u8.wrap ((c11.toNat : Int) - 48)), y4.2)))))))))
set_option maxHeartbeats 2000000 in
theorem at_asm_parser_register {c0_2 : FC} {c0_3 : FC} {c0_4 : FC} {c0_5 : FC} {c0_6 : FC} {c0_7 : FC} {c0_8 : FC} {c0_9 : FC} {a0_0 : List Token} {a0_1 : Int} {r : Fault ⊕ (Int × (List Token))} (hs : asm_parser_register a0_0 a0_1 = some r) : CAt Tryd.prog 63 [.cell (.ref (.a 0) 0)] [.cells [sC a0_0, nC a0_1, c0_2.ac, c0_3.ac, c0_4.ac, c0_5.ac, c0_6.ac, c0_7.ac, c0_8.ac, c0_9.ac]] (panO panV (fun (r : Int × (List Token)) => iV .i64 r.1) r) (panP (fun (r : Int × (List Token)) => [(.a 0, .cells [sC r.2, nC a0_1, c0_2.ac, c0_3.ac, c0_4.ac, c0_5.ac, c0_6.ac, c0_7.ac, c0_8.ac, c0_9.ac])]) r) := by
 refine at_bound (by kernel_rfl) fun hb => ?_
 refine at_code mixed Tryd.func63 (by kernel_rfl) rfl (by kernel_rfl) rfl fun Q hQ => ?_
 rw [asm_parser_register] at hs
 refine goR f0 ?_
 revert hs; refine bK fun y1 hx2 hs => ?_
 rcases y1 with e3 | y4
 ·try dsimp only at hs
  refine cX f0 (at_asm_parser_next (c0_2 := (c0_2.toF [.a 0])) (c0_3 := (c0_3.toF [.a 0])) (c0_4 := (c0_4.toF [.a 0])) (c0_5 := (c0_5.toF [.a 0])) (c0_6 := (c0_6.toF [.a 0])) (c0_7 := (c0_7.toF [.a 0])) (c0_8 := (c0_8.toF [.a 0])) (c0_9 := (c0_9.toF [.a 0])) hx2) [.a 0] (fun v => ?_)
  obtain rfl := sj hs
  exact hQ _ _ retPan
 ·try dsimp only at hs
  refine cB f0 (at_asm_parser_next (c0_2 := (c0_2.toF [.a 0])) (c0_3 := (c0_3.toF [.a 0])) (c0_4 := (c0_4.toF [.a 0])) (c0_5 := (c0_5.toF [.a 0])) (c0_6 := (c0_6.toF [.a 0])) (c0_7 := (c0_7.toF [.a 0])) (c0_8 := (c0_8.toF [.a 0])) (c0_9 := (c0_9.toF [.a 0])) hx2) [.a 0] ?_
  obtain ⟨g5, hs⟩ := guardO_some hs
  have g5a : (eqI ((y4.1.Text.size : Nat) : Int) 2) = true -> 0 <= ((0 : Nat) : Int) := fun hg => (under_byte g5 hg).1
  have g5c : (eqI ((y4.1.Text.size : Nat) : Int) 2) = true -> y4.1.Text[0]? = some (bget y4.1.Text 0) := fun hg => by simpa using (under_byte g5 hg).2.2
  obtain ⟨g6, hs⟩ := guardO_some hs
  have g6a : (!(orB (!(eqI ((y4.1.Text.size : Nat) : Int) 2)) (!(eqI (((bget y4.1.Text 0)).toNat : Int) 114)))) = true -> 0 <= ((1 : Nat) : Int) := fun hg => (under_byte g6 hg).1
  have g6c : (!(orB (!(eqI ((y4.1.Text.size : Nat) : Int) 2)) (!(eqI (((bget y4.1.Text 0)).toNat : Int) 114)))) = true -> y4.1.Text[1]? = some (bget y4.1.Text 1) := fun hg => by simpa using (under_byte g6 hg).2.2
  obtain ⟨g7, hs⟩ := guardO_some hs
  have g7a : (!(orB (orB (!(eqI ((y4.1.Text.size : Nat) : Int) 2)) (!(eqI (((bget y4.1.Text 0)).toNat : Int) 114))) (ltI (((bget y4.1.Text 1)).toNat : Int) 48))) = true -> 0 <= ((1 : Nat) : Int) := fun hg => (under_byte g7 hg).1
  have g7c : (!(orB (orB (!(eqI ((y4.1.Text.size : Nat) : Int) 2)) (!(eqI (((bget y4.1.Text 0)).toNat : Int) 114))) (ltI (((bget y4.1.Text 1)).toNat : Int) 48))) = true -> y4.1.Text[1]? = some (bget y4.1.Text 1) := fun hg => by simpa using (under_byte g7 hg).2.2
  have F1 := an g5a (an g5c (an g6a (an g6c (an g7a g7c))))
  refine goG F1 F1 ?_
  revert hs; refine cS F1 ?_ ?_ <;> intro h8 hs
  ·refine goG F1 F1 ?_
   revert hs; refine bK fun y9 hx10 hs => ?_
   refine cX F1 (at_asm_fail hx10) [] (fun v => ?_)
   obtain rfl := sj hs
   exact hQ _ _ retPan
  ·revert hs; refine bK fun c11 hx12 hs => ?_
   have hx12b := getB_some hx12
   have hx12g := getB_eq hx12
   have F2 := an F1 (an hx12 hx12g)
   refine goG F2 F2 ?_
   obtain rfl := sj hs
   refine hQ _ _ (ret2g _ (Gh.refl _) (by simp [St.frz, St.pur, F2]; rfl) (by first | rfl | (simp [St.frz, St.pur, F2]; done) | (rw [if_pos (by first | omega | (simp; omega))]; simp [St.frz, St.pur, F2]; first | omega | exact List.take_of_length_le (by simp; omega) | skip)) (pv F2))
end Go.Dc
end
section
set_option linter.all false
namespace Go.Dc
open Go Go.Hw Go.Proofs
set_option maxRecDepth 100000
def value_ByName_L1 (a0 : ByteArray) : Nat -> Int -> Option (Unit ⊕ (Int × Bool))
 | 0, _ => none
 | q60 + 1, i46 => cond (ltI i46 10) (Option.bind (getI namesTab i46) (fun x65 => cond (eqS x65 a0) (some (.inr (IntKind.i64.wrap (1 + i46), true))) (value_ByName_L1 a0 q60 (IntKind.i64.wrap (i46 + 1))))) (some (.inl ()))
def value_ByName (fuelN : Nat) (a0 : ByteArray) : Option (Int × Bool) :=
 Option.bind (α := Unit ⊕ (Int × Bool)) (Option.bind (value_ByName_L1 a0 fuelN 0) (fun o => match o with | .inl _ => some (.inl ()) | .inr r70 => some (.inr r70))) (fun o => match o with | .inl _ => some (0, false) | .inr r71 => some r71)
set_option maxHeartbeats 2000000 in
theorem at_value_ByName {fuelN : Nat} {a0 : ByteArray} {r : Int × Bool} (hs : value_ByName fuelN a0 = some r) : At Tryd.prog 72 [sV a0] (.tup [iV .i64 r.1, bV r.2]) := by
 refine at_bound (by kernel_rfl) fun hb => ?_
 refine at_code mixed Tryd.func72 (by kernel_rfl) rfl (by kernel_rfl) rfl fun Q hQ => ?_
 rw [value_ByName] at hs
 refine goR2 f0 ?_
 revert hs; refine bK fun o35 e34 hs => ?_
 refine awp_cutK (fun (v : Unit) (σ : St) => some (.inl v) = some o35 /\ 2 <= σ.gen) (by rfl) (fun Q hK36 hX37 => ?_) (fun v σ3 hp => ?_)
 ·refine goR f0 ?_
  revert e34; refine bK fun o55 e54 e34 => ?_
  refine awp_loopW (fun (v : Nat × Int) (σ : St) => value_ByName_L1 a0 v.1 v.2 = some o55 /\ σ.env 0 = sV a0 /\ σ.env 5 = iV .i64 v.2 /\ 2 <= σ.gen) (fun v => v.1) _ (Gh.refl _) (fuelN, 0) ⟨e54, pv f0, pv f0, pg⟩ fun v σ6 hp L56 hL57 => ?_
  obtain ⟨q59, i46⟩ := v
  dsimp only at hp hL57
  obtain ⟨e54, h5_0, h5_5, n5_g⟩ := hp
  rcases q59 with _ | q60
  ·rw [value_ByName_L1] at e54; cases e54
  ·rw [value_ByName_L1] at e54; try dsimp only at e54
   have F1 := an h5_0 h5_5
   refine goR F1 ?_
   revert e54; refine cS F1 ?_ ?_ <;> intro h64 e54
   ·revert e54; refine bK fun x65 hx66 e54 => ?_
    obtain ⟨hx66a, hx66b, hx66c, hx66d⟩ := getI_some hx66
    have t67L : namesTab.length = 10 := rfl
    have f68 : partCV Tryd.prog 9 (encL namesTab) ((i46).toNat) = some (sV x65) := partCV_enc1 hx66d (by simp)
    have F2 := an F1 f68
    refine goR F2 ?_
    revert e54; refine cS F2 ?_ ?_ <;> intro h69 e54
    ·refine goR F2 ?_
     obtain rfl := sj e54
     try dsimp only at e34
     obtain rfl := sj e34
     try dsimp only at hs
     refine hX37 _ _ (by simp) ?_
     refine goR F2 ?_
     obtain rfl := sj hs
     exact hQ _ _ (rg F2 (Gh.refl _))
    ·refine goR F2 ?_
     exact hL57 (q60, IntKind.i64.wrap (i46 + 1)) _ _ (Gh.refl _) ⟨e54, pv F2, pv F2, pg⟩ (by omega)
   ·refine goR F1 ?_
    obtain rfl := sj e54
    try dsimp only at e34
    exact hK36 () _ _ (Gh.refl _) ⟨e34, pg⟩
 ·obtain ⟨e34, n4_g⟩ := hp
  obtain rfl := sj e34
  try dsimp only at hs
  refine goR f0 ?_
  obtain rfl := sj hs
  exact hQ _ _ (rg f0 (Gh.refl _))
end Go.Dc
end
section
set_option linter.all false
namespace Go.Dc
open Go Go.Hw Go.Proofs
set_option maxRecDepth 100000
def asm_parser_function (fuelN : Nat) (a0_0 : List Token) (a0_1 : Int) : Option (Fault ⊕ (Int × (List Token))) :=
 Option.bind (asm_parser_next a0_0 a0_1 1) (fun y1 => (match y1 with | .inl e3 => some (.inl e3) | .inr y4 => Option.bind (value_ByName fuelN y4.1.Text) (fun y5 => cond (!y5.2) (Option.bind (asm_fail 8 y4.1.At) (fun y8 => some (.inl y8))) (some (.inr (y5.1, y4.2))))))
set_option maxHeartbeats 2000000 in
theorem at_asm_parser_function {fuelN : Nat} {c0_2 : FC} {c0_3 : FC} {c0_4 : FC} {c0_5 : FC} {c0_6 : FC} {c0_7 : FC} {c0_8 : FC} {c0_9 : FC} {a0_0 : List Token} {a0_1 : Int} {r : Fault ⊕ (Int × (List Token))} (hs : asm_parser_function fuelN a0_0 a0_1 = some r) : CAt Tryd.prog 64 [.cell (.ref (.a 0) 0)] [.cells [sC a0_0, nC a0_1, c0_2.ac, c0_3.ac, c0_4.ac, c0_5.ac, c0_6.ac, c0_7.ac, c0_8.ac, c0_9.ac]] (panO panV (fun (r : Int × (List Token)) => iV .i64 r.1) r) (panP (fun (r : Int × (List Token)) => [(.a 0, .cells [sC r.2, nC a0_1, c0_2.ac, c0_3.ac, c0_4.ac, c0_5.ac, c0_6.ac, c0_7.ac, c0_8.ac, c0_9.ac])]) r) := by
 refine at_bound (by kernel_rfl) fun hb => ?_
 refine at_code mixed Tryd.func64 (by kernel_rfl) rfl (by kernel_rfl) rfl fun Q hQ => ?_
 rw [asm_parser_function] at hs
 refine goR f0 ?_
 revert hs; refine bK fun y1 hx2 hs => ?_
 rcases y1 with e3 | y4
 ·try dsimp only at hs
  refine cX f0 (at_asm_parser_next (c0_2 := (c0_2.toF [.a 0])) (c0_3 := (c0_3.toF [.a 0])) (c0_4 := (c0_4.toF [.a 0])) (c0_5 := (c0_5.toF [.a 0])) (c0_6 := (c0_6.toF [.a 0])) (c0_7 := (c0_7.toF [.a 0])) (c0_8 := (c0_8.toF [.a 0])) (c0_9 := (c0_9.toF [.a 0])) hx2) [.a 0] (fun v => ?_)
  obtain rfl := sj hs
  exact hQ _ _ retPan
 ·try dsimp only at hs
  refine cB f0 (at_asm_parser_next (c0_2 := (c0_2.toF [.a 0])) (c0_3 := (c0_3.toF [.a 0])) (c0_4 := (c0_4.toF [.a 0])) (c0_5 := (c0_5.toF [.a 0])) (c0_6 := (c0_6.toF [.a 0])) (c0_7 := (c0_7.toF [.a 0])) (c0_8 := (c0_8.toF [.a 0])) (c0_9 := (c0_9.toF [.a 0])) hx2) [.a 0] ?_
  refine goR f0 ?_
  revert hs; refine bK fun y5 hx6 hs => ?_
  refine cP f0 (at_value_ByName hx6) ?_
  refine goR f0 ?_
  revert hs; refine cS f0 ?_ ?_ <;> intro h7 hs
  ·refine goR f0 ?_
   revert hs; refine bK fun y8 hx9 hs => ?_
   refine cX f0 (at_asm_fail hx9) [] (fun v => ?_)
   obtain rfl := sj hs
   exact hQ _ _ retPan
  ·refine goR f0 ?_
   obtain rfl := sj hs
   refine hQ _ _ (ret2g _ (Gh.refl _) (by simp [St.frz, St.pur]; rfl) (by first | rfl | (simp [St.frz, St.pur]; done) | (rw [if_pos (by first | omega | (simp; omega))]; simp [St.frz, St.pur]; first | omega | exact List.take_of_length_le (by simp; omega) | skip)) (pv f0))
end Go.Dc
end
section
set_option linter.all false
namespace Go.Dc
open Go Go.Hw Go.Proofs
set_option maxRecDepth 100000
def inst_ByOrderName_L1 (a0 : ByteArray) : Nat -> Int -> Option (Unit ⊕ (Int × Bool))
 | 0, _ => none
 | q60 + 1, i46 => cond (ltI i46 3) (Option.bind (getI ordersTab i46) (fun x65 => cond (eqS x65 a0) (some (.inr (i46, true))) (inst_ByOrderName_L1 a0 q60 (IntKind.i64.wrap (i46 + 1))))) (some (.inl ()))
def inst_ByOrderName (fuelN : Nat) (a0 : ByteArray) : Option (Int × Bool) :=
 Option.bind (α := Unit ⊕ (Int × Bool)) (Option.bind (inst_ByOrderName_L1 a0 fuelN 0) (fun o => match o with | .inl _ => some (.inl ()) | .inr r70 => some (.inr r70))) (fun o => match o with | .inl _ => some (0, false) | .inr r71 => some r71)
set_option maxHeartbeats 2000000 in
theorem at_inst_ByOrderName {fuelN : Nat} {a0 : ByteArray} {r : Int × Bool} (hs : inst_ByOrderName fuelN a0 = some r) : At Tryd.prog 73 [sV a0] (.tup [iV .i64 r.1, bV r.2]) := by
 refine at_bound (by kernel_rfl) fun hb => ?_
 refine at_code mixed Tryd.func73 (by kernel_rfl) rfl (by kernel_rfl) rfl fun Q hQ => ?_
 rw [inst_ByOrderName] at hs
 refine goR2 f0 ?_
 revert hs; refine bK fun o35 e34 hs => ?_
 refine awp_cutK (fun (v : Unit) (σ : St) => some (.inl v) = some o35 /\ 2 <= σ.gen) (by rfl) (fun Q hK36 hX37 => ?_) (fun v σ3 hp => ?_)
 ·refine goR f0 ?_
  revert e34; refine bK fun o55 e54 e34 => ?_
  refine awp_loopW (fun (v : Nat × Int) (σ : St) => inst_ByOrderName_L1 a0 v.1 v.2 = some o55 /\ σ.env 0 = sV a0 /\ σ.env 5 = iV .i64 v.2 /\ 2 <= σ.gen) (fun v => v.1) _ (Gh.refl _) (fuelN, 0) ⟨e54, pv f0, pv f0, pg⟩ fun v σ6 hp L56 hL57 => ?_
  obtain ⟨q59, i46⟩ := v
  dsimp only at hp hL57
  obtain ⟨e54, h5_0, h5_5, n5_g⟩ := hp
  rcases q59 with _ | q60
  ·rw [inst_ByOrderName_L1] at e54; cases e54
  ·rw [inst_ByOrderName_L1] at e54; try dsimp only at e54
   have F1 := an h5_0 h5_5
   refine goR F1 ?_
   revert e54; refine cS F1 ?_ ?_ <;> intro h64 e54
   ·revert e54; refine bK fun x65 hx66 e54 => ?_
    obtain ⟨hx66a, hx66b, hx66c, hx66d⟩ := getI_some hx66
    have t67L : ordersTab.length = 3 := rfl
    have f68 : partCV Tryd.prog 9 (encL ordersTab) ((i46).toNat) = some (sV x65) := partCV_enc1 hx66d (by simp)
    have F2 := an F1 f68
    refine goR F2 ?_
    revert e54; refine cS F2 ?_ ?_ <;> intro h69 e54
    ·refine goR F2 ?_
     obtain rfl := sj e54
     try dsimp only at e34
     obtain rfl := sj e34
     try dsimp only at hs
     refine hX37 _ _ (by simp) ?_
     refine goR F2 ?_
     obtain rfl := sj hs
     exact hQ _ _ (rg F2 (Gh.refl _))
    ·refine goR F2 ?_
     exact hL57 (q60, IntKind.i64.wrap (i46 + 1)) _ _ (Gh.refl _) ⟨e54, pv F2, pv F2, pg⟩ (by omega)
   ·refine goR F1 ?_
    obtain rfl := sj e54
    try dsimp only at e34
    exact hK36 () _ _ (Gh.refl _) ⟨e34, pg⟩
 ·obtain ⟨e34, n4_g⟩ := hp
  obtain rfl := sj e34
  try dsimp only at hs
  refine goR f0 ?_
  obtain rfl := sj hs
  exact hQ _ _ (rg f0 (Gh.refl _))
end Go.Dc
end
section
set_option linter.all false
namespace Go.Dc
open Go Go.Hw Go.Proofs
set_option maxRecDepth 100000
def asm_parser_order (fuelN : Nat) (a0_0 : List Token) (a0_1 : Int) : Option (Fault ⊕ (Int × (List Token))) :=
 Option.bind (asm_parser_next a0_0 a0_1 1) (fun y1 => (match y1 with | .inl e3 => some (.inl e3) | .inr y4 => Option.bind (inst_ByOrderName fuelN y4.1.Text) (fun y5 => cond (!y5.2) (Option.bind (asm_fail 13 y4.1.At) (fun y8 => some (.inl y8))) (some (.inr (y5.1, y4.2))))))
set_option maxHeartbeats 2000000 in
theorem at_asm_parser_order {fuelN : Nat} {c0_2 : FC} {c0_3 : FC} {c0_4 : FC} {c0_5 : FC} {c0_6 : FC} {c0_7 : FC} {c0_8 : FC} {c0_9 : FC} {a0_0 : List Token} {a0_1 : Int} {r : Fault ⊕ (Int × (List Token))} (hs : asm_parser_order fuelN a0_0 a0_1 = some r) : CAt Tryd.prog 65 [.cell (.ref (.a 0) 0)] [.cells [sC a0_0, nC a0_1, c0_2.ac, c0_3.ac, c0_4.ac, c0_5.ac, c0_6.ac, c0_7.ac, c0_8.ac, c0_9.ac]] (panO panV (fun (r : Int × (List Token)) => iV .i64 r.1) r) (panP (fun (r : Int × (List Token)) => [(.a 0, .cells [sC r.2, nC a0_1, c0_2.ac, c0_3.ac, c0_4.ac, c0_5.ac, c0_6.ac, c0_7.ac, c0_8.ac, c0_9.ac])]) r) := by
 refine at_bound (by kernel_rfl) fun hb => ?_
 refine at_code mixed Tryd.func65 (by kernel_rfl) rfl (by kernel_rfl) rfl fun Q hQ => ?_
 rw [asm_parser_order] at hs
 refine goR f0 ?_
 revert hs; refine bK fun y1 hx2 hs => ?_
 rcases y1 with e3 | y4
 ·try dsimp only at hs
  refine cX f0 (at_asm_parser_next (c0_2 := (c0_2.toF [.a 0])) (c0_3 := (c0_3.toF [.a 0])) (c0_4 := (c0_4.toF [.a 0])) (c0_5 := (c0_5.toF [.a 0])) (c0_6 := (c0_6.toF [.a 0])) (c0_7 := (c0_7.toF [.a 0])) (c0_8 := (c0_8.toF [.a 0])) (c0_9 := (c0_9.toF [.a 0])) hx2) [.a 0] (fun v => ?_)
  obtain rfl := sj hs
  exact hQ _ _ retPan
 ·try dsimp only at hs
  refine cB f0 (at_asm_parser_next (c0_2 := (c0_2.toF [.a 0])) (c0_3 := (c0_3.toF [.a 0])) (c0_4 := (c0_4.toF [.a 0])) (c0_5 := (c0_5.toF [.a 0])) (c0_6 := (c0_6.toF [.a 0])) (c0_7 := (c0_7.toF [.a 0])) (c0_8 := (c0_8.toF [.a 0])) (c0_9 := (c0_9.toF [.a 0])) hx2) [.a 0] ?_
  refine goR f0 ?_
  revert hs; refine bK fun y5 hx6 hs => ?_
  refine cP f0 (at_inst_ByOrderName hx6) ?_
  refine goR f0 ?_
  revert hs; refine cS f0 ?_ ?_ <;> intro h7 hs
  ·refine goR f0 ?_
   revert hs; refine bK fun y8 hx9 hs => ?_
   refine cX f0 (at_asm_fail hx9) [] (fun v => ?_)
   obtain rfl := sj hs
   exact hQ _ _ retPan
  ·refine goR f0 ?_
   obtain rfl := sj hs
   refine hQ _ _ (ret2g _ (Gh.refl _) (by simp [St.frz, St.pur]; rfl) (by first | rfl | (simp [St.frz, St.pur]; done) | (rw [if_pos (by first | omega | (simp; omega))]; simp [St.frz, St.pur]; first | omega | exact List.take_of_length_le (by simp; omega) | skip)) (pv f0))
end Go.Dc
end
section
set_option linter.all false
namespace Go.Dc
open Go Go.Hw Go.Proofs
set_option maxRecDepth 100000
def asm_parser_access (fuelN : Nat) (a0_0 : List Token) (a0_1 : Int) (a0_7 : List AsmName) (a1 : Inst) (a2 : Int) (a3 : Int) : Option (Fault ⊕ ((List Token) × (List AsmName) × Inst)) :=
 Option.bind (α := ((List Token) × (List AsmName) × Int) ⊕ Fault) (cond (!(eqI a1.Op 9)) (Option.bind (asm_parser_register a0_0 a0_1) (fun y15 => (match y15 with | .inl e17 => some (.inr e17) | .inr y18 => some (.inl (y18.2, a0_7, y18.1))))) (some (.inl (a0_0, a0_7, a1.A)))) (fun o => match o with | .inl (l6, l7, i9) => Option.bind (asm_parser_object l6 a0_1 l7 (⟨#[118, 97, 114]⟩ : ByteArray) a2 a3) (fun y19 => (match y19 with | .inl e21 => some (.inl e21) | .inr y22 => Option.bind (α := ((List Token) × (List AsmName) × Int) ⊕ Fault) (cond (eqI a1.Op 14) (Option.bind (asm_parser_function fuelN y22.1 a0_1) (fun y36 => (match y36 with | .inl e38 => some (.inr e38) | .inr y39 => some (.inl (y39.2, y22.2, y39.1))))) (some (.inl (y22.1, y22.2, a1.Fn)))) (fun o => match o with | .inl (l28, l29, i30) => Option.bind (α := ((List Token) × (List AsmName) × Int) ⊕ Fault) (cond (!(eqI a1.Op 8)) (Option.bind (asm_parser_register l28 a0_1) (fun y53 => (match y53 with | .inl e55 => some (.inr e55) | .inr y56 => some (.inl (y56.2, l29, y56.1))))) (some (.inl (l28, l29, a1.B)))) (fun o => match o with | .inl (l45, l46, i47) => cond (eqI a1.Op 12) (Option.bind (asm_parser_register l45 a0_1) (fun y58 => (match y58 with | .inl e60 => some (.inl e60) | .inr y61 => Option.bind (asm_parser_order fuelN y61.2 a0_1) (fun y62 => (match y62 with | .inl e64 => some (.inl e64) | .inr y65 => some (.inr (y65.2, l46, ({ Op := a1.Op, A := i9, B := i47, C := y61.1, Obj := a1.Obj, N := a1.N, Fn := i30, Order := y65.1 } : Inst)))))))) (Option.bind (asm_parser_order fuelN l45 a0_1) (fun y66 => (match y66 with | .inl e68 => some (.inl e68) | .inr y69 => some (.inr (y69.2, l46, { a1 with A := i9, B := i47, Fn := i30, Order := y69.1 }))))) | .inr e70 => some (.inl e70)) | .inr e71 => some (.inl e71)))) | .inr e72 => some (.inl e72))
set_option maxHeartbeats 2000000 in
theorem at_asm_parser_access {fuelN : Nat} {c0_2 : FC} {c0_3 : FC} {c0_4 : FC} {c0_5 : FC} {c0_6 : FC} {c0_8 : FC} {c0_9 : FC} {a0_0 : List Token} {a0_1 : Int} {a0_7 : List AsmName} {a1 : Inst} {a2 : Int} {a3 : Int} {r : Fault ⊕ ((List Token) × (List AsmName) × Inst)} (hs : asm_parser_access fuelN a0_0 a0_1 a0_7 a1 a2 a3 = some r) : CAt Tryd.prog 52 [.cell (.ref (.a 0) 0), .cell (.ref (.a 1) 0), iV .i64 a2, iV .i64 a3] [.cells [sC a0_0, nC a0_1, c0_2.ac, c0_3.ac, c0_4.ac, c0_5.ac, c0_6.ac, .own (.sp 7 a0_7.length (encL a0_7)), c0_8.ac, c0_9.ac], .cells (eA a1)] (panO panV (fun (r : (List Token) × (List AsmName) × Inst) => .tup []) r) (panP (fun (r : (List Token) × (List AsmName) × Inst) => [(.a 0, .cells [sC r.1, nC a0_1, c0_2.ac, c0_3.ac, c0_4.ac, c0_5.ac, c0_6.ac, .own (.sp 7 r.2.1.length (encL r.2.1)), c0_8.ac, c0_9.ac]), (.a 1, .cells (eA r.2.2))]) r) := by
 refine at_bound (by kernel_rfl) fun hb => ?_
 refine at_code mixed Tryd.func52 (by kernel_rfl) rfl (by kernel_rfl) rfl fun Q hQ => ?_
 rw [asm_parser_access] at hs
 refine goR2 f0 ?_
 revert hs; refine bK fun o11 e10 hs => ?_
 refine awp_cutK (fun (v : (List Token) × (List AsmName) × Int) (σ : St) => some (.inl v) = some o11 /\ σ.env 0 = .cell (.ref (.a 0) 0) /\ σ.env 1 = .cell (.ref (.a 1) 0) /\ σ.env 2 = iV .i64 a2 /\ σ.env 3 = iV .i64 a3 /\ σ.hp (.a 0) = some (.cells [sC v.1, nC a0_1, c0_2.ac, c0_3.ac, c0_4.ac, c0_5.ac, c0_6.ac, .own (.sp 7 v.2.1.length (encL v.2.1)), c0_8.ac, c0_9.ac]) /\ σ.hp (.a 1) = some (.cells [nC a1.Op, nC v.2.2, nC a1.B, nC a1.C, nC a1.Obj, nC a1.N, nC a1.Fn, nC a1.Order]) /\ 1 <= σ.gen) (by rfl) (fun Q hK12 hX13 => ?_) (fun v σ1 hp => ?_)
 ·refine goR f0 ?_
  revert e10; refine cS f0 ?_ ?_ <;> intro h14 e10
  ·refine goR f0 ?_
   revert e10; refine bK fun y15 hx16 e10 => ?_
   rcases y15 with e17 | y18
   ·try dsimp only at e10
    refine cX f0 (at_asm_parser_register (c0_2 := (c0_2.toF [.a 0])) (c0_3 := (c0_3.toF [.a 0])) (c0_4 := (c0_4.toF [.a 0])) (c0_5 := (c0_5.toF [.a 0])) (c0_6 := (c0_6.toF [.a 0])) (c0_7 := ⟨AC.toF [.a 0] (.own (.sp 7 a0_7.length (encL a0_7))), by simp⟩) (c0_8 := (c0_8.toF [.a 0])) (c0_9 := (c0_9.toF [.a 0])) hx16) [.a 0] (fun v => ?_)
    obtain rfl := sj e10
    try dsimp only at hs
    refine hX13 _ _ (by simp) ?_
    obtain rfl := sj hs
    exact hQ _ _ retPan
   ·try dsimp only at e10
    refine cB f0 (at_asm_parser_register (c0_2 := (c0_2.toF [.a 0])) (c0_3 := (c0_3.toF [.a 0])) (c0_4 := (c0_4.toF [.a 0])) (c0_5 := (c0_5.toF [.a 0])) (c0_6 := (c0_6.toF [.a 0])) (c0_7 := ⟨AC.toF [.a 0] (.own (.sp 7 a0_7.length (encL a0_7))), by simp⟩) (c0_8 := (c0_8.toF [.a 0])) (c0_9 := (c0_9.toF [.a 0])) hx16) [.a 0] ?_
    refine goR f0 ?_
    exact hK12 (y18.2, a0_7, y18.1) _ _ (Gh.refl _) ⟨e10, pv f0, pv f0, pv f0, pv f0, pv f0, pv f0, pg⟩
  ·refine goR f0 ?_
   exact hK12 (a0_0, a0_7, a1.A) _ _ (Gh.refl _) ⟨e10, pv f0, pv f0, pv f0, pv f0, pv f0, pv f0, pg⟩
 ·obtain ⟨l6, l7, i9⟩ := v
  dsimp only at hp
  obtain ⟨e10, h2_0, h2_1, h2_2, h2_3, g2_0, g2_1, n2_g⟩ := hp
  obtain rfl := sj e10
  try dsimp only at hs
  have F1 := an h2_0 (an h2_1 (an h2_2 (an h2_3 (an g2_0 g2_1))))
  refine goR F1 ?_
  revert hs; refine bK fun y19 hx20 hs => ?_
  rcases y19 with e21 | y22
  ·try dsimp only at hs
   refine cX F1 (at_asm_parser_object (c0_2 := (c0_2.toF [.a 0])) (c0_3 := (c0_3.toF [.a 0])) (c0_4 := (c0_4.toF [.a 0])) (c0_5 := (c0_5.toF [.a 0])) (c0_6 := (c0_6.toF [.a 0])) (c0_8 := (c0_8.toF [.a 0])) (c0_9 := (c0_9.toF [.a 0])) hx20) [.a 0] (fun v => ?_)
   obtain rfl := sj hs
   exact hQ _ _ retPan
  ·try dsimp only at hs
   refine cB F1 (at_asm_parser_object (c0_2 := (c0_2.toF [.a 0])) (c0_3 := (c0_3.toF [.a 0])) (c0_4 := (c0_4.toF [.a 0])) (c0_5 := (c0_5.toF [.a 0])) (c0_6 := (c0_6.toF [.a 0])) (c0_8 := (c0_8.toF [.a 0])) (c0_9 := (c0_9.toF [.a 0])) hx20) [.a 0] ?_
   refine goR2 F1 ?_
   revert hs; refine bK fun o32 e31 hs => ?_
   refine awp_cutK (fun (v : (List Token) × (List AsmName) × Int) (σ : St) => some (.inl v) = some o32 /\ σ.env 0 = .cell (.ref (.a 0) 0) /\ σ.env 1 = .cell (.ref (.a 1) 0) /\ σ.hp (.a 0) = some (.cells [sC v.1, nC a0_1, c0_2.ac, c0_3.ac, c0_4.ac, c0_5.ac, c0_6.ac, .own (.sp 7 v.2.1.length (encL v.2.1)), c0_8.ac, c0_9.ac]) /\ σ.hp (.a 1) = some (.cells [nC a1.Op, nC i9, nC a1.B, nC a1.C, nC a1.Obj, nC a1.N, nC v.2.2, nC a1.Order]) /\ (σ1.gen + 2) <= σ.gen) (by rfl) (fun Q hK33 hX34 => ?_) (fun v σ3 hp => ?_)
   ·refine goR F1 ?_
    revert e31; refine cS F1 ?_ ?_ <;> intro h35 e31
    ·refine goR F1 ?_
     revert e31; refine bK fun y36 hx37 e31 => ?_
     rcases y36 with e38 | y39
     ·try dsimp only at e31
      refine cX F1 (at_asm_parser_function (c0_2 := (c0_2.toF [.a 0])) (c0_3 := (c0_3.toF [.a 0])) (c0_4 := (c0_4.toF [.a 0])) (c0_5 := (c0_5.toF [.a 0])) (c0_6 := (c0_6.toF [.a 0])) (c0_7 := ⟨AC.toF [.a 0] (.own (.sp 7 y22.2.length (encL y22.2))), by simp [F1]⟩) (c0_8 := (c0_8.toF [.a 0])) (c0_9 := (c0_9.toF [.a 0])) hx37) [.a 0] (fun v => ?_)
      obtain rfl := sj e31
      try dsimp only at hs
      refine hX34 _ _ (by simp) ?_
      obtain rfl := sj hs
      exact hQ _ _ retPan
     ·try dsimp only at e31
      refine cB F1 (at_asm_parser_function (c0_2 := (c0_2.toF [.a 0])) (c0_3 := (c0_3.toF [.a 0])) (c0_4 := (c0_4.toF [.a 0])) (c0_5 := (c0_5.toF [.a 0])) (c0_6 := (c0_6.toF [.a 0])) (c0_7 := ⟨AC.toF [.a 0] (.own (.sp 7 y22.2.length (encL y22.2))), by simp [F1]⟩) (c0_8 := (c0_8.toF [.a 0])) (c0_9 := (c0_9.toF [.a 0])) hx37) [.a 0] ?_
      refine goR F1 ?_
      exact hK33 (y39.2, y22.2, y39.1) _ _ (Gh.refl _) ⟨e31, pv F1, pv F1, pv F1, pv F1, pg⟩
    ·refine goR F1 ?_
     exact hK33 (y22.1, y22.2, a1.Fn) _ _ (Gh.refl _) ⟨e31, pv F1, pv F1, pv F1, pv F1, pg⟩
   ·obtain ⟨l28, l29, i30⟩ := v
    dsimp only at hp
    obtain ⟨e31, h4_0, h4_1, g4_0, g4_1, n4_g⟩ := hp
    obtain rfl := sj e31
    try dsimp only at hs
    have F2 := an h4_0 (an h4_1 (an g4_0 g4_1))
    refine goR2 F2 ?_
    revert hs; refine bK fun o49 e48 hs => ?_
    refine awp_cutK (fun (v : (List Token) × (List AsmName) × Int) (σ : St) => some (.inl v) = some o49 /\ σ.env 0 = .cell (.ref (.a 0) 0) /\ σ.env 1 = .cell (.ref (.a 1) 0) /\ σ.hp (.a 0) = some (.cells [sC v.1, nC a0_1, c0_2.ac, c0_3.ac, c0_4.ac, c0_5.ac, c0_6.ac, .own (.sp 7 v.2.1.length (encL v.2.1)), c0_8.ac, c0_9.ac]) /\ σ.hp (.a 1) = some (.cells [nC a1.Op, nC i9, nC v.2.2, nC a1.C, nC a1.Obj, nC a1.N, nC i30, nC a1.Order]) /\ (σ3.gen + 1) <= σ.gen) (by rfl) (fun Q hK50 hX51 => ?_) (fun v σ5 hp => ?_)
    ·refine goR F2 ?_
     revert e48; refine cS F2 ?_ ?_ <;> intro h52 e48
     ·refine goR F2 ?_
      revert e48; refine bK fun y53 hx54 e48 => ?_
      rcases y53 with e55 | y56
      ·try dsimp only at e48
       refine cX F2 (at_asm_parser_register (c0_2 := (c0_2.toF [.a 0])) (c0_3 := (c0_3.toF [.a 0])) (c0_4 := (c0_4.toF [.a 0])) (c0_5 := (c0_5.toF [.a 0])) (c0_6 := (c0_6.toF [.a 0])) (c0_7 := ⟨AC.toF [.a 0] (.own (.sp 7 l29.length (encL l29))), by simp [F2]⟩) (c0_8 := (c0_8.toF [.a 0])) (c0_9 := (c0_9.toF [.a 0])) hx54) [.a 0] (fun v => ?_)
       obtain rfl := sj e48
       try dsimp only at hs
       refine hX51 _ _ (by simp) ?_
       obtain rfl := sj hs
       exact hQ _ _ retPan
      ·try dsimp only at e48
       refine cB F2 (at_asm_parser_register (c0_2 := (c0_2.toF [.a 0])) (c0_3 := (c0_3.toF [.a 0])) (c0_4 := (c0_4.toF [.a 0])) (c0_5 := (c0_5.toF [.a 0])) (c0_6 := (c0_6.toF [.a 0])) (c0_7 := ⟨AC.toF [.a 0] (.own (.sp 7 l29.length (encL l29))), by simp [F2]⟩) (c0_8 := (c0_8.toF [.a 0])) (c0_9 := (c0_9.toF [.a 0])) hx54) [.a 0] ?_
       refine goR F2 ?_
       exact hK50 (y56.2, l29, y56.1) _ _ (Gh.refl _) ⟨e48, pv F2, pv F2, pv F2, pv F2, pg⟩
     ·refine goR F2 ?_
      exact hK50 (l28, l29, a1.B) _ _ (Gh.refl _) ⟨e48, pv F2, pv F2, pv F2, pv F2, pg⟩
    ·obtain ⟨l45, l46, i47⟩ := v
     dsimp only at hp
     obtain ⟨e48, h6_0, h6_1, g6_0, g6_1, n6_g⟩ := hp
     obtain rfl := sj e48
     try dsimp only at hs
     have F3 := an h6_0 (an h6_1 (an g6_0 g6_1))
     refine goR F3 ?_
     revert hs; refine cS F3 ?_ ?_ <;> intro h57 hs
     ·refine goR F3 ?_
      revert hs; refine bK fun y58 hx59 hs => ?_
      rcases y58 with e60 | y61
      ·try dsimp only at hs
       refine cX F3 (at_asm_parser_register (c0_2 := (c0_2.toF [.a 0])) (c0_3 := (c0_3.toF [.a 0])) (c0_4 := (c0_4.toF [.a 0])) (c0_5 := (c0_5.toF [.a 0])) (c0_6 := (c0_6.toF [.a 0])) (c0_7 := ⟨AC.toF [.a 0] (.own (.sp 7 l46.length (encL l46))), by simp [F3]⟩) (c0_8 := (c0_8.toF [.a 0])) (c0_9 := (c0_9.toF [.a 0])) hx59) [.a 0] (fun v => ?_)
       obtain rfl := sj hs
       exact hQ _ _ retPan
      ·try dsimp only at hs
       refine cB F3 (at_asm_parser_register (c0_2 := (c0_2.toF [.a 0])) (c0_3 := (c0_3.toF [.a 0])) (c0_4 := (c0_4.toF [.a 0])) (c0_5 := (c0_5.toF [.a 0])) (c0_6 := (c0_6.toF [.a 0])) (c0_7 := ⟨AC.toF [.a 0] (.own (.sp 7 l46.length (encL l46))), by simp [F3]⟩) (c0_8 := (c0_8.toF [.a 0])) (c0_9 := (c0_9.toF [.a 0])) hx59) [.a 0] ?_
       refine goR F3 ?_
       revert hs; refine bK fun y62 hx63 hs => ?_
       rcases y62 with e64 | y65
       ·try dsimp only at hs
        refine cX F3 (at_asm_parser_order (c0_2 := (c0_2.toF [.a 0])) (c0_3 := (c0_3.toF [.a 0])) (c0_4 := (c0_4.toF [.a 0])) (c0_5 := (c0_5.toF [.a 0])) (c0_6 := (c0_6.toF [.a 0])) (c0_7 := ⟨AC.toF [.a 0] (.own (.sp 7 l46.length (encL l46))), by simp [F3]⟩) (c0_8 := (c0_8.toF [.a 0])) (c0_9 := (c0_9.toF [.a 0])) hx63) [.a 0] (fun v => ?_)
        obtain rfl := sj hs
        exact hQ _ _ retPan
       ·try dsimp only at hs
        refine cB F3 (at_asm_parser_order (c0_2 := (c0_2.toF [.a 0])) (c0_3 := (c0_3.toF [.a 0])) (c0_4 := (c0_4.toF [.a 0])) (c0_5 := (c0_5.toF [.a 0])) (c0_6 := (c0_6.toF [.a 0])) (c0_7 := ⟨AC.toF [.a 0] (.own (.sp 7 l46.length (encL l46))), by simp [F3]⟩) (c0_8 := (c0_8.toF [.a 0])) (c0_9 := (c0_9.toF [.a 0])) hx63) [.a 0] ?_
        refine goR F3 ?_
        obtain rfl := sj hs
        refine hQ _ _ (ret2g _ (Gh.refl _) (by simp [St.frz, St.pur, F3]; rfl) (by first | rfl | (simp [St.frz, St.pur, F3]; done) | (rw [if_pos (by first | omega | (simp; omega))]; simp [St.frz, St.pur, F3]; first | omega | exact List.take_of_length_le (by simp; omega) | skip)) (pv F3))
     ·refine goR F3 ?_
      revert hs; refine bK fun y66 hx67 hs => ?_
      rcases y66 with e68 | y69
      ·try dsimp only at hs
       refine cX F3 (at_asm_parser_order (c0_2 := (c0_2.toF [.a 0])) (c0_3 := (c0_3.toF [.a 0])) (c0_4 := (c0_4.toF [.a 0])) (c0_5 := (c0_5.toF [.a 0])) (c0_6 := (c0_6.toF [.a 0])) (c0_7 := ⟨AC.toF [.a 0] (.own (.sp 7 l46.length (encL l46))), by simp [F3]⟩) (c0_8 := (c0_8.toF [.a 0])) (c0_9 := (c0_9.toF [.a 0])) hx67) [.a 0] (fun v => ?_)
       obtain rfl := sj hs
       exact hQ _ _ retPan
      ·try dsimp only at hs
       refine cB F3 (at_asm_parser_order (c0_2 := (c0_2.toF [.a 0])) (c0_3 := (c0_3.toF [.a 0])) (c0_4 := (c0_4.toF [.a 0])) (c0_5 := (c0_5.toF [.a 0])) (c0_6 := (c0_6.toF [.a 0])) (c0_7 := ⟨AC.toF [.a 0] (.own (.sp 7 l46.length (encL l46))), by simp [F3]⟩) (c0_8 := (c0_8.toF [.a 0])) (c0_9 := (c0_9.toF [.a 0])) hx67) [.a 0] ?_
       refine goR F3 ?_
       obtain rfl := sj hs
       refine hQ _ _ (ret2g _ (Gh.refl _) (by simp [St.frz, St.pur, F3]; rfl) (by first | rfl | (simp [St.frz, St.pur, F3]; done) | (rw [if_pos (by first | omega | (simp; omega))]; simp [St.frz, St.pur, F3]; first | omega | exact List.take_of_length_le (by simp; omega) | skip)) (pv F3))
end Go.Dc
end
section
set_option linter.all false
namespace Go.Dc
open Go Go.Hw Go.Proofs
set_option maxRecDepth 100000
def asm_parser_local (fuelN : Nat) (a0_0 : List Token) (a0_1 : Int) (a1 : Inst) : Option (Fault ⊕ ((List Token) × Inst)) :=
 cond (eqI a1.Op 1) (Option.bind (asm_parser_register a0_0 a0_1) (fun y2 => (match y2 with | .inl e4 => some (.inl e4) | .inr y5 => Option.bind (asm_parser_next y5.2 a0_1 2) (fun y6 => (match y6 with | .inl e8 => some (.inl e8) | .inr y9 => some (.inr (y9.2, { a1 with A := y5.1, N := y9.1.N }))))))) (cond (eqI a1.Op 2) (Option.bind (asm_parser_register a0_0 a0_1) (fun y11 => (match y11 with | .inl e13 => some (.inl e13) | .inr y14 => Option.bind (asm_parser_register y14.2 a0_1) (fun y15 => (match y15 with | .inl e17 => some (.inl e17) | .inr y18 => some (.inr (y18.2, { a1 with A := y14.1, B := y18.1 }))))))) (cond (eqI a1.Op 3) (Option.bind (asm_parser_function fuelN a0_0 a0_1) (fun y20 => (match y20 with | .inl e22 => some (.inl e22) | .inr y23 => Option.bind (asm_parser_register y23.2 a0_1) (fun y24 => (match y24 with | .inl e26 => some (.inl e26) | .inr y27 => Option.bind (asm_parser_register y27.2 a0_1) (fun y28 => (match y28 with | .inl e30 => some (.inl e30) | .inr y31 => Option.bind (asm_parser_register y31.2 a0_1) (fun y32 => (match y32 with | .inl e34 => some (.inl e34) | .inr y35 => some (.inr (y35.2, { a1 with A := y27.1, B := y31.1, C := y35.1, Fn := y23.1 }))))))))))) (cond (eqI a1.Op 4) (Option.bind (asm_parser_next a0_0 a0_1 2) (fun y37 => (match y37 with | .inl e39 => some (.inl e39) | .inr y40 => some (.inr (y40.2, { a1 with N := y40.1.N }))))) (cond (eqI a1.Op 5) (Option.bind (asm_parser_register a0_0 a0_1) (fun y42 => (match y42 with | .inl e44 => some (.inl e44) | .inr y45 => Option.bind (asm_parser_next y45.2 a0_1 2) (fun y46 => (match y46 with | .inl e48 => some (.inl e48) | .inr y49 => some (.inr (y49.2, { a1 with B := y45.1, N := y49.1.N }))))))) (cond (eqI a1.Op 6) (Option.bind (asm_parser_register a0_0 a0_1) (fun y51 => (match y51 with | .inl e53 => some (.inl e53) | .inr y54 => some (.inr (y54.2, { a1 with B := y54.1 }))))) (some (.inr (a0_0, a1))))))))
set_option maxHeartbeats 2000000 in
theorem at_asm_parser_local {fuelN : Nat} {c0_2 : FC} {c0_3 : FC} {c0_4 : FC} {c0_5 : FC} {c0_6 : FC} {c0_7 : FC} {c0_8 : FC} {c0_9 : FC} {a0_0 : List Token} {a0_1 : Int} {a1 : Inst} {r : Fault ⊕ ((List Token) × Inst)} (hs : asm_parser_local fuelN a0_0 a0_1 a1 = some r) : CAt Tryd.prog 53 [.cell (.ref (.a 0) 0), .cell (.ref (.a 1) 0)] [.cells [sC a0_0, nC a0_1, c0_2.ac, c0_3.ac, c0_4.ac, c0_5.ac, c0_6.ac, c0_7.ac, c0_8.ac, c0_9.ac], .cells (eA a1)] (panO panV (fun (r : (List Token) × Inst) => .tup []) r) (panP (fun (r : (List Token) × Inst) => [(.a 0, .cells [sC r.1, nC a0_1, c0_2.ac, c0_3.ac, c0_4.ac, c0_5.ac, c0_6.ac, c0_7.ac, c0_8.ac, c0_9.ac]), (.a 1, .cells (eA r.2))]) r) := by
 refine at_bound (by kernel_rfl) fun hb => ?_
 refine at_code mixed Tryd.func53 (by kernel_rfl) rfl (by kernel_rfl) rfl fun Q hQ => ?_
 rw [asm_parser_local] at hs
 refine goR f0 ?_
 revert hs; refine cS f0 ?_ ?_ <;> intro h1 hs
 ·refine goR f0 ?_
  revert hs; refine bK fun y2 hx3 hs => ?_
  rcases y2 with e4 | y5
  ·try dsimp only at hs
   refine cX f0 (at_asm_parser_register (c0_2 := (c0_2.toF [.a 0])) (c0_3 := (c0_3.toF [.a 0])) (c0_4 := (c0_4.toF [.a 0])) (c0_5 := (c0_5.toF [.a 0])) (c0_6 := (c0_6.toF [.a 0])) (c0_7 := (c0_7.toF [.a 0])) (c0_8 := (c0_8.toF [.a 0])) (c0_9 := (c0_9.toF [.a 0])) hx3) [.a 0] (fun v => ?_)
   obtain rfl := sj hs
   exact hQ _ _ retPan
  ·try dsimp only at hs
   refine cB f0 (at_asm_parser_register (c0_2 := (c0_2.toF [.a 0])) (c0_3 := (c0_3.toF [.a 0])) (c0_4 := (c0_4.toF [.a 0])) (c0_5 := (c0_5.toF [.a 0])) (c0_6 := (c0_6.toF [.a 0])) (c0_7 := (c0_7.toF [.a 0])) (c0_8 := (c0_8.toF [.a 0])) (c0_9 := (c0_9.toF [.a 0])) hx3) [.a 0] ?_
   refine goR f0 ?_
   revert hs; refine bK fun y6 hx7 hs => ?_
   rcases y6 with e8 | y9
   ·try dsimp only at hs
    refine cX f0 (at_asm_parser_next (c0_2 := (c0_2.toF [.a 0])) (c0_3 := (c0_3.toF [.a 0])) (c0_4 := (c0_4.toF [.a 0])) (c0_5 := (c0_5.toF [.a 0])) (c0_6 := (c0_6.toF [.a 0])) (c0_7 := (c0_7.toF [.a 0])) (c0_8 := (c0_8.toF [.a 0])) (c0_9 := (c0_9.toF [.a 0])) hx7) [.a 0] (fun v => ?_)
    obtain rfl := sj hs
    exact hQ _ _ retPan
   ·try dsimp only at hs
    refine cB f0 (at_asm_parser_next (c0_2 := (c0_2.toF [.a 0])) (c0_3 := (c0_3.toF [.a 0])) (c0_4 := (c0_4.toF [.a 0])) (c0_5 := (c0_5.toF [.a 0])) (c0_6 := (c0_6.toF [.a 0])) (c0_7 := (c0_7.toF [.a 0])) (c0_8 := (c0_8.toF [.a 0])) (c0_9 := (c0_9.toF [.a 0])) hx7) [.a 0] ?_
    refine goR f0 ?_
    obtain rfl := sj hs
    refine hQ _ _ (ret2g _ (Gh.refl _) (by simp [St.frz, St.pur]; rfl) (by first | rfl | (simp [St.frz, St.pur]; done) | (rw [if_pos (by first | omega | (simp; omega))]; simp [St.frz, St.pur]; first | omega | exact List.take_of_length_le (by simp; omega) | skip)) (pv f0))
 ·refine goR f0 ?_
  revert hs; refine cS f0 ?_ ?_ <;> intro h10 hs
  ·refine goR f0 ?_
   revert hs; refine bK fun y11 hx12 hs => ?_
   rcases y11 with e13 | y14
   ·try dsimp only at hs
    refine cX f0 (at_asm_parser_register (c0_2 := (c0_2.toF [.a 0])) (c0_3 := (c0_3.toF [.a 0])) (c0_4 := (c0_4.toF [.a 0])) (c0_5 := (c0_5.toF [.a 0])) (c0_6 := (c0_6.toF [.a 0])) (c0_7 := (c0_7.toF [.a 0])) (c0_8 := (c0_8.toF [.a 0])) (c0_9 := (c0_9.toF [.a 0])) hx12) [.a 0] (fun v => ?_)
    obtain rfl := sj hs
    exact hQ _ _ retPan
   ·try dsimp only at hs
    refine cB f0 (at_asm_parser_register (c0_2 := (c0_2.toF [.a 0])) (c0_3 := (c0_3.toF [.a 0])) (c0_4 := (c0_4.toF [.a 0])) (c0_5 := (c0_5.toF [.a 0])) (c0_6 := (c0_6.toF [.a 0])) (c0_7 := (c0_7.toF [.a 0])) (c0_8 := (c0_8.toF [.a 0])) (c0_9 := (c0_9.toF [.a 0])) hx12) [.a 0] ?_
    refine goR f0 ?_
    revert hs; refine bK fun y15 hx16 hs => ?_
    rcases y15 with e17 | y18
    ·try dsimp only at hs
     refine cX f0 (at_asm_parser_register (c0_2 := (c0_2.toF [.a 0])) (c0_3 := (c0_3.toF [.a 0])) (c0_4 := (c0_4.toF [.a 0])) (c0_5 := (c0_5.toF [.a 0])) (c0_6 := (c0_6.toF [.a 0])) (c0_7 := (c0_7.toF [.a 0])) (c0_8 := (c0_8.toF [.a 0])) (c0_9 := (c0_9.toF [.a 0])) hx16) [.a 0] (fun v => ?_)
     obtain rfl := sj hs
     exact hQ _ _ retPan
    ·try dsimp only at hs
     refine cB f0 (at_asm_parser_register (c0_2 := (c0_2.toF [.a 0])) (c0_3 := (c0_3.toF [.a 0])) (c0_4 := (c0_4.toF [.a 0])) (c0_5 := (c0_5.toF [.a 0])) (c0_6 := (c0_6.toF [.a 0])) (c0_7 := (c0_7.toF [.a 0])) (c0_8 := (c0_8.toF [.a 0])) (c0_9 := (c0_9.toF [.a 0])) hx16) [.a 0] ?_
     refine goR f0 ?_
     obtain rfl := sj hs
     refine hQ _ _ (ret2g _ (Gh.refl _) (by simp [St.frz, St.pur]; rfl) (by first | rfl | (simp [St.frz, St.pur]; done) | (rw [if_pos (by first | omega | (simp; omega))]; simp [St.frz, St.pur]; first | omega | exact List.take_of_length_le (by simp; omega) | skip)) (pv f0))
  ·refine goR f0 ?_
   revert hs; refine cS f0 ?_ ?_ <;> intro h19 hs
   ·refine goR f0 ?_
    revert hs; refine bK fun y20 hx21 hs => ?_
    rcases y20 with e22 | y23
    ·try dsimp only at hs
     refine cX f0 (at_asm_parser_function (c0_2 := (c0_2.toF [.a 0])) (c0_3 := (c0_3.toF [.a 0])) (c0_4 := (c0_4.toF [.a 0])) (c0_5 := (c0_5.toF [.a 0])) (c0_6 := (c0_6.toF [.a 0])) (c0_7 := (c0_7.toF [.a 0])) (c0_8 := (c0_8.toF [.a 0])) (c0_9 := (c0_9.toF [.a 0])) hx21) [.a 0] (fun v => ?_)
     obtain rfl := sj hs
     exact hQ _ _ retPan
    ·try dsimp only at hs
     refine cB f0 (at_asm_parser_function (c0_2 := (c0_2.toF [.a 0])) (c0_3 := (c0_3.toF [.a 0])) (c0_4 := (c0_4.toF [.a 0])) (c0_5 := (c0_5.toF [.a 0])) (c0_6 := (c0_6.toF [.a 0])) (c0_7 := (c0_7.toF [.a 0])) (c0_8 := (c0_8.toF [.a 0])) (c0_9 := (c0_9.toF [.a 0])) hx21) [.a 0] ?_
     refine goR f0 ?_
     revert hs; refine bK fun y24 hx25 hs => ?_
     rcases y24 with e26 | y27
     ·try dsimp only at hs
      refine cX f0 (at_asm_parser_register (c0_2 := (c0_2.toF [.a 0])) (c0_3 := (c0_3.toF [.a 0])) (c0_4 := (c0_4.toF [.a 0])) (c0_5 := (c0_5.toF [.a 0])) (c0_6 := (c0_6.toF [.a 0])) (c0_7 := (c0_7.toF [.a 0])) (c0_8 := (c0_8.toF [.a 0])) (c0_9 := (c0_9.toF [.a 0])) hx25) [.a 0] (fun v => ?_)
      obtain rfl := sj hs
      exact hQ _ _ retPan
     ·try dsimp only at hs
      refine cB f0 (at_asm_parser_register (c0_2 := (c0_2.toF [.a 0])) (c0_3 := (c0_3.toF [.a 0])) (c0_4 := (c0_4.toF [.a 0])) (c0_5 := (c0_5.toF [.a 0])) (c0_6 := (c0_6.toF [.a 0])) (c0_7 := (c0_7.toF [.a 0])) (c0_8 := (c0_8.toF [.a 0])) (c0_9 := (c0_9.toF [.a 0])) hx25) [.a 0] ?_
      refine goR f0 ?_
      revert hs; refine bK fun y28 hx29 hs => ?_
      rcases y28 with e30 | y31
      ·try dsimp only at hs
       refine cX f0 (at_asm_parser_register (c0_2 := (c0_2.toF [.a 0])) (c0_3 := (c0_3.toF [.a 0])) (c0_4 := (c0_4.toF [.a 0])) (c0_5 := (c0_5.toF [.a 0])) (c0_6 := (c0_6.toF [.a 0])) (c0_7 := (c0_7.toF [.a 0])) (c0_8 := (c0_8.toF [.a 0])) (c0_9 := (c0_9.toF [.a 0])) hx29) [.a 0] (fun v => ?_)
       obtain rfl := sj hs
       exact hQ _ _ retPan
      ·try dsimp only at hs
       refine cB f0 (at_asm_parser_register (c0_2 := (c0_2.toF [.a 0])) (c0_3 := (c0_3.toF [.a 0])) (c0_4 := (c0_4.toF [.a 0])) (c0_5 := (c0_5.toF [.a 0])) (c0_6 := (c0_6.toF [.a 0])) (c0_7 := (c0_7.toF [.a 0])) (c0_8 := (c0_8.toF [.a 0])) (c0_9 := (c0_9.toF [.a 0])) hx29) [.a 0] ?_
       refine goR f0 ?_
       revert hs; refine bK fun y32 hx33 hs => ?_
       rcases y32 with e34 | y35
       ·try dsimp only at hs
        refine cX f0 (at_asm_parser_register (c0_2 := (c0_2.toF [.a 0])) (c0_3 := (c0_3.toF [.a 0])) (c0_4 := (c0_4.toF [.a 0])) (c0_5 := (c0_5.toF [.a 0])) (c0_6 := (c0_6.toF [.a 0])) (c0_7 := (c0_7.toF [.a 0])) (c0_8 := (c0_8.toF [.a 0])) (c0_9 := (c0_9.toF [.a 0])) hx33) [.a 0] (fun v => ?_)
        obtain rfl := sj hs
        exact hQ _ _ retPan
       ·try dsimp only at hs
        refine cB f0 (at_asm_parser_register (c0_2 := (c0_2.toF [.a 0])) (c0_3 := (c0_3.toF [.a 0])) (c0_4 := (c0_4.toF [.a 0])) (c0_5 := (c0_5.toF [.a 0])) (c0_6 := (c0_6.toF [.a 0])) (c0_7 := (c0_7.toF [.a 0])) (c0_8 := (c0_8.toF [.a 0])) (c0_9 := (c0_9.toF [.a 0])) hx33) [.a 0] ?_
        refine goR f0 ?_
        obtain rfl := sj hs
        refine hQ _ _ (ret2g _ (Gh.refl _) (by simp [St.frz, St.pur]; rfl) (by first | rfl | (simp [St.frz, St.pur]; done) | (rw [if_pos (by first | omega | (simp; omega))]; simp [St.frz, St.pur]; first | omega | exact List.take_of_length_le (by simp; omega) | skip)) (pv f0))
   ·refine goR f0 ?_
    revert hs; refine cS f0 ?_ ?_ <;> intro h36 hs
    ·refine goR f0 ?_
     revert hs; refine bK fun y37 hx38 hs => ?_
     rcases y37 with e39 | y40
     ·try dsimp only at hs
      refine cX f0 (at_asm_parser_next (c0_2 := (c0_2.toF [.a 0])) (c0_3 := (c0_3.toF [.a 0])) (c0_4 := (c0_4.toF [.a 0])) (c0_5 := (c0_5.toF [.a 0])) (c0_6 := (c0_6.toF [.a 0])) (c0_7 := (c0_7.toF [.a 0])) (c0_8 := (c0_8.toF [.a 0])) (c0_9 := (c0_9.toF [.a 0])) hx38) [.a 0] (fun v => ?_)
      obtain rfl := sj hs
      exact hQ _ _ retPan
     ·try dsimp only at hs
      refine cB f0 (at_asm_parser_next (c0_2 := (c0_2.toF [.a 0])) (c0_3 := (c0_3.toF [.a 0])) (c0_4 := (c0_4.toF [.a 0])) (c0_5 := (c0_5.toF [.a 0])) (c0_6 := (c0_6.toF [.a 0])) (c0_7 := (c0_7.toF [.a 0])) (c0_8 := (c0_8.toF [.a 0])) (c0_9 := (c0_9.toF [.a 0])) hx38) [.a 0] ?_
      refine goR f0 ?_
      obtain rfl := sj hs
      refine hQ _ _ (ret2g _ (Gh.refl _) (by simp [St.frz, St.pur]; rfl) (by first | rfl | (simp [St.frz, St.pur]; done) | (rw [if_pos (by first | omega | (simp; omega))]; simp [St.frz, St.pur]; first | omega | exact List.take_of_length_le (by simp; omega) | skip)) (pv f0))
    ·refine goR f0 ?_
     revert hs; refine cS f0 ?_ ?_ <;> intro h41 hs
     ·refine goR f0 ?_
      revert hs; refine bK fun y42 hx43 hs => ?_
      rcases y42 with e44 | y45
      ·try dsimp only at hs
       refine cX f0 (at_asm_parser_register (c0_2 := (c0_2.toF [.a 0])) (c0_3 := (c0_3.toF [.a 0])) (c0_4 := (c0_4.toF [.a 0])) (c0_5 := (c0_5.toF [.a 0])) (c0_6 := (c0_6.toF [.a 0])) (c0_7 := (c0_7.toF [.a 0])) (c0_8 := (c0_8.toF [.a 0])) (c0_9 := (c0_9.toF [.a 0])) hx43) [.a 0] (fun v => ?_)
       obtain rfl := sj hs
       exact hQ _ _ retPan
      ·try dsimp only at hs
       refine cB f0 (at_asm_parser_register (c0_2 := (c0_2.toF [.a 0])) (c0_3 := (c0_3.toF [.a 0])) (c0_4 := (c0_4.toF [.a 0])) (c0_5 := (c0_5.toF [.a 0])) (c0_6 := (c0_6.toF [.a 0])) (c0_7 := (c0_7.toF [.a 0])) (c0_8 := (c0_8.toF [.a 0])) (c0_9 := (c0_9.toF [.a 0])) hx43) [.a 0] ?_
       refine goR f0 ?_
       revert hs; refine bK fun y46 hx47 hs => ?_
       rcases y46 with e48 | y49
       ·try dsimp only at hs
        refine cX f0 (at_asm_parser_next (c0_2 := (c0_2.toF [.a 0])) (c0_3 := (c0_3.toF [.a 0])) (c0_4 := (c0_4.toF [.a 0])) (c0_5 := (c0_5.toF [.a 0])) (c0_6 := (c0_6.toF [.a 0])) (c0_7 := (c0_7.toF [.a 0])) (c0_8 := (c0_8.toF [.a 0])) (c0_9 := (c0_9.toF [.a 0])) hx47) [.a 0] (fun v => ?_)
        obtain rfl := sj hs
        exact hQ _ _ retPan
       ·try dsimp only at hs
        refine cB f0 (at_asm_parser_next (c0_2 := (c0_2.toF [.a 0])) (c0_3 := (c0_3.toF [.a 0])) (c0_4 := (c0_4.toF [.a 0])) (c0_5 := (c0_5.toF [.a 0])) (c0_6 := (c0_6.toF [.a 0])) (c0_7 := (c0_7.toF [.a 0])) (c0_8 := (c0_8.toF [.a 0])) (c0_9 := (c0_9.toF [.a 0])) hx47) [.a 0] ?_
        refine goR f0 ?_
        obtain rfl := sj hs
        refine hQ _ _ (ret2g _ (Gh.refl _) (by simp [St.frz, St.pur]; rfl) (by first | rfl | (simp [St.frz, St.pur]; done) | (rw [if_pos (by first | omega | (simp; omega))]; simp [St.frz, St.pur]; first | omega | exact List.take_of_length_le (by simp; omega) | skip)) (pv f0))
     ·refine goR f0 ?_
      revert hs; refine cS f0 ?_ ?_ <;> intro h50 hs
      ·refine goR f0 ?_
       revert hs; refine bK fun y51 hx52 hs => ?_
       rcases y51 with e53 | y54
       ·try dsimp only at hs
        refine cX f0 (at_asm_parser_register (c0_2 := (c0_2.toF [.a 0])) (c0_3 := (c0_3.toF [.a 0])) (c0_4 := (c0_4.toF [.a 0])) (c0_5 := (c0_5.toF [.a 0])) (c0_6 := (c0_6.toF [.a 0])) (c0_7 := (c0_7.toF [.a 0])) (c0_8 := (c0_8.toF [.a 0])) (c0_9 := (c0_9.toF [.a 0])) hx52) [.a 0] (fun v => ?_)
        obtain rfl := sj hs
        exact hQ _ _ retPan
       ·try dsimp only at hs
        refine cB f0 (at_asm_parser_register (c0_2 := (c0_2.toF [.a 0])) (c0_3 := (c0_3.toF [.a 0])) (c0_4 := (c0_4.toF [.a 0])) (c0_5 := (c0_5.toF [.a 0])) (c0_6 := (c0_6.toF [.a 0])) (c0_7 := (c0_7.toF [.a 0])) (c0_8 := (c0_8.toF [.a 0])) (c0_9 := (c0_9.toF [.a 0])) hx52) [.a 0] ?_
        refine goR f0 ?_
        obtain rfl := sj hs
        refine hQ _ _ (ret2g _ (Gh.refl _) (by simp [St.frz, St.pur]; rfl) (by first | rfl | (simp [St.frz, St.pur]; done) | (rw [if_pos (by first | omega | (simp; omega))]; simp [St.frz, St.pur]; first | omega | exact List.take_of_length_le (by simp; omega) | skip)) (pv f0))
      ·refine goR f0 ?_
       obtain rfl := sj hs
       refine hQ _ _ (ret2g _ (Gh.refl _) (by simp [St.frz, St.pur]; rfl) (by first | rfl | (simp [St.frz, St.pur]; done) | (rw [if_pos (by first | omega | (simp; omega))]; simp [St.frz, St.pur]; first | omega | exact List.take_of_length_le (by simp; omega) | skip)) (pv f0))
end Go.Dc
end
section
set_option linter.all false
namespace Go.Dc
open Go Go.Hw Go.Proofs
set_option maxRecDepth 100000
def asm_parser_other (a0_0 : List Token) (a0_1 : Int) (a0_7 : List AsmName) (a1 : Inst) (a2 : Int) (a3 : Int) : Option (Fault ⊕ ((List Token) × (List AsmName) × Inst)) :=
 Option.bind (α := Bool × (List AsmName)) (cond (eqI a1.Op 15) (some ((eqI a1.Op 15, a0_7))) (some ((eqI a1.Op 16, a0_7)))) (fun o => match o with | (b2, l3) => cond b2 (Option.bind (asm_parser_object a0_0 a0_1 l3 (⟨#[109, 117, 116, 101, 120]⟩ : ByteArray) a2 a3) (fun y10 => (match y10 with | .inl e12 => some (.inl e12) | .inr y13 => some (.inr (y13.1, y13.2, a1))))) (cond (eqI a1.Op 17) (Option.bind (asm_parser_register a0_0 a0_1) (fun y15 => (match y15 with | .inl e17 => some (.inl e17) | .inr y18 => Option.bind (asm_parser_object y18.2 a0_1 l3 (⟨#[109, 117, 116, 101, 120]⟩ : ByteArray) a2 a3) (fun y19 => (match y19 with | .inl e21 => some (.inl e21) | .inr y22 => some (.inr (y22.1, y22.2, { a1 with A := y18.1 }))))))) (cond (eqI a1.Op 18) (Option.bind (asm_parser_object a0_0 a0_1 l3 (⟨#[99, 111, 110, 100]⟩ : ByteArray) a2 a3) (fun y24 => (match y24 with | .inl e26 => some (.inl e26) | .inr y27 => Option.bind (asm_parser_object y27.1 a0_1 y27.2 (⟨#[111, 102, 32, 119, 97, 105, 116]⟩ : ByteArray) a2 a3) (fun y28 => (match y28 with | .inl e30 => some (.inl e30) | .inr y31 => some (.inr (y31.1, y31.2, a1))))))) (Option.bind (α := Bool × (List AsmName)) (cond (eqI a1.Op 19) (some ((eqI a1.Op 19, l3))) (some ((eqI a1.Op 20, l3)))) (fun o => match o with | (b33, l34) => cond b33 (Option.bind (asm_parser_object a0_0 a0_1 l34 (⟨#[99, 111, 110, 100]⟩ : ByteArray) a2 a3) (fun y41 => (match y41 with | .inl e43 => some (.inl e43) | .inr y44 => some (.inr (y44.1, y44.2, a1))))) (cond (eqI a1.Op 21) (Option.bind (asm_parser_register a0_0 a0_1) (fun y46 => (match y46 with | .inl e48 => some (.inl e48) | .inr y49 => Option.bind (asm_parser_object y49.2 a0_1 l34 (⟨#[102, 117, 110, 99]⟩ : ByteArray) a2 a3) (fun y50 => (match y50 with | .inl e52 => some (.inl e52) | .inr y53 => Option.bind (asm_parser_register y53.1 a0_1) (fun y54 => (match y54 with | .inl e56 => some (.inl e56) | .inr y57 => some (.inr (y57.2, y53.2, { a1 with A := y49.1, B := y57.1 }))))))))) (cond (eqI a1.Op 22) (Option.bind (asm_parser_register a0_0 a0_1) (fun y59 => (match y59 with | .inl e61 => some (.inl e61) | .inr y62 => some (.inr (y62.2, l34, { a1 with B := y62.1 }))))) (some (.inr (a0_0, l34, a1))))))))))
set_option maxHeartbeats 2000000 in
theorem at_asm_parser_other {c0_2 : FC} {c0_3 : FC} {c0_4 : FC} {c0_5 : FC} {c0_6 : FC} {c0_8 : FC} {c0_9 : FC} {a0_0 : List Token} {a0_1 : Int} {a0_7 : List AsmName} {a1 : Inst} {a2 : Int} {a3 : Int} {r : Fault ⊕ ((List Token) × (List AsmName) × Inst)} (hs : asm_parser_other a0_0 a0_1 a0_7 a1 a2 a3 = some r) : CAt Tryd.prog 54 [.cell (.ref (.a 0) 0), .cell (.ref (.a 1) 0), iV .i64 a2, iV .i64 a3] [.cells [sC a0_0, nC a0_1, c0_2.ac, c0_3.ac, c0_4.ac, c0_5.ac, c0_6.ac, .own (.sp 7 a0_7.length (encL a0_7)), c0_8.ac, c0_9.ac], .cells (eA a1)] (panO panV (fun (r : (List Token) × (List AsmName) × Inst) => .tup []) r) (panP (fun (r : (List Token) × (List AsmName) × Inst) => [(.a 0, .cells [sC r.1, nC a0_1, c0_2.ac, c0_3.ac, c0_4.ac, c0_5.ac, c0_6.ac, .own (.sp 7 r.2.1.length (encL r.2.1)), c0_8.ac, c0_9.ac]), (.a 1, .cells (eA r.2.2))]) r) := by
 refine at_bound (by kernel_rfl) fun hb => ?_
 refine at_code mixed Tryd.func54 (by kernel_rfl) rfl (by kernel_rfl) rfl fun Q hQ => ?_
 rw [asm_parser_other] at hs
 refine goR2 f0 ?_
 refine awp_block ?_
 refine goR2 f0 ?_
 revert hs; refine bK fun o5 e4 hs => ?_
 refine awp_cut0 (fun (v : Bool × (List AsmName)) (σ : St) => some (v) = some o5 /\ σ.env 0 = .cell (.ref (.a 0) 0) /\ σ.env 1 = .cell (.ref (.a 1) 0) /\ σ.env 2 = iV .i64 a2 /\ σ.env 3 = iV .i64 a3 /\ σ.env 11 = iV .i64 a1.Op /\ σ.env 12 = bV v.1 /\ σ.hp (.a 0) = some (.cells [sC a0_0, nC a0_1, c0_2.ac, c0_3.ac, c0_4.ac, c0_5.ac, c0_6.ac, .own (.sp 7 v.2.length (encL v.2)), c0_8.ac, c0_9.ac]) /\ σ.hp (.a 1) = some (.cells (eA a1)) /\ 2 <= σ.gen) (fun Q hK6 hX7 => ?_) (fun v σ1 hp => ?_)
 ·refine goR f0 ?_
  revert e4; refine cS f0 ?_ ?_ <;> intro h8 e4
  ·refine goR f0 ?_
   exact hK6 (eqI a1.Op 15, a0_7) _ ⟨e4, pv f0, pv f0, pv f0, pv f0, pv f0, pv f0, pv f0, pv f0, pg⟩
  ·refine goR f0 ?_
   exact hK6 (eqI a1.Op 16, a0_7) _ ⟨e4, pv f0, pv f0, pv f0, pv f0, pv f0, pv f0, pv f0, pv f0, pg⟩
 ·obtain ⟨b2, l3⟩ := v
  dsimp only at hp
  obtain ⟨e4, h2_0, h2_1, h2_2, h2_3, h2_11, h2_12, g2_0, g2_1, n2_g⟩ := hp
  obtain rfl := sj e4
  try dsimp only at hs
  have F1 := an h2_0 (an h2_1 (an h2_2 (an h2_3 (an h2_11 (an h2_12 (an g2_0 g2_1))))))
  refine goR F1 ?_
  revert hs; refine cS F1 ?_ ?_ <;> intro h9 hs
  ·refine goR F1 ?_
   revert hs; refine bK fun y10 hx11 hs => ?_
   rcases y10 with e12 | y13
   ·try dsimp only at hs
    refine cX F1 (at_asm_parser_object (c0_2 := (c0_2.toF [.a 0])) (c0_3 := (c0_3.toF [.a 0])) (c0_4 := (c0_4.toF [.a 0])) (c0_5 := (c0_5.toF [.a 0])) (c0_6 := (c0_6.toF [.a 0])) (c0_8 := (c0_8.toF [.a 0])) (c0_9 := (c0_9.toF [.a 0])) hx11) [.a 0] (fun v => ?_)
    obtain rfl := sj hs
    exact hQ _ _ retPan
   ·try dsimp only at hs
    refine cB F1 (at_asm_parser_object (c0_2 := (c0_2.toF [.a 0])) (c0_3 := (c0_3.toF [.a 0])) (c0_4 := (c0_4.toF [.a 0])) (c0_5 := (c0_5.toF [.a 0])) (c0_6 := (c0_6.toF [.a 0])) (c0_8 := (c0_8.toF [.a 0])) (c0_9 := (c0_9.toF [.a 0])) hx11) [.a 0] ?_
    refine goR F1 ?_
    obtain rfl := sj hs
    refine hQ _ _ (ret2g _ (Gh.refl _) (by simp [St.frz, St.pur, F1]; rfl) (by first | rfl | (simp [St.frz, St.pur, F1]; done) | (rw [if_pos (by first | omega | (simp; omega))]; simp [St.frz, St.pur, F1]; first | omega | exact List.take_of_length_le (by simp; omega) | skip)) (pv F1))
  ·refine goR F1 ?_
   revert hs; refine cS F1 ?_ ?_ <;> intro h14 hs
   ·refine goR F1 ?_
    revert hs; refine bK fun y15 hx16 hs => ?_
    rcases y15 with e17 | y18
    ·try dsimp only at hs
     refine cX F1 (at_asm_parser_register (c0_2 := (c0_2.toF [.a 0])) (c0_3 := (c0_3.toF [.a 0])) (c0_4 := (c0_4.toF [.a 0])) (c0_5 := (c0_5.toF [.a 0])) (c0_6 := (c0_6.toF [.a 0])) (c0_7 := ⟨AC.toF [.a 0] (.own (.sp 7 l3.length (encL l3))), by simp [F1]⟩) (c0_8 := (c0_8.toF [.a 0])) (c0_9 := (c0_9.toF [.a 0])) hx16) [.a 0] (fun v => ?_)
     obtain rfl := sj hs
     exact hQ _ _ retPan
    ·try dsimp only at hs
     refine cB F1 (at_asm_parser_register (c0_2 := (c0_2.toF [.a 0])) (c0_3 := (c0_3.toF [.a 0])) (c0_4 := (c0_4.toF [.a 0])) (c0_5 := (c0_5.toF [.a 0])) (c0_6 := (c0_6.toF [.a 0])) (c0_7 := ⟨AC.toF [.a 0] (.own (.sp 7 l3.length (encL l3))), by simp [F1]⟩) (c0_8 := (c0_8.toF [.a 0])) (c0_9 := (c0_9.toF [.a 0])) hx16) [.a 0] ?_
     refine goR F1 ?_
     revert hs; refine bK fun y19 hx20 hs => ?_
     rcases y19 with e21 | y22
     ·try dsimp only at hs
      refine cX F1 (at_asm_parser_object (c0_2 := (c0_2.toF [.a 0])) (c0_3 := (c0_3.toF [.a 0])) (c0_4 := (c0_4.toF [.a 0])) (c0_5 := (c0_5.toF [.a 0])) (c0_6 := (c0_6.toF [.a 0])) (c0_8 := (c0_8.toF [.a 0])) (c0_9 := (c0_9.toF [.a 0])) hx20) [.a 0] (fun v => ?_)
      obtain rfl := sj hs
      exact hQ _ _ retPan
     ·try dsimp only at hs
      refine cB F1 (at_asm_parser_object (c0_2 := (c0_2.toF [.a 0])) (c0_3 := (c0_3.toF [.a 0])) (c0_4 := (c0_4.toF [.a 0])) (c0_5 := (c0_5.toF [.a 0])) (c0_6 := (c0_6.toF [.a 0])) (c0_8 := (c0_8.toF [.a 0])) (c0_9 := (c0_9.toF [.a 0])) hx20) [.a 0] ?_
      refine goR F1 ?_
      obtain rfl := sj hs
      refine hQ _ _ (ret2g _ (Gh.refl _) (by simp [St.frz, St.pur, F1]; rfl) (by first | rfl | (simp [St.frz, St.pur, F1]; done) | (rw [if_pos (by first | omega | (simp; omega))]; simp [St.frz, St.pur, F1]; first | omega | exact List.take_of_length_le (by simp; omega) | skip)) (pv F1))
   ·refine goR F1 ?_
    revert hs; refine cS F1 ?_ ?_ <;> intro h23 hs
    ·refine goR F1 ?_
     revert hs; refine bK fun y24 hx25 hs => ?_
     rcases y24 with e26 | y27
     ·try dsimp only at hs
      refine cX F1 (at_asm_parser_object (c0_2 := (c0_2.toF [.a 0])) (c0_3 := (c0_3.toF [.a 0])) (c0_4 := (c0_4.toF [.a 0])) (c0_5 := (c0_5.toF [.a 0])) (c0_6 := (c0_6.toF [.a 0])) (c0_8 := (c0_8.toF [.a 0])) (c0_9 := (c0_9.toF [.a 0])) hx25) [.a 0] (fun v => ?_)
      obtain rfl := sj hs
      exact hQ _ _ retPan
     ·try dsimp only at hs
      refine cB F1 (at_asm_parser_object (c0_2 := (c0_2.toF [.a 0])) (c0_3 := (c0_3.toF [.a 0])) (c0_4 := (c0_4.toF [.a 0])) (c0_5 := (c0_5.toF [.a 0])) (c0_6 := (c0_6.toF [.a 0])) (c0_8 := (c0_8.toF [.a 0])) (c0_9 := (c0_9.toF [.a 0])) hx25) [.a 0] ?_
      refine goR F1 ?_
      revert hs; refine bK fun y28 hx29 hs => ?_
      rcases y28 with e30 | y31
      ·try dsimp only at hs
       refine cX F1 (at_asm_parser_object (c0_2 := (c0_2.toF [.a 0])) (c0_3 := (c0_3.toF [.a 0])) (c0_4 := (c0_4.toF [.a 0])) (c0_5 := (c0_5.toF [.a 0])) (c0_6 := (c0_6.toF [.a 0])) (c0_8 := (c0_8.toF [.a 0])) (c0_9 := (c0_9.toF [.a 0])) hx29) [.a 0] (fun v => ?_)
       obtain rfl := sj hs
       exact hQ _ _ retPan
      ·try dsimp only at hs
       refine cB F1 (at_asm_parser_object (c0_2 := (c0_2.toF [.a 0])) (c0_3 := (c0_3.toF [.a 0])) (c0_4 := (c0_4.toF [.a 0])) (c0_5 := (c0_5.toF [.a 0])) (c0_6 := (c0_6.toF [.a 0])) (c0_8 := (c0_8.toF [.a 0])) (c0_9 := (c0_9.toF [.a 0])) hx29) [.a 0] ?_
       refine goR F1 ?_
       obtain rfl := sj hs
       refine hQ _ _ (ret2g _ (Gh.refl _) (by simp [St.frz, St.pur, F1]; rfl) (by first | rfl | (simp [St.frz, St.pur, F1]; done) | (rw [if_pos (by first | omega | (simp; omega))]; simp [St.frz, St.pur, F1]; first | omega | exact List.take_of_length_le (by simp; omega) | skip)) (pv F1))
    ·refine goR2 F1 ?_
     revert hs; refine bK fun o36 e35 hs => ?_
     refine awp_cut0 (fun (v : Bool × (List AsmName)) (σ : St) => some (v) = some o36 /\ σ.env 0 = .cell (.ref (.a 0) 0) /\ σ.env 1 = .cell (.ref (.a 1) 0) /\ σ.env 2 = iV .i64 a2 /\ σ.env 3 = iV .i64 a3 /\ σ.env 11 = iV .i64 a1.Op /\ σ.env 40 = bV v.1 /\ σ.hp (.a 0) = some (.cells [sC a0_0, nC a0_1, c0_2.ac, c0_3.ac, c0_4.ac, c0_5.ac, c0_6.ac, .own (.sp 7 v.2.length (encL v.2)), c0_8.ac, c0_9.ac]) /\ σ.hp (.a 1) = some (.cells (eA a1)) /\ (σ1.gen + 3) <= σ.gen) (fun Q hK37 hX38 => ?_) (fun v σ3 hp => ?_)
     ·refine goR F1 ?_
      revert e35; refine cS F1 ?_ ?_ <;> intro h39 e35
      ·refine goR F1 ?_
       exact hK37 (eqI a1.Op 19, l3) _ ⟨e35, pv F1, pv F1, pv F1, pv F1, pv F1, pv F1, pv F1, pv F1, pg⟩
      ·refine goR F1 ?_
       exact hK37 (eqI a1.Op 20, l3) _ ⟨e35, pv F1, pv F1, pv F1, pv F1, pv F1, pv F1, pv F1, pv F1, pg⟩
     ·obtain ⟨b33, l34⟩ := v
      dsimp only at hp
      obtain ⟨e35, h4_0, h4_1, h4_2, h4_3, h4_11, h4_40, g4_0, g4_1, n4_g⟩ := hp
      obtain rfl := sj e35
      try dsimp only at hs
      have F2 := an h4_0 (an h4_1 (an h4_2 (an h4_3 (an h4_11 (an h4_40 (an g4_0 g4_1))))))
      refine goR F2 ?_
      revert hs; refine cS F2 ?_ ?_ <;> intro h40 hs
      ·refine goR F2 ?_
       revert hs; refine bK fun y41 hx42 hs => ?_
       rcases y41 with e43 | y44
       ·try dsimp only at hs
        refine cX F2 (at_asm_parser_object (c0_2 := (c0_2.toF [.a 0])) (c0_3 := (c0_3.toF [.a 0])) (c0_4 := (c0_4.toF [.a 0])) (c0_5 := (c0_5.toF [.a 0])) (c0_6 := (c0_6.toF [.a 0])) (c0_8 := (c0_8.toF [.a 0])) (c0_9 := (c0_9.toF [.a 0])) hx42) [.a 0] (fun v => ?_)
        obtain rfl := sj hs
        exact hQ _ _ retPan
       ·try dsimp only at hs
        refine cB F2 (at_asm_parser_object (c0_2 := (c0_2.toF [.a 0])) (c0_3 := (c0_3.toF [.a 0])) (c0_4 := (c0_4.toF [.a 0])) (c0_5 := (c0_5.toF [.a 0])) (c0_6 := (c0_6.toF [.a 0])) (c0_8 := (c0_8.toF [.a 0])) (c0_9 := (c0_9.toF [.a 0])) hx42) [.a 0] ?_
        refine goR F2 ?_
        obtain rfl := sj hs
        refine hQ _ _ (ret2g _ (Gh.refl _) (by simp [St.frz, St.pur, F2]; rfl) (by first | rfl | (simp [St.frz, St.pur, F2]; done) | (rw [if_pos (by first | omega | (simp; omega))]; simp [St.frz, St.pur, F2]; first | omega | exact List.take_of_length_le (by simp; omega) | skip)) (pv F2))
      ·refine goR F2 ?_
       revert hs; refine cS F2 ?_ ?_ <;> intro h45 hs
       ·refine goR F2 ?_
        revert hs; refine bK fun y46 hx47 hs => ?_
        rcases y46 with e48 | y49
        ·try dsimp only at hs
         refine cX F2 (at_asm_parser_register (c0_2 := (c0_2.toF [.a 0])) (c0_3 := (c0_3.toF [.a 0])) (c0_4 := (c0_4.toF [.a 0])) (c0_5 := (c0_5.toF [.a 0])) (c0_6 := (c0_6.toF [.a 0])) (c0_7 := ⟨AC.toF [.a 0] (.own (.sp 7 l34.length (encL l34))), by simp [F2]⟩) (c0_8 := (c0_8.toF [.a 0])) (c0_9 := (c0_9.toF [.a 0])) hx47) [.a 0] (fun v => ?_)
         obtain rfl := sj hs
         exact hQ _ _ retPan
        ·try dsimp only at hs
         refine cB F2 (at_asm_parser_register (c0_2 := (c0_2.toF [.a 0])) (c0_3 := (c0_3.toF [.a 0])) (c0_4 := (c0_4.toF [.a 0])) (c0_5 := (c0_5.toF [.a 0])) (c0_6 := (c0_6.toF [.a 0])) (c0_7 := ⟨AC.toF [.a 0] (.own (.sp 7 l34.length (encL l34))), by simp [F2]⟩) (c0_8 := (c0_8.toF [.a 0])) (c0_9 := (c0_9.toF [.a 0])) hx47) [.a 0] ?_
         refine goR F2 ?_
         revert hs; refine bK fun y50 hx51 hs => ?_
         rcases y50 with e52 | y53
         ·try dsimp only at hs
          refine cX F2 (at_asm_parser_object (c0_2 := (c0_2.toF [.a 0])) (c0_3 := (c0_3.toF [.a 0])) (c0_4 := (c0_4.toF [.a 0])) (c0_5 := (c0_5.toF [.a 0])) (c0_6 := (c0_6.toF [.a 0])) (c0_8 := (c0_8.toF [.a 0])) (c0_9 := (c0_9.toF [.a 0])) hx51) [.a 0] (fun v => ?_)
          obtain rfl := sj hs
          exact hQ _ _ retPan
         ·try dsimp only at hs
          refine cB F2 (at_asm_parser_object (c0_2 := (c0_2.toF [.a 0])) (c0_3 := (c0_3.toF [.a 0])) (c0_4 := (c0_4.toF [.a 0])) (c0_5 := (c0_5.toF [.a 0])) (c0_6 := (c0_6.toF [.a 0])) (c0_8 := (c0_8.toF [.a 0])) (c0_9 := (c0_9.toF [.a 0])) hx51) [.a 0] ?_
          refine goR F2 ?_
          revert hs; refine bK fun y54 hx55 hs => ?_
          rcases y54 with e56 | y57
          ·try dsimp only at hs
           refine cX F2 (at_asm_parser_register (c0_2 := (c0_2.toF [.a 0])) (c0_3 := (c0_3.toF [.a 0])) (c0_4 := (c0_4.toF [.a 0])) (c0_5 := (c0_5.toF [.a 0])) (c0_6 := (c0_6.toF [.a 0])) (c0_7 := ⟨AC.toF [.a 0] (.own (.sp 7 y53.2.length (encL y53.2))), by simp [F2]⟩) (c0_8 := (c0_8.toF [.a 0])) (c0_9 := (c0_9.toF [.a 0])) hx55) [.a 0] (fun v => ?_)
           obtain rfl := sj hs
           exact hQ _ _ retPan
          ·try dsimp only at hs
           refine cB F2 (at_asm_parser_register (c0_2 := (c0_2.toF [.a 0])) (c0_3 := (c0_3.toF [.a 0])) (c0_4 := (c0_4.toF [.a 0])) (c0_5 := (c0_5.toF [.a 0])) (c0_6 := (c0_6.toF [.a 0])) (c0_7 := ⟨AC.toF [.a 0] (.own (.sp 7 y53.2.length (encL y53.2))), by simp [F2]⟩) (c0_8 := (c0_8.toF [.a 0])) (c0_9 := (c0_9.toF [.a 0])) hx55) [.a 0] ?_
           refine goR F2 ?_
           obtain rfl := sj hs
           refine hQ _ _ (ret2g _ (Gh.refl _) (by simp [St.frz, St.pur, F2]; rfl) (by first | rfl | (simp [St.frz, St.pur, F2]; done) | (rw [if_pos (by first | omega | (simp; omega))]; simp [St.frz, St.pur, F2]; first | omega | exact List.take_of_length_le (by simp; omega) | skip)) (pv F2))
       ·refine goR F2 ?_
        revert hs; refine cS F2 ?_ ?_ <;> intro h58 hs
        ·refine goR F2 ?_
         revert hs; refine bK fun y59 hx60 hs => ?_
         rcases y59 with e61 | y62
         ·try dsimp only at hs
          refine cX F2 (at_asm_parser_register (c0_2 := (c0_2.toF [.a 0])) (c0_3 := (c0_3.toF [.a 0])) (c0_4 := (c0_4.toF [.a 0])) (c0_5 := (c0_5.toF [.a 0])) (c0_6 := (c0_6.toF [.a 0])) (c0_7 := ⟨AC.toF [.a 0] (.own (.sp 7 l34.length (encL l34))), by simp [F2]⟩) (c0_8 := (c0_8.toF [.a 0])) (c0_9 := (c0_9.toF [.a 0])) hx60) [.a 0] (fun v => ?_)
          obtain rfl := sj hs
          exact hQ _ _ retPan
         ·try dsimp only at hs
          refine cB F2 (at_asm_parser_register (c0_2 := (c0_2.toF [.a 0])) (c0_3 := (c0_3.toF [.a 0])) (c0_4 := (c0_4.toF [.a 0])) (c0_5 := (c0_5.toF [.a 0])) (c0_6 := (c0_6.toF [.a 0])) (c0_7 := ⟨AC.toF [.a 0] (.own (.sp 7 l34.length (encL l34))), by simp [F2]⟩) (c0_8 := (c0_8.toF [.a 0])) (c0_9 := (c0_9.toF [.a 0])) hx60) [.a 0] ?_
          refine goR F2 ?_
          obtain rfl := sj hs
          refine hQ _ _ (ret2g _ (Gh.refl _) (by simp [St.frz, St.pur, F2]; rfl) (by first | rfl | (simp [St.frz, St.pur, F2]; done) | (rw [if_pos (by first | omega | (simp; omega))]; simp [St.frz, St.pur, F2]; first | omega | exact List.take_of_length_le (by simp; omega) | skip)) (pv F2))
        ·refine goR F2 ?_
         obtain rfl := sj hs
         refine hQ _ _ (ret2g _ (Gh.refl _) (by simp [St.frz, St.pur, F2]; rfl) (by first | rfl | (simp [St.frz, St.pur, F2]; done) | (rw [if_pos (by first | omega | (simp; omega))]; simp [St.frz, St.pur, F2]; first | omega | exact List.take_of_length_le (by simp; omega) | skip)) (pv F2))
end Go.Dc
end
section
set_option linter.all false
namespace Go.Dc
open Go Go.Hw Go.Proofs
set_option maxRecDepth 100000
def asm_parser_instruction (fuelN : Nat) (a0_0 : List Token) (a0_1 : Int) (a0_7 : List AsmName) (a1 : Int) (a2 : Int) (a3 : Int) : Option (Fault ⊕ (Inst × (List Token) × (List AsmName))) :=
 Option.bind (α := Bool × (List AsmName)) (cond (eqI a1 8) (some ((eqI a1 8, a0_7))) (cond (eqI a1 9) (some ((eqI a1 9, a0_7))) (cond (eqI a1 10) (some ((eqI a1 10, a0_7))) (cond (eqI a1 11) (some ((eqI a1 11, a0_7))) (cond (eqI a1 12) (some ((eqI a1 12, a0_7))) (some ((eqI a1 14, a0_7)))))))) (fun o => match o with | (b6, l7) => cond b6 (Option.bind (asm_parser_access fuelN a0_0 a0_1 l7 ({ Op := a1, A := 0, B := 0, C := 0, Obj := 0, N := 0, Fn := 0, Order := 0 } : Inst) a2 a3) (fun y18 => (match y18 with | .inl e20 => some (.inl e20) | .inr y21 => some (.inr (y21.2.2, y21.1, y21.2.1))))) (Option.bind (asm_parser_local fuelN a0_0 a0_1 ({ Op := a1, A := 0, B := 0, C := 0, Obj := 0, N := 0, Fn := 0, Order := 0 } : Inst)) (fun y22 => (match y22 with | .inl e24 => some (.inl e24) | .inr y25 => Option.bind (asm_parser_other y25.1 a0_1 l7 y25.2 a2 a3) (fun y26 => (match y26 with | .inl e28 => some (.inl e28) | .inr y29 => some (.inr (y29.2.2, y29.1, y29.2.1))))))))
set_option maxHeartbeats 2000000 in
theorem at_asm_parser_instruction {fuelN : Nat} {c0_2 : FC} {c0_3 : FC} {c0_4 : FC} {c0_5 : FC} {c0_6 : FC} {c0_8 : FC} {c0_9 : FC} {a0_0 : List Token} {a0_1 : Int} {a0_7 : List AsmName} {a1 : Int} {a2 : Int} {a3 : Int} {r : Fault ⊕ (Inst × (List Token) × (List AsmName))} (hs : asm_parser_instruction fuelN a0_0 a0_1 a0_7 a1 a2 a3 = some r) : CAt Tryd.prog 34 [.cell (.ref (.a 0) 0), iV .i64 a1, iV .i64 a2, iV .i64 a3] [.cells [sC a0_0, nC a0_1, c0_2.ac, c0_3.ac, c0_4.ac, c0_5.ac, c0_6.ac, .own (.sp 7 a0_7.length (encL a0_7)), c0_8.ac, c0_9.ac]] (panO panV (fun (r : Inst × (List Token) × (List AsmName)) => .agg (eA r.1)) r) (panP (fun (r : Inst × (List Token) × (List AsmName)) => [(.a 0, .cells [sC r.2.1, nC a0_1, c0_2.ac, c0_3.ac, c0_4.ac, c0_5.ac, c0_6.ac, .own (.sp 7 r.2.2.length (encL r.2.2)), c0_8.ac, c0_9.ac])]) r) := by
 refine at_bound (by kernel_rfl) fun hb => ?_
 refine at_code mixed Tryd.func34 (by kernel_rfl) rfl (by kernel_rfl) rfl fun Q hQ => ?_
 rw [asm_parser_instruction] at hs
 refine goR2 f0 ?_
 refine awp_block ?_
 refine goR2 f0 ?_
 revert hs; refine bK fun o9 e8 hs => ?_
 refine awp_cut0 (fun (v : Bool × (List AsmName)) (σ : St) => some (v) = some o9 /\ σ.env 0 = .cell (.ref (.a 0) 0) /\ σ.env 2 = iV .i64 a2 /\ σ.env 3 = iV .i64 a3 /\ σ.env 8 = .cell (.ref (.o 1 0 0) 0) /\ σ.env 9 = .cell (.ref (.o 2 2 0) 0) /\ σ.env 19 = bV v.1 /\ σ.hp (.a 0) = some (.cells [sC a0_0, nC a0_1, c0_2.ac, c0_3.ac, c0_4.ac, c0_5.ac, c0_6.ac, .own (.sp 7 v.2.length (encL v.2)), c0_8.ac, c0_9.ac]) /\ σ.hp (.o 1 0 0) = some (.cells [nC 0, nC 0, nC 0, nC 0, nC 0, nC 0, nC 0, nC 0]) /\ σ.hp (.o 2 2 0) = some (.cells [nC a1, nC 0, nC 0, nC 0, nC 0, nC 0, nC 0, nC 0]) /\ 4 <= σ.gen) (fun Q hK10 hX11 => ?_) (fun v σ1 hp => ?_)
 ·refine goR f0 ?_
  revert e8; refine cS f0 ?_ ?_ <;> intro h12 e8
  ·refine goR f0 ?_
   exact hK10 (eqI a1 8, a0_7) _ ⟨e8, pv f0, pv f0, pv f0, pv f0, pv f0, pv f0, pv f0, pv f0, pv f0, pg⟩
  ·refine goR f0 ?_
   revert e8; refine cS f0 ?_ ?_ <;> intro h13 e8
   ·refine goR f0 ?_
    exact hK10 (eqI a1 9, a0_7) _ ⟨e8, pv f0, pv f0, pv f0, pv f0, pv f0, pv f0, pv f0, pv f0, pv f0, pg⟩
   ·refine goR f0 ?_
    revert e8; refine cS f0 ?_ ?_ <;> intro h14 e8
    ·refine goR f0 ?_
     exact hK10 (eqI a1 10, a0_7) _ ⟨e8, pv f0, pv f0, pv f0, pv f0, pv f0, pv f0, pv f0, pv f0, pv f0, pg⟩
    ·refine goR f0 ?_
     revert e8; refine cS f0 ?_ ?_ <;> intro h15 e8
     ·refine goR f0 ?_
      exact hK10 (eqI a1 11, a0_7) _ ⟨e8, pv f0, pv f0, pv f0, pv f0, pv f0, pv f0, pv f0, pv f0, pv f0, pg⟩
     ·refine goR f0 ?_
      revert e8; refine cS f0 ?_ ?_ <;> intro h16 e8
      ·refine goR f0 ?_
       exact hK10 (eqI a1 12, a0_7) _ ⟨e8, pv f0, pv f0, pv f0, pv f0, pv f0, pv f0, pv f0, pv f0, pv f0, pg⟩
      ·refine goR f0 ?_
       exact hK10 (eqI a1 14, a0_7) _ ⟨e8, pv f0, pv f0, pv f0, pv f0, pv f0, pv f0, pv f0, pv f0, pv f0, pg⟩
 ·obtain ⟨b6, l7⟩ := v
  dsimp only at hp
  obtain ⟨e8, h2_0, h2_2, h2_3, h2_8, h2_9, h2_19, g2_0, g2_1, g2_2, n2_g⟩ := hp
  obtain rfl := sj e8
  try dsimp only at hs
  have n2_0 : ¬ (σ1.gen = 0) := by omega
  have n2_1 : ¬ (σ1.gen = 1) := by omega
  have F1 := an h2_0 (an h2_2 (an h2_3 (an h2_8 (an h2_9 (an h2_19 (an g2_0 (an g2_1 (an g2_2 (an n2_0 n2_1)))))))))
  refine goR F1 ?_
  revert hs; refine cS F1 ?_ ?_ <;> intro h17 hs
  ·refine goR F1 ?_
   revert hs; refine bK fun y18 hx19 hs => ?_
   rcases y18 with e20 | y21
   ·try dsimp only at hs
    refine cX F1 (at_asm_parser_access (c0_2 := (c0_2.toF [.a 0, .o 2 2 0])) (c0_3 := (c0_3.toF [.a 0, .o 2 2 0])) (c0_4 := (c0_4.toF [.a 0, .o 2 2 0])) (c0_5 := (c0_5.toF [.a 0, .o 2 2 0])) (c0_6 := (c0_6.toF [.a 0, .o 2 2 0])) (c0_8 := (c0_8.toF [.a 0, .o 2 2 0])) (c0_9 := (c0_9.toF [.a 0, .o 2 2 0])) hx19) [.a 0, .o 2 2 0] (fun v => ?_)
    obtain rfl := sj hs
    exact hQ _ _ retPan
   ·try dsimp only at hs
    refine cB F1 (at_asm_parser_access (c0_2 := (c0_2.toF [.a 0, .o 2 2 0])) (c0_3 := (c0_3.toF [.a 0, .o 2 2 0])) (c0_4 := (c0_4.toF [.a 0, .o 2 2 0])) (c0_5 := (c0_5.toF [.a 0, .o 2 2 0])) (c0_6 := (c0_6.toF [.a 0, .o 2 2 0])) (c0_8 := (c0_8.toF [.a 0, .o 2 2 0])) (c0_9 := (c0_9.toF [.a 0, .o 2 2 0])) hx19) [.a 0, .o 2 2 0] ?_
    refine goR F1 ?_
    obtain rfl := sj hs
    refine hQ _ _ (ret2g _ (Gh.refl _) (by simp [St.frz, St.pur, F1]; rfl) (by first | rfl | (simp [St.frz, St.pur, F1]; done) | (rw [if_pos (by first | omega | (simp; omega))]; simp [St.frz, St.pur, F1]; first | omega | exact List.take_of_length_le (by simp; omega) | skip)) (pv F1))
  ·refine goR F1 ?_
   revert hs; refine bK fun y22 hx23 hs => ?_
   rcases y22 with e24 | y25
   ·try dsimp only at hs
    refine cX F1 (at_asm_parser_local (c0_2 := (c0_2.toF [.a 0, .o 2 2 0])) (c0_3 := (c0_3.toF [.a 0, .o 2 2 0])) (c0_4 := (c0_4.toF [.a 0, .o 2 2 0])) (c0_5 := (c0_5.toF [.a 0, .o 2 2 0])) (c0_6 := (c0_6.toF [.a 0, .o 2 2 0])) (c0_7 := ⟨AC.toF [.a 0, .o 2 2 0] (.own (.sp 7 l7.length (encL l7))), by simp [F1]⟩) (c0_8 := (c0_8.toF [.a 0, .o 2 2 0])) (c0_9 := (c0_9.toF [.a 0, .o 2 2 0])) hx23) [.a 0, .o 2 2 0] (fun v => ?_)
    obtain rfl := sj hs
    exact hQ _ _ retPan
   ·try dsimp only at hs
    refine cB F1 (at_asm_parser_local (c0_2 := (c0_2.toF [.a 0, .o 2 2 0])) (c0_3 := (c0_3.toF [.a 0, .o 2 2 0])) (c0_4 := (c0_4.toF [.a 0, .o 2 2 0])) (c0_5 := (c0_5.toF [.a 0, .o 2 2 0])) (c0_6 := (c0_6.toF [.a 0, .o 2 2 0])) (c0_7 := ⟨AC.toF [.a 0, .o 2 2 0] (.own (.sp 7 l7.length (encL l7))), by simp [F1]⟩) (c0_8 := (c0_8.toF [.a 0, .o 2 2 0])) (c0_9 := (c0_9.toF [.a 0, .o 2 2 0])) hx23) [.a 0, .o 2 2 0] ?_
    refine goR F1 ?_
    revert hs; refine bK fun y26 hx27 hs => ?_
    rcases y26 with e28 | y29
    ·try dsimp only at hs
     refine cX F1 (at_asm_parser_other (c0_2 := (c0_2.toF [.a 0, .o 2 2 0])) (c0_3 := (c0_3.toF [.a 0, .o 2 2 0])) (c0_4 := (c0_4.toF [.a 0, .o 2 2 0])) (c0_5 := (c0_5.toF [.a 0, .o 2 2 0])) (c0_6 := (c0_6.toF [.a 0, .o 2 2 0])) (c0_8 := (c0_8.toF [.a 0, .o 2 2 0])) (c0_9 := (c0_9.toF [.a 0, .o 2 2 0])) hx27) [.a 0, .o 2 2 0] (fun v => ?_)
     obtain rfl := sj hs
     exact hQ _ _ retPan
    ·try dsimp only at hs
     refine cB F1 (at_asm_parser_other (c0_2 := (c0_2.toF [.a 0, .o 2 2 0])) (c0_3 := (c0_3.toF [.a 0, .o 2 2 0])) (c0_4 := (c0_4.toF [.a 0, .o 2 2 0])) (c0_5 := (c0_5.toF [.a 0, .o 2 2 0])) (c0_6 := (c0_6.toF [.a 0, .o 2 2 0])) (c0_8 := (c0_8.toF [.a 0, .o 2 2 0])) (c0_9 := (c0_9.toF [.a 0, .o 2 2 0])) hx27) [.a 0, .o 2 2 0] ?_
     refine goR F1 ?_
     obtain rfl := sj hs
     refine hQ _ _ (ret2g _ (Gh.refl _) (by simp [St.frz, St.pur, F1]; rfl) (by first | rfl | (simp [St.frz, St.pur, F1]; done) | (rw [if_pos (by first | omega | (simp; omega))]; simp [St.frz, St.pur, F1]; first | omega | exact List.take_of_length_le (by simp; omega) | skip)) (pv F1))
end Go.Dc
end
