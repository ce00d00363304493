/- Contracts of functions, by their numbers, and the laws that walk them. Conditions: as each states. -/
import Derived.Test.YtihjddokgmjafaaDoorH5
import Derived.Test.YtihjddokgmjafaaDoorH3
import Derived.Test.YtihjddokgmjafaaDoorH4
import Derived.Test.YtihjddokgmjafaaDoorRows
import Derived.LaidMore
import Derived.MakeChecks
set_option linter.all false
section
set_option linter.all false
namespace Go.Dc.Pl
open Go Go.Hw Go.Dc
set_option maxRecDepth 100000
/-- j follows instruction x at i in a function of n instructions. -/
def Nx (n : Nat) (x : Inst) (i j : Nat) : Prop := (x.Op = 4 ∧ (j : Int) = x.N) ∨ (x.Op = 5 ∧ ((j : Int) = x.N ∨ j = i + 1)) ∨ (x.Op = 7 ∧ j = n) ∨ (x.Op ≠ 4 ∧ x.Op ≠ 5 ∧ x.Op ≠ 7 ∧ j = i + 1)
structure Cl (f : Func) (S : Nat → Prop) : Prop where
  z : S 0
  c : ∀ i x, f.Code[i]? = some x → S i → ∀ j, Nx f.Code.length x i j → S j
/-- What can be reached. -/
def Rc (f : Func) (i : Nat) : Prop := ∀ S, Cl f S → S i
theorem rc_cl (f : Func) : Cl f (Rc f) := ⟨fun _ h => h.z, fun i x hx hi j hj S hS => hS.c i x hx (hi S hS) j hj⟩
open Classical in
noncomputable def rc (f : Func) (i : Nat) : Bool := decide (Rc f i)
theorem rc_iff {f : Func} {i : Nat} : rc f i = true ↔ Rc f i := by simp [rc]
theorem nx_le {f : Func} (hf : Fok f) {i : Nat} {x : Inst} (hx : f.Code[i]? = some x) {j : Nat} (h : Nx f.Code.length x i j) : j ≤ f.Code.length := by
  have hi := getN_some hx
  have ht := hf.tgt x (List.mem_of_getElem? hx)
  rcases h with ⟨a, b⟩ | ⟨a, b | b⟩ | ⟨a, b⟩ | ⟨_, _, _, b⟩
  · have := ht (.inl a); omega
  · have := ht (.inr a); omega
  · omega
  · omega
  · omega
/-- The successors as a list. -/
def ListOf (n : Nat) (x : Inst) (i : Nat) (l : List Int) : Prop := l.length ≤ 2 ∧ (∀ a ∈ l, ∃ j : Nat, a = j ∧ Nx n x i j) ∧ ∀ j : Nat, Nx n x i j → (j : Int) ∈ l
theorem own_succ {f : Func} (hf : Fok f) {i : Nat} {x : Inst} (hx : f.Code[i]? = some x) : ∃ l, it_successors f (i : Int) = some l ∧ ListOf f.Code.length x i l := by
  have hi := getN_some hx
  have hl := hf.len
  have ht := hf.tgt x (List.mem_of_getElem? hx)
  rw [it_successors, getI_nat, hx, Option.bind_some, wrapS (by omega)]
  simp only [eqI_d, cond_eq_ite, decide_eq_true_eq]
  by_cases h4 : x.Op = 4
  · have := ht (.inl h4)
    simp only [h4, if_true]
    refine ⟨_, rfl, by simp, ?_, ?_⟩
    · intro a ha; simp at ha; subst ha; exact ⟨x.N.toNat, by omega, .inl ⟨h4, by omega⟩⟩
    · intro j hj; rcases hj with ⟨_, b⟩ | ⟨a, _⟩ | ⟨a, _⟩ | ⟨a, _⟩ <;> simp_all
  · by_cases h5 : x.Op = 5
    · have := ht (.inr h5)
      simp only [h4, h5, if_true, if_false, Int.reduceEq]
      obtain ⟨t, e⟩ : ∃ t : Nat, x.N = t := ⟨x.N.toNat, by omega⟩
      rw [e]
      have mk : ∀ l : List Int, l.length ≤ 2 → (∀ a, a ∈ l ↔ a = (t : Int) ∨ a = ((i + 1 : Nat) : Int)) → ListOf f.Code.length x i l := by
        intro l hl hm
        refine ⟨hl, fun a ha => ?_, fun j hj => ?_⟩
        · rcases (hm a).1 ha with h | h
          · exact ⟨t, h, .inr (.inl ⟨h5, .inl e.symm⟩)⟩
          · exact ⟨i + 1, h, .inr (.inl ⟨h5, .inr rfl⟩)⟩
        · rw [hm]
          rcases hj with ⟨a, _⟩ | ⟨_, b⟩ | ⟨a, _⟩ | ⟨_, a, _⟩
          · exact absurd a h4
          · rcases b with b | b
            · exact .inl (by rw [b, e])
            · exact .inr (by rw [b])
          · omega
          · exact absurd h5 a
      refine ⟨_, rfl, mk _ ?_ ?_⟩
      · split <;> split <;> split <;> simp
      · intro a
        by_cases h1 : ((i + 1 : Nat) : Int) < (t : Int)
        · have : ¬ ((i + 1 : Nat) : Int) > (t : Int) := by omega
          have h3 : ¬ ((i + 1 : Nat) : Int) = (t : Int) := by omega
          simp only [h1, this, h3, if_true, if_false, decide_false, Bool.not_false, List.mem_cons, List.not_mem_nil, or_false]
          exact or_comm
        · by_cases h2 : ((i + 1 : Nat) : Int) > (t : Int)
          · have h3 : ¬ (t : Int) = ((i + 1 : Nat) : Int) := by omega
            simp only [h1, h2, h3, if_true, if_false, decide_false, Bool.not_false, List.mem_cons, List.not_mem_nil, or_false]
          · have h3 : (t : Int) = ((i + 1 : Nat) : Int) := by omega
            simp only [h1, h2, if_false, decide_true, Bool.not_true, List.mem_cons, List.not_mem_nil, or_false, h3, or_self, Bool.false_eq_true, ite_self]
    · by_cases h7 : x.Op = 7
      · simp only [h4, h5, h7, if_true, if_false, Int.reduceEq]
        refine ⟨_, rfl, by simp, ?_, ?_⟩
        · intro a ha; simp at ha; exact ⟨f.Code.length, ha, .inr (.inr (.inl ⟨h7, rfl⟩))⟩
        · intro j hj; rcases hj with ⟨a, _⟩ | ⟨a, _⟩ | ⟨_, a⟩ | ⟨_, _, a, _⟩ <;> simp_all
      · simp only [h4, h5, h7, if_false]
        refine ⟨_, rfl, by simp, ?_, ?_⟩
        · intro a ha; simp at ha; exact ⟨i + 1, by omega, .inr (.inr (.inr ⟨h4, h5, h7, rfl⟩))⟩
        · intro j hj; rcases hj with ⟨a, _⟩ | ⟨a, _⟩ | ⟨a, _⟩ | ⟨_, _, _, a⟩ <;> simp_all
theorem make2 (fuel : Nat) (a b : Int) : ∃ l, r02_Make (fuel + 8) [a, b] = some l ∧ l.length ≤ 2 ∧ ∀ x, x ∈ l ↔ x = a ∨ x = b := by
  have h1 : r02_Has [] a = some false := rfl
  have h2 : r02_insert (fuel + 8) [] a = some [a] := by
    rw [r02_insert, r02_insert_L1]
    simp [ltI, inB, andB, orB, slB, subL, limB, guardO]
  have h3 : r02_Has [a] b = some (eqI a b) := by
    rw [r02_Has, r02_Has_L1]
    cases h : eqI a b
    · rw [r02_Has_L1]; rfl
    · rfl
  rw [r02_Make, Option.bind_some, r02_Make_L1, h1, Option.bind_some, Bool.not_false, cond_true, h2, Option.bind_some, r02_Make_L1, h3, Option.bind_some]
  by_cases e : a = b
  · refine ⟨[a], ?_, by simp, fun x => by simp [e]⟩
    rw [show eqI a b = true by simp [eqI, e]]; rfl
  · rw [show eqI a b = false by simp [eqI_d, e], Bool.not_false, cond_true]
    by_cases l : a < b
    · refine ⟨[a, b], ?_, by simp, fun x => by simp⟩
      rw [r02_insert, r02_insert_L1, r02_insert_L1]
      simp [ltI, inB, andB, orB, slB, subL, limB, guardO, gd, l, wrap_i64, r02_Make_L1]
    · refine ⟨[b, a], ?_, by simp, fun x => by simp [or_comm]⟩
      rw [r02_insert, r02_insert_L1]
      simp [ltI, inB, andB, orB, slB, subL, limB, guardO, gd, l, wrap_i64, r02_Make_L1]
theorem ref_succ (fuel : Nat) {f : Func} (hf : Fok f) {i : Nat} {x : Inst} (hx : f.Code[i]? = some x) : ∃ l, r12_successors (fuel + 8) f (i : Int) = some l ∧ ListOf f.Code.length x i l := by
  have hi := getN_some hx
  have hl := hf.len
  have ht := hf.tgt x (List.mem_of_getElem? hx)
  rw [r12_successors, getI_nat, hx, Option.bind_some, wrapS (by omega)]
  simp only [eqI_d, cond_eq_ite, decide_eq_true_eq]
  by_cases h4 : x.Op = 4
  · have := ht (.inl h4)
    simp only [h4, if_true]
    refine ⟨_, rfl, by simp, ?_, ?_⟩
    · intro a ha; simp at ha; subst ha; exact ⟨x.N.toNat, by omega, .inl ⟨h4, by omega⟩⟩
    · intro j hj; rcases hj with ⟨_, b⟩ | ⟨a, _⟩ | ⟨a, _⟩ | ⟨a, _⟩ <;> simp_all
  · by_cases h7 : x.Op = 7
    · simp only [h4, h7, if_true, if_false, Int.reduceEq]
      refine ⟨_, rfl, by simp, ?_, ?_⟩
      · intro a ha; simp at ha; exact ⟨f.Code.length, ha, .inr (.inr (.inl ⟨h7, rfl⟩))⟩
      · intro j hj; rcases hj with ⟨a, _⟩ | ⟨a, _⟩ | ⟨_, a⟩ | ⟨_, _, a, _⟩ <;> simp_all
    · by_cases h5 : x.Op = 5
      · have := ht (.inr h5)
        simp only [h4, h7, h5, if_true, if_false, Int.reduceEq]
        obtain ⟨t, e⟩ : ∃ t : Nat, x.N = t := ⟨x.N.toNat, by omega⟩
        rw [e]
        obtain ⟨l, hl, h2, hm⟩ := make2 fuel (t : Int) ((i + 1 : Nat) : Int)
        rw [Option.bind_some, hl]
        refine ⟨l, rfl, h2, fun a ha => ?_, fun j hj => ?_⟩
        · rcases (hm a).1 ha with h | h
          · exact ⟨t, h, .inr (.inl ⟨h5, .inl e.symm⟩)⟩
          · exact ⟨i + 1, h, .inr (.inl ⟨h5, .inr rfl⟩)⟩
        · rw [hm]
          rcases hj with ⟨a, _⟩ | ⟨_, b⟩ | ⟨a, _⟩ | ⟨_, a, _⟩
          · exact absurd a h4
          · rcases b with b | b
            · exact .inl (by rw [b, e])
            · exact .inr (by rw [b])
          · omega
          · exact absurd h5 a
      · simp only [h4, h5, h7, if_false]
        refine ⟨_, rfl, by simp, ?_, ?_⟩
        · intro a ha; simp at ha; exact ⟨i + 1, by omega, .inr (.inr (.inr ⟨h4, h5, h7, rfl⟩))⟩
        · intro j hj; rcases hj with ⟨a, _⟩ | ⟨a, _⟩ | ⟨a, _⟩ | ⟨_, _, _, a⟩ <;> simp_all
end Go.Dc.Pl
end
section
set_option linter.all false
namespace Go.Dc.Pl
open Go Go.Hw Go.Dc
set_option maxRecDepth 100000
theorem count_put {p q : Nat → Bool} {k : Nat} (hp : p k = true) (hq : q k = false) (hj : ∀ j, j ≠ k → q j = p j) : ∀ n, k < n → (List.range n).countP q + 1 = (List.range n).countP p
  | 0, h => absurd h (by omega)
  | n + 1, h => by
    rw [List.range_succ, List.countP_append, List.countP_append]
    by_cases e : k = n
    · subst e
      have : (List.range k).countP q = (List.range k).countP p := List.countP_congr fun j hj' => by rw [hj j (by have := List.mem_range.1 hj'; omega)]
      simp [this, hp, hq]
    · have := count_put hp hq hj n (by omega)
      have h2 := hj n (by omega)
      simp only [List.countP_cons, List.countP_nil, h2]; omega
def seen (m : Map Int Bool) (j : Nat) : Bool := mval m (j : Int) false
def unseen (n : Nat) (m : Map Int Bool) : Nat := (List.range n).countP fun j => !seen m j
theorem seen_put (m : Map Int Bool) (k j : Nat) : seen (mpt m (k : Int) true) j = if k = j then true else seen m j := by
  unfold seen; rw [mval_mpt]
  by_cases e : k = j
  · subst e; simp
  · have : ¬ (k : Int) = j := by omega
    simp [e, this]
theorem unseen_put {n : Nat} {m : Map Int Bool} {k : Nat} (hk : k < n) (hs : seen m k = false) : unseen n (mpt m (k : Int) true) + 1 = unseen n m := by
  refine count_put (k := k) (by simp [hs]) (by simp [seen_put]) (fun j hj => ?_) n hk
  rw [seen_put, if_neg (Ne.symm hj)]
/-- What a visit of some places does. -/
structure Vis (n : Nat) (ys l : List Int) (m : Map Int Bool) (l' : List Int) (m' : Map Int Bool) : Prop where
  mono : ∀ j, seen m j = true → seen m' j = true
  sub : ∀ a ∈ l, a ∈ l'
  new : ∀ j, seen m' j = true → seen m j = true ∨ (j < n ∧ (j : Int) ∈ ys ∧ (j : Int) ∈ l')
  inl : ∀ a ∈ l', a ∈ l ∨ ∃ j : Nat, a = j ∧ j < n ∧ seen m' j = true
  all : ∀ j : Nat, (j : Int) ∈ ys → j < n → seen m' j = true
  cnt : l'.length + unseen n m' = l.length + unseen n m
theorem own_vis2 (f : Func) : ∀ (ys l : List Int) (m : Map Int Bool), (∀ a ∈ ys, ∃ j : Nat, a = j) → l.length + unseen f.Code.length m ≤ 90 →
    ∃ l' m', cfg_visit_L2 f (-1) ys l m = some (l', m') ∧ Vis f.Code.length ys l m l' m'
  | [], l, m, _, _ => ⟨l, m, rfl, fun _ h => h, fun _ h => h, fun _ h => .inl h, fun _ h => .inl h, (fun _ h => absurd h List.not_mem_nil), rfl⟩
  | y :: ys, l, m, hy, hb => by
    obtain ⟨k, rfl⟩ := hy y List.mem_cons_self
    have hys := fun a ha => hy a (List.mem_cons_of_mem _ ha)
    have e1 : eqI (k : Int) (-1) = false := by rw [eqI_d]; exact decide_eq_false (by omega)
    rw [cfg_visit_L2, e1, ltI_d]
    show ∃ l' m', cond (andB (andB (decide ((k : Int) < ((f.Code.length : Nat) : Int))) (!false)) (!(seen m k))) _ _ = _ ∧ _
    by_cases hk : k < f.Code.length
    · have hd : decide ((k : Int) < ((f.Code.length : Nat) : Int)) = true := by simp; omega
      rw [hd]
      cases hs : seen m k
      · have hu := unseen_put hk hs
        have hlim : limB 8 (l.length + 1) = true := limB_small (by decide) (by omega)
        obtain ⟨l', m', e, v⟩ := own_vis2 f ys (l ++ [(k : Int)]) (mpt m (k : Int) true) hys (by simp; omega)
        refine ⟨l', m', ?_, ?_⟩
        · rw [show andB (andB true (!false)) (!false) = true from rfl, cond_true, Option.bind_some, Option.bind_some, List.length_singleton, hlim, guardO_t, Option.bind_some, e]
        · have hkm : seen m' k = true := v.mono k (by rw [seen_put, if_pos rfl])
          have hkl : (k : Int) ∈ l' := v.sub _ (by simp)
          refine ⟨fun j hj => v.mono j (by rw [seen_put, hj]; simp), fun a ha => v.sub a (by simp [ha]), fun j hj => ?_, fun a ha => ?_, fun j hj hn => ?_, ?_⟩
          · rcases v.new j hj with h | ⟨h1, h2, h3⟩
            · rw [seen_put] at h
              by_cases ej : k = j
              · subst ej; exact .inr ⟨hk, List.mem_cons_self, hkl⟩
              · rw [if_neg ej] at h; exact .inl h
            · exact .inr ⟨h1, List.mem_cons_of_mem _ h2, h3⟩
          · rcases v.inl a ha with h | h
            · rw [List.mem_append, List.mem_singleton] at h
              rcases h with h | h
              · exact .inl h
              · exact .inr ⟨k, h, hk, hkm⟩
            · exact .inr h
          · rcases List.mem_cons.1 hj with h | h
            · have : j = k := by omega
              subst this; exact hkm
            · exact v.all j h hn
          · have := v.cnt; rw [List.length_append, List.length_singleton] at this; omega
      · obtain ⟨l', m', e, v⟩ := own_vis2 f ys l m hys hb
        refine ⟨l', m', e, v.mono, v.sub, fun j hj => (v.new j hj).imp id fun ⟨a, b, c⟩ => ⟨a, List.mem_cons_of_mem _ b, c⟩, v.inl, fun j hj hn => ?_, v.cnt⟩
        rcases List.mem_cons.1 hj with h | h
        · have : j = k := by omega
          subst this; exact v.mono _ hs
        · exact v.all j h hn
    · have hd : decide ((k : Int) < ((f.Code.length : Nat) : Int)) = false := by simp; omega
      rw [hd]
      obtain ⟨l', m', e, v⟩ := own_vis2 f ys l m hys hb
      refine ⟨l', m', e, v.mono, v.sub, fun j hj => (v.new j hj).imp id fun ⟨a, b, c⟩ => ⟨a, List.mem_cons_of_mem _ b, c⟩, v.inl, fun j hj hn => ?_, v.cnt⟩
      rcases List.mem_cons.1 hj with h | h
      · omega
      · exact v.all j h hn
structure VI (f : Func) (l : List Int) (m : Map Int Bool) : Prop where
  a : ∀ a ∈ l, ∃ j : Nat, a = j ∧ j < f.Code.length ∧ seen m j = true
  b : ∀ j, seen m j = true → j < f.Code.length ∧ Rc f j
  c : ∀ j x, f.Code[j]? = some x → seen m j = true → (j : Int) ∈ l ∨ ∀ k, Nx f.Code.length x j k → k < f.Code.length → seen m k = true
  d : seen m 0 = true
theorem own_vis {f : Func} (hf : Fok f) : ∀ (r q : Nat) (l : List Int) (m : Map Int Bool), VI f l m → l.length + unseen f.Code.length m ≤ r → r < q → r ≤ 90 → ∃ m', cfg_visit_L1 f (-1) q l m = some m' ∧ VI f [] m'
  | r, 0, _, _, _, _, h, _ => absurd h (by omega)
  | r, q + 1, l, m, hv, hr, hq, h90 => by
    rw [cfg_visit_L1]
    by_cases hl : l = []
    · subst hl; exact ⟨m, rfl, hv⟩
    · obtain ⟨p, y, rfl⟩ : ∃ p y, l = p ++ [y] := ⟨l.dropLast, l.getLast hl, (List.dropLast_concat_getLast hl).symm⟩
      obtain ⟨i, rfl, hi, hsi⟩ := hv.a y (by simp)
      have hlen : (p ++ [(i : Int)]).length = p.length + 1 := by simp
      rw [hlen] at hr ⊢
      have hx : f.Code[i]? = some f.Code[i] := List.getElem?_eq_getElem hi
      generalize f.Code[i] = x at hx
      have ew : IntKind.i64.wrap (((p.length + 1 : Nat) : Int) - 1) = (p.length : Int) := by rw [wrap_i64 (by omega) (by omega)]; omega
      obtain ⟨ys, ey, hy⟩ := own_succ hf hx
      rw [show ltI 0 ((p.length + 1 : Nat) : Int) = true by rw [ltI_d]; exact decide_eq_true (by omega), cond_true, ew, getI_nat, List.getElem?_append_right (by omega), Nat.sub_self]
      show ∃ m', guardO (slB 0 (p.length : Int) (p.length + 1)) _ = _ ∧ _
      rw [show slB 0 (p.length : Int) (p.length + 1) = true by simp [slB]; omega, guardO_t, show subL (p ++ [(i : Int)]) 0 (p.length : Int) = p by simp [subL]]
      rw [Option.bind_some, cfg_successors, Option.bind_some]
      show ∃ m', (it_successors f (i : Int)).bind _ = _ ∧ _
      rw [ey, Option.bind_some]
      obtain ⟨l', m', e, v⟩ := own_vis2 f ys p m (fun a ha => by obtain ⟨j, h, _⟩ := hy.2.1 a ha; exact ⟨j, h⟩) (by omega)
      rw [e, Option.bind_some]
      have hsucc : ∀ k, Nx f.Code.length x i k → k < f.Code.length → seen m' k = true := fun k hk hn => v.all k (hy.2.2 k hk) hn
      refine own_vis hf (r - 1) q l' m' ⟨?_, ?_, ?_, v.mono 0 hv.d⟩ (by have := v.cnt; omega) (by omega) (by omega)
      · intro a ha
        rcases v.inl a ha with h | h
        · obtain ⟨j, h1, h2, h3⟩ := hv.a a (by simp [h]); exact ⟨j, h1, h2, v.mono j h3⟩
        · exact h
      · intro j hj
        rcases v.new j hj with h | ⟨h1, h2, _⟩
        · exact hv.b j h
        · obtain ⟨j', e', hn⟩ := hy.2.1 _ h2
          have : j = j' := by omega
          subst this
          exact ⟨h1, (rc_cl f).c i x hx (hv.b i hsi).2 j hn⟩
      · intro j z hz hj
        rcases v.new j hj with h | ⟨_, _, h3⟩
        · rcases hv.c j z hz h with h2 | h2
          · rw [List.mem_append, List.mem_singleton] at h2
            rcases h2 with h2 | h2
            · exact .inl (v.sub _ h2)
            · have : j = i := by omega
              subst this
              obtain rfl := Option.some.inj (hx.symm.trans hz)
              exact .inr hsucc
          · exact .inr fun k hk hn => v.mono k (h2 k hk hn)
        · exact .inl h3
theorem unseen_le (n : Nat) (m : Map Int Bool) : unseen n m ≤ n := by
  have := List.countP_le_length (p := fun j => !seen m j) (l := List.range n); simpa [unseen] using this
theorem own_visit (fuel : Nat) {f : Func} (hf : Fok f) : ∃ m, cfg_visit (fuel + 100) f (-1) = some m ∧ ∀ j, j < f.Code.length → seen m j = rc f j := by
  have hlen := hf.len
  rw [cfg_visit]
  by_cases h0 : f.Code.length = 0
  · rw [show orB (eqI ((f.Code.length : Nat) : Int) 0) (eqI (-1) 0) = true by simp [orB, eqI_d, h0]]
    exact ⟨[], rfl, fun j hj => by omega⟩
  · rw [show orB (eqI ((f.Code.length : Nat) : Int) 0) (eqI (-1) 0) = false by simp [orB, eqI_d, h0], cond_false, Option.bind_some, Option.bind_some]
    have hs : ∀ j, seen (mpt ([] : Map Int Bool) 0 true) j = true → j = 0 := fun j hj => by
      have := seen_put [] 0 j
      rw [show ((0 : Nat) : Int) = 0 from rfl] at this
      rw [this] at hj
      by_cases e : 0 = j
      · exact e.symm
      · rw [if_neg e] at hj; cases hj
    have h00 : seen (mpt ([] : Map Int Bool) 0 true) 0 = true := rfl
    obtain ⟨m', e, v⟩ := own_vis hf 70 (fuel + 100) [0] (mpt ([] : Map Int Bool) 0 true) ⟨fun a ha => ⟨0, by simpa using ha, by omega, h00⟩, fun j hj => by rw [hs j hj]; exact ⟨by omega, (rc_cl f).z⟩, fun j x _ hj => .inl (by rw [hs j hj]; simp), h00⟩
      (by have := unseen_le f.Code.length (mpt ([] : Map Int Bool) 0 true); simp; omega) (by omega) (by omega)
    refine ⟨m', by rw [e]; rfl, fun j hj => ?_⟩
    rw [Bool.eq_iff_iff, rc_iff]
    refine ⟨fun h => (v.b j h).2, fun h => ?_⟩
    have hc : Cl f (fun k => seen m' k = true ∨ f.Code.length ≤ k) := by
      refine ⟨.inl v.d, fun i x hx hi k hk => ?_⟩
      by_cases hkn : k < f.Code.length
      · have hin := getN_some hx
        rcases v.c i x hx (hi.resolve_right (by omega)) with h | h
        · cases h
        · exact .inl (h k hk hkn)
      · exact .inr (by omega)
    exact (h _ hc).resolve_right (by omega)
def on (l : List Bool) (j : Nat) : Bool := l.getD j false
theorem on_set (l : List Bool) (k j : Nat) (hk : k < l.length) : on (l.set k true) j = if k = j then true else on l j := by
  unfold on
  rw [List.getD_eq_getElem?_getD, List.getElem?_set, List.getD_eq_getElem?_getD]; split
  · simp [hk]
  · rfl
theorem ref_w3 {n k : Nat} (hk : k < n) (hn : n ≤ 64) {y : List Int} (hy : ∀ a ∈ y, ∃ j : Nat, a = j ∧ j ≤ n) (hy2 : y.length ≤ 2) : ∀ (r q i : Nat) (l : List Bool), r + i = y.length → r < q → l.length = n + 1 →
    ∃ l', r12_Without_L3 (-1) (k : Int) y q l (i : Int) = some l' ∧ l'.length = n + 1 ∧ ∀ j, on l' j = (on l j || (on l k && decide ((j : Int) ∈ y.drop i)))
  | r, 0, _, _, _, h, _ => absurd h (by omega)
  | 0, q + 1, i, l, hi, _, hl => by
    refine ⟨l, ?_, hl, fun j => ?_⟩
    · rw [r12_Without_L3, show ltI (i : Int) ((y.length : Nat) : Int) = false by rw [ltI_d]; simp; omega]; rfl
    · rw [List.drop_eq_nil_of_le (by omega)]; simp
  | r + 1, q + 1, i, l, hi, hq, hl => by
    have hx : y[i]? = some y[i] := List.getElem?_eq_getElem (by omega)
    have hd := drop_at hx
    generalize y[i] = a at hx hd
    obtain ⟨t, rfl, ht⟩ := hy a (List.mem_of_getElem? hx)
    rw [r12_Without_L3, show ltI (i : Int) ((y.length : Nat) : Int) = true by rw [ltI_d]; simp; omega, show inB (k : Int) l.length = true by rw [inB_d]; simp; omega, orB_t, guardO_t, Int.toNat_natCast]
    show ∃ l', cond (on l k) _ _ = _ ∧ _
    cases ho : on l k
    · exact ⟨l, rfl, hl, fun j => by simp⟩
    · rw [cond_true, getI_nat, hx, Option.bind_some, show eqI (t : Int) (-1) = false by rw [eqI_d]; exact decide_eq_false (by omega), Bool.not_false, cond_true, getI_nat, List.getElem?_eq_getElem (by omega), Option.bind_some, Option.bind_some, Int.toNat_natCast, wrapS (by omega)]
      obtain ⟨l', e, h1, h2⟩ := ref_w3 hk hn hy hy2 r q (i + 1) (l.set t true) (by omega) (by omega) (by simpa using hl)
      refine ⟨l', e, h1, fun j => ?_⟩
      rw [h2, on_set _ _ _ (by omega), on_set _ _ _ (by omega), hd, ho]
      by_cases e1 : t = j
      · subst e1
        simp
      · have : ¬ (j : Int) = t := by omega
        by_cases e2 : t = k
        · subst e2; simp [e1, this]
        · simp [e1, e2, this]
structure Swp (f : Func) (k : Nat) (l l' : List Bool) : Prop where
  len : l'.length = f.Code.length + 1
  mono : ∀ j, on l j = true → on l' j = true
  snd : ∀ S, Cl f S → (∀ j, on l j = true → S j) → ∀ j, on l' j = true → S j
  fix : l' = l → ∀ i x, k ≤ i → f.Code[i]? = some x → on l i = true → ∀ j, Nx f.Code.length x i j → on l j = true
theorem on_ext {l l' : List Bool} (h : l.length = l'.length) (he : ∀ j, on l j = on l' j) : l = l' := by
  apply List.ext_getElem h
  intro i h1 h2
  have := he i
  unfold on at this
  rwa [List.getD_eq_getElem?_getD, List.getElem?_eq_getElem h1, List.getD_eq_getElem?_getD, List.getElem?_eq_getElem h2] at this
theorem ref_w2 (fuel : Nat) {f : Func} (hf : Fok f) : ∀ (r q k : Nat) (l : List Bool), r + k = f.Code.length → r < q → l.length = f.Code.length + 1 → ∃ l', r12_Without_L2 (fuel + 100) f (-1) q l (k : Int) = some l' ∧ Swp f k l l'
  | r, 0, _, _, _, h, _ => absurd h (by omega)
  | 0, q + 1, k, l, hk, _, hl => by
    refine ⟨l, ?_, hl, fun _ h => h, fun S _ h => h, fun _ i x hi hx => ?_⟩
    · rw [r12_Without_L2, show ltI (k : Int) ((f.Code.length : Nat) : Int) = false by rw [ltI_d]; simp; omega]; rfl
    · have := getN_some hx; omega
  | r + 1, q + 1, k, l, hk, hq, hl => by
    have hlen := hf.len
    have hx : f.Code[k]? = some f.Code[k] := List.getElem?_eq_getElem (by omega)
    generalize f.Code[k] = x at hx
    obtain ⟨y, ey, y2, ya, yb⟩ := ref_succ (fuel + 92) hf hx
    obtain ⟨l1, e1, h1, o1⟩ := ref_w3 (k := k) (n := f.Code.length) (by omega) hlen (fun a ha => by obtain ⟨j, h, hn⟩ := ya a ha; exact ⟨j, h, nx_le hf hx hn⟩) y2 y.length (fuel + 100) 0 l (by omega) (by omega) hl
    obtain ⟨l2, e2, s⟩ := ref_w2 fuel hf r q (k + 1) l1 (by omega) (by omega) h1
    have m1 : ∀ j, on l j = true → on l1 j = true := fun j hj => by rw [o1, hj]; rfl
    refine ⟨l2, ?_, s.len, fun j hj => s.mono j (m1 j hj), fun S hS h => s.snd S hS fun j hj => ?_, fun he => ?_⟩
    · rw [r12_Without_L2, show ltI (k : Int) ((f.Code.length : Nat) : Int) = true by rw [ltI_d]; simp; omega, cond_true, show fuel + 100 = (fuel + 92) + 8 from rfl, ey, show (fuel + 92) + 8 = fuel + 100 from rfl, Option.bind_some]
      rw [show ((0 : Nat) : Int) = 0 from rfl] at e1
      rw [e1, Option.bind_some, Option.bind_some, wrapS (by omega), e2]
    · rw [o1, Bool.or_eq_true, Bool.and_eq_true, decide_eq_true_eq] at hj
      rcases hj with hj | ⟨hj, hm⟩
      · exact h j hj
      · obtain ⟨j', e', hn⟩ := ya _ (List.mem_of_mem_drop hm)
        have : j = j' := by omega
        subst this
        exact hS.c k x hx (h k hj) j hn
    · have e3 : l1 = l := on_ext (by omega) fun j => by
        rw [Bool.eq_iff_iff]
        exact ⟨fun hj => by rw [← he]; exact s.mono j hj, m1 j⟩
      intro i z hi hz hoi j hn
      by_cases ek : i = k
      · subst ek
        obtain rfl := Option.some.inj (hx.symm.trans hz)
        have := o1 j
        rw [e3, hoi] at this
        rw [this, List.drop_zero, decide_eq_true (yb j hn)]; simp
      · rw [← e3]
        rw [← e3] at hoi
        exact s.fix (he.trans e3.symm) i z (by omega) hz hoi j hn
theorem count_lt : ∀ {l l' : List Bool}, l.length = l'.length → (∀ j, on l j = true → on l' j = true) → l' ≠ l → l.count true < l'.count true ∨ l' = l
  | [], [], _, _, h => absurd rfl h
  | a :: l, b :: l', hl, hm, hne => by
    have hm' : ∀ j, on l j = true → on l' j = true := fun j hj => hm (j + 1) hj
    have h0 : a = true → b = true := hm 0
    have hl' : l.length = l'.length := by simpa using hl
    have hle : l.count true ≤ l'.count true := by
      by_cases e : l' = l
      · rw [e]; exact Nat.le_refl _
      · rcases count_lt hl' hm' e with h | h
        · omega
        · exact absurd h e
    refine .inl ?_
    rw [List.count_cons, List.count_cons]
    by_cases e : l' = l
    · subst e
      cases a <;> cases b
      · exact absurd rfl hne
      · simp
      · exact absurd (h0 rfl) (by simp)
      · exact absurd rfl hne
    · have := (count_lt hl' hm' e).resolve_right e
      cases a <;> cases b
      · simpa using this
      · simp; omega
      · exact absurd (h0 rfl) (by simp)
      · simpa using this
def Clo (f : Func) (l : List Bool) : Prop := ∀ i x, f.Code[i]? = some x → on l i = true → ∀ j, Nx f.Code.length x i j → on l j = true
structure Rnd (f : Func) (c : Nat) (l l' : List Bool) : Prop where
  len : l'.length = f.Code.length + 1
  mono : ∀ j, on l j = true → on l' j = true
  snd : ∀ S, Cl f S → (∀ j, on l j = true → S j) → ∀ j, on l' j = true → S j
  clo : Clo f l' ∨ l.count true + c ≤ l'.count true
theorem ref_w1 (fuel : Nat) {f : Func} (hf : Fok f) : ∀ (r q k : Nat) (l : List Bool), r + k = f.Code.length → r < q → l.length = f.Code.length + 1 → on l 0 = true → ∃ l', r12_Without_L1 (fuel + 100) f (-1) q l (k : Int) = some l' ∧ Rnd f r l l'
  | r, 0, _, _, _, h, _, _ => absurd h (by omega)
  | 0, q + 1, k, l, hk, _, hl, _ => by
    refine ⟨l, ?_, hl, fun _ h => h, fun S _ h => h, .inr (by omega)⟩
    rw [r12_Without_L1, show ltI (k : Int) ((f.Code.length : Nat) : Int) = false by rw [ltI_d]; simp; omega]; rfl
  | r + 1, q + 1, k, l, hk, hq, hl, h0 => by
    have hlen := hf.len
    obtain ⟨l1, e1, s1⟩ := ref_w2 fuel hf f.Code.length (fuel + 100) 0 l (by omega) (by omega) hl
    obtain ⟨l2, e2, s2⟩ := ref_w1 fuel hf r q (k + 1) l1 (by omega) (by omega) s1.len (s1.mono 0 h0)
    refine ⟨l2, ?_, s2.len, fun j hj => s2.mono j (s1.mono j hj), fun S hS h => s2.snd S hS (s1.snd S hS h), ?_⟩
    · rw [show ((0 : Nat) : Int) = 0 from rfl] at e1
      rw [r12_Without_L1, show ltI (k : Int) ((f.Code.length : Nat) : Int) = true by rw [ltI_d]; simp; omega, cond_true, e1, Option.bind_some, Option.bind_some, wrapS (by omega), e2]
    · by_cases e : l1 = l
      · have hc : Clo f l := fun i x hx hi j hn => s1.fix e i x (by omega) hx hi j hn
        have h2 : l2 = l := on_ext (by rw [s2.len, hl]) fun j => by
          rw [Bool.eq_iff_iff]
          exact ⟨fun hj => s2.snd (fun j => on l j = true) ⟨h0, hc⟩ (fun j hj => by rw [← e]; exact hj) j hj, fun hj => s2.mono j (s1.mono j hj)⟩
        exact .inl (h2 ▸ hc)
      · have := (count_lt (by rw [s1.len, hl]) s1.mono e).resolve_right e
        rcases s2.clo with h | h
        · exact .inl h
        · exact .inr (by omega)
theorem ref_without (fuel : Nat) {f : Func} (hf : Fok f) : r12_Without (fuel + 100) f (-1) = some ((List.range f.Code.length).map (rc f)) := by
  have hlen := hf.len
  rw [r12_Without, wrapS (by omega), mkB_small (by omega), guardO_t, Option.bind_some, Int.toNat_natCast, List.getElem?_eq_getElem (by simp), Option.bind_some, Option.bind_some]
  rw [show (!(eqI (-1) 0)) = true from rfl]
  have hl0 : ((List.replicate (f.Code.length + 1) false).set 0 true).length = f.Code.length + 1 := by simp
  have hon : ∀ j, on ((List.replicate (f.Code.length + 1) false).set 0 true) j = decide (0 = j) := fun j => by
    rw [on_set _ _ _ (by simp)]
    by_cases e : 0 = j
    · simp [e]
    · rw [if_neg e, decide_eq_false e]
      unfold on
      rw [List.getD_eq_getElem?_getD, List.getElem?_replicate]; split <;> rfl
  obtain ⟨l', e, s⟩ := ref_w1 fuel hf f.Code.length (fuel + 100) 0 _ (by omega) (by omega) hl0 (by rw [hon]; rfl)
  rw [show ((0 : Nat) : Int) = 0 from rfl] at e
  rw [e, Option.bind_some, Option.bind_some, show slB 0 ((f.Code.length : Nat) : Int) l'.length = true by simp [slB, s.len]; omega, guardO_t, Option.bind_some]
  have h0 : on l' 0 = true := s.mono 0 (by rw [hon]; rfl)
  have hc : Clo f l' := by
    rcases s.clo with h | h
    · exact h
    · have h1 : 1 ≤ ((List.replicate (f.Code.length + 1) false).set 0 true).count true := by
        rw [List.replicate_succ, List.set_cons_zero, List.count_cons]; simp
      have h2 : l'.count true = l'.length := Nat.le_antisymm List.count_le_length (by rw [s.len]; omega)
      have h3 := List.count_eq_length.1 h2
      intro i x hx hi j hn
      have := nx_le hf hx hn
      unfold on
      rw [List.getD_eq_getElem?_getD, List.getElem?_eq_getElem (by rw [s.len]; omega)]
      exact (h3 _ (List.getElem_mem _)).symm
  congr 1
  rw [show subL l' 0 ((f.Code.length : Nat) : Int) = l'.take f.Code.length by simp [subL]]
  apply List.ext_getElem
  · simp [s.len]
  · intro i h1 h2
    rw [List.getElem_take, List.getElem_map, List.getElem_range]
    have hi : i < l'.length := by simp at h1; omega
    have : on l' i = l'[i] := by unfold on; rw [List.getD_eq_getElem?_getD, List.getElem?_eq_getElem hi]; rfl
    rw [← this, Bool.eq_iff_iff, rc_iff]
    refine ⟨fun h S hS => s.snd S hS (fun j hj => ?_) i h, fun h => h (fun j => on l' j = true) ⟨h0, hc⟩⟩
    rw [hon] at hj
    have := of_decide_eq_true hj
    subst this; exact hS.z
end Go.Dc.Pl
end
section
set_option linter.all false
namespace Go.Dc.Pl
open Go Go.Hw Go.Dc
set_option maxRecDepth 100000
noncomputable def cntR (f : Func) (m : Nat) : Nat := ((List.range m).filter (rc f)).length
noncomputable def prI (f : Func) (x : Inst) : Inst := if isJ x = true then { x with N := (cntR f x.N.toNat : Nat) } else x
noncomputable def prC (f : Func) : List Inst → Nat → List Inst
  | [], _ => []
  | x :: q, k => if rc f k = true then prI f x :: prC f q (k + 1) else prC f q (k + 1)
noncomputable def pruneF (f : Func) : Func := { f with Code := prC f f.Code 0 }
theorem cntR_le (f : Func) (m : Nat) : cntR f m ≤ m := by
  have := List.length_filter_le (rc f) (List.range m); simpa [cntR] using this
theorem cntR_succ (f : Func) (m : Nat) : cntR f (m + 1) = cntR f m + if rc f m = true then 1 else 0 := by
  unfold cntR; rw [List.range_succ, List.filter_append, List.length_append]; cases h : rc f m <;> simp [h]
theorem filt_lt (p : Nat → Bool) (t : Nat) : ∀ n, t ≤ n → (((List.range n).filter p).filter fun k => decide (k < t)).length = ((List.range t).filter p).length
  | 0, h => by obtain rfl : t = 0 := by omega
               rfl
  | n + 1, h => by
    by_cases e : t = n + 1
    · subst e
      rw [List.filter_eq_self.2]
      intro a ha
      have := List.mem_range.1 (List.mem_filter.1 ha).1
      simpa using this
    · rw [List.range_succ, List.filter_append, List.filter_append, List.length_append, filt_lt p t n (by omega)]
      have : (List.filter (fun k => decide (k < t)) (List.filter p [n])) = [] := by
        rw [List.filter_eq_nil_iff]
        intro a ha
        have := (List.mem_filter.1 ha).1
        simp at this; simp; omega
      rw [this]; rfl
theorem own_num (x : Inst) (t : Nat) (hx : x.N = t) : ∀ (l : List Nat) (i k : Nat), i + l.length ≤ 100 → simplify_Prune_L2 x (l.map fun k : Nat => (k : Int)) (i : Int) k = some ((i + (l.filter fun k => decide (k < t)).length : Nat) : Int)
  | [], i, k, _ => by simp [simplify_Prune_L2]
  | a :: l, i, k, h => by
    rw [List.length_cons] at h
    rw [List.map_cons, simplify_Prune_L2, hx, wrapS (by omega), own_num x t hx l (i + 1) (k + 1) (by omega), own_num x t hx l i (k + 1) (by omega), List.filter_cons]
    by_cases e : a < t
    · rw [show ltI (a : Int) (t : Int) = true by rw [ltI_d]; exact decide_eq_true (by omega), cond_true, if_pos (by simpa using e), List.length_cons]; congr 2; omega
    · rw [show ltI (a : Int) (t : Int) = false by rw [ltI_d]; exact decide_eq_false (by omega), cond_false, if_neg (by simpa using e)]
noncomputable def kpt (f : Func) : List Nat := (List.range f.Code.length).filter (rc f)
theorem kpt_len (f : Func) : (kpt f).length ≤ f.Code.length := by
  have := List.length_filter_le (rc f) (List.range f.Code.length); simpa [kpt] using this
theorem own_reach (fuel : Nat) (f : Func) : cfg_Reach (fuel + 100) f = some (if fck f = 0 then ((kpt f).map fun k : Nat => (k : Int), 0) else ([], fck f)) := by
  rw [cfg_Reach, show fuel + 100 = (fuel + 92) + 8 from rfl, cfg_ck, Option.bind_some, eqI_d]
  by_cases h : fck f = 0
  · have hf := fck_iff.1 h
    obtain ⟨m, e, hm⟩ := own_visit fuel hf
    rw [decide_eq_true h, if_pos h, Bool.not_true, cond_false, show (fuel + 92) + 8 = fuel + 100 from rfl, e, Option.bind_some, cfg_sort hf.len, Option.bind_some]
    refine congrArg (fun l : List Nat => some (l.map fun k : Nat => (k : Int), (0 : Int))) ?_
    exact List.filter_congr fun j hj => hm j (List.mem_range.1 hj)
  · rw [decide_eq_false h, if_neg h]; rfl
theorem num_eq {f : Func} (hf : Fok f) {x : Inst} (hx : x ∈ f.Code) (h : isJ x = true) : simplify_Prune_L2 x ((kpt f).map fun k : Nat => (k : Int)) 0 0 = some ((cntR f x.N.toNat : Nat) : Int) := by
  have hlen := hf.len
  obtain ⟨t, e, ht, et⟩ := tgtN hf hx (isJ_iff.1 h)
  have := own_num x t e (kpt f) 0 0 (by have := kpt_len f; omega)
  rw [show ((0 : Nat) : Int) = 0 from rfl] at this
  rw [this, et, Nat.zero_add, kpt, filt_lt _ _ _ ht]; rfl
theorem own_prune_L1 {f : Func} (hf : Fok f) (e : Int) : ∀ (r q i : Nat) (l : List Inst), r + i = (kpt f).length → r < q → l.length = i → simplify_Prune_L1 f ((kpt f).map fun k : Nat => (k : Int), e) q (i : Int) l = some (l ++ ((kpt f).drop i).map fun k => prI f (gd f.Code k))
  | r, 0, _, _, _, h, _ => absurd h (by omega)
  | 0, q + 1, i, l, hi, _, hl => by
    rw [simplify_Prune_L1, List.length_map, show ltI (i : Int) (((kpt f).length : Nat) : Int) = false by rw [ltI_d]; exact decide_eq_false (by omega), List.drop_eq_nil_of_le (by omega)]; simp
  | r + 1, q + 1, i, l, hi, hq, hl => by
    have hlen := hf.len
    have hkl := kpt_len f
    have hk : (kpt f)[i]? = some (kpt f)[i] := List.getElem?_eq_getElem (by omega)
    have hd := drop_at hk
    have hkm := List.mem_of_getElem? hk
    generalize (kpt f)[i] = k at hk hd hkm
    have hkn : k < f.Code.length := List.mem_range.1 (List.mem_filter.1 hkm).1
    have hx : f.Code[k]? = some f.Code[k] := List.getElem?_eq_getElem hkn
    generalize f.Code[k] = x at hx
    have hm := List.mem_of_getElem? hx
    have hlim : limB 64 (l.length + 1) = true := limB_small (by decide) (by omega)
    have hnum : Option.bind (α := Int) (cond (isJ x) (Option.bind (α := Int) (guardO (lenB (kpt f).length) (Option.bind (simplify_Prune_L2 x ((kpt f).map fun k : Nat => (k : Int)) 0 0) (fun i => some i))) (fun i => some i)) (some x.N)) (fun n => some ({ x with N := n } : Inst)) = some (prI f x) := by
      rw [prI]
      cases hj : isJ x
      · rfl
      · rw [cond_true, if_pos rfl, lenB_small (by omega), guardO_t, num_eq hf hm hj]; rfl
    obtain ⟨n, hn, hp⟩ : ∃ n, cond (isJ x) (Option.bind (α := Int) (guardO (lenB (kpt f).length) (Option.bind (simplify_Prune_L2 x ((kpt f).map fun k : Nat => (k : Int)) 0 0) (fun i => some i))) (fun i => some i)) (some x.N) = some n ∧ ({ x with N := n } : Inst) = prI f x := by
      cases hc : cond (isJ x) (Option.bind (α := Int) (guardO (lenB (kpt f).length) (Option.bind (simplify_Prune_L2 x ((kpt f).map fun k : Nat => (k : Int)) 0 0) (fun i => some i))) (fun i => some i)) (some x.N) with
      | none => rw [hc] at hnum; cases hnum
      | some n => rw [hc] at hnum; exact ⟨n, rfl, Option.some.inj hnum⟩
    rw [simplify_Prune_L1, List.length_map, show ltI (i : Int) (((kpt f).length : Nat) : Int) = true by rw [ltI_d]; exact decide_eq_true (by omega), cond_true, getI_nat, List.getElem?_map, hk, Option.map_some, Option.bind_some, getI_nat, hx, Option.bind_some]
    show Option.bind (Option.bind (cond (isJ x) _ _) _) _ = _
    rw [hn, Option.bind_some, hp, Option.bind_some, List.length_singleton, hlim, guardO_t, Option.bind_some, Option.bind_some, wrapS (by omega),
      own_prune_L1 hf e r q (i + 1) _ (by omega) (by omega) (by simp; omega), hd, List.map_cons, gd_eq hx, List.append_assoc]; rfl
theorem kpt_map (f : Func) : ∀ (q : List Inst) (k : Nat), q = f.Code.drop k → (((List.range' k q.length).filter (rc f)).map fun k => prI f (gd f.Code k)) = prC f q k
  | [], k, _ => rfl
  | x :: q, k, h => by
    have hx : f.Code[k]? = some x := by rw [← List.head?_drop, ← h]; rfl
    have hq : q = f.Code.drop (k + 1) := by rw [← List.tail_drop, ← h]; rfl
    rw [List.length_cons, List.range'_succ, List.filter_cons, prC]
    cases hr : rc f k
    · exact kpt_map f q (k + 1) hq
    · rw [if_pos rfl, if_pos rfl, List.map_cons, gd_eq hx, kpt_map f q (k + 1) hq]
theorem own_Prune (fuel : Nat) (f : Func) : simplify_Prune (fuel + 100) f = some (if fck f = 0 then (pruneF f, 0) else (noF, fck f)) := by
  rw [simplify_Prune, own_reach, Option.bind_some]
  by_cases h : fck f = 0
  · have hf := fck_iff.1 h
    have hl := hf.len
    have hk := kpt_len f
    rw [if_pos h, if_pos h]
    show cond (!(eqI 0 0)) _ _ = _
    have := own_prune_L1 hf 0 (kpt f).length (fuel + 100) 0 [] (by omega) (by omega) rfl
    rw [show ((0 : Nat) : Int) = 0 from rfl] at this
    have e := kpt_map f f.Code 0 rfl
    rw [← List.range_eq_range'] at e
    rw [show (!(eqI 0 0)) = false from rfl, cond_false, this, List.drop_zero, List.nil_append, kpt, e]; rfl
  · rw [if_neg h, if_neg h]
    show cond (!(eqI (fck f) 0)) _ _ = _
    rw [show (!(eqI (fck f) 0)) = true by simp [eqI_d, h], cond_true]; rfl
theorem ref_prune_L1 (f : Func) (hl : f.Code.length ≤ 64) : ∀ (q k : Nat) (l : List Int), k + q = f.Code.length → l.length = k → r15_Prune_L1 ((List.range f.Code.length).map (rc f)) q l ((cntR f k : Nat) : Int) k = some (l ++ (List.range' k q).map fun j => ((cntR f j : Nat) : Int), ((cntR f f.Code.length : Nat) : Int))
  | 0, k, l, hk, _ => by
    obtain rfl : k = f.Code.length := by omega
    simp [r15_Prune_L1]
  | q + 1, k, l, hk, hlk => by
    have hlim : limB 8 (l.length + 1) = true := limB_small (by decide) (by omega)
    have hc := cntR_le f k
    have key := fun n (hn : cntR f (k + 1) = n) => (hn ▸ ref_prune_L1 f hl q (k + 1) (l ++ [((cntR f k : Nat) : Int)]) (by omega) (by simp; omega))
    rw [r15_Prune_L1, Option.bind_some, List.length_singleton, hlim, guardO_t, Option.bind_some, List.getElem?_map, List.getElem?_range (by omega), Option.map_some, Option.bind_some, List.range'_succ, List.map_cons]
    have hs := cntR_succ f k
    cases hr : rc f k
    · rw [hr] at hs
      have hs : cntR f (k + 1) = cntR f k := by simpa using hs
      have := ref_prune_L1 f hl q (k + 1) (l ++ [((cntR f k : Nat) : Int)]) (by omega) (by simp; omega)
      rw [hs] at this
      rw [cond_false, this, List.append_assoc]; rfl
    · rw [hr] at hs
      have hs : cntR f (k + 1) = cntR f k + 1 := by simpa using hs
      have := ref_prune_L1 f hl q (k + 1) (l ++ [((cntR f k : Nat) : Int)]) (by omega) (by simp; omega)
      rw [hs] at this
      rw [cond_true, wrapS (by omega), this, List.append_assoc]; rfl
theorem ref_prune_L2 {f : Func} (hf : Fok f) : ∀ (q : List Inst) (k : Nat) (l : List Inst), k + q.length = f.Code.length → l.length ≤ k → (∀ x ∈ q, x ∈ f.Code) → r15_Prune_L2 ((List.range f.Code.length).map (rc f)) ((List.range (f.Code.length + 1)).map fun j => ((cntR f j : Nat) : Int)) q k l = some (l ++ prC f q k)
  | [], k, l, _, _, _ => by rw [r15_Prune_L2, prC, List.append_nil]
  | x :: q, k, l, hk, hl, hq => by
    have hlen := hf.len
    rw [List.length_cons] at hk
    have hx := hq x List.mem_cons_self
    have hq' := fun y hy => hq y (List.mem_cons_of_mem _ hy)
    have hlim : limB 64 (l.length + 1) = true := limB_small (by decide) (by omega)
    rw [r15_Prune_L2, List.getElem?_map, List.getElem?_range (by omega), Option.map_some, Option.bind_some, prC]
    cases hr : rc f k
    · rw [Bool.not_false, cond_true, ref_prune_L2 hf q (k + 1) l (by omega) (by omega) hq']; rfl
    · rw [Bool.not_true, cond_false, if_pos rfl, prI]
      have key : ∀ y, r15_Prune_L2 ((List.range f.Code.length).map (rc f)) ((List.range (f.Code.length + 1)).map fun j => ((cntR f j : Nat) : Int)) q (k + 1) (l ++ [y]) = some (l ++ y :: prC f q (k + 1)) := fun y => by
        rw [ref_prune_L2 hf q (k + 1) (l ++ [y]) (by omega) (by simp; omega) hq', List.append_assoc]; rfl
      show cond (isJ x) _ _ = _
      cases hj : isJ x
      · rw [cond_false, if_neg (by simp), Option.bind_some, List.length_singleton, hlim, guardO_t, Option.bind_some, key]
      · obtain ⟨t, e, ht, et⟩ := tgtN hf hx (isJ_iff.1 hj)
        rw [cond_true, if_pos rfl, e, getI_nat, List.getElem?_map, List.getElem?_range (by omega), Option.map_some, Option.bind_some, Option.bind_some, List.length_singleton, hlim, guardO_t, Option.bind_some, key, ← e, et]
theorem ref_Prune (fuel : Nat) (f : Func) : r15_Prune (fuel + 100) f = some (if fck f = 0 then (pruneF f, 0) else (noF, fck f)) := by
  rw [r15_Prune, r15_ck, Option.bind_some]
  by_cases h : fck f = 0
  · have hf := fck_iff.1 h
    have hl := hf.len
    have h1 := ref_prune_L1 f hl f.Code.length 0 [] (by omega) rfl
    rw [show cntR f 0 = 0 from rfl, show ((0 : Nat) : Int) = 0 from rfl] at h1
    have h2 : (([] : List Int) ++ (List.range' 0 f.Code.length).map fun j => ((cntR f j : Nat) : Int)) ++ [((cntR f f.Code.length : Nat) : Int)] = (List.range (f.Code.length + 1)).map fun j => ((cntR f j : Nat) : Int) := by
      rw [List.range_succ, List.map_append, List.range_eq_range']; rfl
    have h3 := ref_prune_L2 hf f.Code 0 [] (by omega) (by simp) (fun x h => h)
    rw [if_pos h, show (!(eqI (fck f) 0)) = false by simp [eqI_d, h], cond_false, ref_without fuel hf, Option.bind_some, h1]
    simp only [Option.bind_some]
    rw [limB_small (by decide) (by simp; omega), guardO_t, h2, h3]; rfl
  · rw [if_neg h, show (!(eqI (fck f) 0)) = true by simp [eqI_d, h], cond_true]; rfl
end Go.Dc.Pl
end
section
set_option linter.all false
namespace Go.Dc
open Go Go.Hw Go.Proofs
set_option maxRecDepth 100000

def law15_SimplifyTwice (fuelN : Nat) (a0 : Func) : Option Bool :=
  cond (ltI 30 ((a0.Code.length : Nat) : Int)) (Option.bind (law15_exampleHolds fuelN) (fun y2 => some y2)) (Option.bind (simplify_Thread fuelN a0) (fun y4 => Option.bind (simplify_Prune fuelN a0) (fun y6 => cond (orB (!(eqI y4.2 0)) (!(eqI y6.2 0))) (guardO (orB (!(eqI y4.2 y6.2)) ((law15_exampleHolds fuelN).isSome)) (some (andB (eqI y4.2 y6.2) ((law15_exampleHolds fuelN).getD default)))) (Option.bind (simplify_Thread fuelN y4.1) (fun y10 => Option.bind (simplify_Prune fuelN y6.1) (fun y12 => guardO (orB (!(andB (eqI y10.2 0) (eqI y12.2 0))) ((r15_SameCode y4.1 y10.1).isSome)) (guardO (orB (!(andB (andB (eqI y10.2 0) (eqI y12.2 0)) ((r15_SameCode y4.1 y10.1).getD default))) ((r15_SameCode y6.1 y12.1).isSome)) (guardO (orB (!(andB (andB (andB (eqI y10.2 0) (eqI y12.2 0)) ((r15_SameCode y4.1 y10.1).getD default)) ((r15_SameCode y6.1 y12.1).getD default))) ((law15_exampleHolds fuelN).isSome)) (some (andB (andB (andB (andB (eqI y10.2 0) (eqI y12.2 0)) ((r15_SameCode y4.1 y10.1).getD default)) ((r15_SameCode y6.1 y12.1).getD default)) ((law15_exampleHolds fuelN).getD default)))))))))))

end Go.Dc
end
section
set_option linter.all false
namespace Go.Dc.Pl
open Go Go.Hw Go.Dc
set_option maxRecDepth 100000
theorem ic_N {x : Inst} (h : icode x = 0) (hj : isJ x = true) (m : Int) : icode { x with N := m } = 0 := by
  obtain ⟨uA, uB, uC, uO, uN, uF, uR, o, a, b, c, d, e, f, g⟩ := ic_ok h
  have h4 := isJ_iff.1 hj
  have hu : uN = true := by
    rcases h4 with h4 | h4
    · rw [h4, show r07_has 4 78 = some true from by kernel_rfl] at e; exact (Option.some.inj e).symm
    · rw [h4, show r07_has 5 78 = some true from by kernel_rfl] at e; exact (Option.some.inj e).symm
  have := (icode_iff (x := { x with N := m }) (ic_op h).1 (ic_op h).2 a b c d e f g).2 ⟨o.zA, o.zB, o.zC, o.zO, (fun h => by rw [hu] at h; cases h), o.zF, o.zR, o.A, o.B, o.C, o.R, o.F, fun h1 => by
    have : x.Op = 1 := h1
    omega⟩
  simpa [eqI] using this
theorem thr_op (f : Func) (x : Inst) : (thr f x).Op = x.Op := by unfold thr; split <;> rfl
theorem thr_isJ (f : Func) (x : Inst) : isJ (thr f x) = isJ x := by unfold isJ; rw [thr_op]
theorem fin_le {f : Func} (hf : Fok f) : ∀ (r a b : Nat), a ≤ f.Code.length → fin f r a = some b → b ≤ f.Code.length
  | 0, _, _, _, h => by cases h
  | r + 1, a, b, ha, h => by
    rw [fin] at h
    cases hx : f.Code[a]? with
    | none => rw [hx] at h; cases h; exact ha
    | some x =>
      rw [hx] at h
      simp only at h
      split at h
      · obtain ⟨t, _, ht, e⟩ := tgtN hf (List.mem_of_getElem? hx) (.inl ‹_›)
        rw [e] at h; exact fin_le hf r t b ht h
      · cases h; exact ha
theorem finT_le {f : Func} (hf : Fok f) {a : Nat} (ha : a ≤ f.Code.length) : finT f a ≤ f.Code.length := by
  unfold finT
  cases h : fin f (f.Code.length + 1) a with
  | none => exact ha
  | some b => exact fin_le hf _ _ _ ha h
theorem thread_ok {f : Func} (hf : Fok f) : Fok (threadF f) := by
  have hl : (threadF f).Code.length = f.Code.length := by simp [threadF]
  refine ⟨by rw [hl]; exact hf.len, fun y hy => ?_, fun y hy hj => ?_⟩
  · obtain ⟨x, hx, rfl⟩ := List.mem_map.1 (show y ∈ f.Code.map (thr f) from hy)
    unfold thr
    split
    · exact ic_N (hf.ic x hx) ‹_› _
    · exact hf.ic x hx
  · obtain ⟨x, hx, rfl⟩ := List.mem_map.1 (show y ∈ f.Code.map (thr f) from hy)
    rw [hl]
    have hj' : isJ x = true := by rw [← thr_isJ f]; exact isJ_iff.2 hj
    obtain ⟨t, _, ht, e⟩ := tgtN hf hx (isJ_iff.1 hj')
    unfold thr
    rw [if_pos hj', e]
    have := finT_le hf ht
    show 0 ≤ ((finT f t : Nat) : Int) ∧ ((finT f t : Nat) : Int) ≤ _
    omega
theorem fin_end {f : Func} : ∀ (r a b : Nat), fin f r a = some b → ∀ x, f.Code[b]? = some x → x.Op ≠ 4
  | 0, _, _, h => by cases h
  | r + 1, a, b, h => by
    rw [fin] at h
    cases hx : f.Code[a]? with
    | none => rw [hx] at h; cases h; intro y hy; rw [hx] at hy; cases hy
    | some x =>
      rw [hx] at h
      simp only at h
      split at h
      · exact fin_end r _ b h
      · cases h; intro y hy; rw [hx] at hy; cases hy; assumption
theorem fin_at {f : Func} {r b : Nat} (h : ∀ x, f.Code[b]? = some x → x.Op ≠ 4) : fin f (r + 1) b = some b := by
  rw [fin]
  cases hx : f.Code[b]? with
  | none => rfl
  | some x => simp only; rw [if_neg (h x hx)]
theorem fin_jmp {f : Func} {r a : Nat} {x : Inst} (hx : f.Code[a]? = some x) (h4 : x.Op = 4) : fin f (r + 1) a = fin f r x.N.toNat := by rw [fin, hx]; simp only; rw [if_pos h4]
def Stb (f : Func) (r : Nat) : Prop := ∀ a, a ≤ f.Code.length → fin f (r + 1) a ≠ none → fin f r a ≠ none
theorem fin_mono (f : Func) : ∀ (r a : Nat), fin f r a ≠ none → fin f (r + 1) a ≠ none
  | 0, _, h => absurd rfl h
  | r + 1, a, h => by
    rw [fin] at h ⊢
    cases hx : f.Code[a]? with
    | none => simp
    | some x =>
      rw [hx] at h
      simp only at h ⊢
      split
      · rw [if_pos ‹_›] at h; exact fin_mono f r _ h
      · simp
theorem stb_next {f : Func} (hf : Fok f) {r : Nat} (h : Stb f r) : Stb f (r + 1) := by
  intro a ha h2
  cases hx : f.Code[a]? with
  | none => rw [fin, hx]; simp
  | some x =>
    by_cases h4 : x.Op = 4
    · obtain ⟨t, _, ht, e⟩ := tgtN hf (List.mem_of_getElem? hx) (.inl h4)
      rw [fin_jmp hx h4, e] at h2 ⊢
      exact h t ht h2
    · rw [fin, hx]; simp [h4]
def stL (f : Func) (r : Nat) : List Bool := (List.range (f.Code.length + 1)).map fun a => (fin f r a).isSome
theorem stL_on (f : Func) (r a : Nat) : on (stL f r) a = (decide (a ≤ f.Code.length) && (fin f r a).isSome) := by
  unfold on stL
  rw [List.getD_eq_getElem?_getD, List.getElem?_map]
  by_cases h : a ≤ f.Code.length
  · rw [List.getElem?_range (by omega)]; simp [h]
  · rw [List.getElem?_eq_none (by simp; omega)]; simp [h]
theorem stb_count {f : Func} (hf : Fok f) : ∀ r, Stb f r ∨ r ≤ (stL f r).count true
  | 0 => .inr (by omega)
  | r + 1 => by
    rcases stb_count hf r with h | h
    · exact .inl (stb_next hf h)
    · by_cases hs : Stb f r
      · exact .inl (stb_next hf hs)
      · have hm : ∀ j, on (stL f r) j = true → on (stL f (r + 1)) j = true := fun j hj => by
          rw [stL_on, Bool.and_eq_true] at hj ⊢
          refine ⟨hj.1, ?_⟩
          have := fin_mono f r j (by intro e; rw [e] at hj; simp at hj)
          cases hh : fin f (r + 1) j with
          | none => exact absurd hh this
          | some _ => rfl
        have hne : stL f (r + 1) ≠ stL f r := by
          intro e
          refine hs fun a ha h2 h3 => ?_
          have h4 : on (stL f (r + 1)) a = on (stL f r) a := by rw [e]
          rw [stL_on, stL_on, h3] at h4
          cases hh : fin f (r + 1) a with
          | none => exact h2 hh
          | some _ => rw [hh] at h4; simp [ha] at h4
        have := (count_lt (by simp [stL]) hm hne).resolve_right hne
        exact .inr (by omega)
theorem stb_n {f : Func} (hf : Fok f) : Stb f (f.Code.length + 1) := by
  rcases stb_count hf (f.Code.length + 1) with h | h
  · exact h
  · intro a ha _ h3
    have hl : (stL f (f.Code.length + 1)).length = f.Code.length + 1 := by simp [stL]
    have := List.count_eq_length.1 (Nat.le_antisymm List.count_le_length (by rw [hl]; exact h))
    have ho : on (stL f (f.Code.length + 1)) a = true := by
      unfold on
      rw [List.getD_eq_getElem?_getD, List.getElem?_eq_getElem (by rw [hl]; omega)]
      exact (this _ (List.getElem_mem _)).symm
    rw [stL_on, h3] at ho; simp at ho
theorem inf_next {f : Func} (hf : Fok f) {a : Nat} {x : Inst} (ha : a ≤ f.Code.length) (h : fin f (f.Code.length + 1) a = none) (hx : f.Code[a]? = some x) (h4 : x.Op = 4) : fin f (f.Code.length + 1) x.N.toNat = none := by
  cases hh : fin f (f.Code.length + 1) x.N.toNat with
  | none => rfl
  | some b =>
    have h2 : fin f (f.Code.length + 1 + 1) a ≠ none := by rw [fin_jmp hx h4, hh]; simp
    exact absurd h (stb_n hf a ha h2)
theorem thr_at {f : Func} {a : Nat} : (threadF f).Code[a]? = (f.Code[a]?).map (thr f) := by rw [threadF, List.getElem?_map]
theorem inf_thr {f : Func} (hf : Fok f) : ∀ (r a : Nat), a ≤ f.Code.length → fin f (f.Code.length + 1) a = none → fin (threadF f) r a = none
  | 0, _, _, _ => rfl
  | r + 1, a, ha, h => by
    cases hx : f.Code[a]? with
    | none => rw [fin, hx] at h; cases h
    | some x =>
      by_cases h4 : x.Op = 4
      · have hn := inf_next hf ha h hx h4
        obtain ⟨t, _, ht, e⟩ := tgtN hf (List.mem_of_getElem? hx) (.inl h4)
        rw [e] at hn
        have hg : (threadF f).Code[a]? = some (thr f x) := by rw [thr_at, hx]; rfl
        rw [fin_jmp hg (by rw [thr_op]; exact h4)]
        have hN : (thr f x).N.toNat = t := by
          unfold thr; rw [if_pos (isJ_iff.2 (.inl h4)), e]
          show ((finT f t : Nat) : Int).toNat = t
          rw [Int.toNat_natCast, finT, hn]; rfl
        rw [hN]; exact inf_thr hf r t ht hn
      · rw [fin, hx] at h; simp [h4] at h
theorem finT_twice {f : Func} (hf : Fok f) {t : Nat} (ht : t ≤ f.Code.length) : finT (threadF f) (finT f t) = finT f t := by
  have hl : (threadF f).Code.length = f.Code.length := by simp [threadF]
  unfold finT
  cases h : fin f (f.Code.length + 1) t with
  | none => rw [Option.getD_none, inf_thr hf _ t ht h]; rfl
  | some b =>
    rw [Option.getD_some, fin_at (r := (threadF f).Code.length)]; rfl
    intro y hy
    rw [thr_at] at hy
    cases hx : f.Code[b]? with
    | none => rw [hx] at hy; cases hy
    | some x => rw [hx] at hy; cases hy; rw [thr_op]; exact fin_end _ _ _ h x hx
theorem thread_twice {f : Func} (hf : Fok f) : threadF (threadF f) = threadF f := by
  show ({ f with Code := (f.Code.map (thr f)).map (thr (threadF f)) } : Func) = { f with Code := f.Code.map (thr f) }
  congr 1
  rw [List.map_map]
  refine List.map_congr_left fun x hx => ?_
  show thr (threadF f) (thr f x) = thr f x
  unfold thr
  cases hj : isJ x
  · simp only [hj, Bool.false_eq_true, if_false]
  · obtain ⟨t, _, ht, e⟩ := tgtN hf hx (isJ_iff.1 hj)
    rw [if_pos rfl, e, if_pos (show isJ { x with N := ((finT f t : Nat) : Int) } = true from hj)]
    show ({ x with N := ((finT (threadF f) ((finT f t : Nat) : Int).toNat : Nat) : Int) } : Inst) = _
    rw [Int.toNat_natCast, finT_twice hf ht]
theorem prI_op (f : Func) (x : Inst) : (prI f x).Op = x.Op := by unfold prI; split <;> rfl
theorem prI_isJ (f : Func) (x : Inst) : isJ (prI f x) = isJ x := by unfold isJ; rw [prI_op]
theorem prC_len (f : Func) : ∀ (q : List Inst) (k : Nat), (prC f q k).length + cntR f k = cntR f (k + q.length)
  | [], k => by simp [prC]
  | x :: q, k => by
    have := prC_len f q (k + 1)
    have hs := cntR_succ f k
    rw [prC, List.length_cons, show k + (q.length + 1) = k + 1 + q.length by omega, ← this]
    cases h : rc f k
    · rw [h] at hs; simp at hs; simp [hs]
    · rw [h] at hs; simp at hs; simp [hs]; omega
theorem prune_len (f : Func) : (pruneF f).Code.length = cntR f f.Code.length := by
  have := prC_len f f.Code 0
  rw [Nat.zero_add] at this
  rw [← this]; rfl
theorem prC_of (f : Func) : ∀ (q : List Inst) (k j : Nat) (y : Inst), (prC f q k)[j]? = some y → ∃ i x, q[i]? = some x ∧ rc f (k + i) = true ∧ y = prI f x ∧ j + cntR f k = cntR f (k + i)
  | [], _, _, _, h => by cases h
  | z :: q, k, j, y, h => by
    rw [prC] at h
    have hs := cntR_succ f k
    cases hk : rc f k
    · rw [hk] at h hs
      simp at h hs
      obtain ⟨i, x, a, b, c, d⟩ := prC_of f q (k + 1) j y h
      exact ⟨i + 1, x, by simpa using a, by rwa [show k + (i + 1) = k + 1 + i by omega], c, by rw [show k + (i + 1) = k + 1 + i by omega]; omega⟩
    · rw [hk] at h hs
      simp at h hs
      cases j with
      | zero =>
        simp at h
        exact ⟨0, z, rfl, hk, h.symm, by rw [Nat.add_zero, Nat.zero_add]⟩
      | succ j =>
        simp at h
        obtain ⟨i, x, a, b, c, d⟩ := prC_of f q (k + 1) j y h
        exact ⟨i + 1, x, by simpa using a, by rwa [show k + (i + 1) = k + 1 + i by omega], c, by rw [show k + (i + 1) = k + 1 + i by omega]; omega⟩
theorem prune_of {f : Func} {j : Nat} {y : Inst} (h : (pruneF f).Code[j]? = some y) : ∃ i x, f.Code[i]? = some x ∧ rc f i = true ∧ y = prI f x ∧ j = cntR f i := by
  obtain ⟨i, x, a, b, c, d⟩ := prC_of f f.Code 0 j y h
  rw [Nat.zero_add] at b d
  rw [show cntR f 0 = 0 from rfl] at d
  exact ⟨i, x, a, b, c, by omega⟩
theorem cntR_mono (f : Func) {a b : Nat} (h : a ≤ b) : cntR f a ≤ cntR f b := by
  induction b with
  | zero => obtain rfl : a = 0 := by omega
            exact Nat.le_refl _
  | succ b ih =>
    rcases Nat.lt_or_ge b a with h2 | h2
    · obtain rfl : a = b + 1 := by omega
      exact Nat.le_refl _
    · have := ih h2
      have := cntR_succ f b
      omega
theorem prune_ok {f : Func} (hf : Fok f) : Fok (pruneF f) := by
  have hl := prune_len f
  have hle := cntR_le f f.Code.length
  have hlen := hf.len
  refine ⟨by omega, fun y hy => ?_, fun y hy hj => ?_⟩
  · obtain ⟨j, hj⟩ := List.getElem?_of_mem hy
    obtain ⟨i, x, hx, _, rfl, _⟩ := prune_of hj
    unfold prI
    split
    · exact ic_N (hf.ic x (List.mem_of_getElem? hx)) ‹_› _
    · exact hf.ic x (List.mem_of_getElem? hx)
  · obtain ⟨j, hj'⟩ := List.getElem?_of_mem hy
    obtain ⟨i, x, hx, _, rfl, _⟩ := prune_of hj'
    have hjx : isJ x = true := by rw [← prI_isJ f]; exact isJ_iff.2 hj
    obtain ⟨t, _, ht, e⟩ := tgtN hf (List.mem_of_getElem? hx) (isJ_iff.1 hjx)
    have := cntR_mono f ht
    unfold prI
    rw [if_pos hjx, e, hl]
    show 0 ≤ ((cntR f t : Nat) : Int) ∧ ((cntR f t : Nat) : Int) ≤ _
    omega
theorem all_cnt {f : Func} (h : ∀ i, i < f.Code.length → rc f i = true) : ∀ m, m ≤ f.Code.length → cntR f m = m
  | 0, _ => rfl
  | m + 1, hm => by rw [cntR_succ, all_cnt h m (by omega), h m (by omega)]; rfl
theorem prune_id {f : Func} (hf : Fok f) (h : ∀ i, i < f.Code.length → rc f i = true) : pruneF f = f := by
  have hI : ∀ x ∈ f.Code, prI f x = x := fun x hx => by
    unfold prI
    split
    · rename_i hj
      obtain ⟨t, e, ht, et⟩ := tgtN hf hx (isJ_iff.1 hj)
      rw [et, all_cnt h t ht, ← e]
    · rfl
  have hC : ∀ (q : List Inst) (k : Nat), k + q.length = f.Code.length → (∀ x ∈ q, x ∈ f.Code) → prC f q k = q := by
    intro q
    induction q with
    | nil => intro k _ _; rfl
    | cons x q ih =>
      intro k hk hq
      rw [List.length_cons] at hk
      rw [prC, if_pos (h k (by omega)), hI x (hq x List.mem_cons_self), ih (k + 1) (by omega) fun y hy => hq y (List.mem_cons_of_mem _ hy)]
  unfold pruneF
  rw [hC f.Code 0 (by omega) fun x h => h]
end Go.Dc.Pl
end
section
set_option linter.all false
namespace Go.Dc
open Go Go.Hw Go.Proofs
set_option maxRecDepth 100000
def law15_small_L1 : List Func → Nat → Option (Unit ⊕ Bool)
  | [], k42 => some (.inl ())
  | x59 :: q55, k42 => cond (ltI 30 ((x59.Code.length : Nat) : Int)) (some (.inr false)) (law15_small_L1 q55 (k42 + 1))

def law15_small (a0 : Program) : Option Bool :=
  cond (orB (orB (orB (orB (ltI 4 ((a0.Funcs.length : Nat) : Int)) (ltI 20 ((a0.Vars.length : Nat) : Int))) (ltI 20 ((a0.Mutexes.length : Nat) : Int))) (ltI 20 ((a0.Conds.length : Nat) : Int))) (ltI 20 ((a0.Threads.length : Nat) : Int))) (some false) (Option.bind (α := Unit ⊕ Bool) (Option.bind (law15_small_L1 a0.Funcs 0) (fun o => match o with | .inl _ => some (.inl ()) | .inr r63 => some (.inr r63))) (fun o => match o with | .inl _ => some true | .inr r64 => some r64))

set_option maxHeartbeats 2000000 in
theorem at_law15_small {a0 : Program} {r : Bool} (hs : law15_small a0 = some r) : At Tryd.prog 46 [.agg (eA a0)] (bV r) := by
  refine at_bound (by kernel_rfl) fun hb => ?_
  have hb1 : LenOk (.sl a0.Vars.length (encL a0.Vars)) := lkc hb
  have hb2 : LenOk (.sl a0.Mutexes.length (encL a0.Mutexes)) := lkc hb
  have hb3 : LenOk (.sl a0.Conds.length (encL a0.Conds)) := lkc hb
  have hb4 : LenOk (.sl a0.Funcs.length (encL a0.Funcs)) := lkc hb
  have hb5 : LenOk (.sl a0.Threads.length (encL a0.Threads)) := lkc hb
  refine at_code mixed Tryd.func46 (by kernel_rfl) rfl (by kernel_rfl) rfl fun Q hQ => ?_
  rw [law15_small] at hs
  refine goG f0 f0 ?_
  revert hs; refine cS f0 ?_ ?_ <;> intro h1 hs
  · refine goG f0 f0 ?_
    obtain rfl := sj hs
    exact hQ _ _ (rg f0 (Gh.refl _))
  · refine goG2 f0 f0 ?_
    revert hs; refine bK fun o32 e31 hs => ?_
    refine awp_cutK (fun (v : Unit) (σ : St) => some (.inl v) = some o32 ∧ 3 ≤ σ.gen) (by rfl) (fun Q hK33 hX34 => ?_) (fun v σ3 hp => ?_)
    · refine goG f0 f0 ?_
      revert e31; refine bK fun o50 e49 e31 => ?_
      refine awp_loopW (fun (v : (List Func) × Nat) (σ : St) => law15_small_L1 v.1 v.2 = some o50 ∧ v.1 = a0.Funcs.drop v.2 ∧ σ.env 34 = .cell (sC a0.Funcs) ∧ σ.env 35 = iV .i64 ((a0.Funcs.length : Nat) : Int) ∧ σ.env 36 = iV .i64 ((v.2 : Nat) : Int) ∧ 3 ≤ σ.gen) (fun v => v.1.length) _ (Gh.refl _) (a0.Funcs, 0) ⟨e49, by simp, pv f0, pv f0, pv f0, pg⟩ fun v σ6 hp L51 hL52 => ?_
      obtain ⟨q54, k42⟩ := v
      dsimp only at hp hL52
      obtain ⟨e49, hd53, h5_34, h5_35, h5_36, n5_g⟩ := hp
      rcases q54 with _ | ⟨x59, q55⟩
      · have hlt56 := drop_end hd53
        rw [law15_small_L1] at e49; try dsimp only at e49
        have F1 := an h5_34 (an h5_35 h5_36)
        refine goR F1 ?_
        refine condK_f (by simp [ltI]; omega) ?_
        obtain rfl := sj e49
        try dsimp only at e31
        exact hK33 () _ _ (Gh.refl _) ⟨e31, pg⟩
      · obtain ⟨hx58, hlt56, hd60⟩ := drop_next hd53
        have ew57 := wrap_succ hlt56 (hb4).len
        rw [law15_small_L1] at e49; try dsimp only at e49
        have F2 := an h5_34 (an h5_35 (an h5_36 (an hlt56 ew57)))
        refine goR F2 ?_
        refine condK_t (by simp [ltI]; omega) ?_
        have f61 : partCV Tryd.prog 24 (encL a0.Funcs) (k42 * 2) = some (.agg (eA x59)) := partCV_enc hx58 (f := 0) (by simp)
        have F3 := an F2 f61
        refine goR F3 ?_
        revert e49; refine cS F3 ?_ ?_ <;> intro h62 e49
        · refine goR F3 ?_
          obtain rfl := sj e49
          try dsimp only at e31
          obtain rfl := sj e31
          try dsimp only at hs
          refine hX34 _ _ (by simp) ?_
          refine goR F3 ?_
          obtain rfl := sj hs
          exact hQ _ _ (rg F3 (Gh.refl _))
        · refine goR F3 ?_
          exact hL52 (q55, (k42 + 1)) _ _ (Gh.refl _) ⟨e49, hd60, pv F3, pv F3, pv F3, pg⟩ (by simp)
    · obtain ⟨e31, n4_g⟩ := hp
      obtain rfl := sj e31
      try dsimp only at hs
      refine goG f0 f0 ?_
      obtain rfl := sj hs
      exact hQ _ _ (rg f0 (Gh.refl _))
end Go.Dc
end
section
set_option linter.all false
namespace Go.Dc
open Go Go.Hw Go.Proofs
set_option maxRecDepth 100000
def slices_Equal_api_Inst_L1 (a1 : List Inst) : List Inst → Nat → Option (Unit ⊕ Bool)
  | [], k76 => some (.inl ())
  | x102 :: q98, k76 => Option.bind (a1[k76]?) (fun x109 => cond (!(andB (eqI x102.Op x109.Op) (andB (eqI x102.A x109.A) (andB (eqI x102.B x109.B) (andB (eqI x102.C x109.C) (andB (eqI x102.Obj x109.Obj) (andB (eqI x102.N x109.N) (andB (eqI x102.Fn x109.Fn) (andB (eqI x102.Order x109.Order) true))))))))) (some (.inr false)) (slices_Equal_api_Inst_L1 a1 q98 (k76 + 1)))

def slices_Equal_api_Inst (a0 : List Inst) (a1 : List Inst) : Option Bool :=
  cond (!(eqI ((a0.length : Nat) : Int) ((a1.length : Nat) : Int))) (some false) (Option.bind (α := Unit ⊕ Bool) (Option.bind (slices_Equal_api_Inst_L1 a1 a0 0) (fun o => match o with | .inl _ => some (.inl ()) | .inr r113 => some (.inr r113))) (fun o => match o with | .inl _ => some true | .inr r114 => some r114))

set_option maxHeartbeats 2000000 in
theorem at_slices_Equal_api_Inst {a0 : List Inst} {a1 : List Inst} {r : Bool} (hs : slices_Equal_api_Inst a0 a1 = some r) : At Tryd.prog 142 [.cell (sC a0), .cell (sC a1)] (bV r) := by
  refine at_bound (by kernel_rfl) fun hb => ?_
  have hb1 : LenOk (.sl a0.length (encL a0)) := lkc hb
  have hb2 : LenOk (.sl a1.length (encL a1)) := lkc hb
  refine at_code mixed Tryd.func142 (by kernel_rfl) rfl (by kernel_rfl) rfl fun Q hQ => ?_
  rw [slices_Equal_api_Inst] at hs
  refine goR f0 ?_
  revert hs; refine cS f0 ?_ ?_ <;> intro h1 hs
  · refine goR f0 ?_
    obtain rfl := sj hs
    exact hQ _ _ (rg f0 (Gh.refl _))
  · refine goR2 f0 ?_
    revert hs; refine bK fun o57 e56 hs => ?_
    refine awp_cutK (fun (v : Unit) (σ : St) => some (.inl v) = some o57 ∧ 3 ≤ σ.gen) (by rfl) (fun Q hK58 hX59 => ?_) (fun v σ3 hp => ?_)
    · refine goR f0 ?_
      revert e56; refine bK fun o93 e92 e56 => ?_
      refine awp_loopW (fun (v : (List Inst) × Nat) (σ : St) => slices_Equal_api_Inst_L1 a1 v.1 v.2 = some o93 ∧ v.1 = a0.drop v.2 ∧ σ.env 0 = .cell (sC a0) ∧ σ.env 1 = .cell (sC a1) ∧ σ.env 12 = iV .i64 ((a0.length : Nat) : Int) ∧ σ.env 13 = iV .i64 ((v.2 : Nat) : Int) ∧ 3 ≤ σ.gen) (fun v => v.1.length) _ (Gh.refl _) (a0, 0) ⟨e92, by simp, pv f0, pv f0, pv f0, pv f0, pg⟩ fun v σ6 hp L94 hL95 => ?_
      obtain ⟨q97, k76⟩ := v
      dsimp only at hp hL95
      obtain ⟨e92, hd96, h5_0, h5_1, h5_12, h5_13, n5_g⟩ := hp
      rcases q97 with _ | ⟨x102, q98⟩
      · have hlt99 := drop_end hd96
        rw [slices_Equal_api_Inst_L1] at e92; try dsimp only at e92
        have F1 := an h5_0 (an h5_1 (an h5_12 h5_13))
        refine goR F1 ?_
        refine condK_f (by simp [ltI]; omega) ?_
        obtain rfl := sj e92
        try dsimp only at e56
        exact hK58 () _ _ (Gh.refl _) ⟨e56, pg⟩
      · obtain ⟨hx101, hlt99, hd103⟩ := drop_next hd96
        have ew100 := wrap_succ hlt99 (hb1).len
        rw [slices_Equal_api_Inst_L1] at e92; try dsimp only at e92
        have F2 := an h5_0 (an h5_1 (an h5_12 (an h5_13 (an hlt99 ew100))))
        refine goR F2 ?_
        refine condK_t (by simp [ltI]; omega) ?_
        have f108 : partCV Tryd.prog 83 (encL a0) (k76 * 8) = some (.agg (eA x102)) := partCV_enc hx101 (f := 0) (by simp)
        revert e92; refine bK fun x109 hx110 e92 => ?_
        have hx110b := getN_some hx110
        have f111 : partCV Tryd.prog 83 (encL a1) (k76 * 8) = some (.agg (eA x109)) := partCV_enc hx110 (f := 0) (by simp)
        have F3 := an F2 (an f108 f111)
        refine goD F3 ?_
        revert e92; refine cS F3 ?_ ?_ <;> intro h112 e92
        · refine goD F3 ?_
          obtain rfl := sj e92
          try dsimp only at e56
          obtain rfl := sj e56
          try dsimp only at hs
          refine hX59 _ _ (by simp) ?_
          refine goD F3 ?_
          obtain rfl := sj hs
          exact hQ _ _ (rg F3 (Gh.refl _))
        · refine goD F3 ?_
          exact hL95 (q98, (k76 + 1)) _ _ (Gh.refl _) ⟨e92, hd103, pv F3, pv F3, pv F3, pv F3, pg⟩ (by simp)
    · obtain ⟨e56, n4_g⟩ := hp
      obtain rfl := sj e56
      try dsimp only at hs
      refine goR f0 ?_
      obtain rfl := sj hs
      exact hQ _ _ (rg f0 (Gh.refl _))
end Go.Dc
end
section
set_option linter.all false
namespace Go.Dc
open Go Go.Hw Go.Proofs
set_option maxRecDepth 100000
def simplify_function_L1 (fuelN : Nat) : Nat → ByteArray → (List Inst) → Option (Func × Int)
  | 0, _, _ => none
  | q35 + 1, s14, l15 => Option.bind (simplify_Fold fuelN ({ Name := s14, Code := l15 } : Func)) (fun y39 => cond (!(eqI y39.2 0)) (some ((({ Name := (⟨#[]⟩ : ByteArray), Code := [] } : Func), y39.2))) (Option.bind (simplify_Thread fuelN y39.1) (fun y42 => cond (!(eqI y42.2 0)) (some ((({ Name := (⟨#[]⟩ : ByteArray), Code := [] } : Func), y42.2))) (Option.bind (simplify_Prune fuelN y42.1) (fun y45 => cond (!(eqI y45.2 0)) (some ((({ Name := (⟨#[]⟩ : ByteArray), Code := [] } : Func), y45.2))) (Option.bind (slices_Equal_api_Inst l15 y45.1.Code) (fun y48 => cond y48 (some ((y45.1, 0))) (simplify_function_L1 fuelN q35 y45.1.Name y45.1.Code))))))))

def simplify_function (fuelN : Nat) (a0 : Func) : Option (Func × Int) :=
  Option.bind (simplify_function_L1 fuelN fuelN a0.Name a0.Code) (fun r51 => some r51)

set_option maxHeartbeats 2000000 in
theorem at_simplify_function {fuelN : Nat} {a0 : Func} {r : Func × Int} (hs : simplify_function fuelN a0 = some r) : At Tryd.prog 100 [.agg (eA a0)] (.tup [.agg (eA r.1), iV .i64 r.2]) := by
  refine at_bound (by kernel_rfl) fun hb => ?_
  have hb1 : LenOk (.sl a0.Code.length (encL a0.Code)) := lkc hb
  refine at_code mixed Tryd.func100 (by kernel_rfl) rfl (by kernel_rfl) rfl fun Q hQ => ?_
  rw [simplify_function] at hs
  refine goR f0 ?_
  revert hs; refine bK fun o30 e29 hs => ?_
  refine awp_loopW (fun (v : Nat × ByteArray × (List Inst)) (σ : St) => simplify_function_L1 fuelN v.1 v.2.1 v.2.2 = some o30 ∧ σ.env 1 = .cell (.ref (.o 1 0 0) 0) ∧ σ.env 2 = .cell (.ref (.o 1 1 0) 0) ∧ σ.hp (.o 1 0 0) = some (.cells [tC v.2.1, sC v.2.2]) ∧ σ.hp (.o 1 1 0) = some (.cells [tC (⟨#[]⟩ : ByteArray), .z]) ∧ 1 ≤ σ.gen) (fun v => v.1) _ (Gh.refl _) (fuelN, a0.Name, a0.Code) ⟨e29, pv f0, pv f0, pv f0, pv f0, pg⟩ fun v σ2 hp L31 hL32 => ?_
  obtain ⟨q34, s14, l15⟩ := v
  dsimp only at hp hL32
  obtain ⟨e29, h1_1, h1_2, g1_0, g1_1, n1_g⟩ := hp
  have n1_0 : ¬ (σ2.gen = 0) := by omega
  rcases q34 with _ | q35
  · rw [simplify_function_L1] at e29; cases e29
  · rw [simplify_function_L1] at e29; try dsimp only at e29
    have F1 := an h1_1 (an h1_2 (an g1_0 (an g1_1 n1_0)))
    refine goR F1 ?_
    revert e29; refine bK fun y39 hx40 e29 => ?_
    refine cP F1 (at_simplify_Fold hx40) ?_
    refine goR F1 ?_
    revert e29; refine cS F1 ?_ ?_ <;> intro h41 e29
    · refine goR F1 ?_
      obtain rfl := sj e29
      try dsimp only at hs
      obtain rfl := sj hs
      exact hQ _ _ (rg F1 (Gh.unz _))
    · refine goR F1 ?_
      revert e29; refine bK fun y42 hx43 e29 => ?_
      refine cP F1 (at_simplify_Thread hx43) ?_
      refine goR F1 ?_
      revert e29; refine cS F1 ?_ ?_ <;> intro h44 e29
      · refine goR F1 ?_
        obtain rfl := sj e29
        try dsimp only at hs
        obtain rfl := sj hs
        exact hQ _ _ (rg F1 (Gh.unz _))
      · refine goR F1 ?_
        revert e29; refine bK fun y45 hx46 e29 => ?_
        refine cP F1 (at_simplify_Prune hx46) ?_
        refine goR F1 ?_
        revert e29; refine cS F1 ?_ ?_ <;> intro h47 e29
        · refine goR F1 ?_
          obtain rfl := sj e29
          try dsimp only at hs
          obtain rfl := sj hs
          exact hQ _ _ (rg F1 (Gh.unz _))
        · refine goR F1 ?_
          revert e29; refine bK fun y48 hx49 e29 => ?_
          refine cP F1 (at_slices_Equal_api_Inst hx49) ?_
          refine goR F1 ?_
          revert e29; refine cS F1 ?_ ?_ <;> intro h50 e29
          · refine goR F1 ?_
            obtain rfl := sj e29
            try dsimp only at hs
            obtain rfl := sj hs
            exact hQ _ _ (rg F1 (Gh.refl _))
          · refine goR F1 ?_
            exact hL32 (q35, y45.1.Name, y45.1.Code) _ _ (Gh.refl _) ⟨e29, pv F1, pv F1, pv F1, pv F1, pg⟩ (by omega)
end Go.Dc
end
section
set_option linter.all false
namespace Go.Dc
open Go Go.Hw Go.Proofs
set_option maxRecDepth 100000
def slices_Clone_api_Func (a0 : List Func) : Option (List Func) := guardO (limB 40 a0.length) (some a0)

set_option maxHeartbeats 2000000 in
theorem at_slices_Clone_api_Func {a0 r : List Func} (hs : slices_Clone_api_Func a0 = some r) : CAt Tryd.prog 140 [.cell (sC a0)] [] (.ret (.cell (.sl (.r 0) 0 2 r.length))) [(.r 0, .pure (encL r))] := by
  rw [slices_Clone_api_Func] at hs
  obtain ⟨g1, hs⟩ := guardO_some hs
  obtain rfl := Option.some.inj hs
  obtain ⟨g1a, g1b⟩ := limB_t g1
  refine at_code mixed Tryd.func140 (by kernel_rfl) rfl (by kernel_rfl) rfl fun Q hQ => ?_
  repeat (first | simp | with_reducible first | refine awp_reg ?_ | refine And.intro (by omega) ?_ | refine optF_if (by omega) ?_)
  unfold nilK
  simp only [Tryd.underlying73]
  refine ⟨fun h => ?_, ?_⟩
  · have h0 := encL_nil_of (by simp) h
    subst h0
    repeat (first | simp | with_reducible first | refine awp_reg ?_ | refine And.intro (by omega) ?_ | refine optF_if (by omega) ?_)
    refine hQ _ _ (ret2g _ (Gh.void _ (.r 0) 2 2 rfl (by simp)) (by simp [St.void, St.kil]; rfl) (by first | rfl | simp) (by simp [St.void, St.kil]))
  · repeat (first | simp | with_reducible first | refine awp_reg ?_ | refine And.intro (by omega) ?_ | refine optF_if (by omega) ?_)
    refine hQ _ _ (ret2g _ (Gh.ren _ (.o 3 2 0) (.r 0) (by simp) rfl rfl) (by simp; rfl) (by first | rfl | simp) (by simp))
end Go.Dc
end
section
set_option linter.all false
namespace Go.Dc
open Go Go.Hw Go.Proofs
set_option maxRecDepth 100000
def slices_Clone_api_Start (a0 : List Start) : Option (List Start) := guardO (limB 16 a0.length) (some a0)

set_option maxHeartbeats 2000000 in
theorem at_slices_Clone_api_Start {a0 r : List Start} (hs : slices_Clone_api_Start a0 = some r) : CAt Tryd.prog 141 [.cell (sC a0)] [] (.ret (.cell (.sl (.r 0) 0 2 r.length))) [(.r 0, .pure (encL r))] := by
  rw [slices_Clone_api_Start] at hs
  obtain ⟨g1, hs⟩ := guardO_some hs
  obtain rfl := Option.some.inj hs
  obtain ⟨g1a, g1b⟩ := limB_t g1
  refine at_code mixed Tryd.func141 (by kernel_rfl) rfl (by kernel_rfl) rfl fun Q hQ => ?_
  repeat (first | simp | with_reducible first | refine awp_reg ?_ | refine And.intro (by omega) ?_ | refine optF_if (by omega) ?_)
  unfold nilK
  simp only [Tryd.underlying74]
  refine ⟨fun h => ?_, ?_⟩
  · have h0 := encL_nil_of (by simp) h
    subst h0
    repeat (first | simp | with_reducible first | refine awp_reg ?_ | refine And.intro (by omega) ?_ | refine optF_if (by omega) ?_)
    refine hQ _ _ (ret2g _ (Gh.void _ (.r 0) 2 2 rfl (by simp)) (by simp [St.void, St.kil]; rfl) (by first | rfl | simp) (by simp [St.void, St.kil]))
  · repeat (first | simp | with_reducible first | refine awp_reg ?_ | refine And.intro (by omega) ?_ | refine optF_if (by omega) ?_)
    refine hQ _ _ (ret2g _ (Gh.ren _ (.o 3 2 0) (.r 0) (by simp) rfl rfl) (by simp; rfl) (by first | rfl | simp) (by simp))
end Go.Dc
end
section
set_option linter.all false
namespace Go.Dc
open Go Go.Hw Go.Proofs
set_option maxRecDepth 100000
def slices_Clone_api_Var (a0 : List Var) : Option (List Var) := guardO (limB 24 a0.length) (some a0)

set_option maxHeartbeats 2000000 in
theorem at_slices_Clone_api_Var {a0 r : List Var} (hs : slices_Clone_api_Var a0 = some r) : CAt Tryd.prog 82 [.cell (sC a0)] [] (.ret (.cell (.sl (.r 0) 0 2 r.length))) [(.r 0, .pure (encL r))] := by
  rw [slices_Clone_api_Var] at hs
  obtain ⟨g1, hs⟩ := guardO_some hs
  obtain rfl := Option.some.inj hs
  obtain ⟨g1a, g1b⟩ := limB_t g1
  refine at_code mixed Tryd.func82 (by kernel_rfl) rfl (by kernel_rfl) rfl fun Q hQ => ?_
  repeat (first | simp | with_reducible first | refine awp_reg ?_ | refine And.intro (by omega) ?_ | refine optF_if (by omega) ?_)
  unfold nilK
  simp only [Tryd.underlying37]
  refine ⟨fun h => ?_, ?_⟩
  · have h0 := encL_nil_of (by simp) h
    subst h0
    repeat (first | simp | with_reducible first | refine awp_reg ?_ | refine And.intro (by omega) ?_ | refine optF_if (by omega) ?_)
    refine hQ _ _ (ret2g _ (Gh.void _ (.r 0) 2 2 rfl (by simp)) (by simp [St.void, St.kil]; rfl) (by first | rfl | simp) (by simp [St.void, St.kil]))
  · repeat (first | simp | with_reducible first | refine awp_reg ?_ | refine And.intro (by omega) ?_ | refine optF_if (by omega) ?_)
    refine hQ _ _ (ret2g _ (Gh.ren _ (.o 3 2 0) (.r 0) (by simp) rfl rfl) (by simp; rfl) (by first | rfl | simp) (by simp))
end Go.Dc
end
section
set_option linter.all false
namespace Go.Dc
open Go Go.Hw Go.Proofs
set_option maxRecDepth 100000
def slices_Clone_string (a0 : List ByteArray) : Option (List ByteArray) := guardO (limB 16 a0.length) (some a0)

set_option maxHeartbeats 2000000 in
theorem at_slices_Clone_string {a0 r : List ByteArray} (hs : slices_Clone_string a0 = some r) : CAt Tryd.prog 83 [.cell (sC a0)] [] (.ret (.cell (.sl (.r 0) 0 1 r.length))) [(.r 0, .pure (encL r))] := by
  rw [slices_Clone_string] at hs
  obtain ⟨g1, hs⟩ := guardO_some hs
  obtain rfl := Option.some.inj hs
  obtain ⟨g1a, g1b⟩ := limB_t g1
  refine at_code mixed Tryd.func83 (by kernel_rfl) rfl (by kernel_rfl) rfl fun Q hQ => ?_
  repeat (first | simp | with_reducible first | refine awp_reg ?_ | refine And.intro (by omega) ?_ | refine optF_if (by omega) ?_)
  unfold nilK
  simp only [Tryd.underlying38]
  refine ⟨fun h => ?_, ?_⟩
  · have h0 := encL_nil_of (by simp) h
    subst h0
    repeat (first | simp | with_reducible first | refine awp_reg ?_ | refine And.intro (by omega) ?_ | refine optF_if (by omega) ?_)
    refine hQ _ _ (ret2g _ (Gh.void _ (.r 0) 2 1 rfl (by simp)) (by simp [St.void, St.kil]; rfl) (by first | rfl | simp) (by simp [St.void, St.kil]))
  · repeat (first | simp | with_reducible first | refine awp_reg ?_ | refine And.intro (by omega) ?_ | refine optF_if (by omega) ?_)
    refine hQ _ _ (ret2g _ (Gh.ren _ (.o 3 2 0) (.r 0) (by simp) rfl rfl) (by simp; rfl) (by first | rfl | simp) (by simp))
end Go.Dc
end
section
set_option linter.all false
namespace Go.Dc
open Go Go.Hw Go.Proofs
set_option maxRecDepth 100000
def program_Clone_L1 (a0 : Program) : Nat → Nat → (List Func) → Option (List Func)
  | 0, k174, l175 => some (l175)
  | q205 + 1, k174, l175 => Option.bind (a0.Funcs[k174]?) (fun x220 => Option.bind (slices_Clone_api_Inst x220.Code) (fun y223 => Option.bind (l175[k174]?) (fun x225 => Option.bind (some (l175.set k174 ({ x225 with Code := y223 }))) (fun l227 => program_Clone_L1 a0 q205 (k174 + 1) l227))))

def program_Clone (a0 : Program) : Option Program :=
  Option.bind (slices_Clone_api_Var a0.Vars) (fun y11 => Option.bind (slices_Clone_string a0.Mutexes) (fun y13 => Option.bind (slices_Clone_string a0.Conds) (fun y15 => Option.bind (slices_Clone_api_Func a0.Funcs) (fun y17 => Option.bind (slices_Clone_api_Start a0.Threads) (fun y19 => Option.bind (α := (List Func)) (guardO (lenB y17.length) (Option.bind (program_Clone_L1 a0 y17.length 0 y17) (fun l198 => some (l198)))) (fun l123 => some ({ Vars := y11, Mutexes := y13, Conds := y15, Funcs := l123, Threads := y19 } : Program)))))))

set_option maxHeartbeats 2000000 in
theorem at_program_Clone {a0 : Program} {r : Program} (hs : program_Clone a0 = some r) : CAt Tryd.prog 99 [.agg (eA a0)] [] (.ret (.agg [.sl (.r 0) 0 2 r.Vars.length, .sl (.r 1) 0 1 r.Mutexes.length, .sl (.r 2) 0 1 r.Conds.length, .sl (.r 3) 0 2 r.Funcs.length, .sl (.r 4) 0 2 r.Threads.length])) [(.r 0, .pure (encL r.Vars)), (.r 1, .pure (encL r.Mutexes)), (.r 2, .pure (encL r.Conds)), (.r 3, .pure (encL r.Funcs)), (.r 4, .pure (encL r.Threads))] := by
  refine at_bound (by kernel_rfl) fun hb => ?_
  have hb1 : LenOk (.sl a0.Vars.length (encL a0.Vars)) := lkc hb
  have hb2 : LenOk (.sl a0.Mutexes.length (encL a0.Mutexes)) := lkc hb
  have hb3 : LenOk (.sl a0.Conds.length (encL a0.Conds)) := lkc hb
  have hb4 : LenOk (.sl a0.Funcs.length (encL a0.Funcs)) := lkc hb
  have hb5 : LenOk (.sl a0.Threads.length (encL a0.Threads)) := lkc hb
  refine at_code mixed Tryd.func99 (by kernel_rfl) rfl (by kernel_rfl) rfl fun Q hQ => ?_
  rw [program_Clone] at hs
  refine goD f0 ?_
  revert hs; refine bK fun y11 hx12 hs => ?_
  refine cA f0 (at_slices_Clone_api_Var hx12) ?_
  refine goD f0 ?_
  revert hs; refine bK fun y13 hx14 hs => ?_
  refine cA f0 (at_slices_Clone_string hx14) ?_
  refine goD f0 ?_
  revert hs; refine bK fun y15 hx16 hs => ?_
  refine cA f0 (at_slices_Clone_string hx16) ?_
  refine goD f0 ?_
  revert hs; refine bK fun y17 hx18 hs => ?_
  refine cA f0 (at_slices_Clone_api_Func hx18) ?_
  refine goD f0 ?_
  revert hs; refine bK fun y19 hx20 hs => ?_
  refine cA f0 (at_slices_Clone_api_Start hx20) ?_
  refine goD2 f0 ?_
  revert hs; refine bK fun o125 e124 hs => ?_
  refine awp_cutK (fun (v : (List Func)) (σ : St) => some (v) = some o125 ∧ σ.env 2 = .cell (.ref (.o 1 1 0) 0) ∧ σ.env 3 = .cell (.ref (.o 2 16 0) 0) ∧ σ.hp (.o 1 1 0) = some (.cells [.z, .z, .z, .z, .z]) ∧ σ.hp (.l 14) = some (.pure (encL v)) ∧ σ.hp (.o 2 16 0) = some (.cells [.sl (.o 2 2 0) 0 2 y11.length, .sl (.o 2 5 0) 0 1 y13.length, .sl (.o 2 8 0) 0 1 y15.length, .sl (.l 14) 0 2 v.length, .sl (.o 2 14 0) 0 2 y19.length]) ∧ σ.hp (.o 2 2 0) = some (.pure (encL y11)) ∧ σ.hp (.o 2 5 0) = some (.pure (encL y13)) ∧ σ.hp (.o 2 8 0) = some (.pure (encL y15)) ∧ σ.hp (.o 2 14 0) = some (.pure (encL y19)) ∧ 3 ≤ σ.gen) (by rfl) (fun Q hK126 hX127 => ?_) (fun l123 σ3 hp => ?_)
  · refine goD f0 ?_
    obtain ⟨hb209, e124⟩ := guardO_some e124
    revert e124; refine bK fun o200 e199 e124 => ?_
    refine awp_loopW (fun (v : Nat × Nat × (List Func)) (σ : St) => program_Clone_L1 a0 v.1 v.2.1 v.2.2 = some o200 ∧ v.1 + v.2.1 = y17.length ∧ σ.env 1 = .cell (.ref (.o 1 0 0) 0) ∧ σ.env 2 = .cell (.ref (.o 1 1 0) 0) ∧ σ.env 3 = .cell (.ref (.o 2 16 0) 0) ∧ σ.env 23 = iV .i64 ((y17.length : Nat) : Int) ∧ σ.env 24 = iV .i64 ((v.2.1 : Nat) : Int) ∧ σ.hp (.o 1 0 0) = some (.cells (eA a0)) ∧ σ.hp (.o 1 1 0) = some (.cells [.z, .z, .z, .z, .z]) ∧ σ.hp (.l 39) = some (.pure (encL v.2.2)) ∧ σ.hp (.o 2 16 0) = some (.cells [.sl (.o 2 2 0) 0 2 y11.length, .sl (.o 2 5 0) 0 1 y13.length, .sl (.o 2 8 0) 0 1 y15.length, .sl (.l 39) 0 2 v.2.2.length, .sl (.o 2 14 0) 0 2 y19.length]) ∧ σ.hp (.o 2 2 0) = some (.pure (encL y11)) ∧ σ.hp (.o 2 5 0) = some (.pure (encL y13)) ∧ σ.hp (.o 2 8 0) = some (.pure (encL y15)) ∧ σ.hp (.o 2 14 0) = some (.pure (encL y19)) ∧ 3 ≤ σ.gen) (fun v => v.1) _ (Gh.ren _ (.o 2 11 0) (.l 39) (by simp) rfl rfl) (y17.length, 0, y17) ⟨e199, by first | omega | simp | (simp; omega), pv f0, pv f0, pv f0, pv f0, pv f0, pv f0, pv f0, pv f0, pv f0, pv f0, pv f0, pv f0, pv f0, pg⟩ fun v σ6 hp L201 hL202 => ?_
    obtain ⟨q204, k174, l175⟩ := v
    dsimp only at hp hL202
    obtain ⟨e199, hd203, h5_1, h5_2, h5_3, h5_23, h5_24, g5_0, g5_1, g5_2, g5_3, g5_4, g5_5, g5_6, g5_7, n5_g⟩ := hp
    have n5_0 : ¬ (σ6.gen = 0) := by omega
    have n5_1 : ¬ (σ6.gen = 1) := by omega
    rcases q204 with _ | q205
    · have hlt206 : ¬ k174 < y17.length := by omega
      rw [program_Clone_L1] at e199; try dsimp only at e199
      have F1 := an h5_1 (an h5_2 (an h5_3 (an h5_23 (an h5_24 (an g5_0 (an g5_1 (an g5_2 (an g5_3 (an g5_4 (an g5_5 (an g5_6 (an g5_7 (an n5_0 n5_1)))))))))))))
      refine goR F1 ?_
      refine condK_f (by simp [ltI]; omega) ?_
      obtain rfl := sj e199
      try dsimp only at e124
      exact hK126 l175 _ _ (Gh.ren _ (.l 39) (.l 14) (by simp) rfl rfl) ⟨e124, pv F1, pv F1, pv F1, pv F1, pv F1, pv F1, pv F1, pv F1, pv F1, pg⟩
    · have hlt206 : k174 < y17.length := by omega
      have ew207 := wrap_succG hlt206 hb209
      rw [program_Clone_L1] at e199; try dsimp only at e199
      have F2 := an h5_1 (an h5_2 (an h5_3 (an h5_23 (an h5_24 (an g5_0 (an g5_1 (an g5_2 (an g5_3 (an g5_4 (an g5_5 (an g5_6 (an g5_7 (an n5_0 (an n5_1 (an hlt206 ew207)))))))))))))))
      refine goR F2 ?_
      refine condK_t (by simp [ltI]; omega) ?_
      revert e199; refine bK fun x220 hx221 e199 => ?_
      have hx221b := getN_some hx221
      have f222 : partCV Tryd.prog 22 (encL a0.Funcs) (k174 * 2 + 1) = some (.cell (sC x220.Code)) := partCV_enc hx221 (f := 1) (by simp)
      have F3 := an F2 f222
      refine goD F3 ?_
      revert e199; refine bK fun y223 hx224 e199 => ?_
      refine cA F3 (at_slices_Clone_api_Inst hx224) ?_
      revert e199; refine bK fun x225 hx226 e199 => ?_
      have hx226b := getN_some hx226
      revert e199; refine lK fun l227 hx228 e199 => ?_
      have f229 : (encL l175).set (k174 * 2 + 1) (.sl y223.length (encL y223)) = encL l227 := by rw [hx228]; exact setRun_enc hx226 (f := 1) (v := [.sl y223.length (encL y223)]) (by simp) (by simp [setRun])
      have f229n : l227.length = l175.length := by rw [hx228]; simp
      have F4 := an F3 (an f229 f229n)
      refine goN F4 ?_
      refine awp_gh (by rfl) ((Gh.frz _ (.o (σ6.gen + 3) 9 0)).trans (Gh.pur _ (.l 39))) ?_
      try simp only [St.frz, St.pur]
      refine goR F4 ?_
      exact hL202 (q205, (k174 + 1), l227) _ _ (Gh.refl _) ⟨e199, (by first | omega | (simp; omega)), pv F4, pv F4, pv F4, pv F4, pv F4, pv F4, pv F4, pv F4, pv F4, pv F4, pv F4, pv F4, pv F4, pg⟩ (by omega)
  · obtain ⟨e124, h4_2, h4_3, g4_0, g4_1, g4_2, g4_3, g4_4, g4_5, g4_6, n4_g⟩ := hp
    obtain rfl := sj e124
    try dsimp only at hs
    have n4_0 : ¬ (σ3.gen = 0) := by omega
    have n4_1 : ¬ (σ3.gen = 1) := by omega
    have F5 := an h4_2 (an h4_3 (an g4_0 (an g4_1 (an g4_2 (an g4_3 (an g4_4 (an g4_5 (an g4_6 (an n4_0 n4_1)))))))))
    refine goD F5 ?_
    obtain rfl := sj hs
    refine hQ _ _ (ret2g _ ((Gh.ren _ (.o 2 2 0) (.r 0) (by simp) rfl rfl).trans ((Gh.ren _ (.o 2 5 0) (.r 1) (by simp) rfl rfl).trans ((Gh.ren _ (.o 2 8 0) (.r 2) (by simp) rfl rfl).trans ((Gh.ren _ (.l 14) (.r 3) (by simp) rfl rfl).trans (Gh.ren _ (.o 2 14 0) (.r 4) (by simp) rfl rfl))))) (by simp [St.frz, St.pur, F5]; rfl) (by first | rfl | (simp [St.frz, St.pur, F5]; done) | (rw [if_pos (by first | omega | (simp; omega))]; simp [St.frz, St.pur, F5]; first | omega | exact List.take_of_length_le (by simp; omega) | skip)) (pv F5))
end Go.Dc
end
section
set_option linter.all false
namespace Go.Dc
open Go Go.Hw Go.Proofs
set_option maxRecDepth 100000
def simplify_Program_L1 (fuelN : Nat) : List Func → Nat → (List Func) → Option ((List Func) ⊕ (Program × Int))
  | [], k105, l106 => some (.inl l106)
  | x131 :: q127, k105, l106 => Option.bind (simplify_function fuelN x131) (fun y134 => cond (!(eqI y134.2 0)) (some (.inr (({ Vars := [], Mutexes := [], Conds := [], Funcs := [], Threads := [] } : Program), y134.2))) (Option.bind (l106[k105]?) (fun x137 => Option.bind (some (l106.set k105 y134.1)) (fun l139 => simplify_Program_L1 fuelN q127 (k105 + 1) l139))))

def simplify_Program (fuelN : Nat) (a0 : Program) : Option (Program × Int) :=
  Option.bind (program_Check fuelN a0) (fun y1 => cond (!(eqI y1.1 0)) (some (({ Vars := [], Mutexes := [], Conds := [], Funcs := [], Threads := [] } : Program), y1.1)) (Option.bind (program_Clone a0) (fun y4 => Option.bind (α := (List Func) ⊕ (Program × Int)) (Option.bind (simplify_Program_L1 fuelN a0.Funcs 0 y4.Funcs) (fun o => match o with | .inl l120 => some (.inl l120) | .inr r142 => some (.inr r142))) (fun o => match o with | .inl l72 => some ({ y4 with Funcs := l72 }, 0) | .inr r143 => some r143))))

set_option maxHeartbeats 2000000 in
theorem at_simplify_Program {fuelN : Nat} {a0 : Program} {r : Program × Int} (hs : simplify_Program fuelN a0 = some r) : At Tryd.prog 47 [.agg (eA a0)] (.tup [.agg (eA r.1), iV .i64 r.2]) := by
  refine at_bound (by kernel_rfl) fun hb => ?_
  have hb1 : LenOk (.sl a0.Vars.length (encL a0.Vars)) := lkc hb
  have hb2 : LenOk (.sl a0.Mutexes.length (encL a0.Mutexes)) := lkc hb
  have hb3 : LenOk (.sl a0.Conds.length (encL a0.Conds)) := lkc hb
  have hb4 : LenOk (.sl a0.Funcs.length (encL a0.Funcs)) := lkc hb
  have hb5 : LenOk (.sl a0.Threads.length (encL a0.Threads)) := lkc hb
  refine at_code mixed Tryd.func47 (by kernel_rfl) rfl (by kernel_rfl) rfl fun Q hQ => ?_
  rw [simplify_Program] at hs
  refine goR f0 ?_
  revert hs; refine bK fun y1 hx2 hs => ?_
  refine cP f0 (at_program_Check hx2) ?_
  refine goR f0 ?_
  revert hs; refine cS f0 ?_ ?_ <;> intro h3 hs
  · refine goR f0 ?_
    obtain rfl := sj hs
    exact hQ _ _ (rg f0 (Gh.unz _))
  · refine goR f0 ?_
    revert hs; refine bK fun y4 hx5 hs => ?_
    refine cA f0 (at_program_Clone hx5) ?_
    refine goR2 f0 ?_
    revert hs; refine bK fun o74 e73 hs => ?_
    refine awp_cutK (fun (v : (List Func)) (σ : St) => some (.inl v) = some o74 ∧ σ.env 2 = .cell (.ref (.o 1 1 0) 0) ∧ σ.env 7 = .cell (.ref (.o 4 2 0) 0) ∧ σ.hp (.o 1 1 0) = some (.cells [.z, .z, .z, .z, .z]) ∧ σ.hp (.l 14) = some (.pure (encL v)) ∧ σ.hp (.o 4 2 0) = some (.cells [.sl (.o 4 1 0) 0 2 y4.Vars.length, .sl (.o 4 1 1) 0 1 y4.Mutexes.length, .sl (.o 4 1 2) 0 1 y4.Conds.length, .sl (.l 14) 0 2 v.length, .sl (.o 4 1 4) 0 2 y4.Threads.length]) ∧ σ.hp (.o 4 1 0) = some (.pure (encL y4.Vars)) ∧ σ.hp (.o 4 1 1) = some (.pure (encL y4.Mutexes)) ∧ σ.hp (.o 4 1 2) = some (.pure (encL y4.Conds)) ∧ σ.hp (.o 4 1 4) = some (.pure (encL y4.Threads)) ∧ 5 ≤ σ.gen) (by rfl) (fun Q hK75 hX76 => ?_) (fun l72 σ3 hp => ?_)
    · refine goR f0 ?_
      revert e73; refine bK fun o122 e121 e73 => ?_
      refine awp_loopW (fun (v : (List Func) × Nat × (List Func)) (σ : St) => simplify_Program_L1 fuelN v.1 v.2.1 v.2.2 = some o122 ∧ v.1 = a0.Funcs.drop v.2.1 ∧ σ.env 2 = .cell (.ref (.o 1 1 0) 0) ∧ σ.env 7 = .cell (.ref (.o 4 2 0) 0) ∧ σ.env 25 = .cell (sC a0.Funcs) ∧ σ.env 26 = iV .i64 ((a0.Funcs.length : Nat) : Int) ∧ σ.env 27 = iV .i64 ((v.2.1 : Nat) : Int) ∧ σ.hp (.o 1 1 0) = some (.cells [.z, .z, .z, .z, .z]) ∧ σ.hp (.l 39) = some (.pure (encL v.2.2)) ∧ σ.hp (.o 4 2 0) = some (.cells [.sl (.o 4 1 0) 0 2 y4.Vars.length, .sl (.o 4 1 1) 0 1 y4.Mutexes.length, .sl (.o 4 1 2) 0 1 y4.Conds.length, .sl (.l 39) 0 2 v.2.2.length, .sl (.o 4 1 4) 0 2 y4.Threads.length]) ∧ σ.hp (.o 4 1 0) = some (.pure (encL y4.Vars)) ∧ σ.hp (.o 4 1 1) = some (.pure (encL y4.Mutexes)) ∧ σ.hp (.o 4 1 2) = some (.pure (encL y4.Conds)) ∧ σ.hp (.o 4 1 4) = some (.pure (encL y4.Threads)) ∧ 5 ≤ σ.gen) (fun v => v.1.length) _ (Gh.ren _ (.o 4 1 3) (.l 39) (by simp) rfl rfl) (a0.Funcs, 0, y4.Funcs) ⟨e121, by simp, pv f0, pv f0, pv f0, pv f0, pv f0, pv f0, pv f0, pv f0, pv f0, pv f0, pv f0, pv f0, pg⟩ fun v σ6 hp L123 hL124 => ?_
      obtain ⟨q126, k105, l106⟩ := v
      dsimp only at hp hL124
      obtain ⟨e121, hd125, h5_2, h5_7, h5_25, h5_26, h5_27, g5_0, g5_1, g5_2, g5_3, g5_4, g5_5, g5_6, n5_g⟩ := hp
      have n5_0 : ¬ (σ6.gen = 0) := by omega
      have n5_1 : ¬ (σ6.gen = 1) := by omega
      have n5_2 : ¬ (σ6.gen = 2) := by omega
      have n5_3 : ¬ (σ6.gen = 3) := by omega
      rcases q126 with _ | ⟨x131, q127⟩
      · have hlt128 := drop_end hd125
        rw [simplify_Program_L1] at e121; try dsimp only at e121
        have F1 := an h5_2 (an h5_7 (an h5_25 (an h5_26 (an h5_27 (an g5_0 (an g5_1 (an g5_2 (an g5_3 (an g5_4 (an g5_5 (an g5_6 (an n5_0 (an n5_1 (an n5_2 n5_3))))))))))))))
        refine goR F1 ?_
        refine condK_f (by simp [ltI]; omega) ?_
        obtain rfl := sj e121
        try dsimp only at e73
        exact hK75 l106 _ _ (Gh.ren _ (.l 39) (.l 14) (by simp) rfl rfl) ⟨e73, pv F1, pv F1, pv F1, pv F1, pv F1, pv F1, pv F1, pv F1, pv F1, pg⟩
      · obtain ⟨hx130, hlt128, hd132⟩ := drop_next hd125
        have ew129 := wrap_succ hlt128 (hb4).len
        rw [simplify_Program_L1] at e121; try dsimp only at e121
        have F2 := an h5_2 (an h5_7 (an h5_25 (an h5_26 (an h5_27 (an g5_0 (an g5_1 (an g5_2 (an g5_3 (an g5_4 (an g5_5 (an g5_6 (an n5_0 (an n5_1 (an n5_2 (an n5_3 (an hlt128 ew129))))))))))))))))
        refine goR F2 ?_
        refine condK_t (by simp [ltI]; omega) ?_
        have f133 : partCV Tryd.prog 24 (encL a0.Funcs) (k105 * 2) = some (.agg (eA x131)) := partCV_enc hx130 (f := 0) (by simp)
        have F3 := an F2 f133
        refine goR F3 ?_
        revert e121; refine bK fun y134 hx135 e121 => ?_
        refine cP F3 (at_simplify_function hx135) ?_
        refine goR F3 ?_
        revert e121; refine cS F3 ?_ ?_ <;> intro h136 e121
        · refine goR F3 ?_
          obtain rfl := sj e121
          try dsimp only at e73
          obtain rfl := sj e73
          try dsimp only at hs
          refine hX76 _ _ (by simp) ?_
          refine goR F3 ?_
          obtain rfl := sj hs
          exact hQ _ _ (rg F3 (Gh.unz _))
        · revert e121; refine bK fun x137 hx138 e121 => ?_
          have hx138b := getN_some hx138
          revert e121; refine lK fun l139 hx140 e121 => ?_
          have f141 : setRun (encL l106) (k105 * 2) [.c (.string y134.1.Name), .sl y134.1.Code.length (encL y134.1.Code)] = encL l139 := hx140 ▸ setRun_enc hx138 (f := 0) (by simp) (by simp [setRun])
          simp only [setRun] at f141
          have f141n : l139.length = l106.length := by rw [hx140]; simp
          have F4 := an F3 (an f141 f141n)
          refine goR F4 ?_
          exact hL124 (q127, (k105 + 1), l139) _ _ (Gh.refl _) ⟨e121, hd132, pv F4, pv F4, pv F4, pv F4, pv F4, pv F4, pv F4, pv F4, pv F4, pv F4, pv F4, pv F4, pg⟩ (by simp)
    · obtain ⟨e73, h4_2, h4_7, g4_0, g4_1, g4_2, g4_3, g4_4, g4_5, g4_6, n4_g⟩ := hp
      obtain rfl := sj e73
      try dsimp only at hs
      have n4_0 : ¬ (σ3.gen = 0) := by omega
      have n4_1 : ¬ (σ3.gen = 1) := by omega
      have n4_2 : ¬ (σ3.gen = 2) := by omega
      have n4_3 : ¬ (σ3.gen = 3) := by omega
      have F5 := an h4_2 (an h4_7 (an g4_0 (an g4_1 (an g4_2 (an g4_3 (an g4_4 (an g4_5 (an g4_6 (an n4_0 (an n4_1 (an n4_2 n4_3)))))))))))
      refine goR F5 ?_
      obtain rfl := sj hs
      exact hQ _ _ (rg F5 ((Gh.frz _ (.o 4 1 0)).trans ((Gh.frz _ (.o 4 1 1)).trans ((Gh.frz _ (.o 4 1 2)).trans ((Gh.frz _ (.l 14)).trans (Gh.frz _ (.o 4 1 4)))))))
end Go.Dc
end
section
set_option linter.all false
namespace Go.Dc
open Go Go.Hw Go.Proofs
set_option maxRecDepth 100000
def r08_Clone_L1 : List Func → Nat → (List Func) → Option (List Func)
  | [], k239, l240 => some (l240)
  | x282 :: q278, k239, l240 => Option.bind (some (([] : List Inst))) (fun l297 => guardO (limB 64 (l297.length + x282.Code.length)) (Option.bind (some (l297 ++ x282.Code)) (fun l301 => Option.bind (some ([{ x282 with Code := l301 }])) (fun l303 => guardO (limB 40 (l240.length + l303.length)) (Option.bind (some (l240 ++ l303)) (fun l306 => r08_Clone_L1 q278 (k239 + 1) l306))))))

def r08_Clone (a0 : Program) : Option Program :=
  Option.bind (some (([] : List Var))) (fun l21 => guardO (limB 24 (l21.length + a0.Vars.length)) (Option.bind (some (l21 ++ a0.Vars)) (fun l24 => Option.bind (some (([] : List ByteArray))) (fun l26 => guardO (limB 16 (l26.length + a0.Mutexes.length)) (Option.bind (some (l26 ++ a0.Mutexes)) (fun l29 => Option.bind (some (([] : List ByteArray))) (fun l31 => guardO (limB 16 (l31.length + a0.Conds.length)) (Option.bind (some (l31 ++ a0.Conds)) (fun l34 => Option.bind (some (([] : List Start))) (fun l36 => guardO (limB 16 (l36.length + a0.Threads.length)) (Option.bind (some (l36 ++ a0.Threads)) (fun l39 => Option.bind (α := (List Func)) (Option.bind (r08_Clone_L1 a0.Funcs 0 []) (fun l271 => some (l271))) (fun l172 => some ({ Vars := l24, Mutexes := l29, Conds := l34, Funcs := l172, Threads := l39 } : Program))))))))))))))

set_option maxHeartbeats 2000000 in
theorem at_r08_Clone {a0 : Program} {r : Program} (hs : r08_Clone a0 = some r) : CAt Tryd.prog 102 [.agg (eA a0)] [] (.ret (.agg [.sl (.r 0) 0 2 r.Vars.length, .sl (.r 1) 0 1 r.Mutexes.length, .sl (.r 2) 0 1 r.Conds.length, .sl (.r 3) 0 2 r.Funcs.length, .sl (.r 4) 0 2 r.Threads.length])) [(.r 0, .pure (encL r.Vars)), (.r 1, .pure (encL r.Mutexes)), (.r 2, .pure (encL r.Conds)), (.r 3, .pure (encL r.Funcs)), (.r 4, .pure (encL r.Threads))] := by
  refine at_bound (by kernel_rfl) fun hb => ?_
  have hb1 : LenOk (.sl a0.Vars.length (encL a0.Vars)) := lkc hb
  have hb2 : LenOk (.sl a0.Mutexes.length (encL a0.Mutexes)) := lkc hb
  have hb3 : LenOk (.sl a0.Conds.length (encL a0.Conds)) := lkc hb
  have hb4 : LenOk (.sl a0.Funcs.length (encL a0.Funcs)) := lkc hb
  have hb5 : LenOk (.sl a0.Threads.length (encL a0.Threads)) := lkc hb
  refine at_code mixed Tryd.func102 (by kernel_rfl) rfl (by kernel_rfl) rfl fun Q hQ => ?_
  rw [r08_Clone] at hs
  revert hs; refine lK fun l21 hx22 hs => ?_
  have hx22n : l21.length = 0 := by rw [hx22]; rfl
  obtain ⟨g23, hs⟩ := guardO_some hs
  have g23 := limB_t g23
  obtain ⟨g23a, g23b⟩ := g23
  revert hs; refine lK fun l24 hx25 hs => ?_
  have hx25n : l24.length = (l21.length + a0.Vars.length) := by rw [hx25]; simp
  have hx25e : encL l24 = encL l21 ++ encL a0.Vars := by rw [hx25]; simp
  revert hs; refine lK fun l26 hx27 hs => ?_
  have hx27n : l26.length = 0 := by rw [hx27]; rfl
  obtain ⟨g28, hs⟩ := guardO_some hs
  have g28 := limB_t g28
  obtain ⟨g28a, g28b⟩ := g28
  revert hs; refine lK fun l29 hx30 hs => ?_
  have hx30n : l29.length = (l26.length + a0.Mutexes.length) := by rw [hx30]; simp
  have hx30e : encL l29 = encL l26 ++ encL a0.Mutexes := by rw [hx30]; simp
  revert hs; refine lK fun l31 hx32 hs => ?_
  have hx32n : l31.length = 0 := by rw [hx32]; rfl
  obtain ⟨g33, hs⟩ := guardO_some hs
  have g33 := limB_t g33
  obtain ⟨g33a, g33b⟩ := g33
  revert hs; refine lK fun l34 hx35 hs => ?_
  have hx35n : l34.length = (l31.length + a0.Conds.length) := by rw [hx35]; simp
  have hx35e : encL l34 = encL l31 ++ encL a0.Conds := by rw [hx35]; simp
  revert hs; refine lK fun l36 hx37 hs => ?_
  have hx37n : l36.length = 0 := by rw [hx37]; rfl
  obtain ⟨g38, hs⟩ := guardO_some hs
  have g38 := limB_t g38
  obtain ⟨g38a, g38b⟩ := g38
  revert hs; refine lK fun l39 hx40 hs => ?_
  have hx40n : l39.length = (l36.length + a0.Threads.length) := by rw [hx40]; simp
  have hx40e : encL l39 = encL l36 ++ encL a0.Threads := by rw [hx40]; simp
  have F1 := an hx22 (an hx25n (an hx25e (an hx27 (an hx30n (an hx30e (an hx32 (an hx35n (an hx35e (an hx37 (an hx40n hx40e))))))))))
  refine goD2 F1 ?_
  revert hs; refine bK fun o174 e173 hs => ?_
  refine awp_cutK (fun (v : (List Func)) (σ : St) => some (v) = some o174 ∧ σ.env 2 = .cell (.ref (.o 1 1 0) 0) ∧ σ.env 3 = .cell (.ref (.o 2 17 0) 0) ∧ σ.hp (.o 1 1 0) = some (.cells [.z, .z, .z, .z, .z]) ∧ σ.hp (.l 12) = some (.pure (encL v)) ∧ σ.hp (.o 2 17 0) = some (.cells [.sl (.o 2 3 0) 0 2 l24.length, .sl (.o 2 7 0) 0 1 l29.length, .sl (.o 2 11 0) 0 1 l34.length, .sl (.l 12) 0 2 v.length, .sl (.o 2 15 0) 0 2 l39.length]) ∧ σ.hp (.o 2 3 0) = some (.pure (encL l24)) ∧ σ.hp (.o 2 7 0) = some (.pure (encL l29)) ∧ σ.hp (.o 2 11 0) = some (.pure (encL l34)) ∧ σ.hp (.o 2 15 0) = some (.pure (encL l39)) ∧ 3 ≤ σ.gen) (by rfl) (fun Q hK175 hX176 => ?_) (fun l172 σ3 hp => ?_)
  · refine goD F1 ?_
    revert e173; refine bK fun o273 e272 e173 => ?_
    refine awp_loopW (fun (v : (List Func) × Nat × (List Func)) (σ : St) => r08_Clone_L1 v.1 v.2.1 v.2.2 = some o273 ∧ v.1 = a0.Funcs.drop v.2.1 ∧ σ.env 1 = .cell (.ref (.o 1 0 0) 0) ∧ σ.env 2 = .cell (.ref (.o 1 1 0) 0) ∧ σ.env 3 = .cell (.ref (.o 2 17 0) 0) ∧ σ.env 4 = iV .i64 ((v.2.1 : Nat) : Int) ∧ σ.hp (.o 1 0 0) = some (.cells (eA a0)) ∧ σ.hp (.o 1 1 0) = some (.cells [.z, .z, .z, .z, .z]) ∧ σ.hp (.l 35) = some (.pure (encL v.2.2)) ∧ σ.hp (.o 2 17 0) = some (.cells [.sl (.o 2 3 0) 0 2 l24.length, .sl (.o 2 7 0) 0 1 l29.length, .sl (.o 2 11 0) 0 1 l34.length, .sl (.l 35) 0 2 v.2.2.length, .sl (.o 2 15 0) 0 2 l39.length]) ∧ σ.hp (.o 2 3 0) = some (.pure (encL l24)) ∧ σ.hp (.o 2 7 0) = some (.pure (encL l29)) ∧ σ.hp (.o 2 11 0) = some (.pure (encL l34)) ∧ σ.hp (.o 2 15 0) = some (.pure (encL l39)) ∧ 3 ≤ σ.gen) (fun v => v.1.length) _ (Gh.voidB _ (.l 35) (.o 2 17 0) 3 2 rfl (by simp [F1]; rfl) (by first | rfl | simp) (by simp)) (a0.Funcs, 0, []) ⟨e272, by simp, pv F1, pv F1, pv F1, pv F1, pv F1, pv F1, pv F1, pv F1, pv F1, pv F1, pv F1, pv F1, pg⟩ fun v σ6 hp L274 hL275 => ?_
    obtain ⟨q277, k239, l240⟩ := v
    dsimp only at hp hL275
    obtain ⟨e272, hd276, h5_1, h5_2, h5_3, h5_4, g5_0, g5_1, g5_2, g5_3, g5_4, g5_5, g5_6, g5_7, n5_g⟩ := hp
    have n5_0 : ¬ (σ6.gen = 0) := by omega
    have n5_1 : ¬ (σ6.gen = 1) := by omega
    rcases q277 with _ | ⟨x282, q278⟩
    · have hlt279 := drop_end hd276
      rw [r08_Clone_L1] at e272; try dsimp only at e272
      have F2 := an h5_1 (an h5_2 (an h5_3 (an h5_4 (an g5_0 (an g5_1 (an g5_2 (an g5_3 (an g5_4 (an g5_5 (an g5_6 (an g5_7 (an n5_0 n5_1))))))))))))
      refine goR F2 ?_
      refine condK_f (by simp [ltI]; omega) ?_
      obtain rfl := sj e272
      try dsimp only at e173
      exact hK175 l240 _ _ (Gh.ren _ (.l 35) (.l 12) (by simp) rfl rfl) ⟨e173, pv F2, pv F2, pv F2, pv F2, pv F2, pv F2, pv F2, pv F2, pv F2, pg⟩
    · obtain ⟨hx281, hlt279, hd283⟩ := drop_next hd276
      have ew280 := wrap_succ hlt279 (hb4).len
      rw [r08_Clone_L1] at e272; try dsimp only at e272
      have F3 := an h5_1 (an h5_2 (an h5_3 (an h5_4 (an g5_0 (an g5_1 (an g5_2 (an g5_3 (an g5_4 (an g5_5 (an g5_6 (an g5_7 (an n5_0 (an n5_1 (an hlt279 ew280))))))))))))))
      refine goR F3 ?_
      refine condK_t (by simp [ltI]; omega) ?_
      have f296 : partCV Tryd.prog 9 (encL a0.Funcs) (k239 * 2) = some (sV x282.Name) := partCV_enc hx281 (f := 0) (by simp)
      revert e272; refine lK fun l297 hx298 e272 => ?_
      have hx298n : l297.length = 0 := by rw [hx298]; rfl
      have f299 : partCV Tryd.prog 22 (encL a0.Funcs) (k239 * 2 + 1) = some (.cell (sC x282.Code)) := partCV_enc hx281 (f := 1) (by simp)
      obtain ⟨g300, e272⟩ := guardO_some e272
      have g300 := limB_t g300
      obtain ⟨g300a, g300b⟩ := g300
      revert e272; refine lK fun l301 hx302 e272 => ?_
      have hx302n : l301.length = (l297.length + x282.Code.length) := by rw [hx302]; simp
      have hx302e : encL l301 = encL l297 ++ encL x282.Code := by rw [hx302]; simp
      revert e272; refine lK fun l303 hx304 e272 => ?_
      have hx304n : l303.length = 1 := by rw [hx304]; rfl
      obtain ⟨g305, e272⟩ := guardO_some e272
      have g305 := limB_t g305
      obtain ⟨g305a, g305b⟩ := g305
      revert e272; refine lK fun l306 hx307 e272 => ?_
      have hx307n : l306.length = (l240.length + l303.length) := by rw [hx307]; simp
      have hx307e : encL l306 = encL l240 ++ encL l303 := by rw [hx307]; simp
      have F4 := an F3 (an f296 (an hx298 (an f299 (an hx302n (an hx302e (an hx304 (an hx307n hx307e)))))))
      refine goN F4 ?_
      refine awp_draw ?_
      refine goN F4 ?_
      refine awp_gh (by rfl) ((Gh.frz _ (.o (σ6.gen + 2) 15 0)).trans ((Gh.pur _ (.o (σ6.gen + 2) 17 0)).trans (Gh.pur _ (.o (σ6.gen + 2) 18 0)))) ?_
      try simp only [St.frz, St.pur]
      refine goR F4 ?_
      exact hL275 (q278, (k239 + 1), l306) _ _ (Gh.ren _ (.o (σ6.gen + 2) 18 0) (.l 35) (by simp) rfl rfl) ⟨e272, hd283, pv F4, pv F4, pv F4, pv F4, pv F4, pv F4, pv F4, pv F4, pv F4, pv F4, pv F4, pv F4, pg⟩ (by simp)
  · obtain ⟨e173, h4_2, h4_3, g4_0, g4_1, g4_2, g4_3, g4_4, g4_5, g4_6, n4_g⟩ := hp
    obtain rfl := sj e173
    try dsimp only at hs
    have n4_0 : ¬ (σ3.gen = 0) := by omega
    have n4_1 : ¬ (σ3.gen = 1) := by omega
    have F5 := an h4_2 (an h4_3 (an g4_0 (an g4_1 (an g4_2 (an g4_3 (an g4_4 (an g4_5 (an g4_6 (an n4_0 n4_1)))))))))
    refine goD F5 ?_
    obtain rfl := sj hs
    refine hQ _ _ (ret2g _ ((Gh.ren _ (.o 2 3 0) (.r 0) (by simp) rfl rfl).trans ((Gh.ren _ (.o 2 7 0) (.r 1) (by simp) rfl rfl).trans ((Gh.ren _ (.o 2 11 0) (.r 2) (by simp) rfl rfl).trans ((Gh.ren _ (.l 12) (.r 3) (by simp) rfl rfl).trans (Gh.ren _ (.o 2 15 0) (.r 4) (by simp) rfl rfl))))) (by simp [St.frz, St.pur, F5]; rfl) (by first | rfl | (simp [St.frz, St.pur, F5]; done) | (rw [if_pos (by first | omega | (simp; omega))]; simp [St.frz, St.pur, F5]; first | omega | exact List.take_of_length_le (by simp; omega) | skip)) (pv F5))
end Go.Dc
end
section
set_option linter.all false
namespace Go.Dc
open Go Go.Hw Go.Proofs
set_option maxRecDepth 100000
def r15_Function_L1 (fuelN : Nat) : Nat → ByteArray → (List Inst) → Option Func
  | 0, _, _ => none
  | q29 + 1, s11, l12 => Option.bind (r15_Fold fuelN ({ Name := s11, Code := l12 } : Func)) (fun y33 => Option.bind (r15_Thread fuelN y33.1) (fun y35 => Option.bind (r15_Prune fuelN y35.1) (fun y37 => Option.bind (r15_SameCode y37.1 ({ Name := s11, Code := l12 } : Func)) (fun y39 => cond y39 (some (({ Name := s11, Code := l12 } : Func))) (r15_Function_L1 fuelN q29 y37.1.Name y37.1.Code)))))

def r15_Function (fuelN : Nat) (a0 : Func) : Option Func :=
  Option.bind (r15_Function_L1 fuelN fuelN a0.Name a0.Code) (fun r42 => some r42)

set_option maxHeartbeats 2000000 in
theorem at_r15_Function {fuelN : Nat} {a0 : Func} {r : Func} (hs : r15_Function fuelN a0 = some r) : At Tryd.prog 103 [.agg (eA a0)] (.agg (eA r)) := by
  refine at_bound (by kernel_rfl) fun hb => ?_
  have hb1 : LenOk (.sl a0.Code.length (encL a0.Code)) := lkc hb
  refine at_code mixed Tryd.func103 (by kernel_rfl) rfl (by kernel_rfl) rfl fun Q hQ => ?_
  rw [r15_Function] at hs
  refine goR f0 ?_
  revert hs; refine bK fun o24 e23 hs => ?_
  refine awp_loopW (fun (v : Nat × ByteArray × (List Inst)) (σ : St) => r15_Function_L1 fuelN v.1 v.2.1 v.2.2 = some o24 ∧ σ.env 1 = .cell (.ref (.o 1 0 0) 0) ∧ σ.env 2 = .cell (.ref (.o 1 1 0) 0) ∧ σ.hp (.o 1 0 0) = some (.cells [tC v.2.1, sC v.2.2]) ∧ σ.hp (.o 1 1 0) = some (.cells [tC (⟨#[]⟩ : ByteArray), .z]) ∧ 1 ≤ σ.gen) (fun v => v.1) _ (Gh.refl _) (fuelN, a0.Name, a0.Code) ⟨e23, pv f0, pv f0, pv f0, pv f0, pg⟩ fun v σ2 hp L25 hL26 => ?_
  obtain ⟨q28, s11, l12⟩ := v
  dsimp only at hp hL26
  obtain ⟨e23, h1_1, h1_2, g1_0, g1_1, n1_g⟩ := hp
  have n1_0 : ¬ (σ2.gen = 0) := by omega
  rcases q28 with _ | q29
  · rw [r15_Function_L1] at e23; cases e23
  · rw [r15_Function_L1] at e23; try dsimp only at e23
    have F1 := an h1_1 (an h1_2 (an g1_0 (an g1_1 n1_0)))
    refine goR F1 ?_
    revert e23; refine bK fun y33 hx34 e23 => ?_
    refine cP F1 (at_r15_Fold hx34) ?_
    refine goR F1 ?_
    revert e23; refine bK fun y35 hx36 e23 => ?_
    refine cP F1 (at_r15_Thread hx36) ?_
    refine goR F1 ?_
    revert e23; refine bK fun y37 hx38 e23 => ?_
    refine cP F1 (at_r15_Prune hx38) ?_
    refine goR F1 ?_
    revert e23; refine bK fun y39 hx40 e23 => ?_
    refine cP F1 (at_r15_SameCode hx40) ?_
    refine goR F1 ?_
    revert e23; refine cS F1 ?_ ?_ <;> intro h41 e23
    · refine goR F1 ?_
      obtain rfl := sj e23
      try dsimp only at hs
      obtain rfl := sj hs
      exact hQ _ _ (rg F1 (Gh.refl _))
    · refine goR F1 ?_
      exact hL26 (q29, y37.1.Name, y37.1.Code) _ _ (Gh.refl _) ⟨e23, pv F1, pv F1, pv F1, pv F1, pg⟩ (by omega)
end Go.Dc
end
section
set_option linter.all false
namespace Go.Dc
open Go Go.Hw Go.Proofs
set_option maxRecDepth 100000
def r15_Program_L1 (fuelN : Nat) : Nat → Nat → (List Func) → Option (List Func)
  | 0, k134, l135 => some (l135)
  | q161 + 1, k134, l135 => Option.bind (l135[k134]?) (fun x173 => Option.bind (r15_Function fuelN x173) (fun y176 => Option.bind (some (l135.set k134 y176)) (fun l178 => r15_Program_L1 fuelN q161 (k134 + 1) l178)))

def r15_Program (fuelN : Nat) (a0 : Program) : Option (Program × Int) :=
  Option.bind (r08_Check fuelN a0) (fun y1 => cond (!(eqI y1.1 0)) (some (({ Vars := [], Mutexes := [], Conds := [], Funcs := [], Threads := [] } : Program), y1.1)) (Option.bind (r08_Clone a0) (fun y4 => Option.bind (α := (List Func)) (Option.bind (r15_Program_L1 fuelN a0.Funcs.length 0 y4.Funcs) (fun l154 => some (l154))) (fun l91 => some ({ y4 with Funcs := l91 }, 0)))))

set_option maxHeartbeats 2000000 in
theorem at_r15_Program {fuelN : Nat} {a0 : Program} {r : Program × Int} (hs : r15_Program fuelN a0 = some r) : At Tryd.prog 48 [.agg (eA a0)] (.tup [.agg (eA r.1), iV .i64 r.2]) := by
  refine at_bound (by kernel_rfl) fun hb => ?_
  have hb1 : LenOk (.sl a0.Vars.length (encL a0.Vars)) := lkc hb
  have hb2 : LenOk (.sl a0.Mutexes.length (encL a0.Mutexes)) := lkc hb
  have hb3 : LenOk (.sl a0.Conds.length (encL a0.Conds)) := lkc hb
  have hb4 : LenOk (.sl a0.Funcs.length (encL a0.Funcs)) := lkc hb
  have hb5 : LenOk (.sl a0.Threads.length (encL a0.Threads)) := lkc hb
  refine at_code mixed Tryd.func48 (by kernel_rfl) rfl (by kernel_rfl) rfl fun Q hQ => ?_
  rw [r15_Program] at hs
  refine goR f0 ?_
  revert hs; refine bK fun y1 hx2 hs => ?_
  refine cP f0 (at_r08_Check hx2) ?_
  refine goR f0 ?_
  revert hs; refine cS f0 ?_ ?_ <;> intro h3 hs
  · refine goR f0 ?_
    obtain rfl := sj hs
    exact hQ _ _ (rg f0 (Gh.unz _))
  · refine goR f0 ?_
    revert hs; refine bK fun y4 hx5 hs => ?_
    refine cA f0 (at_r08_Clone hx5) ?_
    refine goR2 f0 ?_
    revert hs; refine bK fun o93 e92 hs => ?_
    refine awp_cutK (fun (v : (List Func)) (σ : St) => some (v) = some o93 ∧ σ.env 2 = .cell (.ref (.o 1 1 0) 0) ∧ σ.env 7 = .cell (.ref (.o 4 2 0) 0) ∧ σ.hp (.o 1 1 0) = some (.cells [.z, .z, .z, .z, .z]) ∧ σ.hp (.l 14) = some (.pure (encL v)) ∧ σ.hp (.o 4 2 0) = some (.cells [.sl (.o 4 1 0) 0 2 y4.Vars.length, .sl (.o 4 1 1) 0 1 y4.Mutexes.length, .sl (.o 4 1 2) 0 1 y4.Conds.length, .sl (.l 14) 0 2 v.length, .sl (.o 4 1 4) 0 2 y4.Threads.length]) ∧ σ.hp (.o 4 1 0) = some (.pure (encL y4.Vars)) ∧ σ.hp (.o 4 1 1) = some (.pure (encL y4.Mutexes)) ∧ σ.hp (.o 4 1 2) = some (.pure (encL y4.Conds)) ∧ σ.hp (.o 4 1 4) = some (.pure (encL y4.Threads)) ∧ 5 ≤ σ.gen) (by rfl) (fun Q hK94 hX95 => ?_) (fun l91 σ3 hp => ?_)
    · refine goR f0 ?_
      revert e92; refine bK fun o156 e155 e92 => ?_
      refine awp_loopW (fun (v : Nat × Nat × (List Func)) (σ : St) => r15_Program_L1 fuelN v.1 v.2.1 v.2.2 = some o156 ∧ v.1 + v.2.1 = a0.Funcs.length ∧ σ.env 1 = .cell (.ref (.o 1 0 0) 0) ∧ σ.env 2 = .cell (.ref (.o 1 1 0) 0) ∧ σ.env 7 = .cell (.ref (.o 4 2 0) 0) ∧ σ.env 8 = iV .i64 ((v.2.1 : Nat) : Int) ∧ σ.hp (.o 1 0 0) = some (.cells (eA a0)) ∧ σ.hp (.o 1 1 0) = some (.cells [.z, .z, .z, .z, .z]) ∧ σ.hp (.l 39) = some (.pure (encL v.2.2)) ∧ σ.hp (.o 4 2 0) = some (.cells [.sl (.o 4 1 0) 0 2 y4.Vars.length, .sl (.o 4 1 1) 0 1 y4.Mutexes.length, .sl (.o 4 1 2) 0 1 y4.Conds.length, .sl (.l 39) 0 2 v.2.2.length, .sl (.o 4 1 4) 0 2 y4.Threads.length]) ∧ σ.hp (.o 4 1 0) = some (.pure (encL y4.Vars)) ∧ σ.hp (.o 4 1 1) = some (.pure (encL y4.Mutexes)) ∧ σ.hp (.o 4 1 2) = some (.pure (encL y4.Conds)) ∧ σ.hp (.o 4 1 4) = some (.pure (encL y4.Threads)) ∧ 5 ≤ σ.gen) (fun v => v.1) _ (Gh.ren _ (.o 4 1 3) (.l 39) (by simp) rfl rfl) (a0.Funcs.length, 0, y4.Funcs) ⟨e155, by first | omega | simp | (simp; omega), pv f0, pv f0, pv f0, pv f0, pv f0, pv f0, pv f0, pv f0, pv f0, pv f0, pv f0, pv f0, pg⟩ fun v σ6 hp L157 hL158 => ?_
      obtain ⟨q160, k134, l135⟩ := v
      dsimp only at hp hL158
      obtain ⟨e155, hd159, h5_1, h5_2, h5_7, h5_8, g5_0, g5_1, g5_2, g5_3, g5_4, g5_5, g5_6, g5_7, n5_g⟩ := hp
      have n5_0 : ¬ (σ6.gen = 0) := by omega
      have n5_1 : ¬ (σ6.gen = 1) := by omega
      have n5_2 : ¬ (σ6.gen = 2) := by omega
      have n5_3 : ¬ (σ6.gen = 3) := by omega
      rcases q160 with _ | q161
      · have hlt162 : ¬ k134 < a0.Funcs.length := by omega
        rw [r15_Program_L1] at e155; try dsimp only at e155
        have F1 := an h5_1 (an h5_2 (an h5_7 (an h5_8 (an g5_0 (an g5_1 (an g5_2 (an g5_3 (an g5_4 (an g5_5 (an g5_6 (an g5_7 (an n5_0 (an n5_1 (an n5_2 n5_3))))))))))))))
        refine goR F1 ?_
        refine condK_f (by simp [ltI]; omega) ?_
        obtain rfl := sj e155
        try dsimp only at e92
        exact hK94 l135 _ _ (Gh.ren _ (.l 39) (.l 14) (by simp) rfl rfl) ⟨e92, pv F1, pv F1, pv F1, pv F1, pv F1, pv F1, pv F1, pv F1, pv F1, pg⟩
      · have hlt162 : k134 < a0.Funcs.length := by omega
        have ew163 := wrap_succ hlt162 (hb4).len
        rw [r15_Program_L1] at e155; try dsimp only at e155
        have F2 := an h5_1 (an h5_2 (an h5_7 (an h5_8 (an g5_0 (an g5_1 (an g5_2 (an g5_3 (an g5_4 (an g5_5 (an g5_6 (an g5_7 (an n5_0 (an n5_1 (an n5_2 (an n5_3 (an hlt162 ew163))))))))))))))))
        refine goR F2 ?_
        refine condK_t (by simp [ltI]; omega) ?_
        revert e155; refine bK fun x173 hx174 e155 => ?_
        have hx174b := getN_some hx174
        have f175 : partCV Tryd.prog 24 (encL l135) (k134 * 2) = some (.agg (eA x173)) := partCV_enc hx174 (f := 0) (by simp)
        have F3 := an F2 f175
        refine goD F3 ?_
        revert e155; refine bK fun y176 hx177 e155 => ?_
        refine cP F3 (at_r15_Function hx177) ?_
        revert e155; refine lK fun l178 hx179 e155 => ?_
        have f180 : setRun (encL l135) (k134 * 2) [.c (.string y176.Name), .sl y176.Code.length (encL y176.Code)] = encL l178 := hx179 ▸ setRun_enc hx174 (f := 0) (by simp) (by simp [setRun])
        simp only [setRun] at f180
        have f180n : l178.length = l135.length := by rw [hx179]; simp
        have F4 := an F3 (an f180 f180n)
        refine goD F4 ?_
        exact hL158 (q161, (k134 + 1), l178) _ _ (Gh.refl _) ⟨e155, (by first | omega | (simp; omega)), pv F4, pv F4, pv F4, pv F4, pv F4, pv F4, pv F4, pv F4, pv F4, pv F4, pv F4, pv F4, pg⟩ (by omega)
    · obtain ⟨e92, h4_2, h4_7, g4_0, g4_1, g4_2, g4_3, g4_4, g4_5, g4_6, n4_g⟩ := hp
      obtain rfl := sj e92
      try dsimp only at hs
      have n4_0 : ¬ (σ3.gen = 0) := by omega
      have n4_1 : ¬ (σ3.gen = 1) := by omega
      have n4_2 : ¬ (σ3.gen = 2) := by omega
      have n4_3 : ¬ (σ3.gen = 3) := by omega
      have F5 := an h4_2 (an h4_7 (an g4_0 (an g4_1 (an g4_2 (an g4_3 (an g4_4 (an g4_5 (an g4_6 (an n4_0 (an n4_1 (an n4_2 n4_3)))))))))))
      refine goR F5 ?_
      obtain rfl := sj hs
      exact hQ _ _ (rg F5 ((Gh.frz _ (.o 4 1 0)).trans ((Gh.frz _ (.o 4 1 1)).trans ((Gh.frz _ (.o 4 1 2)).trans ((Gh.frz _ (.l 14)).trans (Gh.frz _ (.o 4 1 4)))))))
end Go.Dc
end
section
set_option linter.all false
namespace Go.Dc
open Go Go.Hw Go.Proofs
set_option maxRecDepth 100000
def r08_same_L1 (a1 : List ByteArray) : List ByteArray → Nat → Option (Unit ⊕ Bool)
  | [], k76 => some (.inl ())
  | x102 :: q98, k76 => Option.bind (a1[k76]?) (fun x109 => cond (!(eqS x102 x109)) (some (.inr false)) (r08_same_L1 a1 q98 (k76 + 1)))

def r08_same (a0 : List ByteArray) (a1 : List ByteArray) : Option Bool :=
  cond (!(eqI ((a0.length : Nat) : Int) ((a1.length : Nat) : Int))) (some false) (Option.bind (α := Unit ⊕ Bool) (Option.bind (r08_same_L1 a1 a0 0) (fun o => match o with | .inl _ => some (.inl ()) | .inr r113 => some (.inr r113))) (fun o => match o with | .inl _ => some true | .inr r114 => some r114))

set_option maxHeartbeats 2000000 in
theorem at_r08_same {a0 : List ByteArray} {a1 : List ByteArray} {r : Bool} (hs : r08_same a0 a1 = some r) : At Tryd.prog 104 [.cell (sC a0), .cell (sC a1)] (bV r) := by
  refine at_bound (by kernel_rfl) fun hb => ?_
  have hb1 : LenOk (.sl a0.length (encL a0)) := lkc hb
  have hb2 : LenOk (.sl a1.length (encL a1)) := lkc hb
  refine at_code mixed Tryd.func104 (by kernel_rfl) rfl (by kernel_rfl) rfl fun Q hQ => ?_
  rw [r08_same] at hs
  refine goR f0 ?_
  revert hs; refine cS f0 ?_ ?_ <;> intro h1 hs
  · refine goR f0 ?_
    obtain rfl := sj hs
    exact hQ _ _ (rg f0 (Gh.refl _))
  · refine goR2 f0 ?_
    revert hs; refine bK fun o57 e56 hs => ?_
    refine awp_cutK (fun (v : Unit) (σ : St) => some (.inl v) = some o57 ∧ 3 ≤ σ.gen) (by rfl) (fun Q hK58 hX59 => ?_) (fun v σ3 hp => ?_)
    · refine goR f0 ?_
      revert e56; refine bK fun o93 e92 e56 => ?_
      refine awp_loopW (fun (v : (List ByteArray) × Nat) (σ : St) => r08_same_L1 a1 v.1 v.2 = some o93 ∧ v.1 = a0.drop v.2 ∧ σ.env 0 = .cell (sC a0) ∧ σ.env 1 = .cell (sC a1) ∧ σ.env 5 = iV .i64 ((v.2 : Nat) : Int) ∧ 3 ≤ σ.gen) (fun v => v.1.length) _ (Gh.refl _) (a0, 0) ⟨e92, by simp, pv f0, pv f0, pv f0, pg⟩ fun v σ6 hp L94 hL95 => ?_
      obtain ⟨q97, k76⟩ := v
      dsimp only at hp hL95
      obtain ⟨e92, hd96, h5_0, h5_1, h5_5, n5_g⟩ := hp
      rcases q97 with _ | ⟨x102, q98⟩
      · have hlt99 := drop_end hd96
        rw [r08_same_L1] at e92; try dsimp only at e92
        have F1 := an h5_0 (an h5_1 h5_5)
        refine goR F1 ?_
        refine condK_f (by simp [ltI]; omega) ?_
        obtain rfl := sj e92
        try dsimp only at e56
        exact hK58 () _ _ (Gh.refl _) ⟨e56, pg⟩
      · obtain ⟨hx101, hlt99, hd103⟩ := drop_next hd96
        have ew100 := wrap_succ hlt99 (hb1).len
        rw [r08_same_L1] at e92; try dsimp only at e92
        have F2 := an h5_0 (an h5_1 (an h5_5 (an hlt99 ew100)))
        refine goR F2 ?_
        refine condK_t (by simp [ltI]; omega) ?_
        have f108 : partCV Tryd.prog 9 (encL a0) (k76) = some (sV x102) := partCV_enc1 hx101 (by simp)
        revert e92; refine bK fun x109 hx110 e92 => ?_
        have hx110b := getN_some hx110
        have f111 : partCV Tryd.prog 9 (encL a1) (k76) = some (sV x109) := partCV_enc1 hx110 (by simp)
        have F3 := an F2 (an f108 f111)
        refine goD F3 ?_
        revert e92; refine cS F3 ?_ ?_ <;> intro h112 e92
        · refine goD F3 ?_
          obtain rfl := sj e92
          try dsimp only at e56
          obtain rfl := sj e56
          try dsimp only at hs
          refine hX59 _ _ (by simp) ?_
          refine goD F3 ?_
          obtain rfl := sj hs
          exact hQ _ _ (rg F3 (Gh.refl _))
        · refine goD F3 ?_
          exact hL95 (q98, (k76 + 1)) _ _ (Gh.refl _) ⟨e92, hd103, pv F3, pv F3, pv F3, pg⟩ (by simp)
    · obtain ⟨e56, n4_g⟩ := hp
      obtain rfl := sj e56
      try dsimp only at hs
      refine goR f0 ?_
      obtain rfl := sj hs
      exact hQ _ _ (rg f0 (Gh.refl _))
end Go.Dc
end
section
set_option linter.all false
namespace Go.Dc
open Go Go.Hw Go.Proofs
set_option maxRecDepth 100000
def r08_function_L1 (a1 : Func) : List Inst → Nat → Option (Unit ⊕ Bool)
  | [], k76 => some (.inl ())
  | x102 :: q98, k76 => Option.bind (a1.Code[k76]?) (fun x109 => cond (!(andB (eqI x102.Op x109.Op) (andB (eqI x102.A x109.A) (andB (eqI x102.B x109.B) (andB (eqI x102.C x109.C) (andB (eqI x102.Obj x109.Obj) (andB (eqI x102.N x109.N) (andB (eqI x102.Fn x109.Fn) (andB (eqI x102.Order x109.Order) true))))))))) (some (.inr false)) (r08_function_L1 a1 q98 (k76 + 1)))

def r08_function (a0 : Func) (a1 : Func) : Option Bool :=
  cond (orB (!(eqS a0.Name a1.Name)) (!(eqI ((a0.Code.length : Nat) : Int) ((a1.Code.length : Nat) : Int)))) (some false) (Option.bind (α := Unit ⊕ Bool) (Option.bind (r08_function_L1 a1 a0.Code 0) (fun o => match o with | .inl _ => some (.inl ()) | .inr r113 => some (.inr r113))) (fun o => match o with | .inl _ => some true | .inr r114 => some r114))

set_option maxHeartbeats 2000000 in
theorem at_r08_function {a0 : Func} {a1 : Func} {r : Bool} (hs : r08_function a0 a1 = some r) : At Tryd.prog 105 [.agg (eA a0), .agg (eA a1)] (bV r) := by
  refine at_bound (by kernel_rfl) fun hb => ?_
  have hb1 : LenOk (.sl a0.Code.length (encL a0.Code)) := lkc hb
  have hb2 : LenOk (.sl a1.Code.length (encL a1.Code)) := lkc hb
  refine at_code mixed Tryd.func105 (by kernel_rfl) rfl (by kernel_rfl) rfl fun Q hQ => ?_
  rw [r08_function] at hs
  refine goG f0 f0 ?_
  revert hs; refine cS f0 ?_ ?_ <;> intro h1 hs
  · refine goG f0 f0 ?_
    obtain rfl := sj hs
    exact hQ _ _ (rg f0 (Gh.refl _))
  · refine goG2 f0 f0 ?_
    revert hs; refine bK fun o57 e56 hs => ?_
    refine awp_cutK (fun (v : Unit) (σ : St) => some (.inl v) = some o57 ∧ 3 ≤ σ.gen) (by rfl) (fun Q hK58 hX59 => ?_) (fun v σ3 hp => ?_)
    · refine goG f0 f0 ?_
      revert e56; refine bK fun o93 e92 e56 => ?_
      refine awp_loopW (fun (v : (List Inst) × Nat) (σ : St) => r08_function_L1 a1 v.1 v.2 = some o93 ∧ v.1 = a0.Code.drop v.2 ∧ σ.env 2 = .cell (.ref (.o 1 0 0) 0) ∧ σ.env 3 = .cell (.ref (.o 1 1 0) 0) ∧ σ.env 5 = iV .i64 ((v.2 : Nat) : Int) ∧ σ.hp (.o 1 0 0) = some (.cells (eA a0)) ∧ σ.hp (.o 1 1 0) = some (.cells (eA a1)) ∧ 3 ≤ σ.gen) (fun v => v.1.length) _ (Gh.refl _) (a0.Code, 0) ⟨e92, by simp, pv f0, pv f0, pv f0, pv f0, pv f0, pg⟩ fun v σ6 hp L94 hL95 => ?_
      obtain ⟨q97, k76⟩ := v
      dsimp only at hp hL95
      obtain ⟨e92, hd96, h5_2, h5_3, h5_5, g5_0, g5_1, n5_g⟩ := hp
      have n5_0 : ¬ (σ6.gen = 0) := by omega
      rcases q97 with _ | ⟨x102, q98⟩
      · have hlt99 := drop_end hd96
        rw [r08_function_L1] at e92; try dsimp only at e92
        have F1 := an h5_2 (an h5_3 (an h5_5 (an g5_0 (an g5_1 n5_0))))
        refine goR F1 ?_
        refine condK_f (by simp [ltI]; omega) ?_
        obtain rfl := sj e92
        try dsimp only at e56
        exact hK58 () _ _ (Gh.refl _) ⟨e56, pg⟩
      · obtain ⟨hx101, hlt99, hd103⟩ := drop_next hd96
        have ew100 := wrap_succ hlt99 (hb1).len
        rw [r08_function_L1] at e92; try dsimp only at e92
        have F2 := an h5_2 (an h5_3 (an h5_5 (an g5_0 (an g5_1 (an n5_0 (an hlt99 ew100))))))
        refine goR F2 ?_
        refine condK_t (by simp [ltI]; omega) ?_
        have f108 : partCV Tryd.prog 83 (encL a0.Code) (k76 * 8) = some (.agg (eA x102)) := partCV_enc hx101 (f := 0) (by simp)
        revert e92; refine bK fun x109 hx110 e92 => ?_
        have hx110b := getN_some hx110
        have f111 : partCV Tryd.prog 83 (encL a1.Code) (k76 * 8) = some (.agg (eA x109)) := partCV_enc hx110 (f := 0) (by simp)
        have F3 := an F2 (an f108 f111)
        refine goD F3 ?_
        revert e92; refine cS F3 ?_ ?_ <;> intro h112 e92
        · refine goD F3 ?_
          obtain rfl := sj e92
          try dsimp only at e56
          obtain rfl := sj e56
          try dsimp only at hs
          refine hX59 _ _ (by simp) ?_
          refine goD F3 ?_
          obtain rfl := sj hs
          exact hQ _ _ (rg F3 (Gh.refl _))
        · refine goD F3 ?_
          exact hL95 (q98, (k76 + 1)) _ _ (Gh.refl _) ⟨e92, hd103, pv F3, pv F3, pv F3, pv F3, pv F3, pg⟩ (by simp)
    · obtain ⟨e56, n4_g⟩ := hp
      obtain rfl := sj e56
      try dsimp only at hs
      refine goG f0 f0 ?_
      obtain rfl := sj hs
      exact hQ _ _ (rg f0 (Gh.refl _))
end Go.Dc
end
section
set_option linter.all false
namespace Go.Dc
open Go Go.Hw Go.Proofs
set_option maxRecDepth 100000
def r08_Equal_L1 (a1 : Program) : List Var → Nat → Option (Unit ⊕ Bool)
  | [], k78 => some (.inl ())
  | x104 :: q100, k78 => Option.bind (a1.Vars[k78]?) (fun x111 => cond (!(andB (eqS x104.Name x111.Name) (andB (eqI x104.Init x111.Init) true))) (some (.inr false)) (r08_Equal_L1 a1 q100 (k78 + 1)))

def r08_Equal_L2 (a1 : Program) : List Func → Nat → Option (Unit ⊕ Bool)
  | [], k206 => some (.inl ())
  | x236 :: q232, k206 => Option.bind (a1.Funcs[k206]?) (fun x245 => Option.bind (r08_function x236 x245) (fun y248 => cond (!y248) (some (.inr false)) (r08_Equal_L2 a1 q232 (k206 + 1))))

def r08_Equal_L3 (a1 : Program) : List Start → Nat → Option (Unit ⊕ Bool)
  | [], k326 => some (.inl ())
  | x352 :: q348, k326 => Option.bind (a1.Threads[k326]?) (fun x359 => cond (!(andB (eqI x352.Func x359.Func) (andB (eqI x352.Arg x359.Arg) true))) (some (.inr false)) (r08_Equal_L3 a1 q348 (k326 + 1)))

def r08_Equal (a0 : Program) (a1 : Program) : Option Bool :=
  guardO (orB (!(eqI ((a0.Vars.length : Nat) : Int) ((a1.Vars.length : Nat) : Int))) ((r08_same a0.Mutexes a1.Mutexes).isSome)) (guardO (orB (!(!(orB (!(eqI ((a0.Vars.length : Nat) : Int) ((a1.Vars.length : Nat) : Int))) (!((r08_same a0.Mutexes a1.Mutexes).getD default))))) ((r08_same a0.Conds a1.Conds).isSome)) (cond (orB (orB (orB (orB (!(eqI ((a0.Vars.length : Nat) : Int) ((a1.Vars.length : Nat) : Int))) (!((r08_same a0.Mutexes a1.Mutexes).getD default))) (!((r08_same a0.Conds a1.Conds).getD default))) (!(eqI ((a0.Funcs.length : Nat) : Int) ((a1.Funcs.length : Nat) : Int)))) (!(eqI ((a0.Threads.length : Nat) : Int) ((a1.Threads.length : Nat) : Int)))) (some false) (Option.bind (α := Unit ⊕ Bool) (Option.bind (r08_Equal_L1 a1 a0.Vars 0) (fun o => match o with | .inl _ => some (.inl ()) | .inr r115 => some (.inr r115))) (fun o => match o with | .inl _ => Option.bind (α := Unit ⊕ Bool) (Option.bind (r08_Equal_L2 a1 a0.Funcs 0) (fun o => match o with | .inl _ => some (.inl ()) | .inr r251 => some (.inr r251))) (fun o => match o with | .inl _ => Option.bind (α := Unit ⊕ Bool) (Option.bind (r08_Equal_L3 a1 a0.Threads 0) (fun o => match o with | .inl _ => some (.inl ()) | .inr r363 => some (.inr r363))) (fun o => match o with | .inl _ => some true | .inr r364 => some r364) | .inr r365 => some r365) | .inr r366 => some r366))))

set_option maxHeartbeats 2000000 in
theorem at_r08_Equal {a0 : Program} {a1 : Program} {r : Bool} (hs : r08_Equal a0 a1 = some r) : At Tryd.prog 49 [.agg (eA a0), .agg (eA a1)] (bV r) := by
  refine at_bound (by kernel_rfl) fun hb => ?_
  have hb1 : LenOk (.sl a0.Vars.length (encL a0.Vars)) := lkc hb
  have hb2 : LenOk (.sl a0.Mutexes.length (encL a0.Mutexes)) := lkc hb
  have hb3 : LenOk (.sl a0.Conds.length (encL a0.Conds)) := lkc hb
  have hb4 : LenOk (.sl a0.Funcs.length (encL a0.Funcs)) := lkc hb
  have hb5 : LenOk (.sl a0.Threads.length (encL a0.Threads)) := lkc hb
  have hb6 : LenOk (.sl a1.Vars.length (encL a1.Vars)) := lkc hb
  have hb7 : LenOk (.sl a1.Mutexes.length (encL a1.Mutexes)) := lkc hb
  have hb8 : LenOk (.sl a1.Conds.length (encL a1.Conds)) := lkc hb
  have hb9 : LenOk (.sl a1.Funcs.length (encL a1.Funcs)) := lkc hb
  have hb10 : LenOk (.sl a1.Threads.length (encL a1.Threads)) := lkc hb
  refine at_code mixed Tryd.func49 (by kernel_rfl) rfl (by kernel_rfl) rfl fun Q hQ => ?_
  rw [r08_Equal] at hs
  refine goG f0 f0 ?_
  obtain ⟨g1, hs⟩ := guardO_some hs
  refine gsel_call (fun hg => at_r08_same (under_call g1 hg)) (fun hg => by (try simp at hg); (first | simp [hg, id]); try rfl) (fun hg => by (try simp at hg); simp [hg, id]) (by simp) ?_
  refine goG f0 f0 ?_
  obtain ⟨g2, hs⟩ := guardO_some hs
  refine gsel_call (fun hg => at_r08_same (under_call g2 hg)) (fun hg => by (try simp at hg); (first | simp [hg, id]); try rfl) (fun hg => by (try simp at hg); simp [hg, id]) (by simp) ?_
  refine goG f0 f0 ?_
  revert hs; refine cS f0 ?_ ?_ <;> intro h3 hs
  · refine goG f0 f0 ?_
    obtain rfl := sj hs
    exact hQ _ _ (rg f0 (Gh.refl _))
  · refine goG2 f0 f0 ?_
    revert hs; refine bK fun o59 e58 hs => ?_
    refine awp_cutK (fun (v : Unit) (σ : St) => some (.inl v) = some o59 ∧ σ.env 2 = .cell (.ref (.o 1 0 0) 0) ∧ σ.env 3 = .cell (.ref (.o 1 1 0) 0) ∧ σ.hp (.o 1 0 0) = some (.cells (eA a0)) ∧ σ.hp (.o 1 1 0) = some (.cells (eA a1)) ∧ 3 ≤ σ.gen) (by rfl) (fun Q hK60 hX61 => ?_) (fun v σ3 hp => ?_)
    · refine goG f0 f0 ?_
      revert e58; refine bK fun o95 e94 e58 => ?_
      refine awp_loopW (fun (v : (List Var) × Nat) (σ : St) => r08_Equal_L1 a1 v.1 v.2 = some o95 ∧ v.1 = a0.Vars.drop v.2 ∧ σ.env 2 = .cell (.ref (.o 1 0 0) 0) ∧ σ.env 3 = .cell (.ref (.o 1 1 0) 0) ∧ σ.env 5 = iV .i64 ((v.2 : Nat) : Int) ∧ σ.hp (.o 1 0 0) = some (.cells (eA a0)) ∧ σ.hp (.o 1 1 0) = some (.cells (eA a1)) ∧ 3 ≤ σ.gen) (fun v => v.1.length) _ (Gh.refl _) (a0.Vars, 0) ⟨e94, by simp, pv f0, pv f0, pv f0, pv f0, pv f0, pg⟩ fun v σ6 hp L96 hL97 => ?_
      obtain ⟨q99, k78⟩ := v
      dsimp only at hp hL97
      obtain ⟨e94, hd98, h5_2, h5_3, h5_5, g5_0, g5_1, n5_g⟩ := hp
      have n5_0 : ¬ (σ6.gen = 0) := by omega
      rcases q99 with _ | ⟨x104, q100⟩
      · have hlt101 := drop_end hd98
        rw [r08_Equal_L1] at e94; try dsimp only at e94
        have F1 := an h5_2 (an h5_3 (an h5_5 (an g5_0 (an g5_1 n5_0))))
        refine goR F1 ?_
        refine condK_f (by simp [ltI]; omega) ?_
        obtain rfl := sj e94
        try dsimp only at e58
        exact hK60 () _ _ (Gh.refl _) ⟨e58, pv F1, pv F1, pv F1, pv F1, pg⟩
      · obtain ⟨hx103, hlt101, hd105⟩ := drop_next hd98
        have ew102 := wrap_succ hlt101 (hb1).len
        rw [r08_Equal_L1] at e94; try dsimp only at e94
        have F2 := an h5_2 (an h5_3 (an h5_5 (an g5_0 (an g5_1 (an n5_0 (an hlt101 ew102))))))
        refine goR F2 ?_
        refine condK_t (by simp [ltI]; omega) ?_
        have f110 : partCV Tryd.prog 69 (encL a0.Vars) (k78 * 2) = some (.agg (eA x104)) := partCV_enc hx103 (f := 0) (by simp)
        revert e94; refine bK fun x111 hx112 e94 => ?_
        have hx112b := getN_some hx112
        have f113 : partCV Tryd.prog 69 (encL a1.Vars) (k78 * 2) = some (.agg (eA x111)) := partCV_enc hx112 (f := 0) (by simp)
        have F3 := an F2 (an f110 f113)
        refine goD F3 ?_
        revert e94; refine cS F3 ?_ ?_ <;> intro h114 e94
        · refine goD F3 ?_
          obtain rfl := sj e94
          try dsimp only at e58
          obtain rfl := sj e58
          try dsimp only at hs
          refine hX61 _ _ (by simp) ?_
          refine goD F3 ?_
          obtain rfl := sj hs
          exact hQ _ _ (rg F3 (Gh.refl _))
        · refine goD F3 ?_
          exact hL97 (q100, (k78 + 1)) _ _ (Gh.refl _) ⟨e94, hd105, pv F3, pv F3, pv F3, pv F3, pv F3, pg⟩ (by simp)
    · obtain ⟨e58, h4_2, h4_3, g4_0, g4_1, n4_g⟩ := hp
      obtain rfl := sj e58
      try dsimp only at hs
      have n4_0 : ¬ (σ3.gen = 0) := by omega
      have F4 := an h4_2 (an h4_3 (an g4_0 (an g4_1 n4_0)))
      refine goG2 F4 F4 ?_
      revert hs; refine bK fun o183 e182 hs => ?_
      refine awp_cutK (fun (v : Unit) (σ : St) => some (.inl v) = some o183 ∧ σ.env 2 = .cell (.ref (.o 1 0 0) 0) ∧ σ.env 3 = .cell (.ref (.o 1 1 0) 0) ∧ σ.hp (.o 1 0 0) = some (.cells (eA a0)) ∧ σ.hp (.o 1 1 0) = some (.cells (eA a1)) ∧ (σ3.gen + 1) ≤ σ.gen) (by rfl) (fun Q hK184 hX185 => ?_) (fun v σ9 hp => ?_)
      · refine goG F4 F4 ?_
        revert e182; refine bK fun o227 e226 e182 => ?_
        refine awp_loopW (fun (v : (List Func) × Nat) (σ : St) => r08_Equal_L2 a1 v.1 v.2 = some o227 ∧ v.1 = a0.Funcs.drop v.2 ∧ σ.env 2 = .cell (.ref (.o 1 0 0) 0) ∧ σ.env 3 = .cell (.ref (.o 1 1 0) 0) ∧ σ.env 6 = iV .i64 ((v.2 : Nat) : Int) ∧ σ.hp (.o 1 0 0) = some (.cells (eA a0)) ∧ σ.hp (.o 1 1 0) = some (.cells (eA a1)) ∧ (σ3.gen + 1) ≤ σ.gen) (fun v => v.1.length) _ (Gh.refl _) (a0.Funcs, 0) ⟨e226, by simp, pv F4, pv F4, pv F4, pv F4, pv F4, pg⟩ fun v σ12 hp L228 hL229 => ?_
        obtain ⟨q231, k206⟩ := v
        dsimp only at hp hL229
        obtain ⟨e226, hd230, h11_2, h11_3, h11_6, g11_0, g11_1, n11_g⟩ := hp
        have n11_0 : ¬ (σ12.gen = 0) := by omega
        rcases q231 with _ | ⟨x236, q232⟩
        · have hlt233 := drop_end hd230
          rw [r08_Equal_L2] at e226; try dsimp only at e226
          have F5 := an h11_2 (an h11_3 (an h11_6 (an g11_0 (an g11_1 n11_0))))
          refine goR F5 ?_
          refine condK_f (by simp [ltI]; omega) ?_
          obtain rfl := sj e226
          try dsimp only at e182
          exact hK184 () _ _ (Gh.refl _) ⟨e182, pv F5, pv F5, pv F5, pv F5, pg⟩
        · obtain ⟨hx235, hlt233, hd237⟩ := drop_next hd230
          have ew234 := wrap_succ hlt233 (hb4).len
          rw [r08_Equal_L2] at e226; try dsimp only at e226
          have F6 := an h11_2 (an h11_3 (an h11_6 (an g11_0 (an g11_1 (an n11_0 (an hlt233 ew234))))))
          refine goR F6 ?_
          refine condK_t (by simp [ltI]; omega) ?_
          have f244 : partCV Tryd.prog 24 (encL a0.Funcs) (k206 * 2) = some (.agg (eA x236)) := partCV_enc hx235 (f := 0) (by simp)
          revert e226; refine bK fun x245 hx246 e226 => ?_
          have hx246b := getN_some hx246
          have f247 : partCV Tryd.prog 24 (encL a1.Funcs) (k206 * 2) = some (.agg (eA x245)) := partCV_enc hx246 (f := 0) (by simp)
          have F7 := an F6 (an f244 f247)
          refine goD F7 ?_
          revert e226; refine bK fun y248 hx249 e226 => ?_
          refine cP F7 (at_r08_function hx249) ?_
          refine goD F7 ?_
          revert e226; refine cS F7 ?_ ?_ <;> intro h250 e226
          · refine goD F7 ?_
            obtain rfl := sj e226
            try dsimp only at e182
            obtain rfl := sj e182
            try dsimp only at hs
            refine hX185 _ _ (by simp) ?_
            refine goD F7 ?_
            obtain rfl := sj hs
            exact hQ _ _ (rg F7 (Gh.refl _))
          · refine goD F7 ?_
            exact hL229 (q232, (k206 + 1)) _ _ (Gh.refl _) ⟨e226, hd237, pv F7, pv F7, pv F7, pv F7, pv F7, pg⟩ (by simp)
      · obtain ⟨e182, h10_2, h10_3, g10_0, g10_1, n10_g⟩ := hp
        obtain rfl := sj e182
        try dsimp only at hs
        have n10_0 : ¬ (σ9.gen = 0) := by omega
        have F8 := an h10_2 (an h10_3 (an g10_0 (an g10_1 n10_0)))
        refine goG2 F8 F8 ?_
        revert hs; refine bK fun o307 e306 hs => ?_
        refine awp_cutK (fun (v : Unit) (σ : St) => some (.inl v) = some o307 ∧ (σ9.gen + 1) ≤ σ.gen) (by rfl) (fun Q hK308 hX309 => ?_) (fun v σ15 hp => ?_)
        · refine goG F8 F8 ?_
          revert e306; refine bK fun o343 e342 e306 => ?_
          refine awp_loopW (fun (v : (List Start) × Nat) (σ : St) => r08_Equal_L3 a1 v.1 v.2 = some o343 ∧ v.1 = a0.Threads.drop v.2 ∧ σ.env 2 = .cell (.ref (.o 1 0 0) 0) ∧ σ.env 3 = .cell (.ref (.o 1 1 0) 0) ∧ σ.env 7 = iV .i64 ((v.2 : Nat) : Int) ∧ σ.hp (.o 1 0 0) = some (.cells (eA a0)) ∧ σ.hp (.o 1 1 0) = some (.cells (eA a1)) ∧ (σ9.gen + 1) ≤ σ.gen) (fun v => v.1.length) _ (Gh.refl _) (a0.Threads, 0) ⟨e342, by simp, pv F8, pv F8, pv F8, pv F8, pv F8, pg⟩ fun v σ18 hp L344 hL345 => ?_
          obtain ⟨q347, k326⟩ := v
          dsimp only at hp hL345
          obtain ⟨e342, hd346, h17_2, h17_3, h17_7, g17_0, g17_1, n17_g⟩ := hp
          have n17_0 : ¬ (σ18.gen = 0) := by omega
          rcases q347 with _ | ⟨x352, q348⟩
          · have hlt349 := drop_end hd346
            rw [r08_Equal_L3] at e342; try dsimp only at e342
            have F9 := an h17_2 (an h17_3 (an h17_7 (an g17_0 (an g17_1 n17_0))))
            refine goR F9 ?_
            refine condK_f (by simp [ltI]; omega) ?_
            obtain rfl := sj e342
            try dsimp only at e306
            exact hK308 () _ _ (Gh.refl _) ⟨e306, pg⟩
          · obtain ⟨hx351, hlt349, hd353⟩ := drop_next hd346
            have ew350 := wrap_succ hlt349 (hb5).len
            rw [r08_Equal_L3] at e342; try dsimp only at e342
            have F10 := an h17_2 (an h17_3 (an h17_7 (an g17_0 (an g17_1 (an n17_0 (an hlt349 ew350))))))
            refine goR F10 ?_
            refine condK_t (by simp [ltI]; omega) ?_
            have f358 : partCV Tryd.prog 144 (encL a0.Threads) (k326 * 2) = some (.agg (eA x352)) := partCV_enc hx351 (f := 0) (by simp)
            revert e342; refine bK fun x359 hx360 e342 => ?_
            have hx360b := getN_some hx360
            have f361 : partCV Tryd.prog 144 (encL a1.Threads) (k326 * 2) = some (.agg (eA x359)) := partCV_enc hx360 (f := 0) (by simp)
            have F11 := an F10 (an f358 f361)
            refine goD F11 ?_
            revert e342; refine cS F11 ?_ ?_ <;> intro h362 e342
            · refine goD F11 ?_
              obtain rfl := sj e342
              try dsimp only at e306
              obtain rfl := sj e306
              try dsimp only at hs
              refine hX309 _ _ (by simp) ?_
              refine goD F11 ?_
              obtain rfl := sj hs
              exact hQ _ _ (rg F11 (Gh.refl _))
            · refine goD F11 ?_
              exact hL345 (q348, (k326 + 1)) _ _ (Gh.refl _) ⟨e342, hd353, pv F11, pv F11, pv F11, pv F11, pv F11, pg⟩ (by simp)
        · obtain ⟨e306, n16_g⟩ := hp
          obtain rfl := sj e306
          try dsimp only at hs
          refine goG f0 f0 ?_
          obtain rfl := sj hs
          exact hQ _ _ (rg f0 (Gh.refl _))
end Go.Dc
end
section
set_option linter.all false
namespace Go.Dc
open Go Go.Hw Go.Proofs
set_option maxRecDepth 100000

def law15_SimplifyPrograms (fuelN : Nat) (a0 : Program) : Option Bool :=
  Option.bind (law15_small a0) (fun y1 => cond (!y1) (Option.bind (law15_exampleHolds fuelN) (fun y4 => some y4)) (Option.bind (simplify_Program fuelN a0) (fun y6 => Option.bind (r15_Program fuelN a0) (fun y8 => guardO (orB (!(eqI y6.2 y8.2)) ((r08_Equal y6.1 y8.1).isSome)) (guardO (orB (!(andB (eqI y6.2 y8.2) ((r08_Equal y6.1 y8.1).getD default))) ((law15_exampleHolds fuelN).isSome)) (some (andB (andB (eqI y6.2 y8.2) ((r08_Equal y6.1 y8.1).getD default)) ((law15_exampleHolds fuelN).getD default))))))))

set_option maxHeartbeats 2000000 in
theorem at_law15_SimplifyPrograms {fuelN : Nat} {a0 : Program} {r : Bool} (hs : law15_SimplifyPrograms fuelN a0 = some r) : At Tryd.prog 13 [.agg (eA a0)] (bV r) := by
  refine at_bound (by kernel_rfl) fun hb => ?_
  have hb1 : LenOk (.sl a0.Vars.length (encL a0.Vars)) := lkc hb
  have hb2 : LenOk (.sl a0.Mutexes.length (encL a0.Mutexes)) := lkc hb
  have hb3 : LenOk (.sl a0.Conds.length (encL a0.Conds)) := lkc hb
  have hb4 : LenOk (.sl a0.Funcs.length (encL a0.Funcs)) := lkc hb
  have hb5 : LenOk (.sl a0.Threads.length (encL a0.Threads)) := lkc hb
  refine at_code mixed Tryd.func13 (by kernel_rfl) rfl (by kernel_rfl) rfl fun Q hQ => ?_
  rw [law15_SimplifyPrograms] at hs
  refine goR f0 ?_
  revert hs; refine bK fun y1 hx2 hs => ?_
  refine cP f0 (at_law15_small hx2) ?_
  refine goR f0 ?_
  revert hs; refine cS f0 ?_ ?_ <;> intro h3 hs
  · refine goR f0 ?_
    revert hs; refine bK fun y4 hx5 hs => ?_
    refine cP f0 (at_law15_exampleHolds hx5) ?_
    refine goR f0 ?_
    obtain rfl := sj hs
    exact hQ _ _ (rg f0 (Gh.refl _))
  · refine goR f0 ?_
    revert hs; refine bK fun y6 hx7 hs => ?_
    refine cP f0 (at_simplify_Program hx7) ?_
    refine goR f0 ?_
    revert hs; refine bK fun y8 hx9 hs => ?_
    refine cP f0 (at_r15_Program hx9) ?_
    refine goG f0 f0 ?_
    obtain ⟨g10, hs⟩ := guardO_some hs
    refine gsel_call (fun hg => at_r08_Equal (under_call g10 hg)) (fun hg => by (try simp at hg); (first | simp [hg, id]); try rfl) (fun hg => by (try simp at hg); simp [hg, id]) (by simp) ?_
    refine goG f0 f0 ?_
    obtain ⟨g11, hs⟩ := guardO_some hs
    refine gsel_call (fun hg => at_law15_exampleHolds (under_call g11 hg)) (fun hg => by (try simp at hg); (first | simp [hg, id]); try rfl) (fun hg => by (try simp at hg); simp [hg, id]) (by simp) ?_
    refine goG f0 f0 ?_
    obtain rfl := sj hs
    exact hQ _ _ (rg f0 (Gh.refl _))
end Go.Dc
end
section
set_option linter.all false
namespace Go.Dc
open Go Go.Hw Go.Proofs
set_option maxRecDepth 100000

def r08_Valid (fuelN : Nat) (a0 : Program) : Option Bool :=
  Option.bind (r08_Check fuelN a0) (fun y1 => some (eqI y1.1 0))

end Go.Dc
end
section
set_option linter.all false
namespace Go.Dc
open Go Go.Hw Go.Proofs
set_option maxRecDepth 100000
def law15_SimplifyIdempotent_L1 (fuelN : Nat) (a0 : Program) : List Func → Nat → Option (Unit ⊕ Bool)
  | [], k104 => some (.inl ())
  | x133 :: q129, k104 => Option.bind (simplify_Fold fuelN x133) (fun y137 => Option.bind (simplify_Thread fuelN y137.1) (fun y139 => Option.bind (simplify_Prune fuelN y139.1) (fun y141 => guardO (orB (!(eqI y141.2 0)) ((r15_SameCode y141.1 x133).isSome)) (guardO (orB (!(!(orB (!(eqI y141.2 0)) (!((r15_SameCode y141.1 x133).getD default))))) (inB ((k104 : Nat) : Int) a0.Funcs.length)) (cond (orB (orB (!(eqI y141.2 0)) (!((r15_SameCode y141.1 x133).getD default))) (ltI ((((gd a0.Funcs k104).Code).length : Nat) : Int) ((x133.Code.length : Nat) : Int))) (some (.inr false)) (law15_SimplifyIdempotent_L1 fuelN a0 q129 (k104 + 1)))))))

def law15_SimplifyIdempotent (fuelN : Nat) (a0 : Program) : Option Bool :=
  Option.bind (law15_small a0) (fun y1 => cond (!y1) (Option.bind (law15_exampleHolds fuelN) (fun y4 => some y4)) (Option.bind (simplify_Program fuelN a0) (fun y6 => cond (!(eqI y6.2 0)) (guardO (orB (!(eqI ((y6.1.Funcs.length : Nat) : Int) 0)) ((law15_exampleHolds fuelN).isSome)) (some (andB (eqI ((y6.1.Funcs.length : Nat) : Int) 0) ((law15_exampleHolds fuelN).getD default)))) (Option.bind (simplify_Program fuelN y6.1) (fun y10 => guardO (orB (!(eqI y10.2 0)) ((r08_Equal y6.1 y10.1).isSome)) (guardO (orB (!(!(orB (!(eqI y10.2 0)) (!((r08_Equal y6.1 y10.1).getD default))))) ((r08_Valid fuelN y6.1).isSome)) (cond (orB (orB (orB (!(eqI y10.2 0)) (!((r08_Equal y6.1 y10.1).getD default))) (!((r08_Valid fuelN y6.1).getD default))) (!(eqI ((y6.1.Funcs.length : Nat) : Int) ((a0.Funcs.length : Nat) : Int)))) (some false) (Option.bind (α := Unit ⊕ Bool) (guardO (lenB y6.1.Funcs.length) (Option.bind (law15_SimplifyIdempotent_L1 fuelN a0 y6.1.Funcs 0) (fun o => match o with | .inl _ => some (.inl ()) | .inr r150 => some (.inr r150)))) (fun o => match o with | .inl _ => Option.bind (law15_exampleHolds fuelN) (fun y151 => some y151) | .inr r153 => some r153)))))))))

end Go.Dc
end
section
set_option linter.all false
namespace Go.Dc.Pl
open Go Go.Hw Go.Dc
set_option maxRecDepth 100000
theorem first_noneF {α β : Type} : ∀ (l : List α) (k : Nat), first (fun _ _ => (none : Option β)) l k = none
  | [], _ => rfl
  | x :: q, k => by rw [first_cons]; exact first_noneF q _
theorem same_str (l : List ByteArray) : r08_same l l = some true := by
  have h := srch (L := r08_same_L1 l) (fun _ _ => none) (fun _ => rfl) l 0 fun j x hx q => by
    rw [Nat.zero_add, r08_same_L1, hx, Option.bind_some, eqS_refl]; rfl
  rw [r08_same, h, show eqI ((l.length : Nat) : Int) ((l.length : Nat) : Int) = true by simp [eqI], first_noneF]; rfl
theorem same_fun (f : Func) : r08_function f f = some true := by
  have h := srch (L := r08_function_L1 f) (fun _ _ => none) (fun _ => rfl) f.Code 0 fun j x hx q => by
    rw [Nat.zero_add, r08_function_L1, hx, Option.bind_some]; simp [eqI, andB]
  rw [r08_function, h, show eqI ((f.Code.length : Nat) : Int) ((f.Code.length : Nat) : Int) = true by simp [eqI], eqS_refl, first_noneF]; rfl
theorem equal_refl (p : Program) : r08_Equal p p = some true := by
  have h1 := srch (L := r08_Equal_L1 p) (fun _ _ => none) (fun _ => rfl) p.Vars 0 fun j x hx q => by
    rw [Nat.zero_add, r08_Equal_L1, hx, Option.bind_some]; simp [eqI, andB, eqS]
  have h2 := srch (L := r08_Equal_L2 p) (fun _ _ => none) (fun _ => rfl) p.Funcs 0 fun j x hx q => by
    rw [Nat.zero_add, r08_Equal_L2, hx, Option.bind_some, same_fun]; rfl
  have h3 := srch (L := r08_Equal_L3 p) (fun _ _ => none) (fun _ => rfl) p.Threads 0 fun j x hx q => by
    rw [Nat.zero_add, r08_Equal_L3, hx, Option.bind_some]; simp [eqI, andB]
  have he : ∀ n : Nat, eqI (n : Int) (n : Int) = true := fun n => by simp [eqI]
  rw [r08_Equal, h1, h2, h3, same_str, same_str, he, he, he, first_noneF, first_noneF, first_noneF]; rfl
theorem refclone {p : Program} (hp : small p = true) : r08_Clone p = some p := by
  obtain ⟨s1, s2, s3, s4, s5, s6⟩ := small_t hp
  have hL : ∀ (l : List Func) (k : Nat) (a : List Func), (∀ f ∈ l, f.Code.length ≤ 100) → a.length + l.length ≤ 20 → r08_Clone_L1 l k a = some (a ++ l) := fun l => by
    induction l with
    | nil => intro k a _ _; rw [r08_Clone_L1]; simp
    | cons x q ih =>
      intro k a hc ha
      rw [r08_Clone_L1, Option.bind_some, show limB 64 ([].length + x.Code.length) = true from limB_of (m := 100) (by have := hc x (by simp); simpa using this) (by decide), guardO_t, Option.bind_some, Option.bind_some,
        show limB 40 (a.length + [({ x with Code := [] ++ x.Code } : Func)].length) = true from limB_of (m := 20) (by simp at ha ⊢; omega) (by decide), guardO_t, Option.bind_some, ih _ _ (fun f hf => hc f (by simp [hf])) (by simp at ha ⊢; omega)]
      simp
  simp only [r08_Clone, Option.bind_some, List.nil_append, List.length_nil, Nat.zero_add]
  rw [show limB 24 p.Vars.length = true from limB_of (m := 20) s1 (by decide), show limB 16 p.Mutexes.length = true from limB_of (m := 20) s2 (by decide), show limB 16 p.Conds.length = true from limB_of (m := 20) s3 (by decide), show limB 16 p.Threads.length = true from limB_of (m := 20) s5 (by decide), hL p.Funcs 0 [] s6 (by simpa using s4)]
  rfl
theorem ownclone {p : Program} (hp : small p = true) : program_Clone p = some p := by
  obtain ⟨s1, s2, s3, s4, s5, s6⟩ := small_t hp
  have hL : ∀ (q k : Nat), k + q = p.Funcs.length → program_Clone_L1 p q k p.Funcs = some p.Funcs := fun q => by
    induction q with
    | zero => intro k h; rw [program_Clone_L1]
    | succ q ih =>
      intro k h
      have hf : p.Funcs[k]? = some p.Funcs[k] := List.getElem?_eq_getElem (by omega)
      generalize hx : p.Funcs[k] = x at hf
      have hc := s6 x (List.mem_of_getElem? hf)
      have hs : p.Funcs.set k { x with Code := x.Code } = p.Funcs := by
        apply List.ext_getElem?
        intro i
        rw [List.getElem?_set]
        split
        · rename_i e; subst e
          rw [hf]; simp; omega
        · rfl
      rw [program_Clone_L1, hf, Option.bind_some, slices_Clone_api_Inst, limB_small (by decide) (by omega), guardO_t, Option.bind_some, Option.bind_some, Option.bind_some, hs, ih (k + 1) (by omega)]
  simp only [program_Clone, slices_Clone_api_Var, slices_Clone_string, slices_Clone_api_Func, slices_Clone_api_Start]
  rw [limB_small (by decide) (by omega), limB_small (by decide) (by omega), limB_small (by decide) (by omega), limB_small (by decide) (by omega), limB_small (by decide) (by omega)]
  simp only [guardO_t, Option.bind_some]
  rw [lenB_small (by omega), guardO_t, hL p.Funcs.length 0 (by omega)]; rfl

/-- One round. -/
noncomputable def rndF (f : Func) : Func := pruneF (threadF (foldF f))
/-- A property of instructions that the rounds keep. -/
structure Kept (P : Inst → Prop) : Prop where
  j : ∀ x m, icode x = 0 → isJ x = true → P x → P { x with N := m }
  c : ∀ a n, 0 ≤ a ∧ a < 8 → -2147483648 ≤ n ∧ n ≤ 2147483647 → P (cst a n)
  g : ∀ n, P (jmp n)
theorem kept_ic : Kept fun x => icode x = 0 := ⟨fun _ m h j _ => ic_N h j m, fun _ _ => cst_ok, jmp_ok⟩
theorem ksel_kept {P : Inst → Prop} (hP : Kept P) {K : Kn} (hK : KOk K) {x : Inst} (hi : icode x = 0) (hx : P x) (k : Int) : P (ksel K x k) := by
  obtain ⟨hA, hB, hC, hF, _⟩ := ic_regs hi
  unfold ksel
  split
  · cases hb : K x.B with
    | none => exact hx
    | some v => exact hP.c _ _ hA (hK.b _ _ hb)
  · split
    · cases hb : K x.B with
      | none => exact hx
      | some v =>
        cases hc : K x.C with
        | none => exact hx
        | some w => exact hP.c _ _ hA (app_eq (hF ‹_›).1 (hF ‹_›).2 v w).2
    · split
      · cases hb : K x.B with
        | none => exact hx
        | some v => simp only; split <;> exact hP.g _
      · split
        · cases hb : K x.B with
          | none => exact hx
          | some v =>
            simp only; split
            · exact hP.g _
            · exact hx
        · exact hx
theorem foldC_kept {P : Inst → Prop} (hP : Kept P) (f : Func) : ∀ (q : List Inst) (k : Nat) (K : Kn), KOk K → (∀ x ∈ q, icode x = 0 ∧ P x) → ∀ y ∈ foldC f q k K, P y
  | [], _, _, _, _, y, hy => by cases hy
  | x :: q, k, K, hK, hq, y, hy => by
    have hx := hq x List.mem_cons_self
    have hK' : KOk (if lead f k = true then K0 else K) := by split; exact K0_ok; exact hK
    rw [foldC] at hy
    rcases List.mem_cons.1 hy with h | h
    · rw [h]; exact ksel_kept hP hK' hx.1 hx.2 _
    · exact foldC_kept hP f q (k + 1) _ (kaft_ok hK' hx.1) (fun z hz => hq z (List.mem_cons_of_mem _ hz)) y h
theorem ksel_tgt {K : Kn} {x : Inst} {n k : Nat} (hk : k < n) (hx : x.Op = 4 ∨ x.Op = 5 → 0 ≤ x.N ∧ x.N ≤ n) (h : (ksel K x (k : Int)).Op = 4 ∨ (ksel K x (k : Int)).Op = 5) : 0 ≤ (ksel K x (k : Int)).N ∧ (ksel K x (k : Int)).N ≤ n := by
  have hc : ∀ a m, ¬ ((cst a m).Op = 4 ∨ (cst a m).Op = 5) := fun a m h => by
    rcases h with h | h
    · exact absurd (show (1 : Int) = 4 from h) (by decide)
    · exact absurd (show (1 : Int) = 5 from h) (by decide)
  have hj : 0 ≤ (jmp ((k : Int) + 1)).N ∧ (jmp ((k : Int) + 1)).N ≤ n := by
    show 0 ≤ (k : Int) + 1 ∧ (k : Int) + 1 ≤ n
    omega
  revert h
  unfold ksel
  split
  · cases K x.B with
    | none => exact hx
    | some v => exact fun h => absurd h (hc _ _)
  · split
    · cases K x.B with
      | none => exact hx
      | some v =>
        cases K x.C with
        | none => exact hx
        | some w => exact fun h => absurd h (hc _ _)
    · split
      · cases K x.B with
        | none => exact hx
        | some v =>
          simp only; split
          · exact fun _ => hx (.inr ‹_›)
          · exact fun _ => hj
      · split
        · cases K x.B with
          | none => exact hx
          | some v =>
            simp only; split
            · exact fun _ => hj
            · exact hx
        · exact hx
theorem foldC_tgt (f : Func) {n : Nat} : ∀ (q : List Inst) (k : Nat) (K : Kn), k + q.length ≤ n → (∀ x ∈ q, x.Op = 4 ∨ x.Op = 5 → 0 ≤ x.N ∧ x.N ≤ n) → ∀ y ∈ foldC f q k K, y.Op = 4 ∨ y.Op = 5 → 0 ≤ y.N ∧ y.N ≤ n
  | [], _, _, _, _, y, hy => by cases hy
  | x :: q, k, K, hk, hq, y, hy => by
    rw [List.length_cons] at hk
    rw [foldC] at hy
    rcases List.mem_cons.1 hy with h | h
    · rw [h]; exact ksel_tgt (by omega) (hq x List.mem_cons_self)
    · exact foldC_tgt f q (k + 1) _ (by omega) (fun z hz => hq z (List.mem_cons_of_mem _ hz)) y h
theorem fold_len (f : Func) : (foldF f).Code.length = f.Code.length := foldC_len f f.Code 0 K0
theorem fold_ok {f : Func} (hf : Fok f) : Fok (foldF f) :=
  ⟨by rw [fold_len]; exact hf.len, foldC_kept kept_ic f f.Code 0 K0 K0_ok fun x hx => ⟨hf.ic x hx, hf.ic x hx⟩,
   fun y hy => by rw [fold_len]; exact foldC_tgt f f.Code 0 K0 (by omega) hf.tgt y hy⟩
theorem thread_len (f : Func) : (threadF f).Code.length = f.Code.length := by simp [threadF]
theorem rnd_ok {f : Func} (hf : Fok f) : Fok (rndF f) := prune_ok (thread_ok (fold_ok hf))
theorem rnd_len (f : Func) : (rndF f).Code.length ≤ f.Code.length := by
  unfold rndF; rw [prune_len]; have := cntR_le (threadF (foldF f)) (threadF (foldF f)).Code.length
  rw [thread_len, fold_len] at this ⊢; exact this
theorem rnd_kept {P : Inst → Prop} (hP : Kept P) {f : Func} (hf : Fok f) (h : ∀ x ∈ f.Code, P x) : ∀ y ∈ (rndF f).Code, P y := by
  have h1 : ∀ x ∈ (foldF f).Code, P x := foldC_kept hP f f.Code 0 K0 K0_ok fun x hx => ⟨hf.ic x hx, h x hx⟩
  have f1 := fold_ok hf
  have h2 : ∀ x ∈ (threadF (foldF f)).Code, P x := fun y hy => by
    obtain ⟨x, hx, rfl⟩ := List.mem_map.1 (show y ∈ (foldF f).Code.map (thr (foldF f)) from hy)
    unfold thr
    split
    · exact hP.j _ _ (f1.ic x hx) ‹_› (h1 x hx)
    · exact h1 x hx
  intro y hy
  obtain ⟨j, hj⟩ := List.getElem?_of_mem hy
  obtain ⟨i, x, hx, _, rfl, _⟩ := prune_of hj
  have hm := List.mem_of_getElem? hx
  unfold prI
  split
  · exact hP.j _ _ ((thread_ok f1).ic x hm) ‹_› (h2 x hm)
  · exact h2 x hm
/-- What can still be folded. -/
def isF (x : Inst) : Bool := decide (x.Op = 2 ∨ x.Op = 3 ∨ x.Op = 5 ∨ x.Op = 6)
def cF' (l : List Inst) : Nat := l.countP isF
theorem ksel_F (K : Kn) (x : Inst) (k : Int) : ksel K x k = x ∨ (isF x = true ∧ isF (ksel K x k) = false) := by
  have h1 : ∀ a n, isF (cst a n) = false := fun a n => by show decide ((1 : Int) = 2 ∨ (1 : Int) = 3 ∨ (1 : Int) = 5 ∨ (1 : Int) = 6) = false; decide
  have h4 : ∀ n, isF (jmp n) = false := fun n => by show decide ((4 : Int) = 2 ∨ (4 : Int) = 3 ∨ (4 : Int) = 5 ∨ (4 : Int) = 6) = false; decide
  unfold ksel
  split
  · rename_i h
    have hx : isF x = true := by simp [isF, h]
    cases K x.B with
    | none => exact .inl rfl
    | some v => exact .inr ⟨hx, h1 _ _⟩
  · split
    · rename_i h
      have hx : isF x = true := by simp [isF, h]
      cases K x.B with
      | none => exact .inl rfl
      | some v =>
        cases K x.C with
        | none => exact .inl rfl
        | some w => exact .inr ⟨hx, h1 _ _⟩
    · split
      · rename_i h
        have hx : isF x = true := by simp [isF, h]
        cases K x.B with
        | none => exact .inl rfl
        | some v => simp only; split <;> exact .inr ⟨hx, h4 _⟩
      · split
        · rename_i h
          have hx : isF x = true := by simp [isF, h]
          cases K x.B with
          | none => exact .inl rfl
          | some v =>
            simp only; split
            · exact .inr ⟨hx, h4 _⟩
            · exact .inl rfl
        · exact .inl rfl
theorem foldC_F (f : Func) : ∀ (q : List Inst) (k : Nat) (K : Kn), foldC f q k K = q ∨ cF' (foldC f q k K) < cF' q
  | [], _, _ => .inl rfl
  | x :: q, k, K => by
    rw [foldC]
    generalize (if lead f k = true then K0 else K) = K1
    unfold cF'
    rw [List.countP_cons, List.countP_cons]
    rcases foldC_F f q (k + 1) (kaft K1 x) with h | h <;> rcases ksel_F K1 x (k : Int) with h2 | ⟨h2, h3⟩
    · rw [h, h2]; exact .inl rfl
    · rw [h, h2, h3]; exact .inr (by simp)
    · rw [h2]; unfold cF' at h; exact .inr (by omega)
    · rw [h2, h3]; unfold cF' at h; exact .inr (by simp; omega)
theorem fold_F (f : Func) : foldF f = f ∨ cF' (foldF f).Code < cF' f.Code := by
  rcases foldC_F f f.Code 0 K0 with h | h
  · left; unfold foldF; rw [h]
  · exact .inr h
theorem thread_F (f : Func) : cF' (threadF f).Code = cF' f.Code := by
  unfold cF' threadF
  rw [List.countP_map]
  congr 1
  funext x
  simp only [Function.comp, isF, thr_op]
theorem prC_F (f : Func) : ∀ (q : List Inst) (k : Nat), cF' (prC f q k) ≤ cF' q
  | [], _ => Nat.le_refl _
  | x :: q, k => by
    have := prC_F f q (k + 1)
    have hx : isF (prI f x) = isF x := by simp only [isF, prI_op]
    unfold cF' at this ⊢
    rw [prC, List.countP_cons]
    split
    · rw [List.countP_cons, hx]; omega
    · omega
theorem prune_F (f : Func) : cF' (pruneF f).Code ≤ cF' f.Code := prC_F f f.Code 0
theorem prune_same {f : Func} (hf : Fok f) (h : (pruneF f).Code.length = f.Code.length) : pruneF f = f := by
  refine prune_id hf fun i hi => ?_
  rw [prune_len] at h
  cases hr : rc f i
  · exfalso
    have hs := cntR_succ f i
    rw [hr] at hs
    have h1 := cntR_le f i
    have h2 : ∀ m, i + 1 ≤ m → cntR f m < m := by
      intro m hm
      induction m with
      | zero => omega
      | succ m ih =>
        have := cntR_succ f m
        by_cases e : m = i
        · subst e; simp at hs; omega
        · have := ih (by omega)
          have : (if rc f m = true then 1 else 0) ≤ 1 := by split <;> omega
          omega
    have := h2 f.Code.length (by omega)
    omega
  · rfl
open Classical in
noncomputable def msr (f : Func) : Nat := 2 * (f.Code.length + cF' f.Code) + if threadF f = f then 0 else 1
theorem msr_le {f : Func} (hf : Fok f) : msr f ≤ 300 := by
  have h1 := hf.len
  have h2 : cF' f.Code ≤ f.Code.length := List.countP_le_length
  unfold msr; split <;> omega
theorem msr_lt {f : Func} (hf : Fok f) (h : rndF f ≠ f) : msr (rndF f) < msr f := by
  have f1 := fold_ok hf
  have f2 := thread_ok f1
  have hl := rnd_len f
  have c1 : cF' (rndF f).Code ≤ cF' (foldF f).Code := Nat.le_trans (prune_F _) (Nat.le_of_eq (thread_F _))
  have c2 : cF' (foldF f).Code ≤ cF' f.Code := by
    rcases fold_F f with e | e
    · rw [e]; exact Nat.le_refl _
    · omega
  by_cases e : (rndF f).Code.length = f.Code.length
  · have hp : rndF f = threadF (foldF f) := prune_same f2 (by rw [thread_len, fold_len]; exact e)
    rcases fold_F f with e2 | e2
    · rw [e2] at hp
      have ht : threadF (rndF f) = rndF f := by rw [hp]; exact thread_twice hf
      have hn : ¬ threadF f = f := fun e3 => h (hp.trans e3)
      unfold msr
      rw [if_pos ht, if_neg hn, e]
      omega
    · unfold msr; split <;> split <;> omega
  · unfold msr; split <;> split <;> omega
theorem rnd_name (f : Func) : (rndF f).Name = f.Name := rfl
def instB (x y : Inst) : Bool := andB (eqI x.Op y.Op) (andB (eqI x.A y.A) (andB (eqI x.B y.B) (andB (eqI x.C y.C) (andB (eqI x.Obj y.Obj) (andB (eqI x.N y.N) (andB (eqI x.Fn y.Fn) (andB (eqI x.Order y.Order) true)))))))
theorem instB_iff {x y : Inst} : instB x y = true ↔ x = y := by
  cases x; cases y
  simp [instB, andB_d, eqI_d]
theorem instB_fst {l l' : List Inst} (hl : l.length = l'.length) : first (fun k x => onlyIf (!(instB x (gd l' k))) false) l 0 = (none : Option Bool) ↔ l = l' := by
  rw [first_none_iff]
  constructor
  · intro h
    apply List.ext_getElem hl
    intro i h1 h2
    have := h i l[i] (List.getElem?_eq_getElem h1)
    rw [Nat.zero_add, gd_eq (List.getElem?_eq_getElem h2)] at this
    cases hb : instB l[i] l'[i]
    · rw [hb] at this; cases this
    · exact instB_iff.1 hb
  · intro h j x hx
    subst h
    rw [Nat.zero_add, gd_eq hx, instB_iff.2 rfl]; rfl
theorem eq_insts (l l' : List Inst) : (l = l' → slices_Equal_api_Inst l l' = some true) ∧ (l ≠ l' → slices_Equal_api_Inst l l' = some false) := by
  by_cases hl : l.length = l'.length
  · have h := srch (L := slices_Equal_api_Inst_L1 l') (fun k x => onlyIf (!(instB x (gd l' k))) false) (fun _ => rfl) l 0 fun j x hx q => by
      have hj := getN_some hx
      rw [Nat.zero_add, slices_Equal_api_Inst_L1, List.getElem?_eq_getElem (by omega), Option.bind_some, gd_eq (List.getElem?_eq_getElem (by omega))]
      exact step_only _ _ _
    rw [slices_Equal_api_Inst, h, hl, eqI_r]
    constructor
    · intro e; rw [(instB_fst hl).2 e]; rfl
    · intro e
      cases hh : first (fun k x => onlyIf (!(instB x (gd l' k))) false) l 0 with
      | none => exact absurd ((instB_fst hl).1 hh) e
      | some b =>
        obtain ⟨j, x, _, hb⟩ := first_some hh
        revert hb; cases (!(instB x (gd l' (0 + j))))
        · intro hb; cases hb
        · intro hb; cases hb; rfl
  · have : eqI ((l.length : Nat) : Int) ((l'.length : Nat) : Int) = false := by rw [eqI_d]; exact decide_eq_false (by omega)
    rw [slices_Equal_api_Inst, this]
    exact ⟨fun e => absurd (by rw [e]) hl, fun _ => rfl⟩
theorem same_code {a b : Func} (hn : a.Name = b.Name) : (a.Code = b.Code → r15_SameCode a b = some true) ∧ (a.Code ≠ b.Code → r15_SameCode a b = some false) := by
  by_cases hl : a.Code.length = b.Code.length
  · have h := srch (L := r15_SameCode_L1 b) (fun k x => onlyIf (!(instB x (gd b.Code k))) false) (fun _ => rfl) a.Code 0 fun j x hx q => by
      have hj := getN_some hx
      rw [Nat.zero_add, r15_SameCode_L1, List.getElem?_eq_getElem (by omega), Option.bind_some, gd_eq (List.getElem?_eq_getElem (by omega))]
      exact step_only _ _ _
    rw [r15_SameCode, h, hl, eqI_r, hn, eqS_refl]
    constructor
    · intro e; rw [(instB_fst hl).2 e]; rfl
    · intro e
      cases hh : first (fun k x => onlyIf (!(instB x (gd b.Code k))) false) a.Code 0 with
      | none => exact absurd ((instB_fst hl).1 hh) e
      | some bb =>
        obtain ⟨j, x, _, hb⟩ := first_some hh
        revert hb; cases (!(instB x (gd b.Code (0 + j))))
        · intro hb; cases hb
        · intro hb; cases hb; rfl
  · have : eqI ((a.Code.length : Nat) : Int) ((b.Code.length : Nat) : Int) = false := by rw [eqI_d]; exact decide_eq_false (by omega)
    rw [r15_SameCode, this, hn, eqS_refl]
    exact ⟨fun e => absurd (by rw [e]) hl, fun _ => rfl⟩
theorem rnd_own (fuel : Nat) {f : Func} (hf : Fok f) : simplify_Fold (fuel + 100) f = some (foldF f, 0) ∧ simplify_Thread (fuel + 100) (foldF f) = some (threadF (foldF f), 0) ∧ simplify_Prune (fuel + 100) (threadF (foldF f)) = some (rndF f, 0) := by
  have h0 := fck_iff.2 hf
  have h1 := fck_iff.2 (fold_ok hf)
  have h2 := fck_iff.2 (thread_ok (fold_ok hf))
  have a := own_Fold (fuel + 92) f
  have b := own_Thread fuel (foldF f)
  have c := own_Prune fuel (threadF (foldF f))
  rw [if_pos h0] at a
  rw [if_pos h1] at b
  rw [if_pos h2] at c
  exact ⟨a, b, c⟩
theorem rnd_ref (fuel : Nat) {f : Func} (hf : Fok f) : r15_Fold (fuel + 100) f = some (foldF f, 0) ∧ r15_Thread (fuel + 100) (foldF f) = some (threadF (foldF f), 0) ∧ r15_Prune (fuel + 100) (threadF (foldF f)) = some (rndF f, 0) := by
  have h0 := fck_iff.2 hf
  have h1 := fck_iff.2 (fold_ok hf)
  have h2 := fck_iff.2 (thread_ok (fold_ok hf))
  have a := ref_Fold fuel f hf.len
  have b := ref_Thread fuel (foldF f)
  have c := ref_Prune fuel (threadF (foldF f))
  rw [if_pos h0] at a
  rw [if_pos h1] at b
  rw [if_pos h2] at c
  exact ⟨a, b, c⟩
theorem fun_eq {f g : Func} (hn : f.Name = g.Name) (hc : f.Code = g.Code) : f = g := by cases f; cases g; simp_all
/-- What the rounds end in. -/
structure End (P : Inst → Prop) (f g : Func) : Prop where
  ok : Fok g
  fix : rndF g = g
  name : g.Name = f.Name
  len : g.Code.length ≤ f.Code.length
  kept : ∀ x ∈ g.Code, P x
theorem ends {P : Inst → Prop} (hP : Kept P) (fuel : Nat) : ∀ (m : Nat) (f : Func), msr f ≤ m → Fok f → (∀ x ∈ f.Code, P x) → ∃ g, (∀ q, m < q → simplify_function_L1 (fuel + 100) q f.Name f.Code = some (g, 0) ∧ r15_Function_L1 (fuel + 100) q f.Name f.Code = some g) ∧ End P f g
  | m, f, hm, hf, hp => by
    obtain ⟨o1, o2, o3⟩ := rnd_own fuel hf
    obtain ⟨r1, r2, r3⟩ := rnd_ref fuel hf
    have e0 : (!(eqI 0 0)) = false := rfl
    by_cases e : rndF f = f
    · refine ⟨f, fun q hq => ?_, hf, e, rfl, Nat.le_refl _, hp⟩
      obtain ⟨q, rfl⟩ : ∃ q', q = q' + 1 := ⟨q - 1, by omega⟩
      rw [simplify_function_L1, r15_Function_L1, show ({ Name := f.Name, Code := f.Code } : Func) = f from rfl, o1, r1]
      simp only [Option.bind_some, e0, cond_false, o2, o3, r2, r3, e]
      rw [(eq_insts f.Code f.Code).1 rfl, (same_code (a := f) (b := f) rfl).1 rfl]
      exact ⟨rfl, rfl⟩
    · have hlt := msr_lt hf e
      have hne : f.Code ≠ (rndF f).Code := fun h => e (fun_eq (rnd_name f) h.symm)
      obtain ⟨g, hg, en⟩ := ends hP fuel (m - 1) (rndF f) (by omega) (rnd_ok hf) (rnd_kept hP hf hp)
      refine ⟨g, fun q hq => ?_, en.ok, en.fix, en.name.trans (rnd_name f), Nat.le_trans en.len (rnd_len f), en.kept⟩
      obtain ⟨q, rfl⟩ : ∃ q', q = q' + 1 := ⟨q - 1, by omega⟩
      obtain ⟨g1, g2⟩ := hg q (by omega)
      rw [simplify_function_L1, r15_Function_L1, show ({ Name := f.Name, Code := f.Code } : Func) = f from rfl, o1, r1]
      simp only [Option.bind_some, e0, cond_false, o2, o3, r2, r3]
      rw [(eq_insts f.Code (rndF f).Code).2 hne, (same_code (a := rndF f) (b := f) (rnd_name f)).2 (Ne.symm hne)]
      exact ⟨g1, g2⟩
termination_by m => m
decreasing_by
  have := msr_lt ‹Fok f› ‹_›
  omega
theorem function_ex {P : Inst → Prop} (hP : Kept P) {f : Func} (hf : Fok f) (hp : ∀ x ∈ f.Code, P x) : ∃ g, simplify_function 1000 f = some (g, 0) ∧ r15_Function 1000 f = some g ∧ End P f g := by
  obtain ⟨g, h, e⟩ := ends hP 900 300 f (msr_le hf) hf hp
  obtain ⟨a, b⟩ := h 1000 (by omega)
  refine ⟨g, ?_, ?_, e⟩
  · rw [simplify_function, a]; rfl
  · rw [r15_Function, b]; rfl
end Go.Dc.Pl
end
section
set_option linter.all false
namespace Go.Dc.Pl
open Go Go.Hw Go.Dc
set_option maxRecDepth 100000
def sm15 (p : Program) : Bool := decide (p.Funcs.length ≤ 4 ∧ p.Vars.length ≤ 20 ∧ p.Mutexes.length ≤ 20 ∧ p.Conds.length ≤ 20 ∧ p.Threads.length ≤ 20) && !p.Funcs.any fun f => ltI 30 ((f.Code.length : Nat) : Int)
theorem small15 (p : Program) : law15_small p = some (sm15 p) := by
  have h := srch (L := law15_small_L1) (fun _ (x : Func) => onlyIf (ltI 30 ((x.Code.length : Nat) : Int)) false) (fun _ => rfl) p.Funcs 0 fun j x hx q => by
    rw [law15_small_L1, step_only]
  rw [first_onlyC] at h
  simp only [law15_small, sm15, h, orB_d, ltI_d, cond_eq_ite]
  by_cases e : p.Funcs.length ≤ 4 ∧ p.Vars.length ≤ 20 ∧ p.Mutexes.length ≤ 20 ∧ p.Conds.length ≤ 20 ∧ p.Threads.length ≤ 20
  · rw [if_neg (by simp; omega)]; simp only [e]; cases p.Funcs.any fun f => decide (30 < ((f.Code.length : Nat) : Int)) <;> simp
  · rw [if_pos (by simp; omega)]; simp only [e]; simp
theorem sm15_t {p : Program} (h : sm15 p = true) : p.Funcs.length ≤ 4 ∧ p.Vars.length ≤ 20 ∧ p.Mutexes.length ≤ 20 ∧ p.Conds.length ≤ 20 ∧ p.Threads.length ≤ 20 ∧ ∀ f ∈ p.Funcs, f.Code.length ≤ 30 := by
  simp only [sm15, Bool.and_eq_true, decide_eq_true_eq, Bool.not_eq_true', List.any_eq_false, ltI_d] at h
  obtain ⟨⟨a, b, c, d, e⟩, h⟩ := h
  exact ⟨a, b, c, d, e, fun f hf => by have := h f hf; omega⟩
theorem small_of {p : Program} (h1 : p.Funcs.length ≤ 4 ∧ p.Vars.length ≤ 20 ∧ p.Mutexes.length ≤ 20 ∧ p.Conds.length ≤ 20 ∧ p.Threads.length ≤ 20 ∧ ∀ f ∈ p.Funcs, f.Code.length ≤ 30) : small p = true := by
  obtain ⟨a, b, c, d, e, h⟩ := h1
  simp only [small, Bool.and_eq_true, decide_eq_true_eq, Bool.not_eq_true', List.any_eq_false]
  exact ⟨by omega, fun f hf => by have := h f hf; omega⟩
theorem exs_of {p : Program} {x : Inst} (h : x.Op = 1 ∨ x.Op = 4 ∨ x.Op = 5) : exs p x = true := by
  rw [exs, r08_exists]
  rcases h with h | h | h <;> simp [eqI_d, h]
theorem kept_exs (p : Program) : Kept fun x => exs p x = true :=
  ⟨fun x m _ hj _ => exs_of (x := { x with N := m }) (by rcases isJ_iff.1 hj with h | h; exact .inr (.inl h); exact .inr (.inr h)), fun _ _ _ _ => exs_of (.inl rfl), fun _ => exs_of (.inr (.inl rfl))⟩
theorem ok_of {p : Program} (hc : eqI (chk p).1 0 = true) {f : Func} (hf : f ∈ p.Funcs) : Fok f ∧ ∀ x ∈ f.Code, exs p x = true := by
  obtain ⟨k, hk⟩ := List.getElem?_of_mem hf
  have h := cF_iff.1 ((chk_iff.1 hc).2.2.1 k f hk)
  have hx : ∀ x ∈ f.Code, eqI (icode x) 0 = true ∧ exs p x = true ∧ (x.Op = 4 ∨ x.Op = 5 → 0 ≤ x.N ∧ x.N ≤ f.Code.length) := fun x hx => by
    obtain ⟨j, hj⟩ := List.getElem?_of_mem hx
    exact ci_iff.1 (h.2 j x hj)
  exact ⟨⟨h.1, fun x hm => by have := (hx x hm).1; simpa [eqI] using this, fun x hm => (hx x hm).2.2⟩, fun x hm => (hx x hm).2.1⟩
def noP : Program := { Vars := [], Mutexes := [], Conds := [], Funcs := [], Threads := [] }
theorem loops {P : Inst → Prop} (hP : Kept P) : ∀ (q : List Func) (k : Nat) (gs : List Func), gs.length = k → (∀ f ∈ q, Fok f ∧ ∀ x ∈ f.Code, P x) →
    ∃ l', simplify_Program_L1 1000 q k (gs ++ q) = some (.inl (gs ++ l')) ∧ r15_Program_L1 1000 q.length k (gs ++ q) = some (gs ++ l') ∧ l'.length = q.length ∧ (∀ (i : Nat) (f g : Func), q[i]? = some f → l'[i]? = some g → End P f g) ∧ l'.map Func.Name = q.map Func.Name
  | [], k, gs, hk, _ => ⟨[], by rw [simplify_Program_L1], by rw [List.length_nil, r15_Program_L1], rfl, fun i f g h => by simp at h, rfl⟩
  | f :: q, k, gs, hk, hq => by
    obtain ⟨h1, h2⟩ := hq f List.mem_cons_self
    obtain ⟨g, e1, e2, en⟩ := function_ex hP h1 h2
    obtain ⟨l', i1, i2, i3, i4, i5⟩ := loops hP q (k + 1) (gs ++ [g]) (by simp; omega) fun z hz => hq z (List.mem_cons_of_mem _ hz)
    rw [List.append_assoc, List.append_assoc] at i1 i2
    have hg : (gs ++ f :: q)[k]? = some f := by rw [List.getElem?_append_right (by omega), hk, Nat.sub_self]; rfl
    have hs : (gs ++ f :: q).set k g = gs ++ ([g] ++ q) := by rw [← hk, set_at]; rfl
    refine ⟨g :: l', ?_, ?_, by simp [i3], ?_, by rw [List.map_cons, List.map_cons, i5, en.name]⟩
    · rw [simplify_Program_L1, e1, Option.bind_some]
      show cond (!(eqI 0 0)) _ _ = _
      rw [show (!(eqI 0 0)) = false from rfl, cond_false, hg, Option.bind_some, Option.bind_some, hs]; exact i1
    · rw [List.length_cons, r15_Program_L1, hg, Option.bind_some, e2, Option.bind_some, Option.bind_some, hs]; exact i2
    · intro i a b ha hb
      cases i with
      | zero => simp at ha hb; subst ha hb; exact en
      | succ i => simp at ha hb; exact i4 i a b ha hb
theorem programs {p : Program} (hs : small p = true) (hc : eqI (chk p).1 0 = true) : ∃ l', simplify_Program 1000 p = some ({ p with Funcs := l' }, 0) ∧ r15_Program 1000 p = some ({ p with Funcs := l' }, 0) ∧ l'.length = p.Funcs.length ∧
    (∀ (i : Nat) (f g : Func), p.Funcs[i]? = some f → l'[i]? = some g → End (fun x => exs p x = true) f g) ∧ l'.map Func.Name = p.Funcs.map Func.Name := by
  obtain ⟨l', a, b, c, d, e⟩ := loops (kept_exs p) p.Funcs 0 [] rfl fun f hf => ok_of hc hf
  rw [List.nil_append, List.nil_append] at a b
  have hv := chk_val hc
  refine ⟨l', ?_, ?_, c, d, e⟩
  · rw [simplify_Program, show (1000 : Nat) = 992 + 8 from rfl, own_check hs, hv, Option.bind_some]
    show cond (!(eqI 0 0)) _ _ = _
    rw [show (!(eqI 0 0)) = false from rfl, cond_false, ownclone hs, Option.bind_some, show (992 + 8 : Nat) = 1000 from rfl, a]; rfl
  · rw [r15_Program, ref_check hs (by decide), hv, Option.bind_some]
    show cond (!(eqI 0 0)) _ _ = _
    rw [show (!(eqI 0 0)) = false from rfl, cond_false, refclone hs, Option.bind_some, b]; rfl
theorem programs_bad {p : Program} (hs : small p = true) (hc : eqI (chk p).1 0 = false) : simplify_Program 1000 p = some (noP, (chk p).1) ∧ r15_Program 1000 p = some (noP, (chk p).1) := by
  constructor
  · rw [simplify_Program, show (1000 : Nat) = 992 + 8 from rfl, own_check hs, Option.bind_some, hc]; rfl
  · rw [r15_Program, ref_check hs (by decide), Option.bind_some, hc]; rfl
theorem fin3 (e : Int) (p : Program) : guardO (orB (!(eqI e e)) ((r08_Equal p p).isSome)) (guardO (orB (!(andB (eqI e e) ((r08_Equal p p).getD default))) ((some true).isSome)) (some (andB (andB (eqI e e) ((r08_Equal p p).getD default)) ((some true).getD default)))) = some true := by
  rw [equal_refl, eqI_r]; rfl
theorem law_programs (p : Program) : law15_SimplifyPrograms 1000 p = some true := by
  rw [law15_SimplifyPrograms, holds, small15, Option.bind_some]
  cases h : sm15 p
  · rfl
  · have hs := small_of (sm15_t h)
    rw [Bool.not_true, cond_false]
    cases hc : eqI (chk p).1 0
    · obtain ⟨a, b⟩ := programs_bad hs hc
      rw [a, b, Option.bind_some, Option.bind_some]; exact fin3 _ _
    · obtain ⟨l', a, b, _⟩ := programs hs hc
      rw [a, b, Option.bind_some, Option.bind_some]; exact fin3 _ _
end Go.Dc.Pl
end
section
set_option linter.all false
namespace Go.Hw
variable [Globals]
section
variable {H : Type} {enc : TypeId × Value → H} {P : Program} {w : World} {sp : Nat → Bool} {held : Bool}
end
end Go.Hw
end
section
set_option linter.all false
namespace Go.Dc
open Go Go.Hw Go.Proofs
set_option maxRecDepth 100000
theorem dec9 {H : Type} {n : Nat} {d : DataW H} {c : List CV} (h : cvD Tryd.prog n 9 d = some c) : ∃ x : ByteArray, True ∧ c = Enc.enc x := by
  obtain ⟨m, rfl⟩ := cvD_string Tryd.underlying9 h
  exact ⟨m, trivial, rfl⟩
theorem dec81 {H : Type} {n : Nat} {d : DataW H} {c : List CV} (h : cvD Tryd.prog n 81 d = some c) : ∃ x : Int, (-9223372036854775808 ≤ x ∧ x ≤ 9223372036854775807) ∧ c = Enc.enc x := by
  obtain ⟨m, hm, rfl⟩ := cvD_int Tryd.underlying81 h
  exact ⟨m, by simpa [IntKind.min, IntKind.max, IntKind.signed, IntKind.bits] using hm, rfl⟩
theorem dec3 {H : Type} {n : Nat} {d : DataW H} {c : List CV} (h : cvD Tryd.prog n 3 d = some c) : ∃ x : Int, (-9223372036854775808 ≤ x ∧ x ≤ 9223372036854775807) ∧ c = Enc.enc x := by
  obtain ⟨m, hm, rfl⟩ := cvD_int Tryd.underlying3 h
  exact ⟨m, by simpa [IntKind.min, IntKind.max, IntKind.signed, IntKind.bits] using hm, rfl⟩
theorem dec47 {H : Type} {n : Nat} {d : DataW H} {c : List CV} (h : cvD Tryd.prog n 47 d = some c) : ∃ x : Int, (-9223372036854775808 ≤ x ∧ x ≤ 9223372036854775807) ∧ c = Enc.enc x := by
  obtain ⟨m, hm, rfl⟩ := cvD_int Tryd.underlying47 h
  exact ⟨m, by simpa [IntKind.min, IntKind.max, IntKind.signed, IntKind.bits] using hm, rfl⟩
theorem dec65 {H : Type} {n : Nat} {d : DataW H} {c : List CV} (h : cvD Tryd.prog n 65 d = some c) : ∃ x : Int, (-9223372036854775808 ≤ x ∧ x ≤ 9223372036854775807) ∧ c = Enc.enc x := by
  obtain ⟨m, hm, rfl⟩ := cvD_int Tryd.underlying65 h
  exact ⟨m, by simpa [IntKind.min, IntKind.max, IntKind.signed, IntKind.bits] using hm, rfl⟩
def OkInst (x : Inst) : Prop := (fun x : Int => -9223372036854775808 ≤ x ∧ x ≤ 9223372036854775807) x.Op ∧ (fun x : Int => -9223372036854775808 ≤ x ∧ x ≤ 9223372036854775807) x.A ∧ (fun x : Int => -9223372036854775808 ≤ x ∧ x ≤ 9223372036854775807) x.B ∧ (fun x : Int => -9223372036854775808 ≤ x ∧ x ≤ 9223372036854775807) x.C ∧ (fun x : Int => -9223372036854775808 ≤ x ∧ x ≤ 9223372036854775807) x.Obj ∧ (fun x : Int => -9223372036854775808 ≤ x ∧ x ≤ 9223372036854775807) x.N ∧ (fun x : Int => -9223372036854775808 ≤ x ∧ x ≤ 9223372036854775807) x.Fn ∧ (fun x : Int => -9223372036854775808 ≤ x ∧ x ≤ 9223372036854775807) x.Order
theorem dec83 {H : Type} {n : Nat} {d : DataW H} {c : List CV} (h : cvD Tryd.prog n 83 d = some c) : ∃ x : Inst, OkInst x ∧ c = Enc.enc x := by
  obtain ⟨m, l, rfl, rfl, hl, h⟩ := cvD_struct Tryd.underlying83 h
  have hl : l.length = 8 := hl
  match l, hl with
  | [d0, d1, d2, d3, d4, d5, d6, d7], _ =>
    simp only [List.zipWith] at h
    obtain ⟨a0, b0, h0, k1, rfl⟩ := concatM_cons h
    obtain ⟨a1, b1, h1, k2, rfl⟩ := concatM_cons k1
    obtain ⟨a2, b2, h2, k3, rfl⟩ := concatM_cons k2
    obtain ⟨a3, b3, h3, k4, rfl⟩ := concatM_cons k3
    obtain ⟨a4, b4, h4, k5, rfl⟩ := concatM_cons k4
    obtain ⟨a5, b5, h5, k6, rfl⟩ := concatM_cons k5
    obtain ⟨a6, b6, h6, k7, rfl⟩ := concatM_cons k6
    obtain ⟨a7, b7, h7, k8, rfl⟩ := concatM_cons k7
    obtain rfl := concatM_nil k8
    obtain ⟨x0, q0, rfl⟩ := dec81 h0
    obtain ⟨x1, q1, rfl⟩ := dec3 h1
    obtain ⟨x2, q2, rfl⟩ := dec3 h2
    obtain ⟨x3, q3, rfl⟩ := dec3 h3
    obtain ⟨x4, q4, rfl⟩ := dec3 h4
    obtain ⟨x5, q5, rfl⟩ := dec3 h5
    obtain ⟨x6, q6, rfl⟩ := dec47 h6
    obtain ⟨x7, q7, rfl⟩ := dec65 h7
    exact ⟨⟨x0, x1, x2, x3, x4, x5, x6, x7⟩, ⟨q0, q1, q2, q3, q4, q5, q6, q7⟩, rfl⟩
theorem dec22 {H : Type} {n : Nat} {d : DataW H} {c : List CV} (h : cvD Tryd.prog n 22 d = some c) : ∃ x : List Inst, (∀ y ∈ x, (OkInst) y) ∧ c = Enc.enc x := by
  obtain ⟨L, hQ, rfl⟩ := cvD_sliceQ (g := Enc.enc) (Q := OkInst) Tryd.underlying22 (fun n d c h => dec83 h) h
  exact ⟨L, hQ, rfl⟩
def OkFunc (x : Func) : Prop := (fun _ : ByteArray => True) x.Name ∧ (fun l : List Inst => ∀ x ∈ l, (OkInst) x) x.Code
theorem dec24 {H : Type} {n : Nat} {d : DataW H} {c : List CV} (h : cvD Tryd.prog n 24 d = some c) : ∃ x : Func, OkFunc x ∧ c = Enc.enc x := by
  obtain ⟨m, l, rfl, rfl, hl, h⟩ := cvD_struct Tryd.underlying24 h
  have hl : l.length = 2 := hl
  match l, hl with
  | [d0, d1], _ =>
    simp only [List.zipWith] at h
    obtain ⟨a0, b0, h0, k1, rfl⟩ := concatM_cons h
    obtain ⟨a1, b1, h1, k2, rfl⟩ := concatM_cons k1
    obtain rfl := concatM_nil k2
    obtain ⟨x0, q0, rfl⟩ := dec9 h0
    obtain ⟨x1, q1, rfl⟩ := dec22 h1
    exact ⟨⟨x0, x1⟩, ⟨q0, q1⟩, rfl⟩
def OkVar (x : Var) : Prop := (fun _ : ByteArray => True) x.Name ∧ (fun x : Int => -9223372036854775808 ≤ x ∧ x ≤ 9223372036854775807) x.Init
theorem dec69 {H : Type} {n : Nat} {d : DataW H} {c : List CV} (h : cvD Tryd.prog n 69 d = some c) : ∃ x : Var, OkVar x ∧ c = Enc.enc x := by
  obtain ⟨m, l, rfl, rfl, hl, h⟩ := cvD_struct Tryd.underlying69 h
  have hl : l.length = 2 := hl
  match l, hl with
  | [d0, d1], _ =>
    simp only [List.zipWith] at h
    obtain ⟨a0, b0, h0, k1, rfl⟩ := concatM_cons h
    obtain ⟨a1, b1, h1, k2, rfl⟩ := concatM_cons k1
    obtain rfl := concatM_nil k2
    obtain ⟨x0, q0, rfl⟩ := dec9 h0
    obtain ⟨x1, q1, rfl⟩ := dec3 h1
    exact ⟨⟨x0, x1⟩, ⟨q0, q1⟩, rfl⟩
theorem dec37 {H : Type} {n : Nat} {d : DataW H} {c : List CV} (h : cvD Tryd.prog n 37 d = some c) : ∃ x : List Var, (∀ y ∈ x, (OkVar) y) ∧ c = Enc.enc x := by
  obtain ⟨L, hQ, rfl⟩ := cvD_sliceQ (g := Enc.enc) (Q := OkVar) Tryd.underlying37 (fun n d c h => dec69 h) h
  exact ⟨L, hQ, rfl⟩
theorem dec38 {H : Type} {n : Nat} {d : DataW H} {c : List CV} (h : cvD Tryd.prog n 38 d = some c) : ∃ x : List ByteArray, (∀ y ∈ x, (fun _ : ByteArray => True) y) ∧ c = Enc.enc x := by
  obtain ⟨L, hQ, rfl⟩ := cvD_sliceQ (g := Enc.enc) (Q := fun _ : ByteArray => True) Tryd.underlying38 (fun n d c h => dec9 h) h
  exact ⟨L, hQ, rfl⟩
theorem dec73 {H : Type} {n : Nat} {d : DataW H} {c : List CV} (h : cvD Tryd.prog n 73 d = some c) : ∃ x : List Func, (∀ y ∈ x, (OkFunc) y) ∧ c = Enc.enc x := by
  obtain ⟨L, hQ, rfl⟩ := cvD_sliceQ (g := Enc.enc) (Q := OkFunc) Tryd.underlying73 (fun n d c h => dec24 h) h
  exact ⟨L, hQ, rfl⟩
def OkStart (x : Start) : Prop := (fun x : Int => -9223372036854775808 ≤ x ∧ x ≤ 9223372036854775807) x.Func ∧ (fun x : Int => -9223372036854775808 ≤ x ∧ x ≤ 9223372036854775807) x.Arg
theorem dec144 {H : Type} {n : Nat} {d : DataW H} {c : List CV} (h : cvD Tryd.prog n 144 d = some c) : ∃ x : Start, OkStart x ∧ c = Enc.enc x := by
  obtain ⟨m, l, rfl, rfl, hl, h⟩ := cvD_struct Tryd.underlying144 h
  have hl : l.length = 2 := hl
  match l, hl with
  | [d0, d1], _ =>
    simp only [List.zipWith] at h
    obtain ⟨a0, b0, h0, k1, rfl⟩ := concatM_cons h
    obtain ⟨a1, b1, h1, k2, rfl⟩ := concatM_cons k1
    obtain rfl := concatM_nil k2
    obtain ⟨x0, q0, rfl⟩ := dec3 h0
    obtain ⟨x1, q1, rfl⟩ := dec3 h1
    exact ⟨⟨x0, x1⟩, ⟨q0, q1⟩, rfl⟩
theorem dec74 {H : Type} {n : Nat} {d : DataW H} {c : List CV} (h : cvD Tryd.prog n 74 d = some c) : ∃ x : List Start, (∀ y ∈ x, (OkStart) y) ∧ c = Enc.enc x := by
  obtain ⟨L, hQ, rfl⟩ := cvD_sliceQ (g := Enc.enc) (Q := OkStart) Tryd.underlying74 (fun n d c h => dec144 h) h
  exact ⟨L, hQ, rfl⟩
def OkProgram (x : Program) : Prop := (fun l : List Var => ∀ x ∈ l, (OkVar) x) x.Vars ∧ (fun l : List ByteArray => ∀ x ∈ l, (fun _ : ByteArray => True) x) x.Mutexes ∧ (fun l : List ByteArray => ∀ x ∈ l, (fun _ : ByteArray => True) x) x.Conds ∧ (fun l : List Func => ∀ x ∈ l, (OkFunc) x) x.Funcs ∧ (fun l : List Start => ∀ x ∈ l, (OkStart) x) x.Threads
theorem dec76 {H : Type} {n : Nat} {d : DataW H} {c : List CV} (h : cvD Tryd.prog n 76 d = some c) : ∃ x : Program, OkProgram x ∧ c = Enc.enc x := by
  obtain ⟨m, l, rfl, rfl, hl, h⟩ := cvD_struct Tryd.underlying76 h
  have hl : l.length = 5 := hl
  match l, hl with
  | [d0, d1, d2, d3, d4], _ =>
    simp only [List.zipWith] at h
    obtain ⟨a0, b0, h0, k1, rfl⟩ := concatM_cons h
    obtain ⟨a1, b1, h1, k2, rfl⟩ := concatM_cons k1
    obtain ⟨a2, b2, h2, k3, rfl⟩ := concatM_cons k2
    obtain ⟨a3, b3, h3, k4, rfl⟩ := concatM_cons k3
    obtain ⟨a4, b4, h4, k5, rfl⟩ := concatM_cons k4
    obtain rfl := concatM_nil k5
    obtain ⟨x0, q0, rfl⟩ := dec37 h0
    obtain ⟨x1, q1, rfl⟩ := dec38 h1
    obtain ⟨x2, q2, rfl⟩ := dec38 h2
    obtain ⟨x3, q3, rfl⟩ := dec73 h3
    obtain ⟨x4, q4, rfl⟩ := dec74 h4
    exact ⟨⟨x0, x1, x2, x3, x4⟩, ⟨q0, q1, q2, q3, q4⟩, rfl⟩
theorem open76 {H : Type} {enc : TypeId × Value → H} {W : World} {sp : Nat → Bool} {held : Bool} {v : Value} {d : DataW H} {p : List MemPlace} {r : Go.Reach} {b0 : Nat} (hv : Value.okWide Tryd.prog W r b0 76 v) (h : DataW.Trod enc Tryd.prog W 0 sp held 76 v d p) :
    ∃ x : Program, OkProgram x ∧ AVRep W m0 (fun _ => False) v (.agg ((Enc.enc x).map .p)) := by
  obtain ⟨cvs, e, hr⟩ := rep_struct (m := 8) Tryd.underlying76 (by kernel_rfl) hv h
  obtain ⟨x, hx, rfl⟩ := dec76 e
  exact ⟨x, hx, hr⟩
theorem gN2 : Tryd.prog.globalNamed "modelcheck/value.names" = some 2 := by kernel_rfl
theorem gN0 : Tryd.prog.globalNamed "modelcheck/inst.rows" = some 0 := by kernel_rfl
/-- The package variables as the rows lay them. -/
theorem gT2 : (Tryd.prog.globals[2]?).map (·.type) = some 217 := by kernel_rfl
set_option maxRecDepth 100000 in
theorem gC2 : cvD Tryd.prog 6 217 (Go.Proofs.YtihjddokgmjafaaDoor.Rows.laid_modelcheck_value_names (H := Unit)) = some (encL namesTab) := by kernel_rfl
theorem gT0 : (Tryd.prog.globals[0]?).map (·.type) = some 184 := by kernel_rfl
set_option maxRecDepth 100000 in
theorem gC0 : cvD Tryd.prog 6 184 (Go.Proofs.YtihjddokgmjafaaDoor.Rows.laid_modelcheck_inst_rows (H := Unit)) = some (encL rowsTab) := by kernel_rfl
set_option maxRecDepth 100000 in
theorem globs {W : World} (laid : List (String × DataW Unit)) (he : laid = [("modelcheck/value.names", Go.Proofs.YtihjddokgmjafaaDoor.Rows.laid_modelcheck_value_names), ("modelcheck/inst.rows", Go.Proofs.YtihjddokgmjafaaDoor.Rows.laid_modelcheck_inst_rows)])
    (h : laidMetH Tryd.prog laid W) : ∀ g cs, Globals.G g = some cs → AVRep W m0 (fun _ => False) (.pointer (some ⟨g, 0, none⟩)) (.cell (.ep cs 0)) := by
  subst he
  rw [MakeChecks.laidMetH_plain _ _ _ (by kernel_rfl)] at h
  obtain ⟨ps, ⟨g0, t0, cs0, f0, p0, q0, hg0, ht0, hv0, hd0, ⟨g1, t1, cs1, f1, p1, q1, hg1, ht1, hv1, hd1, _, _⟩, _⟩, _, _⟩ := h
  obtain rfl := Option.some.inj (gN2.symm.trans hg0)
  obtain rfl := Option.some.inj (gT2.symm.trans ht0)
  obtain rfl := Option.some.inj (gN0.symm.trans hg1)
  obtain rfl := Option.some.inj (gT0.symm.trans ht1)
  intro g cs hgc
  have hgc : (if g = 0 then some (encL rowsTab) else if g = 2 then some (encL namesTab) else none) = some cs := hgc
  split at hgc
  · rename_i e
    subst e
    cases hgc
    exact rep_global (m := 6) (t := 184) (by kernel_rfl) hd1 gC0 fun j => by simpa using World.var?_cell hg1 hv1 j
  · split at hgc
    · rename_i e
      subst e
      cases hgc
      exact rep_global (m := 6) (t := 217) (by kernel_rfl) hd0 gC2 fun j => by simpa using World.var?_cell hg0 hv0 j
    · cases hgc
end Go.Dc
end
