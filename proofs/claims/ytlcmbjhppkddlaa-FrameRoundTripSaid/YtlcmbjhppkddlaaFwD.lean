/- The quiet operations are sound. -/
import Derived.Test.YtlcmbjhppkddlaaFwC
import Derived.Deep.AppendSrc
namespace Go.Fw
open Go.RowKit (Below)

/-- The run gives a value that represents out; it writes nothing old. -/
def Runs (P : Program) (s : Sem Value) (w : World) (ρ β : Fam) (id : Nat) (out : AV) : Prop :=
  ∃ v w' ρ', s.run P w = .ok v w' ∧ Below w.heap.size w w' ∧ NewFam w ρ w' ρ' id ∧ AVRep w' ρ' β v out

theorem NewFam.refl {w w' : World} {prot : Nat → Prop} {ρ β : Fam} (h : Apart w prot ρ β) (id : Nat) : NewFam w ρ w' ρ id := ⟨fun _ _ h => h, fun _ _ h => .inl h, h.inj⟩

theorem Runs.same {P : Program} {s : Sem Value} {w : World} {prot : Nat → Prop} {ρ β : Fam} {id : Nat} {out : AV} {v : Value} (hA : Apart w prot ρ β) (h : s.run P w = .ok v w) (hv : AVRep w ρ β v out) :
    Runs P s w ρ β id out := ⟨v, w, ρ, h, Below.refl _ _, NewFam.refl hA id, hv⟩

/-- Values and the cells that they represent, side by side. -/
structure Seg (w : World) (ρ β : Fam) (raws : List Value) (acs : List AC) : Prop where
  len : raws.length = acs.length
  one : ∀ u ∈ raws, u.oneCell' = true
  rep : ∀ (j : Nat) (u : Value) (x : AC), raws[j]? = some u → acs[j]? = some x → ACRep w ρ β u x

theorem Seg.ofC {w : World} {ρ β : Fam} {raws : List Value} {cells : List CV} (h : CReps w (Bad ρ β) raws cells) : Seg w ρ β raws (cells.map .p) := by
  refine ⟨by simpa using h.len, h.one, fun j u x hu hx => ?_⟩
  rw [List.getElem?_map] at hx
  cases hc : cells[j]? with
  | none => simp [hc] at hx
  | some c => simp [hc] at hx; subst hx; exact h.rep j u c hu hc

theorem Seg.agg {w : World} {ρ β : Fam} {raws : List Value} {acs : List AC} (h : Seg w ρ β raws acs) : AVRep w ρ β (.agg raws.toArray) (.agg acs) :=
  .agg _ _ (by simpa using h.len) (by simpa using h.one) fun j u x hu hx => h.rep j u x (by simpa using hu) hx

theorem Seg.sub {w : World} {ρ β : Fam} {raws : List Value} {acs : List AC} (h : Seg w ρ β raws acs) (a n : Nat) : Seg w ρ β ((raws.drop a).take n) ((acs.drop a).take n) := by
  refine ⟨by simp [h.len], fun u hu => h.one u (List.mem_of_mem_drop (List.mem_of_mem_take hu)), fun j u x hu hx => ?_⟩
  rw [List.getElem?_take] at hu hx
  split at hu <;> simp_all
  exact h.rep _ u x hu hx

theorem Seg.get {w : World} {ρ β : Fam} {raws : List Value} {acs : List AC} (h : Seg w ρ β raws acs) {i : Nat} {x : AC} (hx : acs[i]? = some x) : ∃ u, raws[i]? = some u ∧ ACRep w ρ β u x := by
  have hi : i < raws.length := by
    rw [h.len]
    rcases Nat.lt_or_ge i acs.length with h | h
    · exact h
    · simp [List.getElem?_eq_none h] at hx
  exact ⟨raws[i], List.getElem?_eq_getElem hi, h.rep i _ x (List.getElem?_eq_getElem hi) hx⟩

theorem Seg.ofAgg {w : World} {ρ β : Fam} {v : Value} {xs : List AC} (h : AVRep w ρ β v (.agg xs)) : ∃ cs : Array Value, v = .agg cs ∧ Seg w ρ β cs.toList xs := by
  obtain ⟨cs, rfl, hl, ho, hr⟩ := rep_agg h
  exact ⟨cs, rfl, by simpa using hl, ho, fun j u x hu hx => hr j u x (by simpa using hu) hx⟩

theorem szOf_some {P : Program} {t s : Nat} (h : szOf P t = some s) : ∃ i, P.info? t = some i ∧ i.size = s := by
  unfold szOf at h
  cases hi : P.info? t with
  | none => simp [hi] at h
  | some i => simp [hi] at h; exact ⟨i, rfl, h⟩

theorem run_isAgg {P : Program} {t : TypeId} {b : Bool} (h : aggB P t = some b) (w : World) : (isAgg t).run P w = .ok b w := by
  unfold aggB at h
  split at h <;> first | cases h | skip
  · rename_i hu; simp [isAgg, run_underlying hu]
  · rename_i hu; simp [isAgg, run_underlying hu]
  · rename_i d hs ha hu
    simp only [isAgg, Sem.run_bind, run_underlying hu, Result.andThen_ok]
    cases d <;> first | rfl | exact (hs _ rfl).elim | exact (ha _ _ rfl).elim

theorem run_sizeOf {P : Program} {t s : Nat} (h : szOf P t = some s) (w : World) : (sizeOf t).run P w = .ok s w := by
  obtain ⟨i, hi, hs⟩ := szOf_some h
  simp [sizeOf, typeInfo, hi, hs]

theorem part_run {P : Program} {w : World} {ρ β : Fam} {raws : Array Value} {acs : List AC} (hs : Seg w ρ β raws.toList acs) {t : TypeId} {off : Nat} {out : AV} (h : partAC P t acs off = some out) :
    ∃ v, (part t raws off).run P w = .ok v w ∧ AVRep w ρ β v out := by
  unfold partAC at h
  split at h
  · rename_i s h1 h2
    split at h
    · rename_i hle
      cases h
      refine ⟨.agg (raws.extract off (off + s)), by simp [part, run_isAgg h1, run_sizeOf h2], ?_⟩
      have := (hs.sub off s).agg
      have e : ((raws.toList.drop off).take s).toArray = raws.extract off (off + s) := by
        apply Array.ext'; simp [List.extract, Nat.add_sub_cancel_left]
      rwa [e] at this
    · cases h
  · rename_i h1
    cases hx : acs[off]? with
    | none => simp [hx] at h
    | some x =>
      simp [hx] at h
      subst h
      obtain ⟨u, hu, hr⟩ := hs.get hx
      have hu' : raws[off]? = some u := by simpa using hu
      exact ⟨u, by simp [part, run_isAgg h1, hu'], .cell _ _ hr⟩
  · cases h

theorem load_run {P : Program} {w : World} {ρ β : Fam} {a : Addr} {raws : List Value} {acs : List AC} (hs : Seg w ρ β raws acs) (hc : ∀ (j : Nat) (u : Value), raws[j]? = some u → w.cell? (a.add j) = some u)
    {t : TypeId} {off : Nat} {out : AV} (h : partAC P t acs off = some out) : ∃ v, (loadVar t (a.add off)).run P w = .ok v w ∧ AVRep w ρ β v out := by
  have hadd : ∀ j, (a.add off).add j = a.add (off + j) := by
    intro j; unfold Addr.add; split <;> split <;> simp_all <;> omega
  unfold partAC at h
  split at h
  · rename_i s h1 h2
    split at h
    · rename_i hle
      cases h
      have hl : ((raws.drop off).take s).length = s := by simp [hs.len]; omega
      have hrun := run_loadCells_list (P := P) (w := w) (a.add off) ((raws.drop off).take s) (fun j v hj => by
        rw [List.getElem?_take] at hj
        split at hj
        · rw [hadd]; exact hc _ _ (by simpa using hj)
        · cases hj)
      rw [hl] at hrun
      exact ⟨_, by simp [loadVar, run_isAgg h1, run_sizeOf h2, hrun], (hs.sub off s).agg⟩
    · cases h
  · rename_i h1
    cases hx : acs[off]? with
    | none => simp [hx] at h
    | some x =>
      simp [hx] at h
      subst h
      obtain ⟨u, hu, hr⟩ := hs.get hx
      exact ⟨u, by simp [loadVar, run_isAgg h1, hc _ _ hu], .cell _ _ hr⟩
  · cases h

/-- Reading a slice. -/
theorem sl_rep {w : World} {ρ β : Fam} {v : Value} {x : AC} (h : ACRep w ρ β v x) {n : Nat} {cells : List CV} (hx : x.sl? = some (n, cells)) :
    ∃ a cap raws, v = .slice a n cap ∧ n ≤ cap ∧ cap ≤ maxLen ∧ CReps w (Bad ρ β) raws cells ∧ (∀ (j : Nat) (u : Value), raws[j]? = some u → ∃ y : Addr, a = some y ∧ w.cell? (y.add j) = some u) := by
  cases x with
  | p x =>
    cases x with
    | c u => simp [AC.sl?] at hx
    | sl m cs =>
      simp [AC.sl?] at hx
      obtain ⟨rfl, rfl⟩ := hx
      cases h with
      | sl a n cap raws cells hn hm hl ho hc hr =>
        exact ⟨a, cap, raws, rfl, hn, hm, ⟨hl, ho, hr⟩, fun j u hj => let ⟨y, h1, _, h2⟩ := hc j u hj; ⟨y, h1, h2⟩⟩
  | z =>
    simp [AC.sl?] at hx
    obtain ⟨rfl, rfl⟩ := hx
    obtain ⟨a, rfl⟩ := h
    exact ⟨a, 0, [], rfl, Nat.le_refl _, Nat.zero_le _, ⟨rfl, by simp, by simp⟩, by simp⟩
  | own f sz m cs =>
    simp [AC.sl?] at hx
    obtain ⟨rfl, rfl⟩ := hx
    obtain ⟨raws, ⟨hl, ho⟩, hr⟩ := h
    rcases ho with ⟨a, rfl, rfl⟩ | ⟨g, cap, cur, e, fr, rfl, hρ, hg, hfr, hn, hm, hcs, ht⟩
    · have : raws = [] := List.eq_nil_of_length_eq_zero (by simpa using hl)
      subst this
      exact ⟨a, 0, [], rfl, Nat.le_refl _, Nat.zero_le _, hr, by simp⟩
    · exact ⟨_, cap, raws, rfl, hn, hm, hr, fun j u hj => ⟨_, rfl, row_cell hg (k := m * sz) (by rw [ht]; exact hj)⟩⟩
  | view f m cs =>
    simp [AC.sl?] at hx
    obtain ⟨rfl, rfl⟩ := hx
    obtain ⟨a, cap, raws, rfl, hn, hm, hc, hr⟩ := h
    exact ⟨a, cap, raws, rfl, hn, hm, hr, fun j u hj => let ⟨y, h1, _, h2⟩ := hc j u hj; ⟨y, h1, h2⟩⟩
  | ep k cs pos => simp [AC.sl?] at hx
  | epo f cs pos => simp [AC.sl?] at hx
  | ptr b off => simp [AC.sl?] at hx
  | bad => simp [AC.sl?] at hx

theorem toCV_rep {w : World} {ρ β : Fam} {v : Value} {x : AC} (h : ACRep w ρ β v x) {c : CV} (hx : x.toCV = some c) : CRep w (Bad ρ β) v c := by
  cases x <;> simp [AC.toCV] at hx
  · subst hx; exact h
  · subst hx
    obtain ⟨a, rfl⟩ := h
    exact .sl a 0 0 [] [] (Nat.le_refl _) (Nat.zero_le _) rfl (by simp) (by simp) (by simp)

theorem one_rep {w : World} {ρ β : Fam} {v : Value} {x : AC} (h : ACRep w ρ β v x) (hx : x.one = true) : v.oneCell' = true := by
  cases x with
  | p x =>
    cases x with
    | c u => cases h; exact hx
    | sl m cs => cases h; rfl
  | z => obtain ⟨a, rfl⟩ := h; rfl
  | own f sz m cs =>
    obtain ⟨raws, ⟨_, ho⟩, _⟩ := h
    rcases ho with ⟨_, rfl, _⟩ | ⟨g, cap, cur, e, fr, rfl, _⟩ <;> rfl
  | view f m cs => obtain ⟨a, cap, raws, rfl, _⟩ := h; rfl
  | ep k cs pos => cases k <;> (obtain ⟨y, raws, rfl, _⟩ := h; rfl)
  | epo f cs pos => obtain ⟨g, cur, e, fr, rfl, _⟩ := h; rfl
  | ptr b off => obtain ⟨g, _, rfl⟩ := h; rfl
  | bad => simp [AC.one] at hx

theorem cells_one {v : Value} (h : v.oneCell' = true) : v.cells = #[v] := by cases v <;> simp_all [Value.oneCell', Value.cells]

theorem cells_rep {w : World} {ρ β : Fam} {v : Value} {x : AV} (h : AVRep w ρ β v x) {acs : List AC} (hx : x.cells? = some acs) : Seg w ρ β v.cells.toList acs := by
  cases x with
  | cell x =>
    simp only [AV.cells?] at hx
    split at hx
    · rename_i ho
      cases hx
      have hv := rep_cell h
      rw [cells_one (one_rep hv ho)]
      refine ⟨rfl, by simpa using one_rep hv ho, fun j u y hu hy => ?_⟩
      cases j with
      | zero => simp at hu hy; subst hu hy; exact hv
      | succ j => simp at hu
    · cases hx
  | agg xs =>
    simp [AV.cells?] at hx
    subst hx
    obtain ⟨cs, rfl, hs⟩ := Seg.ofAgg h
    exact hs
  | tup xs => simp [AV.cells?] at hx
  | bad => simp [AV.cells?] at hx

/-- A family of its own for a new block. -/
def Fam.set (ρ : Fam) (f b : Nat) : Fam := fun g => if g = f then some b else ρ g

theorem newFam_set {w w' : World} {prot : Nat → Prop} {ρ β : Fam} {id : Nat} (hA : Apart w prot ρ β) (hid : ∀ f, id ≤ f → f < id + 64 → ρ f = none) (hlt : w.heap.size < w'.heap.size) {k : Nat} (hk : k < 64) :
    NewFam w ρ w' (ρ.set (id + k) w.heap.size) id := by
  have hn : ρ (id + k) = none := hid _ (by omega) (by omega)
  refine ⟨fun f b h => ?_, fun f b h => ?_, fun f f' b h h' => ?_⟩
  · unfold Fam.set; split
    · rename_i e; subst e; simp [hn] at h
    · exact h
  · unfold Fam.set at h; split at h
    · rename_i e; subst e; cases h; exact .inr ⟨by omega, by omega, Nat.le_refl _, hlt⟩
    · exact .inl h
  · unfold Fam.set at h h'
    split at h <;> split at h'
    · simp_all
    · cases h; have := (hA.fam f' _ h').2; omega
    · cases h'; have := (hA.fam f _ h).2; omega
    · exact hA.inj f f' b h h'

theorem newOwn {w w' : World} {prot : Nat → Prop} {ρ β : Fam} {id : Nat} (hA : Apart w prot ρ β) (hid : ∀ f, id ≤ f → f < id + 64 → ρ f = none) {cur : Array Value} {e : TypeId} {fr : Nat × Nat}
    (hheap : w'.heap = w.heap.push (.cells cur e fr)) (hos : w'.os = w.os) (ht : w'.tape = w.tape) (hout : w'.output = w.output) (hfr : fr.2 = fr.1 ∨ cur.size ≤ fr.1)
    {cap n sz : Nat} (hcur : cur.size = cap * sz) (hn : n ≤ cap) (hm : cap ≤ maxLen) {cells : List CV} (hr : CReps w (Bad ρ β) (cur.toList.take (n * sz)) cells) :
    Below w.heap.size w w' ∧ NewFam w ρ w' (ρ.set (id + 0) w.heap.size) id ∧ ACRep w' (ρ.set (id + 0) w.heap.size) β (.slice (some ⟨w.heap.size, 0, none⟩) n cap) (.own id sz n cells) := by
  have hb : Below w.heap.size w w' := ⟨hos, ht, hout, by rw [hheap]; simp, fun k hk => by rw [hheap, Array.getElem?_push, if_neg (by omega)]⟩
  have hN : NewFam w ρ w' (ρ.set (id + 0) w.heap.size) id := newFam_set hA hid (by rw [hheap]; simp) (by omega)
  have E := ext_of_grow (β := β) hA hb hN
  refine ⟨hb, hN, _, ⟨?_, .inr ⟨w.heap.size, cap, cur, e, fr, rfl, by simp [Fam.set], by rw [hheap]; simp, hfr, hn, hm, hcur, rfl⟩⟩, hr.mono E.pure⟩
  rw [List.length_take, Array.length_toList, hcur]
  exact Nat.min_eq_left (Nat.mul_le_mul_right _ hn)

/-! One operation after the other. -/
section
variable {P : Program} {w : World} {prot : Nat → Prop} {ρ β : Fam} {id : Nat} (hA : Apart w prot ρ β)
include hA

omit hA in
theorem bytes_of_cells {bad : Nat → Prop} {raws : List Value} {cells : List CV} (h : CReps w bad raws cells) {l : List UInt8} (hl : cellsBytes cells = some l) :
    ∃ ns : List Int, raws = ns.map (Value.int .u8) ∧ l = ns.map (fun n => UInt8.ofNat n.toNat) := by
  obtain ⟨h1, h2, h3⟩ := h
  induction cells generalizing raws l with
  | nil => simp [cellsBytes] at hl; subst hl; exact ⟨[], by simpa using List.eq_nil_of_length_eq_zero h1, rfl⟩
  | cons c cells ih =>
    cases raws with
    | nil => simp at h1
    | cons u raws =>
      have hc := h3 0 u c rfl rfl
      unfold cellsBytes at hl
      split at hl
      · rename_i heq; cases heq
      · rename_i n r heq
        simp at heq
        obtain ⟨rfl, rfl⟩ := heq
        cases hr : cellsBytes cells with
        | none => simp [hr] at hl
        | some l' =>
          simp [hr] at hl
          subst hl
          cases hc
          obtain ⟨ns, rfl, rfl⟩ := ih hr (by simpa using h1) (fun u hu => h2 u (by simp [hu])) (fun j u c hu hc => h3 (j + 1) u c (by simpa using hu) (by simpa using hc))
          exact ⟨n :: ns, rfl, rfl⟩
      · cases hl

theorem qconv_run {src dst : TypeId} {v : Value} {x out : AV} (hid : out.isC = false → ∀ f, id ≤ f → f < id + 64 → ρ f = none) (hv : AVRep w ρ β v x) (h : qconv P id src dst x = some out) : Runs P (convert src dst v) w ρ β id out := by
  unfold qconv at h
  split at h
  · rename_i h1 h2
    cases h
    cases rep_c hv
    exact Runs.same hA (by simp only [convert, Sem.run_bind, run_underlying h1, run_underlying h2, Result.andThen_ok]; rfl) (.cell _ _ (.c _))
  · rename_i h1 h2
    cases h
    cases rep_c hv
    exact Runs.same hA (by simp only [convert, Sem.run_bind, run_underlying h1, run_underlying h2, Result.andThen_ok]; rfl) (.cell _ _ (.c _))
  · rename_i e s h1 h2
    split at h
    · rename_i h3
      split at h
      · rename_i hs
        cases h
        cases rep_c hv
        have hcap1 : s.size ≤ grownCap w s.size 0 e := grownCap_ge w s.size 0 e
        have hcap2 : grownCap w s.size 0 e ≤ maxLen := grownCap_le_maxLen w s.size 0 e (by unfold maxLen; omega)
        have hsz : (bytesRow s (grownCap w s.size 0 e)).size = grownCap w s.size 0 e := by
          unfold bytesRow
          simp only [Array.size_append, Array.size_map, Array.size_replicate]
          show s.size + _ = _
          omega
        have hN := newOwn (β := β) (w' := w.drew.alloc (.cells (bytesRow s (grownCap w s.size 0 e)) e ((bytesRow s (grownCap w s.size 0 e)).size, (bytesRow s (grownCap w s.size 0 e)).size + 1)))
          hA (hid rfl) rfl rfl rfl rfl (.inr (Nat.le_refl _)) (cap := grownCap w s.size 0 e) (n := s.size) (sz := 1) (by rw [Nat.mul_one]; exact hsz) hcap1 hcap2 (cells := bytesCV s.data.toList) ?_
        · exact ⟨_, _, _, run_bytes_of_string w src dst e s h1 h2 h3, hN.1, hN.2.1, .cell _ _ hN.2.2⟩
        · have e1 : (bytesRow s (grownCap w s.size 0 e)).toList.take (s.size * 1) = s.data.toList.map fun b => Value.int .u8 (b.toNat : Int) := by
            unfold bytesRow
            rw [Nat.mul_one, Array.toList_append, Array.toList_map]
            exact List.take_left' (by simp)
          rw [e1]
          refine ⟨by simp [bytesCV], ?_, ?_⟩
          · intro u hu; simp at hu; obtain ⟨b, _, rfl⟩ := hu; rfl
          · intro j u c hu hc
            simp [bytesCV] at hu hc
            obtain ⟨b, hb1, rfl⟩ := hu
            obtain ⟨b', hb2, rfl⟩ := hc
            rw [hb1] at hb2; cases hb2
            exact .c _
      · cases h
    · cases h
  · rename_i e x h1 h2
    split at h
    · rename_i n cells h3 h4
      split at h
      · rename_i hlen
        cases hl : cellsBytes cells with
        | none => simp [hl] at h
        | some l =>
          simp [hl] at h
          subst h
          obtain ⟨a, cap, raws, rfl, hn, hm, hr, hc⟩ := sl_rep (rep_cell hv) h4
          obtain ⟨ns, rfl, rfl⟩ := bytes_of_cells hr hl
          have hnl : ns.length = n := by have := hr.len; rw [List.length_map] at this; rw [this]; exact hlen
          have e1 : (⟨(ns.map fun (n : Int) => UInt8.ofNat n.toNat).toArray⟩ : ByteArray) = ns.foldl (fun r n => r.push (UInt8.ofNat n.toNat)) ByteArray.empty := by
            rw [foldl_push_bytes]; simp
          refine Runs.same hA (v := .string ⟨(ns.map fun (n : Int) => UInt8.ofNat n.toNat).toArray⟩) ?_ (.cell _ (.p (.c _)) (.c _))
          rw [e1]
          simp only [convert, Sem.run_bind, run_underlying h1, run_underlying h2, run_underlying h3, Result.andThen_ok]
          cases a with
          | none =>
            cases ns with
            | nil => simp [Conv.bytesToString]
            | cons n0 ns => obtain ⟨y, hy, _⟩ := hc 0 _ rfl; cases hy
          | some y =>
            refine run_bytesToString w y n cap ns ?_
            have := run_loadCells_list (P := P) (w := w) y (ns.map (Value.int .u8)) (fun j v hj => by obtain ⟨y', e, h⟩ := hc j v hj; cases e; exact h)
            simpa [hnl] using this
      · cases h
    · cases h
  · cases h
end

end Go.Fw
