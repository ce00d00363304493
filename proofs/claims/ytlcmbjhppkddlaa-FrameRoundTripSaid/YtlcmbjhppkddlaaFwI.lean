/- Writing: stores into boxes and into owned slices, append; their soundness. -/
import Derived.Test.YtlcmbjhppkddlaaFwH
namespace Go.Fw
open Go.RowKit (Below)

theorem setCells_heap (g : Nat) (e : TypeId) (fr : Nat × Nat) : ∀ (vs : List Value) (o : Nat) (w : World) (cur : Array Value), w.heap[g]? = some (.cells cur e fr) →
    (w.setCells g o vs).heap[g]? = some (.cells (setRun cur.toList o vs).toArray e fr) ∧ (∀ k, k ≠ g → (w.setCells g o vs).heap[k]? = w.heap[k]?) ∧ (w.setCells g o vs).os = w.os ∧
      (w.setCells g o vs).tape = w.tape ∧ (w.setCells g o vs).output = w.output ∧ (w.setCells g o vs).heap.size = w.heap.size
  | [], o, w, cur, h => ⟨by simpa [World.setCells, setRun] using h, fun _ _ => rfl, rfl, rfl, rfl, rfl⟩
  | v :: vs, o, w, cur, h => by
    have h1 : (w.setCell ⟨g, o, none⟩ v).heap[g]? = some (.cells (cur.setIfInBounds o v) e fr) := by
      simp only [World.setCell, Array.getElem?_modify, h]; rfl
    have h2 : ∀ k, k ≠ g → (w.setCell ⟨g, o, none⟩ v).heap[k]? = w.heap[k]? := fun k hk => by
      simp only [World.setCell, Array.getElem?_modify]; rw [if_neg (fun e => hk e.symm)]
    obtain ⟨a1, a2, a3, a4, a5, a6⟩ := setCells_heap g e fr vs (o + 1) _ _ h1
    refine ⟨?_, fun k hk => (a2 k hk).trans (h2 k hk), a3, a4, a5, a6.trans (by simp [World.setCell])⟩
    have : (cur.setIfInBounds o v).toList = cur.toList.set o v := by simp
    rw [this] at a1
    exact a1

theorem setRun_length {α : Type} : ∀ (vs : List α) (l : List α) (o : Nat), (setRun l o vs).length = l.length
  | [], l, o => rfl
  | v :: vs, l, o => by simp [setRun, setRun_length vs]

theorem setRun_take {α : Type} : ∀ (vs : List α) (l : List α) (o k : Nat), (setRun l o vs).take k = setRun (l.take k) o vs
  | [], l, o, k => rfl
  | v :: vs, l, o, k => by rw [setRun, setRun, setRun_take vs, List.take_set]

theorem setRun_fill {α : Type} : ∀ (vs : List α) (l : List α) (o : Nat), o + vs.length ≤ l.length → (setRun l o vs).take (o + vs.length) = l.take o ++ vs
  | [], l, o, h => by simp [setRun]
  | v :: vs, l, o, h => by
    have h' : o + 1 + vs.length ≤ (l.set o v).length := by simp at h ⊢; omega
    have := setRun_fill vs (l.set o v) (o + 1) h'
    have e : o + (v :: vs).length = o + 1 + vs.length := by simp; omega
    rw [setRun, e, this]
    have ho : o < l.length := by simp at h; omega
    have : (l.set o v).take (o + 1) = l.take o ++ [v] := by
      rw [List.take_succ_eq_append_getElem (by simpa using ho)]
      simp [List.take_set_of_le]
    rw [this]; simp

theorem seg_setRun {w : World} {ρ β : Fam} : ∀ {vs : List Value} {xs : List AC}, Seg w ρ β vs xs → ∀ (o : Nat) {raws : List Value} {acs : List AC}, Seg w ρ β raws acs → Seg w ρ β (setRun raws o vs) (setRun acs o xs)
  | [], xs, hv, o, raws, acs, h => by
    have : xs = [] := List.eq_nil_of_length_eq_zero (by rw [← hv.len]; rfl)
    subst this; exact h
  | v :: vs, [], hv, o, raws, acs, h => by have := hv.len; simp at this
  | v :: vs, x :: xs, hv, o, raws, acs, h => by
    have h1 : Seg w ρ β vs xs := ⟨by simpa using hv.len, fun u hu => hv.one u (by simp [hu]), fun j u y hu hy => hv.rep (j + 1) u y (by simpa using hu) (by simpa using hy)⟩
    exact seg_setRun h1 (o + 1) (h.set o (hv.one v (by simp)) (hv.rep 0 v x rfl rfl))

theorem creps_set {w : World} {bad : Nat → Prop} {raws : List Value} {cells : List CV} (h : CReps w bad raws cells) (i : Nat) {u : Value} {c : CV} (ho : u.oneCell' = true) (hu : CRep w bad u c) : CReps w bad (raws.set i u) (cells.set i c) := by
  refine ⟨by simp [h.len], fun v hv => ?_, fun j v y hv hy => ?_⟩
  · rcases List.mem_or_eq_of_mem_set hv with h' | rfl
    · exact h.one v h'
    · exact ho
  · rw [List.getElem?_set] at hv hy
    split at hv
    · rename_i e
      subst e
      split at hv
      · rename_i hlt
        cases hv
        rw [if_pos rfl, if_pos (by rw [← h.len]; exact hlt)] at hy
        cases hy; exact hu
      · cases hv
    · rename_i e
      rw [if_neg e] at hy
      exact h.rep j v y hv hy

theorem creps_setRun {w : World} {bad : Nat → Prop} : ∀ {vs : List Value} {xs : List CV}, CReps w bad vs xs → ∀ (o : Nat) {raws : List Value} {cells : List CV}, CReps w bad raws cells → CReps w bad (setRun raws o vs) (setRun cells o xs)
  | [], xs, hv, o, raws, acs, h => by
    have : xs = [] := List.eq_nil_of_length_eq_zero (by rw [← hv.len]; rfl)
    subst this; exact h
  | v :: vs, [], hv, o, raws, acs, h => by have := hv.len; simp at this
  | v :: vs, x :: xs, hv, o, raws, acs, h => by
    have h1 : CReps w bad vs xs := ⟨by simpa using hv.len, fun u hu => hv.one u (by simp [hu]), fun j u y hu hy => hv.rep (j + 1) u y (by simpa using hu) (by simpa using hy)⟩
    exact creps_setRun h1 (o + 1) (creps_set h o (hv.one v (by simp)) (hv.rep 0 v x rfl rfl))

/-! A store into a box. -/
def St.setBox (st : St) (i : Nat) (xs : List AC) : St := { st with box := fun k => if k = i then some xs else st.box k }

/-- A block turns that is neither old nor of a family, but of a box. -/
theorem J.boxStore {C : Cx} {st : St} {a : Act} {w : World} {ρ β : Fam} (h : J C st a w ρ β) {b g : Nat} {raws : Array Value} {e : TypeId} {xs : List AC} (hβ : β (2 * b) = some g) (hp : ¬ C.prot g)
    (hg : w.heap[g]? = some (.cells raws e (0, 0))) (hs : Seg w ρ β raws.toList xs) {vs : List Value} {ys : List AC} (hv : Seg w ρ β vs ys) (o : Nat) :
    J C (st.setBox b (setRun xs o ys)) a (w.setCells g o vs) ρ β := by
  obtain ⟨a1, a2, a3, a4, a5, a6⟩ := setCells_heap g e (0, 0) vs o w raws hg
  have E : Ext w ρ β (w.setCells g o vs) ρ β := by
    refine ⟨fun x u hx hu => ⟨hx, ?_⟩, fun f b' _ hf => ⟨hf, a2 b' (fun e => ?_)⟩, fun i b h => h⟩
    · rw [cell_of_heap (a2 _ (fun e => hx (.inr ⟨2 * b, by rw [e]; exact hβ⟩)))]; exact hu
    · subst e; exact h.apart.sep f _ _ hf hβ
  refine ⟨h.size, h.defers, a3.trans h.os, a4.trans h.tape, a5.trans h.output, by rw [a6]; exact h.grown, fun b' hb' => ?_, h.protlt, h.phan, ⟨fun f b' hf => by rw [a6]; exact h.apart.fam f b' hf, fun i b' hi => by rw [a6]; exact h.apart.box i b' hi, h.apart.inj, h.apart.injB, h.apart.sep⟩, fun s => E.av (h.env s), fun i zs hz => ?_⟩
  · rw [a2 b' (fun e => hp (e ▸ hb'))]; exact h.kept b' hb'
  · simp only [St.setBox] at hz
    split at hz
    · rename_i hi
      subst hi
      cases hz
      have hs' := seg_setRun hv o hs
      refine ⟨g, _, e, hβ, hp, a1, by have := hs'.len; simpa using this, by simpa using hs'.one, fun j u x hu hx => E.ac (hs'.rep j u x (by simpa using hu) hx)⟩
    · rename_i hi
      obtain ⟨g', raws', e', h1, h2, h3, h4, h5, h6⟩ := h.box i zs hz
      have hne : g' ≠ g := fun e => by subst e; have := h.apart.injB _ _ _ h1 hβ; omega
      exact ⟨g', raws', e', h1, h2, by rw [a2 g' hne]; exact h3, h4, h5, fun j u x hu hx => E.ac (h6 j u x hu hx)⟩

/-! A store into an owned slice. -/
def AC.upd (f pos : Nat) (cs : List CV) : AC → AC
  | .own g sz n cells => if g = f then .own g sz n (setRun cells pos cs) else .own g sz n cells
  | .view g n cells => if g = f then .bad else .view g n cells
  | .ep (some g) cells k => if g = f then .bad else .ep (some g) cells k
  | .epo g cells k => if g = f then .epo g (setRun cells pos cs) k else .epo g cells k
  | x => x
def AV.upd (f pos : Nat) (cs : List CV) : AV → AV
  | .cell x => .cell (x.upd f pos cs)
  | .agg xs => .agg (xs.map (·.upd f pos cs))
  | .tup xs => .tup (go xs)
  | .bad => .bad
where
  go : List AV → List AV
    | [] => []
    | x :: xs => x.upd f pos cs :: go xs
theorem upd_go (f pos : Nat) (cs : List CV) (xs : List AV) : AV.upd.go f pos cs xs = xs.map (·.upd f pos cs) := by
  induction xs with
  | nil => rfl
  | cons x xs ih => simp [AV.upd.go, ih]
def St.upd (st : St) (f pos : Nat) (cs : List CV) : St := ⟨fun s => (st.env s).upd f pos cs, fun i => (st.box i).map (·.map (·.upd f pos cs))⟩

theorem J.famStore {C : Cx} {st : St} {a : Act} {w : World} {ρ β : Fam} (h : J C st a w ρ β) {f g : Nat} {cur : Array Value} {e : TypeId} {fr : Nat × Nat} (hρ : ρ f = some g)
    (hg : w.heap[g]? = some (.cells cur e fr)) {vs : List Value} {cs : List CV} (hv : CReps w (Bad ρ β) vs cs) (o : Nat) : J C (st.upd f o cs) a (w.setCells g o vs) ρ β := by
  obtain ⟨a1, a2, a3, a4, a5, a6⟩ := setCells_heap g e fr vs o w cur hg
  have hpure : ∀ (x : Addr) (u : Value), ¬ Bad ρ β x.block → w.cell? x = some u → ¬ Bad ρ β x.block ∧ (w.setCells g o vs).cell? x = some u := fun x u hx hu =>
    ⟨hx, by rw [cell_of_heap (a2 _ (fun e => hx (.inl ⟨f, by rw [e]; exact hρ⟩)))]; exact hu⟩
  have hfam : ∀ f' b, f' ≠ f → ρ f' = some b → (w.setCells g o vs).heap[b]? = w.heap[b]? := fun f' b hne hf => a2 b (fun e => hne (h.apart.inj f' f b hf (e ▸ hρ)))
  have E : ∀ v x, ACRep w ρ β v x → ACRep (w.setCells g o vs) ρ β v (x.upd f o cs) := by
    intro v x hx
    cases x with
    | p x => exact CRep.mono hpure hx
    | z => exact hx
    | own f' sz n cells =>
      obtain ⟨raws, ⟨hl, ho⟩, hr⟩ := hx
      simp only [AC.upd]
      split
      · rename_i hf
        subst hf
        rcases ho with ⟨a', rfl, rfl⟩ | ⟨g', cap, cur', e', fr', rfl, hρ', hg', hfr, hn, hm, hcs, ht⟩
        · have h0 : raws = [] := List.eq_nil_of_length_eq_zero (by simpa using hl)
          subst h0
          have h1 : cells = [] := List.eq_nil_of_length_eq_zero (by rw [← hr.len]; rfl)
          subst h1
          have h2 : ∀ (l : List CV) (o : Nat), setRun ([] : List CV) o l = [] := by
            intro l; induction l with
            | nil => intro o; rfl
            | cons c l ih => intro o; simp [setRun, ih]
          rw [h2]
          exact ⟨[], ⟨by simp, .inl ⟨a', rfl, rfl⟩⟩, ⟨by simp, by simp, by simp⟩⟩
        · rw [hρ] at hρ'; cases hρ'
          rw [hg] at hg'; cases hg'
          refine ⟨setRun raws o vs, ⟨by rw [setRun_length]; exact hl, .inr ⟨g, cap, _, e, fr, rfl, hρ, a1, by simpa [setRun_length] using hfr, hn, hm, by simpa [setRun_length] using hcs, by rw [← ht]; exact setRun_take vs _ o _⟩⟩, ?_⟩
          exact (creps_setRun hv o hr).mono hpure
      · rename_i hf
        refine ⟨raws, ⟨hl, ?_⟩, hr.mono hpure⟩
        rcases ho with ho | ⟨g', cap, cur', e', fr', h1, h2, h3, rest⟩
        · exact .inl ho
        · exact .inr ⟨g', cap, cur', e', fr', h1, h2, by rw [hfam f' g' hf h2]; exact h3, rest⟩
    | view f' n cells =>
      simp only [AC.upd]
      split
      · trivial
      · rename_i hf
        obtain ⟨a', cap, raws, h1, h2, h3, h4, hr⟩ := hx
        refine ⟨a', cap, raws, h1, h2, h3, fun j u hj => ?_, hr.mono hpure⟩
        obtain ⟨y, e1, e2, e3⟩ := h4 j u hj
        exact ⟨y, e1, e2, (cell_of_heap (x := y.add j) (by rw [add_block]; exact hfam f' _ hf e2)).trans e3⟩
    | ep k cells pos =>
      cases k with
      | none => obtain ⟨y, raws, h1, h2, hr⟩ := hx; exact ⟨y, raws, h1, fun j u hj => let ⟨e1, e2⟩ := h2 j u hj; ⟨e1, (hpure (y.add j) u (by rw [add_block]; exact e1) e2).2⟩, hr.mono hpure⟩
      | some f' =>
        simp only [AC.upd]
        split
        · trivial
        · rename_i hf
          obtain ⟨y, raws, h1, h2, hr⟩ := hx
          exact ⟨y, raws, h1, fun j u hj => let ⟨e1, e2⟩ := h2 j u hj; ⟨e1, (cell_of_heap (x := y.add j) (by rw [add_block]; exact hfam f' _ hf e1)).trans e2⟩, hr.mono hpure⟩
    | epo f' cells pos =>
      obtain ⟨g', cur', e', fr', h1, h2, h3, h4, h5, hr⟩ := hx
      simp only [AC.upd]
      split
      · rename_i hf
        subst hf
        rw [hρ] at h2; cases h2
        rw [hg] at h3; cases h3
        refine ⟨g, _, e, fr, h1, hρ, a1, by simpa [setRun_length] using h4, by simpa [setRun_length] using h5, ?_⟩
        rw [setRun_length]
        simp only [setRun_take]
        exact (creps_setRun hv o hr).mono hpure
      · rename_i hf
        exact ⟨g', cur', e', fr', h1, h2, by rw [hfam f' g' hf h2]; exact h3, h4, h5, hr.mono hpure⟩
    | ptr b off => exact hx
    | bad => trivial
  refine ⟨h.size, h.defers, a3.trans h.os, a4.trans h.tape, a5.trans h.output, by rw [a6]; exact h.grown, fun b' hb' => ?_, h.protlt, h.phan, ⟨fun f b' hf => by rw [a6]; exact h.apart.fam f b' hf, fun i b' hi => by rw [a6]; exact h.apart.box i b' hi, h.apart.inj, h.apart.injB, h.apart.sep⟩, fun s => ?_, fun i zs hz => ?_⟩
  · rw [a2 b' (fun e => (h.apart.fam f g hρ).1 (e ▸ hb'))]; exact h.kept b' hb'
  · exact AVRep.lift (AC.upd f o cs) (AV.upd f o cs) (fun _ => rfl) (fun _ => rfl) (fun xs => by simp [AV.upd, upd_go]) rfl E (h.env s)
  · simp only [St.upd] at hz
    cases hb : st.box i with
    | none => simp [hb] at hz
    | some ys => simp [hb] at hz; subst hz; exact (h.box i ys hb).map _ rfl (fun b hb => a2 b (fun e => h.apart.sep f _ _ hρ (e ▸ hb))) E

/-! Append. -/
theorem append_run {P : Program} {w : World} {t tx ty e : TypeId} {i : TypeInfo} {z : Value} (ht : P.underlying t = some (.slice e)) (hi : P.info? e = some i) (hz : i.zero = some z) (hzs : z.cells.size = i.size)
    {b : Option Nat} {n : Nat} {v : Value} {raws : List Value} (ho : OwnRow w b i.size n v raws) {x : Value} {m : Nat} {news : List Value} (hs : Src P i.size tx x m news w)
    (h63 : n + m ≤ 1099511627776) (hby : (n + m) * i.bytes ≤ 140737488355328) :
    ∃ v' w' b', (Builtin.append_ #[t, tx] ty #[v, x]).run P w = .ok v' w' ∧ OwnRow w' b' i.size (n + m) v' (raws ++ news) ∧ w'.os = w.os ∧ w'.tape = w.tape ∧ w'.output = w.output ∧ w.heap.size ≤ w'.heap.size ∧
      (∀ k, k < w.heap.size → some k ≠ b → w'.heap[k]? = w.heap[k]?) ∧ (b' = b ∨ b' = some w.heap.size ∧ w.heap.size < w'.heap.size) := by
  obtain ⟨hl, ho⟩ := ho
  have hmax : n + m ≤ maxLen := by unfold maxLen; omega
  have hnl : (raws ++ news).length = (n + m) * i.size := by rw [List.length_append, hl, hs.newsLen, Nat.add_mul]
  have grown : ∀ old, (w.drew.alloc (.cells ((raws ++ news).toArray ++ Builtin.zeroCells z.cells (grownCap w (n + m) old e - (n + m))) e)).heap.size = w.heap.size + 1 ∧
      OwnRow (w.drew.alloc (.cells ((raws ++ news).toArray ++ Builtin.zeroCells z.cells (grownCap w (n + m) old e - (n + m))) e)) (some w.heap.size) i.size (n + m)
        (.slice (some ⟨w.heap.size, 0, none⟩) (n + m) (grownCap w (n + m) old e)) (raws ++ news) := by
    intro old
    have hge := grownCap_ge w (n + m) old e
    refine ⟨by simp [World.alloc], hnl, .inr ⟨w.heap.size, _, _, e, (0, 0), rfl, rfl, heap_alloc_new w.drew _, .inl rfl, hge, grownCap_le_maxLen w (n + m) old e hmax, ?_, ?_⟩⟩
    · simp only [Array.size_append, List.size_toArray, size_zeroCells, hzs, hnl, ← Nat.add_mul]
      congr 1; omega
    · rw [Array.toList_append, ← hnl]; exact List.take_left
  have old : ∀ (c : Nat) k, k < w.heap.size → some k ≠ b → (w.drew.alloc (.cells ((raws ++ news).toArray ++ Builtin.zeroCells z.cells c) e)).heap[k]? = w.heap[k]? := fun c k hk _ => heap_alloc_old w.drew _ hk
  rcases ho with ⟨a, rfl, rfl⟩ | ⟨g, cap, cur, e', fr, rfl, hb, hg, hfr, hnc, hm, hcs, htk⟩
  · have h0 : raws = [] := List.eq_nil_of_length_eq_zero (by simpa using hl)
    subst h0
    by_cases hm0 : m = 0
    · subst hm0
      have hn0 : news = [] := List.eq_nil_of_length_eq_zero (by have := hs.newsLen; simpa using this)
      subst hn0
      refine ⟨.slice a 0 0, w, b, ?_, ⟨by simp, .inl ⟨a, rfl, rfl⟩⟩, rfl, rfl, rfl, Nat.le_refl _, fun _ _ _ => rfl, .inl rfl⟩
      rcases hs.kind with ⟨e1, hk⟩ | hk <;> cases a <;> simp [Builtin.append_, run_underlying ht, run_underlying hk, sizeOf, typeInfo, hi, hs.len, hs.cells, storeCells]
    · have hr := run_append_grow_src (P := P) w t tx ty e i z ht hi hz a 0 0 [] (by
        cases a with
        | none => exact run_firstCells_none w.drew i.size 0 0 0
        | some a => exact run_firstCells_some w.drew i.size 0 a 0 0 [] (by simp) (by simp)) x m news hs (by omega) (by omega) (growslice_fits (by omega) hby)
      have hgr := grown 0
      exact ⟨_, _, _, hr, hgr.2, rfl, rfl, rfl, by rw [hgr.1]; omega, old _, .inr ⟨rfl, by rw [hgr.1]; omega⟩⟩
  · by_cases hroom : n + m ≤ cap
    · have hsz : n * i.size + news.length ≤ cur.size := by rw [hs.newsLen, hcs, ← Nat.add_mul]; exact Nat.mul_le_mul_right _ hroom
      have hr := run_append_room_src (P := P) w t tx ty e i ht hi g 0 n cap x m news hs hroom (fun j hj => by
        have : n * i.size + j < cur.size := by omega
        simp [World.cell?, hg, this]) (fun j hj => by
        have : n * i.size + j < cur.size := by omega
        simp only [World.frozen?, hg, Nat.zero_add]
        rcases hfr with h | h
        · simp; omega
        · simp; omega)
      rw [Nat.zero_add] at hr
      obtain ⟨a1, a2, a3, a4, a5, a6⟩ := setCells_heap g e' fr news (n * i.size) w cur hg
      refine ⟨_, _, b, hr, ⟨hnl, .inr ⟨g, cap, _, e', fr, rfl, hb, a1, by simpa [setRun_length] using hfr, hroom, hm, by simpa [setRun_length] using hcs, ?_⟩⟩, a3, a4, a5, by rw [a6]; exact Nat.le_refl _, fun k hk hne => a2 k (fun e => hne (by rw [e, hb])), .inl rfl⟩
      have e1 : (n + m) * i.size = n * i.size + news.length := by rw [hs.newsLen, Nat.add_mul]
      rw [e1]
      simp only
      rw [setRun_fill news cur.toList (n * i.size) (by simpa using hsz), htk]
    · have hold := run_firstCells_some (P := P) w.drew i.size n ⟨g, 0, none⟩ n cap raws hl (fun j u hj => by
        have := row_cell (k := n * i.size) hg (by rw [htk]; exact hj)
        simpa using this)
      have hr := run_append_grow_src (P := P) w t tx ty e i z ht hi hz (some ⟨g, 0, none⟩) n cap raws hold x m news hs (by omega) (by omega) (growslice_fits (by omega) hby)
      have hgr := grown cap
      exact ⟨_, _, _, hr, hgr.2, rfl, rfl, rfl, by rw [hgr.1]; omega, old _, .inr ⟨rfl, by rw [hgr.1]; omega⟩⟩

end Go.Fw
