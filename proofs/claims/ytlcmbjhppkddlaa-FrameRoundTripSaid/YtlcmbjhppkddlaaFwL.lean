/- A region that draws its order, of quiet operations, is sound. -/
import Derived.Test.YtlcmbjhppkddlaaFwK
namespace Go.Fw
open Go.RowKit (Below)

theorem AC.poison_eq {x : AC} {F : Nat → Bool} (h : ∀ g ∈ x.labs, F g = false) : x.poison F = x := by
  cases x <;> simp only [AC.poison] <;> try rfl
  · rename_i f sz n cells; rw [if_neg (by rw [h f (by simp [AC.labs])]; simp)]
  · rename_i f n cells; rw [if_neg (by rw [h f (by simp [AC.labs])]; simp)]
  · rename_i k cells pos
    cases k with
    | none => rfl
    | some f => simp only; rw [if_neg (by rw [h f (by simp [AC.labs])]; simp)]
  · rename_i f cells pos; rw [if_neg (by rw [h f (by simp [AC.labs])]; simp)]

theorem AV.poison_eq : ∀ {x : AV} {F : Nat → Bool}, (∀ g ∈ x.labs, F g = false) → x.poison F = x
  | .cell x, F, h => by simp only [AV.poison]; rw [AC.poison_eq h]
  | .agg xs, F, h => by
    simp only [AV.poison]
    congr 1
    conv => rhs; rw [← List.map_id xs]
    exact List.map_congr_left fun x hx => AC.poison_eq fun g hg => h g (by simp only [AV.labs, List.mem_flatMap]; exact ⟨x, hx, hg⟩)
  | .tup xs, F, h => by
    simp only [AV.poison]
    rw [go xs F (fun g hg => h g (by simpa [AV.labs] using hg))]
  | .bad, F, h => rfl
where
  go : ∀ (xs : List AV) (F : Nat → Bool), (∀ g ∈ AV.labs.go xs, F g = false) → AV.poison.go F xs = xs
    | [], F, h => rfl
    | x :: xs, F, h => by
      simp only [AV.poison.go]
      rw [AV.poison_eq (fun g hg => h g (by simp [AV.labs.go, hg])), go xs F (fun g hg => h g (by simp [AV.labs.go, hg]))]

section
variable {P : Program} {C : Cx} {st : St} {a : Act} {w : World} {ρ β : Fam} {id : Nat}

theorem J.weaken {env' : Nat → AV} (hJ : J C st a w ρ β) (h : ∀ s, env' s = st.env s ∨ env' s = .bad) : J C ⟨env', st.box⟩ a w ρ β :=
  ⟨hJ.size, hJ.defers, hJ.os, hJ.tape, hJ.output, hJ.grown, hJ.kept, hJ.protlt, hJ.phan, hJ.apart, fun s => by rcases h s with e | e <;> simp only [e]; exact hJ.env s; exact .bad _, hJ.box⟩

theorem append_ext (hJ : J C st a w ρ β) {t tx ty e : TypeId} {i : TypeInfo} {z : Value} (ht : P.underlying t = some (.slice e)) (hi : P.info? e = some i) (hz : i.zero = some z) (hzs : z.cells.size = i.size)
    {s x : Value} {f f2 n : Nat} {cells : List CV} (hs0 : ACRep w ρ β s (.own f i.size n cells)) (hf2 : f2 = f ∨ ρ f2 = none) {m : Nat} {news : List CV} {nraws : List Value} (hs : Src P i.size tx x m nraws w) (hnr : CReps w (Bad ρ β) nraws news)
    (h63 : n + m ≤ 1099511627776) (hby : (n + m) * i.bytes ≤ 140737488355328) :
    ∃ v' w' ρ', (Builtin.append_ #[t, tx] ty #[s, x]).run P w = .ok v' w' ∧ J C (st.poison (inL [f])) a w' ρ' β ∧ AVRep w' ρ' β v' (.cell (.own f2 i.size (n + m) (cells ++ news))) ∧ (∀ g, ρ g = none → g ≠ f2 → ρ' g = none) := by
  obtain ⟨raws, ho, hr⟩ := hs0
  obtain ⟨v', w', b', hrun, ho', hos, htp, hout, hsize, hkeep, hb'⟩ := append_run (ty := ty) ht hi hz hzs ho hs h63 hby
  let ρ' : Fam := fun g => if g = f2 then b' else if g = f then none else ρ g
  have hpure : ∀ (x : Addr) (u : Value), ¬ Bad ρ β x.block → w.cell? x = some u → ¬ Bad ρ' β x.block ∧ w'.cell? x = some u := by
    intro y u hy hu
    have hlt := lt_of_cell hu
    refine ⟨?_, (cell_of_heap (hkeep y.block hlt (fun e => hy (.inl ⟨f, e.symm⟩)))).trans hu⟩
    rintro (⟨g, hg⟩ | ⟨k, hk⟩)
    · simp only [ρ'] at hg
      split at hg
      · rcases hb' with e | ⟨e, _⟩
        · exact hy (.inl ⟨f, by rw [← e]; exact hg⟩)
        · rw [e] at hg; simp at hg; omega
      · split at hg
        · cases hg
        · exact hy (.inl ⟨g, hg⟩)
    · exact hy (.inr ⟨k, hk⟩)
  have hE : ExtE (inL [f]) w ρ β w' ρ' β := by
    refine ⟨hpure, fun g b hg hρ => ?_, fun k b h => h⟩
    have hgf : g ≠ f := by
      intro e; subst e; simp [inL] at hg
    have hgf2 : g ≠ f2 := by
      rintro rfl
      rcases hf2 with e | e
      · exact hgf e
      · rw [e] at hρ; cases hρ
    refine ⟨by simp [ρ', hgf, hgf2, hρ], hkeep b (hJ.apart.fam g b hρ).2 (fun e => hgf (hJ.apart.inj g f b hρ e.symm))⟩
  have hA : Apart w' C.prot ρ' β := by
    refine ⟨fun g b hg => ?_, fun k b hk => Nat.lt_of_lt_of_le (hJ.apart.box k b hk) hsize, fun g g' b h1 h2 => ?_, hJ.apart.injB, fun g k b h1 h2 => ?_⟩
    · simp only [ρ'] at hg
      split at hg
      · rcases hb' with e | ⟨e, hlt⟩
        · rw [e] at hg
          have := hJ.apart.fam f b hg
          exact ⟨this.1, by omega⟩
        · rw [e] at hg; cases hg
          exact ⟨fun hp => by have := hJ.protlt _ hp; have := hJ.grown; omega, hlt⟩
      · split at hg
        · cases hg
        · have := hJ.apart.fam g b hg
          exact ⟨this.1, by omega⟩
    · simp only [ρ'] at h1 h2
      have key : ∀ g, g ≠ f → ρ g = some b → b' = some b → False := by
        intro g hgf hg hb
        rcases hb' with e | ⟨e, _⟩
        · rw [e] at hb; exact hgf (hJ.apart.inj g f b hg hb)
        · rw [e] at hb; cases hb; have := (hJ.apart.fam g _ hg).2; omega
      split at h1 <;> split at h2
      · simp_all
      · split at h2
        · cases h2
        · rename_i e1 e2 e3; exact (key g' e3 h2 h1).elim
      · split at h1
        · cases h1
        · rename_i e1 e2 e3; exact (key g e3 h1 h2).elim
      · split at h1
        · cases h1
        · split at h2
          · cases h2
          · exact hJ.apart.inj g g' b h1 h2
    · simp only [ρ'] at h1
      split at h1
      · rcases hb' with e | ⟨e, _⟩
        · rw [e] at h1; exact hJ.apart.sep f k b h1 h2
        · rw [e] at h1; cases h1; have := hJ.apart.box k _ h2; omega
      · split at h1
        · cases h1
        · exact hJ.apart.sep g k b h1 h2
  have hJ' := hJ.extE hE hA hos htp hout hsize (fun b hp => hkeep b (Nat.lt_of_lt_of_le (hJ.protlt b hp) hJ.grown) (fun e => (hJ.apart.fam f b e.symm).1 hp))
    (fun k b hk => hkeep b (hJ.apart.box k b hk) (fun e => hJ.apart.sep f k b e.symm hk))
  refine ⟨v', w', ρ', hrun, hJ', .cell _ _ ⟨raws ++ nraws, ?_, ?_⟩, fun g hg hne => ?_⟩
  · simp only [ρ', if_true]; exact ho'
  · have c1 := hr.mono hpure
    have c2 := hnr.mono hpure
    refine ⟨by simp [c1.len, c2.len], fun u hu => ?_, fun j u c hu hc => ?_⟩
    · rcases List.mem_append.1 hu with h' | h'
      · exact c1.one u h'
      · exact c2.one u h'
    · rcases Nat.lt_or_ge j raws.length with hj | hj
      · rw [List.getElem?_append_left hj] at hu
        rw [List.getElem?_append_left (by rw [← c1.len]; exact hj)] at hc
        exact c1.rep j u c hu hc
      · rw [List.getElem?_append_right hj] at hu
        rw [List.getElem?_append_right (by rw [← c1.len]; exact hj), ← c1.len] at hc
        exact c2.rep _ u c hu hc
  · simp only [ρ']
    rw [if_neg hne]
    split
    · rfl
    · exact hg

theorem exec_append {ρv : Operand → Value} {dst : Option Tmp} {s x : Operand} {t tx ty : TypeId} {pos : String} {after : Array Edge} {guard : Option (Nat × Bool)} {v : Value} {w' : World}
    (hrun : (Builtin.append_ #[t, tx] ty #[ρv s, ρv x]).run P w = .ok v w') :
    (execOp ρv ⟨dst, .call { callee := .builtin .append, args := #[s, x], argTypes := #[t, tx] }, ty, pos, after, guard⟩).run P w = .ok (.value v) w' := by
  simp [execOp, resolve, invoke, builtin, hrun]

theorem wr_weaken {o : Oper} {out : AV} {env : Nat → AV} (s : Nat) : wr o out env s = putE env o.dst out s ∨ wr o out env s = .bad := by
  unfold wr
  cases hd : o.dst with
  | none =>
    cases hc : cons o with
    | none => exact .inl rfl
    | some t => simp only [putE]; split; exact .inr rfl; exact .inl rfl
  | some d =>
    cases hc : cons o with
    | none => exact .inl rfl
    | some t =>
      simp only [putE]
      split
      · exact .inl rfl
      · split
        · exact .inr rfl
        · exact .inl rfl

theorem put_putE (st : St) (d : Option Nat) (x : AV) : st.put d x = ⟨putE st.env d x, st.box⟩ := by cases d <;> rfl

/-- ONE QUIET OPERATION, wherever it stands in the drawn order. -/
theorem dq_sound {o : Oper} {rid : Nat} {ops : Array Oper} {out : AV} {nd : Option (Nat × Nat)} {next : Act → World → Prop} {Q : Exit → Act → World → Prop} (hJ : J C st a w ρ β)
    (hid : ∀ f, id ≤ f → f < id + 64 → ρ f = none) (hd : dstOk C.N o.dst) (h : dq P rid id ops st.box st.env o (fun x y => x = out ∧ y = nd))
    (hnd : ∀ k f, nd = some (k, f) → ∀ t, cons o = some t → (∀ s, s ≠ t → f ∉ (st.env s).labs) ∧ ∀ i xs, st.box i = some xs → ∀ x ∈ xs, f ∉ x.labs)
    (hn : ∀ v w' ρ', J C ⟨wr o out st.env, st.box⟩ (a.put o.dst v) w' ρ' β → (∀ g, ρ g = none → ¬ (id ≤ g ∧ g < id + 64) → ρ' g = none) → next (a.put o.dst v) w') : o.wp P a w next Q := by
  have fin : ∀ v w' ρ', J C st a w' ρ' β → AVRep w' ρ' β v out → (∀ g, ρ g = none → ¬ (id ≤ g ∧ g < id + 64) → ρ' g = none) → next (a.put o.dst v) w' := by
    intro v w' ρ' hJ' hv hg
    refine hn v w' ρ' ?_ hg
    have h1 := hJ'.put hd hv
    rw [put_putE] at h1
    exact h1.weaken (fun s => wr_weaken s)
  have newg : ∀ {w' ρ'}, NewFam w ρ w' ρ' id → ∀ g, ρ g = none → ¬ (id ≤ g ∧ g < id + 64) → ρ' g = none := by
    intro w' ρ' hN g hg hne
    cases hr : ρ' g with
    | none => rfl
    | some b =>
      rcases hN.new g b hr with e | e
      · rw [hg] at e; cases e
      · exact (hne ⟨e.1, e.2.1⟩).elim
  unfold Oper.wp
  obtain ⟨dst, op, ty, pos, after, guard⟩ := o
  simp only at h hd fin hnd hn
  unfold dq at h
  split at h
  · rename_i n args ts hop
    simp only at hop
    subst hop
    obtain ⟨r, hAt, ⟨hlab, hfl⟩, rfl, rfl⟩ := h
    obtain ⟨⟨fn, h1, h2, h3⟩, hcall⟩ := hAt
    rw [run_call h1 h2 h3 rfl]
    let L := args.toList.flatMap fun x => (evAV st.env x).labs
    have hcall := hcall w (args.map a.eval) (Bad (ρ.drop (inL L)) β) (by
      rintro b (⟨f, hf⟩ | ⟨i, hi⟩)
      · have : ρ f = some b := by revert hf; unfold Fam.drop; split <;> simp
        exact (hJ.apart.fam f b this).2
      · exact hJ.apart.box i b hi) (by simp) (fun j u x hu hx => by
      simp at hu hx
      obtain ⟨y, hy, rfl⟩ := hu
      obtain ⟨y', hy', rfl⟩ := hx
      rw [hy] at hy'; cases hy'
      refine arg_av hJ.apart (inL L) (hJ.ev y) (fun f hf => ?_)
      simp only [inL, List.contains_iff_mem, L, List.mem_flatMap]
      exact ⟨y, List.mem_of_getElem? (l := args.toList) (i := j) (by simpa using hy), hf⟩)
    refine hcall.mono ?_
    rintro e w' ⟨v, ρr, rfl, hb, hρ1, hρ2, hv⟩
    have hlab' : ∀ f ∈ r.labs, f < 64 := by
      rw [List.all_eq_true] at hlab
      intro f hf; simpa using hlab f hf
    have hN := join_new hJ.apart (id := id) hid hρ1 hρ2
    refine fin v w' _ (hJ.grow hb hN) (shift_av (beta0_even _) hv hlab' ?_) (newg hN)
    rcases Bool.or_eq_true _ _ ▸ hfl with hf | hf
    · exact .inl hf
    · right
      have hL : L = [] := by simpa [L] using hf
      intro b hnb
      rw [bad_beta0] at hnb
      rintro (⟨f, hf⟩ | ⟨i, hi⟩)
      · unfold Fam.join at hf
        split at hf
        · exact hnb (.inl ⟨_, hf⟩)
        · refine hnb (.inr (.inl ⟨f, ?_⟩))
          simp only [Fam.drop, hL]
          rw [if_neg (by simp [inL])]
          exact hf
      · exact hnb (.inr (.inr ⟨i, hi⟩))
  · rename_i args ts hop
    simp only at hop
    subst hop
    split at h
    · rename_i s x t tx hargs hts
      have ea : args = #[s, x] := by apply Array.ext'; simpa using hargs
      have et : ts = #[t, tx] := by apply Array.ext'; simpa using hts
      subst ea; subst et
      split at h
      · rename_i e ht
        split at h
        · rename_i sz by_ he
          obtain ⟨hpos, h⟩ := h
          obtain ⟨i, z, hi, hz, hzs, rfl, rfl⟩ := eInfo_some he
          split at h
          · rename_i m news hsrc
            obtain ⟨nraws, hs, hnr⟩ := src_rep hpos (hJ.ev x) hsrc
            split at h
            · rename_i f sz' n cells hsv
              split at h
              · rename_i c hc
                split at h
                · rename_i k hk
                  obtain ⟨⟨hsz, h63, hby, hrid⟩, rfl, rfl⟩ := h
                  subst hsz
                  have hsr := hJ.ev s
                  simp only [St.ev, hsv] at hsr
                  obtain ⟨v', w', ρ', hrun, hJ', hv, hg⟩ := append_ext (ty := ty) (f2 := id) hJ ht hi hz hzs (rep_cell hsr) (.inr (hid id (Nat.le_refl _) (by omega))) hs hnr h63 hby
                  rw [exec_append hrun]
                  obtain ⟨hn1, hn2⟩ := hnd k f rfl c hc
                  refine hn v' w' ρ' ?_ (fun g h1 h2 => hg g h1 (fun e => h2 ⟨by omega, by omega⟩))
                  have h1 := hJ'.put hd hv
                  rw [put_putE] at h1
                  have hbox : (st.poison (inL [f])).box = st.box := by
                    funext i
                    simp only [St.poison]
                    cases hb : st.box i with
                    | none => rfl
                    | some xs =>
                      simp only [Option.map_some, Option.some.injEq]
                      conv => rhs; rw [← List.map_id xs]
                      exact List.map_congr_left fun x hx => AC.poison_eq fun g hg => by
                        have := hn2 i xs hb x hx
                        simp only [inL, List.contains_cons, List.contains_nil, Bool.or_false, beq_eq_false_iff_ne]
                        intro e; subst e; exact this hg
                  rw [hbox] at h1
                  refine h1.weaken (fun s' => ?_)
                  unfold wr
                  rw [hc]
                  have hpo : ∀ s', s' ≠ c → (st.poison (inL [f])).env s' = st.env s' := by
                    intro s' hne
                    simp only [St.poison]
                    exact AV.poison_eq fun g hg => by
                      have := hn1 s' hne
                      simp only [inL, List.contains_cons, List.contains_nil, Bool.or_false, beq_eq_false_iff_ne]
                      intro e; subst e; exact this hg
                  cases dst with
                  | none =>
                    simp only [putE]
                    split
                    · exact .inr rfl
                    · rename_i hne; exact .inl (hpo s' hne).symm
                  | some d =>
                    simp only [putE]
                    split
                    · exact .inl rfl
                    · split
                      · exact .inr rfl
                      · rename_i hne; exact .inl (hpo s' hne).symm
                · exact h.elim
              · exact h.elim
            · rename_i hsv
              obtain ⟨⟨h63, hby⟩, rfl, rfl⟩ := h
              have hsr := hJ.ev s
              simp only [St.ev, hsv] at hsr
              obtain ⟨a0, hz0⟩ := rep_cell hsr
              have hown : ACRep w ρ β (a.eval s) (.own id i.size 0 []) := ⟨[], ⟨by simp, .inl ⟨a0, hz0, rfl⟩⟩, ⟨rfl, by simp, by simp⟩⟩
              have hid0 := hid id (Nat.le_refl _) (by omega)
              have ho : OwnRow w none i.size 0 (a.eval s) [] := ⟨by simp, .inl ⟨a0, hz0, rfl⟩⟩
              obtain ⟨v', w', b', hrun, ho', hos, htp, hout, hsize, hkeep, hb'⟩ := append_run (ty := ty) ht hi hz hzs ho hs (by omega) (by rw [Nat.zero_add]; exact hby)
              have hBl : Below w.heap.size w w' := ⟨hos, htp, hout, hsize, fun k hk => hkeep k hk (by simp)⟩
              let ρ' : Fam := fun g => if g = id then b' else ρ g
              have hN : NewFam w ρ w' ρ' id := by
                refine ⟨fun g b hg => ?_, fun g b hg => ?_, fun g g' b h1 h2 => ?_⟩
                · have : g ≠ id := fun e => by rw [e, hid0] at hg; cases hg
                  simp [ρ', this, hg]
                · simp only [ρ'] at hg
                  split at hg
                  · rename_i e; subst e
                    rcases hb' with e | ⟨e, hlt⟩
                    · rw [e] at hg; cases hg
                    · rw [e] at hg; cases hg
                      exact .inr ⟨Nat.le_refl _, by omega, Nat.le_refl _, hlt⟩
                  · exact .inl hg
                · simp only [ρ'] at h1 h2
                  have key : ∀ g, ρ g = some b → b' = some b → False := by
                    intro g hg hb
                    rcases hb' with e | ⟨e, _⟩
                    · rw [e] at hb; cases hb
                    · rw [e] at hb; cases hb; have := (hJ.apart.fam g _ hg).2; omega
                  split at h1 <;> split at h2
                  · simp_all
                  · exact (key g' h2 h1).elim
                  · exact (key g h1 h2).elim
                  · exact hJ.apart.inj g g' b h1 h2
              have hJ' := hJ.grow hBl hN
              have E := ext_of_grow (β := β) hJ.apart hBl hN
              rw [exec_append hrun]
              refine fin v' w' ρ' hJ' (.cell _ _ ⟨[] ++ nraws, ?_, ?_⟩) (newg hN)
              · simp only [ρ', if_true]; rw [Nat.zero_add] at ho'; exact ho'
              · rw [List.nil_append]; exact hnr.mono E.pure
            · exact h.elim
          · exact h.elim
        · exact h.elim
      · exact h.elim
    · exact h.elim
  · rename_i h1 h2
    split at h
    · rename_i out' ho
      obtain ⟨rfl, rfl⟩ := h
      obtain ⟨v, w', ρ', hrun, hb, hN, hv⟩ := qval_run hJ.apart (o := ⟨dst, op, ty, pos, after, guard⟩) (id := id) (fun _ => hid) hJ.box (fun x => hJ.ev x) ho
      rw [hrun]
      exact fin v w' ρ' (hJ.grow hb hN) hv (newg hN)
    · exact h.elim
end
end Go.Fw
