/- All operations, in the order of the text; regions; code; functions. -/
import Derived.Test.YtlcmbjhppkddlaaFwI
namespace Go.Fw
open Go.RowKit (Below)

def eInfo (P : Program) (e : TypeId) : Option (Nat × Nat) :=
  match P.info? e with
  | some i => match i.zero with
    | some z => if z.cells.size = i.size then some (i.size, i.bytes) else none
    | none => none
  | none => none

def srcA (P : Program) (tx : TypeId) (sz : Nat) (x : AV) : Option (Nat × List CV) :=
  match P.underlying tx, x with
  | some (.slice _), .cell c => match c.sl? with
    | some (m, cells) => if cells.length = m * sz then some (m, cells) else none
    | none => none
  | some .string, .cell (.p (.c (.string s))) => if sz = 1 then some (s.size, bytesCV s.data.toList) else none
  | _, _ => none

def repC (n : Nat) (zero : List CV) : List CV := match n with | 0 => [] | n + 1 => zero ++ repC n zero

def callK (P : Program) (id n : Nat) (args : List Operand) (st : St) (K : AV → St → Prop) : Prop :=
  ∃ r, At P n (args.map fun x => (evAV st.env x).arg) r ∧ r.labs.all (fun f => decide (f < 64)) = true ∧
    K (r.shift id) (if r.flat then st.retire (isId id) else (st.retire (isId id)).retire (inL (args.flatMap fun x => (evAV st.env x).labs)))

def appendK (P : Program) (id : Nat) (t tx : TypeId) (s x : AV) (st : St) (K : AV → St → Prop) : Prop :=
  match P.underlying t with
  | some (.slice e) =>
    match eInfo P e with
    | some (sz, by_) =>
      0 < sz ∧
      match srcA P tx sz x with
      | some (m, news) =>
        match s with
        | .cell (.own f sz' n cells) => (sz' = sz ∧ n + m ≤ 1099511627776 ∧ (n + m) * by_ ≤ 140737488355328) ∧ K (.cell (.own f sz (n + m) (cells ++ news))) (st.poison (inL [f]))
        | .cell .z => (m ≤ 1099511627776 ∧ m * by_ ≤ 140737488355328) ∧ K (.cell (.own id sz m news)) (st.retire (isId id))
        | _ => False
      | none => False
    | none => False
  | _ => False

def storeK (P : Program) (t : TypeId) (addr val : Operand) (st : St) (K : AV → St → Prop) : Prop :=
  match evAV st.env addr with
  | .cell (.ptr b off) =>
    match st.box b, (evAV st.env val).cells? with
    | some xs, some ys => (szOf P t = some ys.length ∧ off + ys.length ≤ xs.length) ∧ K .bad (st.setBox b (setRun xs off ys))
    | _, _ => False
  | .cell (.epo f cells pos) =>
    match (evAV st.env val).labs with
    | [] =>
      match ((evAV st.env val).cells?).bind toCVs with
      | some cs => (szOf P t = some cs.length ∧ pos + cs.length ≤ cells.length) ∧ K .bad (st.upd f pos cs)
      | none => False
    | l =>
      inL l f = false ∧
      match (((evAV st.env val).retire (inL l)).cells?).bind toCVs with
      | some cs => (szOf P t = some cs.length ∧ pos + cs.length ≤ cells.length) ∧ K .bad ((st.retire (inL l)).upd f pos cs)
      | none => False
  | _ => False

def makeK (P : Program) (id : Nat) (t : TypeId) (l c : AV) (st : St) (K : AV → St → Prop) : Prop :=
  match P.underlying t, l, c with
  | some (.slice e), .cell (.p (.c (.int _ n))), .cell (.p (.c (.int _ m))) =>
    match eInfo P e, (zeroA P e).bind toCVs with
    | some (sz, by_), some zero => (zero.length = sz ∧ 0 ≤ n ∧ n ≤ m ∧ (by_ : Int) * m ≤ 281474976710656 ∧ m ≤ 1099511627776) ∧ K (.cell (.own id sz n.toNat (repC n.toNat zero))) (st.retire (isId id))
    | _, _ => False
  | _, _, _ => False

/-- A conversion of a slice of bytes to its own type. -/
def selfB (P : Program) (src dst : TypeId) : Bool := src == dst && match P.underlying src with
  | some (.slice e) => match P.underlying e with
    | some (.int .u8) => true
    | _ => false
  | _ => false

/-- ONE OPERATION IN THE ORDER OF THE TEXT. -/
def fop (P : Program) (id : Nat) (o : Op) (st : St) (K : AV → St → Prop) : Prop :=
  match o with
  | .call { callee := .value (.func n), args := args, argTypes := _ } => callK P id n args.toList st K
  | .call { callee := .builtin .append, args := args, argTypes := ts } =>
    match args.toList, ts.toList with
    | [s, x], [t, tx] => appendK P id t tx (evAV st.env s) (evAV st.env x) st K
    | _, _ => False
  | .store t a v => storeK P t a v st K
  | .box _ v => match (evAV st.env v).cells? with
    | some xs => K (.cell (.ptr id 0)) ((st.unbox id).setBox id (xs.map (·.unbox id)))
    | none => False
  | .alloc e => match zeroA P e with
    | some xs => K (.cell (.ptr id 0)) ((st.unbox id).setBox id xs)
    | none => False
  | .makeSlice t l c => makeK P id t (evAV st.env l) (evAV st.env c) st K
  | .convert src dst x => if selfB P src dst = true then (match evAV st.env x with
      | .cell (.own f sz n cells) => 0 < n ∧ K (.cell (.own f sz n cells)) (st.poison (inL [f]))
      | _ => False) else
    match qconv P id src dst (evAV st.env x) with
    | some out =>
      if out.isC then K out st else
      match qconv P id src dst ((evAV st.env x).retire (isId id)) with
      | some out' => K out' (st.retire (isId id))
      | none => False
    | none => False
  | .buildSlice t len parts =>
    let st' := st.retire (fun f => isId id f || inL (parts.toList.flatMap fun p => (evAV st.env p.2).labs) f)
    match qbuildSlice P id t len parts.toList (evAV st'.env) with
    | some out => K out st'
    | none => False
  | op => match qval P id (evAV st.env) st.box op with
    | some out => K out st
    | none => False

theorem ev_retire (st : St) (F : Nat → Bool) (x : Operand) : evAV (st.retire F).env x = (evAV st.env x).retire F := by
  cases x with
  | tmp t => rfl
  | const v =>
    simp only [evAV, constAV]
    split <;> try rfl
    split
    · simp only [AV.retire, List.map_map]
      congr 1
      apply List.map_congr_left
      intro v _
      simp only [Function.comp, constAC]
      split <;> rfl
    · rfl
  | global g => rfl
  | func f => rfl

theorem isId_none {ρ : Fam} {id : Nat} : ∀ f, id ≤ f → f < id + 64 → (ρ.drop (isId id)) f = none := by
  intro f h1 h2
  simp [Fam.drop, isId, h1, h2]

theorem run_call {P : Program} {ρv : Operand → Value} {n : FuncId} {args : Array Operand} {ts : Array TypeId} {dst : Option Tmp} {ty : TypeId} {pos : String} {after : Array Edge} {guard : Option (Nat × Bool)}
    {fn : Func} (h1 : P.funcs[n]? = some fn) (h2 : (fn.name == "runtime.NumGoroutine") = false) (h3 : fn.body.isNone = false) (hf : ρv (.func n) = .func (.func n) #[] #[]) (w : World) :
    (execOp ρv ⟨dst, .call { callee := .value (.func n), args := args, argTypes := ts }, ty, pos, after, guard⟩).run P w = .ok (.enter n (args.map ρv)) w := by
  have h2' : ¬ fn.name = "runtime.NumGoroutine" := by simpa using h2
  have h3' : ¬ fn.body = none := by intro e; rw [e] at h3; simp at h3
  simp [execOp, resolve, Deferred.ofValue, hf, invoke, callFunc, h1, h2', h3']

theorem src_rep {P : Program} {w : World} {ρ β : Fam} {tx : TypeId} {sz : Nat} (hpos : 0 < sz) {v : Value} {x : AV} (hv : AVRep w ρ β v x) {m : Nat} {news : List CV} (h : srcA P tx sz x = some (m, news)) :
    ∃ raws, Src P sz tx v m raws w ∧ CReps w (Bad ρ β) raws news := by
  unfold srcA at h
  split at h
  · rename_i e c hu
    split at h
    · rename_i m' cells hsl
      split at h
      · rename_i hlen
        cases h
        obtain ⟨a, cap, raws, rfl, hn, hm, hr, hc⟩ := sl_rep (rep_cell hv) hsl
        refine ⟨raws, ?_, hr⟩
        cases a with
        | some a => exact Src.ofSlice w hu a m cap raws (by rw [hr.len, hlen]) (fun j u hj => by obtain ⟨y, e, h⟩ := hc j u hj; cases e; exact h) hr.one
        | none =>
          cases hraw : raws with
          | cons u r => rw [hraw] at hc; obtain ⟨y, e, _⟩ := hc 0 u rfl; cases e
          | nil =>
            have hm0 : m = 0 := by
              have := hr.len; rw [hraw, hlen] at this
              rcases Nat.mul_eq_zero.1 this.symm with e | e
              · exact e
              · omega
            subst hm0
            exact Src.ofNil w hu cap
      · cases h
    · cases h
  · rename_i s hu
    split at h
    · rename_i hsz
      cases h
      subst hsz
      cases rep_c hv
      refine ⟨byteCells s, Src.ofString w hu s, by simp [byteCells, bytesCV], fun u hu => ?_, fun j u c hu hc => ?_⟩
      · simp [byteCells] at hu; obtain ⟨b, _, rfl⟩ := hu; rfl
      · simp [byteCells, bytesCV] at hu hc
        obtain ⟨b, hb1, rfl⟩ := hu
        obtain ⟨b', hb2, rfl⟩ := hc
        rw [hb1] at hb2; cases hb2
        exact .c _
    · cases h
  · cases h

section
variable {P : Program} {C : Cx} {st : St} {a : Act} {w : World} {ρ β : Fam} {id : Nat} {o : Oper} {K : AV → St → Prop} {next : Act → World → Prop} {Q : Exit → Act → World → Prop}

theorem callK_sound (hJ : J C st a w ρ β) {n : Nat} {args : Array Operand} (h : callK P id n args.toList st K) {dst : Option Tmp}
    (hn : ∀ out st' v w' ρ' β', K out st' → J C st' a w' ρ' β' → AVRep w' ρ' β' v out → next (a.put dst v) w') :
    (∃ fn, P.funcs[n]? = some fn ∧ (fn.name == "runtime.NumGoroutine") = false ∧ fn.body.isNone = false) ∧
    Calls P n (args.map a.eval) w fun
      | .returned v, w'' => next (a.put dst v) w''
      | .panicked chain, w'' => Q (.panic chain) a w''
      | .outgrown, _ => LetsOut Q := by
  obtain ⟨r, hAt, hlab, hK⟩ := h
  refine ⟨hAt.1, ?_⟩
  let L := args.toList.flatMap fun x => (evAV st.env x).labs
  have hcall := hAt.2 w (args.map a.eval) (Bad (ρ.drop (inL L)) β) (by
    rintro b (⟨f, hf⟩ | ⟨i, hi⟩)
    · have : ρ f = some b := by revert hf; unfold Fam.drop; split <;> simp
      exact (hJ.apart.fam f b this).2
    · exact hJ.apart.box i b hi) (by simp) (fun j u x hu hx => by
    simp at hu hx
    obtain ⟨y, hy, rfl⟩ := hu
    obtain ⟨y', hy', rfl⟩ := hx
    rw [hy] at hy'; cases hy'
    refine arg_av hJ.apart (inL L) (hJ.ev y) (fun f hf => ?_)
    simp only [inL, List.contains_iff_mem, L, List.mem_flatMap]
    exact ⟨y, List.mem_of_getElem? (l := args.toList) (i := j) (by simpa using hy), hf⟩)
  refine hcall.mono ?_
  rintro e w' ⟨v, ρr, rfl, hb, hρ1, hρ2, hv⟩
  have hlab' : ∀ f ∈ r.labs, f < 64 := by
    rw [List.all_eq_true] at hlab
    intro f hf; simpa using hlab f hf
  by_cases hflat : r.flat = true
  · rw [if_pos hflat] at hK
    have hJ1 := hJ.retire (isId id)
    have hN := join_new hJ1.apart (id := id) isId_none hρ1 hρ2
    exact hn _ _ v w' _ _ hK (hJ1.grow hb hN) (shift_av (beta0_even _) hv hlab' (.inl hflat))
  · rw [if_neg hflat] at hK
    have hJ1 := (hJ.retire (isId id)).retire (inL L)
    have hid : ∀ f, id ≤ f → f < id + 64 → ((ρ.drop (isId id)).drop (inL L)) f = none := by
      intro f h1 h2
      simp only [Fam.drop]
      split
      · rfl
      · simp [isId, h1, h2]
    have hN := join_new hJ1.apart hid hρ1 hρ2
    refine hn _ _ v w' _ _ hK (hJ1.grow hb hN) (shift_av (beta0_even _) hv hlab' (.inr fun b hnb => ?_))
    rw [bad_beta0] at hnb
    rintro (⟨f, hf⟩ | ⟨i, hi⟩)
    · unfold Fam.join at hf
      split at hf
      · exact hnb (.inl ⟨_, hf⟩)
      · refine hnb (.inr (.inl ⟨f, ?_⟩))
        simp only [Fam.drop] at hf ⊢
        split at hf
        · cases hf
        · rename_i e
          rw [if_neg e]
          split at hf
          · cases hf
          · exact hf
    · exact hnb (.inr (.inr ⟨i, hi⟩))

theorem eInfo_some {e sz by_ : Nat} (h : eInfo P e = some (sz, by_)) : ∃ i z, P.info? e = some i ∧ i.zero = some z ∧ z.cells.size = i.size ∧ i.size = sz ∧ i.bytes = by_ := by
  unfold eInfo at h
  split at h
  · rename_i i hi
    split at h
    · rename_i z hz
      split at h
      · rename_i hc
        cases h
        exact ⟨i, z, hi, hz, hc, rfl, rfl⟩
      · cases h
    · cases h
  · cases h

theorem appendK_sound (hJ : J C st a w ρ β) {t tx : TypeId} {s x : Operand} {ty : TypeId} (h : appendK P id t tx (evAV st.env s) (evAV st.env x) st K) {dst : Option Tmp}
    (hn : ∀ out st' v w' ρ' β', K out st' → J C st' a w' ρ' β' → AVRep w' ρ' β' v out → next (a.put dst v) w') :
    ∃ v w', (Builtin.append_ #[t, tx] ty #[a.eval s, a.eval x]).run P w = .ok v w' ∧ next (a.put dst v) w' := by
  unfold appendK at h
  split at h
  · rename_i e ht
    split at h
    · rename_i sz by_ he
      obtain ⟨hpos, h⟩ := h
      obtain ⟨i, z, hi, hz, hzs, rfl, rfl⟩ := eInfo_some he
      split at h
      · rename_i m news hsrc
        obtain ⟨nraws, hs, hnr⟩ := src_rep hpos (hJ.ev x) hsrc
        split at h
        · rename_i f sz' n cells hsv
          obtain ⟨⟨hsz, h63, hby⟩, hK⟩ := h
          subst hsz
          have hsr := hJ.ev s
          simp only [St.ev, hsv] at hsr
          obtain ⟨raws, ho, hr⟩ := rep_cell hsr
          obtain ⟨v', w', b', hrun, ho', hos, htp, hout, hsize, hkeep, hb'⟩ := append_run (ty := ty) ht hi hz hzs ho hs h63 hby
          refine ⟨v', w', hrun, ?_⟩
          have hne : ∀ b, ρ f = some b → ∀ x : Addr, ¬ Bad ρ β x.block → x.block ≠ b := fun b hb x hx e => hx (.inl ⟨f, by rw [e]; exact hb⟩)
          let ρ' : Fam := fun g => if g = f then b' else ρ g
          have hpure : ∀ (x : Addr) (u : Value), ¬ Bad ρ β x.block → w.cell? x = some u → ¬ Bad ρ' β x.block ∧ w'.cell? x = some u := by
            intro y u hy hu
            have hlt := lt_of_cell hu
            refine ⟨?_, (cell_of_heap (hkeep y.block hlt (fun e => hy (.inl ⟨f, e.symm⟩)))).trans hu⟩
            rintro (⟨g, hg⟩ | ⟨k, hk⟩)
            · simp only [ρ'] at hg
              split at hg
              · rcases hb' with e | ⟨e, _⟩
                · exact hy (.inl ⟨f, by rw [← e]; exact hg⟩)
                · rw [e] at hg; simp at hg; omega
              · exact hy (.inl ⟨g, hg⟩)
            · exact hy (.inr ⟨k, hk⟩)
          have hE : ExtE (inL [f]) w ρ β w' ρ' β := by
            refine ⟨hpure, fun g b hg hρ => ?_, fun k b h => h⟩
            have hgf : g ≠ f := by
              intro e; subst e; simp [inL] at hg
            refine ⟨by simp [ρ', hgf, hρ], hkeep b (hJ.apart.fam g b hρ).2 (fun e => hgf (hJ.apart.inj g f b hρ e.symm))⟩
          have hA : Apart w' C.prot ρ' β := by
            refine ⟨fun g b hg => ?_, fun k b hk => Nat.lt_of_lt_of_le (hJ.apart.box k b hk) hsize, fun g g' b h1 h2 => ?_, hJ.apart.injB, fun g k b h1 h2 => ?_⟩
            · simp only [ρ'] at hg
              split at hg
              · rcases hb' with e | ⟨e, hlt⟩
                · rw [e] at hg
                  have := hJ.apart.fam f b hg
                  exact ⟨this.1, by omega⟩
                · rw [e] at hg; cases hg
                  exact ⟨fun hp => by have := hJ.protlt _ hp; have := hJ.grown; omega, hlt⟩
              · have := hJ.apart.fam g b hg
                exact ⟨this.1, by omega⟩
            · simp only [ρ'] at h1 h2
              have key : ∀ g, g ≠ f → ρ g = some b → b' = some b → False := by
                intro g hgf hg hb
                rcases hb' with e | ⟨e, _⟩
                · rw [e] at hb; exact hgf (hJ.apart.inj g f b hg hb)
                · rw [e] at hb; cases hb; have := (hJ.apart.fam g _ hg).2; omega
              split at h1 <;> split at h2
              · simp_all
              · rename_i e1 e2; exact (key g' e2 h2 h1).elim
              · rename_i e1 e2; exact (key g e1 h1 h2).elim
              · exact hJ.apart.inj g g' b h1 h2
            · simp only [ρ'] at h1
              split at h1
              · rcases hb' with e | ⟨e, _⟩
                · rw [e] at h1; exact hJ.apart.sep f k b h1 h2
                · rw [e] at h1; cases h1; have := hJ.apart.box k _ h2; omega
              · exact hJ.apart.sep g k b h1 h2
          have hJ' := hJ.extE hE hA hos htp hout hsize (fun b hp => hkeep b (Nat.lt_of_lt_of_le (hJ.protlt b hp) hJ.grown) (fun e => (hJ.apart.fam f b e.symm).1 hp))
            (fun k b hk => hkeep b (hJ.apart.box k b hk) (fun e => hJ.apart.sep f k b e.symm hk))
          refine hn _ _ v' w' ρ' β hK hJ' (.cell _ _ ⟨raws ++ nraws, ?_, ?_⟩)
          · simp only [ρ', if_true]; exact ho'
          · have c1 := hr.mono hpure
            have c2 := hnr.mono hpure
            refine ⟨by simp [c1.len, c2.len], fun u hu => ?_, fun j u c hu hc => ?_⟩
            · rcases List.mem_append.1 hu with h' | h'
              · exact c1.one u h'
              · exact c2.one u h'
            · rcases Nat.lt_or_ge j raws.length with hj | hj
              · rw [List.getElem?_append_left hj] at hu
                rw [List.getElem?_append_left (by rw [← c1.len]; exact hj)] at hc
                exact c1.rep j u c hu hc
              · rw [List.getElem?_append_right hj] at hu
                rw [List.getElem?_append_right (by rw [← c1.len]; exact hj), ← c1.len] at hc
                exact c2.rep _ u c hu hc
        · rename_i hsv
          obtain ⟨⟨h63, hby⟩, hK⟩ := h
          have hsr := hJ.ev s
          simp only [St.ev, hsv] at hsr
          obtain ⟨a0, hz0⟩ := rep_cell hsr
          have ho : OwnRow w none i.size 0 (a.eval s) [] := ⟨by simp, .inl ⟨a0, hz0, rfl⟩⟩
          obtain ⟨v', w', b', hrun, ho', hos, htp, hout, hsize, hkeep, hb'⟩ := append_run (ty := ty) ht hi hz hzs ho hs (by omega) (by rw [Nat.zero_add]; exact hby)
          refine ⟨v', w', hrun, ?_⟩
          have hJ1 := hJ.retire (isId id)
          have hBl : Below w.heap.size w w' := ⟨hos, htp, hout, hsize, fun k hk => hkeep k hk (by simp)⟩
          let ρ1 := ρ.drop (isId id)
          let ρ' : Fam := fun g => if g = id then b' else ρ1 g
          have hid0 : ρ1 id = none := isId_none id (Nat.le_refl _) (by omega)
          have hN : NewFam w ρ1 w' ρ' id := by
            refine ⟨fun g b hg => ?_, fun g b hg => ?_, fun g g' b h1 h2 => ?_⟩
            · have : g ≠ id := fun e => by rw [e, hid0] at hg; cases hg
              simp [ρ', this, hg]
            · simp only [ρ'] at hg
              split at hg
              · rename_i e; subst e
                rcases hb' with e | ⟨e, hlt⟩
                · rw [e] at hg; cases hg
                · rw [e] at hg; cases hg
                  exact .inr ⟨Nat.le_refl _, by omega, Nat.le_refl _, hlt⟩
              · exact .inl hg
            · simp only [ρ'] at h1 h2
              have key : ∀ g, ρ1 g = some b → b' = some b → False := by
                intro g hg hb
                rcases hb' with e | ⟨e, _⟩
                · rw [e] at hb; cases hb
                · rw [e] at hb; cases hb; have := (hJ1.apart.fam g _ hg).2; omega
              split at h1 <;> split at h2
              · simp_all
              · exact (key g' h2 h1).elim
              · exact (key g h1 h2).elim
              · exact hJ1.apart.inj g g' b h1 h2
          have hJ' := hJ1.grow hBl hN
          have E := ext_of_grow (β := β) hJ1.apart hBl hN
          refine hn _ _ v' w' ρ' β hK hJ' (.cell _ _ ⟨[] ++ nraws, ?_, ?_⟩)
          · simp only [ρ', if_true]; rw [Nat.zero_add] at ho'; exact ho'
          · rw [List.nil_append]
            exact (hnr.mono (bad' := Bad ρ1 β) (fun x u hx hu => ⟨Bad_drop hx, hu⟩)).mono E.pure
        · exact h.elim
      · exact h.elim
    · exact h.elim
  · exact h.elim

theorem run_storeCells_box {w : World} {g off : Nat} {cur : Array Value} {e : TypeId} {fr : Nat × Nat} (hg : w.heap[g]? = some (.cells cur e fr)) (hfr : fr.2 = fr.1 ∨ cur.size ≤ fr.1) {vs : List Value}
    (hl : off + vs.length ≤ cur.size) (ho : ∀ v ∈ vs, v.oneCell' = true) : (storeCells ⟨g, off, none⟩ vs).run P w = .ok () (w.setCells g off vs) := by
  have := run_storeCells_cells (P := P) g off vs 0 w (fun j hj => by
    have : off + j < cur.size := by omega
    simp [World.cell?, hg, this]) (fun j hj => by
    have : off + j < cur.size := by omega
    simp only [World.frozen?, hg, Nat.add_zero]
    rcases hfr with h | h
    · simp; omega
    · simp; omega) ho
  rwa [Nat.add_zero] at this

theorem storeK_sound (hJ : J C st a w ρ β) {t : TypeId} {addr val : Operand} (h : storeK P t addr val st K) {dst : Option Tmp}
    (hn : ∀ out st' v w' ρ' β', K out st' → J C st' a w' ρ' β' → AVRep w' ρ' β' v out → next (a.put dst v) w') :
    ∃ w', (Instr.storeAt t (a.eval addr) (a.eval val)).run P w = .ok () w' ∧ next (a.put dst undef) w' := by
  unfold storeK at h
  split at h
  · rename_i b off hx
    split at h
    · rename_i xs ys hb hy
      obtain ⟨⟨hsz, hle⟩, hK⟩ := h
      have hxr := hJ.ev addr
      simp only [St.ev, hx] at hxr
      obtain ⟨g, hβ, hv⟩ := rep_cell hxr
      obtain ⟨g', raws, e, hβ', hp, hg, hl, ho, hr⟩ := hJ.box b xs hb
      rw [hβ] at hβ'; cases hβ'
      have hs : Seg w ρ β raws.toList xs := ⟨by simpa using hl, ho, fun j u x hu hx => hr j u x (by simpa using hu) hx⟩
      have hvs := cells_rep (hJ.ev val) hy
      have hlen : (a.eval val).cells.size = ys.length := by have := hvs.len; simpa using this
      refine ⟨_, ?_, hn _ _ undef _ ρ β hK (hJ.boxStore hβ hp hg hs hvs off) (.bad _)⟩
      rw [hv]
      simp only [Instr.storeAt, Instr.sureAddr, storeVar, Sem.run_bind, Sem.run_pure, Result.andThen_ok, run_sizeOf hsz, hlen]
      simp only [ne_eq, not_true_eq_false, if_false]
      simpa using run_storeCells_box (P := P) hg (.inl rfl) (by rw [Array.length_toList, hlen, hl]; exact hle) hvs.one
    · exact h.elim
  · rename_i f cells pos hx
    have main : ∀ (st1 : St) (ρ1 : Fam), J C st1 a w ρ1 β → ACRep w ρ1 β (a.eval addr) (.epo f cells pos) → ∀ acs cs, Seg w ρ1 β (a.eval val).cells.toList acs → toCVs acs = some cs → szOf P t = some cs.length → pos + cs.length ≤ cells.length →
        K .bad (st1.upd f pos cs) → ∃ w', (Instr.storeAt t (a.eval addr) (a.eval val)).run P w = .ok () w' ∧ next (a.put dst undef) w' := by
      intro st1 ρ1 hJ1 hep acs cs hvs hcs hsz hle hK
      obtain ⟨g, cur, e, fr, hv, hρ, hg, hfr, hlen, hr⟩ := hep
      have hcr := toCVs_rep hvs hcs
      have hl : (a.eval val).cells.size = cs.length := by have := hcr.len; simpa using this
      refine ⟨_, ?_, hn _ _ undef _ ρ1 β hK (hJ1.famStore hρ hg hcr pos) (.bad _)⟩
      rw [hv]
      simp only [Instr.storeAt, Instr.sureAddr, storeVar, Sem.run_bind, Sem.run_pure, Result.andThen_ok, run_sizeOf hsz, hl]
      simp only [ne_eq, not_true_eq_false, if_false]
      rw [ptr_add, Nat.zero_add]
      simpa using run_storeCells_box (P := P) hg hfr (by rw [Array.length_toList, hl]; omega) hcr.one
    have hxr := hJ.ev addr
    simp only [St.ev, hx] at hxr
    split at h
    · rename_i hlab
      cases hc : (evAV st.env val).cells? with
      | none => simp [hc] at h
      | some acs =>
        cases hcs : toCVs acs with
        | none => simp [hc, hcs] at h
        | some cs =>
          simp [hc, hcs] at h
          exact main st ρ hJ (rep_cell hxr) acs cs (cells_rep (hJ.ev val) hc) hcs h.1.1 h.1.2 h.2
    · obtain ⟨hf, h⟩ := h
      rename_i l hlab _
      have hJ1 := hJ.retire (inL (evAV st.env val).labs)
      have hvr := retire_av hJ.apart (inL (evAV st.env val).labs) (hJ.ev val)
      have hxr1 := retire_ac hJ.apart (inL (evAV st.env val).labs) _ _ (rep_cell hxr)
      simp only [AC.retire, hf, Bool.false_eq_true, if_false] at hxr1
      cases hc : ((evAV st.env val).retire (inL (evAV st.env val).labs)).cells? with
      | none => simp [hc] at h
      | some acs =>
        cases hcs : toCVs acs with
        | none => simp [hc, hcs] at h
        | some cs =>
          simp [hc, hcs] at h
          exact main _ _ hJ1 hxr1 acs cs (cells_rep hvr hc) hcs h.1.1 h.1.2 h.2
  · exact h.elim

theorem newBox (hJ : J C st a w ρ β) {vs : List Value} {xs : List AC} (hs : Seg w ρ β vs xs) (e : TypeId) :
    ∃ β', J C ((st.unbox id).setBox id (xs.map (·.unbox id))) a (w.alloc (.cells vs.toArray e)) ρ β' ∧ AVRep (w.alloc (.cells vs.toArray e)) ρ β' (.pointer (some ⟨w.heap.size, 0, none⟩)) (.cell (.ptr id 0)) := by
  have hJ1 := hJ.unbox id
  let β1 := β.drop (· == 2 * id)
  have h0 : β1 (2 * id) = none := by simp [β1, Fam.drop]
  let β' : Fam := fun i => if i = 2 * id then some w.heap.size else β1 i
  have hBl : Below w.heap.size w (w.alloc (.cells vs.toArray e)) := (Below.refl _ _).alloc (Nat.le_refl _) _
  have E : Ext w ρ β1 (w.alloc (.cells vs.toArray e)) ρ β' := by
    refine ⟨fun x u hx hu => ⟨?_, (cell_of_heap (hBl.block _ (lt_of_cell hu))).trans hu⟩, fun f b _ hf => ⟨hf, hBl.block b (hJ1.apart.fam f b hf).2⟩, fun i b hi => ?_⟩
    · rintro (⟨f, hf⟩ | ⟨i, hi⟩)
      · exact hx (.inl ⟨f, hf⟩)
      · simp only [β'] at hi
        split at hi
        · have h1 := lt_of_cell hu; simp only [Option.some.injEq] at hi; omega
        · exact hx (.inr ⟨i, hi⟩)
    · have : i ≠ 2 * id := fun e => by rw [e, h0] at hi; cases hi
      simp [β', this, hi]
  have hsz : (w.alloc (.cells vs.toArray e)).heap.size = w.heap.size + 1 := by simp
  refine ⟨β', ⟨hJ.size, hJ.defers, hJ.os, hJ.tape, hJ.output, by rw [hsz]; have := hJ.grown; omega, fun b hb => ?_, hJ.protlt, fun b hb => ?_, ⟨fun f b hf => ?_, fun i b hi => ?_, hJ.apart.inj, fun i k b h1 h2 => ?_, fun f i b hf hi => ?_⟩, fun s => E.av (hJ1.env s), fun i ys hy => ?_⟩, .cell _ _ ⟨w.heap.size, by simp [β'], rfl⟩⟩
  · rw [hBl.block b (Nat.lt_of_lt_of_le (hJ.protlt b hb) hJ.grown)]; exact hJ.kept b hb
  · have := hJ1.phan b hb
    simp only [β']
    rw [if_neg (by omega)]; exact this
  · have := hJ.apart.fam f b hf; exact ⟨this.1, by omega⟩
  · simp only [β'] at hi
    split at hi
    · cases hi; omega
    · have := hJ1.apart.box i b hi; omega
  · simp only [β'] at h1 h2
    split at h1 <;> split at h2
    · omega
    · cases h1; have := hJ1.apart.box k _ h2; omega
    · cases h2; have := hJ1.apart.box i _ h1; omega
    · exact hJ1.apart.injB i k b h1 h2
  · simp only [β'] at hi
    split at hi
    · cases hi; have := (hJ.apart.fam f _ hf).2; omega
    · exact hJ1.apart.sep f i b hf hi
  · simp only [St.setBox] at hy
    split at hy
    · rename_i hi
      subst hi
      cases hy
      refine ⟨w.heap.size, vs.toArray, e, by simp [β'], fun hp => by have := hJ.protlt _ hp; have := hJ.grown; omega, heap_alloc_new w _, by simpa using hs.len, by simpa using hs.one, fun j u x hu hx => ?_⟩
      rw [List.getElem?_map] at hx
      cases hj : xs[j]? with
      | none => simp [hj] at hx
      | some y => simp [hj] at hx; subst hx; exact E.ac (unbox_ac i u y (hs.rep j u y (by simpa using hu) hj))
    · rename_i hi
      obtain ⟨g, raws, e', h1, h2, h3, h4, h5, h6⟩ := hJ1.box i ys hy
      refine ⟨g, raws, e', ?_, h2, by rw [hBl.block g (hJ1.apart.box _ g h1)]; exact h3, h4, h5, fun j u x hu hx => E.ac (h6 j u x hu hx)⟩
      simp only [β']
      rw [if_neg (by omega)]; exact h1

theorem zero_toCVs {zs : List AC} {z : List Value} (hs : Seg w ρ β z zs) {cs : List CV} (hc : toCVs zs = some cs) : ∀ n, CReps w (Bad ρ β) (repV n z) (repC n cs)
  | 0 => ⟨rfl, by simp [repV], by simp [repV]⟩
  | n + 1 => by
    have h1 := toCVs_rep hs hc
    have h2 := zero_toCVs hs hc n
    refine ⟨by simp [repV, repC, h1.len, h2.len], fun u hu => ?_, fun j u c hu hc => ?_⟩
    · rcases List.mem_append.1 hu with h' | h'
      · exact h1.one u h'
      · exact h2.one u h'
    · rw [repV] at hu
      rw [repC] at hc
      rcases Nat.lt_or_ge j z.length with hj | hj
      · rw [List.getElem?_append_left hj] at hu
        rw [List.getElem?_append_left (by rw [← h1.len]; exact hj)] at hc
        exact h1.rep j u c hu hc
      · rw [List.getElem?_append_right hj] at hu
        rw [List.getElem?_append_right (by rw [← h1.len]; exact hj), ← h1.len] at hc
        exact h2.rep _ u c hu hc

theorem repV_take (z : List Value) : ∀ (n m : Nat), n ≤ m → (repV m z).take (n * z.length) = repV n z
  | 0, m, _ => by simp [repV]
  | n + 1, 0, h => by omega
  | n + 1, m + 1, h => by
    rw [repV, repV, Nat.succ_mul, Nat.add_comm, List.take_append]
    rw [List.take_of_length_le (by omega), Nat.add_sub_cancel_left, repV_take z n m (by omega)]

theorem makeK_sound (hJ : J C st a w ρ β) {t : TypeId} {l c : Operand} (h : makeK P id t (evAV st.env l) (evAV st.env c) st K) {dst : Option Tmp}
    (hn : ∀ out st' v w' ρ' β', K out st' → J C st' a w' ρ' β' → AVRep w' ρ' β' v out → next (a.put dst v) w') :
    ∃ v w', (Instr.makeSlice t (a.eval l) (a.eval c)).run P w = .ok v w' ∧ next (a.put dst v) w' := by
  unfold makeK at h
  split at h
  · rename_i e k n k' m ht hl hc
    split at h
    · rename_i sz by_ zero he hz
      obtain ⟨⟨h0, h1, h2, h3, h4⟩, hK⟩ := h
      obtain ⟨i, z, hi, hz', hzs, rfl, rfl⟩ := eInfo_some he
      cases hza : zeroA P e with
      | none => simp [hza] at hz
      | some zs =>
        simp [hza] at hz
        have hJ1 := hJ.retire (isId id)
        obtain ⟨i', z', hi', hz'', hs⟩ := zeroA_some hza w (ρ.drop (isId id)) β
        rw [hi] at hi'; cases hi'
        rw [hz'] at hz''; cases hz''
        have hlr := hJ.ev l
        have hcr := hJ.ev c
        simp only [St.ev, hl] at hlr
        simp only [St.ev, hc] at hcr
        have e1 := rep_c hlr
        have e2 := rep_c hcr
        have hrun := run_make (P := P) w t e i z ht hi hz' k k' n m h1 h2 h3 (by omega)
        have hms : (madeCells z.cells (m.toNat * i.size)).toList = repV m.toNat z.cells.toList := by
          rw [repV_range]; simp only [hzs]; simp [madeCells, hzs]
        have hN := newOwn (β := β) (w' := w.alloc (.cells (madeCells z.cells (m.toNat * i.size)) e)) hJ1.apart (id := id) isId_none rfl rfl rfl rfl (.inl rfl) (cap := m.toNat) (n := n.toNat) (sz := i.size)
          (size_madeCells _ _) (by omega) (by unfold maxLen; omega) (cells := repC n.toNat zero) (by
            rw [hms]
            have : n.toNat * i.size = n.toNat * z.cells.toList.length := by rw [Array.length_toList, hzs]
            rw [this, repV_take _ _ _ (by omega)]
            exact zero_toCVs hs hz _)
        refine ⟨_, _, by rw [e1, e2]; exact hrun, hn _ _ _ _ _ β hK (hJ1.grow hN.1 hN.2.1) (.cell _ _ hN.2.2)⟩
    · exact h.elim
  · exact h.elim

/-- ONE OPERATION IS SOUND. -/
theorem selfB_spec {src dst : TypeId} (h : selfB P src dst = true) : src = dst ∧ ∃ e, P.underlying src = some (.slice e) ∧ P.underlying e = some (.int .u8) := by
  unfold selfB at h
  simp only [Bool.and_eq_true, beq_iff_eq] at h
  obtain ⟨rfl, h⟩ := h
  refine ⟨rfl, ?_⟩
  split at h
  · rename_i e he
    split at h
    · rename_i he'; exact ⟨e, he, he'⟩
    · cases h
  · cases h

/-- A block of a family turns, behind the back of all that leads to it. -/
theorem J.turn (hJ : J C st a w ρ β) {f g : Nat} (hρ : ρ f = some g) {w' : World} (hos : w'.os = w.os) (htp : w'.tape = w.tape) (hout : w'.output = w.output) (hsize : w'.heap.size = w.heap.size)
    (hkeep : ∀ k, k ≠ g → w'.heap[k]? = w.heap[k]?) : J C (st.poison (inL [f])) a w' ρ β ∧ ∀ {raws : List Value} {cells : List CV}, CReps w (Bad ρ β) raws cells → CReps w' (Bad ρ β) raws cells := by
  have hpure : ∀ (x : Addr) (u : Value), ¬ Bad ρ β x.block → w.cell? x = some u → ¬ Bad ρ β x.block ∧ w'.cell? x = some u := by
    intro y u hy hu
    exact ⟨hy, (cell_of_heap (hkeep y.block (fun e => hy (.inl ⟨f, by rw [e]; exact hρ⟩)))).trans hu⟩
  have hE : ExtE (inL [f]) w ρ β w' ρ β := by
    refine ⟨hpure, fun k b hk hb => ⟨hb, hkeep b (fun e => ?_)⟩, fun k b h => h⟩
    subst e
    have := hJ.apart.inj k f b hb hρ
    subst this
    simp [inL] at hk
  have hA : Apart w' C.prot ρ β := ⟨fun k b hk => by rw [hsize]; exact hJ.apart.fam k b hk, fun k b hk => by rw [hsize]; exact hJ.apart.box k b hk, hJ.apart.inj, hJ.apart.injB, hJ.apart.sep⟩
  refine ⟨hJ.extE hE hA hos htp hout (Nat.le_of_eq hsize.symm) (fun b hp => hkeep b (fun e => (hJ.apart.fam f g hρ).1 (e ▸ hp))) (fun k b hk => hkeep b (fun e => hJ.apart.sep f k g hρ (e ▸ hk))), fun h => h.mono hpure⟩

theorem fop_sound (hJ : J C st a w ρ β) (h : fop P id o.op st K)
    (hn : ∀ out st' v w' ρ' β', K out st' → J C st' a w' ρ' β' → AVRep w' ρ' β' v out → next (a.put o.dst v) w') : o.wp P a w next Q := by
  unfold Oper.wp
  have quiet : (match qval P id (evAV st.env) st.box o.op with | some out => K out st | none => False) → creates o.op = false → o.upon P a next Q ((execOp a.eval o).run P w) := by
    intro h hcr
    split at h
    · rename_i out ho
      obtain ⟨v, w', ρ', hrun, hb, hN, hv⟩ := qval_run hJ.apart (o := o) (id := id) (by intro e; rw [hcr] at e; cases e) hJ.box (fun x => hJ.ev x) ho
      rw [hrun]
      exact hn _ _ v w' ρ' β h (hJ.grow hb hN) hv
    · exact h.elim
  obtain ⟨dst, op, ty, pos, after, guard⟩ := o
  simp only at h hn quiet
  unfold fop at h
  split at h
  · rename_i n args ts
    obtain ⟨⟨fn, h1, h2, h3⟩, hc⟩ := callK_sound (Q := Q) hJ h hn
    rw [run_call h1 h2 h3 rfl]
    exact hc
  · rename_i args ts
    split at h
    · rename_i s x t tx hargs hts
      have ea : args = #[s, x] := by apply Array.ext'; simpa using hargs
      have et : ts = #[t, tx] := by apply Array.ext'; simpa using hts
      subst ea; subst et
      obtain ⟨v, w', hrun, hnx⟩ := appendK_sound (ty := ty) hJ h hn
      have : (execOp a.eval ⟨dst, .call { callee := .builtin .append, args := #[s, x], argTypes := #[t, tx] }, ty, pos, after, guard⟩).run P w = .ok (.value v) w' := by
        simp [execOp, resolve, invoke, builtin, hrun]
      rw [this]
      exact hnx
    · exact h.elim
  · rename_i t addr val
    obtain ⟨w', hrun, hnx⟩ := storeK_sound hJ h hn
    have : (execOp a.eval ⟨dst, .store t addr val, ty, pos, after, guard⟩).run P w = .ok .skip w' := by
      simp [execOp, hrun]
    rw [this]
    exact hnx
  · rename_i e v
    split at h
    · rename_i xs hx
      obtain ⟨β', hJ', hv⟩ := newBox (id := id) hJ (cells_rep (hJ.ev v) hx) e
      have : (execOp a.eval ⟨dst, .box e v, ty, pos, after, guard⟩).run P w = .ok (.value (.pointer (some ⟨w.heap.size, 0, none⟩))) (w.alloc (.cells (a.eval v).cells e)) := by
        simp only [execOp, Instr.box, newVar, newRow, Sem.run_bind, run_newObj, Result.andThen_ok, Sem.run_pure]; rfl
      rw [this]
      have e1 : (a.eval v).cells.toList.toArray = (a.eval v).cells := by simp
      rw [e1] at hJ' hv
      exact hn _ _ _ _ ρ β' h hJ' hv
    · exact h.elim
  · rename_i e
    split at h
    · rename_i xs hx
      obtain ⟨i, z, hi, hz, hs⟩ := zeroA_some hx w ρ β
      obtain ⟨β', hJ', hv⟩ := newBox (id := id) hJ hs e
      have hub : xs.map (·.unbox id) = xs := by
        unfold zeroA at hx
        rw [hi] at hx
        simp only [hz] at hx
        split at hx
        · cases hx
          rw [List.map_map]
          apply List.map_congr_left
          intro v _
          simp only [Function.comp, constAC]
          split <;> rfl
        · cases hx
      rw [hub] at hJ'
      have : (execOp a.eval ⟨dst, .alloc e, ty, pos, after, guard⟩).run P w = .ok (.value (.pointer (some ⟨w.heap.size, 0, none⟩))) (w.alloc (.cells z.cells e)) := by
        simp only [execOp, Instr.alloc, zeroValue, typeInfo, run_program, hi, hz, newVar, newRow, Sem.run_bind, run_newObj, Result.andThen_ok, Sem.run_pure]; rfl
      rw [this]
      have e1 : z.cells.toList.toArray = z.cells := by simp
      rw [e1] at hJ' hv
      exact hn _ _ _ _ ρ β' h hJ' hv
    · exact h.elim
  · rename_i t l c
    obtain ⟨v, w', hrun, hnx⟩ := makeK_sound hJ h hn
    have : (execOp a.eval ⟨dst, .makeSlice t l c, ty, pos, after, guard⟩).run P w = .ok (.value v) w' := by
      simp [execOp, hrun]
    rw [this]
    exact hnx
  · rename_i src dst' x
    split at h
    · rename_i hself
      obtain ⟨rfl, e, h1, h2⟩ := selfB_spec hself
      split at h
      · rename_i f sz n cells hx
        obtain ⟨hpos, hK⟩ := h
        have hr := hJ.ev x
        simp only [St.ev, hx] at hr
        obtain ⟨raws, ⟨hl, ho⟩, hc⟩ := rep_cell hr
        rcases ho with ⟨_, _, h0⟩ | ⟨g, cap, cur, e', fr, hv, hg, hh, hfr, hn1, hm, hcs, htk⟩
        · omega
        · have hlt : g < w.heap.size := (hJ.apart.fam f g hg).2
          let w' := w.freeze ⟨g, cur.size, none⟩ 1
          have hw' : w' = { w with heap := w.heap.modify g fun
            | .cells c elem (lo, hi) => .cells c elem (if lo == hi then (cur.size, cur.size + 1) else (min lo cur.size, max hi (cur.size + 1)))
            | o => o } := by
            simp only [w', World.freeze]; rfl
          have hg' : w'.heap[g]? = some (.cells cur e' (if fr.1 == fr.2 then (cur.size, cur.size + 1) else (min fr.1 cur.size, max fr.2 (cur.size + 1)))) := by
            rw [hw']; simp only [Array.getElem?_modify, hh]; simp
          have hk' : ∀ k, k ≠ g → w'.heap[k]? = w.heap[k]? := fun k hk => by
            rw [hw']; simp only [Array.getElem?_modify]; rw [if_neg (fun e => hk e.symm)]
          obtain ⟨hJ', hmono⟩ := hJ.turn hg (w' := w') (by rw [hw']) (by rw [hw']) (by rw [hw']) (by rw [hw']; simp) hk'
          have hsh : w.shape? g = some (e', cur.size) := by simp [World.shape?, hh]
          have hrun : (execOp a.eval ⟨dst, .convert src src x, ty, pos, after, guard⟩).run P w = .ok (.value (a.eval x)) w' := by
            simp [execOp, hv, convert, run_underlying h1, run_underlying h2, markStringish, hsh, w']
          rw [hrun]
          refine hn _ _ _ w' ρ β hK hJ' (.cell _ _ ⟨raws, ⟨hl, .inr ⟨g, cap, cur, e', _, hv, hg, hg', ?_, hn1, hm, hcs, htk⟩⟩, hmono hc⟩)
          right
          split
          · exact Nat.le_refl _
          · rename_i hne
            rcases hfr with e | e
            · simp [e] at hne
            · simp only; omega
      · exact h.elim
    split at h
    · rename_i out hq
      split at h
      · rename_i hc
        obtain ⟨v, w', ρ', hr, hb, hN, hv⟩ := qconv_run (id := id) hJ.apart (by rw [hc]; intro e; cases e) (hJ.ev x) hq
        have : (execOp a.eval ⟨dst, .convert src dst' x, ty, pos, after, guard⟩).run P w = .ok (.value v) w' := by simp [execOp, hr]
        rw [this]
        exact hn _ _ v w' ρ' β h (hJ.grow hb hN) hv
      · split at h
        · rename_i out' hq'
          have hJ1 := hJ.retire (isId id)
          have hx1 := retire_av hJ.apart (isId id) (hJ.ev x)
          obtain ⟨v, w', ρ', hr, hb, hN, hv⟩ := qconv_run (id := id) hJ1.apart (fun _ => isId_none) hx1 hq'
          have : (execOp a.eval ⟨dst, .convert src dst' x, ty, pos, after, guard⟩).run P w = .ok (.value v) w' := by simp [execOp, hr]
          rw [this]
          exact hn _ _ v w' ρ' β h (hJ1.grow hb hN) hv
        · exact h.elim
    · exact h.elim
  · rename_i t len parts
    simp only at h
    split at h
    · rename_i out hq
      have hJ1 := hJ.retire (fun f => isId id f || inL (parts.toList.flatMap fun p => (evAV st.env p.2).labs) f)
      obtain ⟨v, w', ρ', hr, hb, hN, hv⟩ := qbuildSlice_run (id := id) hJ1.apart (by
        intro f h1 h2
        simp [Fam.drop, isId, h1, h2]) (fun x => hJ1.ev x) hq
      have : (execOp a.eval ⟨dst, .buildSlice t len parts, ty, pos, after, guard⟩).run P w = .ok (.value v) w' := by
        simp only [execOp, Sem.run_bind, hr]; rfl
      rw [this]
      exact hn _ _ v w' ρ' β h (hJ1.grow hb hN) hv
    · exact h.elim
  · rename_i h1 h2 h3 h4 h5 h6 h7 h8
    refine quiet h ?_
    cases op <;> first | rfl | exact (h7 _ _ _ rfl).elim | exact (h8 _ _ _ rfl).elim
end
end Go.Fw
