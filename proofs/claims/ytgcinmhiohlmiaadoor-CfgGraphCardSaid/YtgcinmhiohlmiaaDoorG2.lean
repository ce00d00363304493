/- Contracts of functions, by their numbers, and the laws that walk them. Conditions: as each states. -/
import Derived.Test.YtgcinmhiohlmiaaDoorG1
import Derived.Scope
import Derived.OrdersIn
import Derived.RangeFuncNested
import Derived.RangeFuncRecord
import Derived.RangeFuncLeaves
import Derived.RangeFuncCalls
set_option linter.all false
section
set_option linter.all false
namespace Go.Fw
variable [Globals]
open Go.RowKit (Below)

def eInfo (P : Program) (e : TypeId) : Option (Nat × Nat) :=
  match P.info? e with
  | some i => match i.zero with
    | some z => if z.cells.size = i.size then some (i.size, i.bytes) else none
    | none => none
  | none => none

def srcA (P : Program) (tx : TypeId) (sz : Nat) (x : AV) : Option (Nat × List CV) :=
  match P.underlying tx, x with
  | some (.slice _), .cell c => match c.sl? with
    | some (m, cells) => if cells.length = m * sz then some (m, cells) else none
    | none => none
  | some .string, .cell (.p (.c (.string s))) => if sz = 1 then some (s.size, bytesCV s.data.toList) else none
  | _, _ => none

def repC (n : Nat) (zero : List CV) : List CV := match n with | 0 => [] | n + 1 => zero ++ repC n zero

def callK (P : Program) (id n : Nat) (args : List Operand) (st : St) (K : AV → St → Prop) : Prop :=
  ∃ r, At P n (args.map fun x => (evAV st.env x).arg) r ∧ r.labs.all (fun f => decide (f < 64)) = true ∧
    K (r.shift id) (if r.flat then st.retire (isId id) else (st.retire (isId id)).retire (inL (args.flatMap fun x => (evAV st.env x).labs)))

def appendK (P : Program) (id : Nat) (t tx : TypeId) (s x : AV) (st : St) (K : AV → St → Prop) : Prop :=
  match P.underlying t with
  | some (.slice e) =>
    match eInfo P e with
    | some (sz, by_) =>
      0 < sz ∧
      match srcA P tx sz x with
      | some (m, news) =>
        match s with
        | .cell (.own f sz' n cells) => (sz' = sz ∧ n + m ≤ 1099511627776 ∧ (n + m) * by_ ≤ 140737488355328) ∧ K (.cell (.own f sz (n + m) (cells ++ news))) (st.poison (inL [f]))
        | .cell (.tl f sz' n cells) => (sz' = sz ∧ n + m ≤ 1099511627776 ∧ (n + m) * by_ ≤ 140737488355328) ∧ K (.cell (.tl f sz (n + m) (cells ++ news))) (st.poison (inL [f]))
        | .cell .z => (m ≤ 1099511627776 ∧ m * by_ ≤ 140737488355328) ∧ K (.cell (.own id sz m news)) (st.retire (isId id))
        | _ => False
      | none => False
    | none => False
  | _ => False

def storeK (P : Program) (t : TypeId) (addr val : Operand) (st : St) (K : AV → St → Prop) : Prop :=
  match evAV st.env addr with
  | .cell (.ptr b off) =>
    match st.box b, (evAV st.env val).cells? with
    | some xs, some ys => (szOf P t = some ys.length ∧ off + ys.length ≤ xs.length) ∧ K .bad (st.setBox b (setRun xs off ys))
    | _, _ => False
  | .cell (.epo f cells pos) =>
    match (evAV st.env val).labs with
    | [] =>
      match ((evAV st.env val).cells?).bind toCVs with
      | some cs => (szOf P t = some cs.length ∧ pos + cs.length ≤ cells.length) ∧ K .bad (st.upd f pos cs)
      | none => False
    | l =>
      inL l f = false ∧
      match (((evAV st.env val).retire (inL l)).cells?).bind toCVs with
      | some cs => (szOf P t = some cs.length ∧ pos + cs.length ≤ cells.length) ∧ K .bad ((st.retire (inL l)).upd f pos cs)
      | none => False
  | _ => False

def makeK (P : Program) (id : Nat) (t : TypeId) (l c : AV) (st : St) (K : AV → St → Prop) : Prop :=
  match P.underlying t, l, c with
  | some (.slice e), .cell (.p (.c (.int _ n))), .cell (.p (.c (.int _ m))) =>
    match eInfo P e, (zeroA P e).bind toCVs with
    | some (sz, by_), some zero => (zero.length = sz ∧ 0 ≤ n ∧ n ≤ m ∧ (by_ : Int) * m ≤ 281474976710656 ∧ m ≤ 1099511627776) ∧ K (.cell (.own id sz n.toNat (repC n.toNat zero))) (st.retire (isId id))
    | _, _ => False
  | _, _, _ => False

/-- A conversion of a slice of bytes to its own type. -/
def selfB (P : Program) (src dst : TypeId) : Bool := src == dst && match P.underlying src with
  | some (.slice e) => match P.underlying e with
    | some (.int .u8) => true
    | _ => false
  | _ => false

/-- ONE OPERATION IN THE ORDER OF THE TEXT. -/
def fop (P : Program) (id : Nat) (o : Op) (st : St) (K : AV → St → Prop) : Prop :=
  match o with
  | .call { callee := .value (.func n), args := args, argTypes := _ } => callK P id n args.toList st K
  | .call { callee := .builtin .append, args := args, argTypes := ts } =>
    match args.toList, ts.toList with
    | [s, x], [t, tx] => appendK P id t tx (evAV st.env s) (evAV st.env x) st K
    | _, _ => False
  | .store t a v => storeK P t a v st K
  | .box _ v => match (evAV st.env v).cells? with
    | some xs => K (.cell (.ptr id 0)) ((st.unbox id).setBox id (xs.map (·.unbox id)))
    | none => False
  | .alloc e => match zeroA P e with
    | some xs => K (.cell (.ptr id 0)) ((st.unbox id).setBox id xs)
    | none => False
  | .makeSlice t l c => makeK P id t (evAV st.env l) (evAV st.env c) st K
  | .makeMap _ none => K (.cell (.mown id [] [])) (st.retire (isId id))
  | .mapUpdate t m k x => mapUpdK P t (evAV st.env m) (evAV st.env k) (evAV st.env x) st K
  | .insert t m k x => mapUpdK P t (evAV st.env m) (evAV st.env k) (evAV st.env x) st K
  | .convert src dst x => if selfB P src dst = true then (match evAV st.env x with
      | .cell (.own f sz n cells) => 0 < n ∧ K (.cell (.own f sz n cells)) (st.poison (inL [f]))
      | _ => False) else
    match qconv P id src dst (evAV st.env x) with
    | some out =>
      if out.isC then K out st else
      match qconv P id src dst ((evAV st.env x).retire (isId id)) with
      | some out' => K out' (st.retire (isId id))
      | none => False
    | none => False
  | .buildSlice t len parts =>
    let st' := st.retire (fun f => isId id f || inL (parts.toList.flatMap fun p => (evAV st.env p.2).labs) f)
    match qbuildSlice P id t len parts.toList (evAV st'.env) with
    | some out => K out st'
    | none => False
  | op => match qval P id (evAV st.env) st.box op with
    | some out => K out st
    | none => False

theorem ev_retire (st : St) (F : Nat → Bool) (x : Operand) : evAV (st.retire F).env x = (evAV st.env x).retire F := by
  cases x with
  | tmp t => rfl
  | const v =>
    simp only [evAV, constAV]
    split <;> try rfl
    split
    · simp only [AV.retire, List.map_map]
      congr 1
      apply List.map_congr_left
      intro v _
      simp only [Function.comp, constAC]
      split <;> rfl
    · rfl
  | global g => simp only [evAV]; split <;> rfl
  | func f => rfl

theorem isId_none {ρ : Fam} {id : Nat} : ∀ f, id ≤ f → f < id + 64 → (ρ.drop (isId id)) f = none := by
  intro f h1 h2
  simp [Fam.drop, isId, h1, h2]

theorem run_call {P : Program} {ρv : Operand → Value} {n : FuncId} {args : Array Operand} {ts : Array TypeId} {dst : Option Tmp} {ty : TypeId} {pos : String} {after : Array Edge} {guard : Option (Nat × Bool)}
    {fn : Func} (h1 : P.funcs[n]? = some fn) (h2 : (fn.name == "runtime.NumGoroutine") = false) (h3 : fn.body.isNone = false) (hf : ρv (.func n) = .func (.func n) #[] #[]) (w : World) :
    (execOp ρv ⟨dst, .call { callee := .value (.func n), args := args, argTypes := ts }, ty, pos, after, guard⟩).run P w = .ok (.enter n (args.map ρv)) w := by
  have h2' : ¬ fn.name = "runtime.NumGoroutine" := by simpa using h2
  have h3' : ¬ fn.body = none := by intro e; rw [e] at h3; simp at h3
  simp [execOp, resolve, Deferred.ofValue, hf, invoke, callFunc, h1, h2', h3']

theorem src_rep {P : Program} {w : World} {ρ β : Fam} {tx : TypeId} {sz : Nat} (hpos : 0 < sz) {v : Value} {x : AV} (hv : AVRep w ρ β v x) {m : Nat} {news : List CV} (h : srcA P tx sz x = some (m, news)) :
    ∃ raws, Src P sz tx v m raws w ∧ CReps w (Bad ρ β) raws news := by
  unfold srcA at h
  split at h
  · rename_i e c hu
    split at h
    · rename_i m' cells hsl
      split at h
      · rename_i hlen
        cases h
        obtain ⟨a, cap, raws, rfl, hn, hm, hr, hc⟩ := sl_rep (rep_cell hv) hsl
        refine ⟨raws, ?_, hr⟩
        cases a with
        | some a => exact Src.ofSlice w hu a m cap raws (by rw [hr.len, hlen]) (fun j u hj => by obtain ⟨y, e, h⟩ := hc j u hj; cases e; exact h) hr.one
        | none =>
          cases hraw : raws with
          | cons u r => rw [hraw] at hc; obtain ⟨y, e, _⟩ := hc 0 u rfl; cases e
          | nil =>
            have hm0 : m = 0 := by
              have := hr.len; rw [hraw, hlen] at this
              rcases Nat.mul_eq_zero.1 this.symm with e | e
              · exact e
              · omega
            subst hm0
            exact Src.ofNil w hu cap
      · cases h
    · cases h
  · rename_i s hu
    split at h
    · rename_i hsz
      cases h
      subst hsz
      cases rep_c hv
      refine ⟨byteCells s, Src.ofString w hu s, by simp [byteCells, bytesCV], fun u hu => ?_, fun j u c hu hc => ?_⟩
      · simp [byteCells] at hu; obtain ⟨b, _, rfl⟩ := hu; rfl
      · simp [byteCells, bytesCV] at hu hc
        obtain ⟨b, hb1, rfl⟩ := hu
        obtain ⟨b', hb2, rfl⟩ := hc
        rw [hb1] at hb2; cases hb2
        exact .c _
    · cases h
  · cases h

section
variable {P : Program} {C : Cx} {st : St} {a : Act} {w : World} {ρ β : Fam} {id : Nat} {o : Oper} {K : AV → St → Prop} {next : Act → World → Prop} {Q : Exit → Act → World → Prop}

theorem glob_arg (hJ : J C st a w ρ β) (L : Nat → Bool) : ∀ g cs, Globals.G g = some cs → AVRep w noneF (beta0 (Bad (ρ.drop L) β)) (.pointer (some ⟨g, 0, none⟩)) (.cell (.ep none cs 0)) := by
  intro g cs hg
  obtain ⟨y, raws, hv, h2, hr⟩ := rep_cell (hJ.glob g cs hg)
  have pm : ∀ b, ¬ Bad ρ β b → ¬ Bad noneF (beta0 (Bad (ρ.drop L) β)) b := fun b hb => by rw [bad_none]; exact Bad_drop hb
  exact .cell _ _ ⟨y, raws, hv, fun j u hj => ⟨pm _ (h2 j u hj).1, (h2 j u hj).2⟩, hr.mono (Hx.same pm)⟩

theorem callK_sound (hJ : J C st a w ρ β) {n : Nat} {args : Array Operand} (h : callK P id n args.toList st K) {dst : Option Tmp}
    (hn : ∀ out st' v w' ρ' β', K out st' → J C st' a w' ρ' β' → AVRep w' ρ' β' v out → next (a.put dst v) w') :
    (∃ fn, P.funcs[n]? = some fn ∧ (fn.name == "runtime.NumGoroutine") = false ∧ fn.body.isNone = false) ∧
    Calls P n (args.map a.eval) w fun
      | .returned v, w'' => next (a.put dst v) w''
      | .panicked chain, w'' => Q (.panic chain) a w''
      | .outgrown, _ => LetsOut Q := by
  obtain ⟨r, hAt, hlab, hK⟩ := h
  refine ⟨hAt.1, ?_⟩
  let L := args.toList.flatMap fun x => (evAV st.env x).labs
  have hcall := hAt.2 w (args.map a.eval) (Bad (ρ.drop (inL L)) β) (by
    rintro b (⟨f, hf⟩ | ⟨i, hi⟩)
    · have : ρ f = some b := by revert hf; unfold Fam.drop; split <;> simp
      exact (hJ.apart.fam f b this).2
    · exact hJ.apart.box i b hi) (by simp) (fun j u x hu hx => by
    simp at hu hx
    obtain ⟨y, hy, rfl⟩ := hu
    obtain ⟨y', hy', rfl⟩ := hx
    rw [hy] at hy'; cases hy'
    refine arg_av hJ.apart (inL L) (hJ.ev y) (fun f hf => ?_)
    simp only [inL, List.contains_iff_mem, L, List.mem_flatMap]
    exact ⟨y, List.mem_of_getElem? (l := args.toList) (i := j) (by simpa using hy), hf⟩) (glob_arg hJ (inL L))
  refine hcall.mono ?_
  rintro e w' ⟨v, ρr, rfl, hb, hρ1, hρ2, hv⟩
  have hlab' : ∀ f ∈ r.labs, f < 64 := by
    rw [List.all_eq_true] at hlab
    intro f hf; simpa using hlab f hf
  by_cases hflat : r.flat = true
  · rw [if_pos hflat] at hK
    have hJ1 := hJ.retire (isId id)
    have hN := join_new hJ1.apart (id := id) isId_none hρ1 hρ2
    exact hn _ _ v w' _ _ hK (hJ1.grow hb hN) (shift_av (beta0_even _) hv hlab' (.inl hflat))
  · rw [if_neg hflat] at hK
    have hJ1 := (hJ.retire (isId id)).retire (inL L)
    have hid : ∀ f, id ≤ f → f < id + 64 → ((ρ.drop (isId id)).drop (inL L)) f = none := by
      intro f h1 h2
      simp only [Fam.drop]
      split
      · rfl
      · simp [isId, h1, h2]
    have hN := join_new hJ1.apart hid hρ1 hρ2
    refine hn _ _ v w' _ _ hK (hJ1.grow hb hN) (shift_av (beta0_even _) hv hlab' (.inr fun b hnb => ?_))
    rw [bad_beta0] at hnb
    rintro (⟨f, hf⟩ | ⟨i, hi⟩)
    · unfold Fam.join at hf
      split at hf
      · exact hnb (.inl ⟨_, hf⟩)
      · refine hnb (.inr (.inl ⟨f, ?_⟩))
        simp only [Fam.drop] at hf ⊢
        split at hf
        · cases hf
        · rename_i e
          rw [if_neg e]
          split at hf
          · cases hf
          · exact hf
    · exact hnb (.inr (.inr ⟨i, hi⟩))

theorem eInfo_some {e sz by_ : Nat} (h : eInfo P e = some (sz, by_)) : ∃ i z, P.info? e = some i ∧ i.zero = some z ∧ z.cells.size = i.size ∧ i.size = sz ∧ i.bytes = by_ := by
  unfold eInfo at h
  split at h
  · rename_i i hi
    split at h
    · rename_i z hz
      split at h
      · rename_i hc
        cases h
        exact ⟨i, z, hi, hz, hc, rfl, rfl⟩
      · cases h
    · cases h
  · cases h

theorem appendK_sound (hJ : J C st a w ρ β) {t tx : TypeId} {s x : Operand} {ty : TypeId} (h : appendK P id t tx (evAV st.env s) (evAV st.env x) st K) {dst : Option Tmp}
    (hn : ∀ out st' v w' ρ' β', K out st' → J C st' a w' ρ' β' → AVRep w' ρ' β' v out → next (a.put dst v) w') :
    ∃ v w', (Builtin.append_ #[t, tx] ty #[a.eval s, a.eval x]).run P w = .ok v w' ∧ next (a.put dst v) w' := by
  unfold appendK at h
  split at h
  · rename_i e ht
    split at h
    · rename_i sz by_ he
      obtain ⟨hpos, h⟩ := h
      obtain ⟨i, z, hi, hz, hzs, rfl, rfl⟩ := eInfo_some he
      split at h
      · rename_i m news hsrc
        obtain ⟨nraws, hs, hnr⟩ := src_rep hpos (hJ.ev x) hsrc
        split at h
        · rename_i f sz' n cells hsv
          obtain ⟨⟨hsz, h63, hby⟩, hK⟩ := h
          subst hsz
          have hsr := hJ.ev s
          simp only [St.ev, hsv] at hsr
          obtain ⟨raws, ho, hr⟩ := rep_cell hsr
          obtain ⟨v', w', b', hrun, ho', hos, htp, hout, hsize, hkeep, hb'⟩ := append_run (ty := ty) ht hi hz hzs ho hs h63 hby
          refine ⟨v', w', hrun, ?_⟩
          have hne : ∀ b, ρ f = some b → ∀ x : Addr, ¬ Bad ρ β x.block → x.block ≠ b := fun b hb x hx e => hx (.inl ⟨f, by rw [e]; exact hb⟩)
          let ρ' : Fam := fun g => if g = f then b' else ρ g
          have hpure : Hx w (Bad ρ β) w' (Bad ρ' β) := by
            refine Hx.blocks fun y hlt hy => ⟨?_, hkeep y hlt (fun e => hy (.inl ⟨f, e.symm⟩))⟩
            rintro (⟨g, hg⟩ | ⟨k, hk⟩)
            · simp only [ρ'] at hg
              split at hg
              · rcases hb' with e | ⟨e, _⟩
                · exact hy (.inl ⟨f, by rw [← e]; exact hg⟩)
                · rw [e] at hg; simp at hg; omega
              · exact hy (.inl ⟨g, hg⟩)
            · exact hy (.inr ⟨k, hk⟩)
          have hE : ExtE (inL [f]) w ρ β w' ρ' β := by
            refine ⟨hpure, fun g b hg hρ => ?_, fun k b h => h⟩
            have hgf : g ≠ f := by
              intro e; subst e; simp [inL] at hg
            refine ⟨by simp [ρ', hgf, hρ], hkeep b (hJ.apart.fam g b hρ).2 (fun e => hgf (hJ.apart.inj g f b hρ e.symm))⟩
          have hA : Apart w' C.prot ρ' β := by
            refine ⟨fun g b hg => ?_, fun k b hk => Nat.lt_of_lt_of_le (hJ.apart.box k b hk) hsize, fun g g' b h1 h2 => ?_, hJ.apart.injB, fun g k b h1 h2 => ?_, hJ.apart.boxp⟩
            · simp only [ρ'] at hg
              split at hg
              · rcases hb' with e | ⟨e, hlt⟩
                · rw [e] at hg
                  have := hJ.apart.fam f b hg
                  exact ⟨this.1, by omega⟩
                · rw [e] at hg; cases hg
                  exact ⟨fun hp => by have := hJ.protlt _ hp; have := hJ.grown; omega, hlt⟩
              · have := hJ.apart.fam g b hg
                exact ⟨this.1, by omega⟩
            · simp only [ρ'] at h1 h2
              have key : ∀ g, g ≠ f → ρ g = some b → b' = some b → False := by
                intro g hgf hg hb
                rcases hb' with e | ⟨e, _⟩
                · rw [e] at hb; exact hgf (hJ.apart.inj g f b hg hb)
                · rw [e] at hb; cases hb; have := (hJ.apart.fam g _ hg).2; omega
              split at h1 <;> split at h2
              · simp_all
              · rename_i e1 e2; exact (key g' e2 h2 h1).elim
              · rename_i e1 e2; exact (key g e1 h1 h2).elim
              · exact hJ.apart.inj g g' b h1 h2
            · simp only [ρ'] at h1
              split at h1
              · rcases hb' with e | ⟨e, _⟩
                · rw [e] at h1; exact hJ.apart.sep f k b h1 h2
                · rw [e] at h1; cases h1; have := hJ.apart.box k _ h2; omega
              · exact hJ.apart.sep g k b h1 h2
          have hJ' := hJ.extE hE hA hos htp hout hsize (fun b hp => hkeep b (Nat.lt_of_lt_of_le (hJ.protlt b hp) hJ.grown) (fun e => (hJ.apart.fam f b e.symm).1 hp))
            (fun k b hk => hkeep b (hJ.apart.box k b hk) (fun e => hJ.apart.sep f k b e.symm hk))
          refine hn _ _ v' w' ρ' β hK hJ' (.cell _ _ ⟨raws ++ nraws, ?_, ?_⟩)
          · simp only [ρ', if_true]; exact ho'
          · have c1 := hr.mono hpure
            have c2 := hnr.mono hpure
            refine ⟨by simp [c1.len, c2.len], fun u hu => ?_, fun j u c hu hc => ?_⟩
            · rcases List.mem_append.1 hu with h' | h'
              · exact c1.one u h'
              · exact c2.one u h'
            · rcases Nat.lt_or_ge j raws.length with hj | hj
              · rw [List.getElem?_append_left hj] at hu
                rw [List.getElem?_append_left (by rw [← c1.len]; exact hj)] at hc
                exact c1.rep j u c hu hc
              · rw [List.getElem?_append_right hj] at hu
                rw [List.getElem?_append_right (by rw [← c1.len]; exact hj), ← c1.len] at hc
                exact c2.rep _ u c hu hc
        · rename_i f sz' n cells hsv
          obtain ⟨⟨hsz, h63, hby⟩, hK⟩ := h
          subst hsz
          have hsr := hJ.ev s
          simp only [St.ev, hsv] at hsr
          obtain ⟨raws, ho, hr⟩ := rep_cell hsr
          obtain ⟨v', w', b', hrun, ho', hos, htp, hout, hsize, hkeep, hb'⟩ := append_runT (ty := ty) ht hi hz hzs ho hs h63 hby
          refine ⟨v', w', hrun, ?_⟩
          have hne : ∀ b, ρ f = some b → ∀ x : Addr, ¬ Bad ρ β x.block → x.block ≠ b := fun b hb x hx e => hx (.inl ⟨f, by rw [e]; exact hb⟩)
          let ρ' : Fam := fun g => if g = f then b' else ρ g
          have hpure : Hx w (Bad ρ β) w' (Bad ρ' β) := by
            refine Hx.blocks fun y hlt hy => ⟨?_, hkeep y hlt (fun e => hy (.inl ⟨f, e.symm⟩))⟩
            rintro (⟨g, hg⟩ | ⟨k, hk⟩)
            · simp only [ρ'] at hg
              split at hg
              · rcases hb' with e | ⟨e, _⟩
                · exact hy (.inl ⟨f, by rw [← e]; exact hg⟩)
                · rw [e] at hg; simp at hg; omega
              · exact hy (.inl ⟨g, hg⟩)
            · exact hy (.inr ⟨k, hk⟩)
          have hE : ExtE (inL [f]) w ρ β w' ρ' β := by
            refine ⟨hpure, fun g b hg hρ => ?_, fun k b h => h⟩
            have hgf : g ≠ f := by
              intro e; subst e; simp [inL] at hg
            refine ⟨by simp [ρ', hgf, hρ], hkeep b (hJ.apart.fam g b hρ).2 (fun e => hgf (hJ.apart.inj g f b hρ e.symm))⟩
          have hA : Apart w' C.prot ρ' β := by
            refine ⟨fun g b hg => ?_, fun k b hk => Nat.lt_of_lt_of_le (hJ.apart.box k b hk) hsize, fun g g' b h1 h2 => ?_, hJ.apart.injB, fun g k b h1 h2 => ?_, hJ.apart.boxp⟩
            · simp only [ρ'] at hg
              split at hg
              · rcases hb' with e | ⟨e, hlt⟩
                · rw [e] at hg
                  have := hJ.apart.fam f b hg
                  exact ⟨this.1, by omega⟩
                · rw [e] at hg; cases hg
                  exact ⟨fun hp => by have := hJ.protlt _ hp; have := hJ.grown; omega, hlt⟩
              · have := hJ.apart.fam g b hg
                exact ⟨this.1, by omega⟩
            · simp only [ρ'] at h1 h2
              have key : ∀ g, g ≠ f → ρ g = some b → b' = some b → False := by
                intro g hgf hg hb
                rcases hb' with e | ⟨e, _⟩
                · rw [e] at hb; exact hgf (hJ.apart.inj g f b hg hb)
                · rw [e] at hb; cases hb; have := (hJ.apart.fam g _ hg).2; omega
              split at h1 <;> split at h2
              · simp_all
              · rename_i e1 e2; exact (key g' e2 h2 h1).elim
              · rename_i e1 e2; exact (key g e1 h1 h2).elim
              · exact hJ.apart.inj g g' b h1 h2
            · simp only [ρ'] at h1
              split at h1
              · rcases hb' with e | ⟨e, _⟩
                · rw [e] at h1; exact hJ.apart.sep f k b h1 h2
                · rw [e] at h1; cases h1; have := hJ.apart.box k _ h2; omega
              · exact hJ.apart.sep g k b h1 h2
          have hJ' := hJ.extE hE hA hos htp hout hsize (fun b hp => hkeep b (Nat.lt_of_lt_of_le (hJ.protlt b hp) hJ.grown) (fun e => (hJ.apart.fam f b e.symm).1 hp))
            (fun k b hk => hkeep b (hJ.apart.box k b hk) (fun e => hJ.apart.sep f k b e.symm hk))
          refine hn _ _ v' w' ρ' β hK hJ' (.cell _ _ ⟨raws ++ nraws, ?_, ?_⟩)
          · simp only [ρ', if_true]; exact ho'
          · have c1 := hr.mono hpure
            have c2 := hnr.mono hpure
            refine ⟨by simp [c1.len, c2.len], fun u hu => ?_, fun j u c hu hc => ?_⟩
            · rcases List.mem_append.1 hu with h' | h'
              · exact c1.one u h'
              · exact c2.one u h'
            · rcases Nat.lt_or_ge j raws.length with hj | hj
              · rw [List.getElem?_append_left hj] at hu
                rw [List.getElem?_append_left (by rw [← c1.len]; exact hj)] at hc
                exact c1.rep j u c hu hc
              · rw [List.getElem?_append_right hj] at hu
                rw [List.getElem?_append_right (by rw [← c1.len]; exact hj), ← c1.len] at hc
                exact c2.rep _ u c hu hc
        · rename_i hsv
          obtain ⟨⟨h63, hby⟩, hK⟩ := h
          have hsr := hJ.ev s
          simp only [St.ev, hsv] at hsr
          obtain ⟨a0, hz0⟩ := rep_cell hsr
          have ho : OwnRow w none i.size 0 (a.eval s) [] := ⟨by simp, .inl ⟨a0, hz0, rfl⟩⟩
          obtain ⟨v', w', b', hrun, ho', hos, htp, hout, hsize, hkeep, hb'⟩ := append_run (ty := ty) ht hi hz hzs ho hs (by omega) (by rw [Nat.zero_add]; exact hby)
          refine ⟨v', w', hrun, ?_⟩
          have hJ1 := hJ.retire (isId id)
          have hBl : Below w.heap.size w w' := ⟨hos, htp, hout, hsize, fun k hk => hkeep k hk (by simp)⟩
          let ρ1 := ρ.drop (isId id)
          let ρ' : Fam := fun g => if g = id then b' else ρ1 g
          have hid0 : ρ1 id = none := isId_none id (Nat.le_refl _) (by omega)
          have hN : NewFam w ρ1 w' ρ' id := by
            refine ⟨fun g b hg => ?_, fun g b hg => ?_, fun g g' b h1 h2 => ?_⟩
            · have : g ≠ id := fun e => by rw [e, hid0] at hg; cases hg
              simp [ρ', this, hg]
            · simp only [ρ'] at hg
              split at hg
              · rename_i e; subst e
                rcases hb' with e | ⟨e, hlt⟩
                · rw [e] at hg; cases hg
                · rw [e] at hg; cases hg
                  exact .inr ⟨Nat.le_refl _, by omega, Nat.le_refl _, hlt⟩
              · exact .inl hg
            · simp only [ρ'] at h1 h2
              have key : ∀ g, ρ1 g = some b → b' = some b → False := by
                intro g hg hb
                rcases hb' with e | ⟨e, _⟩
                · rw [e] at hb; cases hb
                · rw [e] at hb; cases hb; have := (hJ1.apart.fam g _ hg).2; omega
              split at h1 <;> split at h2
              · simp_all
              · exact (key g' h2 h1).elim
              · exact (key g h1 h2).elim
              · exact hJ1.apart.inj g g' b h1 h2
          have hJ' := hJ1.grow hBl hN
          have E := ext_of_grow (β := β) hJ1.apart hBl hN
          refine hn _ _ v' w' ρ' β hK hJ' (.cell _ _ ⟨[] ++ nraws, ?_, ?_⟩)
          · simp only [ρ', if_true]; rw [Nat.zero_add] at ho'; exact ho'
          · rw [List.nil_append]
            exact (hnr.mono (bad' := Bad ρ1 β) (Hx.same fun b hx => Bad_drop hx)).mono E.pure
        · exact h.elim
      · exact h.elim
    · exact h.elim
  · exact h.elim

theorem run_storeCells_box {w : World} {g off : Nat} {cur : Array Value} {e : TypeId} {fr : Nat × Nat} (hg : w.heap[g]? = some (.cells cur e fr)) (hfr : fr.2 = fr.1 ∨ cur.size ≤ fr.1) {vs : List Value}
    (hl : off + vs.length ≤ cur.size) (ho : ∀ v ∈ vs, v.oneCell' = true) : (storeCells ⟨g, off, none⟩ vs).run P w = .ok () (w.setCells g off vs) := by
  have := run_storeCells_cells (P := P) g off vs 0 w (fun j hj => by
    have : off + j < cur.size := by omega
    simp [World.cell?, hg, this]) (fun j hj => by
    have : off + j < cur.size := by omega
    simp only [World.frozen?, hg, Nat.add_zero]
    rcases hfr with h | h
    · simp; omega
    · simp; omega) ho
  rwa [Nat.add_zero] at this

theorem storeK_sound (hJ : J C st a w ρ β) {t : TypeId} {addr val : Operand} (h : storeK P t addr val st K) {dst : Option Tmp}
    (hn : ∀ out st' v w' ρ' β', K out st' → J C st' a w' ρ' β' → AVRep w' ρ' β' v out → next (a.put dst v) w') :
    ∃ w', (Instr.storeAt t (a.eval addr) (a.eval val)).run P w = .ok () w' ∧ next (a.put dst undef) w' := by
  unfold storeK at h
  split at h
  · rename_i b off hx
    split at h
    · rename_i xs ys hb hy
      obtain ⟨⟨hsz, hle⟩, hK⟩ := h
      have hxr := hJ.ev addr
      simp only [St.ev, hx] at hxr
      obtain ⟨g, hβ, hv⟩ := rep_cell hxr
      obtain ⟨g', raws, e, hβ', hp, hg, hl, ho, hr⟩ := hJ.box b xs hb
      rw [hβ] at hβ'; cases hβ'
      have hs : Seg w ρ β raws.toList xs := ⟨by simpa using hl, ho, fun j u x hu hx => hr j u x (by simpa using hu) hx⟩
      have hvs := cells_rep (hJ.ev val) hy
      have hlen : (a.eval val).cells.size = ys.length := by have := hvs.len; simpa using this
      refine ⟨_, ?_, hn _ _ undef _ ρ β hK (hJ.boxStore hβ hp hg hs hvs off) (.bad _)⟩
      rw [hv]
      simp only [Instr.storeAt, Instr.sureAddr, storeVar, Sem.run_bind, Sem.run_pure, Result.andThen_ok, run_sizeOf hsz, hlen]
      simp only [ne_eq, not_true_eq_false, if_false]
      simpa using run_storeCells_box (P := P) hg (.inl rfl) (by rw [Array.length_toList, hlen, hl]; exact hle) hvs.one
    · exact h.elim
  · rename_i f cells pos hx
    have main : ∀ (st1 : St) (ρ1 : Fam), J C st1 a w ρ1 β → ACRep w ρ1 β (a.eval addr) (.epo f cells pos) → ∀ acs cs, Seg w ρ1 β (a.eval val).cells.toList acs → toCVs acs = some cs → szOf P t = some cs.length → pos + cs.length ≤ cells.length →
        K .bad (st1.upd f pos cs) → ∃ w', (Instr.storeAt t (a.eval addr) (a.eval val)).run P w = .ok () w' ∧ next (a.put dst undef) w' := by
      intro st1 ρ1 hJ1 hep acs cs hvs hcs hsz hle hK
      obtain ⟨g, cur, e, fr, hv, hρ, hg, hfr, hlen, hr⟩ := hep
      have hcr := toCVs_rep hvs hcs
      have hl : (a.eval val).cells.size = cs.length := by have := hcr.len; simpa using this
      refine ⟨_, ?_, hn _ _ undef _ ρ1 β hK (hJ1.famStore hρ hg hcr pos) (.bad _)⟩
      rw [hv]
      simp only [Instr.storeAt, Instr.sureAddr, storeVar, Sem.run_bind, Sem.run_pure, Result.andThen_ok, run_sizeOf hsz, hl]
      simp only [ne_eq, not_true_eq_false, if_false]
      rw [ptr_add, Nat.zero_add]
      simpa using run_storeCells_box (P := P) hg hfr (by rw [Array.length_toList, hl]; omega) hcr.one
    have hxr := hJ.ev addr
    simp only [St.ev, hx] at hxr
    split at h
    · rename_i hlab
      cases hc : (evAV st.env val).cells? with
      | none => simp [hc] at h
      | some acs =>
        cases hcs : toCVs acs with
        | none => simp [hc, hcs] at h
        | some cs =>
          simp [hc, hcs] at h
          exact main st ρ hJ (rep_cell hxr) acs cs (cells_rep (hJ.ev val) hc) hcs h.1.1 h.1.2 h.2
    · obtain ⟨hf, h⟩ := h
      rename_i l hlab _
      have hJ1 := hJ.retire (inL (evAV st.env val).labs)
      have hvr := retire_av hJ.apart (inL (evAV st.env val).labs) (hJ.ev val)
      have hxr1 := retire_ac hJ.apart (inL (evAV st.env val).labs) _ _ (rep_cell hxr)
      simp only [AC.retire, hf, Bool.false_eq_true, if_false] at hxr1
      cases hc : ((evAV st.env val).retire (inL (evAV st.env val).labs)).cells? with
      | none => simp [hc] at h
      | some acs =>
        cases hcs : toCVs acs with
        | none => simp [hc, hcs] at h
        | some cs =>
          simp [hc, hcs] at h
          exact main _ _ hJ1 hxr1 acs cs (cells_rep hvr hc) hcs h.1.1 h.1.2 h.2
  · exact h.elim

theorem newBox (hJ : J C st a w ρ β) (hpin : C.pin id = none) {vs : List Value} {xs : List AC} (hs : Seg w ρ β vs xs) (e : TypeId) :
    ∃ β', J C ((st.unbox id).setBox id (xs.map (·.unbox id))) a (w.alloc (.cells vs.toArray e)) ρ β' ∧ AVRep (w.alloc (.cells vs.toArray e)) ρ β' (.pointer (some ⟨w.heap.size, 0, none⟩)) (.cell (.ptr id 0)) := by
  have hJ1 := hJ.unbox id hpin
  let β1 := β.drop (· == 2 * id)
  have h0 : β1 (2 * id) = none := by simp [β1, Fam.drop]
  let β' : Fam := fun i => if i = 2 * id then some w.heap.size else β1 i
  have hBl : Below w.heap.size w (w.alloc (.cells vs.toArray e)) := (Below.refl _ _).alloc (Nat.le_refl _) _
  have E : Ext w ρ β1 (w.alloc (.cells vs.toArray e)) ρ β' := by
    refine ⟨Hx.blocks fun b hlt hx => ⟨?_, hBl.block _ hlt⟩, fun f b _ hf => ⟨hf, hBl.block b (hJ1.apart.fam f b hf).2⟩, fun i b hi => ?_⟩
    · rintro (⟨f, hf⟩ | ⟨i, hi⟩)
      · exact hx (.inl ⟨f, hf⟩)
      · simp only [β'] at hi
        split at hi
        · simp only [Option.some.injEq] at hi; omega
        · exact hx (.inr ⟨i, hi⟩)
    · have : 2 * i ≠ 2 * id := fun e => by rw [e, h0] at hi; cases hi
      simp only [β']; rw [if_neg this]; exact hi
  have hsz : (w.alloc (.cells vs.toArray e)).heap.size = w.heap.size + 1 := by simp
  refine ⟨β', ⟨hJ.size, hJ1.ext.of rfl (fun _ _ _ _ e => e), hJ.os, hJ.tape, hJ.output, by rw [hsz]; have := hJ.grown; omega, fun b hb => ?_, hJ.protlt, fun b hb => ?_, ⟨fun f b hf => ?_, fun i b hi => ?_, hJ.apart.inj, fun i k b h1 h2 => ?_, fun f i b hf hi => ?_, fun i b hi => ?_⟩, fun s => E.av (hJ1.env s), fun i ys hy => ?_, fun g cs hg => E.av (hJ1.glob g cs hg), fun k q hq => by
    have hne : k ≠ id := by rintro rfl; rw [hpin] at hq; cases hq
    have := hJ1.pin k q hq
    simp only [β']; rw [if_neg (by omega)]; exact this⟩, .cell _ _ ⟨w.heap.size, by simp [β'], rfl⟩⟩
  · rw [hBl.block b (Nat.lt_of_lt_of_le (hJ.protlt b hb) hJ.grown)]; exact hJ.kept b hb
  · have := hJ1.phan b hb
    simp only [β']
    rw [if_neg (by omega)]; exact this
  · have := hJ.apart.fam f b hf; exact ⟨this.1, by omega⟩
  · simp only [β'] at hi
    split at hi
    · cases hi; omega
    · have := hJ1.apart.box i b hi; omega
  · simp only [β'] at h1 h2
    split at h1 <;> split at h2
    · omega
    · cases h1; have := hJ1.apart.box k _ h2; omega
    · cases h2; have := hJ1.apart.box i _ h1; omega
    · exact hJ1.apart.injB i k b h1 h2
  · simp only [β'] at hi
    split at hi
    · cases hi; have := (hJ.apart.fam f _ hf).2; omega
    · exact hJ1.apart.sep f i b hf hi
  · simp only [β'] at hi
    split at hi
    · cases hi; intro hp; have := hJ.protlt _ hp; have := hJ.grown; omega
    · exact hJ1.apart.boxp i b hi
  · simp only [St.setBox] at hy
    split at hy
    · rename_i hi
      subst hi
      cases hy
      refine ⟨w.heap.size, vs.toArray, e, by simp [β'], fun hp => by have := hJ.protlt _ hp; have := hJ.grown; omega, heap_alloc_new w _, by simpa using hs.len, by simpa using hs.one, fun j u x hu hx => ?_⟩
      rw [List.getElem?_map] at hx
      cases hj : xs[j]? with
      | none => simp [hj] at hx
      | some y => simp [hj] at hx; subst hx; exact E.ac (unbox_ac i u y (hs.rep j u y (by simpa using hu) hj))
    · rename_i hi
      obtain ⟨g, raws, e', h1, h2, h3, h4, h5, h6⟩ := hJ1.box i ys hy
      refine ⟨g, raws, e', ?_, h2, by rw [hBl.block g (hJ1.apart.box _ g h1)]; exact h3, h4, h5, fun j u x hu hx => E.ac (h6 j u x hu hx)⟩
      simp only [β']
      rw [if_neg (by omega)]; exact h1

theorem zero_toCVs {zs : List AC} {z : List Value} (hs : Seg w ρ β z zs) {cs : List CV} (hc : toCVs zs = some cs) : ∀ n, CReps w (Bad ρ β) (repV n z) (repC n cs)
  | 0 => ⟨rfl, by simp [repV], by simp [repV]⟩
  | n + 1 => by
    have h1 := toCVs_rep hs hc
    have h2 := zero_toCVs hs hc n
    refine ⟨by simp [repV, repC, h1.len, h2.len], fun u hu => ?_, fun j u c hu hc => ?_⟩
    · rcases List.mem_append.1 hu with h' | h'
      · exact h1.one u h'
      · exact h2.one u h'
    · rw [repV] at hu
      rw [repC] at hc
      rcases Nat.lt_or_ge j z.length with hj | hj
      · rw [List.getElem?_append_left hj] at hu
        rw [List.getElem?_append_left (by rw [← h1.len]; exact hj)] at hc
        exact h1.rep j u c hu hc
      · rw [List.getElem?_append_right hj] at hu
        rw [List.getElem?_append_right (by rw [← h1.len]; exact hj), ← h1.len] at hc
        exact h2.rep _ u c hu hc

theorem repV_take (z : List Value) : ∀ (n m : Nat), n ≤ m → (repV m z).take (n * z.length) = repV n z
  | 0, m, _ => by simp [repV]
  | n + 1, 0, h => by omega
  | n + 1, m + 1, h => by
    rw [repV, repV, Nat.succ_mul, Nat.add_comm, List.take_append]
    rw [List.take_of_length_le (by omega), Nat.add_sub_cancel_left, repV_take z n m (by omega)]

theorem makeK_sound (hJ : J C st a w ρ β) {t : TypeId} {l c : Operand} (h : makeK P id t (evAV st.env l) (evAV st.env c) st K) {dst : Option Tmp}
    (hn : ∀ out st' v w' ρ' β', K out st' → J C st' a w' ρ' β' → AVRep w' ρ' β' v out → next (a.put dst v) w') :
    ∃ v w', (Instr.makeSlice t (a.eval l) (a.eval c)).run P w = .ok v w' ∧ next (a.put dst v) w' := by
  unfold makeK at h
  split at h
  · rename_i e k n k' m ht hl hc
    split at h
    · rename_i sz by_ zero he hz
      obtain ⟨⟨h0, h1, h2, h3, h4⟩, hK⟩ := h
      obtain ⟨i, z, hi, hz', hzs, rfl, rfl⟩ := eInfo_some he
      cases hza : zeroA P e with
      | none => simp [hza] at hz
      | some zs =>
        simp [hza] at hz
        have hJ1 := hJ.retire (isId id)
        obtain ⟨i', z', hi', hz'', hs⟩ := zeroA_some hza w (ρ.drop (isId id)) β
        rw [hi] at hi'; cases hi'
        rw [hz'] at hz''; cases hz''
        have hlr := hJ.ev l
        have hcr := hJ.ev c
        simp only [St.ev, hl] at hlr
        simp only [St.ev, hc] at hcr
        have e1 := rep_c hlr
        have e2 := rep_c hcr
        have hrun := run_make (P := P) w t e i z ht hi hz' k k' n m h1 h2 h3 (by omega)
        have hms : (madeCells z.cells (m.toNat * i.size)).toList = repV m.toNat z.cells.toList := by
          rw [repV_range]; simp only [hzs]; simp [madeCells, hzs]
        have hN := newOwn (β := β) (w' := w.alloc (.cells (madeCells z.cells (m.toNat * i.size)) e)) hJ1.apart (id := id) isId_none rfl rfl rfl rfl (.inl rfl) (cap := m.toNat) (n := n.toNat) (sz := i.size)
          (size_madeCells _ _) (by omega) (by unfold maxLen; omega) (cells := repC n.toNat zero) (by
            rw [hms]
            have : n.toNat * i.size = n.toNat * z.cells.toList.length := by rw [Array.length_toList, hzs]
            rw [this, repV_take _ _ _ (by omega)]
            exact zero_toCVs hs hz _)
        refine ⟨_, _, by rw [e1, e2]; exact hrun, hn _ _ _ _ _ β hK (hJ1.grow hN.1 hN.2.1) (.cell _ _ hN.2.2)⟩
    · exact h.elim
  · exact h.elim

/-- ONE OPERATION IS SOUND. -/
theorem selfB_spec {src dst : TypeId} (h : selfB P src dst = true) : src = dst ∧ ∃ e, P.underlying src = some (.slice e) ∧ P.underlying e = some (.int .u8) := by
  unfold selfB at h
  simp only [Bool.and_eq_true, beq_iff_eq] at h
  obtain ⟨rfl, h⟩ := h
  refine ⟨rfl, ?_⟩
  split at h
  · rename_i e he
    split at h
    · rename_i he'; exact ⟨e, he, he'⟩
    · cases h
  · cases h

/-- A block of a family turns, behind the back of all that leads to it. -/
theorem J.turn (hJ : J C st a w ρ β) {f g : Nat} (hρ : ρ f = some g) {w' : World} (hos : w'.os = w.os) (htp : w'.tape = w.tape) (hout : w'.output = w.output) (hsize : w'.heap.size = w.heap.size)
    (hkeep : ∀ k, k ≠ g → w'.heap[k]? = w.heap[k]?) : J C (st.poison (inL [f])) a w' ρ β ∧ ∀ {raws : List Value} {cells : List CV}, CReps w (Bad ρ β) raws cells → CReps w' (Bad ρ β) raws cells := by
  have hpure : Hx w (Bad ρ β) w' (Bad ρ β) := Hx.blocks fun k _ hx => ⟨hx, hkeep _ (fun e => hx (.inl ⟨f, by rw [e]; exact hρ⟩))⟩
  have hE : ExtE (inL [f]) w ρ β w' ρ β := by
    refine ⟨hpure, fun k b hk hb => ⟨hb, hkeep b (fun e => ?_)⟩, fun k b h => h⟩
    subst e
    have := hJ.apart.inj k f b hb hρ
    subst this
    simp [inL] at hk
  have hA : Apart w' C.prot ρ β := ⟨fun k b hk => by rw [hsize]; exact hJ.apart.fam k b hk, fun k b hk => by rw [hsize]; exact hJ.apart.box k b hk, hJ.apart.inj, hJ.apart.injB, hJ.apart.sep, hJ.apart.boxp⟩
  refine ⟨hJ.extE hE hA hos htp hout (Nat.le_of_eq hsize.symm) (fun b hp => hkeep b (fun e => (hJ.apart.fam f g hρ).1 (e ▸ hp))) (fun k b hk => hkeep b (fun e => hJ.apart.sep f k g hρ (e ▸ hk))), fun h => h.mono hpure⟩

theorem fop_sound (hJ : J C st a w ρ β) (hpin : C.pin id = none) (h : fop P id o.op st K)
    (hn : ∀ out st' v w' ρ' β', K out st' → J C st' a w' ρ' β' → AVRep w' ρ' β' v out → next (a.put o.dst v) w') : o.wp P a w next Q := by
  unfold Oper.wp
  have quiet : (match qval P id (evAV st.env) st.box o.op with | some out => K out st | none => False) → creates o.op = false → o.upon P a next Q ((execOp a.eval o).run P w) := by
    intro h hcr
    split at h
    · rename_i out ho
      obtain ⟨v, w', ρ', hrun, hb, hN, hv⟩ := qval_run hJ.apart (o := o) (id := id) (by intro e; rw [hcr] at e; cases e) hJ.box (fun x => hJ.ev x) ho
      rw [hrun]
      exact hn _ _ v w' ρ' β h (hJ.grow hb hN) hv
    · exact h.elim
  obtain ⟨dst, op, ty, pos, after, guard⟩ := o
  simp only at h hn quiet
  unfold fop at h
  split at h
  · rename_i n args ts
    obtain ⟨⟨fn, h1, h2, h3⟩, hc⟩ := callK_sound (Q := Q) hJ h hn
    rw [run_call h1 h2 h3 rfl]
    exact hc
  · rename_i args ts
    split at h
    · rename_i s x t tx hargs hts
      have ea : args = #[s, x] := by apply Array.ext'; simpa using hargs
      have et : ts = #[t, tx] := by apply Array.ext'; simpa using hts
      subst ea; subst et
      obtain ⟨v, w', hrun, hnx⟩ := appendK_sound (ty := ty) hJ h hn
      have : (execOp a.eval ⟨dst, .call { callee := .builtin .append, args := #[s, x], argTypes := #[t, tx] }, ty, pos, after, guard⟩).run P w = .ok (.value v) w' := by
        simp [execOp, resolve, invoke, builtin, hrun]
      rw [this]
      exact hnx
    · exact h.elim
  · rename_i t addr val
    obtain ⟨w', hrun, hnx⟩ := storeK_sound hJ h hn
    have : (execOp a.eval ⟨dst, .store t addr val, ty, pos, after, guard⟩).run P w = .ok .skip w' := by
      simp [execOp, hrun]
    rw [this]
    exact hnx
  · rename_i e v
    split at h
    · rename_i xs hx
      obtain ⟨β', hJ', hv⟩ := newBox (id := id) hJ hpin (cells_rep (hJ.ev v) hx) e
      have : (execOp a.eval ⟨dst, .box e v, ty, pos, after, guard⟩).run P w = .ok (.value (.pointer (some ⟨w.heap.size, 0, none⟩))) (w.alloc (.cells (a.eval v).cells e)) := by
        simp only [execOp, Instr.box, newVar, newRow, Sem.run_bind, run_newObj, Result.andThen_ok, Sem.run_pure]; rfl
      rw [this]
      have e1 : (a.eval v).cells.toList.toArray = (a.eval v).cells := by simp
      rw [e1] at hJ' hv
      exact hn _ _ _ _ ρ β' h hJ' hv
    · exact h.elim
  · rename_i e
    split at h
    · rename_i xs hx
      obtain ⟨i, z, hi, hz, hs⟩ := zeroA_some hx w ρ β
      obtain ⟨β', hJ', hv⟩ := newBox (id := id) hJ hpin hs e
      have hub : xs.map (·.unbox id) = xs := by
        unfold zeroA at hx
        rw [hi] at hx
        simp only [hz] at hx
        split at hx
        · cases hx
          rw [List.map_map]
          apply List.map_congr_left
          intro v _
          simp only [Function.comp, constAC]
          split <;> rfl
        · cases hx
      rw [hub] at hJ'
      have : (execOp a.eval ⟨dst, .alloc e, ty, pos, after, guard⟩).run P w = .ok (.value (.pointer (some ⟨w.heap.size, 0, none⟩))) (w.alloc (.cells z.cells e)) := by
        simp only [execOp, Instr.alloc, zeroValue, typeInfo, run_program, hi, hz, newVar, newRow, Sem.run_bind, run_newObj, Result.andThen_ok, Sem.run_pure]; rfl
      rw [this]
      have e1 : z.cells.toList.toArray = z.cells := by simp
      rw [e1] at hJ' hv
      exact hn _ _ _ _ ρ β' h hJ' hv
    · exact h.elim
  · rename_i t l c
    obtain ⟨v, w', hrun, hnx⟩ := makeK_sound hJ h hn
    have : (execOp a.eval ⟨dst, .makeSlice t l c, ty, pos, after, guard⟩).run P w = .ok (.value v) w' := by
      simp [execOp, hrun]
    rw [this]
    exact hnx
  · rename_i t
    have hJ1 := hJ.retire (isId id)
    obtain ⟨w', ρ', hrun, hJ', hv⟩ := makeMap_sound (P := P) (id := id) hJ1 t isId_none
    have : (execOp a.eval ⟨dst, .makeMap t none, ty, pos, after, guard⟩).run P w = .ok (.value (.map (some w.heap.size))) w' := by
      simp [execOp, hrun]
    rw [this]
    exact hn _ _ _ w' ρ' β h hJ' hv
  · rename_i t m k x
    obtain ⟨w', hrun, hnx⟩ := mapUpdK_sound (next := fun a w => next (a.put dst undef) w) hJ h (fun st' w' ρ' β' hk hj => hn .bad st' undef w' ρ' β' hk hj (.bad _))
    have : (execOp a.eval ⟨dst, .mapUpdate t m k x, ty, pos, after, guard⟩).run P w = .ok .skip w' := by
      simp [execOp, hrun]
    rw [this]
    exact hnx
  · rename_i t m k x
    obtain ⟨w', hrun, hnx⟩ := mapUpdK_sound (next := fun a w => next (a.put dst undef) w) hJ h (fun st' w' ρ' β' hk hj => hn .bad st' undef w' ρ' β' hk hj (.bad _))
    have : (execOp a.eval ⟨dst, .insert t m k x, ty, pos, after, guard⟩).run P w = .ok .skip w' := by
      simp [execOp, hrun]
    rw [this]
    exact hnx
  · rename_i src dst' x
    split at h
    · rename_i hself
      obtain ⟨rfl, e, h1, h2⟩ := selfB_spec hself
      split at h
      · rename_i f sz n cells hx
        obtain ⟨hpos, hK⟩ := h
        have hr := hJ.ev x
        simp only [St.ev, hx] at hr
        obtain ⟨raws, ⟨hl, ho⟩, hc⟩ := rep_cell hr
        rcases ho with ⟨_, _, h0⟩ | ⟨g, cap, cur, e', fr, hv, hg, hh, hfr, hn1, hm, hcs, htk⟩
        · omega
        · have hlt : g < w.heap.size := (hJ.apart.fam f g hg).2
          let w' := w.freeze ⟨g, cur.size, none⟩ 1
          have hw' : w' = { w with heap := w.heap.modify g fun
            | .cells c elem (lo, hi) => .cells c elem (if lo == hi then (cur.size, cur.size + 1) else (min lo cur.size, max hi (cur.size + 1)))
            | o => o } := by
            simp only [w', World.freeze]; rfl
          have hg' : w'.heap[g]? = some (.cells cur e' (if fr.1 == fr.2 then (cur.size, cur.size + 1) else (min fr.1 cur.size, max fr.2 (cur.size + 1)))) := by
            rw [hw']; simp only [Array.getElem?_modify, hh]; simp
          have hk' : ∀ k, k ≠ g → w'.heap[k]? = w.heap[k]? := fun k hk => by
            rw [hw']; simp only [Array.getElem?_modify]; rw [if_neg (fun e => hk e.symm)]
          obtain ⟨hJ', hmono⟩ := hJ.turn hg (w' := w') (by rw [hw']) (by rw [hw']) (by rw [hw']) (by rw [hw']; simp) hk'
          have hsh : w.shape? g = some (e', cur.size) := by simp [World.shape?, hh]
          have hrun : (execOp a.eval ⟨dst, .convert src src x, ty, pos, after, guard⟩).run P w = .ok (.value (a.eval x)) w' := by
            simp [execOp, hv, convert, run_underlying h1, run_underlying h2, markStringish, hsh, w']
          rw [hrun]
          refine hn _ _ _ w' ρ β hK hJ' (.cell _ _ ⟨raws, ⟨hl, .inr ⟨g, cap, cur, e', _, hv, hg, hg', ?_, hn1, hm, hcs, htk⟩⟩, hmono hc⟩)
          right
          split
          · exact Nat.le_refl _
          · rename_i hne
            rcases hfr with e | e
            · simp [e] at hne
            · simp only; omega
      · exact h.elim
    split at h
    · rename_i out hq
      split at h
      · rename_i hc
        obtain ⟨v, w', ρ', hr, hb, hN, hv⟩ := qconv_run (id := id) hJ.apart (by rw [hc]; intro e; cases e) (hJ.ev x) hq
        have : (execOp a.eval ⟨dst, .convert src dst' x, ty, pos, after, guard⟩).run P w = .ok (.value v) w' := by simp [execOp, hr]
        rw [this]
        exact hn _ _ v w' ρ' β h (hJ.grow hb hN) hv
      · split at h
        · rename_i out' hq'
          have hJ1 := hJ.retire (isId id)
          have hx1 := retire_av hJ.apart (isId id) (hJ.ev x)
          obtain ⟨v, w', ρ', hr, hb, hN, hv⟩ := qconv_run (id := id) hJ1.apart (fun _ => isId_none) hx1 hq'
          have : (execOp a.eval ⟨dst, .convert src dst' x, ty, pos, after, guard⟩).run P w = .ok (.value v) w' := by simp [execOp, hr]
          rw [this]
          exact hn _ _ v w' ρ' β h (hJ1.grow hb hN) hv
        · exact h.elim
    · exact h.elim
  · rename_i t len parts
    simp only at h
    split at h
    · rename_i out hq
      have hJ1 := hJ.retire (fun f => isId id f || inL (parts.toList.flatMap fun p => (evAV st.env p.2).labs) f)
      obtain ⟨v, w', ρ', hr, hb, hN, hv⟩ := qbuildSlice_run (id := id) hJ1.apart (by
        intro f h1 h2
        simp [Fam.drop, isId, h1, h2]) (fun x => hJ1.ev x) hq
      have : (execOp a.eval ⟨dst, .buildSlice t len parts, ty, pos, after, guard⟩).run P w = .ok (.value v) w' := by
        simp only [execOp, Sem.run_bind, hr]; rfl
      rw [this]
      exact hn _ _ v w' ρ' β h (hJ1.grow hb hN) hv
    · exact h.elim
  · rename_i h1 h2 h3 h4 h5 h6 h7 h8 h9 h10 h11
    refine quiet h ?_
    cases op <;> first | rfl | exact (h10 _ _ _ rfl).elim | exact (h11 _ _ _ rfl).elim
end
end Go.Fw
end
section
set_option linter.all false
namespace Go.Fw
variable [Globals]
open Go.RowKit (Below)

/-- What a skipped operation leaves. -/
abbrev uV : AV := .tup []
def gdV (x : AV) (want : Bool) : Option Bool :=
  match x with
  | .cell (.p (.c (.bool b))) => some (b == want)
  | .tup [] => some false
  | _ => none
/-- Whether an operation with this guard is wanted, where that is known. -/
def guardB (ops : Array Oper) (env : Nat → AV) (j : Nat) (want : Bool) : Option Bool :=
  match (ops[j]?).bind (·.dst) with
  | some d => gdV (env d) want
  | none => none

theorem wanted_of {C : Cx} {st : St} {a : Act} {w : World} {ρ β : Fam} (hJ : J C st a w ρ β) {ops : Array Oper} {j : Nat} {want b : Bool} (h : guardB ops st.env j want = some b) : (yielded ops a.tmps j == some want) = b := by
  unfold guardB at h
  split at h
  · rename_i d hd
    unfold gdV at h
    have hr := hJ.env d
    split at h
    · rename_i b' hb
      cases h
      rw [hb] at hr
      have hv := rep_c hr
      have : a.tmps[d]? = some (.bool b') := by
        rw [Array.getD_eq_getD_getElem?] at hv
        cases hx : a.tmps[d]? with
        | none => rw [hx] at hv; simp [undef] at hv
        | some v => rw [hx] at hv; simp at hv; rw [hv]
      simp [yielded, hd, this]
    · rename_i hb
      cases h
      rw [hb] at hr
      generalize hv : a.tmps.getD d undef = v at hr
      cases hr with
      | tup vs _ hl _ =>
        cases hx : a.tmps[d]? with
        | none => simp [yielded, hd, hx]
        | some v =>
          rw [Array.getD_eq_getD_getElem?, hx] at hv
          simp at hv
          simp [yielded, hd, hx, hv]
    · cases h
  · cases h

theorem wanted_none {ops : Array Oper} {o : Oper} {a : Act} (h : o.guard = none) : Region.wanted o (yielded ops a.tmps) = true := by simp [Region.wanted, h]

/-! ### A region that draws its order -/

def isRid (rid : Nat) : Nat → Bool := fun f => decide (rid * 65536 ≤ f) && decide (f < rid * 65536 + 65536)

/-- The slot that an append takes over. -/
def cons (o : Oper) : Option Nat :=
  match o.op with
  | .call { callee := .builtin .append, args := args, argTypes := _ } => match args.toList with
    | .tmp t :: _ => some t
    | _ => none
  | _ => none

def putE (env : Nat → AV) (d : Option Nat) (x : AV) : Nat → AV :=
  match d with
  | some d => fun s => if s = d then x else env s
  | none => env

def wr (o : Oper) (out : AV) (env : Nat → AV) : Nat → AV := putE (putE env (cons o) .bad) o.dst out

def wslots (o : Oper) : List Nat := (cons o).toList ++ o.dst.toList

theorem putE_other {env : Nat → AV} {d : Option Nat} {x : AV} {s : Nat} (h : s ∉ d.toList) : putE env d x s = env s := by
  cases d with
  | none => rfl
  | some d => simp at h; simp [putE, h]

theorem wr_other {o : Oper} {out : AV} {env : Nat → AV} {s : Nat} (h : s ∉ wslots o) : wr o out env s = env s := by
  simp only [wslots, List.mem_append, not_or] at h
  rw [wr, putE_other h.2, putE_other h.1]

/-- The states of a region's textual order; S: which operations have been carried out. -/
def envOf (ops : Array Oper) (outs : List AV) (env0 : Nat → AV) (S : Nat → Bool) : Nat → Nat → AV
  | 0 => env0
  | i + 1 => if S i then wr (ops.getD i default) (outs.getD i .bad) (envOf ops outs env0 S i) else envOf ops outs env0 S i

/-- What a quiet operation of a region that draws comes to. need: which families must be named by the result of one operation alone. -/
def dq (P : Program) (rid id : Nat) (ops : Array Oper) (bx : Nat → Option (List AC)) (env : Nat → AV) (o : Oper) (K : AV → Option (Nat × Nat) → Prop) : Prop :=
  match o.op with
  | .call { callee := .value (.func n), args := args, argTypes := _ } =>
    ∃ r, At P n (args.toList.map fun x => (evAV env x).arg) r ∧ (r.labs.all (fun f => decide (f < 64)) = true ∧ (r.flat || (args.toList.flatMap fun x => (evAV env x).labs).isEmpty) = true) ∧ K (r.shift id) none
  | .call { callee := .builtin .append, args := args, argTypes := ts } =>
    match args.toList, ts.toList with
    | [s, x], [t, tx] =>
      match P.underlying t with
      | some (.slice e) =>
        match eInfo P e with
        | some (sz, by_) =>
          0 < sz ∧
          match srcA P tx sz (evAV env x) with
          | some (m, news) =>
            match evAV env s with
            | .cell (.own f sz' n cells) =>
              match cons o with
              | some c =>
                match (List.range ops.size).find? (fun k => (ops.getD k default).dst == some c) with
                | some k => (sz' = sz ∧ n + m ≤ 1099511627776 ∧ (n + m) * by_ ≤ 140737488355328 ∧ isRid rid f = true) ∧ K (.cell (.own id sz (n + m) (cells ++ news))) (some (k, f))
                | none => False
              | none => False
            | .cell .z => (m ≤ 1099511627776 ∧ m * by_ ≤ 140737488355328) ∧ K (.cell (.own id sz m news)) none
            | _ => False
          | none => False
        | none => False
      | _ => False
    | _, _ => False
  | op => match qval P id (evAV env) bx op with
    | some out => K out none
    | none => False

def dstep (P : Program) (rid i : Nat) (ops : Array Oper) (bx : Nat → Option (List AC)) (env : Nat → AV) (o : Oper) (K : AV → Option (Nat × Nat) → Prop) : Prop :=
  match o.guard with
  | none => dq P rid (rid * 65536 + i * 64) ops bx env o K
  | some (j, want) =>
    match guardB ops env j want with
    | some b => (b = true → dq P rid (rid * 65536 + i * 64) ops bx env o K) ∧ (b = false → K uV none)
    | none => False

theorem dq_split {P : Program} {rid id : Nat} {ops : Array Oper} {bx : Nat → Option (List AC)} {env : Nat → AV} {o : Oper} {K : AV → Option (Nat × Nat) → Prop} (h : dq P rid id ops bx env o K) :
    ∃ out nd, K out nd ∧ dq P rid id ops bx env o (fun x y => x = out ∧ y = nd) := by
  unfold dq at h ⊢
  split at h
  · obtain ⟨r, h1, h2, h3⟩ := h
    exact ⟨_, _, h3, r, h1, h2, rfl, rfl⟩
  · split at h
    · split at h
      · split at h
        · obtain ⟨hp, h⟩ := h
          split at h
          · split at h
            · split at h
              · split at h
                · exact ⟨_, _, h.2, hp, h.1, rfl, rfl⟩
                · exact h.elim
              · exact h.elim
            · exact ⟨_, _, h.2, hp, h.1, rfl, rfl⟩
            · exact h.elim
          · exact h.elim
        · exact h.elim
      · exact h.elim
    · exact h.elim
  · split at h
    · exact ⟨_, _, h, rfl, rfl⟩
    · exact h.elim

theorem dstep_split {P : Program} {rid i : Nat} {ops : Array Oper} {bx : Nat → Option (List AC)} {env : Nat → AV} {o : Oper} {K : AV → Option (Nat × Nat) → Prop} (h : dstep P rid i ops bx env o K) :
    ∃ out nd, K out nd ∧ dstep P rid i ops bx env o (fun x y => x = out ∧ y = nd) := by
  unfold dstep at h ⊢
  split at h
  · exact dq_split h
  · rename_i j want hg
    split at h
    · rename_i b hb
      cases b with
      | true =>
        obtain ⟨out, nd, h1, h2⟩ := dq_split (h.1 rfl)
        exact ⟨out, nd, h1, fun _ => h2, fun hn => by cases hn⟩
      | false => exact ⟨_, _, h.2 rfl, (fun he => by cases he), fun _ => ⟨rfl, rfl⟩⟩
    · exact h.elim

/-! What an operation looks at decides what it comes to. -/
theorem partsA_congr {ev ev' : Operand → AV} : ∀ (ps : List (Nat × Operand)), (∀ p ∈ ps, ev p.2 = ev' p.2) → partsA ev ps = partsA ev' ps
  | [], _ => rfl
  | (i, x) :: r, h => by
    have h1 := h (i, x) (by simp)
    simp only at h1
    simp only [partsA, h1, partsA_congr r (fun p hp => h p (by simp [hp]))]

theorem qval_congr {P : Program} {id : Nat} {bx : Nat → Option (List AC)} {ev ev' : Operand → AV} {op : Op} (h : ∀ x ∈ op.operands, ev x = ev' x) : qval P id ev bx op = qval P id ev' bx op := by
  cases op <;> try rfl
  all_goals simp only [Op.operands, Call.operands] at h
  case move x => simp only [qval]; rw [h x (by simp)]
  case assign x => simp only [qval]; rw [h x (by simp)]
  case pick c a b => simp only [qval]; rw [h c (by simp), h a (by simp), h b (by simp)]
  case build t parts =>
    simp only [qval, qbuild]
    rw [partsA_congr parts.toList (fun p hp => h p.2 (by simp; exact ⟨p.1, by simpa using hp⟩))]
  case buildSlice t len parts =>
    simp only [qval, qbuildSlice]
    rw [partsA_congr parts.toList (fun p hp => h p.2 (by simp; exact ⟨p.1, by simpa using hp⟩))]
  case load t x => simp only [qval]; rw [h x (by simp)]
  case nilCheck x => simp only [qval]; rw [h x (by simp)]
  case binOp o t x y t' => simp only [qval]; rw [h x (by simp), h y (by simp)]
  case unOp o t x => simp only [qval]; rw [h x (by simp)]
  case convert s d x => simp only [qval]; rw [h x (by simp)]
  case fieldAddr s x f => simp only [qval]; rw [h x (by simp)]
  case field s x f => simp only [qval]; rw [h x (by simp)]
  case indexAddr t x i => simp only [qval]; rw [h x (by simp), h i (by simp)]
  case index t x i => simp only [qval]; rw [h x (by simp), h i (by simp)]
  case slice t x lo hi mx =>
    have e : ∀ o : Option Operand, (∀ y, o = some y → ev y = ev' y) → o.map ev = o.map ev' := by
      intro o ho; cases o with
      | none => rfl
      | some y => simp [ho y rfl]
    simp only [qval]
    rw [h x (by simp), e lo (fun y hy => h y (by simp [hy])), e hi (fun y hy => h y (by simp [hy])), e mx (fun y hy => h y (by simp [hy]))]
  case lookup t x i ok => simp only [qval]; rw [h x (by simp), h i (by simp)]
  case extract t i => simp only [qval]; rw [h t (by simp)]
  case call c =>
    obtain ⟨callee, args, ts⟩ := c
    cases callee <;> try rfl
    simp only [qval]
    congr 1
    apply List.map_congr_left
    intro x hx
    exact h x (by simp; simpa using hx)

def agreeOn (L : List Nat) (env env' : Nat → AV) : Prop := ∀ s ∈ L, env s = env' s

theorem evAV_congr {ops : Array Oper} {o : Oper} {env env' : Nat → AV} (h : agreeOn (o.looksAt ops) env env') (x : Operand) (hx : x ∈ o.op.operands) : evAV env x = evAV env' x := by
  cases x with
  | tmp t => exact h t (by unfold Oper.looksAt; rw [List.mem_append]; left; rw [List.mem_filterMap]; exact ⟨.tmp t, by simpa using hx, rfl⟩)
  | const v => rfl
  | global g => rfl
  | func f => rfl

theorem dq_congr {P : Program} {rid id : Nat} {ops : Array Oper} {bx : Nat → Option (List AC)} {env env' : Nat → AV} {o : Oper} {K : AV → Option (Nat × Nat) → Prop} (h : agreeOn (o.looksAt ops) env env')
    (hd : dq P rid id ops bx env o K) : dq P rid id ops bx env' o K := by
  have he := evAV_congr h
  unfold dq at hd ⊢
  split at hd
  · rename_i n args ts hop
    rw [hop] at he
    have h1 : ∀ x ∈ args.toList, evAV env x = evAV env' x := fun x hx => he x (by simp [Op.operands, Call.operands]; right; simpa using hx)
    have e1 : (args.toList.map fun x => (evAV env x).arg) = args.toList.map fun x => (evAV env' x).arg := List.map_congr_left fun x hx => by rw [h1 x hx]
    have e2 : (args.toList.flatMap fun x => (evAV env x).labs) = args.toList.flatMap fun x => (evAV env' x).labs := by
      rw [List.flatMap_def, List.flatMap_def, List.map_congr_left fun x hx => by rw [h1 x hx]]
    rw [e1, e2] at hd
    simpa [hop] using hd
  · rename_i args ts hop
    rw [hop] at he
    split at hd
    · rename_i s x t tx hargs hts
      have h1 := he s (by simp only [Op.operands, Call.operands]; simp; rw [← Array.mem_toList_iff, hargs]; simp)
      have h2 := he x (by simp only [Op.operands, Call.operands]; simp; rw [← Array.mem_toList_iff, hargs]; simp)
      rw [h1, h2] at hd
      exact hd
    · exact hd.elim
  · rename_i h1 h2
    rw [qval_congr he] at hd
    exact hd

theorem guardB_congr {ops : Array Oper} {o : Oper} {env env' : Nat → AV} (h : agreeOn (o.looksAt ops) env env') {j : Nat} {want : Bool} (hg : o.guard = some (j, want)) : guardB ops env j want = guardB ops env' j want := by
  unfold guardB
  split
  · rename_i d hd
    rw [h d (by unfold Oper.looksAt; rw [List.mem_append]; right; simp [hg, hd])]
  · rfl

theorem dstep_congr {P : Program} {rid i : Nat} {ops : Array Oper} {bx : Nat → Option (List AC)} {env env' : Nat → AV} {o : Oper} {K : AV → Option (Nat × Nat) → Prop} (h : agreeOn (o.looksAt ops) env env')
    (hd : dstep P rid i ops bx env o K) : dstep P rid i ops bx env' o K := by
  unfold dstep at hd ⊢
  split at hd
  · exact dq_congr h hd
  · rename_i j want hg
    rw [← guardB_congr h hg]
    split at hd
    · exact ⟨fun hw => dq_congr h (hd.1 hw), hd.2⟩
    · exact hd.elim

end Go.Fw
end
section
set_option linter.all false
namespace Go.Fw
variable [Globals]
open Go.RowKit (Below)

theorem MV.poison_eq {x : MV} {F : Nat → Bool} (h : ∀ g ∈ x.labs, F g = false) : x.poison F = x := by
  cases x <;> simp only [MV.poison]
  rw [if_neg (by rw [h _ (by simp [MV.labs])]; simp)]
theorem AC.poison_eq {x : AC} {F : Nat → Bool} (h : ∀ g ∈ x.labs, F g = false) : x.poison F = x := by
  cases x <;> simp only [AC.poison] <;> try rfl
  · rename_i f sz n cells; rw [if_neg (by rw [h f (by simp [AC.labs])]; simp)]
  · rename_i f n cells; rw [if_neg (by rw [h f (by simp [AC.labs])]; simp)]
  · rename_i f sz n cells; rw [if_neg (by rw [h f (by simp [AC.labs])]; simp)]
  · rename_i k cells pos
    cases k with
    | none => rfl
    | some f => simp only; rw [if_neg (by rw [h f (by simp [AC.labs])]; simp)]
  · rename_i f cells pos; rw [if_neg (by rw [h f (by simp [AC.labs])]; simp)]
  · rename_i f ks vs
    rw [if_neg (by rw [h f (by simp [AC.labs])]; simp)]
    congr 1
    conv => rhs; rw [← List.map_id vs]
    exact List.map_congr_left fun x hx => MV.poison_eq fun g hg => h g (by simp only [AC.labs, List.mem_cons, List.mem_flatMap]; exact .inr ⟨x, hx, hg⟩)

theorem AV.poison_eq : ∀ {x : AV} {F : Nat → Bool}, (∀ g ∈ x.labs, F g = false) → x.poison F = x
  | .cell x, F, h => by simp only [AV.poison]; rw [AC.poison_eq h]
  | .agg xs, F, h => by
    simp only [AV.poison]
    congr 1
    conv => rhs; rw [← List.map_id xs]
    exact List.map_congr_left fun x hx => AC.poison_eq fun g hg => h g (by simp only [AV.labs, List.mem_flatMap]; exact ⟨x, hx, hg⟩)
  | .tup xs, F, h => by
    simp only [AV.poison]
    rw [go xs F (fun g hg => h g (by simpa [AV.labs] using hg))]
  | .bad, F, h => rfl
where
  go : ∀ (xs : List AV) (F : Nat → Bool), (∀ g ∈ AV.labs.go xs, F g = false) → AV.poison.go F xs = xs
    | [], F, h => rfl
    | x :: xs, F, h => by
      simp only [AV.poison.go]
      rw [AV.poison_eq (fun g hg => h g (by simp [AV.labs.go, hg])), go xs F (fun g hg => h g (by simp [AV.labs.go, hg]))]

section
variable {P : Program} {C : Cx} {st : St} {a : Act} {w : World} {ρ β : Fam} {id : Nat}

theorem J.weaken {env' : Nat → AV} (hJ : J C st a w ρ β) (h : ∀ s, env' s = st.env s ∨ env' s = .bad) : J C ⟨env', st.box⟩ a w ρ β :=
  ⟨hJ.size, hJ.ext.of rfl (fun _ _ _ _ e => by rcases h gslot with e' | e' <;> simp only [e'] at e; exact e; cases e), hJ.os, hJ.tape, hJ.output, hJ.grown, hJ.kept, hJ.protlt, hJ.phan, hJ.apart, fun s => by rcases h s with e | e <;> simp only [e]; exact hJ.env s; exact .bad _, hJ.box, hJ.glob, hJ.pin⟩

theorem append_ext (hJ : J C st a w ρ β) {t tx ty e : TypeId} {i : TypeInfo} {z : Value} (ht : P.underlying t = some (.slice e)) (hi : P.info? e = some i) (hz : i.zero = some z) (hzs : z.cells.size = i.size)
    {s x : Value} {f f2 n : Nat} {cells : List CV} (hs0 : ACRep w ρ β s (.own f i.size n cells)) (hf2 : f2 = f ∨ ρ f2 = none) {m : Nat} {news : List CV} {nraws : List Value} (hs : Src P i.size tx x m nraws w) (hnr : CReps w (Bad ρ β) nraws news)
    (h63 : n + m ≤ 1099511627776) (hby : (n + m) * i.bytes ≤ 140737488355328) :
    ∃ v' w' ρ', (Builtin.append_ #[t, tx] ty #[s, x]).run P w = .ok v' w' ∧ J C (st.poison (inL [f])) a w' ρ' β ∧ AVRep w' ρ' β v' (.cell (.own f2 i.size (n + m) (cells ++ news))) ∧ (∀ g, ρ g = none → g ≠ f2 → ρ' g = none) := by
  obtain ⟨raws, ho, hr⟩ := hs0
  obtain ⟨v', w', b', hrun, ho', hos, htp, hout, hsize, hkeep, hb'⟩ := append_run (ty := ty) ht hi hz hzs ho hs h63 hby
  let ρ' : Fam := fun g => if g = f2 then b' else if g = f then none else ρ g
  have hpure : Hx w (Bad ρ β) w' (Bad ρ' β) := by
    refine Hx.blocks fun y hlt hy => ⟨?_, hkeep y hlt (fun e => hy (.inl ⟨f, e.symm⟩))⟩
    rintro (⟨g, hg⟩ | ⟨k, hk⟩)
    · simp only [ρ'] at hg
      split at hg
      · rcases hb' with e | ⟨e, _⟩
        · exact hy (.inl ⟨f, by rw [← e]; exact hg⟩)
        · rw [e] at hg; simp at hg; omega
      · split at hg
        · cases hg
        · exact hy (.inl ⟨g, hg⟩)
    · exact hy (.inr ⟨k, hk⟩)
  have hE : ExtE (inL [f]) w ρ β w' ρ' β := by
    refine ⟨hpure, fun g b hg hρ => ?_, fun k b h => h⟩
    have hgf : g ≠ f := by
      intro e; subst e; simp [inL] at hg
    have hgf2 : g ≠ f2 := by
      rintro rfl
      rcases hf2 with e | e
      · exact hgf e
      · rw [e] at hρ; cases hρ
    refine ⟨by simp [ρ', hgf, hgf2, hρ], hkeep b (hJ.apart.fam g b hρ).2 (fun e => hgf (hJ.apart.inj g f b hρ e.symm))⟩
  have hA : Apart w' C.prot ρ' β := by
    refine ⟨fun g b hg => ?_, fun k b hk => Nat.lt_of_lt_of_le (hJ.apart.box k b hk) hsize, fun g g' b h1 h2 => ?_, hJ.apart.injB, fun g k b h1 h2 => ?_, hJ.apart.boxp⟩
    · simp only [ρ'] at hg
      split at hg
      · rcases hb' with e | ⟨e, hlt⟩
        · rw [e] at hg
          have := hJ.apart.fam f b hg
          exact ⟨this.1, by omega⟩
        · rw [e] at hg; cases hg
          exact ⟨fun hp => by have := hJ.protlt _ hp; have := hJ.grown; omega, hlt⟩
      · split at hg
        · cases hg
        · have := hJ.apart.fam g b hg
          exact ⟨this.1, by omega⟩
    · simp only [ρ'] at h1 h2
      have key : ∀ g, g ≠ f → ρ g = some b → b' = some b → False := by
        intro g hgf hg hb
        rcases hb' with e | ⟨e, _⟩
        · rw [e] at hb; exact hgf (hJ.apart.inj g f b hg hb)
        · rw [e] at hb; cases hb; have := (hJ.apart.fam g _ hg).2; omega
      split at h1 <;> split at h2
      · simp_all
      · split at h2
        · cases h2
        · rename_i e1 e2 e3; exact (key g' e3 h2 h1).elim
      · split at h1
        · cases h1
        · rename_i e1 e2 e3; exact (key g e3 h1 h2).elim
      · split at h1
        · cases h1
        · split at h2
          · cases h2
          · exact hJ.apart.inj g g' b h1 h2
    · simp only [ρ'] at h1
      split at h1
      · rcases hb' with e | ⟨e, _⟩
        · rw [e] at h1; exact hJ.apart.sep f k b h1 h2
        · rw [e] at h1; cases h1; have := hJ.apart.box k _ h2; omega
      · split at h1
        · cases h1
        · exact hJ.apart.sep g k b h1 h2
  have hJ' := hJ.extE hE hA hos htp hout hsize (fun b hp => hkeep b (Nat.lt_of_lt_of_le (hJ.protlt b hp) hJ.grown) (fun e => (hJ.apart.fam f b e.symm).1 hp))
    (fun k b hk => hkeep b (hJ.apart.box k b hk) (fun e => hJ.apart.sep f k b e.symm hk))
  refine ⟨v', w', ρ', hrun, hJ', .cell _ _ ⟨raws ++ nraws, ?_, ?_⟩, fun g hg hne => ?_⟩
  · simp only [ρ', if_true]; exact ho'
  · have c1 := hr.mono hpure
    have c2 := hnr.mono hpure
    refine ⟨by simp [c1.len, c2.len], fun u hu => ?_, fun j u c hu hc => ?_⟩
    · rcases List.mem_append.1 hu with h' | h'
      · exact c1.one u h'
      · exact c2.one u h'
    · rcases Nat.lt_or_ge j raws.length with hj | hj
      · rw [List.getElem?_append_left hj] at hu
        rw [List.getElem?_append_left (by rw [← c1.len]; exact hj)] at hc
        exact c1.rep j u c hu hc
      · rw [List.getElem?_append_right hj] at hu
        rw [List.getElem?_append_right (by rw [← c1.len]; exact hj), ← c1.len] at hc
        exact c2.rep _ u c hu hc
  · simp only [ρ']
    rw [if_neg hne]
    split
    · rfl
    · exact hg

theorem exec_append {ρv : Operand → Value} {dst : Option Tmp} {s x : Operand} {t tx ty : TypeId} {pos : String} {after : Array Edge} {guard : Option (Nat × Bool)} {v : Value} {w' : World}
    (hrun : (Builtin.append_ #[t, tx] ty #[ρv s, ρv x]).run P w = .ok v w') :
    (execOp ρv ⟨dst, .call { callee := .builtin .append, args := #[s, x], argTypes := #[t, tx] }, ty, pos, after, guard⟩).run P w = .ok (.value v) w' := by
  simp [execOp, resolve, invoke, builtin, hrun]

theorem wr_weaken {o : Oper} {out : AV} {env : Nat → AV} (s : Nat) : wr o out env s = putE env o.dst out s ∨ wr o out env s = .bad := by
  unfold wr
  cases hd : o.dst with
  | none =>
    cases hc : cons o with
    | none => exact .inl rfl
    | some t => simp only [putE]; split; exact .inr rfl; exact .inl rfl
  | some d =>
    cases hc : cons o with
    | none => exact .inl rfl
    | some t =>
      simp only [putE]
      split
      · exact .inl rfl
      · split
        · exact .inr rfl
        · exact .inl rfl

theorem put_putE (st : St) (d : Option Nat) (x : AV) : st.put d x = ⟨putE st.env d x, st.box⟩ := by cases d <;> rfl

/-- ONE QUIET OPERATION, wherever it stands in the drawn order. -/
theorem dq_sound {o : Oper} {rid : Nat} {ops : Array Oper} {out : AV} {nd : Option (Nat × Nat)} {next : Act → World → Prop} {Q : Exit → Act → World → Prop} (hJ : J C st a w ρ β)
    (hid : ∀ f, id ≤ f → f < id + 64 → ρ f = none) (hd : dstOk C.N o.dst) (h : dq P rid id ops st.box st.env o (fun x y => x = out ∧ y = nd))
    (hnd : ∀ k f, nd = some (k, f) → ∀ t, cons o = some t → (∀ s, s ≠ t → f ∉ (st.env s).labs) ∧ ∀ i xs, st.box i = some xs → ∀ x ∈ xs, f ∉ x.labs)
    (hn : ∀ v w' ρ', J C ⟨wr o out st.env, st.box⟩ (a.put o.dst v) w' ρ' β → (∀ g, ρ g = none → ¬ (id ≤ g ∧ g < id + 64) → ρ' g = none) → next (a.put o.dst v) w') : o.wp P a w next Q := by
  have fin : ∀ v w' ρ', J C st a w' ρ' β → AVRep w' ρ' β v out → (∀ g, ρ g = none → ¬ (id ≤ g ∧ g < id + 64) → ρ' g = none) → next (a.put o.dst v) w' := by
    intro v w' ρ' hJ' hv hg
    refine hn v w' ρ' ?_ hg
    have h1 := hJ'.put hd hv
    rw [put_putE] at h1
    exact h1.weaken (fun s => wr_weaken s)
  have newg : ∀ {w' ρ'}, NewFam w ρ w' ρ' id → ∀ g, ρ g = none → ¬ (id ≤ g ∧ g < id + 64) → ρ' g = none := by
    intro w' ρ' hN g hg hne
    cases hr : ρ' g with
    | none => rfl
    | some b =>
      rcases hN.new g b hr with e | e
      · rw [hg] at e; cases e
      · exact (hne ⟨e.1, e.2.1⟩).elim
  unfold Oper.wp
  obtain ⟨dst, op, ty, pos, after, guard⟩ := o
  simp only at h hd fin hnd hn
  unfold dq at h
  split at h
  · rename_i n args ts hop
    simp only at hop
    subst hop
    obtain ⟨r, hAt, ⟨hlab, hfl⟩, rfl, rfl⟩ := h
    obtain ⟨⟨fn, h1, h2, h3⟩, hcall⟩ := hAt
    rw [run_call h1 h2 h3 rfl]
    let L := args.toList.flatMap fun x => (evAV st.env x).labs
    have hcall := hcall w (args.map a.eval) (Bad (ρ.drop (inL L)) β) (by
      rintro b (⟨f, hf⟩ | ⟨i, hi⟩)
      · have : ρ f = some b := by revert hf; unfold Fam.drop; split <;> simp
        exact (hJ.apart.fam f b this).2
      · exact hJ.apart.box i b hi) (by simp) (fun j u x hu hx => by
      simp at hu hx
      obtain ⟨y, hy, rfl⟩ := hu
      obtain ⟨y', hy', rfl⟩ := hx
      rw [hy] at hy'; cases hy'
      refine arg_av hJ.apart (inL L) (hJ.ev y) (fun f hf => ?_)
      simp only [inL, List.contains_iff_mem, L, List.mem_flatMap]
      exact ⟨y, List.mem_of_getElem? (l := args.toList) (i := j) (by simpa using hy), hf⟩) (glob_arg hJ (inL L))
    refine hcall.mono ?_
    rintro e w' ⟨v, ρr, rfl, hb, hρ1, hρ2, hv⟩
    have hlab' : ∀ f ∈ r.labs, f < 64 := by
      rw [List.all_eq_true] at hlab
      intro f hf; simpa using hlab f hf
    have hN := join_new hJ.apart (id := id) hid hρ1 hρ2
    refine fin v w' _ (hJ.grow hb hN) (shift_av (beta0_even _) hv hlab' ?_) (newg hN)
    rcases Bool.or_eq_true _ _ ▸ hfl with hf | hf
    · exact .inl hf
    · right
      have hL : L = [] := by simpa [L] using hf
      intro b hnb
      rw [bad_beta0] at hnb
      rintro (⟨f, hf⟩ | ⟨i, hi⟩)
      · unfold Fam.join at hf
        split at hf
        · exact hnb (.inl ⟨_, hf⟩)
        · refine hnb (.inr (.inl ⟨f, ?_⟩))
          simp only [Fam.drop, hL]
          rw [if_neg (by simp [inL])]
          exact hf
      · exact hnb (.inr (.inr ⟨i, hi⟩))
  · rename_i args ts hop
    simp only at hop
    subst hop
    split at h
    · rename_i s x t tx hargs hts
      have ea : args = #[s, x] := by apply Array.ext'; simpa using hargs
      have et : ts = #[t, tx] := by apply Array.ext'; simpa using hts
      subst ea; subst et
      split at h
      · rename_i e ht
        split at h
        · rename_i sz by_ he
          obtain ⟨hpos, h⟩ := h
          obtain ⟨i, z, hi, hz, hzs, rfl, rfl⟩ := eInfo_some he
          split at h
          · rename_i m news hsrc
            obtain ⟨nraws, hs, hnr⟩ := src_rep hpos (hJ.ev x) hsrc
            split at h
            · rename_i f sz' n cells hsv
              split at h
              · rename_i c hc
                split at h
                · rename_i k hk
                  obtain ⟨⟨hsz, h63, hby, hrid⟩, rfl, rfl⟩ := h
                  subst hsz
                  have hsr := hJ.ev s
                  simp only [St.ev, hsv] at hsr
                  obtain ⟨v', w', ρ', hrun, hJ', hv, hg⟩ := append_ext (ty := ty) (f2 := id) hJ ht hi hz hzs (rep_cell hsr) (.inr (hid id (Nat.le_refl _) (by omega))) hs hnr h63 hby
                  rw [exec_append hrun]
                  obtain ⟨hn1, hn2⟩ := hnd k f rfl c hc
                  refine hn v' w' ρ' ?_ (fun g h1 h2 => hg g h1 (fun e => h2 ⟨by omega, by omega⟩))
                  have h1 := hJ'.put hd hv
                  rw [put_putE] at h1
                  have hbox : (st.poison (inL [f])).box = st.box := by
                    funext i
                    simp only [St.poison]
                    cases hb : st.box i with
                    | none => rfl
                    | some xs =>
                      simp only [Option.map_some, Option.some.injEq]
                      conv => rhs; rw [← List.map_id xs]
                      exact List.map_congr_left fun x hx => AC.poison_eq fun g hg => by
                        have := hn2 i xs hb x hx
                        simp only [inL, List.contains_cons, List.contains_nil, Bool.or_false, beq_eq_false_iff_ne]
                        intro e; subst e; exact this hg
                  rw [hbox] at h1
                  refine h1.weaken (fun s' => ?_)
                  unfold wr
                  rw [hc]
                  have hpo : ∀ s', s' ≠ c → (st.poison (inL [f])).env s' = st.env s' := by
                    intro s' hne
                    simp only [St.poison]
                    exact AV.poison_eq fun g hg => by
                      have := hn1 s' hne
                      simp only [inL, List.contains_cons, List.contains_nil, Bool.or_false, beq_eq_false_iff_ne]
                      intro e; subst e; exact this hg
                  cases dst with
                  | none =>
                    simp only [putE]
                    split
                    · exact .inr rfl
                    · rename_i hne; exact .inl (hpo s' hne).symm
                  | some d =>
                    simp only [putE]
                    split
                    · exact .inl rfl
                    · split
                      · exact .inr rfl
                      · rename_i hne; exact .inl (hpo s' hne).symm
                · exact h.elim
              · exact h.elim
            · rename_i hsv
              obtain ⟨⟨h63, hby⟩, rfl, rfl⟩ := h
              have hsr := hJ.ev s
              simp only [St.ev, hsv] at hsr
              obtain ⟨a0, hz0⟩ := rep_cell hsr
              have hown : ACRep w ρ β (a.eval s) (.own id i.size 0 []) := ⟨[], ⟨by simp, .inl ⟨a0, hz0, rfl⟩⟩, ⟨rfl, by simp, by simp⟩⟩
              have hid0 := hid id (Nat.le_refl _) (by omega)
              have ho : OwnRow w none i.size 0 (a.eval s) [] := ⟨by simp, .inl ⟨a0, hz0, rfl⟩⟩
              obtain ⟨v', w', b', hrun, ho', hos, htp, hout, hsize, hkeep, hb'⟩ := append_run (ty := ty) ht hi hz hzs ho hs (by omega) (by rw [Nat.zero_add]; exact hby)
              have hBl : Below w.heap.size w w' := ⟨hos, htp, hout, hsize, fun k hk => hkeep k hk (by simp)⟩
              let ρ' : Fam := fun g => if g = id then b' else ρ g
              have hN : NewFam w ρ w' ρ' id := by
                refine ⟨fun g b hg => ?_, fun g b hg => ?_, fun g g' b h1 h2 => ?_⟩
                · have : g ≠ id := fun e => by rw [e, hid0] at hg; cases hg
                  simp [ρ', this, hg]
                · simp only [ρ'] at hg
                  split at hg
                  · rename_i e; subst e
                    rcases hb' with e | ⟨e, hlt⟩
                    · rw [e] at hg; cases hg
                    · rw [e] at hg; cases hg
                      exact .inr ⟨Nat.le_refl _, by omega, Nat.le_refl _, hlt⟩
                  · exact .inl hg
                · simp only [ρ'] at h1 h2
                  have key : ∀ g, ρ g = some b → b' = some b → False := by
                    intro g hg hb
                    rcases hb' with e | ⟨e, _⟩
                    · rw [e] at hb; cases hb
                    · rw [e] at hb; cases hb; have := (hJ.apart.fam g _ hg).2; omega
                  split at h1 <;> split at h2
                  · simp_all
                  · exact (key g' h2 h1).elim
                  · exact (key g h1 h2).elim
                  · exact hJ.apart.inj g g' b h1 h2
              have hJ' := hJ.grow hBl hN
              have E := ext_of_grow (β := β) hJ.apart hBl hN
              rw [exec_append hrun]
              refine fin v' w' ρ' hJ' (.cell _ _ ⟨[] ++ nraws, ?_, ?_⟩) (newg hN)
              · simp only [ρ', if_true]; rw [Nat.zero_add] at ho'; exact ho'
              · rw [List.nil_append]; exact hnr.mono E.pure
            · exact h.elim
          · exact h.elim
        · exact h.elim
      · exact h.elim
    · exact h.elim
  · rename_i h1 h2
    split at h
    · rename_i out' ho
      obtain ⟨rfl, rfl⟩ := h
      obtain ⟨v, w', ρ', hrun, hb, hN, hv⟩ := qval_run hJ.apart (o := ⟨dst, op, ty, pos, after, guard⟩) (id := id) (fun _ => hid) hJ.box (fun x => hJ.ev x) ho
      rw [hrun]
      exact fin v w' ρ' (hJ.grow hb hN) hv (newg hN)
    · exact h.elim
end
end Go.Fw
end
section
set_option linter.all false
namespace Go.Fw
variable [Globals]
open Go.RowKit (Below)

/-! Which operations stand ahead of which, by masks. -/
def mask (acc : List Nat) : List Edge → Nat
  | [] => 0
  | e :: r => if Region.binds .any e then mask acc r ||| 2 ^ e.on ||| acc.getD e.on 0 else mask acc r

def befL : List Oper → List Nat → List Nat
  | [], acc => acc
  | o :: r, acc => befL r (acc ++ [mask acc o.after.toList])

inductive Reach (ops : Array Oper) : Nat → Nat → Prop
  | direct (i : Nat) (o : Oper) (e : Edge) (ho : ops[i]? = some o) (he : e ∈ o.after) (hb : Region.binds .any e = true) : Reach ops i e.on
  | step (i j : Nat) (o : Oper) (e : Edge) (ho : ops[i]? = some o) (he : e ∈ o.after) (hb : Region.binds .any e = true) (h : Reach ops e.on j) : Reach ops i j

theorem mask_spec (acc : List Nat) (j : Nat) : ∀ es : List Edge, (mask acc es).testBit j = true → ∃ e ∈ es, Region.binds .any e = true ∧ (e.on = j ∨ (acc.getD e.on 0).testBit j = true)
  | [], h => by simp [mask] at h
  | e :: r, h => by
    simp only [mask] at h
    split at h
    · rename_i hb
      rw [Nat.testBit_or, Nat.testBit_or, Nat.testBit_two_pow] at h
      simp only [Bool.or_eq_true, decide_eq_true_eq] at h
      rcases h with (h | h) | h
      · obtain ⟨e', he', h'⟩ := mask_spec acc j r h
        exact ⟨e', by simp [he'], h'⟩
      · exact ⟨e, by simp, hb, .inl h⟩
      · exact ⟨e, by simp, hb, .inr h⟩
    · obtain ⟨e', he', h'⟩ := mask_spec acc j r h
      exact ⟨e', by simp [he'], h'⟩

theorem befL_spec (ops : Array Oper) : ∀ (l pre : List Oper) (acc : List Nat), ops.toList = pre ++ l → acc.length = pre.length → (∀ i j, (acc.getD i 0).testBit j = true → Reach ops i j) →
    ∀ i j, ((befL l acc).getD i 0).testBit j = true → Reach ops i j
  | [], pre, acc, h1, h2, h3 => h3
  | o :: r, pre, acc, h1, h2, h3 => by
    refine befL_spec ops r (pre ++ [o]) (acc ++ [mask acc o.after.toList]) (by simp [h1]) (by simp [h2]) (fun i j h => ?_)
    rcases Nat.lt_trichotomy i acc.length with hi | hi | hi
    · rw [List.getD_eq_getElem?_getD, List.getElem?_append_left hi, ← List.getD_eq_getElem?_getD] at h
      exact h3 i j h
    · subst hi
      rw [List.getD_eq_getElem?_getD, List.getElem?_append_right (Nat.le_refl _)] at h
      simp at h
      obtain ⟨e, he, hb, h'⟩ := mask_spec acc j _ h
      have ho : ops[acc.length]? = some o := by
        rw [← Array.getElem?_toList, h1, h2, List.getElem?_append_right (Nat.le_refl _)]; simp
      rcases h' with h' | h'
      · subst h'; exact .direct _ o e ho (by simpa using he) hb
      · exact .step _ _ o e ho (by simpa using he) hb (h3 _ _ h')
    · rw [List.getD_eq_getElem?_getD, List.getElem?_eq_none (by simp; omega)] at h
      simp at h

/-- Operations i and j, where one writes what the other looks at or writes, stand in a fixed order; what an operation waits for stands ahead of it. -/
def dchk (ops : Array Oper) : Bool :=
  let b := befL ops.toList []
  (List.range ops.size).all fun i =>
    ((ops.getD i default).after.toList.all fun e => !Region.binds .any e || decide (e.on < i)) &&
    (List.range ops.size).all fun j => i == j || (wslots (ops.getD j default)).all fun s =>
      !((ops.getD i default).looksAt ops ++ wslots (ops.getD i default)).contains s || (if j < i then (b.getD i 0).testBit j else (b.getD j 0).testBit i)

def Closed (ops : Array Oper) (S : Nat → Bool) : Prop := ∀ i o, ops[i]? = some o → S i = true → ∀ e ∈ o.after, Region.binds .any e = true → S e.on = true

theorem Closed.reach {ops : Array Oper} {S : Nat → Bool} (h : Closed ops S) {i j : Nat} (hr : Reach ops i j) : S i = true → S j = true := by
  induction hr with
  | direct i o e ho he hb => exact fun hi => h i o ho hi e he hb
  | step i j o e ho he hb _ ih => exact fun hi => ih (h i o ho hi e he hb)

theorem ready_reach {ops : Array Oper} {S : Nat → Bool} (h : Closed ops S) {i j : Nat} {o : Oper} (ho : ops[i]? = some o) (hi : ∀ e ∈ o.after, Region.binds .any e = true → S e.on = true) (hr : Reach ops i j) : S j = true := by
  cases hr with
  | direct _ o' e ho' he hb => rw [ho] at ho'; cases ho'; exact hi e he hb
  | step _ _ o' e ho' he hb hr => rw [ho] at ho'; cases ho'; exact h.reach hr (hi e he hb)

structure DChk (ops : Array Oper) : Prop where
  down : ∀ i o, ops[i]? = some o → ∀ e ∈ o.after, Region.binds .any e = true → e.on < i
  pair : ∀ i j oi oj, ops[i]? = some oi → ops[j]? = some oj → i ≠ j → ∀ s ∈ wslots oj, s ∈ oi.looksAt ops ∨ s ∈ wslots oi → (j < i → Reach ops i j) ∧ (i < j → Reach ops j i)

theorem dchk_spec {ops : Array Oper} (h : dchk ops = true) : DChk ops := by
  unfold dchk at h
  simp only [List.all_eq_true, List.mem_range, Bool.and_eq_true] at h
  have hg : ∀ i o, ops[i]? = some o → i < ops.size ∧ ops.getD i default = o := by
    intro i o ho
    have hi : i < ops.size := (Array.getElem?_eq_some_iff.1 ho).1
    exact ⟨hi, by rw [Array.getD_eq_getD_getElem?, ho]; rfl⟩
  have hbef := befL_spec ops ops.toList [] [] rfl rfl (by simp)
  refine ⟨fun i o ho e he hb => ?_, fun i j oi oj hi hj hne s hs hl => ?_⟩
  · obtain ⟨h1, h2⟩ := hg i o ho
    have := (h i h1).1 e (by rw [h2]; simpa using he)
    simpa [hb] using this
  · obtain ⟨i1, i2⟩ := hg i oi hi
    obtain ⟨j1, j2⟩ := hg j oj hj
    have := (h i i1).2 j j1
    simp only [Bool.or_eq_true, beq_iff_eq, hne, false_or, List.all_eq_true] at this
    have := this s (by rw [j2]; exact hs)
    rw [i2] at this
    have hc : (oi.looksAt ops ++ wslots oi).contains s = true := by
      rw [List.contains_iff_mem, List.mem_append]; exact hl
    rw [hc] at this
    simp only [Bool.not_true, Bool.false_eq_true, false_or] at this
    refine ⟨fun hlt => hbef i j ?_, fun hlt => hbef j i ?_⟩
    · rwa [if_pos hlt] at this
    · rwa [if_neg (by omega)] at this

section
variable {ops : Array Oper} {outs : List AV} {env0 : Nat → AV}

theorem getD_of {i : Nat} {o : Oper} (h : ops[i]? = some o) : ops.getD i default = o := by rw [Array.getD_eq_getD_getElem?, h]; rfl

/-- What operation i looks at reads as in the order of the text. -/
theorem envOf_agree (hD : DChk ops) {S : Nat → Bool} (hS : Closed ops S) {i : Nat} {o : Oper} (ho : ops[i]? = some o) (hi : S i = false) (hready : ∀ e ∈ o.after, Region.binds .any e = true → S e.on = true)
    (m : Nat) (hm : m ≤ ops.size) (him : i < m) : agreeOn (o.looksAt ops) (envOf ops outs env0 S m) (envOf ops outs env0 (fun _ => true) i) := by
  intro s hs
  have key : ∀ k, k ≤ m → envOf ops outs env0 S k s = envOf ops outs env0 (fun _ => true) (min k i) s := by
    intro k
    induction k with
    | zero => intro _; simp [envOf]
    | succ k ih =>
      intro hk
      have ihk := ih (by omega)
      have hks : k < ops.size := by omega
      have hok : ops[k]? = some ops[k] := Array.getElem?_eq_getElem hks
      simp only [envOf]
      by_cases hw : s ∈ wslots ops[k]
      · rcases Nat.lt_trichotomy k i with hlt | heq | hgt
        · have hr := (hD.pair i k o ops[k] ho hok (by omega) s hw (.inl hs)).1 hlt
          have hSk := ready_reach hS ho hready hr
          rw [if_pos hSk]
          have e1 : min (k + 1) i = k + 1 := by omega
          have e2 : min k i = k := by omega
          rw [e2] at ihk
          rw [e1]
          simp only [envOf, if_true]
          rw [getD_of hok]
          unfold wr
          have hd : ∀ (d : Option Nat) (x : AV) (e e' : Nat → AV), (s ∉ d.toList → e s = e' s) → putE e d x s = putE e' d x s := by
            intro d x e e' h
            cases d with
            | none => exact h (by simp)
            | some d => simp only [putE]; split; rfl; rename_i hne; exact h (by simp; exact hne)
          exact hd _ _ _ _ fun _ => hd _ _ _ _ fun _ => ihk
        · subst heq
          rw [if_neg (by rw [hi]; simp), ihk]
          congr 1; omega
        · have hr := (hD.pair i k o ops[k] ho hok (by omega) s hw (.inl hs)).2 hgt
          have : S k = false := by
            cases hSk : S k with
            | false => rfl
            | true => have := hS.reach hr hSk; rw [hi] at this; cases this
          rw [if_neg (by rw [this]; simp), ihk]
          congr 1; omega
      · have e0 : (if S k = true then wr (ops.getD k default) (outs.getD k .bad) (envOf ops outs env0 S k) else envOf ops outs env0 S k) s = envOf ops outs env0 S k s := by
          split
          · exact wr_other (o := ops[k]) hw
          · rfl
        rw [e0, ihk]
        rcases Nat.lt_or_ge k i with hlt | hge
        · have e1 : min (k + 1) i = k + 1 := by omega
          have e2 : min k i = k := by omega
          rw [e1, e2]
          simp only [envOf, if_true]
          rw [getD_of hok, wr_other hw]
        · congr 1; omega
  have := key m (Nat.le_refl _)
  rw [this]
  congr 1; omega

def addS (S : Nat → Bool) (i : Nat) : Nat → Bool := fun k => decide (k = i) || S k

/-- One operation more. -/
theorem envOf_add (hD : DChk ops) {S : Nat → Bool} (hS : Closed ops S) {i : Nat} {o : Oper} (ho : ops[i]? = some o) (hi : S i = false) (m : Nat) (hm : m ≤ ops.size) (him : i < m) :
    envOf ops outs env0 (addS S i) m = wr o (outs.getD i .bad) (envOf ops outs env0 S m) := by
  funext s
  have before : ∀ k, k ≤ i → envOf ops outs env0 (addS S i) k = envOf ops outs env0 S k := by
    intro k
    induction k with
    | zero => intro _; rfl
    | succ k ih =>
      intro hk
      simp only [envOf, ih (by omega)]
      have : addS S i k = S k := by simp [addS]; omega
      rw [this]
  have key : ∀ k, i < k → k ≤ m → envOf ops outs env0 (addS S i) k s = wr o (outs.getD i .bad) (envOf ops outs env0 S k) s := by
    intro k
    induction k with
    | zero => intro h; omega
    | succ k ih =>
      intro hik hk
      have hok : ops[k]? = some ops[k] := Array.getElem?_eq_getElem (by omega)
      rcases Nat.lt_or_ge i k with hlt | hge
      · have ihk := ih hlt (by omega)
        have hSk : addS S i k = S k := by simp [addS]; omega
        simp only [envOf, hSk]
        split
        · rename_i hSk'
          rw [getD_of hok]
          by_cases hw : s ∈ wslots ops[k]
          · by_cases hwo : s ∈ wslots o
            · have hr := (hD.pair i k o ops[k] ho hok (by omega) s hw (.inr hwo)).2 hlt
              have := hS.reach hr hSk'
              rw [hi] at this; cases this
            · rw [wr_other hwo]
              have hd : ∀ (d : Option Nat) (x : AV) (e e' : Nat → AV), (s ∉ d.toList → e s = e' s) → putE e d x s = putE e' d x s := by
                intro d x e e' h
                cases d with
                | none => exact h (by simp)
                | some d => simp only [putE]; split; rfl; rename_i hne; exact h (by simp; exact hne)
              rw [wr_other hwo] at ihk
              exact hd _ _ _ _ fun _ => hd _ _ _ _ fun _ => ihk
          · rw [wr_other hw, ihk]
            by_cases hwo : s ∈ wslots o
            · have hd : ∀ (d : Option Nat) (x : AV) (e e' : Nat → AV), (s ∉ d.toList → e s = e' s) → putE e d x s = putE e' d x s := by
                intro d x e e' h
                cases d with
                | none => exact h (by simp)
                | some d => simp only [putE]; split; rfl; rename_i hne; exact h (by simp; exact hne)
              unfold wr
              refine hd _ _ _ _ fun _ => hd _ _ _ _ fun _ => ?_
              exact (wr_other (o := ops[k]) (out := outs.getD k .bad) (env := envOf ops outs env0 S k) hw).symm
            · rw [wr_other hwo, wr_other hwo, wr_other hw]
        · exact ihk
      · have : k = i := by omega
        subst this
        have hSk : addS S k k = true := by simp [addS]
        simp only [envOf, hSk, if_true, hi]
        rw [getD_of ho, before k (Nat.le_refl _)]
        simp
  exact key m him (Nat.le_refl _)

/-- A family that one result alone names stands in that result's slot alone. -/
theorem envOf_labs {f k : Nat} (h0 : ∀ s, f ∉ (env0 s).labs) (hk : ∀ j, j ≠ k → f ∉ (outs.getD j .bad).labs) {S : Nat → Bool} : ∀ (m : Nat) (s : Nat), f ∈ (envOf ops outs env0 S m s).labs → (ops.getD k default).dst = some s
  | 0, s, h => (h0 s h).elim
  | m + 1, s, h => by
    simp only [envOf] at h
    split at h
    · unfold wr at h
      cases hd : (ops.getD m default).dst with
      | none =>
        rw [hd] at h
        simp only [putE] at h
        cases hc : cons (ops.getD m default) with
        | none => rw [hc] at h; exact envOf_labs h0 hk m s h
        | some t =>
          rw [hc] at h
          simp only at h
          split at h
          · simp [AV.labs] at h
          · exact envOf_labs h0 hk m s h
      | some d =>
        rw [hd] at h
        simp only [putE] at h
        split at h
        · rename_i e
          by_cases hmk : m = k
          · subst hmk; rw [hd, e]
          · exact (hk m hmk h).elim
        · cases hc : cons (ops.getD m default) with
          | none => rw [hc] at h; exact envOf_labs h0 hk m s h
          | some t =>
            rw [hc] at h
            simp only at h
            split at h
            · simp [AV.labs] at h
            · exact envOf_labs h0 hk m s h
    · exact envOf_labs h0 hk m s h
end

theorem retire_labs_ac (F : Nat → Bool) (x : AC) : ∀ f ∈ (x.retire F).labs, F f = false := by
  intro f hf
  cases x <;> simp only [AC.retire] at hf <;> try (simp [AC.labs] at hf; done)
  · split at hf
    · simp [AC.labs] at hf
    · rename_i h; simp [AC.labs] at hf; subst hf; simpa using h
  · split at hf
    · simp [AC.labs] at hf
    · rename_i h; simp [AC.labs] at hf; subst hf; simpa using h
  · split at hf
    · simp [AC.labs] at hf
    · rename_i h; simp [AC.labs] at hf; subst hf; simpa using h
  · rename_i k cells pos
    cases k with
    | none => simp [AC.labs] at hf
    | some g =>
      simp only at hf
      split at hf
      · simp [AC.labs] at hf
      · rename_i h; simp [AC.labs] at hf; subst hf; simpa using h
  · split at hf
    · simp [AC.labs] at hf
    · rename_i h; simp [AC.labs] at hf; subst hf; simpa using h
  · split at hf
    · split at hf <;> simp [AC.labs] at hf
    · rename_i h
      simp only [AC.labs, List.mem_cons, List.mem_flatMap, List.mem_map] at hf
      rcases hf with rfl | ⟨_, ⟨x, _, rfl⟩, hf⟩
      · simpa using h
      · cases x <;> simp only [MV.retire] at hf <;> try (simp [MV.labs] at hf; done)
        split at hf
        · simp [MV.labs] at hf
        · rename_i h; simp [MV.labs] at hf; subst hf; simpa using h

theorem retire_labs (F : Nat → Bool) : ∀ (x : AV), ∀ f ∈ (x.retire F).labs, F f = false
  | .cell x => retire_labs_ac F x
  | .agg xs => by
    intro f hf
    simp only [AV.retire, AV.labs, List.mem_flatMap, List.mem_map] at hf
    obtain ⟨_, ⟨x, _, rfl⟩, hf⟩ := hf
    exact retire_labs_ac F x f hf
  | .tup xs => by
    intro f hf
    simp only [AV.retire, AV.labs] at hf
    exact go xs f hf
  | .bad => by intro f hf; simp [AV.retire, AV.labs] at hf
where
  go : ∀ (xs : List AV), ∀ f ∈ AV.labs.go (AV.retire.go F xs), F f = false
    | [], f, hf => by simp [AV.retire.go, AV.labs.go] at hf
    | x :: xs, f, hf => by
      simp only [AV.retire.go, AV.labs.go, List.mem_append] at hf
      rcases hf with h | h
      · exact retire_labs F x f h
      · exact go xs f h

/-! ### The rule -/
def isBar : Op → Bool
  | .store _ _ _ => true
  | .mapUpdate _ _ _ _ => true
  | _ => false
/-- Where the stores begin. -/
def barAt (l : List Oper) : Nat := l.findIdx fun o => isBar o.op
/-- From there on the operations stand in one order. -/
def barChk (ops : Array Oper) (m : Nat) : Bool := (List.range (ops.size - m)).all fun k => (match ops[m + k]? with | some o => o.guard.isNone | none => true) && (List.range (m + k)).all fun j => ((befL ops.toList []).getD (m + k) 0).testBit j
/-- The stores, one after the other. -/
def tops (P : Program) (rid : Nat) : Nat → List Oper → St → (St → Prop) → Prop
  | _, [], st, K => K st
  | i, o :: rest, st, K => fop P (rid * 65536 + i * 64) o.op st fun out st' => tops P rid (i + 1) rest (st'.put o.dst out) K

/-- The quiet operations of a region, in the order of the text. -/
def dgo (P : Program) (rid : Nat) (ops : Array Oper) (bx : Nat → Option (List AC)) : Nat → List Oper → (Nat → AV) → List AV → List (Nat × Nat) → (List AV → List (Nat × Nat) → (Nat → AV) → Prop) → Prop
  | _, [], env, outs, nds, K => K outs nds env
  | i, o :: rest, env, outs, nds, K => dstep P rid i ops bx env o fun out nd => dgo P rid ops bx (i + 1) rest (wr o out env) (outs ++ [out]) (nd.toList ++ nds) K

def ndOk (outs : List AV) (nds : List (Nat × Nat)) : Bool := nds.all fun p => (List.range outs.length).all fun j => j == p.1 || !(outs.getD j .bad).labs.contains p.2

/-- A REGION THAT DRAWS ITS ORDER: quiet operations, and stores behind all of them. -/
def dops (P : Program) (rid : Nat) (ops : Array Oper) (st : St) (K : St → Prop) : Prop :=
  (dchk ops = true ∧ ops.size ≤ 1024) ∧ ∃ m, m ≤ ops.size ∧ barChk ops m = true ∧
    dgo P rid ops (st.retire (isRid rid)).box 0 (ops.toList.take m) (st.retire (isRid rid)).env [] [] fun outs nds env => ndOk outs nds = true ∧ tops P rid m (ops.toList.drop m) ⟨env, (st.retire (isRid rid)).box⟩ K

section
variable {P : Program} {rid : Nat} {ops : Array Oper} {bx : Nat → Option (List AC)} {env0 : Nat → AV}

theorem envOf_congr {outs outs' : List AV} {S S' : Nat → Bool} : ∀ m, (∀ j, j < m → outs.getD j .bad = outs'.getD j .bad ∧ S j = S' j) → envOf ops outs env0 S m = envOf ops outs' env0 S' m
  | 0, _ => rfl
  | m + 1, h => by
    simp only [envOf, envOf_congr m (fun j hj => h j (by omega)), (h m (by omega)).1, (h m (by omega)).2]

theorem dgo_spec {K : List AV → List (Nat × Nat) → (Nat → AV) → Prop} : ∀ (l pre tail : List Oper) (outs : List AV) (nds : List (Nat × Nat)) (env : Nat → AV), ops.toList = pre ++ l ++ tail → outs.length = pre.length →
    env = envOf ops outs env0 (fun _ => true) pre.length → dgo P rid ops bx pre.length l env outs nds K →
    ∃ outs2 nds2, outs2.length = pre.length + l.length ∧ (∀ j, j < pre.length → outs2.getD j .bad = outs.getD j .bad) ∧ K outs2 nds2 (envOf ops outs2 env0 (fun _ => true) (pre.length + l.length)) ∧ (∀ p ∈ nds, p ∈ nds2) ∧
      ∀ j o, pre.length ≤ j → j < pre.length + l.length → ops[j]? = some o → ∃ nd : Option (Nat × Nat), (∀ p, nd = some p → p ∈ nds2) ∧
        dstep P rid j ops bx (envOf ops outs2 env0 (fun _ => true) j) o (fun x y => x = outs2.getD j .bad ∧ y = nd)
  | [], pre, tail, outs, nds, env, h1, h2, h3, h => by
    refine ⟨outs, nds, by simpa using h2, fun _ _ => rfl, ?_, fun _ h => h, fun j o hj hj' => by simp at hj'; omega⟩
    simp only [List.length_nil, Nat.add_zero]
    rw [← h3]; exact h
  | o :: rest, pre, tail, outs, nds, env, h1, h2, h3, h => by
    obtain ⟨out, nd, hK, hs⟩ := dstep_split h
    have ho : ops[pre.length]? = some o := by
      rw [← Array.getElem?_toList, h1, List.append_assoc, List.getElem?_append_right (Nat.le_refl _)]; simp
    have hout : ∀ j, j < pre.length → (outs ++ [out]).getD j .bad = outs.getD j .bad := by
      intro j hj
      rw [List.getD_eq_getElem?_getD, List.getElem?_append_left (by omega), ← List.getD_eq_getElem?_getD]
    have hlast : (outs ++ [out]).getD pre.length .bad = out := by
      rw [List.getD_eq_getElem?_getD, ← h2, List.getElem?_append_right (Nat.le_refl _)]; simp
    have henv : wr o out env = envOf ops (outs ++ [out]) env0 (fun _ => true) (pre ++ [o]).length := by
      rw [List.length_append, List.length_singleton]
      simp only [envOf, if_true, hlast, getD_of ho]
      rw [h3, envOf_congr pre.length (fun j hj => ⟨(hout j hj).symm, rfl⟩)]
    obtain ⟨outs2, nds2, a1, a2, a3, a4, a5⟩ := dgo_spec rest (pre ++ [o]) tail (outs ++ [out]) (nd.toList ++ nds) (wr o out env) (by simp [h1]) (by simp [h2]) henv (by simpa using hK)
    have hlen : (pre ++ [o]).length = pre.length + 1 := by simp
    rw [hlen] at a1 a2 a3 a5
    have hl : pre.length + (o :: rest).length = pre.length + 1 + rest.length := by simp; omega
    rw [hl]
    refine ⟨outs2, nds2, a1, fun j hj => (a2 j (by omega)).trans (hout j hj), a3, fun p hp => a4 p (by simp [hp]), fun j o' hj hj' ho' => ?_⟩
    rcases Nat.lt_or_ge pre.length j with hlt | hge
    · exact a5 j o' (by omega) hj' ho'
    · have : j = pre.length := by omega
      subst this
      rw [ho] at ho'; cases ho'
      refine ⟨nd, fun p hp => a4 p (by simp [hp]), ?_⟩
      have e1 : outs2.getD pre.length .bad = out := by rw [a2 pre.length (by omega), hlast]
      have e2 : envOf ops outs2 env0 (fun _ => true) pre.length = env := by
        rw [h3]; exact envOf_congr _ (fun j hj => ⟨(a2 j (by omega)).trans (hout j hj), rfl⟩)
      rw [e1, e2]; exact hs

theorem J.drew {C : Cx} {st : St} {a : Act} {w : World} {ρ β : Fam} (h : J C st a w ρ β) (n : Nat) : J C st a { w with drawn := n } ρ β :=
  h.grow (id := 0) ⟨rfl, rfl, rfl, Nat.le_refl _, fun _ _ => rfl⟩ (NewFam.refl h.apart 0)

def unl (n : Nat) (S : Nat → Bool) : Nat := ((List.range n).filter fun j => !S j).length

theorem unl_add {n : Nat} {S : Nat → Bool} {i : Nat} (hi : i < n) (hS : S i = false) : unl n (addS S i) < unl n S := by
  unfold unl
  have e : (List.range n).filter (fun j => !addS S i j) = ((List.range n).filter fun j => !S j).filter (fun j => decide (j ≠ i)) := by
    rw [List.filter_filter]
    congr 1
    funext j
    simp [addS, Bool.and_comm]
  rw [e, List.length_filter_lt_length_iff_exists]
  exact ⟨i, by simp [hi, hS], by simp⟩

theorem mem_ready' {listed : Array Bool} {i : Nat} : i ∈ Region.ready .any ops listed ↔ ∃ o, ops[i]? = some o ∧ listed.getD i true = false ∧ ∀ e ∈ o.after, Region.binds .any e = true → listed.getD e.on false = true := by
  unfold Region.ready
  rw [List.mem_filter]
  constructor
  · rintro ⟨h1, h2⟩
    rw [List.mem_range] at h1
    refine ⟨ops[i], Array.getElem?_eq_getElem h1, ?_⟩
    simp only [Bool.and_eq_true, Bool.not_eq_true', Array.getElem?_eq_getElem h1, Option.map_some, Option.getD_some, Array.all_eq_true'] at h2
    refine ⟨h2.1, fun e he hb => ?_⟩
    have := h2.2 e he
    simpa [hb] using this
  · rintro ⟨o, ho, h1, h2⟩
    refine ⟨List.mem_range.2 (Array.getElem?_eq_some_iff.1 ho).1, ?_⟩
    simp only [Bool.and_eq_true, Bool.not_eq_true', ho, Option.map_some, Option.getD_some, Array.all_eq_true']
    refine ⟨h1, fun e he => ?_⟩
    cases hb : Region.binds .any e with
    | false => simp
    | true => simp [h2 e he hb]

theorem ready_nil {listed : Array Bool} (hsz : listed.size = ops.size) (hD : DChk ops) (h : Region.ready .any ops listed = []) : ∀ i, i < ops.size → listed.getD i false = true := by
  intro i
  induction i using Nat.strongRecOn with
  | _ i ih =>
    intro hi
    cases hl : listed.getD i false with
    | true => rfl
    | false =>
      have : i ∈ Region.ready .any ops listed := mem_ready'.2 ⟨ops[i], Array.getElem?_eq_getElem hi, by
        rw [Array.getD_eq_getD_getElem?, Array.getElem?_eq_getElem (by omega)] at hl ⊢; simpa using hl, fun e he hb => by
        have := hD.down i ops[i] (Array.getElem?_eq_getElem hi) e he hb
        exact ih e.on this (by omega)⟩
      rw [h] at this; cases this

theorem wpAny_done' {listed : Array Bool} {Q : Exit → Act → World → Prop} {a : Act} {w : World} (hall : ∀ i, i < ops.size → listed.getD i true = true) (hQ : Q .normal a w) : ∀ fuel, wpAny P .any ops Q fuel listed a w := by
  have hr : Region.ready .any ops listed = [] := by
    cases h : Region.ready .any ops listed with
    | nil => rfl
    | cons i r =>
      obtain ⟨o, ho, h1, _⟩ := mem_ready'.1 (show i ∈ Region.ready .any ops listed by rw [h]; simp)
      have := hall i (Array.getElem?_eq_some_iff.1 ho).1
      rw [this] at h1; cases h1
  intro fuel
  cases fuel with
  | zero => exact ⟨hr, hQ⟩
  | succ fuel => exact ⟨fun _ => hQ, fun i hi => by rw [hr] at hi; cases hi⟩

/-- Operations in the order of the text. -/
def seqRun (P : Program) (Q : Exit → Act → World → Prop) : List Oper → Act → World → Prop
  | [], a, w => Q .normal a w
  | o :: l, a, w => o.wp P a w (seqRun P Q l) Q

theorem seq_any (hD : DChk ops) {Q : Exit → Act → World → Prop} : ∀ (fuel i : Nat) (listed : Array Bool) (a : Act) (w : World), i ≤ ops.size → (∀ k o, i ≤ k → ops[k]? = some o → o.guard = none ∧ ∀ j, j < k → Reach ops k j) →
    listed.size = ops.size → (∀ j, j < i → listed.getD j false = true) → (∀ j, i ≤ j → listed.getD j false = false) → ops.size - i ≤ fuel → seqRun P Q (ops.toList.drop i) a w → wpAny P .any ops Q fuel listed a w := by
  intro fuel
  have fin : ∀ (i : Nat) (listed : Array Bool) (a : Act) (w : World), i ≤ ops.size → ¬ i < ops.size → listed.size = ops.size → (∀ j, j < i → listed.getD j false = true) → seqRun P Q (ops.toList.drop i) a w → ∀ fuel, wpAny P .any ops Q fuel listed a w := by
    intro i listed a w hi hn hsz h1 hr fuel
    have : i = ops.size := by omega
    subst this
    have hr' : seqRun P Q [] a w := by rw [List.drop_eq_nil_of_le (by simp)] at hr; exact hr
    refine wpAny_done' (fun k hk => ?_) hr' fuel
    have := h1 k hk
    rw [Array.getD_eq_getD_getElem?, Array.getElem?_eq_getElem (by omega)] at this ⊢; simpa using this
  induction fuel with
  | zero =>
    intro i listed a w hi ht hsz h1 h2 hf hr
    exact fin i listed a w hi (by omega) hsz h1 hr 0
  | succ fuel ih =>
    intro i listed a w hi ht hsz h1 h2 hf hr
    by_cases hlt : i < ops.size
    · have ho : ops[i]? = some ops[i] := Array.getElem?_eq_getElem hlt
      have hcl : Closed ops (fun j => listed.getD j false) := by
        intro k ok hok hk e he hb
        have hk' : k < i := by
          rcases Nat.lt_or_ge k i with h | h
          · exact h
          · have := h2 k h; simp only at hk; rw [this] at hk; cases hk
        exact h1 e.on (by have := hD.down k ok hok e he hb; omega)
      have hdrop : ops.toList.drop i = ops[i] :: ops.toList.drop (i + 1) := by rw [List.drop_eq_getElem_cons (by simpa using hlt)]; simp
      rw [hdrop] at hr
      refine ⟨fun hn => ?_, fun i' hi' => ?_⟩
      · have := ready_nil hsz hD hn i hlt
        rw [h2 i (Nat.le_refl _)] at this; cases this
      · obtain ⟨o', ho', hi0, hready⟩ := mem_ready'.1 hi'
        have hin : i' < ops.size := (Array.getElem?_eq_some_iff.1 ho').1
        have hi1 : listed.getD i' false = false := by
          rw [Array.getD_eq_getD_getElem?, Array.getElem?_eq_getElem (by omega)] at hi0 ⊢; simpa using hi0
        have hge : i ≤ i' := by
          rcases Nat.lt_or_ge i' i with h | h
          · rw [h1 i' h] at hi1; cases hi1
          · exact h
        have he : i' = i := by
          rcases Nat.lt_or_ge i i' with h | h
          · have := ready_reach hcl ho' hready ((ht i' o' hge ho').2 i h)
            simp only [h2 i (Nat.le_refl _)] at this; cases this
          · omega
        subst he
        simp only [wpOp, ho']
        rw [ho] at ho'; cases ho'
        rw [if_pos (wanted_none (ht i' _ (Nat.le_refl _) ho).1)]
        have hset : ∀ j, (listed.setIfInBounds i' true).getD j false = addS (fun j => listed.getD j false) i' j := by
          intro j
          simp only [Array.getD_eq_getD_getElem?, Array.getElem?_setIfInBounds, addS]
          by_cases h : i' = j
          · subst h; simp [hsz, hin]
          · rw [if_neg h]
            have : decide (j = i') = false := by simp; omega
            simp [this]
        refine .inl (Oper.wp_mono (fun a' w' hq => ih (i' + 1) _ a' w' (by omega) (fun k o hk => ht k o (by omega)) (by simp [hsz]) (fun j hj => ?_) (fun j hj => ?_) (by omega) hq) hr)
        · rw [hset]
          simp only [addS, Bool.or_eq_true, decide_eq_true_eq]
          rcases Nat.lt_or_ge j i' with h | h
          · exact .inr (h1 j h)
          · exact .inl (by omega)
        · rw [hset]
          have : decide (j = i') = false := by simp; omega
          simp only [addS, this, Bool.false_or]
          exact h2 j (by omega)
    · exact fin i listed a w hi hlt hsz h1 hr _

/-- THE RUN, WHATEVER THE ORDER. -/
theorem drawn_run {C : Cx} {Q : Exit → Act → World → Prop} {outs : List AV} {m : Nat} (hD : DChk ops) (hm : m ≤ ops.size) (hd : ∀ o ∈ ops.toList, dstOk C.N o.dst)
    (hstep : ∀ j o, j < m → ops[j]? = some o → ∃ nd : Option (Nat × Nat), dstep P rid j ops bx (envOf ops outs env0 (fun _ => true) j) o (fun x y => x = outs.getD j .bad ∧ y = nd) ∧
      ∀ k f, nd = some (k, f) → (∀ s, f ∉ (env0 s).labs) ∧ (∀ i, i ≠ k → f ∉ (outs.getD i .bad).labs) ∧ (∀ i xs, bx i = some xs → ∀ x ∈ xs, f ∉ x.labs) ∧ ∀ t, cons o = some t → (ops.getD k default).dst = some t)
    (hbar : ∀ k o, m ≤ k → ops[k]? = some o → o.guard = none ∧ ∀ j, j < k → Reach ops k j)
    (hfin : ∀ a w ρ β, J C ⟨envOf ops outs env0 (fun _ => true) m, bx⟩ a w ρ β → seqRun P Q (ops.toList.drop m) a w) :
    ∀ (fuel : Nat) (listed : Array Bool) (a : Act) (w : World) (ρ β : Fam), listed.size = ops.size → Closed ops (fun j => listed.getD j false) → (∀ j, m ≤ j → listed.getD j false = false) → unl ops.size (fun j => listed.getD j false) ≤ fuel →
      J C ⟨envOf ops outs env0 (fun j => listed.getD j false) m, bx⟩ a w ρ β → (∀ j, j < m → listed.getD j false = false → ∀ f, rid * 65536 + j * 64 ≤ f → f < rid * 65536 + j * 64 + 64 → ρ f = none) → wpAny P .any ops Q fuel listed a w := by
  intro fuel
  -- the quiet ones are done
  have hall : ∀ (fuel : Nat) (listed : Array Bool), listed.size = ops.size → unl ops.size (fun j => listed.getD j false) ≤ fuel → (∀ j, m ≤ j → listed.getD j false = false) → (∀ i, i < m → listed.getD i false = true) → ∀ a w ρ β, J C ⟨envOf ops outs env0 (fun j => listed.getD j false) m, bx⟩ a w ρ β → wpAny P .any ops Q fuel listed a w := by
    intro fuel listed hsz hu hq hal a w ρ β hJ
    rw [envOf_congr (outs' := outs) (S' := fun _ => true) m (fun j hj => ⟨rfl, hal j hj⟩)] at hJ
    refine seq_any hD fuel m listed a w hm hbar hsz hal hq ?_ (hfin a w ρ β hJ)
    refine Nat.le_trans ?_ hu
    unfold unl
    have hsub : ((List.range ops.size).filter fun j => decide (m ≤ j)).length ≤ ((List.range ops.size).filter fun j => !listed.getD j false).length := by
      have e : (List.range ops.size).filter (fun j => decide (m ≤ j)) = ((List.range ops.size).filter fun j => !listed.getD j false).filter (fun j => decide (m ≤ j)) := by
        rw [List.filter_filter]
        apply List.filter_congr
        intro j _
        by_cases h : m ≤ j
        · simp [h, hq j h]
        · simp [h]
      rw [e]; exact List.length_filter_le _ _
    refine Nat.le_trans ?_ hsub
    have hlen : ∀ n, n - m ≤ ((List.range n).filter fun j => decide (m ≤ j)).length := by
      intro n
      induction n with
      | zero => simp
      | succ n ihn =>
        rw [List.range_succ, List.filter_append, List.length_append]
        by_cases h : m ≤ n
        · simp [h]; omega
        · simp [h]; omega
    exact hlen _
  induction fuel with
  | zero =>
    intro listed a w ρ β hsz hcl hq hu hJ hfr
    refine hall 0 listed hsz hu hq (fun i hi => ?_) a w ρ β hJ
    cases hl : listed.getD i false with
    | true => rfl
    | false =>
      have : i ∈ (List.range ops.size).filter fun j => !listed.getD j false := by rw [List.mem_filter]; exact ⟨List.mem_range.2 (by omega), by rw [hl]; rfl⟩
      have : 0 < unl ops.size (fun j => listed.getD j false) := List.length_pos_of_mem this
      omega
  | succ fuel ih =>
    intro listed a w ρ β hsz hcl hq hu hJ hfr
    by_cases hdone : ∀ i, i < m → listed.getD i false = true
    · exact hall (fuel + 1) listed hsz hu hq hdone a w ρ β hJ
    refine ⟨fun hr => ?_, fun i hi => ?_⟩
    · exact (hdone fun i hi => ready_nil hsz hD hr i (by omega)).elim
    obtain ⟨o, ho, hi0, hready⟩ := mem_ready'.1 hi
    have hin : i < ops.size := (Array.getElem?_eq_some_iff.1 ho).1
    have hi1 : listed.getD i false = false := by
      rw [Array.getD_eq_getD_getElem?, Array.getElem?_eq_getElem (by omega)] at hi0 ⊢; simpa using hi0
    have hset : ∀ j, (listed.setIfInBounds i true).getD j false = addS (fun j => listed.getD j false) i j := by
      intro j
      simp only [Array.getD_eq_getD_getElem?, Array.getElem?_setIfInBounds, addS]
      by_cases h : i = j
      · subst h; simp [hsz, hin]
      · rw [if_neg h]
        have : decide (j = i) = false := by simp; omega
        simp [this]
    have hsetf : (fun j => (listed.setIfInBounds i true).getD j false) = addS (fun j => listed.getD j false) i := funext hset
    have hsz' : (listed.setIfInBounds i true).size = ops.size := by simp [hsz]
    have hmem : o ∈ ops.toList := by
      have := Array.mem_of_getElem? ho
      simpa using this
    simp only [wpOp, ho]
    rcases Nat.lt_or_ge i m with him | him
    · -- a quiet operation
      obtain ⟨nd, hs, hnd⟩ := hstep i o him ho
      have hag := envOf_agree (outs := outs) (env0 := env0) hD hcl ho hi1 hready m hm him
      have hs' := dstep_congr (env' := envOf ops outs env0 (fun j => listed.getD j false) m) (fun s h => (hag s h).symm) hs
      have hadd := envOf_add (outs := outs) (env0 := env0) hD hcl ho hi1 m hm him
      have hcl' : Closed ops (addS (fun j => listed.getD j false) i) := by
        intro k ok hok hk e he hb
        simp only [addS, Bool.or_eq_true, decide_eq_true_eq] at hk ⊢
        rcases hk with rfl | hk
        · rw [ho] at hok; cases hok
          exact .inr (hready e he hb)
        · exact .inr (hcl k ok hok hk e he hb)
      have hq' : ∀ j, m ≤ j → (listed.setIfInBounds i true).getD j false = false := by
        intro j hj
        rw [hset]
        have : decide (j = i) = false := by simp; omega
        simp only [addS, this, Bool.false_or]
        exact hq j hj
      have hu' : unl ops.size (fun j => (listed.setIfInBounds i true).getD j false) ≤ fuel := by
        rw [hsetf]
        have := unl_add (S := fun j => listed.getD j false) hin hi1
        omega
      have onward : ∀ a' w' ρ', J C ⟨wr o (outs.getD i .bad) (envOf ops outs env0 (fun j => listed.getD j false) m), bx⟩ a' w' ρ' β →
          (∀ g, ρ g = none → ¬ (rid * 65536 + i * 64 ≤ g ∧ g < rid * 65536 + i * 64 + 64) → ρ' g = none) → wpAny P .any ops Q fuel (listed.setIfInBounds i true) a' w' := by
        intro a' w' ρ' hJ' hg
        refine ih _ a' w' ρ' β hsz' (by rw [hsetf]; exact hcl') hq' hu' (by rw [hsetf, hadd]; exact hJ') (fun j hj hjl f hf1 hf2 => ?_)
        rw [hset] at hjl
        simp only [addS, Bool.or_eq_false_iff, decide_eq_false_iff_not] at hjl
        refine hg f (hfr j hj hjl.2 f hf1 hf2) (fun hc => ?_)
        have hji := hjl.1
        omega
      have run : dq P rid (rid * 65536 + i * 64) ops bx (envOf ops outs env0 (fun j => listed.getD j false) m) o (fun x y => x = outs.getD i .bad ∧ y = nd) → o.wp P a w (wpAny P .any ops Q fuel (listed.setIfInBounds i true)) Q := by
        intro hdq
        refine dq_sound (st := ⟨envOf ops outs env0 (fun j => listed.getD j false) m, bx⟩) hJ (hfr i him hi1) (hd o hmem) hdq (fun k f hkf t ht => ?_) (fun v w' ρ' hJ' hg => onward _ w' ρ' hJ' hg)
        obtain ⟨h0, h1, h2, h3⟩ := hnd k f hkf
        refine ⟨fun s hs hl => ?_, h2⟩
        have := envOf_labs (ops := ops) h0 h1 m s hl
        rw [h3 t ht] at this
        cases this; exact hs rfl
      unfold dstep at hs'
      split at hs'
      · rename_i hg
        rw [if_pos (wanted_none hg)]
        exact .inl (run hs')
      · rename_i j want hg
        split at hs'
        · rename_i b hb
          have hy := wanted_of hJ hb
          cases b with
          | true =>
            rw [if_pos (by simp only [Region.wanted, hg]; exact hy)]
            exact .inl (run (hs'.1 rfl))
          | false =>
            rw [if_neg (by simp only [Region.wanted, hg]; rw [hy]; simp)]
            obtain ⟨hb1, _⟩ := hs'.2 rfl
            have h1 := hJ.put (hd o hmem) (v := undef) (x := uV) (.tup _ _ rfl (by simp))
            rw [put_putE] at h1
            refine onward _ w ρ ?_ (fun g hg _ => hg)
            rw [← hb1]
            exact h1.weaken (fun s => wr_weaken s)
        · exact hs'.elim
    · -- no store is ready
      refine (hdone fun j hj => ?_).elim
      exact ready_reach hcl ho hready ((hbar i o him ho).2 j (by omega))

end

end Go.Fw
end
section
set_option linter.all false
namespace Go.Fw
open Go.RowKit (Below)

/-- A fence that lets all in: of whatever round. -/
def WideR (F : Fence) : Prop := F = Fence.wide ∨ ∃ l, F = Fence.wide.inRound l
theorem WideR.fn {F : Fence} (h : WideR F) (f : FuncId) : F.fn f := by rcases h with rfl | ⟨l, rfl⟩ <;> trivial
theorem WideR.depth {F : Fence} (h : WideR F) : F.depth = none := by rcases h with rfl | ⟨l, rfl⟩ <;> rfl
theorem WideR.room {F : Fence} (h : WideR F) (n : Nat) : F.room n := fun d hd => by rw [h.depth] at hd; cases hd
theorem WideR.one {F : Fence} (h : WideR F) {n : Nat} : F.depth.isSome = true → 1 ≤ n := by rw [h.depth]; simp
theorem WideR.inRound {F : Fence} (h : WideR F) (l : Nat) : WideR (F.inRound l) := by rcases h with rfl | ⟨l', rfl⟩ <;> exact .inr ⟨l, rfl⟩
theorem WideR.calls {F : Fence} (h : WideR F) {n : Nat} {P : Program} {f : FuncId} {args : Array Value} {w : World} {R : Ending → World → Prop} : CallsIn F n P f args w R ↔ Calls P f args w R := by
  rcases h with rfl | ⟨l, rfl⟩
  · exact callsIn_wide
  · exact callsIn_wide

variable {F : Fence} {n : Nat} {P : Program} {ops : Array Oper} {Q : Exit → Act → World → Prop} {md : Region.Mode}

def noDefer (o : Oper) : Bool := match o.op with
  | .defer _ => false
  | _ => true
theorem noDefer_spec {o : Oper} (h : noDefer o = true) : ∀ c, o.op ≠ .defer c := by
  intro c e; unfold noDefer at h; rw [e] at h; cases h

theorem rowsIn_of {F : Fence} (hF : WideR F) {row : String} {args : Array Value} {w : World} {R : Value → World → Prop} (h : Rows P row args w R) : RowsIn F n P row args w R := by
  intro c cs _
  obtain ⟨v, w', hr, hs⟩ := h c cs
  refine ⟨v, w', hr, ?_⟩
  rcases hF with rfl | ⟨l, rfl⟩
  · exact stepsIn_wide.2 hs
  · exact stepsIn_wide.2 hs

theorem wpIn_of_wp (hF : WideR F) {o : Oper} {a : Act} {w : World} {next : Act → World → Prop} (hd : noDefer o = true) (h : o.wp P a w next Q) : o.wpIn F n P a w next Q := by
  refine ⟨fun f _ => hF.fn f, ?_⟩
  rw [Oper.semAt_eq _ _ _ (noDefer_spec hd)]
  unfold Oper.wp at h
  generalize (execOp a.eval o).run P w = r at *
  cases r with
  | ok x w' =>
    cases x with
    | enter f args => exact ⟨hF.one, hF.calls.2 h⟩
    | row r args => exact ⟨hF.one, rowsIn_of hF h⟩
    | value v => exact h
    | skip => exact h
    | defer d => exact h
    | _ => exact h.elim
  | halt x w' =>
    cases x with
    | panic v => exact h
    | _ => exact h.elim

theorem wpListIn_of_wpList (hF : WideR F) (hq : ¬ LetsOut Q) : ∀ (l : List Oper) (a : Act) (w : World), (∀ o ∈ l, noDefer o = true) → wpList P ops Q l a w → wpListIn F n P ops Q l a w
  | [], a, w, _, h => h
  | o :: rest, a, w, hd, h => by
    unfold wpList at h
    unfold wpListIn
    split at h
    · rename_i hw
      rw [if_pos hw]
      rcases h with h | h
      · exact Oper.wpIn_mono (fun a w h => wpListIn_of_wpList hF hq rest a w (fun o ho => hd o (by simp [ho])) h) (wpIn_of_wp hF (hd o (by simp)) h)
      · exact (hq h.2).elim
    · rename_i hw
      rw [if_neg hw]
      exact ⟨fun f _ => hF.fn f, wpListIn_of_wpList hF hq rest _ w (fun o ho => hd o (by simp [ho])) h⟩

theorem wpAnyIn_of_wpAny (hF : WideR F) (hq : ¬ LetsOut Q) (hd : ∀ o ∈ ops.toList, noDefer o = true) : ∀ (fuel : Nat) (listed : Array Bool) (a : Act) (w : World), wpAny P md ops Q fuel listed a w → wpAnyIn F n P md ops Q fuel listed a w
  | 0, listed, a, w, h => h
  | fuel + 1, listed, a, w, h => by
    refine ⟨h.1, fun i hi => ?_⟩
    have := h.2 i hi
    unfold wpOp at this
    unfold wpOpIn
    cases ho : ops[i]? with
    | none =>
      simp only [ho] at this ⊢
      exact wpAnyIn_of_wpAny hF hq hd fuel _ a w this
    | some o =>
      simp only [ho] at this ⊢
      have hmem : o ∈ ops.toList := by have := Array.mem_of_getElem? ho; simpa using this
      split at this
      · rename_i hw
        rw [if_pos hw]
        rcases this with h | h
        · exact Oper.wpIn_mono (fun a w h => wpAnyIn_of_wpAny hF hq hd fuel _ a w h) (wpIn_of_wp hF (hd o hmem) h)
        · exact (hq h.2).elim
      · rename_i hw
        rw [if_neg hw]
        exact ⟨fun f _ => hF.fn f, wpAnyIn_of_wpAny hF hq hd fuel _ _ w this⟩

section
variable {b : Frame} {a : Act} {k : List Item} {cs : List Frame} {w : World}
theorem stepR_scope {c : Code} : step P (lone (b.atR a (.code (.scope c) :: k)) cs w) = .next (lone (b.atR a (.code c :: .inScope c :: k)) cs w) :=
  step_lone_go (by simp [stepG, stepG.exec, Frame.atR])
theorem stepR_inScope {c : Code} : step P (lone (b.atR a (.inScope c :: k)) cs w) = .next (lone (b.atR a k) cs w) :=
  step_lone_go (by simp [stepG, stepG.exec, Frame.atR])
theorem wpIn_scope_straight {c : Code} (h : c.wpIn F n P (Exit.noGoto Q) a w) : (Code.scope c).wpIn F n P Q a w := by
  intro b k cs hro hb hr
  have h0 : (lone (b.atR a (.code (.scope c) :: k)) cs w).fenced P F := fenced_calm hb hr rfl
  obtain ⟨e, a₁, w₁, hq, harr⟩ := h b (.inScope c :: k) cs hro hb hr
  have hx : ∀ id, exitTo id (.inScope c :: k) = exitTo id k := by intro id; simp [exitTo]
  cases e with
  | normal => exact ⟨.normal, a₁, w₁, hq, .head h0 stepR_scope (StepsIn.trans harr (.one (fenced_calm hb hr rfl) stepR_inScope))⟩
  | exit id =>
    exact ⟨.exit id, a₁, w₁, hq, fun k' hk => .head h0 stepR_scope (harr.1 k' (by rw [hx]; exact hk)), fun hr' hk => let ⟨k₁, h1, h2⟩ := harr.2 hr' (by rw [hx]; exact hk); ⟨k₁, h1, .head h0 stepR_scope h2⟩⟩
  | goto l => exact hq.elim
  | ret => exact ⟨_, a₁, w₁, hq, .of_steps (.one h0 stepR_scope) harr⟩
  | panic ch => exact ⟨_, a₁, w₁, hq, .of_steps (.one h0 stepR_scope) harr⟩
  | outgrown => exact ⟨_, a₁, w₁, hq, .of_steps (.one h0 stepR_scope) harr⟩
end
end Go.Fw
end
section
set_option linter.all false
namespace Go.Fw
variable [Globals]
open Go.RowKit (Below)

/-- The blocks that are owned, boxes included. -/
def Own (ρ β : Fam) (b : Nat) : Prop := (∃ f, ρ f = some b) ∨ ∃ i, β (2 * i) = some b

/-- Nothing but blocks in X turns; new ones may come. -/
structure Turn (X : Nat → Prop) (w w' : World) : Prop where
  size : w.heap.size ≤ w'.heap.size
  os : w'.os = w.os
  tape : w'.tape = w.tape
  output : w'.output = w.output
  same : ∀ b, b < w.heap.size → ¬ X b → w'.heap[b]? = w.heap[b]?

theorem Turn.refl (X : Nat → Prop) (w : World) : Turn X w w := ⟨Nat.le_refl _, rfl, rfl, rfl, fun _ _ _ => rfl⟩
theorem Turn.mono {X Y : Nat → Prop} {w w' : World} (h : Turn X w w') (hxy : ∀ b, b < w.heap.size → X b → Y b) : Turn Y w w' :=
  ⟨h.size, h.os, h.tape, h.output, fun b hb hn => h.same b hb (fun hx => hn (hxy b hb hx))⟩
theorem Turn.trans {X Y Z : Nat → Prop} {a b c : World} (h : Turn X a b) (k : Turn Y b c) (hx : ∀ i, i < a.heap.size → X i → Z i) (hy : ∀ i, i < a.heap.size → Y i → Z i) : Turn Z a c :=
  ⟨Nat.le_trans h.size k.size, k.os.trans h.os, k.tape.trans h.tape, k.output.trans h.output, fun i hi hn =>
    (k.same i (Nat.lt_of_lt_of_le hi h.size) (fun hyi => hn (hy i hi hyi))).trans (h.same i hi (fun hxi => hn (hx i hi hxi)))⟩

def newB (w w' : World) (b : Nat) : Prop := w.heap.size ≤ b ∧ b < w'.heap.size

open Classical in
/-- The numbers of foreign blocks in the odd places. -/
noncomputable def phanF (β : Fam) (bad0 : Nat → Prop) : Fam := fun i => if i % 2 = 1 then (if bad0 (i / 2) then some (i / 2) else none) else β i

theorem phanF_even (β : Fam) (bad0 : Nat → Prop) (i : Nat) : phanF β bad0 (2 * i) = β (2 * i) := by
  unfold phanF; rw [if_neg (by omega)]
theorem phanF_odd (β : Fam) (bad0 : Nat → Prop) (b : Nat) (h : bad0 b) : phanF β bad0 (2 * b + 1) = some b := by
  unfold phanF
  have e : (2 * b + 1) / 2 = b := by omega
  rw [if_pos (by omega), e, if_pos h]
theorem phanF_some {β : Fam} {bad0 : Nat → Prop} {i b : Nat} (h : phanF β bad0 i = some b) : (i = 2 * b + 1 ∧ bad0 b) ∨ ∃ k, i = 2 * k ∧ β (2 * k) = some b := by
  unfold phanF at h
  split at h
  · split at h
    · rename_i h1 h2; cases h; exact .inl ⟨by omega, h2⟩
    · cases h
  · rename_i h1; exact .inr ⟨i / 2, by omega, by rw [show 2 * (i / 2) = i by omega]; exact h⟩
theorem bad_phanF {ρ β : Fam} {bad0 : Nat → Prop} {b : Nat} : Bad ρ (phanF β bad0) b ↔ Own ρ β b ∨ bad0 b := by
  constructor
  · rintro (⟨f, hf⟩ | ⟨i, hi⟩)
    · exact .inl (.inl ⟨f, hf⟩)
    · rcases phanF_some hi with ⟨_, h⟩ | ⟨k, _, h⟩
      · exact .inr h
      · exact .inl (.inr ⟨k, h⟩)
  · rintro ((⟨f, hf⟩ | ⟨i, hi⟩) | h)
    · exact .inl ⟨f, hf⟩
    · exact .inr ⟨2 * i, by rw [phanF_even]; exact hi⟩
    · exact .inr ⟨_, phanF_odd β bad0 b h⟩

theorem own_not_prot {C : Cx} {st : St} {a : Act} {w : World} {ρ β : Fam} (hJ : J C st a w ρ β) {b : Nat} (h : Own ρ β b) : ¬ C.prot b ∧ b < w.heap.size ∧ ¬ C.bad0 b := by
  rcases h with ⟨f, hf⟩ | ⟨i, hi⟩
  · exact ⟨(hJ.apart.fam f b hf).1, (hJ.apart.fam f b hf).2, fun hb => hJ.apart.sep f _ b hf (hJ.phan b hb)⟩
  · exact ⟨hJ.apart.boxp i b hi, hJ.apart.box _ b hi, fun hb => by have := hJ.apart.injB _ _ b hi (hJ.phan b hb); omega⟩

theorem bad_own {C : Cx} {st : St} {a : Act} {w : World} {ρ β : Fam} (hJ : J C st a w ρ β) {b : Nat} (h : Own ρ β b ∨ C.bad0 b) : Bad ρ β b := by
  rcases h with (⟨f, hf⟩ | ⟨i, hi⟩) | h
  · exact .inl ⟨f, hf⟩
  · exact .inr ⟨_, hi⟩
  · exact .inr ⟨_, hJ.phan b h⟩

theorem cells_of_cell {w : World} {x : Addr} {u : Value} (h : w.cell? x = some u) : ∃ cs e f, w.heap[x.block]? = some (.cells cs e f) := by
  unfold World.cell? at h
  cases ho : w.heap[x.block]? with
  | none => simp [ho] at h
  | some o => cases o <;> simp [ho] at h <;> exact ⟨_, _, _, rfl⟩

def ndO : Obj → Prop
  | .cells _ _ _ => False
  | .map _ _ => False
  | _ => True
/-- The block holds neither cells nor a map. -/
def NotData (w : World) (b : Nat) : Prop := ∀ o, w.heap[b]? = some o → ndO o
theorem NotData.of {w : World} {b : Nat} {o : Obj} (h : w.heap[b]? = some o) (ho : ndO o) : NotData w b := fun o' h' => by rw [h] at h'; cases h'; exact ho
theorem NotData.cells {w : World} {b : Nat} (h : NotData w b) {cs : Array Value} {e : TypeId} {f : Nat × Nat} (hc : w.heap[b]? = some (.cells cs e f)) : False := h _ hc
theorem NotData.map {w : World} {b : Nat} (h : NotData w b) {es : Array MapEntry} {n : Nat} (hc : w.heap[b]? = some (.map es n)) : False := h _ hc
/-- WHAT IS FOREIGN TURNS. -/
theorem J.foreign {C : Cx} {st : St} {a a' : Act} {w w' : World} {ρ β : Fam} (hJ : J C st a w ρ β) {X : Nat → Prop} (hT : Turn (fun b => C.bad0 b ∨ X b) w w')
    (hX : ∀ b, X b → C.prot b ∧ NotData w b) {C' : Cx} (hw : C'.w0 = w') (hN : C'.N = C.N) (hpin : ∀ i q, C'.pin i = some q → β (2 * i) = some q)
    (hb : ∀ b, C'.bad0 b → b < w'.heap.size ∧ (C.bad0 b ∨ w.heap.size ≤ b)) (hp : ∀ b, C'.prot b → b < w'.heap.size ∧ ¬ Own ρ β b) (hext : JExt C' st a') (ha : a'.tmps = a.tmps) :
    J C' st a' w' ρ (phanF β C'.bad0) := by
  have hown : ∀ b, Own ρ β b → w'.heap[b]? = w.heap[b]? := fun b ho => by
    obtain ⟨h1, h2, h3⟩ := own_not_prot hJ ho
    exact hT.same b h2 (fun h => h.elim h3 (fun hx => h1 (hX b hx).1))
  have E : Ext w ρ β w' ρ (phanF β C'.bad0) := by
    have main : ∀ b, b < w.heap.size → ¬ Bad ρ β b → (X b → False) → ¬ Bad ρ (phanF β C'.bad0) b ∧ w'.heap[b]? = w.heap[b]? := fun b hlt hx hnx => by
      have hnb : ¬ C.bad0 b := fun h => hx (bad_own hJ (.inr h))
      refine ⟨?_, hT.same b hlt (fun h => h.elim hnb hnx)⟩
      rw [bad_phanF]
      rintro (ho | hb')
      · exact hx (bad_own hJ (.inl ho))
      · rcases (hb _ hb').2 with h | h
        · exact hnb h
        · omega
    refine ⟨⟨fun x u hx hu => ?_, fun b es n hx hu => ?_⟩, fun f b _ hf => ⟨hf, hown b (.inl ⟨f, hf⟩)⟩, fun i b hi => by rw [phanF_even]; exact hi⟩
    · obtain ⟨h1, h2⟩ := main _ (lt_of_cell hu) hx (fun hxx => by
        obtain ⟨cs, e, f, hc⟩ := cells_of_cell hu
        exact (hX _ hxx).2.cells hc)
      exact ⟨h1, (cell_of_heap h2).trans hu⟩
    · obtain ⟨h1, h2⟩ := main b (by
        rcases Nat.lt_or_ge b w.heap.size with h | h
        · exact h
        · simp [h] at hu) hx (fun hxx => (hX _ hxx).2.map hu)
      exact ⟨h1, by rw [h2]; exact hu⟩
  refine ⟨by rw [ha, hN]; exact hJ.size, hext, by rw [hw], by rw [hw], by rw [hw], by rw [hw]; exact Nat.le_refl _, fun b _ => by rw [hw], fun b h => by rw [hw]; exact (hp b h).1, fun b h => phanF_odd _ _ _ h,
    ⟨fun f b hf => ⟨fun h => (hp b h).2 (.inl ⟨f, hf⟩), Nat.lt_of_lt_of_le (hJ.apart.fam f b hf).2 hT.size⟩, fun i b hi => ?_, hJ.apart.inj, fun i k b h1 h2 => ?_, fun f i b hf hi => ?_, fun i b hi h => (hp b h).2 (.inr ⟨i, by rw [phanF_even] at hi; exact hi⟩)⟩,
    fun s => by rw [ha]; exact E.av (hJ.env s), fun i xs hx => ?_, fun g cs hg => E.av (hJ.glob g cs hg), fun i q hq => by rw [phanF_even]; exact hpin i q hq⟩
  · rcases phanF_some hi with ⟨_, h⟩ | ⟨k, _, h⟩
    · exact (hb b h).1
    · exact Nat.lt_of_lt_of_le (hJ.apart.box _ b h) hT.size
  · rcases phanF_some h1 with ⟨e1, b1⟩ | ⟨k1, e1, c1⟩ <;> rcases phanF_some h2 with ⟨e2, b2⟩ | ⟨k2, e2, c2⟩
    · omega
    · have h3 := own_not_prot hJ (.inr ⟨k2, c2⟩)
      rcases (hb b b1).2 with h | h
      · exact (h3.2.2 h).elim
      · omega
    · have h3 := own_not_prot hJ (.inr ⟨k1, c1⟩)
      rcases (hb b b2).2 with h | h
      · exact (h3.2.2 h).elim
      · omega
    · have := hJ.apart.injB _ _ b c1 c2; omega
  · rcases phanF_some hi with ⟨_, b1⟩ | ⟨k1, _, c1⟩
    · have h3 := own_not_prot hJ (.inl ⟨f, hf⟩)
      rcases (hb b b1).2 with h | h
      · exact h3.2.2 h
      · omega
    · exact hJ.apart.sep f _ b hf c1
  · obtain ⟨g, raws, e, h1, h2, h3, h4, h5, h6⟩ := hJ.box i xs hx
    exact ⟨g, raws, e, by rw [phanF_even]; exact h1, fun h => (hp g h).2 (.inr ⟨i, h1⟩), by rw [hown g (.inr ⟨i, h1⟩)]; exact h3, h4, h5, fun j u x hu hx => E.ac (h6 j u x hu hx)⟩

/-- A context that goes on from another. -/
structure Cx.le (C C' : Cx) : Prop where
  N : C'.N = C.N
  loop : C'.loop = C.loop
  pin : C'.pin = C.pin
  marks : ∃ m, C'.marks = m ++ C.marks ∧ (C.loop.isSome = true → m = []) ∧ ∀ D ∈ m, C.w0.heap.size ≤ D
  perm : ∀ b, C.perm b → C'.perm b ∧ C'.w0.heap[b]? = C.w0.heap[b]?
  os : C'.w0.os = C.w0.os
  tape : C'.w0.tape = C.w0.tape
  output : C'.w0.output = C.w0.output
  size : C.w0.heap.size ≤ C'.w0.heap.size
  bad : ∀ b, C.bad0 b → C'.bad0 b
  out : ∀ b, C.out b → C'.out b
  newo : ∀ b, C'.out b → C.out b ∨ C.w0.heap.size ≤ b
  seq : C'.seq = C.seq
theorem Cx.le.refl (C : Cx) : C.le C := ⟨rfl, rfl, rfl, ⟨[], rfl, fun _ => rfl, fun _ h => (by cases h)⟩, fun b h => ⟨h, rfl⟩, rfl, rfl, rfl, Nat.le_refl _, fun _ h => h, fun _ h => h, fun _ h => .inl h, rfl⟩
theorem Cx.le.trans {A B C : Cx} (h : A.le B) (k : B.le C) : A.le C := by
  obtain ⟨m, e, hm, hd⟩ := h.marks
  obtain ⟨m', e', hm', hd'⟩ := k.marks
  refine ⟨k.N.trans h.N, k.loop.trans h.loop, k.pin.trans h.pin, ⟨m' ++ m, by rw [e', e, List.append_assoc], fun hl => by rw [hm hl, hm' (by rw [h.loop]; exact hl)]; rfl, fun D hD => (List.mem_append.1 hD).elim (fun hD => Nat.le_trans h.size (hd' D hD)) (fun hD => hd D hD)⟩, fun b hb => ?_, k.os.trans h.os, k.tape.trans h.tape, k.output.trans h.output,
    Nat.le_trans h.size k.size, fun b hb => k.bad b (h.bad b hb), fun b hb => k.out b (h.out b hb), fun b hb => ?_, k.seq.trans h.seq⟩
  · obtain ⟨h1, h2⟩ := h.perm b hb
    obtain ⟨h3, h4⟩ := k.perm b h1
    exact ⟨h3, h4.trans h2⟩
  · rcases k.newo b hb with h1 | h1
    · exact h.newo b h1
    · exact .inr (Nat.le_trans h.size h1)

/-- What a proof comes to. -/
def lift (C : Cx) (Q : Exit → St → Prop) : Exit → Act → World → Prop := fun e a w => e ≠ .outgrown ∧ ∃ C' st ρ β, C.le C' ∧ Q e st ∧ J C' st a w ρ β

theorem lift_out (C : Cx) (Q : Exit → St → Prop) : ¬ LetsOut (lift C Q) := by rintro ⟨a, w, h, _⟩; exact h rfl

def EV.av : EV → AV
  | .cell x => .cell (.p x)
  | .agg xs => .agg (xs.map .p)

/-- What the account of an iterator bears: its own steps, and a call of yield. -/
structure SeqLaw (P : Program) (seq : Nat → List (List EV) → Nat → Bool → (Nat → Prop) → (Nat → Prop) → World → Prop) : Prop where
  stable : ∀ l xs k live Oz Bz w w' Oz', seq l xs k live Oz Bz w → Turn Oz w w' → (∀ b, Oz' b → b < w'.heap.size ∧ (Oz b ∨ w.heap.size ≤ b)) → seq l xs k live Oz' Bz w'
  round : ∀ l xs k x Oz Bz w (args : Array Value), seq l xs k true Oz Bz w → xs[k]? = some x → args.size = x.length →
    (∀ (j : Nat) (u : Value) (y : EV), args[j]? = some u → x[j]? = some y → AVRep w noneF (beta0 fun b => Oz b ∨ Bz b) u y.av) →
    ∀ (F : Fence) (n : Nat), WideR F → YieldAt F n P l args w fun e w' => Turn Bz w w' ∧
      ((e = .returned (.bool true) ∧ seq l xs (k + 1) true Oz (fun b => Bz b ∨ newB w w' b) w') ∨ (e = .returned (.bool false) ∧ seq l xs k false Oz (fun b => Bz b ∨ newB w w' b) w'))

/-- THE CONTRACT OF AN ITERATOR: a function with what it has captured hands over xs, and keeps to its own blocks. -/
def SeqAt (P : Program) (gf : FuncId) (caps : List AV) (xs : List (List EV)) : Prop :=
  (∃ fn, P.funcs[gf]? = some fn ∧ (fn.name == "runtime.NumGoroutine") = false ∧ fn.body.isNone = false) ∧
  ∀ (w : World) (vs : Array Value) (Bz : Nat → Prop) (l : Nat) (seq : Nat → List (List EV) → Nat → Bool → (Nat → Prop) → (Nat → Prop) → World → Prop), (∀ b, Bz b → b < w.heap.size) → vs.size = caps.length →
    (∀ (j : Nat) (u : Value) (x : AV), vs[j]? = some u → caps[j]? = some x → AVRep w noneF (beta0 Bz) u x) →
    (∀ g cs, Globals.G g = some cs → AVRep w noneF (beta0 Bz) (.pointer (some ⟨g, 0, none⟩)) (.cell (.ep none cs 0))) →
    SeqLaw P seq → seq l xs 0 true (fun _ => False) Bz w →
    Calls P gf (#[.func (.yield l) #[] #[]] ++ vs) w fun e w' => (∃ v, e = .returned v) ∧ ∃ Oz Bz' k live, (live = true → k = xs.length) ∧ seq l xs k live Oz Bz' w' ∧ Turn Bz w w' ∧ (∀ b, Bz b → Bz' b) ∧ (∀ b, Bz' b → Bz b ∨ w.heap.size ≤ b)
end Go.Fw
end
section
set_option linter.all false
namespace Go.Fw
variable [Globals]
open Go.RowKit (Below)

theorem run_callv {P : Program} {ρv : Operand → Value} {g : FuncId} {x : Operand} {args : Array Operand} {ts : Array TypeId} {dst : Option Tmp} {ty : TypeId} {pos : String} {after : Array Edge} {guard : Option (Nat × Bool)} {vs : Array Value}
    {fn : Func} (h1 : P.funcs[g]? = some fn) (h2 : (fn.name == "runtime.NumGoroutine") = false) (h3 : fn.body.isNone = false) (hf : ρv x = .func (.func g) #[] vs) (w : World) :
    (execOp ρv ⟨dst, .call { callee := .value x, args := args, argTypes := ts }, ty, pos, after, guard⟩).run P w = .ok (.enter g (args.map ρv ++ vs)) w := by
  have h2' : ¬ fn.name = "runtime.NumGoroutine" := by simpa using h2
  have h3' : ¬ fn.body = none := by intro e; rw [e] at h3; simp at h3
  simp [execOp, resolve, Deferred.ofValue, hf, invoke, callFunc, h1, h2', h3']
theorem run_cally {P : Program} {ρv : Operand → Value} {l : Nat} {x : Operand} {args : Array Operand} {ts : Array TypeId} {dst : Option Tmp} {ty : TypeId} {pos : String} {after : Array Edge} {guard : Option (Nat × Bool)}
    (hf : ρv x = .func (.yield l) #[] #[]) (w : World) :
    (execOp ρv ⟨dst, .call { callee := .value x, args := args, argTypes := ts }, ty, pos, after, guard⟩).run P w = (Instr.yield l (args.map ρv)).run P w := by
  simp [execOp, resolve, Deferred.ofValue, hf, invoke]
theorem run_mkf {P : Program} {ρv : Operand → Value} {g : FuncId} {caps : Array Operand} {dst : Option Tmp} {ty : TypeId} {pos : String} {after : Array Edge} {guard : Option (Nat × Bool)} (w : World) :
    (execOp ρv ⟨dst, .makeFunc (.func g) #[] caps, ty, pos, after, guard⟩).run P w = .ok (.value (.func (.func g) #[] (caps.map ρv))) w := by
  simp [execOp, Instr.makeFunc]

/-- What has been captured, as pure cells. -/
def capCV (bx : Nat → Option (List AC)) : Nat ⊕ CV → Option CV
  | .inl b => match bx b with
    | some xs => (toCVs xs).map CV.bx
    | none => none
  | .inr c => some c
def capsCV (bx : Nat → Option (List AC)) : List (Nat ⊕ CV) → Option (List CV)
  | [] => some []
  | x :: r => match capCV bx x, capsCV bx r with
    | some c, some l => some (c :: l)
    | _, _ => none
/-- What is captured. -/
def capA (x : AV) : Option (Nat ⊕ CV) := match x with
  | .cell (.ptr b 0) => some (.inl b)
  | .cell (.p c) => some (.inr c)
  | .cell .z => some (.inr (.sl 0 []))
  | _ => none
def capsA (ev : Operand → AV) : List Operand → Option (List (Nat ⊕ CV))
  | [] => some []
  | x :: r => match capA (ev x), capsA ev r with
    | some c, some l => some (c :: l)
    | _, _ => none

def St.setG (st : St) (x : AC) : St := ⟨fun s => if s = gslot then .cell x else st.env s, st.box⟩

/-- A call of a function in a slot. -/
def callT (P : Program) (id t : Nat) (args : List Operand) (st : St) (K : AV → St → Prop) : Prop :=
  match st.env t with
  | .cell (.yield l) =>
    match st.env gslot with
    | .cell (.ghost l' xs k true) => l' = l ∧ ∃ x, xs[k]? = some x ∧ (args.map fun y => (evAV st.env y).arg) = x.map EV.av ∧ (args.flatMap fun y => (evAV st.env y).labs).isEmpty = true ∧ K (bV true) (st.setG (.ghost l xs (k + 1) true)) ∧ K (bV false) (st.setG (.ghost l xs k false))
    | _ => False
  | .cell (.p (.c (.func (.func g) first caps))) => (first.isEmpty && caps.isEmpty) = true ∧ callK P id g args st K
  | .cell (.p (.fn g cs)) => ∃ r, At P g ((args.map fun y => (evAV st.env y).arg) ++ cs.map fun c => .cell (.p c)) r ∧ r.labs.all (fun f => decide (f < 64)) = true ∧ r.flat = true ∧ K (r.shift id) (st.retire (isId id))
  | .cell (.fn g caps) => ∃ cs, capsCV st.box caps = some cs ∧ ∃ r, At P g ((args.map fun y => (evAV st.env y).arg) ++ cs.map fun c => .cell (.p c)) r ∧ r.labs.all (fun f => decide (f < 64)) = true ∧ r.flat = true ∧ K (r.shift id) (st.retire (isId id))
  | _ => False

/-- ONE OPERATION, functions as values included. -/
def gop (P : Program) (id : Nat) (o : Op) (st : St) (K : AV → St → Prop) : Prop :=
  match o with
  | .call { callee := .value (.tmp t), args := args, argTypes := _ } => callT P id t args.toList st K
  | .makeFunc (.func g) first caps => first.isEmpty = true ∧ ∃ cs, capsA (evAV st.env) caps.toList = some cs ∧ K (.cell (.fn g cs)) st
  | op => fop P id op st K

section
variable {P : Program} {C : Cx} {st : St} {a : Act} {w : World} {ρ β : Fam} {id : Nat} {K : AV → St → Prop} {next : Act → World → Prop} {Q : Exit → Act → World → Prop} {F : Fence} {n : Nat}

theorem capsA_rep (hJ : J C st a w ρ β) : ∀ (l : List Operand) (cs : List (Nat ⊕ CV)), capsA (evAV st.env) l = some cs → l.length = cs.length ∧
    (∀ (j : Nat) (x : Operand) (b : Nat), l[j]? = some x → cs[j]? = some (.inl b) → ∃ q, β (2 * b) = some q ∧ a.eval x = .pointer (some ⟨q, 0, none⟩)) ∧
    ∀ (j : Nat) (x : Operand) (c : CV), l[j]? = some x → cs[j]? = some (.inr c) → CRep w (Bad ρ β) (a.eval x) c
  | [], cs, h => by simp [capsA] at h; subst h; simp
  | x :: r, cs, h => by
    simp only [capsA] at h
    cases hc : capA (evAV st.env x) with
    | none => simp [hc] at h
    | some c =>
      cases hr : capsA (evAV st.env) r with
      | none => simp [hc, hr] at h
      | some l =>
        simp [hc, hr] at h
        subst h
        obtain ⟨i1, i2, i3⟩ := capsA_rep hJ r l hr
        have hx := hJ.ev x
        simp only [St.ev] at hx
        refine ⟨by simp [i1], fun j y b hy hb => ?_, fun j y d hy hd => ?_⟩
        · cases j with
          | zero =>
            simp at hy hb; subst hy hb
            unfold capA at hc
            split at hc <;> try (cases hc)
            rename_i e
            rw [e] at hx
            obtain ⟨q, hq, hv⟩ := rep_cell hx
            exact ⟨q, hq, hv⟩
          | succ j => exact i2 j y b (by simpa using hy) (by simpa using hb)
        · cases j with
          | zero =>
            simp at hy hd; subst hy hd
            unfold capA at hc
            split at hc <;> try (cases hc)
            · rename_i e; rw [e] at hx; exact rep_cell hx
            · rename_i e
              rw [e] at hx
              obtain ⟨q, hq⟩ := rep_cell hx
              rw [hq]
              exact .sl q 0 0 [] [] (Nat.le_refl _) (Nat.zero_le _) rfl (by simp) (by simp) (by simp)
          | succ j => exact i3 j y d (by simpa using hy) (by simpa using hd)

theorem toCVs_get {xs : List AC} {cs : List CV} (h : toCVs xs = some cs) : xs.length = cs.length ∧ ∀ (j : Nat) (x : AC) (c : CV), xs[j]? = some x → cs[j]? = some c → x.toCV = some c := by
  induction xs generalizing cs with
  | nil => simp [toCVs] at h; subst h; simp
  | cons x r ih =>
    simp only [toCVs] at h
    cases hx : x.toCV with
    | none => simp [hx] at h
    | some c =>
      cases hr : toCVs r with
      | none => simp [hx, hr] at h
      | some l =>
        simp [hx, hr] at h
        subst h
        obtain ⟨i1, i2⟩ := ih hr
        refine ⟨by simp [i1], fun j y d hy hd => ?_⟩
        cases j with
        | zero => simp at hy hd; subst hy hd; exact hx
        | succ j => exact i2 j y d (by simpa using hy) (by simpa using hd)

/-- Captured boxes, read. -/
theorem capsCV_rep (hJ : J C st a w ρ β) {bad : Nat → Prop} (hb1 : ∀ b, bad b → Bad ρ β b) (hb2 : ∀ b i, β (2 * i) = some b → ¬ bad b) : ∀ (l : List (Nat ⊕ CV)) (cs : List CV), capsCV st.box l = some cs → l.length = cs.length ∧
    ∀ (vs : List Value), vs.length = l.length → (∀ (j : Nat) (u : Value) (b : Nat), vs[j]? = some u → l[j]? = some (.inl b) → ∃ q, β (2 * b) = some q ∧ u = .pointer (some ⟨q, 0, none⟩)) →
      (∀ (j : Nat) (u : Value) (c : CV), vs[j]? = some u → l[j]? = some (.inr c) → CRep w (Bad ρ β) u c) → ∀ (j : Nat) (u : Value) (c : CV), vs[j]? = some u → cs[j]? = some c → CRep w bad u c
  | [], cs, h => by simp [capsCV] at h; subst h; simp
  | x :: r, cs, h => by
    simp only [capsCV] at h
    cases hc : capCV st.box x with
    | none => simp [hc] at h
    | some c =>
      cases hr : capsCV st.box r with
      | none => simp [hc, hr] at h
      | some l =>
        simp [hc, hr] at h
        subst h
        obtain ⟨i1, i2⟩ := capsCV_rep hJ hb1 hb2 r l hr
        have pm : Hx w (Bad ρ β) w bad := Hx.same fun b hx h => hx (hb1 _ h)
        refine ⟨by simp [i1], fun vs hl h1 h2 j u d hu hd => ?_⟩
        cases vs with
        | nil => simp at hl
        | cons v vs =>
          cases j with
          | zero =>
            simp at hu hd; subst hu hd
            cases x with
            | inr c' =>
              simp [capCV] at hc; subst hc
              exact (h2 0 v c' rfl rfl).mono pm
            | inl b =>
              obtain ⟨q, hq, rfl⟩ := h1 0 v b rfl rfl
              simp only [capCV] at hc
              cases hbx : st.box b with
              | none => simp [hbx] at hc
              | some xs =>
                simp only [hbx] at hc
                cases ht : toCVs xs with
                | none => simp [ht] at hc
                | some cells =>
                  simp [ht] at hc; subst hc
                  obtain ⟨g, raws, e, g1, g2, g3, g4, g5, g6⟩ := hJ.box b xs hbx
                  rw [hq] at g1; cases g1
                  obtain ⟨t1, t2⟩ := toCVs_get ht
                  refine .bx q raws.toList cells (by simp [g4, t1]) g5 (fun j u hj => ⟨hb2 q b hq, ?_⟩) (fun j u c hu hc => ?_)
                  · simp [World.cell?, g3]; simpa using hj
                  · have hjx : j < xs.length := by
                      rcases Nat.lt_or_ge j cells.length with h | h
                      · omega
                      · rw [List.getElem?_eq_none h] at hc; cases hc
                    have hx := List.getElem?_eq_getElem hjx
                    exact (toCV_rep (g6 j u _ (by simpa using hu) hx) (t2 j _ c hx hc)).mono pm
          | succ j => exact i2 vs (by simpa using hl) (fun j u b hu hb => h1 (j + 1) u b (by simpa using hu) (by simpa using hb)) (fun j u c hu hc => h2 (j + 1) u c (by simpa using hu) (by simpa using hc)) j u d (by simpa using hu) (by simpa using hd)

/-- Fewer blocks are barred. -/
theorem AVRep.bads {w : World} {B B' : Nat → Prop} {v : Value} {x : AV} (h : AVRep w noneF (beta0 B) v x) (hb : ∀ b, B' b → B b ∨ NotData w b) : AVRep w noneF (beta0 B') v x :=
  Ext.av ⟨⟨fun x u hx hu => ⟨by
    rw [bad_none] at hx ⊢
    intro h
    rcases hb _ h with h1 | h1
    · exact hx h1
    · obtain ⟨cs, e, f, hc⟩ := cells_of_cell hu
      exact h1.cells hc, hu⟩, fun b es n hx hu => ⟨by
    rw [bad_none] at hx ⊢
    intro h
    rcases hb _ h with h1 | h1
    · exact hx h1
    · exact h1.map hu, hu⟩⟩, fun f b _ hf => by simp [noneF] at hf, fun i b hi => by rw [beta0_even] at hi; cases hi⟩ h

/-- A call of a function with what it has captured. -/
theorem callC_sound (hJ : J C st a w ρ β) {g : Nat} {args : List Operand} {cvs : Array Value} {cs : List CV} (hcl : cvs.size = cs.length)
    (hrep : ∀ (bad : Nat → Prop), (∀ b, bad b → Bad ρ β b) → (∀ b i, β (2 * i) = some b → ¬ bad b) → ∀ (j : Nat) (u : Value) (c : CV), cvs[j]? = some u → cs[j]? = some c → CRep w bad u c)
    {r : AV} (hAt : At P g ((args.map fun y => (evAV st.env y).arg) ++ cs.map fun c => .cell (.p c)) r) (hlab : r.labs.all (fun f => decide (f < 64)) = true) (hflat : r.flat = true) {dst : Option Tmp}
    (hn : ∀ v w' ρ', J C (st.retire (isId id)) a w' ρ' β → AVRep w' ρ' β v (r.shift id) → next (a.put dst v) w') :
    Calls P g ((args.map a.eval).toArray ++ cvs) w fun
      | .returned v, w'' => next (a.put dst v) w''
      | .panicked chain, w'' => Q (.panic chain) a w''
      | .outgrown, _ => LetsOut Q := by
  let L := args.flatMap fun x => (evAV st.env x).labs
  let bad : Nat → Prop := fun b => Bad (ρ.drop (inL L)) β b ∧ ¬ ∃ i, β (2 * i) = some b
  have hb1 : ∀ b, bad b → Bad ρ β b := by
    rintro b ⟨⟨f, hf⟩ | ⟨i, hi⟩, _⟩
    · exact .inl ⟨f, by revert hf; unfold Fam.drop; split <;> simp⟩
    · exact .inr ⟨i, hi⟩
  have hb2 : ∀ b i, β (2 * i) = some b → ¬ bad b := fun b i hi h => h.2 ⟨i, hi⟩
  have hcall := hAt.2 w ((args.map a.eval).toArray ++ cvs) bad (fun b hb => by
    rcases hb1 b hb with ⟨f, hf⟩ | ⟨i, hi⟩
    · exact (hJ.apart.fam f b hf).2
    · exact hJ.apart.box i b hi) (by simp [hcl]) (fun j u x hu hx => by
    rw [Array.getElem?_append] at hu
    rw [List.getElem?_append] at hx
    simp only [List.size_toArray, List.length_map] at hu hx
    split at hu
    · rename_i hlt
      rw [if_pos hlt] at hx
      simp at hu hx
      obtain ⟨y, hy, rfl⟩ := hu
      obtain ⟨y', hy', rfl⟩ := hx
      rw [hy] at hy'; cases hy'
      have h1 := arg_av hJ.apart (inL L) (hJ.ev y) (fun f hf => by
        simp only [inL, List.contains_iff_mem, L, List.mem_flatMap]
        exact ⟨y, List.mem_of_getElem? hy, hf⟩)
      exact h1.bads (fun b hb => .inl hb.1)
    · rename_i hge
      rw [if_neg hge] at hx
      rw [List.getElem?_map] at hx
      cases hc : cs[j - args.length]? with
      | none => simp [hc] at hx
      | some c =>
        simp [hc] at hx; subst hx
        exact .cell _ _ ((hrep bad hb1 hb2 _ u c hu hc).mono (Hx.same fun b hx => by rw [bad_none]; exact hx)))
    (fun g cs hg => by
      obtain ⟨y, raws, hv, h2, hr⟩ := rep_cell (hJ.glob g cs hg)
      have pm : ∀ b, ¬ Bad ρ β b → ¬ Bad noneF (beta0 bad) b := fun b hb => by rw [bad_none]; exact fun h => hb (hb1 b h)
      exact .cell _ _ ⟨y, raws, hv, fun j u hj => ⟨pm _ (h2 j u hj).1, (h2 j u hj).2⟩, hr.mono (Hx.same pm)⟩)
  refine hcall.mono ?_
  rintro e w' ⟨v, ρr, rfl, hb, hρ1, hρ2, hv⟩
  have hlab' : ∀ f ∈ r.labs, f < 64 := by
    rw [List.all_eq_true] at hlab
    intro f hf; simpa using hlab f hf
  have hJ1 := hJ.retire (isId id)
  have hN := join_new hJ1.apart (id := id) isId_none hρ1 hρ2
  exact hn v w' _ (hJ1.grow hb hN) (shift_av (beta0_even _) hv hlab' (.inl hflat))
end
end Go.Fw
end
section
set_option linter.all false
namespace Go.Fw
variable [Globals]
open Go.RowKit (Below)

section
variable {P : Program} {C : Cx} {st : St} {a : Act} {w : World} {ρ β : Fam} {id : Nat} {K : AV → St → Prop} {next : Act → World → Prop} {Q : Exit → Act → World → Prop} {F : Fence} {n : Nat}

theorem J.noG (hJ : J C st a w ρ β) : J C (st.setG .bad) a w ρ β := by
  refine ⟨hJ.size, ⟨hJ.ext.small, hJ.ext.defers, hJ.ext.nodup, hJ.ext.marks, hJ.ext.perm, hJ.ext.outb, hJ.ext.loop, fun l xs k v e => by simp [St.setG] at e⟩, hJ.os, hJ.tape, hJ.output, hJ.grown, hJ.kept, hJ.protlt, hJ.phan, hJ.apart, fun s => ?_, hJ.box, hJ.glob, hJ.pin⟩
  simp only [St.setG]
  split
  · exact .cell _ _ trivial
  · exact hJ.env s

theorem J.putG (hJ : J C st a w ρ β) {l k : Nat} {xs : List (List EV)} {v : Bool} (h : C.seq l xs k v (fun b => b < C.w0.heap.size ∧ (¬ C.prot b ∨ b ∈ C.marks)) C.out C.w0) : J C (st.setG (.ghost l xs k v)) a w ρ β := by
  refine ⟨hJ.size, ⟨hJ.ext.small, hJ.ext.defers, hJ.ext.nodup, hJ.ext.marks, hJ.ext.perm, hJ.ext.outb, hJ.ext.loop, fun l' xs' k' v' e => ?_⟩, hJ.os, hJ.tape, hJ.output, hJ.grown, hJ.kept, hJ.protlt, hJ.phan, hJ.apart, fun s => ?_, hJ.box, hJ.glob, hJ.pin⟩
  · simp [St.setG] at e; obtain ⟨rfl, rfl, rfl, rfl⟩ := e; exact h
  · simp only [St.setG]
    split
    · exact .cell _ _ trivial
    · exact hJ.env s

theorem setG_setG (st : St) (x y : AC) : (st.setG x).setG y = st.setG y := by
  unfold St.setG; congr 1; funext s; simp only; split <;> rfl

/-- What an account says where the walk stands. -/
theorem seq_here (hS : SeqLaw P C.seq) (hJ : J C st a w ρ β) {l k : Nat} {xs : List (List EV)} {v : Bool} (h : st.env gslot = .cell (.ghost l xs k v)) : C.seq l xs k v (fun b => Own ρ β b ∨ b ∈ C.marks) C.out w := by
  refine hS.stable l xs k v _ _ _ w _ (hJ.ext.seq l xs k v h) ⟨hJ.grown, hJ.os, hJ.tape, hJ.output, fun b hb hn => hJ.kept b ?_⟩ (fun b hb => ?_)
  · exact Classical.byContradiction fun hp => hn ⟨hb, .inl hp⟩
  · rcases hb with hb | hb
    · obtain ⟨h1, h2, _⟩ := own_not_prot hJ hb
      refine ⟨h2, ?_⟩
      rcases Nat.lt_or_ge b C.w0.heap.size with h | h
      · exact .inl ⟨h, .inl h1⟩
      · exact .inr h
    · have h1 := hJ.protlt b (hJ.ext.marks b hb).1
      exact ⟨Nat.lt_of_lt_of_le h1 hJ.grown, .inl ⟨h1, .inr hb⟩⟩

/-- Behind a round of another's. -/
theorem J.yielded (hJ : J C st a w ρ β) (hS : SeqLaw P C.seq) {w' : World} (hT : Turn C.out w w') {l k : Nat} {xs : List (List EV)} {v : Bool} (hseq : C.seq l xs k v (fun b => Own ρ β b ∨ b ∈ C.marks) (fun b => C.out b ∨ newB w w' b) w') :
    ∃ C' β', C.le C' ∧ J C' (st.setG (.ghost l xs k v)) a w' ρ β' := by
  let C' : Cx := { C with w0 := w', prot := fun b => b < w'.heap.size ∧ ¬ Own ρ β b, bad0 := fun b => C.bad0 b ∨ newB w w' b, out := fun b => C.out b ∨ newB w w' b }
  have hpo : ∀ b, C.prot b → ¬ Own ρ β b := fun b hb ho => (own_not_prot hJ ho).1 hb
  have hlt : ∀ b, C.prot b → b < w.heap.size := fun b hb => Nat.lt_of_lt_of_le (hJ.protlt b hb) hJ.grown
  have hsame : ∀ b, C.prot b → ¬ C.out b → w'.heap[b]? = C.w0.heap[b]? := fun b hb ho => (hT.same b (hlt b hb) ho).trans (hJ.kept b hb)
  have hno : ∀ b, ¬ C.bad0 b → ¬ C.out b := fun b hb ho => hb (hJ.ext.outb b ho)
  have hold : ∀ b, C.prot b → ¬ newB w w' b := fun b hb hn => by have := hlt b hb; have := hn.1; omega
  have hJ1 := hJ.noG
  have hext : JExt C' (st.setG .bad) a := by
    refine ⟨hJ.ext.small, hJ.ext.defers, hJ.ext.nodup, fun D hD => ?_, fun b hb => ?_, fun b hb => ?_, fun l hl => ?_, fun l xs k v e => by simp [St.setG] at e⟩
    · obtain ⟨h1, h2, h3⟩ := hJ.ext.marks D hD
      exact ⟨⟨Nat.lt_of_lt_of_le (hlt D h1) hT.size, hpo D h1⟩, fun h => h.elim h2 (hold D h1), (hsame D h1 (hno D h2)).trans h3⟩
    · obtain ⟨h1, h2⟩ := hJ.ext.perm b hb
      exact ⟨⟨Nat.lt_of_lt_of_le (hlt b h1) hT.size, hpo b h1⟩, fun h => h.elim h2 (hold b h1)⟩
    · exact hb.elim (fun h => .inl (hJ.ext.outb b h)) .inr
    · obtain ⟨h1, h2, r, h3⟩ := hJ.ext.loop l hl
      exact ⟨⟨Nat.lt_of_lt_of_le (hlt l h1) hT.size, hpo l h1⟩, fun h => h.elim h2 (hold l h1), r, (hsame l h1 (hno l h2)).trans h3⟩
  have hbad : ∀ b, C.bad0 b → b < w.heap.size := fun b hb => hJ.apart.box _ b (hJ.phan b hb)
  have hJ2 := hJ1.foreign (X := fun _ => False) (C' := C') (hT.mono (fun b _ h => .inl (hJ.ext.outb b h))) (fun b h => h.elim) rfl rfl hJ.pin
    (fun b hb => hb.elim (fun h => ⟨Nat.lt_of_lt_of_le (hbad b h) hT.size, .inl h⟩) (fun h => ⟨h.2, .inr h.1⟩)) (fun b hb => hb) hext rfl
  refine ⟨C', phanF β C'.bad0, ⟨rfl, rfl, rfl, ⟨[], rfl, fun _ => rfl, fun _ h => (by cases h)⟩, fun b hb => ⟨hb, ?_⟩, hT.os.trans hJ.os, hT.tape.trans hJ.tape, hT.output.trans hJ.output, Nat.le_trans hJ.grown hT.size, fun b hb => .inl hb, fun b hb => .inl hb, fun b hb => hb.elim .inl (fun h => .inr (Nat.le_trans hJ.grown h.1)), rfl⟩, ?_⟩
  · obtain ⟨h1, h2⟩ := hJ.ext.perm b hb
    exact hsame b h1 h2
  · rw [← setG_setG st .bad]
    refine hJ2.putG ?_
    refine hS.stable l xs k v _ _ _ _ _ hseq (Turn.refl _ _) (fun b hb => ⟨hb.1, .inl ?_⟩)
    rcases hb.2 with h | h
    · exact .inl (Classical.byContradiction fun ho => h ⟨hb.1, ho⟩)
    · exact .inr h

theorem gop_sound (hF : WideR F) (hS : SeqLaw P C.seq) (hJ : J C st a w ρ β) (hpin : C.pin id = none) {o : Oper} (hd : noDefer o = true) (h : gop P id o.op st K)
    (hn : ∀ out st' v w' ρ' β' C', C.le C' → K out st' → J C' st' a w' ρ' β' → AVRep w' ρ' β' v out → next (a.put o.dst v) w') : o.wpIn F n P a w next Q := by
  have plain : fop P id o.op st K → o.wpIn F n P a w next Q := fun h => wpIn_of_wp hF hd (fop_sound hJ hpin h fun out st' v w' ρ' β' hk hJ' hv => hn out st' v w' ρ' β' C (Cx.le.refl C) hk hJ' hv)
  obtain ⟨dst, op, ty, pos, after, guard⟩ := o
  simp only at h hn plain
  unfold gop at h
  split at h
  · rename_i t args ts
    unfold callT at h
    split at h
    · -- yield
      rename_i l ht
      have hv := hJ.env t
      rw [ht] at hv
      have hev : a.eval (.tmp t) = .func (.yield l) #[] #[] := rep_cell hv
      split at h
      · rename_i l' xs k hg
        obtain ⟨rfl, x, hx, hargs, hlab, hkt, hkf⟩ := h
        have hseq := seq_here hS hJ hg
        have hla : args.size = x.length := by have := congrArg List.length hargs; simpa using this
        obtain ⟨fn, tmps, assign, body, hrun, hround⟩ := hS.round l' xs k x _ _ w (args.map a.eval) hseq hx (by simp [hla]) (fun j u y hu hy => by
          simp at hu
          obtain ⟨z, hz, rfl⟩ := hu
          have hz' : args.toList[j]? = some z := by simpa using hz
          have e : (evAV st.env z).arg = y.av := by
            have h1 : (args.toList.map fun y => (evAV st.env y).arg)[j]? = (x.map EV.av)[j]? := by rw [hargs]
            rw [List.getElem?_map, List.getElem?_map, hz', hy] at h1
            simpa using h1
          have hnil : ∀ f, f ∉ (evAV st.env z).labs := fun f hf => by
            rw [List.isEmpty_iff] at hlab
            have : f ∈ (args.toList.flatMap fun y => (evAV st.env y).labs) := List.mem_flatMap.2 ⟨z, List.mem_of_getElem? hz', hf⟩
            rw [hlab] at this; cases this
          have h2 := arg_av hJ.apart (fun _ => false) (hJ.ev z) (fun f hf => (hnil f hf).elim)
          simp only [St.ev] at h2
          rw [e] at h2
          refine h2.bads (fun b hb => ?_)
          have h4 : Bad ρ β b ∨ b ∈ C.marks := by
            rcases hb with (h | h) | h
            · exact .inl (bad_own hJ (.inl h))
            · exact .inr h
            · exact .inl (bad_own hJ (.inr (hJ.ext.outb b h)))
          rcases h4 with h3 | h3
          rotate_left
          · obtain ⟨m1, _, m3⟩ := hJ.ext.marks b h3
            exact .inr (NotData.of ((hJ.kept b m1).trans m3) trivial)
          refine .inl ?_
          rcases h3 with ⟨f, hf⟩ | ⟨i, hi⟩
          · exact .inl ⟨f, by simp [Fam.drop, hf]⟩
          · exact .inr ⟨i, hi⟩) F (n - 1) hF
        refine ⟨fun f _ => hF.fn f, ?_⟩
        rw [Oper.semAt_eq _ _ _ (noDefer_spec hd), run_cally hev, hrun]
        refine ⟨hF.one, hround.mono ?_⟩
        rintro e w' ⟨hT, ⟨rfl, hs⟩ | ⟨rfl, hs⟩⟩
        · obtain ⟨C', β', hle, hJ'⟩ := hJ.yielded hS hT hs
          exact hn _ _ _ w' ρ β' C' hle hkt hJ' (.cell _ _ (.c _))
        · obtain ⟨C', β', hle, hJ'⟩ := hJ.yielded hS hT hs
          exact hn _ _ _ w' ρ β' C' hle hkf hJ' (.cell _ _ (.c _))
      · exact h.elim
    · -- a plain function
      rename_i g first caps ht
      obtain ⟨hemp, h⟩ := h
      simp only [Bool.and_eq_true, Array.isEmpty_iff] at hemp
      obtain ⟨rfl, rfl⟩ := hemp
      have hv := hJ.env t
      rw [ht] at hv
      have hev : a.eval (.tmp t) = .func (.func g) #[] #[] := rep_c hv
      obtain ⟨⟨fn, h1, h2, h3⟩, hc⟩ := callK_sound (Q := Q) (dst := dst) hJ h (fun out st' v w' ρ' β' hk hJ' hv => hn out st' v w' ρ' β' C (Cx.le.refl C) hk hJ' hv)
      refine wpIn_of_wp hF hd ?_
      unfold Oper.wp
      rw [run_callv h1 h2 h3 hev, Array.append_empty]
      exact hc
    · -- a function with pure cells
      rename_i g cs ht
      obtain ⟨r, hAt, hlab, hflat, hk⟩ := h
      have hv := hJ.env t
      rw [ht] at hv
      have hv' := rep_cell hv
      have hev : ∃ vs : List Value, a.eval (.tmp t) = .func (.func g) #[] vs.toArray ∧ vs.length = cs.length ∧ ∀ (j : Nat) (u : Value) (c : CV), vs[j]? = some u → cs[j]? = some c → CRep w (Bad ρ β) u c := by
        generalize hq : a.tmps.getD t undef = q at hv'
        have he : a.eval (.tmp t) = q := hq
        rw [he]
        cases hv' with
        | fn g vs caps hl hr => exact ⟨vs, rfl, hl, hr⟩
      obtain ⟨vs, hev, hl, hr⟩ := hev
      obtain ⟨fn, h1, h2, h3⟩ := hAt.1
      refine wpIn_of_wp hF hd ?_
      unfold Oper.wp
      rw [run_callv h1 h2 h3 hev]
      have hc := callC_sound (Q := Q) (dst := dst) (id := id) (next := next) hJ (args := args.toList) (cvs := vs.toArray) (cs := cs) (by simpa using hl) (fun bad hb1 hb2 j u c hu hc => (hr j u c (by simpa using hu) hc).mono (Hx.same fun b hx h => hx (hb1 _ h))) hAt hlab hflat
        (fun v w' ρ' hJ' hv => hn _ _ v w' ρ' β C (Cx.le.refl C) hk hJ' hv)
      have e : (args.toList.map a.eval).toArray = args.map a.eval := by apply Array.ext'; simp
      rw [e] at hc
      exact hc
    · -- a function with boxes
      rename_i g caps ht
      obtain ⟨cs, hcs, r, hAt, hlab, hflat, hk⟩ := h
      have hv := hJ.env t
      rw [ht] at hv
      obtain ⟨vs, hev, hl, hr1, hr2⟩ := rep_cell hv
      have hev' : a.eval (.tmp t) = .func (.func g) #[] vs := hev
      obtain ⟨fn, h1, h2, h3⟩ := hAt.1
      refine wpIn_of_wp hF hd ?_
      unfold Oper.wp
      rw [run_callv h1 h2 h3 hev']
      have hc := callC_sound (Q := Q) (dst := dst) (id := id) (next := next) hJ (args := args.toList) (cvs := vs) (cs := cs) (by
          have := (capsCV_rep hJ (bad := fun _ => False) (fun _ h => h.elim) (fun _ _ _ h => h) caps cs hcs).1; omega) (fun bad hb1 hb2 j u c hu hc =>
          (capsCV_rep hJ hb1 hb2 caps cs hcs).2 vs.toList (by simpa using hl) (fun j u b hu hb => hr1 j u b (by simpa using hu) hb) (fun j u c hu hc => hr2 j u c (by simpa using hu) hc) j u c (by simpa using hu) hc) hAt hlab hflat
        (fun v w' ρ' hJ' hv => hn _ _ v w' ρ' β C (Cx.le.refl C) hk hJ' hv)
      have e : (args.toList.map a.eval).toArray = args.map a.eval := by apply Array.ext'; simp
      rw [e] at hc
      exact hc
    · exact h.elim
  · -- a function is made
    rename_i g first caps
    obtain ⟨hemp, cs, hcs, hk⟩ := h
    simp only [Array.isEmpty_iff] at hemp
    subst hemp
    refine wpIn_of_wp hF hd ?_
    unfold Oper.wp
    rw [run_mkf]
    obtain ⟨h1, h2, h3⟩ := capsA_rep hJ caps.toList cs hcs
    refine hn _ _ _ w ρ β C (Cx.le.refl C) hk hJ (.cell _ _ ⟨caps.map a.eval, rfl, by simpa using h1, fun j u b hu hb => ?_, fun j u c hu hc => ?_⟩)
    · simp at hu
      obtain ⟨x, hx, rfl⟩ := hu
      exact h2 j x b (by simpa using hx) hb
    · simp at hu
      obtain ⟨x, hx, rfl⟩ := hu
      exact h3 j x c (by simpa using hx) hc
  · exact plain h
end

/-- Whether the operation is a call. -/
def isCallB : Op → Bool
  | .call { callee := .value _, args := _, argTypes := _ } => true
  | _ => false
/-- A guarded operation. -/
def gsel (P : Program) (id : Nat) (c : Option Bool) (o : Op) (st : St) (X : AV → St → Prop) : Prop :=
  match c with
  | some true => gop P id o st X
  | some false => X uV (if isCallB o = true then st.retire (isId id) else st)
  | none => False
/-- A region in the order of the text. -/
def aops (P : Program) (rid : Nat) (ops : Array Oper) : Nat → List Oper → St → (St → Prop) → Prop
  | _, [], st, K => K st
  | i, o :: rest, st, K =>
    match o.guard with
    | none => gop P (rid * 65536 + i * 64) o.op st (fun out st' => aops P rid ops (i + 1) rest (st'.put o.dst out) K)
    | some (j, want) => gsel P (rid * 65536 + i * 64) (guardB ops st.env j want) o.op st (fun out st' => aops P rid ops (i + 1) rest (st'.put o.dst out) K)

theorem aops_sound {P : Program} {F : Fence} {n : Nat} (hF : WideR F) {rid : Nat} {ops : Array Oper} {Q : Exit → Act → World → Prop} {K : St → Prop} : ∀ (l : List Oper) (i : Nat) (C : Cx) (st : St) (a : Act) (w : World) (ρ β : Fam), SeqLaw P C.seq → (∀ j, C.pin (rid * 65536 + j * 64) = none ∨ 1024 ≤ j) → i + l.length ≤ 1024 → aops P rid ops i l st K → J C st a w ρ β →
    (∀ o ∈ l, dstOk C.N o.dst ∧ noDefer o = true) → (∀ C' st' a' w' ρ' β', C.le C' → K st' → J C' st' a' w' ρ' β' → Q .normal a' w') → wpListIn F n P ops Q l a w
  | [], i, C, st, a, w, ρ, β, hS, hp, hle, h, hJ, hd, hK => hK C st a w ρ β (Cx.le.refl C) h hJ
  | o :: rest, i, C, st, a, w, ρ, β, hS, hp, hle1, h, hJ, hd, hK => by
    have run : gop P (rid * 65536 + i * 64) o.op st (fun out st' => aops P rid ops (i + 1) rest (st'.put o.dst out) K) → Region.wanted o (yielded ops a.tmps) = true → wpListIn F n P ops Q (o :: rest) a w := by
      intro hf hw
      unfold wpListIn
      rw [if_pos hw]
      refine gop_sound hF hS hJ (by rcases hp i with h | h; exact h; simp at hle1; omega) (hd o (by simp)).2 hf fun out st' v w' ρ' β' C' hle hk hJ' hv => ?_
      have hdo := (hd o (by simp)).1
      exact aops_sound hF rest (i + 1) C' _ _ _ ρ' β' (by rw [hle.seq]; exact hS) (fun j => by rw [hle.pin]; exact hp j) (by simp at hle1; omega) hk (hJ'.put (by rw [hle.N]; exact hdo) hv) (fun o' ho' => by rw [hle.N]; exact hd o' (by simp [ho']))
        (fun C'' st'' a'' w'' ρ'' β'' hle' => hK C'' st'' a'' w'' ρ'' β'' (hle.trans hle'))
    unfold aops at h
    split at h
    · rename_i hg
      exact run h (wanted_none hg)
    · rename_i j want hg
      unfold gsel at h
      split at h
      · rename_i hb
        have hy := wanted_of hJ hb
        exact run h (by simp only [Region.wanted, hg]; exact hy)
      · rename_i hb
        have hy := wanted_of hJ hb
        unfold wpListIn
        rw [if_neg (by simp only [Region.wanted, hg]; rw [hy]; simp)]
        refine ⟨fun f _ => hF.fn f, ?_⟩
        split at h
        · exact aops_sound hF rest (i + 1) C _ _ _ (ρ.drop (isId (rid * 65536 + i * 64))) β hS hp (by simp at hle1; omega) h ((hJ.retire (isId (rid * 65536 + i * 64))).put (v := undef) (hd o (by simp)).1 (.tup _ _ rfl (by simp))) (fun o' ho' => hd o' (by simp [ho'])) hK
        · exact aops_sound hF rest (i + 1) C _ _ _ ρ β hS hp (by simp at hle1; omega) h (hJ.put (v := undef) (hd o (by simp)).1 (.tup _ _ rfl (by simp))) (fun o' ho' => hd o' (by simp [ho'])) hK
      · exact h.elim
end Go.Fw
end
section
set_option linter.all false
namespace Go.Fw
variable [Globals]
open Go.RowKit (Below)

section
variable {P : Program} {C : Cx} {a : Act} {w : World} {ρ β : Fam} {env : Nat → AV} {bx : Nat → Option (List AC)} {next : Act → World → Prop} {Q : Exit → Act → World → Prop}

theorem early_sound (hJ : J C ⟨env, bx⟩ a w ρ β) {o : Oper} {t : TypeId} {x v : Operand} (hop : o.op = .store t x v) (hdst : o.dst = none) {b off : Nat} {xs0 ys : List AC} (hx : evAV env x = .cell (.ptr b off)) (hb : bx b = some xs0)
    (hy : (evAV env v).cells? = some ys) (hsz : szOf P t = some ys.length) (hle : off + ys.length ≤ xs0.length)
    (hn : ∀ w', J C ⟨env, fun k => if k = b then some (setRun xs0 off ys) else bx k⟩ a w' ρ β → next a w') : o.wp P a w next Q := by
  have hxr := hJ.ev x
  simp only [St.ev, hx] at hxr
  obtain ⟨g, hβ, hv⟩ := rep_cell hxr
  obtain ⟨g', raws, e, hβ', hp, hg, hl, ho, hr⟩ := hJ.box b xs0 hb
  rw [hβ] at hβ'; cases hβ'
  have hs : Seg w ρ β raws.toList xs0 := ⟨by simpa using hl, ho, fun j u x hu hx => hr j u x (by simpa using hu) hx⟩
  have hvs := cells_rep (hJ.ev v) hy
  have hlen : (a.eval v).cells.size = ys.length := by have := hvs.len; simpa using this
  have hJ' := hJ.boxStore hβ hp hg hs hvs off
  obtain ⟨dst, op, ty, pos, after, guard⟩ := o
  simp only at hop hdst
  subst hop hdst
  unfold Oper.wp
  have hrun : (execOp a.eval ⟨none, .store t x v, ty, pos, after, guard⟩).run P w = .ok .skip (w.setCells g off (a.eval v).cells.toList) := by
    simp only [execOp, hv, Instr.storeAt, Instr.sureAddr, storeVar, Sem.run_bind, Sem.run_pure, Result.andThen_ok, run_sizeOf hsz, hlen]
    simp only [ne_eq, not_true_eq_false, if_false]
    have := run_storeCells_box (P := P) hg (.inl rfl) (vs := (a.eval v).cells.toList) (off := off) (by rw [Array.length_toList, hlen, hl]; exact hle) hvs.one
    simp [this]
  rw [hrun]
  exact hn _ hJ'
theorem newBox0 {id : Nat} {st : St} (hJ : J C st a w ρ β) (hpin : C.pin id = none) (h0 : β (2 * id) = none) {vs : List Value} {xs : List AC} (hs : Seg w ρ β vs xs) (e : TypeId) :
    ∃ β', J C (st.setBox id xs) a (w.alloc (.cells vs.toArray e)) ρ β' ∧ AVRep (w.alloc (.cells vs.toArray e)) ρ β' (.pointer (some ⟨w.heap.size, 0, none⟩)) (.cell (.ptr id 0)) ∧ ∀ i, i ≠ 2 * id → β' i = β i := by
  have hJ1 := hJ
  let β1 := β
  let β' : Fam := fun i => if i = 2 * id then some w.heap.size else β1 i
  have hBl : Below w.heap.size w (w.alloc (.cells vs.toArray e)) := (Below.refl _ _).alloc (Nat.le_refl _) _
  have E : Ext w ρ β1 (w.alloc (.cells vs.toArray e)) ρ β' := by
    refine ⟨Hx.blocks fun b hlt hx => ⟨?_, hBl.block _ hlt⟩, fun f b _ hf => ⟨hf, hBl.block b (hJ1.apart.fam f b hf).2⟩, fun i b hi => ?_⟩
    · rintro (⟨f, hf⟩ | ⟨i, hi⟩)
      · exact hx (.inl ⟨f, hf⟩)
      · simp only [β'] at hi
        split at hi
        · simp only [Option.some.injEq] at hi; omega
        · exact hx (.inr ⟨i, hi⟩)
    · have : 2 * i ≠ 2 * id := fun e => by simp only [β1] at hi; rw [e, h0] at hi; cases hi
      simp only [β']; rw [if_neg this]; exact hi
  have hsz : (w.alloc (.cells vs.toArray e)).heap.size = w.heap.size + 1 := by simp
  refine ⟨β', ⟨hJ.size, hJ1.ext.of rfl (fun _ _ _ _ e => e), hJ.os, hJ.tape, hJ.output, by rw [hsz]; have := hJ.grown; omega, fun b hb => ?_, hJ.protlt, fun b hb => ?_, ⟨fun f b hf => ?_, fun i b hi => ?_, hJ.apart.inj, fun i k b h1 h2 => ?_, fun f i b hf hi => ?_, fun i b hi => ?_⟩, fun s => E.av (hJ1.env s), fun i ys hy => ?_, fun g cs hg => E.av (hJ1.glob g cs hg), fun k q hq => by
    have hne : k ≠ id := by rintro rfl; rw [hpin] at hq; cases hq
    have := hJ1.pin k q hq
    simp only [β']; rw [if_neg (by omega)]; exact this⟩, .cell _ _ ⟨w.heap.size, by simp [β'], rfl⟩, fun i hi => by simp only [β']; rw [if_neg hi]⟩
  · rw [hBl.block b (Nat.lt_of_lt_of_le (hJ.protlt b hb) hJ.grown)]; exact hJ.kept b hb
  · have := hJ1.phan b hb
    simp only [β']
    rw [if_neg (by omega)]; exact this
  · have := hJ.apart.fam f b hf; exact ⟨this.1, by omega⟩
  · simp only [β'] at hi
    split at hi
    · cases hi; omega
    · have := hJ1.apart.box i b hi; omega
  · simp only [β'] at h1 h2
    split at h1 <;> split at h2
    · omega
    · cases h1; have := hJ1.apart.box k _ h2; omega
    · cases h2; have := hJ1.apart.box i _ h1; omega
    · exact hJ1.apart.injB i k b h1 h2
  · simp only [β'] at hi
    split at hi
    · cases hi; have := (hJ.apart.fam f _ hf).2; omega
    · exact hJ1.apart.sep f i b hf hi
  · simp only [β'] at hi
    split at hi
    · cases hi; intro hp; have := hJ.protlt _ hp; have := hJ.grown; omega
    · exact hJ1.apart.boxp i b hi
  · simp only [St.setBox] at hy
    split at hy
    · rename_i hi
      subst hi
      cases hy
      refine ⟨w.heap.size, vs.toArray, e, by simp [β'], fun hp => by have := hJ.protlt _ hp; have := hJ.grown; omega, heap_alloc_new w _, by simpa using hs.len, by simpa using hs.one, fun j u x hu hx => ?_⟩
      exact E.ac (hs.rep j u x (by simpa using hu) hx)
    · rename_i hi
      obtain ⟨g, raws, e', h1, h2, h3, h4, h5, h6⟩ := hJ1.box i ys hy
      refine ⟨g, raws, e', ?_, h2, by rw [hBl.block g (hJ1.apart.box _ g h1)]; exact h3, h4, h5, fun j u x hu hx => E.ac (h6 j u x hu hx)⟩
      simp only [β']
      rw [if_neg (by omega)]; exact h1


/-- An alloc on the way: its box is new. -/
theorem alloc_sound {id d : Nat} {zs : List AC} (hJ : J C ⟨env, bx⟩ a w ρ β) {o : Oper} {e : TypeId} (hop : o.op = .alloc e) (hdst : o.dst = some d) (hd : d < C.N) (hz : zeroA P e = some zs) (hpin : C.pin id = none) (h0 : β (2 * id) = none)
    (hn : ∀ v w' β', J C ⟨putE env (some d) (.cell (.ptr id 0)), fun k => if k = id then some zs else bx k⟩ (a.put (some d) v) w' ρ β' → (∀ i, i ≠ 2 * id → β' i = β i) → next (a.put o.dst v) w') : o.wp P a w next Q := by
  obtain ⟨dst, op, ty, pos, after, guard⟩ := o
  simp only at hop hdst
  subst hop hdst
  unfold Oper.wp
  obtain ⟨i, z, hi, hz', hs⟩ := zeroA_some hz w ρ β
  obtain ⟨β', hJ', hv, hβ⟩ := newBox0 (id := id) hJ hpin h0 hs e
  have : (execOp a.eval ⟨some d, .alloc e, ty, pos, after, guard⟩).run P w = .ok (.value (.pointer (some ⟨w.heap.size, 0, none⟩))) (w.alloc (.cells z.cells e)) := by
    simp only [execOp, Instr.alloc, zeroValue, typeInfo, run_program, hi, hz', newVar, newRow, Sem.run_bind, run_newObj, Result.andThen_ok, Sem.run_pure]; rfl
  rw [this]
  have e1 : z.cells.toList.toArray = z.cells := by simp
  rw [e1] at hJ' hv
  have h1 := hJ'.put (d := some d) (fun k hk => by cases hk; exact hd) hv
  rw [put_putE] at h1
  exact hn _ _ _ h1 hβ
theorem zeroA_labs {e : TypeId} {zs : List AC} (h : zeroA P e = some zs) (f : Nat) : ∀ x ∈ zs, f ∉ x.labs := by
  unfold zeroA at h
  split at h
  · split at h
    · split at h
      · cases h
        intro x hx
        rw [List.mem_map] at hx
        obtain ⟨v, _, rfl⟩ := hx
        unfold constAC
        split <;> simp [AC.labs]
      · cases h
    · cases h
  · cases h
end

def isAl : Op → Bool
  | .alloc _ => true
  | _ => false
/-- The allocs of a region. -/
def alOf (P : Program) : Nat → List Oper → List (Nat × List AC)
  | _, [] => []
  | i, o :: l => match o.op with
    | .alloc e => match zeroA P e with
      | some zs => (i, zs) :: alOf P (i + 1) l
      | none => alOf P (i + 1) l
    | _ => alOf P (i + 1) l
/-- The boxes, where the allocs in S have been carried out. -/
def bs (rid : Nat) (AL : List (Nat × List AC)) (bx : Nat → Option (List AC)) (S : Nat → Bool) : Nat → Option (List AC) := fun i => match AL.find? (fun q => rid * 65536 + q.1 * 64 == i) with
  | some q => if S q.1 then some q.2 else none
  | none => bx i
/-- Each store waits for the allocs ahead of it. -/
def alChk (ops : Array Oper) : Bool := (List.range ops.size).all fun k => match ops[k]? with
  | some o => !isBar o.op || (List.range k).all fun j => match ops[j]? with
    | some o' => !isAl o'.op || ((befL ops.toList []).getD k 0).testBit j
    | none => true
  | none => true

/-- The boxes, where the operations in S have been carried out. -/
def sx (bxF : Nat → Option (List AC)) (pd : List (Nat × Nat × List AC)) (S : Nat → Bool) : Nat → Option (List AC) := fun i => match pd.find? (fun p => p.2.1 == i) with
  | some p => if S p.1 then some p.2.2 else bxF i
  | none => bxF i

/-- A store on the way. -/
def estep (P : Program) (rid : Nat) (bxF bx0 : Nat → Option (List AC)) (env : Nat → AV) (pd : List (Nat × Nat × List AC)) (i : Nat) (o : Oper) (K : Nat × Nat × List AC → Prop) : Prop :=
  match o.op, o.dst, o.guard with
  | .store t a v, none, none => match evAV env a with
    | .cell (.ptr b off) => match bxF b, (evAV env v).cells? with
      | some xs0, some ys => ((szOf P t = some ys.length ∧ off + ys.length ≤ xs0.length) ∧ (ys.flatMap AC.labs).isEmpty = true ∧ (bx0 b).isNone = true ∧ (pd.all fun p => p.2.1 != b) = true ∧ (decide (b < rid * 65536 + i * 64) || decide (rid * 65536 + 65536 ≤ b)) = true) ∧ K (i, b, setRun xs0 off ys)
      | _, _ => False
    | _ => False
  | _, _, _ => False
/-- An alloc on the way. -/
def astep (P : Program) (rid i : Nat) (o : Oper) (K : AV → Prop) : Prop :=
  match o.op, o.dst, o.guard with
  | .alloc e, some _, none => (zeroA P e).isSome = true ∧ K (.cell (.ptr (rid * 65536 + i * 64) 0))
  | _, _, _ => False
def dgo2 (P : Program) (rid : Nat) (ops : Array Oper) (bxF bx0 : Nat → Option (List AC)) : Nat → List Oper → (Nat → AV) → List AV → List (Nat × Nat) → List (Nat × Nat × List AC) → (List AV → List (Nat × Nat) → List (Nat × Nat × List AC) → (Nat → AV) → Prop) → Prop
  | _, [], env, outs, nds, pd, K => K outs nds pd env
  | i, o :: rest, env, outs, nds, pd, K =>
    if isBar o.op = true then estep P rid bxF bx0 env pd i o (fun p => dgo2 P rid ops bxF bx0 (i + 1) rest env (outs ++ [.bad]) nds (pd ++ [p]) K)
    else if isAl o.op = true then astep P rid i o fun out => dgo2 P rid ops bxF bx0 (i + 1) rest (wr o out env) (outs ++ [out]) nds pd K
    else dstep P rid i ops bx0 env o fun out nd => dgo2 P rid ops bxF bx0 (i + 1) rest (wr o out env) (outs ++ [out]) (nd.toList ++ nds) pd K

/-- What is known of a store on the way. -/
def EarlyAt (P : Program) (rid : Nat) (bxF bx0 : Nat → Option (List AC)) (env : Nat → AV) (pd : List (Nat × Nat × List AC)) (j : Nat) (o : Oper) : Prop :=
  o.dst = none ∧ o.guard = none ∧ ∃ t a v b off xs0 ys, o.op = .store t a v ∧ evAV env a = .cell (.ptr b off) ∧ bxF b = some xs0 ∧ (evAV env v).cells? = some ys ∧ szOf P t = some ys.length ∧ off + ys.length ≤ xs0.length ∧ ys.flatMap AC.labs = [] ∧ bx0 b = none ∧ (b < rid * 65536 + j * 64 ∨ rid * 65536 + 65536 ≤ b) ∧ (j, b, setRun xs0 off ys) ∈ pd
/-- What is known of an alloc on the way. -/
def AllocAt (P : Program) (rid : Nat) (pd : List (Nat × Nat × List AC)) (outs : List AV) (j : Nat) (o : Oper) : Prop :=
  o.guard = none ∧ (∀ p ∈ pd, p.1 ≠ j) ∧ ∃ e d zs, o.op = .alloc e ∧ o.dst = some d ∧ zeroA P e = some zs ∧ outs.getD j .bad = .cell (.ptr (rid * 65536 + j * 64) 0)

/-- What is known of the stores together. -/
structure PdOk (bxF bx0 : Nat → Option (List AC)) (lo hi : Nat) (pd : List (Nat × Nat × List AC)) : Prop where
  inj : pd.Pairwise fun p q => p.2.1 ≠ q.2.1
  idx : pd.Pairwise fun p q => p.1 ≠ q.1
  rng : ∀ p ∈ pd, lo ≤ p.1 ∧ p.1 < hi
  none : ∀ p ∈ pd, bx0 p.2.1 = none
  from_ : ∀ p ∈ pd, ∃ xs0 ys off, bxF p.2.1 = some xs0 ∧ p.2.2 = setRun xs0 off ys ∧ ys.flatMap AC.labs = []

section
variable {P : Program} {rid : Nat} {ops : Array Oper} {bxF bx0 : Nat → Option (List AC)} {env0 : Nat → AV}

theorem estep_split {env : Nat → AV} {pd : List (Nat × Nat × List AC)} {i : Nat} {o : Oper} {K : Nat × Nat × List AC → Prop} (h : estep P rid bxF bx0 env pd i o K) :
    o.dst = none ∧ o.guard = none ∧ ∃ t a v b off xs0 ys, o.op = .store t a v ∧ evAV env a = .cell (.ptr b off) ∧ bxF b = some xs0 ∧ (evAV env v).cells? = some ys ∧ szOf P t = some ys.length ∧ off + ys.length ≤ xs0.length ∧ ys.flatMap AC.labs = [] ∧ bx0 b = none ∧ (∀ p ∈ pd, p.2.1 ≠ b) ∧ (b < rid * 65536 + i * 64 ∨ rid * 65536 + 65536 ≤ b) ∧ K (i, b, setRun xs0 off ys) := by
  unfold estep at h
  split at h
  · rename_i t a v h1 h2 h3
    split at h
    · rename_i b off hx
      split at h
      · rename_i xs0 ys hb hy
        obtain ⟨⟨⟨c1, c2⟩, c3, c4, c5, c6⟩, hk⟩ := h
        refine ⟨h2, h3, t, a, v, b, off, xs0, ys, h1, hx, hb, hy, c1, c2, by simpa using c3, by simpa using c4, fun p hp => ?_, by simpa using c6, hk⟩
        rw [List.all_eq_true] at c5
        simpa using c5 p hp
      · exact h.elim
    · exact h.elim
  · exact h.elim

theorem dgo2_spec {K : List AV → List (Nat × Nat) → List (Nat × Nat × List AC) → (Nat → AV) → Prop} : ∀ (l pre tail : List Oper) (outs : List AV) (nds : List (Nat × Nat)) (pd : List (Nat × Nat × List AC)) (env : Nat → AV), ops.toList = pre ++ l ++ tail → outs.length = pre.length →
    env = envOf ops outs env0 (fun _ => true) pre.length → PdOk bxF bx0 0 pre.length pd → dgo2 P rid ops bxF bx0 pre.length l env outs nds pd K →
    ∃ outs2 nds2 pd2, outs2.length = pre.length + l.length ∧ (∀ j, j < pre.length → outs2.getD j .bad = outs.getD j .bad) ∧ K outs2 nds2 pd2 (envOf ops outs2 env0 (fun _ => true) (pre.length + l.length)) ∧ (∀ p ∈ nds, p ∈ nds2) ∧ (∀ p ∈ pd, p ∈ pd2) ∧ (∀ p ∈ pd2, p ∈ pd ∨ pre.length ≤ p.1) ∧ PdOk bxF bx0 0 (pre.length + l.length) pd2 ∧
      ∀ j o, pre.length ≤ j → j < pre.length + l.length → ops[j]? = some o → ((isBar o.op = false ∧ isAl o.op = false) ∧ (∀ p ∈ pd2, p.1 ≠ j) ∧ ∃ nd : Option (Nat × Nat), (∀ p, nd = some p → p ∈ nds2) ∧
        dstep P rid j ops bx0 (envOf ops outs2 env0 (fun _ => true) j) o (fun x y => x = outs2.getD j .bad ∧ y = nd)) ∨ EarlyAt P rid bxF bx0 (envOf ops outs2 env0 (fun _ => true) j) pd2 j o ∨ AllocAt P rid pd2 outs2 j o
  | [], pre, tail, outs, nds, pd, env, h1, h2, h3, hp, h => by
    refine ⟨outs, nds, pd, by simpa using h2, fun _ _ => rfl, ?_, fun _ h => h, fun _ h => h, fun _ h => .inl h, by simpa using hp, fun j o hj hj' => by simp at hj'; omega⟩
    simp only [List.length_nil, Nat.add_zero]
    rw [← h3]; exact h
  | o :: rest, pre, tail, outs, nds, pd, env, h1, h2, h3, hp, h => by
    have ho : ops[pre.length]? = some o := by
      rw [← Array.getElem?_toList, h1, List.append_assoc, List.getElem?_append_right (Nat.le_refl _)]; simp
    have hlen : (pre ++ [o]).length = pre.length + 1 := by simp
    have hl : pre.length + (o :: rest).length = pre.length + 1 + rest.length := by simp; omega
    have step : ∀ (out : AV) (env' : Nat → AV) (nds' : List (Nat × Nat)) (pd' : List (Nat × Nat × List AC)), env' = wr o out env → PdOk bxF bx0 0 (pre.length + 1) pd' → (∀ p ∈ nds, p ∈ nds') → (∀ p ∈ pd, p ∈ pd') → (∀ p ∈ pd', p ∈ pd ∨ pre.length ≤ p.1) →
        dgo2 P rid ops bxF bx0 (pre.length + 1) rest env' (outs ++ [out]) nds' pd' K →
        (∀ (outs2 : List AV) (nds2 : List (Nat × Nat)) (pd2 : List (Nat × Nat × List AC)), envOf ops outs2 env0 (fun _ => true) pre.length = env → outs2.getD pre.length .bad = out → (∀ p ∈ nds', p ∈ nds2) → (∀ p ∈ pd', p ∈ pd2) → (∀ p ∈ pd2, p ∈ pd' ∨ pre.length + 1 ≤ p.1) → ((isBar o.op = false ∧ isAl o.op = false) ∧ (∀ p ∈ pd2, p.1 ≠ pre.length) ∧ ∃ nd : Option (Nat × Nat), (∀ p, nd = some p → p ∈ nds2) ∧
          dstep P rid pre.length ops bx0 (envOf ops outs2 env0 (fun _ => true) pre.length) o (fun x y => x = outs2.getD pre.length .bad ∧ y = nd)) ∨ EarlyAt P rid bxF bx0 (envOf ops outs2 env0 (fun _ => true) pre.length) pd2 pre.length o ∨ AllocAt P rid pd2 outs2 pre.length o) →
        ∃ outs2 nds2 pd2, outs2.length = pre.length + (o :: rest).length ∧ (∀ j, j < pre.length → outs2.getD j .bad = outs.getD j .bad) ∧ K outs2 nds2 pd2 (envOf ops outs2 env0 (fun _ => true) (pre.length + (o :: rest).length)) ∧ (∀ p ∈ nds, p ∈ nds2) ∧ (∀ p ∈ pd, p ∈ pd2) ∧ (∀ p ∈ pd2, p ∈ pd ∨ pre.length ≤ p.1) ∧ PdOk bxF bx0 0 (pre.length + (o :: rest).length) pd2 ∧
          ∀ j o, pre.length ≤ j → j < pre.length + (o :: rest).length → ops[j]? = some o → ((isBar o.op = false ∧ isAl o.op = false) ∧ (∀ p ∈ pd2, p.1 ≠ j) ∧ ∃ nd : Option (Nat × Nat), (∀ p, nd = some p → p ∈ nds2) ∧
            dstep P rid j ops bx0 (envOf ops outs2 env0 (fun _ => true) j) o (fun x y => x = outs2.getD j .bad ∧ y = nd)) ∨ EarlyAt P rid bxF bx0 (envOf ops outs2 env0 (fun _ => true) j) pd2 j o ∨ AllocAt P rid pd2 outs2 j o := by
      intro out env' nds' pd' he hp' hnd' hpd' hpd'' hg hhere
      have hout : ∀ j, j < pre.length → (outs ++ [out]).getD j .bad = outs.getD j .bad := by
        intro j hj
        rw [List.getD_eq_getElem?_getD, List.getElem?_append_left (by omega), ← List.getD_eq_getElem?_getD]
      have hlast : (outs ++ [out]).getD pre.length .bad = out := by
        rw [List.getD_eq_getElem?_getD, ← h2, List.getElem?_append_right (Nat.le_refl _)]; simp
      have henv : env' = envOf ops (outs ++ [out]) env0 (fun _ => true) (pre ++ [o]).length := by
        rw [hlen, he]
        simp only [envOf, if_true, hlast, getD_of ho]
        rw [h3, envOf_congr pre.length (fun j hj => ⟨(hout j hj).symm, rfl⟩)]
      obtain ⟨outs2, nds2, pd2, a1, a2, a3, a4, a5, a6, a7, a8⟩ := dgo2_spec rest (pre ++ [o]) tail (outs ++ [out]) nds' pd' env' (by simp [h1]) (by simp [h2]) henv (by rw [hlen]; exact hp') (by rw [hlen]; exact hg)
      rw [hlen] at a1 a2 a3 a6 a7 a8
      rw [hl]
      have e1 : outs2.getD pre.length .bad = out := by rw [a2 pre.length (by omega), hlast]
      have e2 : envOf ops outs2 env0 (fun _ => true) pre.length = env := by
        rw [h3]; exact envOf_congr _ (fun j hj => ⟨(a2 j (by omega)).trans (hout j hj), rfl⟩)
      refine ⟨outs2, nds2, pd2, a1, fun j hj => (a2 j (by omega)).trans (hout j hj), a3, fun p hp => a4 p (hnd' p hp), fun p hp => a5 p (hpd' p hp), fun p hp => ?_, a7, fun j o' hj hj' ho' => ?_⟩
      · rcases a6 p hp with h | h
        · exact hpd'' p h
        · exact .inr (by omega)
      · rcases Nat.lt_or_ge pre.length j with hlt | hge
        · exact a8 j o' (by omega) (by simp at hj'; omega) ho'
        · have : j = pre.length := by omega
          subst this
          rw [ho] at ho'; cases ho'
          exact hhere outs2 nds2 pd2 e2 e1 a4 a5 a6
    unfold dgo2 at h
    split at h
    · rename_i hbar
      obtain ⟨b1, b2, t, x, v, b, off, xs0, ys, c1, c2, c3, c4, c5, c6, c7, c8, c9, c10, hk⟩ := estep_split h
      have hco : cons o = none := by unfold cons; rw [c1]
      refine step .bad env nds (pd ++ [(pre.length, b, setRun xs0 off ys)]) ?_ ?_ (fun _ h => h) (fun p hp => by simp [hp]) (fun p hp => ?_) hk (fun outs2 nds2 pd2 d1 d2 d3 d4 d5 => .inr (.inl ?_))
      · unfold wr; rw [hco, b1]; rfl
      · refine ⟨?_, ?_, fun p hp' => ?_, fun p hp' => ?_, fun p hp' => ?_⟩
        · rw [List.pairwise_append]
          exact ⟨hp.inj, by simp, fun p hp' q hq => by simp at hq; subst hq; exact c9 p hp'⟩
        · rw [List.pairwise_append]
          refine ⟨hp.idx, by simp, fun p hp' q hq => ?_⟩
          simp at hq; subst hq
          have := (hp.rng p hp').2
          simp only; omega
        · rw [List.mem_append] at hp'
          rcases hp' with h | h
          · have := hp.rng p h; omega
          · simp at h; subst h; simp
        · rw [List.mem_append] at hp'
          rcases hp' with h | h
          · exact hp.none p h
          · simp at h; subst h; exact c8
        · rw [List.mem_append] at hp'
          rcases hp' with h | h
          · exact hp.from_ p h
          · simp at h; subst h; exact ⟨xs0, ys, off, c3, rfl, c7⟩
      · rw [List.mem_append] at hp
        rcases hp with h | h
        · exact .inl h
        · simp at h; subst h; exact .inr (Nat.le_refl _)
      · rw [d1]
        exact ⟨b1, b2, t, x, v, b, off, xs0, ys, c1, c2, c3, c4, c5, c6, c7, c8, c10, d4 _ (by simp)⟩
    · rename_i hbar
      split at h
      · rename_i hal
        unfold astep at h
        split at h
        · rename_i e d g1 g2 g3
          obtain ⟨hz, hK⟩ := h
          obtain ⟨zs, hz⟩ := Option.isSome_iff_exists.1 hz
          refine step _ _ nds pd rfl ?_ (fun _ h => h) (fun _ h => h) (fun p hp => .inl hp) hK (fun outs2 nds2 pd2 d1 d2 d3 d4 d5 => .inr (.inr ⟨g3, fun p hp' e => ?_, e, d, zs, g1, g2, hz, d2⟩))
          · exact ⟨hp.inj, hp.idx, fun p hp' => by have := hp.rng p hp'; omega, hp.none, hp.from_⟩
          · rcases d5 p hp' with h | h
            · have := (hp.rng p h).2; omega
            · omega
        · exact h.elim
      rename_i hnal
      obtain ⟨out, nd, hK, hs⟩ := dstep_split h
      refine step out _ (nd.toList ++ nds) pd rfl ?_ (fun p hp => by simp [hp]) (fun _ h => h) (fun p hp => .inl hp) hK (fun outs2 nds2 pd2 d1 d2 d3 d4 d5 => .inl ⟨⟨by simpa using hbar, by simpa using hnal⟩, fun p hp' e => ?_, nd, fun p hp => d3 p (by simp [hp]), ?_⟩)
      · exact ⟨hp.inj, hp.idx, fun p hp' => by have := hp.rng p hp'; omega, hp.none, hp.from_⟩
      · rcases d5 p hp' with h | h
        · have := (hp.rng p h).2; omega
        · omega
      · rw [d1, d2]; exact hs

/-! The boxes on the way. -/
theorem sx_of {pd : List (Nat × Nat × List AC)} (hp : pd.Pairwise fun p q => p.2.1 ≠ q.2.1) {p : Nat × Nat × List AC} (h : p ∈ pd) (S : Nat → Bool) : sx bxF pd S p.2.1 = if S p.1 then some p.2.2 else bxF p.2.1 := by
  have hf : pd.find? (fun q => q.2.1 == p.2.1) = some p := by
    induction pd with
    | nil => cases h
    | cons q r ih =>
      rw [List.pairwise_cons] at hp
      rw [List.find?_cons]
      rcases List.mem_cons.1 h with rfl | h
      · simp
      · have : (q.2.1 == p.2.1) = false := by simpa using hp.1 p h
        rw [this]
        exact ih hp.2 h
  unfold sx
  rw [hf]
theorem sx_mono {pd : List (Nat × Nat × List AC)} (hp : ∀ p ∈ pd, bx0 p.2.1 = none) (hm : ∀ i xs, bx0 i = some xs → bxF i = some xs) (S : Nat → Bool) {i : Nat} {xs : List AC} (h : bx0 i = some xs) : sx bxF pd S i = some xs := by
  unfold sx
  split
  · rename_i p hf
    have h1 := List.find?_some hf
    have h2 := List.mem_of_find?_eq_some hf
    simp at h1
    have := hp p h2
    rw [h1, h] at this; cases this
  · exact hm i xs h
theorem sx_quiet {pd : List (Nat × Nat × List AC)} {j : Nat} (h : ∀ p ∈ pd, p.1 ≠ j) (S : Nat → Bool) : sx bxF pd (addS S j) = sx bxF pd S := by
  funext i
  unfold sx
  split
  · rename_i p hf
    have h2 := List.mem_of_find?_eq_some hf
    have : addS S j p.1 = S p.1 := by simp [addS, h p h2]
    rw [this]
  · rfl
theorem sx_congr {pd : List (Nat × Nat × List AC)} {m : Nat} (hr : ∀ p ∈ pd, p.1 < m) {S S' : Nat → Bool} (h : ∀ j, j < m → S j = S' j) : sx bxF pd S = sx bxF pd S' := by
  funext i
  unfold sx
  split
  · rename_i p hf
    rw [h p.1 (hr p (List.mem_of_find?_eq_some hf))]
  · rfl
theorem sx_add {pd : List (Nat × Nat × List AC)} (hinj : pd.Pairwise fun p q => p.2.1 ≠ q.2.1) (hidx : pd.Pairwise fun p q => p.1 ≠ q.1) {j b : Nat} {xs : List AC} (h : (j, b, xs) ∈ pd) {S : Nat → Bool} (hS : S j = false) :
    sx bxF pd S b = bxF b ∧ sx bxF pd (addS S j) = fun k => if k = b then some xs else sx bxF pd S k := by
  have h1 := sx_of (bxF := bxF) hinj h
  simp only at h1
  refine ⟨by rw [h1, hS]; simp, ?_⟩
  funext k
  by_cases hk : k = b
  · subst hk
    rw [h1, if_pos rfl]
    simp [addS]
  · rw [if_neg hk]
    unfold sx
    split
    · rename_i p hf
      have h2 := List.mem_of_find?_eq_some hf
      have h3 := List.find?_some hf
      simp at h3
      have hne : p.1 ≠ j := by
        intro e
        by_cases hpe : p = (j, b, xs)
        · subst hpe; exact hk h3.symm
        · have key : ∀ (l : List (Nat × Nat × List AC)), (l.Pairwise fun p q => p.1 ≠ q.1) → ∀ x ∈ l, ∀ y ∈ l, x ≠ y → x.1 ≠ y.1 := by
            intro l hl
            induction l with
            | nil => intro x hx; cases hx
            | cons z r ih =>
              rw [List.pairwise_cons] at hl
              intro x hx y hy hxy
              rcases List.mem_cons.1 hx with ex | hx' <;> rcases List.mem_cons.1 hy with ey | hy'
              · exact (hxy (ex.trans ey.symm)).elim
              · rw [ex]; exact hl.1 y hy'
              · rw [ey]; exact fun e => hl.1 x hx' e.symm
              · exact ih hl.2 x hx' y hy' hxy
          exact key pd hidx p h2 _ h hpe e
      have : addS S j p.1 = S p.1 := by simp [addS, hne]
      rw [this]
    · rfl
theorem mem_setRun {x : AC} : ∀ (ys xs : List AC) (o : Nat), x ∈ setRun xs o ys → x ∈ xs ∨ x ∈ ys
  | [], xs, o, h => .inl h
  | y :: ys, xs, o, h => by
    rcases mem_setRun ys _ _ h with h | h
    · rcases List.mem_or_eq_of_mem_set h with h | rfl
      · exact .inl h
      · exact .inr (by simp)
    · exact .inr (by simp [h])
theorem sx_labs {lo hi : Nat} {pd : List (Nat × Nat × List AC)} (hp : PdOk bxF bx0 lo hi pd) {f : Nat} (hF : ∀ i xs, bxF i = some xs → ∀ x ∈ xs, f ∉ x.labs) (S : Nat → Bool) {i : Nat} {xs : List AC} (h : sx bxF pd S i = some xs) : ∀ x ∈ xs, f ∉ x.labs := by
  unfold sx at h
  split at h
  · rename_i p hf
    split at h
    · cases h
      obtain ⟨xs0, ys, off, e1, e2, e3⟩ := hp.from_ p (List.mem_of_find?_eq_some hf)
      intro x hx
      rw [e2] at hx
      rcases mem_setRun _ _ _ hx with h | h
      · exact hF _ _ e1 x h
      · intro hc
        have : f ∈ ys.flatMap AC.labs := List.mem_flatMap.2 ⟨x, h, hc⟩
        rw [e3] at this; cases this
    · exact hF _ _ h
  · exact hF _ _ h

/-- Where fewer boxes are looked at. -/
theorem dq_boxes {id : Nat} {bx bx' : Nat → Option (List AC)} {env : Nat → AV} {o : Oper} {K : AV → Option (Nat × Nat) → Prop} (hm : ∀ i xs, bx i = some xs → bx' i = some xs) (h : dq P rid id ops bx env o K) : dq P rid id ops bx' env o K := by
  have hq : ∀ op v, qval P id (evAV env) bx op = some v → qval P id (evAV env) bx' op = some v := by
    intro op v hv
    by_cases hop : ∃ t x, op = .load t x
    rotate_left
    · unfold qval at hv ⊢
      split at hv <;> first | exact hv | (exact (hop ⟨_, _, rfl⟩).elim) | skip
    obtain ⟨t, x, rfl⟩ := hop
    simp only [qval, qload] at hv ⊢
    split at hv
    · rename_i b off hx
      cases hb : bx b with
      | none => rw [hb] at hv; simp at hv
      | some xs => rw [hb] at hv; rw [hm b xs hb]; exact hv
    · exact hv
    · exact hv
    · cases hv
  unfold dq at h ⊢
  split at h
  · exact h
  · exact h
  · split at h
    · rename_i out ho
      rw [hq _ _ ho]; exact h
    · exact h.elim
theorem dstep_boxes {j : Nat} {bx bx' : Nat → Option (List AC)} {env : Nat → AV} {o : Oper} {K : AV → Option (Nat × Nat) → Prop} (hm : ∀ i xs, bx i = some xs → bx' i = some xs) (h : dstep P rid j ops bx env o K) : dstep P rid j ops bx' env o K := by
  unfold dstep at h ⊢
  split at h
  · exact dq_boxes hm h
  · split at h
    · exact ⟨fun e => dq_boxes hm (h.1 e), h.2⟩
    · exact h.elim
/-! The allocs on the way. -/
theorem alOf_mem : ∀ (l : List Oper) (i : Nat) (q : Nat × List AC), q ∈ alOf P i l → ∃ e d, i ≤ q.1 ∧ l[q.1 - i]? = some d ∧ d.op = .alloc e ∧ zeroA P e = some q.2
  | [], i, q, h => by simp [alOf] at h
  | o :: l, i, q, h => by
    have rest : q ∈ alOf P (i + 1) l → ∃ e d, i ≤ q.1 ∧ (o :: l)[q.1 - i]? = some d ∧ d.op = .alloc e ∧ zeroA P e = some q.2 := by
      intro h
      obtain ⟨e, d, h1, h2, h3⟩ := alOf_mem l (i + 1) q h
      refine ⟨e, d, by omega, ?_, h3⟩
      have : q.1 - i = (q.1 - (i + 1)) + 1 := by omega
      rw [this]; exact h2
    unfold alOf at h
    split at h
    · rename_i e ho
      split at h
      · rename_i zs hz
        rcases List.mem_cons.1 h with rfl | h
        · exact ⟨e, o, Nat.le_refl _, by simp, ho, hz⟩
        · exact rest h
      · exact rest h
    · exact rest h
theorem alOf_find : ∀ (l : List Oper) (i j : Nat) (o : Oper) (e : TypeId) (zs : List AC), l[j]? = some o → o.op = .alloc e → zeroA P e = some zs → (alOf P i l).find? (fun q => rid * 65536 + q.1 * 64 == rid * 65536 + (i + j) * 64) = some (i + j, zs)
  | [], i, j, o, e, zs, h, _, _ => by simp at h
  | o' :: l, i, 0, o, e, zs, h, ho, hz => by
    simp at h; subst h
    unfold alOf
    rw [ho]
    simp [hz]
  | o' :: l, i, j + 1, o, e, zs, h, ho, hz => by
    have ih := alOf_find l (i + 1) j o e zs (by simpa using h) ho hz
    have e1 : i + 1 + j = i + (j + 1) := by omega
    rw [e1] at ih
    unfold alOf
    split
    · split
      · rw [List.find?_cons]
        have : (rid * 65536 + i * 64 == rid * 65536 + (i + (j + 1)) * 64) = false := by simp; omega
        simp only [this]
        exact ih
      · exact ih
    · exact ih
theorem bs_sub {AL : List (Nat × List AC)} {bx : Nat → Option (List AC)} (S : Nat → Bool) {i : Nat} {xs : List AC} (h : bs rid AL bx S i = some xs) : bs rid AL bx (fun _ => true) i = some xs := by
  unfold bs at h ⊢
  split at h
  · split at h
    · simpa using h
    · cases h
  · exact h
theorem bs_quiet {L : List Oper} {bx : Nat → Option (List AC)} {j : Nat} {o : Oper} (ho : L[j]? = some o) (h : isAl o.op = false) (S : Nat → Bool) : bs rid (alOf P 0 L) bx (addS S j) = bs rid (alOf P 0 L) bx S := by
  funext i
  unfold bs
  split
  · rename_i q hf
    obtain ⟨e, d, _, h2, h3, _⟩ := alOf_mem L 0 q (List.mem_of_find?_eq_some hf)
    have : q.1 ≠ j := by
      intro e
      subst e
      simp only [Nat.sub_zero, ho, Option.some.injEq] at h2
      subst h2
      rw [h3] at h; simp [isAl] at h
    have : addS S j q.1 = S q.1 := by simp [addS, this]
    rw [this]
  · rfl
theorem bs_add {L : List Oper} {bx : Nat → Option (List AC)} {j : Nat} {o : Oper} {e : TypeId} {zs : List AC} (ho : L[j]? = some o) (h : o.op = .alloc e) (hz : zeroA P e = some zs) (S : Nat → Bool) :
    bs rid (alOf P 0 L) bx (addS S j) = fun k => if k = rid * 65536 + j * 64 then some zs else bs rid (alOf P 0 L) bx S k := by
  have hf := alOf_find (P := P) (rid := rid) L 0 j o e zs ho h hz
  rw [Nat.zero_add] at hf
  funext k
  by_cases hk : k = rid * 65536 + j * 64
  · subst hk
    rw [if_pos rfl]
    unfold bs
    rw [hf]
    simp [addS]
  · rw [if_neg hk]
    unfold bs
    split
    · rename_i q hq
      have h1 := List.find?_some hq
      have : q.1 ≠ j := by rintro rfl; simp at h1; exact hk h1.symm
      have : addS S j q.1 = S q.1 := by simp [addS, this]
      rw [this]
    · rfl
theorem bs_all {L : List Oper} {bx : Nat → Option (List AC)} {S : Nat → Bool} (h : ∀ j, j < L.length → S j = true) : bs rid (alOf P 0 L) bx S = bs rid (alOf P 0 L) bx (fun _ => true) := by
  funext i
  unfold bs
  split
  · rename_i q hf
    obtain ⟨e, d, _, h2, _, _⟩ := alOf_mem L 0 q (List.mem_of_find?_eq_some hf)
    have hlt : q.1 < L.length := by
      rcases Nat.lt_or_ge q.1 L.length with h | h
      · exact h
      · rw [Nat.sub_zero, List.getElem?_eq_none h] at h2; cases h2
    rw [h _ hlt]
  · rfl
theorem sx_base {pd : List (Nat × Nat × List AC)} {B B' : Nat → Option (List AC)} {S : Nat → Bool} {i : Nat} (h : B i = B' i) : sx B pd S i = sx B' pd S i := by unfold sx; rw [h]
theorem sx_labs2 {B : Nat → Option (List AC)} {lo hi : Nat} {pd : List (Nat × Nat × List AC)} (hp : PdOk bxF bx0 lo hi pd) (hB : ∀ i xs, B i = some xs → bxF i = some xs) {f : Nat} (hF : ∀ i xs, bxF i = some xs → ∀ x ∈ xs, f ∉ x.labs) (S : Nat → Bool) {i : Nat} {xs : List AC} (h : sx B pd S i = some xs) : ∀ x ∈ xs, f ∉ x.labs := by
  unfold sx at h
  split at h
  · rename_i p hf
    split at h
    · cases h
      obtain ⟨xs0, ys, off, e1, e2, e3⟩ := hp.from_ p (List.mem_of_find?_eq_some hf)
      intro x hx
      rw [e2] at hx
      rcases mem_setRun _ _ _ hx with h | h
      · exact hF _ _ e1 x h
      · intro hc
        have : f ∈ ys.flatMap AC.labs := List.mem_flatMap.2 ⟨x, h, hc⟩
        rw [e3] at this; cases this
    · exact hF _ _ (hB _ _ h)
  · exact hF _ _ (hB _ _ h)
theorem sx_none {pd : List (Nat × Nat × List AC)} {S : Nat → Bool} {B : Nat → Option (List AC)} {b : Nat} {j : Nat} {xs : List AC} (hp : pd.Pairwise fun p q => p.2.1 ≠ q.2.1) (hm : (j, b, xs) ∈ pd) (hS : S j = false) : sx B pd S b = B b := by
  have h1 := sx_of (bxF := B) hp hm S
  simp only at h1
  rw [h1, hS]; simp
/-- THE RUN, WHATEVER THE ORDER. -/
theorem drawn_run2 {C : Cx} {Q : Exit → Act → World → Prop} {outs : List AV} {m : Nat} {pd : List (Nat × Nat × List AC)} {bx : Nat → Option (List AC)} (hbF : bxF = bs rid (alOf P 0 (ops.toList.take m)) bx (fun _ => true)) (hck : alChk ops = true) (hpin : ∀ j, j < ops.size → C.pin (rid * 65536 + j * 64) = none) (hszo : ops.size ≤ 1024) (hpd : PdOk bxF bx0 0 m pd) (hbx : ∀ S i xs, bx0 i = some xs → bs rid (alOf P 0 (ops.toList.take m)) bx S i = some xs) (hD : DChk ops) (hm : m ≤ ops.size) (hd : ∀ o ∈ ops.toList, dstOk C.N o.dst)
    (hstep : ∀ j o, j < m → ops[j]? = some o → (isAl o.op = false ∧ (∀ p ∈ pd, p.1 ≠ j) ∧ ∃ nd : Option (Nat × Nat), dstep P rid j ops bx0 (envOf ops outs env0 (fun _ => true) j) o (fun x y => x = outs.getD j .bad ∧ y = nd) ∧
      ∀ k f, nd = some (k, f) → (∀ s, f ∉ (env0 s).labs) ∧ (∀ i, i ≠ k → f ∉ (outs.getD i .bad).labs) ∧ (∀ i xs, bxF i = some xs → ∀ x ∈ xs, f ∉ x.labs) ∧ ∀ t, cons o = some t → (ops.getD k default).dst = some t) ∨ EarlyAt P rid bxF bx0 (envOf ops outs env0 (fun _ => true) j) pd j o ∨ AllocAt P rid pd outs j o)
    (hbar : ∀ k o, m ≤ k → ops[k]? = some o → o.guard = none ∧ ∀ j, j < k → Reach ops k j)
    (hfin : ∀ a w ρ β, J C ⟨envOf ops outs env0 (fun _ => true) m, sx bxF pd (fun _ => true)⟩ a w ρ β → seqRun P Q (ops.toList.drop m) a w) :
    ∀ (fuel : Nat) (listed : Array Bool) (a : Act) (w : World) (ρ β : Fam), listed.size = ops.size → Closed ops (fun j => listed.getD j false) → (∀ j, m ≤ j → listed.getD j false = false) → unl ops.size (fun j => listed.getD j false) ≤ fuel →
      J C ⟨envOf ops outs env0 (fun j => listed.getD j false) m, sx (bs rid (alOf P 0 (ops.toList.take m)) bx (fun j => listed.getD j false)) pd (fun j => listed.getD j false)⟩ a w ρ β → (∀ j, j < m → listed.getD j false = false → ∀ f, rid * 65536 + j * 64 ≤ f → f < rid * 65536 + j * 64 + 64 → ρ f = none) → (∀ j o, j < m → ops[j]? = some o → (∃ e zs, o.op = .alloc e ∧ zeroA P e = some zs) → listed.getD j false = false → β (2 * (rid * 65536 + j * 64)) = none) → wpAny P .any ops Q fuel listed a w := by
  intro fuel
  -- the quiet ones are done
  have hall : ∀ (fuel : Nat) (listed : Array Bool), listed.size = ops.size → unl ops.size (fun j => listed.getD j false) ≤ fuel → (∀ j, m ≤ j → listed.getD j false = false) → (∀ i, i < m → listed.getD i false = true) → ∀ a w ρ β, J C ⟨envOf ops outs env0 (fun j => listed.getD j false) m, sx (bs rid (alOf P 0 (ops.toList.take m)) bx (fun j => listed.getD j false)) pd (fun j => listed.getD j false)⟩ a w ρ β → wpAny P .any ops Q fuel listed a w := by
    intro fuel listed hsz hu hq hal a w ρ β hJ
    rw [envOf_congr (outs' := outs) (S' := fun _ => true) m (fun j hj => ⟨rfl, hal j hj⟩), sx_congr (fun p hp => (hpd.rng p hp).2) (S' := fun _ => true) (fun j hj => hal j hj), bs_all (fun j hj => hal j (by simp at hj; omega)), ← hbF] at hJ
    refine seq_any hD fuel m listed a w hm hbar hsz hal hq ?_ (hfin a w ρ β hJ)
    refine Nat.le_trans ?_ hu
    unfold unl
    have hsub : ((List.range ops.size).filter fun j => decide (m ≤ j)).length ≤ ((List.range ops.size).filter fun j => !listed.getD j false).length := by
      have e : (List.range ops.size).filter (fun j => decide (m ≤ j)) = ((List.range ops.size).filter fun j => !listed.getD j false).filter (fun j => decide (m ≤ j)) := by
        rw [List.filter_filter]
        apply List.filter_congr
        intro j _
        by_cases h : m ≤ j
        · simp [h, hq j h]
        · simp [h]
      rw [e]; exact List.length_filter_le _ _
    refine Nat.le_trans ?_ hsub
    have hlen : ∀ n, n - m ≤ ((List.range n).filter fun j => decide (m ≤ j)).length := by
      intro n
      induction n with
      | zero => simp
      | succ n ihn =>
        rw [List.range_succ, List.filter_append, List.length_append]
        by_cases h : m ≤ n
        · simp [h]; omega
        · simp [h]; omega
    exact hlen _
  induction fuel with
  | zero =>
    intro listed a w ρ β hsz hcl hq hu hJ hfr hab
    refine hall 0 listed hsz hu hq (fun i hi => ?_) a w ρ β hJ
    cases hl : listed.getD i false with
    | true => rfl
    | false =>
      have : i ∈ (List.range ops.size).filter fun j => !listed.getD j false := by rw [List.mem_filter]; exact ⟨List.mem_range.2 (by omega), by rw [hl]; rfl⟩
      have : 0 < unl ops.size (fun j => listed.getD j false) := List.length_pos_of_mem this
      omega
  | succ fuel ih =>
    intro listed a w ρ β hsz hcl hq hu hJ hfr hab
    by_cases hdone : ∀ i, i < m → listed.getD i false = true
    · exact hall (fuel + 1) listed hsz hu hq hdone a w ρ β hJ
    refine ⟨fun hr => ?_, fun i hi => ?_⟩
    · exact (hdone fun i hi => ready_nil hsz hD hr i (by omega)).elim
    obtain ⟨o, ho, hi0, hready⟩ := mem_ready'.1 hi
    have hin : i < ops.size := (Array.getElem?_eq_some_iff.1 ho).1
    have hi1 : listed.getD i false = false := by
      rw [Array.getD_eq_getD_getElem?, Array.getElem?_eq_getElem (by omega)] at hi0 ⊢; simpa using hi0
    have hset : ∀ j, (listed.setIfInBounds i true).getD j false = addS (fun j => listed.getD j false) i j := by
      intro j
      simp only [Array.getD_eq_getD_getElem?, Array.getElem?_setIfInBounds, addS]
      by_cases h : i = j
      · subst h; simp [hsz, hin]
      · rw [if_neg h]
        have : decide (j = i) = false := by simp; omega
        simp [this]
    have hsetf : (fun j => (listed.setIfInBounds i true).getD j false) = addS (fun j => listed.getD j false) i := funext hset
    have hsz' : (listed.setIfInBounds i true).size = ops.size := by simp [hsz]
    have hmem : o ∈ ops.toList := by
      have := Array.mem_of_getElem? ho
      simpa using this
    simp only [wpOp, ho]
    rcases Nat.lt_or_ge i m with him | him
    · -- not yet at the stores at the end
      have hag := envOf_agree (outs := outs) (env0 := env0) hD hcl ho hi1 hready m hm him
      have hadd := envOf_add (outs := outs) (env0 := env0) hD hcl ho hi1 m hm him
      have hcl' : Closed ops (addS (fun j => listed.getD j false) i) := by
        intro k ok hok hk e he hb
        simp only [addS, Bool.or_eq_true, decide_eq_true_eq] at hk ⊢
        rcases hk with rfl | hk
        · rw [ho] at hok; cases hok
          exact .inr (hready e he hb)
        · exact .inr (hcl k ok hok hk e he hb)
      have hq' : ∀ j, m ≤ j → (listed.setIfInBounds i true).getD j false = false := by
        intro j hj
        rw [hset]
        have : decide (j = i) = false := by simp; omega
        simp only [addS, this, Bool.false_or]
        exact hq j hj
      have hu' : unl ops.size (fun j => (listed.setIfInBounds i true).getD j false) ≤ fuel := by
        rw [hsetf]
        have := unl_add (S := fun j => listed.getD j false) hin hi1
        omega
      have htk : (ops.toList.take m)[i]? = some o := by rw [List.getElem?_take_of_lt him]; simpa using ho
      have onwardB : ∀ a' w' ρ' β', J C ⟨wr o (outs.getD i .bad) (envOf ops outs env0 (fun j => listed.getD j false) m), sx (bs rid (alOf P 0 (ops.toList.take m)) bx (addS (fun j => listed.getD j false) i)) pd (addS (fun j => listed.getD j false) i)⟩ a' w' ρ' β' →
          (∀ g, ρ g = none → ¬ (rid * 65536 + i * 64 ≤ g ∧ g < rid * 65536 + i * 64 + 64) → ρ' g = none) → (∀ g, β g = none → g ≠ 2 * (rid * 65536 + i * 64) → β' g = none) → wpAny P .any ops Q fuel (listed.setIfInBounds i true) a' w' := by
        intro a' w' ρ' β' hJ' hg hgb
        refine ih _ a' w' ρ' β' hsz' (by rw [hsetf]; exact hcl') hq' hu' (by rw [hsetf, hadd]; exact hJ') (fun j hj hjl f hf1 hf2 => ?_) (fun j oj hjm hoj haj hjl => by
          rw [hset] at hjl
          simp only [addS, Bool.or_eq_false_iff, decide_eq_false_iff_not] at hjl
          exact hgb _ (hab j oj hjm hoj haj hjl.2) (by have := hjl.1; omega))
        rw [hset] at hjl
        simp only [addS, Bool.or_eq_false_iff, decide_eq_false_iff_not] at hjl
        refine hg f (hfr j hj hjl.2 f hf1 hf2) (fun hc => ?_)
        have hji := hjl.1
        omega
      have onward : ∀ a' w' ρ', J C ⟨wr o (outs.getD i .bad) (envOf ops outs env0 (fun j => listed.getD j false) m), sx (bs rid (alOf P 0 (ops.toList.take m)) bx (addS (fun j => listed.getD j false) i)) pd (addS (fun j => listed.getD j false) i)⟩ a' w' ρ' β →
          (∀ g, ρ g = none → ¬ (rid * 65536 + i * 64 ≤ g ∧ g < rid * 65536 + i * 64 + 64) → ρ' g = none) → wpAny P .any ops Q fuel (listed.setIfInBounds i true) a' w' :=
        fun a' w' ρ' hJ' hg => onwardB a' w' ρ' β hJ' hg (fun g h _ => h)
      rcases hstep i o him ho with ⟨hnal, hnp, nd, hs, hnd⟩ | ⟨hdst, hgd, t, x, v, b, off, xs0, ys, c1, c2, c3, c4, c5, c6, c7, c8, c10, c9⟩ | ⟨hgd, hnp, e, d, zs, d1, d2, d3, d4⟩
      · have hs' := dstep_boxes (fun k xs h => sx_mono (bxF := bs rid (alOf P 0 (ops.toList.take m)) bx (fun j => listed.getD j false)) hpd.none (hbx _) (fun j => listed.getD j false) h) (dstep_congr (env' := envOf ops outs env0 (fun j => listed.getD j false) m) (fun s h => (hag s h).symm) hs)
        rw [sx_quiet hnp, bs_quiet htk hnal] at onward
        have run : dq P rid (rid * 65536 + i * 64) ops (sx (bs rid (alOf P 0 (ops.toList.take m)) bx (fun j => listed.getD j false)) pd (fun j => listed.getD j false)) (envOf ops outs env0 (fun j => listed.getD j false) m) o (fun x y => x = outs.getD i .bad ∧ y = nd) → o.wp P a w (wpAny P .any ops Q fuel (listed.setIfInBounds i true)) Q := by
          intro hdq
          refine dq_sound (st := ⟨envOf ops outs env0 (fun j => listed.getD j false) m, sx (bs rid (alOf P 0 (ops.toList.take m)) bx (fun j => listed.getD j false)) pd (fun j => listed.getD j false)⟩) hJ (hfr i him hi1) (hd o hmem) hdq (fun k f hkf t ht => ?_) (fun v w' ρ' hJ' hg => onward _ w' ρ' hJ' hg)
          obtain ⟨h0, h1, h2, h3⟩ := hnd k f hkf
          refine ⟨fun s hs hl => ?_, fun i' xs' hx' => sx_labs2 hpd (fun i xs h => by rw [hbF]; exact bs_sub _ h) h2 (fun j => listed.getD j false) (show sx (bs rid (alOf P 0 (ops.toList.take m)) bx (fun j => listed.getD j false)) pd (fun j => listed.getD j false) i' = some xs' from hx')⟩
          have := envOf_labs (ops := ops) h0 h1 m s hl
          rw [h3 t ht] at this
          cases this; exact hs rfl
        unfold dstep at hs'
        split at hs'
        · rename_i hg
          rw [if_pos (wanted_none hg)]
          exact .inl (run hs')
        · rename_i j want hg
          split at hs'
          · rename_i b hb
            have hy := wanted_of hJ hb
            cases b with
            | true =>
              rw [if_pos (by simp only [Region.wanted, hg]; exact hy)]
              exact .inl (run (hs'.1 rfl))
            | false =>
              rw [if_neg (by simp only [Region.wanted, hg]; rw [hy]; simp)]
              obtain ⟨hb1, _⟩ := hs'.2 rfl
              have h1 := hJ.put (hd o hmem) (v := undef) (x := uV) (.tup _ _ rfl (by simp))
              rw [put_putE] at h1
              refine onward _ w ρ ?_ (fun g hg _ => hg)
              rw [← hb1]
              exact h1.weaken (fun s => wr_weaken s)
          · exact hs'.elim
      · have he := evAV_congr (fun s h => (hag s h).symm) (ops := ops) (o := o)
        obtain ⟨e1, e2⟩ := sx_add (bxF := bs rid (alOf P 0 (ops.toList.take m)) bx (fun j => listed.getD j false)) hpd.inj hpd.idx c9 (S := fun j => listed.getD j false) hi1
        have hnal : isAl o.op = false := by rw [c1]; rfl
        rw [bs_quiet htk hnal] at onward
        have hb0 : bs rid (alOf P 0 (ops.toList.take m)) bx (fun j => listed.getD j false) b = some xs0 := by
          rw [hbF] at c3
          unfold bs at c3 ⊢
          split at c3
          · rename_i q hf
            have hq := List.find?_some hf
            simp only [beq_iff_eq] at hq
            obtain ⟨e', oq, _, q2, q3, _⟩ := alOf_mem (ops.toList.take m) 0 q (List.mem_of_find?_eq_some hf)
            rw [Nat.sub_zero] at q2
            have hqm : q.1 < m := by
              rcases Nat.lt_or_ge q.1 m with h | h
              · exact h
              · rw [List.getElem?_eq_none (by simp; omega)] at q2; cases q2
            rw [List.getElem?_take_of_lt hqm] at q2
            have hqo : ops[q.1]? = some oq := by simpa using q2
            have hqi : q.1 < i := by omega
            have hr : Reach ops i q.1 := by
              unfold alChk at hck
              rw [List.all_eq_true] at hck
              have h1 := hck i (List.mem_range.2 hin)
              rw [ho] at h1
              have hbr : isBar o.op = true := by rw [c1]; rfl
              simp only [hbr, Bool.not_true, Bool.false_or, List.all_eq_true] at h1
              have h2 := h1 q.1 (List.mem_range.2 hqi)
              rw [hqo] at h2
              have hbr2 : isAl oq.op = true := by rw [q3]; rfl
              simp only [hbr2, Bool.not_true, Bool.false_or] at h2
              exact befL_spec ops ops.toList [] [] rfl rfl (by simp) _ _ h2
            have hSq : listed.getD q.1 false = true := ready_reach hcl ho hready hr
            rw [if_pos hSq]
            simpa using c3
          · exact c3
        have hco : cons o = none := by unfold cons; rw [c1]
        have hwr : wr o (outs.getD i .bad) (envOf ops outs env0 (fun j => listed.getD j false) m) = envOf ops outs env0 (fun j => listed.getD j false) m := by unfold wr; rw [hco, hdst]; rfl
        rw [hwr, e2] at onward
        rw [if_pos (wanted_none hgd)]
        refine .inl (early_sound hJ c1 hdst (b := b) (off := off) (xs0 := xs0) (ys := ys) ?_ (by rw [e1]; exact hb0) ?_ c5 c6 fun w' hJ' => onward a w' ρ hJ' (fun g hg _ => hg))
        · rw [← he x (by rw [c1]; simp [Op.operands])]; exact c2
        · rw [← he v (by rw [c1]; simp [Op.operands])]; exact c4
      · -- an alloc
        have hal' := bs_add (P := P) (rid := rid) (bx := bx) htk d1 d3 (fun j => listed.getD j false)
        have hdN : d < C.N := hd o hmem d d2
        rw [if_pos (wanted_none hgd)]
        refine .inl (alloc_sound (id := rid * 65536 + i * 64) hJ d1 d2 hdN d3 (hpin i hin) (hab i o him ho ⟨e, zs, d1, d3⟩ hi1) fun v w' β' hJ' hβ => ?_)
        have hco : cons o = none := by unfold cons; rw [d1]
        refine d2 ▸ onwardB _ w' ρ β' ?_ (fun g hg _ => hg) (fun g hg hne => by rw [hβ g hne]; exact hg)
        have hwr : wr o (outs.getD i .bad) (envOf ops outs env0 (fun j => listed.getD j false) m) = putE (envOf ops outs env0 (fun j => listed.getD j false) m) (some d) (.cell (.ptr (rid * 65536 + i * 64) 0)) := by unfold wr; rw [hco, d2, d4]; rfl
        rw [hwr]
        have hbx' : sx (bs rid (alOf P 0 (ops.toList.take m)) bx (addS (fun j => listed.getD j false) i)) pd (addS (fun j => listed.getD j false) i) = fun k => if k = rid * 65536 + i * 64 then some zs else sx (bs rid (alOf P 0 (ops.toList.take m)) bx (fun j => listed.getD j false)) pd (fun j => listed.getD j false) k := by
          rw [hal']
          funext k
          have hpne : ∀ p ∈ pd, addS (fun j => listed.getD j false) i p.1 = listed.getD p.1 false := fun p hp => by simp [addS, hnp p hp]
          unfold sx
          by_cases hk : k = rid * 65536 + i * 64
          · rw [if_pos hk]
            split
            · rename_i p hf
              have hp1 := List.mem_of_find?_eq_some hf
              have hp2 := List.find?_some hf
              simp only [beq_iff_eq] at hp2
              rw [hpne p hp1]
              have hS : listed.getD p.1 false = false := by
                have hpm := (hpd.rng p hp1).2
                have hps : p.1 < ops.size := by omega
                have hpo : ops[p.1]? = some ops[p.1] := Array.getElem?_eq_getElem hps
                rcases hstep p.1 _ hpm hpo with ⟨_, hn', _⟩ | ⟨_, _, t', x', v', b', off', xs', ys', f1, _, _, _, _, _, _, _, f8, f9⟩ | ⟨_, hn', _⟩
                · exact (hn' p hp1 rfl).elim
                · have key : ∀ (l : List (Nat × Nat × List AC)), (l.Pairwise fun p q => p.1 ≠ q.1) → ∀ x ∈ l, ∀ y ∈ l, x.1 = y.1 → x = y := by
                    intro l hl
                    induction l with
                    | nil => intro x hx; cases hx
                    | cons z r ih =>
                      rw [List.pairwise_cons] at hl
                      intro x hx y hy hxy
                      rcases List.mem_cons.1 hx with ex | hx' <;> rcases List.mem_cons.1 hy with ey | hy'
                      · rw [ex, ey]
                      · rw [ex] at hxy; exact (hl.1 y hy' hxy).elim
                      · rw [ey] at hxy; exact (hl.1 x hx' hxy.symm).elim
                      · exact ih hl.2 x hx' y hy' hxy
                  have he := key pd hpd.idx p hp1 _ f9 rfl
                  have hb' : p.2.1 = b' := by rw [he]
                  have hip : i < p.1 := by omega
                  have hr : Reach ops p.1 i := by
                    unfold alChk at hck
                    rw [List.all_eq_true] at hck
                    have h1 := hck p.1 (List.mem_range.2 hps)
                    rw [hpo] at h1
                    have hbr : isBar (ops[p.1]).op = true := by rw [f1]; rfl
                    simp only [hbr, Bool.not_true, Bool.false_or, List.all_eq_true] at h1
                    have h2 := h1 i (List.mem_range.2 hip)
                    rw [ho] at h2
                    have hbr2 : isAl o.op = true := by rw [d1]; rfl
                    simp only [hbr2, Bool.not_true, Bool.false_or] at h2
                    exact befL_spec ops ops.toList [] [] rfl rfl (by simp) _ _ h2
                  cases hSp : listed.getD p.1 false with
                  | false => rfl
                  | true =>
                    have := hcl.reach hr hSp
                    rw [hi1] at this; cases this
                · exact (hn' p hp1 rfl).elim
              rw [hS]
              simp [hk]
            · simp [hk]
          · rw [if_neg hk]
            split
            · rename_i p hf
              rw [hpne p (List.mem_of_find?_eq_some hf)]
              simp [hk]
            · simp [hk]
        rw [hbx']
        exact hJ'
    · -- no store is ready
      refine (hdone fun j hj => ?_).elim
      exact ready_reach hcl ho hready ((hbar i o him ho).2 j (by omega))

end

/-! The boxes of a region's allocs are given up ahead of it. -/
def ubs (rid : Nat) : List (Nat × List AC) → St → St
  | [], st => st
  | q :: r, st => (ubs rid r st).unbox (rid * 65536 + q.1 * 64)
theorem J.fewer {C : Cx} {st : St} {a : Act} {w : World} {ρ β : Fam} (hJ : J C st a w ρ β) {bx : Nat → Option (List AC)} (h : ∀ i xs, bx i = some xs → st.box i = some xs) : J C ⟨st.env, bx⟩ a w ρ β :=
  ⟨hJ.size, hJ.ext.of rfl (fun _ _ _ _ e => e), hJ.os, hJ.tape, hJ.output, hJ.grown, hJ.kept, hJ.protlt, hJ.phan, hJ.apart, hJ.env, fun i xs hx => hJ.box i xs (h i xs hx), hJ.glob, hJ.pin⟩
theorem ubs_J {C : Cx} {a : Act} {w : World} {ρ : Fam} {rid : Nat} : ∀ (AL : List (Nat × List AC)) (st : St) (β : Fam), (∀ q ∈ AL, C.pin (rid * 65536 + q.1 * 64) = none) → J C st a w ρ β → ∃ β', J C (ubs rid AL st) a w ρ β' ∧ ∀ q ∈ AL, β' (2 * (rid * 65536 + q.1 * 64)) = none
  | [], st, β, _, hJ => ⟨β, hJ, by simp⟩
  | q :: r, st, β, hp, hJ => by
    obtain ⟨β', h1, h2⟩ := ubs_J r st β (fun q hq => hp q (by simp [hq])) hJ
    refine ⟨_, h1.unbox _ (hp q (by simp)), fun q' hq' => ?_⟩
    simp only [Fam.drop]
    rcases List.mem_cons.1 hq' with rfl | h
    · simp
    · split
      · rfl
      · exact h2 q' h
theorem unbox_labs_ac {i f : Nat} {x : AC} (h : f ∈ (x.unbox i).labs) : f ∈ x.labs := by
  cases x <;> simp only [AC.unbox] at h <;> try exact h
  · split at h
    · simp [AC.labs] at h
    · exact h
  · split at h
    · simp [AC.labs] at h
    · exact h
theorem unbox_labs {i f : Nat} : ∀ {x : AV}, f ∈ (x.unbox i).labs → f ∈ x.labs
  | .cell x, h => unbox_labs_ac h
  | .agg xs, h => by
    simp only [AV.unbox, AV.labs, List.mem_flatMap, List.mem_map] at h ⊢
    obtain ⟨_, ⟨x, hx, rfl⟩, hf⟩ := h
    exact ⟨x, hx, unbox_labs_ac hf⟩
  | .tup xs, h => by
    simp only [AV.unbox, AV.labs] at h ⊢
    exact go xs h
  | .bad, h => h
where
  go : ∀ (xs : List AV), f ∈ AV.labs.go (AV.unbox.go i xs) → f ∈ AV.labs.go xs
    | [], h => h
    | x :: xs, h => by
      simp only [AV.unbox.go, AV.labs.go, List.mem_append] at h ⊢
      rcases h with h | h
      · exact .inl (unbox_labs h)
      · exact .inr (go xs h)
theorem ubs_env_labs {rid f : Nat} : ∀ (AL : List (Nat × List AC)) {st : St} {s : Nat}, f ∈ ((ubs rid AL st).env s).labs → f ∈ (st.env s).labs
  | [], _, _, h => h
  | q :: r, st, s, h => ubs_env_labs r (unbox_labs h)
theorem ubs_box_labs {rid f : Nat} : ∀ (AL : List (Nat × List AC)) {st : St} {i : Nat} {xs : List AC}, (ubs rid AL st).box i = some xs → (∃ x ∈ xs, f ∈ x.labs) → ∃ ys, st.box i = some ys ∧ ∃ y ∈ ys, f ∈ y.labs
  | [], _, _, xs, h, hx => ⟨xs, h, hx⟩
  | q :: r, st, i, xs, h, ⟨x, hx, hf⟩ => by
    simp only [ubs, St.unbox] at h
    split at h
    · cases h
    · cases hb : (ubs rid r st).box i with
      | none => rw [hb] at h; cases h
      | some ys =>
        rw [hb] at h
        simp only [Option.map_some, Option.some.injEq] at h
        subst h
        rw [List.mem_map] at hx
        obtain ⟨y, hy, rfl⟩ := hx
        exact ubs_box_labs r hb ⟨y, hy, unbox_labs_ac hf⟩
end Go.Fw
end
section
set_option linter.all false
namespace Go.Fw
variable [Globals]
open Go.RowKit (Below)

section
variable {P : Program} {C : Cx} {rid : Nat} {ops : Array Oper} {st : St} {a : Act} {w : World} {ρ β : Fam} {K : St → Prop} {Q : Exit → Act → World → Prop}

theorem dq_nd {id : Nat} {bx : Nat → Option (List AC)} {env : Nat → AV} {o : Oper} {out : AV} {k f : Nat} (h : dq P rid id ops bx env o (fun x y => x = out ∧ y = some (k, f))) :
    isRid rid f = true ∧ ∀ t, cons o = some t → (ops.getD k default).dst = some t := by
  unfold dq at h
  split at h
  · obtain ⟨r, _, _, _, h⟩ := h; cases h
  · split at h
    · split at h
      · split at h
        · obtain ⟨_, h⟩ := h
          split at h
          · split at h
            · split at h
              · rename_i c hc
                split at h
                · rename_i k' hk
                  obtain ⟨⟨_, _, _, hr⟩, _, e⟩ := h
                  cases e
                  refine ⟨hr, fun t ht => ?_⟩
                  rw [hc] at ht; cases ht
                  have := List.find?_some hk
                  simpa using this
                · exact h.elim
              · exact h.elim
            · obtain ⟨_, _, e⟩ := h; cases e
            · exact h.elim
          · exact h.elim
        · exact h.elim
      · exact h.elim
    · exact h.elim
  · split at h
    · obtain ⟨_, e⟩ := h; cases e
    · exact h.elim

theorem dstep_nd {i : Nat} {bx : Nat → Option (List AC)} {env : Nat → AV} {o : Oper} {out : AV} {k f : Nat} (h : dstep P rid i ops bx env o (fun x y => x = out ∧ y = some (k, f))) :
    isRid rid f = true ∧ ∀ t, cons o = some t → (ops.getD k default).dst = some t := by
  unfold dstep at h
  split at h
  · exact dq_nd h
  · rename_i j want hg
    split at h
    · rename_i b hb
      cases b with
      | true => exact dq_nd (h.1 rfl)
      | false => obtain ⟨_, e⟩ := h.2 rfl; cases e
    · exact h.elim

theorem box_retire {F : Nat → Bool} {i : Nat} {xs : List AC} (h : (st.retire F).box i = some xs) {x : AC} (hx : x ∈ xs) : ∀ f ∈ x.labs, F f = false := by
  simp only [St.retire] at h
  cases hb : st.box i with
  | none => simp [hb] at h
  | some ys =>
    simp [hb] at h; subst h
    rw [List.mem_map] at hx
    obtain ⟨y, _, rfl⟩ := hx
    exact retire_labs_ac F y

theorem dops_sound {F : Fence} {n : Nat} (hF : WideR F) (hm : P.follows .mixedOrders = true) {id : Nat} (hid : id = rid) (hp : ∀ j, C.pin (rid * 65536 + j * 64) = none ∨ 1024 ≤ j) (h : dops P rid ops st K) (hJ : J C st a w ρ β) (hd' : ∀ o ∈ ops.toList, dstOk C.N o.dst ∧ noDefer o = true) (hq : ¬ LetsOut Q)
    (hK : ∀ st' a' w' ρ' β', K st' → J C st' a' w' ρ' β' → Q .normal a' w') : (Code.region id ops true).wpIn F n P Q a w := by
  subst hid
  have hd : ∀ o ∈ ops.toList, dstOk C.N o.dst := fun o ho => (hd' o ho).1
  obtain ⟨⟨hchk, hsz⟩, h⟩ := h
  have hD := dchk_spec hchk
  refine wpIn_region_any hm (wpAnyIn_of_wpAny hF hq (fun o ho => (hd' o ho).2) _ _ _ _ ?_)
  have hJ1 := (hJ.retire (isRid id)).drew (w.drawn + 1)
  have h0 : ∀ j, (Array.replicate ops.size false).getD j false = false := by
    intro j; rw [Array.getD_eq_getD_getElem?, Array.getElem?_replicate]; split <;> rfl
  have hcl : Closed ops (fun j => (Array.replicate ops.size false).getD j false) := by
    intro i o _ hi; simp only [h0] at hi; cases hi
  have hfr : ∀ j, j < ops.size → ∀ f, id * 65536 + j * 64 ≤ f → f < id * 65536 + j * 64 + 64 → (ρ.drop (isRid id)) f = none := by
    intro j hj f h1 h2
    have : isRid id f = true := by simp [isRid]; omega
    simp [Fam.drop, this]
  have hu : unl ops.size (fun j => (Array.replicate ops.size false).getD j false) ≤ ops.size := by
    unfold unl
    exact Nat.le_trans (List.length_filter_le _ _) (by simp)
  have henv : ∀ outs m, envOf ops outs (st.retire (isRid id)).env (fun j => (Array.replicate ops.size false).getD j false) m = (st.retire (isRid id)).env := by
    intro outs m
    induction m with
    | zero => rfl
    | succ m ih =>
      simp only [envOf]
      rw [if_neg (by simp only [h0]; simp)]
      exact ih
  -- what the specification of the quiet part gives
  have spec : ∀ (l tail : List Oper) (m : Nat) (Kf : List AV → (Nat → AV) → Prop), ops.toList = l ++ tail → m = l.length →
      dgo P id ops (st.retire (isRid id)).box 0 l (st.retire (isRid id)).env [] [] (fun outs nds env => ndOk outs nds = true ∧ Kf outs env) →
      ∃ outs, Kf outs (envOf ops outs (st.retire (isRid id)).env (fun _ => true) m) ∧
        ∀ j o, j < m → ops[j]? = some o → ∃ nd : Option (Nat × Nat), dstep P id j ops (st.retire (isRid id)).box (envOf ops outs (st.retire (isRid id)).env (fun _ => true) j) o (fun x y => x = outs.getD j .bad ∧ y = nd) ∧
          ∀ k f, nd = some (k, f) → (∀ s, f ∉ ((st.retire (isRid id)).env s).labs) ∧ (∀ i, i ≠ k → f ∉ (outs.getD i .bad).labs) ∧ (∀ i xs, (st.retire (isRid id)).box i = some xs → ∀ x ∈ xs, f ∉ x.labs) ∧ ∀ t, cons o = some t → (ops.getD k default).dst = some t := by
    intro l tail m Kf hl hml hg
    subst hml
    obtain ⟨outs, nds, a1, _, ⟨a3, a3'⟩, _, a5⟩ := dgo_spec (env0 := (st.retire (isRid id)).env) l [] tail [] [] _ (by simpa using hl) rfl rfl hg
    simp only [List.length_nil, Nat.zero_add] at a1 a3' a5
    refine ⟨outs, a3', fun j o hj ho => ?_⟩
    obtain ⟨nd, b1, b2⟩ := a5 j o (Nat.zero_le _) hj ho
    refine ⟨nd, b2, fun k f hkf => ?_⟩
    subst hkf
    obtain ⟨c1, c2⟩ := dstep_nd b2
    have hmem := b1 (k, f) rfl
    refine ⟨fun s hs => ?_, fun i hi hs => ?_, fun i xs hx x hxm hs => ?_, c2⟩
    · have := retire_labs (isRid id) (st.env s) f hs; rw [c1] at this; cases this
    · unfold ndOk at a3
      rw [List.all_eq_true] at a3
      have := a3 (k, f) hmem
      rw [List.all_eq_true] at this
      rcases Nat.lt_or_ge i outs.length with hlt | hge
      · have := this i (List.mem_range.2 hlt)
        simp only [Bool.or_eq_true, beq_iff_eq, hi, false_or, Bool.not_eq_true'] at this
        have h2 : (outs.getD i .bad).labs.contains f = true := by rw [List.contains_iff_mem]; exact hs
        rw [h2] at this; cases this
      · rw [List.getD_eq_getElem?_getD, List.getElem?_eq_none hge] at hs
        simp [AV.labs] at hs
    · have := box_retire hx hxm f hs; rw [c1] at this; cases this
  obtain ⟨m, hm1, hbc, h⟩ := h
  have hlen : m = (ops.toList.take m).length := by simp; omega
  obtain ⟨outs, htops, hst⟩ := spec (ops.toList.take m) (ops.toList.drop m) m (fun outs env => tops P id m (ops.toList.drop m) ⟨env, (st.retire (isRid id)).box⟩ K) (List.take_append_drop m ops.toList).symm hlen h
  have hbar : ∀ k o, m ≤ k → ops[k]? = some o → o.guard = none ∧ ∀ j, j < k → Reach ops k j := by
    intro k o hk ho
    have hks : k < ops.size := (Array.getElem?_eq_some_iff.1 ho).1
    unfold barChk at hbc
    rw [List.all_eq_true] at hbc
    have h1 := hbc (k - m) (List.mem_range.2 (by omega))
    have e : m + (k - m) = k := by omega
    rw [e, ho] at h1
    simp only [Bool.and_eq_true, List.all_eq_true] at h1
    exact ⟨by simpa using h1.1, fun j hj => befL_spec ops ops.toList [] [] rfl rfl (by simp) _ _ (h1.2 j (List.mem_range.2 hj))⟩
  have tail : ∀ (l : List Oper) (i : Nat) (st : St) (a : Act) (w : World) (ρ β : Fam), (∀ o ∈ l, o ∈ ops.toList) → i + l.length ≤ ops.size → tops P id i l st K → J C st a w ρ β → seqRun P Q l a w := by
    intro l
    induction l with
    | nil => intro i st a w ρ β _ _ hk hJ; exact hK _ _ _ _ _ hk hJ
    | cons o l ih =>
      intro i st a w ρ β hl hi hk hJ
      exact fop_sound hJ (by rcases hp i with h | h; exact h; simp at hi; omega) hk fun out st' v w'' ρ'' β'' hk' hJ'' hv => ih (i + 1) _ _ _ _ _ (fun o ho => hl o (by simp [ho])) (by simp at hi; omega) hk' (hJ''.put (hd o (hl o (by simp))) hv)
  exact drawn_run (outs := outs) (m := m) hD hm1 hd hst hbar (fun a' w' ρ' β' hJ' => tail (ops.toList.drop m) m _ _ _ _ _ (fun o ho => List.mem_of_mem_drop ho) (by simp; omega) htops hJ') ops.size _ a _ (ρ.drop (isRid id)) β (by simp) hcl (fun j _ => h0 j) hu
    (by rw [henv]; exact hJ1) (fun j hj _ => hfr j (by omega))

/-- A REGION THAT DRAWS ITS ORDER and stores into boxes on the way. -/
def dops2 (P : Program) (rid : Nat) (ops : Array Oper) (st : St) (K : St → Prop) : Prop :=
  ((dchk ops = true ∧ alChk ops = true) ∧ ops.size ≤ 1024) ∧ ∃ m, m ≤ ops.size ∧ barChk ops m = true ∧ ∃ bx0 : Nat → Option (List AC), (∀ S i xs, bx0 i = some xs → bs rid (alOf P 0 (ops.toList.take m)) (ubs rid (alOf P 0 (ops.toList.take m)) (st.retire (isRid rid))).box S i = some xs) ∧
    dgo2 P rid ops (bs rid (alOf P 0 (ops.toList.take m)) (ubs rid (alOf P 0 (ops.toList.take m)) (st.retire (isRid rid))).box fun _ => true) bx0 0 (ops.toList.take m) (ubs rid (alOf P 0 (ops.toList.take m)) (st.retire (isRid rid))).env [] [] [] fun outs nds pd env => ndOk outs nds = true ∧
      tops P rid m (ops.toList.drop m) ⟨env, sx (bs rid (alOf P 0 (ops.toList.take m)) (ubs rid (alOf P 0 (ops.toList.take m)) (st.retire (isRid rid))).box fun _ => true) pd (fun _ => true)⟩ K

theorem dops2_sound {F : Fence} {n : Nat} (hF : WideR F) (hm : P.follows .mixedOrders = true) {id : Nat} (hid : id = rid) (hp : ∀ j, C.pin (rid * 65536 + j * 64) = none ∨ 1024 ≤ j) (h : dops2 P rid ops st K) (hJ : J C st a w ρ β) (hd' : ∀ o ∈ ops.toList, dstOk C.N o.dst ∧ noDefer o = true) (hq : ¬ LetsOut Q)
    (hK : ∀ st' a' w' ρ' β', K st' → J C st' a' w' ρ' β' → Q .normal a' w') : (Code.region id ops true).wpIn F n P Q a w := by
  subst hid
  have hd : ∀ o ∈ ops.toList, dstOk C.N o.dst := fun o ho => (hd' o ho).1
  obtain ⟨⟨⟨hchk, halc⟩, hsz⟩, h⟩ := h
  have hD := dchk_spec hchk
  refine wpIn_region_any hm (wpAnyIn_of_wpAny hF hq (fun o ho => (hd' o ho).2) _ _ _ _ ?_)
  have h0 : ∀ j, (Array.replicate ops.size false).getD j false = false := by
    intro j; rw [Array.getD_eq_getD_getElem?, Array.getElem?_replicate]; split <;> rfl
  have hcl : Closed ops (fun j => (Array.replicate ops.size false).getD j false) := by
    intro i o _ hi; simp only [h0] at hi; cases hi
  have hfr : ∀ j, j < ops.size → ∀ f, id * 65536 + j * 64 ≤ f → f < id * 65536 + j * 64 + 64 → (ρ.drop (isRid id)) f = none := by
    intro j hj f h1 h2
    have : isRid id f = true := by simp [isRid]; omega
    simp [Fam.drop, this]
  have hu : unl ops.size (fun j => (Array.replicate ops.size false).getD j false) ≤ ops.size := by
    unfold unl
    exact Nat.le_trans (List.length_filter_le _ _) (by simp)
  have henv : ∀ (outs : List AV) (m : Nat) (env0 : Nat → AV), envOf ops outs env0 (fun j => (Array.replicate ops.size false).getD j false) m = env0 := by
    intro outs m env0
    induction m with
    | zero => rfl
    | succ m ih =>
      simp only [envOf]
      rw [if_neg (by simp only [h0]; simp)]
      exact ih
  obtain ⟨m, hm1, hbc, bx0, hbx, h⟩ := h
  have halm : ∀ q ∈ alOf P 0 (ops.toList.take m), q.1 < m := by
    intro q hq
    obtain ⟨e, d, _, h2, _, _⟩ := alOf_mem _ 0 q hq
    rcases Nat.lt_or_ge q.1 m with h | h
    · exact h
    · rw [Nat.sub_zero, List.getElem?_eq_none (by simp; omega)] at h2; cases h2
  have hpin : ∀ j, j < ops.size → C.pin (id * 65536 + j * 64) = none := by
    intro j hj
    rcases hp j with h | h
    · exact h
    · omega
  obtain ⟨β1, hJ1, hβ1⟩ := ubs_J (rid := id) (alOf P 0 (ops.toList.take m)) _ _ (fun q hq => hpin _ (by have := halm q hq; omega)) ((hJ.retire (isRid id)).drew (w.drawn + 1))
  have hzl : ∀ q ∈ alOf P 0 (ops.toList.take m), ∀ f, ∀ x ∈ q.2, f ∉ x.labs := by
    intro q hq f
    obtain ⟨e, d, _, _, _, h4⟩ := alOf_mem _ 0 q hq
    exact zeroA_labs h4 f
  generalize hAL : alOf P 0 (ops.toList.take m) = AL at *
  generalize hst1 : ubs id AL (st.retire (isRid id)) = st1 at *
  have henvl : ∀ f s, f ∈ (st1.env s).labs → f ∈ ((st.retire (isRid id)).env s).labs := by
    intro f s hf; rw [← hst1] at hf; exact ubs_env_labs AL hf
  have hlen : m = (ops.toList.take m).length := by simp; omega
  obtain ⟨outs, nds, pd, _, _, ⟨hnd, htops⟩, _, _, _, hpd, hst0⟩ := dgo2_spec (env0 := st1.env) (ops.toList.take m) [] (ops.toList.drop m) [] [] [] _ (by simpa using (List.take_append_drop m ops.toList).symm) rfl rfl ⟨.nil, .nil, by simp, by simp, by simp⟩ h
  simp only [List.length_nil, Nat.zero_add] at htops hpd hst0
  rw [← hlen] at htops hpd hst0
  have hst : ∀ j o, j < m → ops[j]? = some o → (isAl o.op = false ∧ (∀ p ∈ pd, p.1 ≠ j) ∧ ∃ nd : Option (Nat × Nat), dstep P id j ops bx0 (envOf ops outs st1.env (fun _ => true) j) o (fun x y => x = outs.getD j .bad ∧ y = nd) ∧
      ∀ k f, nd = some (k, f) → (∀ s, f ∉ (st1.env s).labs) ∧ (∀ i, i ≠ k → f ∉ (outs.getD i .bad).labs) ∧ (∀ i xs, bs id AL st1.box (fun _ => true) i = some xs → ∀ x ∈ xs, f ∉ x.labs) ∧ ∀ t, cons o = some t → (ops.getD k default).dst = some t) ∨ EarlyAt P id (bs id AL st1.box fun _ => true) bx0 (envOf ops outs st1.env (fun _ => true) j) pd j o ∨ AllocAt P id pd outs j o := by
    intro j o hj ho
    rcases hst0 j o (Nat.zero_le _) hj ho with ⟨⟨_, hnal⟩, hnp, nd, b1, b2⟩ | he
    · refine .inl ⟨hnal, hnp, nd, b2, fun k f hkf => ?_⟩
      subst hkf
      obtain ⟨c1, c2⟩ := dstep_nd b2
      have hmem := b1 (k, f) rfl
      refine ⟨fun s hs => ?_, fun i hi hs => ?_, fun i xs hx x hxm hs => ?_, c2⟩
      · have := retire_labs (isRid id) (st.env s) f (henvl f s hs); rw [c1] at this; cases this
      · unfold ndOk at hnd
        rw [List.all_eq_true] at hnd
        have := hnd (k, f) hmem
        rw [List.all_eq_true] at this
        rcases Nat.lt_or_ge i outs.length with hlt | hge
        · have := this i (List.mem_range.2 hlt)
          simp only [Bool.or_eq_true, beq_iff_eq, hi, false_or, Bool.not_eq_true'] at this
          have h2 : (outs.getD i .bad).labs.contains f = true := by rw [List.contains_iff_mem]; exact hs
          rw [h2] at this; cases this
        · rw [List.getD_eq_getElem?_getD, List.getElem?_eq_none hge] at hs
          simp [AV.labs] at hs
      · unfold bs at hx
        split at hx
        · rename_i q hq
          rw [if_pos rfl] at hx; cases hx
          exact hzl q (List.mem_of_find?_eq_some hq) f x hxm hs
        · rw [← hst1] at hx
          obtain ⟨ys, y1, y, hy, hf⟩ := ubs_box_labs AL hx ⟨x, hxm, hs⟩
          have := box_retire y1 hy f hf; rw [c1] at this; cases this
    · exact .inr he
  have hbar : ∀ k o, m ≤ k → ops[k]? = some o → o.guard = none ∧ ∀ j, j < k → Reach ops k j := by
    intro k o hk ho
    have hks : k < ops.size := (Array.getElem?_eq_some_iff.1 ho).1
    unfold barChk at hbc
    rw [List.all_eq_true] at hbc
    have h1 := hbc (k - m) (List.mem_range.2 (by omega))
    have e : m + (k - m) = k := by omega
    rw [e, ho] at h1
    simp only [Bool.and_eq_true, List.all_eq_true] at h1
    exact ⟨by simpa using h1.1, fun j hj => befL_spec ops ops.toList [] [] rfl rfl (by simp) _ _ (h1.2 j (List.mem_range.2 hj))⟩
  have tail : ∀ (l : List Oper) (i : Nat) (st : St) (a : Act) (w : World) (ρ β : Fam), (∀ o ∈ l, o ∈ ops.toList) → i + l.length ≤ ops.size → tops P id i l st K → J C st a w ρ β → seqRun P Q l a w := by
    intro l
    induction l with
    | nil => intro i st a w ρ β _ _ hk hJ; exact hK _ _ _ _ _ hk hJ
    | cons o l ih =>
      intro i st a w ρ β hl hi hk hJ
      exact fop_sound hJ (by rcases hp i with h | h; exact h; simp at hi; omega) hk fun out st' v w'' ρ'' β'' hk' hJ'' hv => ih (i + 1) _ _ _ _ _ (fun o ho => hl o (by simp [ho])) (by simp at hi; omega) hk' (hJ''.put (hd o (hl o (by simp))) hv)
  have hsx : ∀ i xs, sx (bs id AL st1.box fun j => (Array.replicate ops.size false).getD j false) pd (fun j => (Array.replicate ops.size false).getD j false) i = some xs → st1.box i = some xs := by
    intro i xs hx
    have hb : ∀ ys, bs id AL st1.box (fun j => (Array.replicate ops.size false).getD j false) i = some ys → st1.box i = some ys := by
      intro ys hy
      unfold bs at hy
      split at hy
      · rw [if_neg (by simp only [h0]; simp)] at hy; cases hy
      · exact hy
    unfold sx at hx
    split at hx
    · rw [if_neg (by simp only [h0]; simp)] at hx; exact hb _ hx
    · exact hb _ hx
  refine drawn_run2 (bx := st1.box) (outs := outs) (m := m) (by rw [hAL]) halc hpin hsz hpd (by rw [hAL]; exact hbx) hD hm1 hd hst hbar (fun a' w' ρ' β' hJ' => tail (ops.toList.drop m) m _ _ _ _ _ (fun o ho => List.mem_of_mem_drop ho) (by simp; omega) htops hJ') ops.size _ a _ (ρ.drop (isRid id)) β1 (by simp) hcl (fun j _ => h0 j) hu
    ?_ (fun j hj _ => hfr j (by omega)) ?_
  · rw [henv, hAL]; exact hJ1.fewer hsx
  · intro j o hj ho hal _
    obtain ⟨e, zs, e1, e2⟩ := hal
    have hf := alOf_find (P := P) (rid := id) (ops.toList.take m) 0 j o e zs (by rw [List.getElem?_take_of_lt hj]; simpa using ho) e1 e2
    rw [hAL, Nat.zero_add] at hf
    exact hβ1 (j, zs) (List.mem_of_find?_eq_some hf)

end

/-! ### Code -/

def aThen (next : St → Prop) (Q : Exit → St → Prop) : Exit → St → Prop
  | .normal, st => next st
  | e, st => Q e st
def aBlock (id : Nat) (Q : Exit → St → Prop) : Exit → St → Prop
  | .exit id', st => if id' = id then Q .normal st else Q (.exit id') st
  | e, st => Q e st
def aNoGoto (Q : Exit → St → Prop) : Exit → St → Prop
  | .goto _, _ => False
  | e, st => Q e st

/-- What is known less well: an empty slice without capacity counts as owned; anything counts as unknown. -/
def wkC (x y : AC) : Prop := y = x ∨ (x = .z ∧ ∃ f sz, y = .own f sz 0 []) ∨ y = .bad
def wkV (x y : AV) : Prop := y = x ∨ (∃ a b, x = .cell a ∧ y = .cell b ∧ wkC a b) ∨ y = .bad
structure Weak (st st' : St) : Prop where
  env : ∀ s, wkV (st.env s) (st'.env s)
  box : ∀ i ys, st'.box i = some ys → ∃ xs, st.box i = some xs ∧ xs.length = ys.length ∧ ∀ (j : Nat) (x y : AC), xs[j]? = some x → ys[j]? = some y → wkC x y

theorem wkC_rep {w : World} {ρ β : Fam} {v : Value} {x y : AC} (h : wkC x y) (hx : ACRep w ρ β v x) : ACRep w ρ β v y := by
  rcases h with rfl | ⟨rfl, f, sz, rfl⟩ | rfl
  · exact hx
  · obtain ⟨a, rfl⟩ := hx
    exact ⟨[], ⟨by simp, .inl ⟨a, rfl, rfl⟩⟩, ⟨rfl, by simp, by simp⟩⟩
  · trivial

theorem ghost_weak {x y : AV} (h : wkV x y) {l k : Nat} {xs : List (List EV)} {v : Bool} (hy : y = .cell (.ghost l xs k v)) : x = .cell (.ghost l xs k v) := by
  rcases h with e | ⟨a, b, e1, e2, hw⟩ | e
  · rw [← e]; exact hy
  · rw [hy] at e2; cases e2
    rcases hw with e | ⟨_, f, sz, e⟩ | e
    · rw [e1, e]
    · cases e
    · cases e
  · rw [hy] at e; cases e

theorem J.weak {C : Cx} {st st' : St} {a : Act} {w : World} {ρ β : Fam} (hJ : J C st a w ρ β) (h : Weak st st') : J C st' a w ρ β := by
  refine ⟨hJ.size, hJ.ext.of rfl (fun l xs k v e => ghost_weak (h.env gslot) e), hJ.os, hJ.tape, hJ.output, hJ.grown, hJ.kept, hJ.protlt, hJ.phan, hJ.apart, fun s => ?_, fun i ys hy => ?_, hJ.glob, hJ.pin⟩
  · have hr := hJ.env s
    rcases h.env s with e | ⟨a, b, e1, e2, hw⟩ | e
    · rw [e]; exact hr
    · rw [e1] at hr; rw [e2]; exact .cell _ _ (wkC_rep hw (rep_cell hr))
    · rw [e]; exact .bad _
  · obtain ⟨xs, hx, hl, hw⟩ := h.box i ys hy
    obtain ⟨g, raws, e, h1, h2, h3, h4, h5, h6⟩ := hJ.box i xs hx
    refine ⟨g, raws, e, h1, h2, h3, by rw [h4, hl], h5, fun j u y hu hyj => ?_⟩
    have hj : j < xs.length := by
      rw [hl]
      rcases Nat.lt_or_ge j ys.length with h | h
      · exact h
      · simp [List.getElem?_eq_none h] at hyj
    exact wkC_rep (hw j _ y (List.getElem?_eq_getElem hj) hyj) (h6 j u _ hu (List.getElem?_eq_getElem hj))

/-- The regions of a code. -/
def rids : Code → List Nat
  | .region rid _ _ => [rid]
  | .seq a b => rids a ++ rids b
  | .cond _ x y => rids x ++ rids y
  | .block _ b => rids b
  | .loop b => rids b
  | .scope b => rids b
  | .rangeFunc _ _ a b => rids a ++ rids b
  | _ => []

/-- What a loop over a function leaves of a value: what leads to nothing that is owned, and to no box that the loop makes. -/
def AC.only (T : List Nat) : AC → AC
  | .p x => .p x
  | .z => .z
  | .ep none cells pos => .ep none cells pos
  | .ptr b off => if T.contains (b / 65536) then .bad else .ptr b off
  | .fn g caps => if caps.any (fun c => match c with | .inl b => T.contains (b / 65536) | _ => false) then .bad else .fn g caps
  | _ => .bad
def AV.only (T : List Nat) : AV → AV
  | .cell x => .cell (x.only T)
  | .agg xs => .agg (xs.map (·.only T))
  | .tup xs => .tup (go xs)
  | .bad => .bad
where
  go : List AV → List AV
    | [] => []
    | x :: xs => x.only T :: go xs
theorem only_go (T : List Nat) (xs : List AV) : AV.only.go T xs = xs.map (·.only T) := by
  induction xs with
  | nil => rfl
  | cons x xs ih => simp [AV.only.go, ih]

/-- The state of a loop over a function between two rounds. -/
def St.base (st : St) (T : List Nat) (bx : Nat → Option (List AC)) : St := ⟨fun i => if i = gslot then .bad else (st.env i).only T, bx⟩
/-- The same where the families K are set aside while the loop runs: what they hold is kept. -/
def AC.onlyK (K T : List Nat) : AC → AC
  | .own f sz n cells => if K.contains f then .own f sz n cells else .bad
  | x => x.only T
def AV.onlyK (K T : List Nat) : AV → AV
  | .cell x => .cell (x.onlyK K T)
  | .agg xs => .agg (xs.map (·.onlyK K T))
  | x => x.only T
def St.baseK (st : St) (K T : List Nat) (bx : Nat → Option (List AC)) : St := ⟨fun i => if i = gslot then .bad else (st.env i).onlyK K T, fun i => (bx i).map (·.map (·.poison (inL K)))⟩
def setPs : List Tmp → List EV → St → St
  | p :: ps, x :: xs, st => setPs ps xs (st.put (some p) x.av)
  | _, _, st => st
/-- How a round ends. -/
def rPost (st : St) (T : List Nat) (I : (Nat → Option (List AC)) → Prop) (Q : Exit → St → Prop) : Exit → St → Prop
  | .normal, s => I s.box
  | .ret, s => Q .ret (st.base T s.box)
  | .exit id, s => Q (.exit id) (st.base T s.box)
  | _, _ => False

/-- THE ABSTRACT WEAKEST PRECONDITION. -/
def awp (P : Program) : Code → (Exit → St → Prop) → St → Prop
  | .skip, Q, st => Q .normal st
  | .region rid ops false, Q, st => aops P rid ops 0 ops.toList st (Q .normal)
  | .region rid ops true, Q, st => dops P rid ops st (Q .normal) ∨ dops2 P rid ops st (Q .normal)
  | .seq a b, Q, st => awp P a (aThen (awp P b Q) Q) st
  | .cond c x y, Q, st => match evAV st.env c with
    | .cell (.p (.c (.bool t))) => (t = true → awp P x Q st) ∧ (t = false → awp P y Q st)
    | _ => False
  | .block id b, Q, st => awp P b (aBlock id Q) st
  | .loop b, Q, st => ∃ (I : St → Prop) (μ : St → Nat) (st' : St), Weak st st' ∧ I st' ∧ ∀ s, I s → awp P b (aThen (fun s' => I s' ∧ μ s' < μ s) Q) s
  | .exit id, Q, st => Q (.exit id) st
  | .ret, Q, st => Q .ret st
  | .label _, Q, st => Q .normal st
  | .scope b, Q, st => awp P b (aNoGoto Q) st
  | .rangeFunc g ps assign body, Q, st => match evAV st.env g with
    | .cell (.p (.fn gf cs)) => (∃ (xs : List (List EV)) (I : Nat → (Nat → Option (List AC)) → Prop), SeqAt P gf (cs.map fun c => .cell (.p c)) xs ∧ (∀ x ∈ xs, x.length = ps.size) ∧ I 0 st.box ∧
        (∀ k x bx, xs[k]? = some x → I k bx → awp P assign (aThen (awp P body (rPost st (rids assign ++ rids body) (I (k + 1)) Q)) (fun _ _ => False)) (setPs ps.toList x (st.base (rids assign ++ rids body) bx))) ∧
        (∀ bx, I xs.length bx → Q .normal (st.base (rids assign ++ rids body) bx))) ∨
      ∃ (K : List Nat) (xs : List (List EV)) (I : Nat → (Nat → Option (List AC)) → Prop), SeqAt P gf (cs.map fun c => .cell (.p c)) xs ∧ (∀ x ∈ xs, x.length = ps.size) ∧ I 0 (st.poison (inL K)).box ∧
        (∀ k x bx, xs[k]? = some x → I k bx → awp P assign (aThen (awp P body (rPost st (rids assign ++ rids body) (I (k + 1)) (fun e s => Q e (st.baseK K (rids assign ++ rids body) s.box)))) (fun _ _ => False)) (setPs ps.toList x (st.base (rids assign ++ rids body) bx))) ∧
        (∀ bx, I xs.length bx → Q .normal (st.baseK K (rids assign ++ rids body) bx))
    | _ => False
  | _, _, _ => False

def codeOk (N : Nat) : Code → Bool
  | .region _ ops _ => decide (ops.size ≤ 1024) && ops.toList.all fun o => noDefer o && match o.dst with | some d => decide (d < N) | none => true
  | .seq a b => codeOk N a && codeOk N b
  | .cond _ x y => codeOk N x && codeOk N y
  | .block _ b => codeOk N b
  | .loop b => codeOk N b
  | .scope b => codeOk N b
  | .rangeFunc _ ps a b => codeOk N a && codeOk N b && ps.toList.all fun p => decide (p < N)
  | _ => true

theorem codeOk_region {N rid : Nat} {ops : Array Oper} {d : Bool} (h : codeOk N (.region rid ops d) = true) : ops.size ≤ 1024 ∧ ∀ o ∈ ops.toList, dstOk N o.dst ∧ noDefer o = true := by
  simp only [codeOk, Bool.and_eq_true, decide_eq_true_eq, List.all_eq_true] at h
  refine ⟨h.1, fun o ho => ⟨fun k hk => ?_, (h.2 o ho).1⟩⟩
  have := (h.2 o ho).2
  rw [hk] at this
  simpa using this

/-- No box that is held fast is made by the code. -/
def PinOk (C : Cx) (c : Code) : Prop := ∀ i, (rids c).contains (i / 65536) = true → C.pin i = none
theorem PinOk.region {C : Cx} {rid : Nat} {ops : Array Oper} {d : Bool} (h : PinOk C (.region rid ops d)) (j : Nat) : C.pin (rid * 65536 + j * 64) = none ∨ 1024 ≤ j := by
  rcases Nat.lt_or_ge j 1024 with hj | hj
  · refine .inl (h _ ?_)
    have : (rid * 65536 + j * 64) / 65536 = rid := by omega
    rw [this]; simp [rids]
  · exact .inr hj
end Go.Fw
end
section
set_option linter.all false
namespace Go.Fw
variable [Globals]
open Go.RowKit (Below)

/-- Which fence goes with which context. -/
def FenceOk (F : Fence) (C : Cx) : Prop := (F = Fence.wide ∧ C.loop = none) ∨ ∃ l, F = Fence.wide.inRound l ∧ C.loop = some l
theorem FenceOk.wide {F : Fence} {C : Cx} (h : FenceOk F C) : WideR F := by rcases h with ⟨h, _⟩ | ⟨l, h, _⟩; exact .inl h; exact .inr ⟨l, h⟩
theorem FenceOk.le {F : Fence} {C C' : Cx} (h : FenceOk F C) (hle : C.le C') : FenceOk F C' := by
  rcases h with ⟨h1, h2⟩ | ⟨l, h1, h2⟩
  · exact .inl ⟨h1, hle.loop.trans h2⟩
  · exact .inr ⟨l, h1, hle.loop.trans h2⟩
theorem PinOk.le {C C' : Cx} {c : Code} (h : PinOk C c) (hle : C.le C') : PinOk C' c := fun i hi => by rw [hle.pin]; exact h i hi
theorem lift_le {C C' : Cx} {Q : Exit → St → Prop} (hle : C.le C') {e : Exit} {a : Act} {w : World} (h : lift C' Q e a w) : lift C Q e a w := by
  obtain ⟨h1, C'', st, ρ, β, h2, h3⟩ := h
  exact ⟨h1, C'', st, ρ, β, hle.trans h2, h3⟩

/-- What is left of a value lives on. -/
theorem only_ac {w w' : World} {ρ β ρ' β' : Fam} {T : List Nat} (hp : Hx w (Bad ρ β) w' (Bad ρ' β'))
    (hb : ∀ i b, T.contains (i / 65536) = false → β (2 * i) = some b → β' (2 * i) = some b) (v : Value) (x : AC) (h : ACRep w ρ β v (x.only T)) : ACRep w' ρ' β' v (x.only T) := by
  cases x with
  | p x => exact CRep.mono hp h
  | z => exact h
  | own f sz n cells => trivial
  | view f n cells => trivial
  | tl f sz n cells => trivial
  | ep k cells pos =>
    cases k with
    | none =>
      obtain ⟨y, raws, hv, hc, hr⟩ := h
      refine ⟨y, raws, hv, fun j u hj => ?_, hr.mono hp⟩
      obtain ⟨h1, h2⟩ := hc j u hj
      obtain ⟨h3, h4⟩ := hp.cell (y.add j) u (by rw [add_block]; exact h1) h2
      exact ⟨by rw [add_block] at h3; exact h3, h4⟩
    | some f => trivial
  | epo f cells pos => trivial
  | ptr b off =>
    simp only [AC.only] at h ⊢
    split
    · trivial
    · rename_i hT
      rw [if_neg hT] at h
      obtain ⟨g, hg, hv⟩ := h
      exact ⟨g, hb b g (by simpa using hT) hg, hv⟩
  | fn g caps =>
    simp only [AC.only] at h ⊢
    split
    · trivial
    · rename_i hT
      rw [if_neg hT] at h
      obtain ⟨vs, hv, hl, h1, h2⟩ := h
      refine ⟨vs, hv, hl, fun j u b hu hc => ?_, fun j u c hu hc => CRep.mono hp (h2 j u c hu hc)⟩
      obtain ⟨q, hq, e⟩ := h1 j u b hu hc
      refine ⟨q, hb b q ?_ hq, e⟩
      cases hcb : T.contains (b / 65536) with
      | false => rfl
      | true => exact (hT (List.any_eq_true.2 ⟨.inl b, List.mem_of_getElem? hc, hcb⟩)).elim
  | yield l => trivial
  | ghost l xs k v => trivial
  | mown f ks vs => trivial
  | bad => trivial

theorem only_idem (T : List Nat) : ∀ x : AC, (x.only T).only T = x.only T := by
  intro x
  cases x <;> try rfl
  · rename_i k cells pos; cases k <;> rfl
  · rename_i b off
    have e : (AC.ptr b off).only T = if T.contains (b / 65536) then .bad else .ptr b off := rfl
    by_cases h : T.contains (b / 65536) = true
    · rw [e, if_pos h]; rfl
    · rw [e, if_neg h, e, if_neg h]
  · rename_i g caps
    have e : (AC.fn g caps).only T = if caps.any (fun c => match c with | .inl b => T.contains (b / 65536) | _ => false) then .bad else .fn g caps := rfl
    by_cases h : caps.any (fun c => match c with | .inl b => T.contains (b / 65536) | _ => false) = true
    · rw [e, if_pos h]; rfl
    · rw [e, if_neg h, e, if_neg h]

theorem onlyAV_idem (T : List Nat) : ∀ x : AV, (x.only T).only T = x.only T
  | .cell x => by simp only [AV.only, only_idem]
  | .agg xs => by
    simp only [AV.only, List.map_map]
    congr 1
    exact List.map_congr_left fun x _ => only_idem T x
  | .tup xs => by
    simp only [AV.only]
    rw [go xs]
  | .bad => rfl
where
  go : ∀ xs : List AV, AV.only.go T (AV.only.go T xs) = AV.only.go T xs
    | [] => rfl
    | x :: xs => by simp only [AV.only.go]; rw [onlyAV_idem T x, go xs]

theorem only_av {w w' : World} {ρ β ρ' β' : Fam} {T : List Nat} (hp : Hx w (Bad ρ β) w' (Bad ρ' β'))
    (hb : ∀ i b, T.contains (i / 65536) = false → β (2 * i) = some b → β' (2 * i) = some b) {v : Value} {x : AV} (h : AVRep w ρ β v (x.only T)) : AVRep w' ρ' β' v (x.only T) := by
  have := AVRep.lift (w' := w') (ρ' := ρ') (β' := β') (AC.only T) (AV.only T) (fun _ => rfl) (fun _ => rfl) (fun xs => by simp [AV.only, only_go]) rfl (w := w) (ρ := ρ) (β := β) (fun v x hx => only_ac hp hb v x (only_of T hx)) h
  rwa [onlyAV_idem] at this
where
  only_of (T : List Nat) {w : World} {ρ β : Fam} {v : Value} {x : AC} (h : ACRep w ρ β v x) : ACRep w ρ β v (x.only T) := by
    cases x with
    | p x => exact h
    | z => exact h
    | own f sz n cells => trivial
    | view f n cells => trivial
    | tl f sz n cells => trivial
    | ep k cells pos => cases k with
      | none => exact h
      | some f => trivial
    | epo f cells pos => trivial
    | ptr b off => simp only [AC.only]; split; trivial; exact h
    | fn g caps => simp only [AC.only]; split; trivial; exact h
    | yield l => trivial
    | ghost l xs k v => trivial
    | mown f ks vs => trivial
    | bad => trivial

theorem only_rep {w : World} {ρ β : Fam} (T : List Nat) {v : Value} {x : AV} (h : AVRep w ρ β v x) : AVRep w ρ β v (x.only T) :=
  AVRep.lift (AC.only T) (AV.only T) (fun _ => rfl) (fun _ => rfl) (fun xs => by simp [AV.only, only_go]) rfl (fun v x hx => only_av.only_of T hx) h

/-- Another environment. -/
theorem J.withEnv {C : Cx} {st : St} {a a' : Act} {w : World} {ρ β : Fam} (hJ : J C st a w ρ β) (env : Nat → AV) (hext : JExt C ⟨env, st.box⟩ a') (hs : a'.tmps.size = C.N) (he : ∀ s, AVRep w ρ β (a'.tmps.getD s undef) (env s)) :
    J C ⟨env, st.box⟩ a' w ρ β :=
  ⟨hs, hext, hJ.os, hJ.tape, hJ.output, hJ.grown, hJ.kept, hJ.protlt, hJ.phan, hJ.apart, he, hJ.box, hJ.glob, hJ.pin⟩

theorem J.setPs {C : Cx} {w : World} {ρ β : Fam} : ∀ (ps : List Tmp) (xs : List EV) (args : List Value) (st : St) (a : Act), J C st a w ρ β → (∀ p ∈ ps, p < C.N) → ps.length = xs.length → args.length = xs.length →
    (∀ (j : Nat) (u : Value) (y : EV), args[j]? = some u → xs[j]? = some y → AVRep w ρ β u y.av) →
    J C (setPs ps xs st) { a with tmps := (ps.zip args).foldl (fun t (p, v) => t.setIfInBounds p v) a.tmps } w ρ β
  | [], [], [], st, a, hJ, _, _, _, _ => hJ
  | p :: ps, x :: xs, v :: args, st, a, hJ, hp, h1, h2, hr => by
    have h := hJ.put (d := some p) (fun k hk => by cases hk; exact hp p (by simp)) (hr 0 v x rfl rfl)
    have := J.setPs ps xs args (st.put (some p) x.av) (a.put (some p) v) h (fun q hq => hp q (by simp [hq])) (by simpa using h1) (by simpa using h2) (fun j u y hu hy => hr (j + 1) u y (by simpa using hu) (by simpa using hy))
    exact this
  | [], x :: xs, _, _, _, _, _, h, _, _ => by simp at h
  | p :: ps, [], _, _, _, _, _, h, _, _ => by simp at h
  | _, [], v :: args, _, _, _, _, _, h, _ => by simp at h
  | _, x :: xs, [], _, _, _, _, _, h, _ => by simp at h
end Go.Fw
end
