/- The quiet operations are sound (4): composites, builtins; all quiet operations together. -/
import Derived.Test.YtlcmbjhppkddlaaFwF
namespace Go.Fw
open Go.RowKit (Below)

theorem Seg.set {w : World} {ρ β : Fam} {raws : List Value} {acs : List AC} (h : Seg w ρ β raws acs) (i : Nat) {u : Value} {x : AC} (ho : u.oneCell' = true) (hu : ACRep w ρ β u x) : Seg w ρ β (raws.set i u) (acs.set i x) := by
  refine ⟨by simp [h.len], fun v hv => ?_, fun j v y hv hy => ?_⟩
  · rcases List.mem_or_eq_of_mem_set hv with h' | rfl
    · exact h.one v h'
    · exact ho
  · rw [List.getElem?_set] at hv hy
    split at hv
    · rename_i e
      subst e
      split at hv
      · rename_i hlt
        cases hv
        rw [if_pos rfl, if_pos (by rw [← h.len]; exact hlt)] at hy
        cases hy; exact hu
      · cases hv
    · rename_i e
      rw [if_neg e] at hy
      exact h.rep j v y hv hy

theorem seg_run {w : World} {ρ β : Fam} {vs : List Value} {xs : List AC} (hv : Seg w ρ β vs xs) : ∀ (off k : Nat) (raws : Array Value) (acs : List AC), Seg w ρ β raws.toList acs →
    Seg w ρ β (((vs.zipIdx k).foldl (fun (cs : Array Value) (p : Value × Nat) => cs.setIfInBounds (off + p.2) p.1) raws)).toList (setRun acs (off + k) xs) := by
  induction vs generalizing xs with
  | nil =>
    intro off k raws acs h
    have : xs = [] := List.eq_nil_of_length_eq_zero (by rw [← hv.len]; rfl)
    subst this
    exact h
  | cons v vs ih =>
    intro off k raws acs h
    cases xs with
    | nil => have := hv.len; simp at this
    | cons x xs =>
      have h1 : Seg w ρ β vs xs := ⟨by simpa using hv.len, fun u hu => hv.one u (by simp [hu]), fun j u y hu hy => hv.rep (j + 1) u y (by simpa using hu) (by simpa using hy)⟩
      have h2 := h.set (off + k) (hv.one v (by simp)) (hv.rep 0 v x rfl rfl)
      rw [← Array.toList_setIfInBounds] at h2
      have := ih h1 off (k + 1) _ _ h2
      simpa [setRun, List.zipIdx_cons, Nat.add_assoc] using this

theorem fill_run {w : World} {ρ β : Fam} {ev : Operand → AV} {ρv : Operand → Value} (he : ∀ x, AVRep w ρ β (ρv x) (ev x)) (place : Nat → Option (Nat × Nat)) : ∀ (parts : List (Nat × Operand)) (ps : List (Nat × List AC)),
    partsA ev parts = some ps → ∀ (raws : Array Value) (acs acs' : List AC), Seg w ρ β raws.toList acs → fillA place acs ps = some acs' →
    ∃ raws' : Array Value, Instr.fill place raws (parts.map fun p => (p.1, ρv p.2)) = some raws' ∧ Seg w ρ β raws'.toList acs'
  | [], ps, hp, raws, acs, acs', hs, hf => by
    simp [partsA] at hp
    subst hp
    simp [fillA] at hf
    subst hf
    exact ⟨raws, rfl, hs⟩
  | (i, x) :: r, ps, hp, raws, acs, acs', hs, hf => by
    simp only [partsA] at hp
    split at hp
    · rename_i cs l h1 h2
      cases hp
      have hx := cells_rep (he x) h1
      simp only [fillA] at hf
      split at hf
      · cases hf
      · rename_i off size hpl
        split at hf
        · cases hf
        · rename_i hc
          have hlen : (ρv x).cells.size = cs.length := by have := hx.len; simpa using this
          have hlen2 : raws.size = acs.length := by have := hs.len; simpa using this
          have h3 := seg_run hx off 0 raws acs hs
          rw [Nat.add_zero] at h3
          obtain ⟨raws', hr, hs'⟩ := fill_run he place r l h2 _ _ acs' h3 hf
          refine ⟨raws', ?_, hs'⟩
          have hcond : ((ρv x).cells.size ≠ size || off + (ρv x).cells.size > raws.size) = false := by
            simp only [Bool.or_eq_false_iff, decide_eq_false_iff_not]
            omega
          simp only [List.map_cons, Instr.fill, hpl, hcond, Bool.false_eq_true, if_false]
          rw [← hr, ← Array.foldl_toList, Array.toList_zipIdx]
    · cases hp

theorem placesA_mapM {P : Program} : ∀ (fs : List Field) (pl : List (Nat × Nat)), placesA P fs = some pl → fs.mapM (fun f => (P.info? f.type).map fun i => (f.offset, i.size)) = some pl
  | [], pl, h => by simp [placesA] at h; subst h; rfl
  | f :: fs, pl, h => by
    simp only [placesA] at h
    split at h
    · rename_i s l h1 h2
      cases h
      obtain ⟨i, hi, rfl⟩ := szOf_some h1
      simp [List.mapM_cons, hi, placesA_mapM fs l h2]
    · cases h

theorem zeroA_some {P : Program} {t : TypeId} {zs : List AC} (h : zeroA P t = some zs) (w : World) (ρ β : Fam) : ∃ i z, P.info? t = some i ∧ i.zero = some z ∧ Seg w ρ β z.cells.toList zs := by
  unfold zeroA at h
  split at h
  · rename_i i hi
    split at h
    · rename_i z hz
      split at h
      · rename_i ho
        cases h
        refine ⟨i, z, hi, hz, by simp, fun u hu => by rw [List.all_eq_true] at ho; exact ho u hu, fun j u x hu hx => ?_⟩
        rw [List.getElem?_map, hu] at hx
        simp at hx
        subst hx
        exact constAC_rep w ρ β u
      · cases h
    · cases h
  · cases h

section
variable {P : Program} {w : World} {prot : Nat → Prop} {ρ β : Fam} {id : Nat} (hA : Apart w prot ρ β)
include hA

theorem qbuild_run {ev : Operand → AV} {ρv : Operand → Value} (he : ∀ x, AVRep w ρ β (ρv x) (ev x)) {t : TypeId} {parts : Array (Nat × Operand)} {out : AV} (h : qbuild P t parts.toList ev = some out) :
    Runs P (Instr.build t (parts.map fun (i, x) => (i, ρv x))) w ρ β id out := by
  unfold qbuild at h
  have hmap : (parts.map fun (i, x) => (i, ρv x)).toList = parts.toList.map fun p => (p.1, ρv p.2) := by simp
  split at h
  · rename_i fields zero ps hu hz hp
    cases hpl : placesA P fields.toList with
    | none => simp [hpl] at h
    | some pl =>
      simp [hpl] at h
      obtain ⟨acs', hf, rfl⟩ := h
      obtain ⟨i, z, hi, hz', hs⟩ := zeroA_some hz w ρ β
      obtain ⟨raws', hr, hs'⟩ := fill_run he (fun i => pl[i]?) parts.toList ps hp z.cells zero acs' hs hf
      refine Runs.same hA (run_build w t _ raws' ?_) (by have := hs'.agg; simpa using this)
      simp only [Program.built, hi, hu, hz', placesA_mapM _ _ hpl, hmap]
      simpa using hr
  · rename_i n e zero ps hu hz hp
    cases hs0 : szOf P e with
    | none => simp [hs0] at h
    | some s =>
      simp [hs0] at h
      obtain ⟨acs', hf, rfl⟩ := h
      obtain ⟨ie, hie, rfl⟩ := szOf_some hs0
      obtain ⟨i, z, hi, hz', hs⟩ := zeroA_some hz w ρ β
      obtain ⟨raws', hr, hs'⟩ := fill_run he (fun i => some (i * ie.size, ie.size)) parts.toList ps hp z.cells zero acs' hs hf
      refine Runs.same hA (run_build w t _ raws' ?_) (by have := hs'.agg; simpa using this)
      simp only [Program.built, hi, hu, hz', hie, hmap]
      exact hr
  · cases h

omit hA in
theorem toCVs_rep {raws : List Value} {acs : List AC} (h : Seg w ρ β raws acs) : ∀ {cs : List CV}, toCVs acs = some cs → CReps w (Bad ρ β) raws cs := by
  obtain ⟨h1, h2, h3⟩ := h
  induction acs generalizing raws with
  | nil =>
    intro cs hc
    simp [toCVs] at hc
    subst hc
    exact ⟨h1, h2, fun j u c hu hc => by simp at hc⟩
  | cons x acs ih =>
    intro cs hc
    cases raws with
    | nil => simp at h1
    | cons u raws =>
      simp only [toCVs] at hc
      split at hc
      · rename_i c l e1 e2
        cases hc
        have := ih (raws := raws) (by simpa using h1) (fun u hu => h2 u (by simp [hu])) (fun j u y hu hy => h3 (j + 1) u y (by simpa using hu) (by simpa using hy)) e2
        refine ⟨by simpa using this.len, h2, fun j v c hv hc => ?_⟩
        cases j with
        | zero => simp at hv hc; subst hv hc; exact toCV_rep (h3 0 u x rfl rfl) e1
        | succ j => exact this.rep j v c (by simpa using hv) (by simpa using hc)
      · cases hc

omit hA in
theorem Seg.append {r1 r2 : List Value} {a1 a2 : List AC} (h : Seg w ρ β r1 a1) (k : Seg w ρ β r2 a2) : Seg w ρ β (r1 ++ r2) (a1 ++ a2) := by
  refine ⟨by simp [h.len, k.len], fun u hu => ?_, fun j u x hu hx => ?_⟩
  · rcases List.mem_append.1 hu with h' | h'
    · exact h.one u h'
    · exact k.one u h'
  · rcases Nat.lt_or_ge j r1.length with hj | hj
    · rw [List.getElem?_append_left hj] at hu
      rw [List.getElem?_append_left (by rw [← h.len]; exact hj)] at hx
      exact h.rep j u x hu hx
    · rw [List.getElem?_append_right hj] at hu
      rw [List.getElem?_append_right (by rw [← h.len]; exact hj), ← h.len] at hx
      exact k.rep _ u x hu hx

def repV (n : Nat) (z : List Value) : List Value := match n with | 0 => [] | n + 1 => z ++ repV n z

omit hA in
theorem repV_range (z : Array Value) : ∀ n, repV n z.toList = (List.range (n * z.size)).map (fun i => z[i % z.size]!)
  | 0 => by simp [repV]
  | n + 1 => by
    rw [repV, repV_range z n, Nat.succ_mul, Nat.add_comm, List.range_add, List.map_append, List.map_map]
    congr 1
    · apply List.ext_getElem
      · simp
      · intro i h1 h2
        have hi : i < z.size := by simpa using h1
        simp [Nat.mod_eq_of_lt hi, hi]
    · apply List.map_congr_left
      intro i _
      simp

omit hA in
theorem repA_seg {z : List Value} {zero : List AC} (h : Seg w ρ β z zero) : ∀ n, Seg w ρ β (repV n z) (repA n zero)
  | 0 => ⟨rfl, by simp [repV], by simp [repV]⟩
  | n + 1 => h.append (repA_seg h n)

omit hA in
theorem fillA_length (place : Nat → Option (Nat × Nat)) : ∀ (ps : List (Nat × List AC)) (cells cells' : List AC), fillA place cells ps = some cells' → cells'.length = cells.length
  | [], cells, cells', h => by simp [fillA] at h; rw [h]
  | (i, v) :: r, cells, cells', h => by
    simp only [fillA] at h
    split at h
    · cases h
    · split at h
      · cases h
      · rw [fillA_length place r _ _ h]
        have : ∀ (xs : List AC) (cells : List AC) (off : Nat), (setRun cells off xs).length = cells.length := by
          intro xs
          induction xs with
          | nil => intro cells off; rfl
          | cons x xs ih => intro cells off; simp [setRun, ih]
        exact this _ _ _

omit hA in
theorem repA_length (zero : List AC) : ∀ n, (repA n zero).length = n * zero.length
  | 0 => by simp [repA]
  | n + 1 => by rw [repA, List.length_append, repA_length zero n, Nat.succ_mul, Nat.add_comm]

theorem qbuildSlice_run (hid : ∀ f, id ≤ f → f < id + 64 → ρ f = none) {ev : Operand → AV} {ρv : Operand → Value} (he : ∀ x, AVRep w ρ β (ρv x) (ev x)) {t : TypeId} {len : Nat} {parts : Array (Nat × Operand)} {out : AV}
    (h : qbuildSlice P id t len parts.toList ev = some out) : Runs P (Instr.buildSlice t len (parts.map fun (i, x) => (i, ρv x))) w ρ β id out := by
  unfold qbuildSlice at h
  have hmap : (parts.map fun (i, x) => (i, ρv x)).toList = parts.toList.map fun p => (p.1, ρv p.2) := by simp
  split at h
  · rename_i e hu
    split at h
    · rename_i s zero ps hs0 hz hp
      split at h
      · rename_i hc
        obtain ⟨hc1, hc2, hc3⟩ := hc
        have hc1' : ¬ (len * s > 2 ^ 24) := by omega
        have hsz := run_sizeOf hs0
        obtain ⟨i, z, hi, hz', hs⟩ := zeroA_some hz w ρ β
        split at h
        · rename_i hl0
          subst hl0
          split at h
          · rename_i hpe
            cases h
            have hps : parts.toList = [] := by
              cases hpl : parts.toList with
              | nil => rfl
              | cons p r =>
                obtain ⟨a, b⟩ := p
                rw [hpl] at hp
                simp only [partsA] at hp
                split at hp
                · cases hp; simp at hpe
                · cases hp
            have hps' : parts = #[] := by apply Array.ext'; simpa using hps
            subst hps'
            refine ⟨.slice (some ⟨w.heap.size, 0, none⟩) 0 0, w.alloc (.cells #[] e), ρ, ?_, ?_, NewFam.refl hA id, .cell _ .z ⟨_, rfl⟩⟩
            · simp [Instr.buildSlice, run_underlying hu, hsz, Instr.fill, newRow, Array.range_zero']
            · exact (Below.refl _ _).alloc (Nat.le_refl _) _
          · cases h
        · rename_i hl0
          split at h
          · rename_i cells hf
            cases hcv : toCVs cells with
            | none => simp [hcv] at h
            | some cs =>
              simp [hcv] at h
              subst h
              have hseg := repA_seg hs len
              have hzl : z.cells.size = s := by have := hs.len; rw [hc2] at this; simpa using this
              have hne : len * s ≠ 0 := by
                intro e; rcases Nat.mul_eq_zero.1 e with e | e <;> omega
              have e1 : ((Array.range (len * s)).map (z.cells[· % z.cells.size]!)).toList = repV len z.cells.toList := by
                rw [repV_range, hzl]; simp
              rw [← e1] at hseg
              obtain ⟨raws', hr, hs'⟩ := fill_run he (fun i => some (i * s, s)) parts.toList ps hp _ _ cells hseg hf
              have hlen : raws'.size = len * s := by
                have := hs'.len
                rw [fillA_length _ _ _ _ hf, repA_length, hc2] at this
                simpa using this
              have hreps := toCVs_rep hs' hcv
              have hN := newOwn (β := β) (w' := w.alloc (.cells raws' e)) hA hid rfl rfl rfl rfl (.inl rfl) (cap := len) (n := len) (sz := s) hlen (Nat.le_refl _)
                (by unfold maxLen; have : len ≤ len * s := Nat.le_mul_of_pos_right _ hc3; omega) (cells := cs) (by
                  rw [List.take_of_length_le (by simp [hlen])]; exact hreps)
              refine ⟨_, _, _, ?_, hN.1, hN.2.1, .cell _ _ hN.2.2⟩
              rw [← hmap] at hr
              have hr' : Instr.fill (fun i => some (i * s, s)) (Array.map (fun x => z.cells[x % z.cells.size]!) (Array.range (len * s))) (parts.map fun (i, x) => (i, ρv x)).toList = some raws' := hr
              simp only [Instr.buildSlice, Sem.run_bind, run_underlying hu, Result.andThen_ok, hsz, hc1', if_false, hne, zeroValue, typeInfo, run_program, hi, hz', Sem.run_pure, hr', newRow, run_newObj]
              rfl
          · cases h
      · cases h
    · cases h
  · cases h

theorem qbuiltin_run {b : Builtin} {ts : Array TypeId} {ty : TypeId} {consts : Array Bool} {vs : Array Value} {xs : List AV} {out : AV} (hl : vs.size = xs.length) (hv : ∀ (j : Nat) (u : Value) (x : AV), vs[j]? = some u → xs[j]? = some x → AVRep w ρ β u x)
    (h : qbuiltin P b ts.toList xs = some out) : ∃ s, builtin b ts ty consts vs = (do pure (.value (← s)) : Sem Next) ∧ Runs P s w ρ β id out := by
  unfold qbuiltin at h
  split at h
  · rename_i t ts' x hts
    have hvs : ∃ v, vs = #[v] := by
      obtain ⟨l⟩ := vs
      match l, hl with
      | [v], _ => exact ⟨v, rfl⟩
    obtain ⟨v, rfl⟩ := hvs
    have hx := hv 0 v x rfl rfl
    have ht : ts[0]? = some t := by rw [← Array.getElem?_toList, hts]; rfl
    refine ⟨_, rfl, ?_⟩
    split at h
    · rename_i s hu
      cases h
      cases rep_c hx
      exact Runs.same hA (by simp [Builtin.len_, ht, run_underlying hu]; rfl) (.cell _ _ (.c _))
    · rename_i n e hu
      cases h
      exact Runs.same hA (by simp [Builtin.len_, ht, run_underlying hu]; rfl) (.cell _ _ (.c _))
    · rename_i e x hu
      cases hsl : x.sl? with
      | none => simp [hsl] at h
      | some p =>
        obtain ⟨n, cells⟩ := p
        simp [hsl] at h
        subst h
        obtain ⟨a, cap, raws, rfl, _⟩ := sl_rep (rep_cell hx) hsl
        exact Runs.same hA (by simp [Builtin.len_, ht, run_underlying hu]; rfl) (.cell _ _ (.c _))
    · cases h
  · rename_i k x k' y
    cases h
    have hvs : ∃ u v, vs = #[u, v] := by
      obtain ⟨l⟩ := vs
      match l, hl with
      | [u, v], _ => exact ⟨u, v, rfl⟩
    obtain ⟨u, v, rfl⟩ := hvs
    cases rep_c (hv 0 u _ rfl rfl)
    cases rep_c (hv 1 v _ rfl rfl)
    exact ⟨_, rfl, Runs.same hA (run_max_int2 w _ _ k k' x y) (.cell _ _ (.c _))⟩
  · rename_i k x k' y
    cases h
    have hvs : ∃ u v, vs = #[u, v] := by
      obtain ⟨l⟩ := vs
      match l, hl with
      | [u, v], _ => exact ⟨u, v, rfl⟩
    obtain ⟨u, v, rfl⟩ := hvs
    cases rep_c (hv 0 u _ rfl rfl)
    cases rep_c (hv 1 v _ rfl rfl)
    exact ⟨_, rfl, Runs.same hA (run_min_int2 w _ _ k k' x y) (.cell _ _ (.c _))⟩
  · cases h

omit hA in
theorem optRep {ev : Operand → AV} {ρv : Operand → Value} (he : ∀ x, AVRep w ρ β (ρv x) (ev x)) (o : Option Operand) : OptRep w ρ β (o.map ρv) (o.map ev) := by
  cases o with
  | none => trivial
  | some x => exact he x

/-- Operations that make a family. -/
def creates : Op → Bool
  | .convert _ _ _ => true
  | .buildSlice _ _ _ => true
  | _ => false

/-- ALL QUIET OPERATIONS. -/
theorem qval_run {o : Oper} (hid : creates o.op = true → ∀ f, id ≤ f → f < id + 64 → ρ f = none) {bx : Nat → Option (List AC)}
    (hbx : ∀ i xs, bx i = some xs → BoxRep w ρ β prot i xs)
    {ev : Operand → AV} {ρv : Operand → Value} (he : ∀ x, AVRep w ρ β (ρv x) (ev x)) {out : AV} (h : qval P id ev bx o.op = some out) :
    ∃ v w' ρ', (execOp ρv o).run P w = .ok (.value v) w' ∧ Below w.heap.size w w' ∧ NewFam w ρ w' ρ' id ∧ AVRep w' ρ' β v out := by
  have fin : ∀ s : Sem Value, execOp ρv o = (do pure (.value (← s)) : Sem Next) → Runs P s w ρ β id out →
      ∃ v w' ρ', (execOp ρv o).run P w = .ok (.value v) w' ∧ Below w.heap.size w w' ∧ NewFam w ρ w' ρ' id ∧ AVRep w' ρ' β v out := by
    rintro s e ⟨v, w', ρ', hr, h1, h2, h3⟩
    exact ⟨v, w', ρ', by rw [e]; simp [hr], h1, h2, h3⟩
  obtain ⟨dst, op, ty, pos, after, guard⟩ := o
  simp only at h fin hid ⊢
  have same : ∀ v, (execOp ρv ⟨dst, op, ty, pos, after, guard⟩).run P w = .ok (.value v) w → AVRep w ρ β v out →
      ∃ v w' ρ', (execOp ρv ⟨dst, op, ty, pos, after, guard⟩).run P w = .ok (.value v) w' ∧ Below w.heap.size w w' ∧ NewFam w ρ w' ρ' id ∧ AVRep w' ρ' β v out :=
    fun v hr hv => ⟨v, w, ρ, hr, Below.refl _ _, NewFam.refl hA id, hv⟩
  cases op <;> simp only [qval] at h <;> try (cases h; done)
  case move x => cases h; exact same _ rfl (he x)
  case assign x => cases h; exact same _ rfl (he x)
  case pick c a b =>
    split at h
    · rename_i t ht
      cases h
      have hc := he c
      rw [ht] at hc
      have hc := rep_c hc
      refine same (if t then ρv a else ρv b) (by simp [execOp, hc, asBool]) ?_
      split <;> exact he _
    · cases h
  case build t parts => exact fin _ rfl (qbuild_run hA he h)
  case buildSlice t len parts => exact fin _ rfl (qbuildSlice_run hA (hid rfl) he h)
  case load t x => exact fin _ rfl (qload_run hA hbx (he x) h)
  case nilCheck x =>
    split at h
    · rename_i b off hx
      cases h
      have hc := he x
      rw [hx] at hc
      obtain ⟨g, hg, hv⟩ := rep_cell hc
      exact same _ (by simp [execOp, hv]) (.cell _ _ ⟨g, hg, rfl⟩)
    · cases h
  case binOp op t x y ty' =>
    split at h
    · rename_i u v hx hy
      cases hb : valBin P op t u v with
      | none => simp [hb] at h
      | some r =>
        simp [hb] at h
        subst h
        have h1 := he x
        have h2 := he y
        rw [hx] at h1; rw [hy] at h2
        have h1 := rep_c h1
        have h2 := rep_c h2
        have := valBin_run hb w x y
        refine same r ?_ (.cell _ _ (.c _))
        simp only [execOp, h1, h2]
        rw [Sem.run_bind, this]
        rfl
    · cases h
  case unOp op t x =>
    split at h
    · rename_i u hx
      cases hb : valUn op u with
      | none => simp [hb] at h
      | some r =>
        simp [hb] at h
        subst h
        have h1 := he x
        rw [hx] at h1
        have h1 := rep_c h1
        refine same r ?_ (.cell _ _ (.c _))
        simp [execOp, h1, valUn_run hb w]
    · cases h
  case convert src dst x => exact fin _ rfl (qconv_run hA (fun _ => hid rfl) (he x) h)
  case slice t x lo hi mx => exact fin _ rfl (qslice_run hA (he x) (optRep he lo) (optRep he hi) (optRep he mx) h)
  case fieldAddr s x f => exact fin _ rfl (qfieldAddr_run hA (he x) h)
  case field s x f => exact fin _ rfl (qfield_run hA (he x) h)
  case indexAddr t x i => exact fin _ rfl (qindexAddr_run hA (he x) (he i) h)
  case index t x i => exact fin _ rfl (qindex_run hA (he x) (he i) h)
  case extract t i =>
    split at h
    · rename_i xs hx
      have h1 := he t
      rw [hx] at h1
      obtain ⟨vs, hv, hl, hr⟩ := rep_tup h1
      have hi : i < vs.size := by
        rw [hl]
        rcases Nat.lt_or_ge i xs.length with h' | h'
        · exact h'
        · simp [List.getElem?_eq_none h'] at h
      refine same vs[i] ?_ (hr i _ _ (Array.getElem?_eq_getElem hi) h)
      simp [execOp, hv, Instr.extract, hi]
    · cases h
  case call c =>
    obtain ⟨callee, args, ts⟩ := c
    cases callee <;> simp only at h <;> try (cases h; done)
    rename_i b
    obtain ⟨s, hs, hr⟩ := qbuiltin_run (id := id) hA (ty := ty) (consts := args.map fun | .const _ => true | _ => false) (vs := args.map ρv) (by simp) (fun j u x hu hx => by
      simp at hu hx
      obtain ⟨x1, hx1, rfl⟩ := hu
      obtain ⟨x2, hx2, rfl⟩ := hx
      rw [hx1] at hx2; cases hx2
      exact he _) h
    refine fin s ?_ hr
    simp only [execOp, resolve, invoke, pure_bind]
    exact hs

end
end Go.Fw
