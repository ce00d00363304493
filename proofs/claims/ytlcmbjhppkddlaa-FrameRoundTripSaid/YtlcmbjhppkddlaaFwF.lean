/- The quiet operations are sound (3): index, slice expressions, composites, builtins; all of them together. -/
import Derived.Test.YtlcmbjhppkddlaaFwE
namespace Go.Fw
open Go.RowKit (Below)

def OptRep (w : World) (ρ β : Fam) : Option Value → Option AV → Prop
  | none, none => True
  | some v, some x => AVRep w ρ β v x
  | _, _ => False

theorem bound_rep {w : World} {ρ β : Fam} {v : Option Value} {x : Option AV} (h : OptRep w ρ β v x) {d : Nat} {l : Int} (hb : bound x d = some l) :
    v = none ∧ l = d ∨ ∃ k, v = some (.int k l) := by
  unfold bound at hb
  split at hb
  · cases hb
    cases v with
    | none => exact .inl ⟨rfl, rfl⟩
    | some v => cases h
  · cases hb
    cases v with
    | none => cases h
    | some v => cases rep_c h; exact .inr ⟨_, rfl⟩
  · cases hb

theorem run_bounds {P : Program} {w : World} (b : Bool) (len cap : Nat) {lo hi : Option Value} {l h : Int} (hl : lo = none ∧ l = (0 : Nat) ∨ ∃ k, lo = some (.int k l)) (hh : hi = none ∧ h = len ∨ ∃ k, hi = some (.int k h))
    (h0 : 0 ≤ l) (h1 : l ≤ h) (h2 : h ≤ cap) : (Instr.sliceBounds b len cap lo hi none).run P w = .ok (l.toNat, h.toNat, cap) w := by
  have hc : (h.toNat : Int) = h := by omega
  rcases hl with ⟨rfl, rfl⟩ | ⟨kl, rfl⟩ <;> rcases hh with ⟨rfl, rfl⟩ | ⟨kh, rfl⟩ <;>
    simp_all [Instr.sliceBounds, Instr.sliceBound, asIntOf] <;> omega

section
variable {P : Program} {w : World} {prot : Nat → Prop} {ρ β : Fam} {id : Nat} (hA : Apart w prot ρ β)
include hA

theorem qindex_run {t : TypeId} {v i : Value} {x y out : AV} (hv : AVRep w ρ β v x) (hi : AVRep w ρ β i y) (h : qindex P t x y = some out) : Runs P (Instr.index t v i) w ρ β id out := by
  unfold qindex at h
  split at h
  · rename_i k n
    cases rep_c hi
    split at h
    · rename_i len e xs hu
      split at h
      · rename_i hn
        cases hs : szOf P e with
        | none => simp [hs] at h
        | some s =>
          simp [hs] at h
          obtain ⟨cs, rfl, hs'⟩ := Seg.ofAgg hv
          obtain ⟨v, hrun, hv'⟩ := part_run hs' h
          exact Runs.same hA (by simp [Instr.index, asIntOf, run_underlying hu, hn, run_sizeOf hs, hrun]) hv'
      · cases h
    · rename_i s hu
      split at h
      · rename_i hn
        cases hb : s[n.toNat]? with
        | none => simp [hb] at h
        | some b =>
          simp [hb] at h
          subst h
          cases rep_c hv
          exact Runs.same hA (by simp [Instr.index, asIntOf, run_underlying hu, hn, hb]) (.cell _ _ (.c _))
      · cases h
    · cases h
  · cases h

omit hA in
theorem take_sub {w : World} {bad : Nat → Prop} {raws : List Value} {cells : List CV} (h : CReps w bad raws cells) (a n : Nat) : CReps w bad ((raws.drop a).take n) ((cells.drop a).take n) := by
  refine ⟨by simp [h.len], fun u hu => h.one u (List.mem_of_mem_drop (List.mem_of_mem_take hu)), fun j u c hu hc => ?_⟩
  rw [List.getElem?_take] at hu hc
  split at hu <;> simp_all
  exact h.rep _ u c hu hc

theorem qslice_run {t : TypeId} {v : Value} {x out : AV} {lo hi mx : Option Value} {lo' hi' mx' : Option AV} (hv : AVRep w ρ β v x) (hlo : OptRep w ρ β lo lo') (hhi : OptRep w ρ β hi hi') (hmx : OptRep w ρ β mx mx')
    (h : qslice P t x lo' hi' mx' = some out) : Runs P (Instr.sliceAt t v lo hi mx) w ρ β id out := by
  unfold qslice at h
  split at h
  · rename_i s hu
    split at h
    · rename_i l hh hl hh'
      split at h
      · rename_i hb
        cases h
        cases rep_c hv
        cases mx with
        | some m => cases hmx
        | none =>
          have hrun := run_bounds (P := P) (w := w) false s.size s.size (bound_rep hlo hl) (bound_rep hhi hh') hb.1 hb.2.1 hb.2.2
          exact Runs.same hA (by simp [Instr.sliceAt, Instr.slice, run_underlying hu, hrun]) (.cell _ _ (.c _))
      · cases h
    · cases h
  · rename_i e x hu
    split at h
    · rename_i n cells s hsl hs
      split at h
      · rename_i l hh hl hh'
        split at h
        · rename_i hb
          obtain ⟨a, cap, raws, rfl, hn, hm, hr, hc⟩ := sl_rep (rep_cell hv) hsl
          cases mx with
          | some m => cases hmx
          | none =>
            have hrun := run_bounds (P := P) (w := w) true n cap (bound_rep hlo hl) (bound_rep hhi hh') hb.1 hb.2.1 (by omega)
            have hrun' : (Instr.sliceAt t (.slice a n cap) lo hi none).run P w = .ok (.slice (if cap = l.toNat then a else a.map (·.add (l.toNat * s))) (hh.toNat - l.toNat) (cap - l.toNat)) w := by
              simp [Instr.sliceAt, Instr.slice, run_underlying hu, hrun, run_sizeOf hs]
            have hlen : hh.toNat - l.toNat = (hh - l).toNat := by omega
            rw [hlen] at hrun'
            have hsub := take_sub hr (l.toNat * s) ((hh - l).toNat * s)
            -- the cells of the part
            have hcell : ∀ (j : Nat) (u : Value), ((raws.drop (l.toNat * s)).take ((hh - l).toNat * s))[j]? = some u →
                ∃ y : Addr, a = some y ∧ cap ≠ l.toNat ∧ w.cell? ((y.add (l.toNat * s)).add j) = some u := by
              intro j u hj
              rw [List.getElem?_take] at hj
              split at hj
              · rename_i hlt
                rw [List.getElem?_drop] at hj
                obtain ⟨y, rfl, hu⟩ := hc _ _ hj
                refine ⟨y, rfl, ?_, by rw [add_add]; exact hu⟩
                intro e
                have : (hh - l).toNat = 0 := by omega
                rw [this] at hlt; simp at hlt
              · cases hj
            cases x with
            | p x =>
              simp only [Option.some.injEq] at h
              subst h
              have hx : x = .sl n cells := by
                cases x <;> simp [AC.sl?] at hsl
                obtain ⟨rfl, rfl⟩ := hsl; rfl
              subst hx
              refine Runs.same hA hrun' (.cell _ _ (.sl _ _ _ _ _ (by omega) (by omega) hsub.len hsub.one (fun j u hj => ?_) hsub.rep))
              obtain ⟨y, rfl, hne, hu⟩ := hcell j u hj
              refine ⟨y.add (l.toNat * s), by simp [hne], ?_, hu⟩
              rw [add_block]
              cases rep_cell hv with
              | sl a n' cap' raws' cells' hn' hm' hl' ho' hc' hr' =>
                cases hraw : raws' with
                | nil =>
                  have hz : cells = [] := by rw [hraw] at hl'; exact List.eq_nil_of_length_eq_zero hl'.symm
                  rw [hz] at hr
                  have : raws = [] := List.eq_nil_of_length_eq_zero hr.len
                  rw [this] at hj; simp at hj
                | cons u0 r =>
                  obtain ⟨z, e, hbad, _⟩ := hc' 0 u0 (by rw [hraw]; rfl)
                  cases e; exact hbad
            | z =>
              simp only [Option.some.injEq] at h
              subst h
              obtain ⟨a', e⟩ := rep_cell hv
              cases e
              have h0 : (hh - l).toNat = 0 := by omega
              have hz : ∃ a', (Value.slice (if 0 = l.toNat then a else a.map (fun y : Addr => y.add (l.toNat * s))) (hh - l).toNat (0 - l.toNat)) = .slice a' 0 0 := ⟨_, by rw [h0, Nat.zero_sub]⟩
              exact Runs.same hA hrun' (.cell _ .z hz)
            | own f sz m cs =>
              have hx : m = n ∧ cs = cells := by simpa [AC.sl?] using hsl
              obtain ⟨rfl, rfl⟩ := hx
              simp only at h
              obtain ⟨raws', ⟨hl', ho'⟩, hr'⟩ := rep_cell hv
              split at h
              · rename_i hl0
                split at h
                · rename_i hsz
                  cases h
                  subst hl0
                  subst hsz
                  simp only [Int.toNat_zero, Nat.zero_mul, Nat.sub_zero] at hrun'
                  rcases ho' with ⟨a', e, rfl⟩ | ⟨g, cap', cur, e', fr, e, hρ, hg, hfr, hnc, hm', hcs, ht⟩
                  · cases e
                    have h0 : hh = 0 := by omega
                    subst h0
                    have hraw : raws' = [] := List.eq_nil_of_length_eq_zero (by simpa using hl')
                    subst hraw
                    refine Runs.same hA hrun' (.cell _ _ ⟨[], ⟨by simp, .inl ⟨if 0 = 0 then a else a.map (fun x : Addr => x.add 0), by simp, by simp⟩⟩, ⟨by simp, by simp, by simp⟩⟩)
                  · cases e
                    have he : (if cap = 0 then some (⟨g, 0, none⟩ : Addr) else Option.map (fun x : Addr => x.add 0) (some ⟨g, 0, none⟩)) = some ⟨g, 0, none⟩ := by split <;> simp [Addr.add]
                    rw [he] at hrun'
                    have hs1 := take_sub hr' 0 (hh.toNat * sz)
                    simp only [List.drop_zero] at hs1
                    have hle : hh.toNat * sz ≤ m * sz := Nat.mul_le_mul_right _ (by omega)
                    refine Runs.same hA (v := .slice (some ⟨g, 0, none⟩) hh.toNat cap) (by simpa using hrun') (.cell _ _ ⟨raws'.take (hh.toNat * sz), ⟨by rw [List.length_take, hl']; exact Nat.min_eq_left hle, .inr ⟨g, cap, cur, e', fr, rfl, hρ, hg, hfr, by omega, hm', hcs, ?_⟩⟩, hs1⟩)
                    rw [← ht, List.take_take, Nat.min_eq_left hle]
                · cases h
              · cases h
                refine Runs.same hA hrun' (.cell _ _ ⟨_, _, _, rfl, by omega, by omega, fun j u hj => ?_, hsub⟩)
                obtain ⟨y, rfl, hne, hu⟩ := hcell j u hj
                refine ⟨y.add (l.toNat * s), by simp [hne], ?_, hu⟩
                rw [add_block]
                rcases ho' with ⟨_, e, h0⟩ | ⟨g, cap', cur, e', fr, e, hρ, _⟩
                · cases e; omega
                · cases e; exact hρ
            | view f m cs =>
              have hx : m = n ∧ cs = cells := by simpa [AC.sl?] using hsl
              obtain ⟨rfl, rfl⟩ := hx
              simp only [Option.some.injEq] at h
              subst h
              obtain ⟨a', cap', raws', e, hn', hm', hc', hr'⟩ := rep_cell hv
              cases e
              refine Runs.same hA hrun' (.cell _ _ ⟨_, _, _, rfl, by omega, by omega, fun j u hj => ?_, hsub⟩)
              obtain ⟨y, rfl, hne, hu⟩ := hcell j u hj
              refine ⟨y.add (l.toNat * s), by simp [hne], ?_, hu⟩
              rw [add_block]
              cases hraw : raws' with
              | nil =>
                have hz : cs = [] := by have := hr'.len; rw [hraw] at this; exact List.eq_nil_of_length_eq_zero this.symm
                rw [hz] at hr
                have : raws = [] := List.eq_nil_of_length_eq_zero hr.len
                rw [this] at hj; simp at hj
              | cons u0 r =>
                obtain ⟨z, e, hbad, _⟩ := hc' 0 u0 (by rw [hraw]; rfl)
                cases e; exact hbad
            | ep k cs pos => cases h
            | epo f cs pos => cases h
            | ptr b off => cases h
            | bad => cases h
        · cases h
      · rename_i l hh m' hl hh'
        split at h
        · rename_i km m
          split at h
          · rename_i hz
            cases h
            obtain ⟨rfl, rfl, rfl⟩ := hz
            obtain ⟨a, cap, raws, rfl, hn, hm, hr, hc⟩ := sl_rep (rep_cell hv) hsl
            cases mx with
            | none => cases hmx
            | some mv =>
              cases rep_c hmx
              have hlo2 := bound_rep hlo hl
              have hhi2 := bound_rep hhi hh'
              have hrun : (Instr.sliceBounds true n cap lo hi (some (.int km 0))).run P w = .ok (0, 0, 0) w := by
                rcases hhi2 with ⟨rfl, e⟩ | ⟨kh, rfl⟩
                · cases hhi
                · rcases hlo2 with ⟨rfl, _⟩ | ⟨kl, rfl⟩ <;> simp [Instr.sliceBounds, Instr.sliceBound, asIntOf]
              exact Runs.same hA (v := .slice a 0 0) (by simp [Instr.sliceAt, Instr.slice, run_underlying hu, hrun, run_sizeOf hs]) (.cell _ _ ⟨a, rfl⟩)
          · cases h
        · cases h
      · cases h
    · cases h
  · cases h

end
end Go.Fw
