/- The quiet operations are sound (2): memory, fields, indexes, slice expressions. -/
import Derived.Test.YtlcmbjhppkddlaaFwD
namespace Go.Fw
open Go.RowKit (Below)

section
variable {P : Program} {w : World} {prot : Nat → Prop} {ρ β : Fam} {id : Nat} (hA : Apart w prot ρ β)
include hA

theorem qload_run {bx : Nat → Option (List AC)}
    (hbx : ∀ i xs, bx i = some xs → BoxRep w ρ β prot i xs)
    {t : TypeId} {v : Value} {x out : AV} (hv : AVRep w ρ β v x) (h : qload P t x bx = some out) : Runs P (Instr.loadAt t v) w ρ β id out := by
  unfold qload at h
  split at h
  · rename_i b off
    obtain ⟨g, hβ, rfl⟩ := rep_cell hv
    cases hb : bx b with
    | none => simp [hb] at h
    | some xs =>
      simp [hb] at h
      obtain ⟨g', raws, e, hβ', _, hg, hl, ho, hr⟩ := hbx b xs hb
      rw [hβ] at hβ'; cases hβ'
      have hs : Seg w ρ β raws.toList xs := ⟨by simpa using hl, ho, fun j u x hu hx => hr j u x (by simpa using hu) hx⟩
      obtain ⟨v, hrun, hv'⟩ := load_run (P := P) (a := ⟨g, 0, none⟩) hs (fun j u hj => by
        have hadd : ((⟨g, 0, none⟩ : Addr).add j) = ⟨g, j, none⟩ := by unfold Addr.add; split <;> simp_all
        rw [hadd]
        simp [World.cell?, hg]
        simpa using hj) h
      have hadd : ((⟨g, 0, none⟩ : Addr).add off) = ⟨g, off, none⟩ := by unfold Addr.add; split <;> simp_all
      rw [hadd] at hrun
      exact Runs.same hA (by simpa [Instr.loadAt, Instr.sureAddr] using hrun) hv'
  · rename_i k cells pos
    cases k with
    | none =>
      obtain ⟨y, raws, rfl, hc, hr⟩ := rep_cell hv
      obtain ⟨v, hrun, hv'⟩ := load_run (P := P) (a := y) (Seg.ofC hr) (fun j u hj => (hc j u hj).2) h
      exact Runs.same hA (by simpa [Instr.loadAt, Instr.sureAddr] using hrun) hv'
    | some f =>
      obtain ⟨y, raws, rfl, hc, hr⟩ := rep_cell hv
      obtain ⟨v, hrun, hv'⟩ := load_run (P := P) (a := y) (Seg.ofC hr) (fun j u hj => (hc j u hj).2) h
      exact Runs.same hA (by simpa [Instr.loadAt, Instr.sureAddr] using hrun) hv'
  · rename_i f cells pos
    obtain ⟨g, cur, e, fr, rfl, hρ, hg, hfr, hlen, hr⟩ := rep_cell hv
    obtain ⟨v, hrun, hv'⟩ := load_run (P := P) (a := ⟨g, 0, none⟩) (Seg.ofC hr) (fun j u hj => row_cell hg hj) h
    exact Runs.same hA (by simpa [Instr.loadAt, Instr.sureAddr] using hrun) hv'
  · cases h

omit hA in
theorem add_add (a : Addr) (i j : Nat) : (a.add i).add j = a.add (i + j) := by
  unfold Addr.add; split <;> split <;> simp_all <;> omega

omit hA in
theorem ptr_add (g off k : Nat) : (⟨g, off, none⟩ : Addr).add k = ⟨g, off + k, none⟩ := by
  unfold Addr.add; split <;> simp_all

theorem qfieldAddr_run {s : TypeId} {f : Nat} {v : Value} {x out : AV} (hv : AVRep w ρ β v x) (h : qfieldAddr P s x f = some out) : Runs P (Instr.fieldAt s v f) w ρ β id out := by
  unfold qfieldAddr at h
  split at h
  · rename_i fields hu
    split at h
    · rename_i fd hf
      split at h
      · rename_i m hs
        have hrun : ∀ a : Addr, (Instr.fieldAt s (.pointer (some a)) f).run P w = .ok (.pointer (some (a.add fd.offset))) w := by
          intro a
          simp [Instr.fieldAt, run_underlying hu, hf, Instr.sureAddr, fieldPlace, run_sizeOf hs]
        split at h
        · cases h
          obtain ⟨g, hβ, rfl⟩ := rep_cell hv
          exact Runs.same hA (hrun _) (.cell _ _ ⟨g, hβ, by rw [ptr_add]⟩)
        · rename_i k cells pos
          cases h
          cases k with
          | none =>
            obtain ⟨y, raws, rfl, hc⟩ := rep_cell hv
            exact Runs.same hA (hrun _) (.cell _ _ ⟨y, raws, by rw [add_add], hc⟩)
          | some k =>
            obtain ⟨y, raws, rfl, hc⟩ := rep_cell hv
            exact Runs.same hA (hrun _) (.cell _ _ ⟨y, raws, by rw [add_add], hc⟩)
        · cases h
          obtain ⟨g, cur, e, fr, rfl, hc⟩ := rep_cell hv
          exact Runs.same hA (hrun _) (.cell _ _ ⟨g, cur, e, fr, by rw [add_add], hc⟩)
        · cases h
      · cases h
    · cases h
  · cases h

theorem qfield_run {s : TypeId} {f : Nat} {v : Value} {x out : AV} (hv : AVRep w ρ β v x) (h : qfield P s x f = some out) : Runs P (Instr.field s v f) w ρ β id out := by
  unfold qfield at h
  split at h
  · rename_i fields xs hu
    cases hf : fields[f]? with
    | none => simp [hf] at h
    | some fd =>
      simp [hf] at h
      obtain ⟨cs, rfl, hs⟩ := Seg.ofAgg hv
      obtain ⟨v, hrun, hv'⟩ := part_run hs h
      exact Runs.same hA (by simp [Instr.field, run_underlying hu, hf, asAgg, hrun]) hv'
  · cases h

theorem qindexAddr_run {t : TypeId} {v i : Value} {x y out : AV} (hv : AVRep w ρ β v x) (hi : AVRep w ρ β i y) (h : qindexAddr P t x y = some out) : Runs P (Instr.indexAt t v i) w ρ β id out := by
  unfold qindexAddr at h
  split at h
  · rename_i k n
    cases rep_c hi
    split at h
    · rename_i e hu
      have hrun : ∀ (a : Addr) (len cap s : Nat), szOf P e = some s → 0 ≤ n ∧ n < len → (Instr.indexAt t (.slice (some a) len cap) (.int k n)).run P w = .ok (.pointer (some (a.add (n.toNat * s)))) w := by
        intro a len cap s hs hn
        simp [Instr.indexAt, asIntOf, run_underlying hu, run_sizeOf hs, hn]
      split at h
      · rename_i s m cells hs
        split at h
        · rename_i hn
          cases h
          cases rep_cell hv with
          | sl a n' cap raws cells hn' hm hl ho hc hr =>
            cases a with
            | none =>
              obtain ⟨z, e, _⟩ := hc 0 _ (List.getElem?_eq_getElem (show 0 < raws.length by rw [hl]; omega))
              cases e
            | some a =>
              exact Runs.same hA (hrun a m cap s hs hn.1) (.cell _ _ ⟨a, raws, rfl, fun j u hj => by obtain ⟨z, e, h1, h2⟩ := hc j u hj; cases e; exact ⟨h1, h2⟩, ⟨hl, ho, hr⟩⟩)
        · cases h
      · rename_i s f sz m cells hs
        split at h
        · rename_i hn
          cases h
          obtain ⟨raws, ⟨hl, ho⟩, hr⟩ := rep_cell hv
          rcases ho with ⟨_, _, rfl⟩ | ⟨g, cap, cur, e', fr, rfl, hρ, hg, hfr, hnc, hm, hcs, ht⟩
          · omega
          · have hlen : cells.length = m * sz := by rw [← hr.len, hl]
            exact Runs.same hA (hrun _ m cap s hs hn) (.cell _ _ ⟨g, cur, e', fr, rfl, hρ, hg, hfr, by rw [hlen, hcs]; exact Nat.mul_le_mul_right _ hnc, by rw [hlen, ht]; exact hr⟩)
        · cases h
      · rename_i s f m cells hs
        split at h
        · rename_i hn
          cases h
          obtain ⟨a, cap, raws, rfl, hnc, hm, hc, hr⟩ := rep_cell hv
          cases a with
          | none =>
            obtain ⟨z, e, _⟩ := hc 0 _ (List.getElem?_eq_getElem (show 0 < raws.length by rw [hr.len]; omega))
            cases e
          | some a => exact Runs.same hA (hrun a m cap s hs hn.1) (.cell _ _ ⟨a, raws, rfl, fun j u hj => by obtain ⟨z, e, h1, h2⟩ := hc j u hj; cases e; exact ⟨h1, h2⟩, hr⟩)
        · cases h
      · cases h
    · rename_i len e hu
      have hrun : ∀ (a : Addr) (s : Nat), szOf P e = some s → 0 ≤ n ∧ n < len → (Instr.indexAt t (.pointer (some a)) (.int k n)).run P w = .ok (.pointer (some (a.add (n.toNat * s)))) w := by
        intro a s hs hn
        simp [Instr.indexAt, asIntOf, run_underlying hu, run_sizeOf hs, hn, Instr.sureAddr]
      split at h
      · rename_i s b off hs
        split at h
        · rename_i hn
          cases h
          obtain ⟨g, hβ, rfl⟩ := rep_cell hv
          exact Runs.same hA (hrun _ s hs hn) (.cell _ _ ⟨g, hβ, by rw [ptr_add]⟩)
        · cases h
      · rename_i s k' cells pos hs
        split at h
        · rename_i hn
          cases h
          cases k' with
          | none =>
            obtain ⟨y, raws, rfl, hc⟩ := rep_cell hv
            exact Runs.same hA (hrun _ s hs hn) (.cell _ _ ⟨y, raws, by rw [add_add], hc⟩)
          | some k' =>
            obtain ⟨y, raws, rfl, hc⟩ := rep_cell hv
            exact Runs.same hA (hrun _ s hs hn) (.cell _ _ ⟨y, raws, by rw [add_add], hc⟩)
        · cases h
      · rename_i s f cells pos hs
        split at h
        · rename_i hn
          cases h
          obtain ⟨g, cur, e', fr, rfl, hc⟩ := rep_cell hv
          exact Runs.same hA (hrun _ s hs hn) (.cell _ _ ⟨g, cur, e', fr, by rw [add_add], hc⟩)
        · cases h
      · cases h
    · cases h
  · cases h
end
end Go.Fw
