/- Plain laws: decoding inverts encoding, encoding inverts decoding. -/
import Derived.Test.YtlcmbjhppkddlaaFrN
namespace Go.Fr
open Go.Fw

theorem uintB_valB : ∀ (init : List UInt8) (c : UInt8), (∀ b ∈ init, ¬ b.toNat < 128) → c.toNat < 128 → (c.toNat = 0 → init = []) → uintB (valB (init ++ [c])) = init ++ [c]
  | [], c, _, hc, _ => by
    have : valB ([] ++ [c]) = c.toNat := by simp [valB]; omega
    rw [this, uintB_lt hc]
    simp only [List.nil_append, List.cons.injEq, and_true]
    apply UInt8.toNat_inj.1
    rw [byteN_toNat]; omega
  | b :: init, c, h, hc, h0 => by
    have hb := h b (by simp)
    have hb2 := b.toNat_lt
    have hc0 : 0 < c.toNat := by
      rcases Nat.eq_zero_or_pos c.toNat with e | e
      · have := h0 e; simp at this
      · exact e
    have ih := uintB_valB init c (fun x hx => h x (by simp [hx])) hc (fun e => by omega)
    have hv : 0 < valB (init ++ [c]) := by
      rw [valB_snoc]
      have : 0 < 128 ^ init.length * (c.toNat % 128) := Nat.mul_pos (Nat.pow_pos (by omega)) (by omega)
      omega
    have e : valB (b :: init ++ [c]) = b.toNat % 128 + 128 * valB (init ++ [c]) := rfl
    rw [e, uintB_ge (by omega)]
    have e1 : (b.toNat % 128 + 128 * valB (init ++ [c])) / 128 = valB (init ++ [c]) := by omega
    have e2 : (b.toNat % 128 + 128 * valB (init ++ [c])) % 128 + 128 = b.toNat := by omega
    rw [e1, e2, ih]
    have : byteN b.toNat = b := by apply UInt8.toNat_inj.1; rw [byteN_toNat]; omega
    rw [this]; rfl
theorem lead_ge : ∀ (f : Nat) (l : List UInt8), ∀ b ∈ l.take (lead f l), ¬ b.toNat < 128
  | 0, l, b, hb => by simp [lead] at hb
  | f + 1, [], b, hb => by simp at hb
  | f + 1, x :: l, b, hb => by
    rw [lead] at hb
    split at hb
    · simp at hb
    · rename_i hx
      simp only [List.take_succ_cons, List.mem_cons] at hb
      rcases hb with rfl | hb
      · exact hx
      · exact lead_ge f l b hb
theorem lead_lt : ∀ (f : Nat) (l : List UInt8), lead f l ≠ f → lead f l ≠ l.length → (l.getD (lead f l) 0).toNat < 128
  | 0, l, h, _ => by simp [lead] at h
  | f + 1, [], h, h2 => by simp [lead] at h2
  | f + 1, x :: l, h, h2 => by
    rw [lead] at h h2 ⊢
    split
    · rename_i hx; simpa using hx
    · rename_i hx
      rw [if_neg hx] at h h2
      simpa using lead_lt f l (by omega) (by simpa using h2)
/-- What is decoded is encoded as the same bytes. -/
theorem uintB_dec {l : List UInt8} (h : (dec l).2.2 = 0) : uintB (dec l).1 ++ l.drop (dec l).2.1 = l := by
  have h1 := lead_ge 9 l
  have h2 := lead_lt 9 l
  have h3 := lead_len 9 l
  unfold dec at h ⊢
  simp only at h ⊢
  split at h
  · simp at h
  · rename_i e1
    split at h
    · simp at h
    · rename_i e2
      split at h
      · simp at h
      · rename_i e3
        split at h
        · simp at h
        · rename_i e4
          rw [if_neg e1, if_neg e2, if_neg e3, if_neg e4]
          simp only
          have hk : lead 9 l < l.length := by omega
          have h2 := h2 e1 e2
          generalize lead 9 l = k at *
          have ht : l.take (k + 1) = l.take k ++ [l[k]] := List.take_succ_eq_append_getElem hk
          have hg : l.getD k 0 = l[k] := by rw [List.getD_eq_getElem?_getD, List.getElem?_eq_getElem hk]; rfl
          rw [hg] at h2 e3
          rw [ht, uintB_valB _ _ h1 h2 (fun hc => ?_), ← ht, List.take_append_drop]
          have : k = 0 := by
            rcases Nat.eq_zero_or_pos k with e | e
            · exact e
            · exact absurd ⟨hc, e⟩ e3
          subst this; simp
theorem intCode_decInt {l : List UInt8} (h : (decInt l).2.2 = 0) : intCode (decInt l).1 = (dec l).1 ∧ (dec l).2.2 = 0 ∧ (decInt l).2.1 = (dec l).2.1 := by
  unfold decInt at h ⊢
  simp only at h ⊢
  split at h
  · rename_i hc; exact (hc h).elim
  · rename_i hc
    rw [if_neg hc]
    refine ⟨?_, by simpa using hc, ?_⟩
    · split <;> (simp only [intCode]; split <;> omega)
    · split <;> rfl
theorem uintB_decInt {l : List UInt8} (h : (decInt l).2.2 = 0) : uintB (intCode (decInt l).1) ++ l.drop (decInt l).2.1 = l := by
  obtain ⟨h1, h2, h3⟩ := intCode_decInt h
  rw [h1, h3, uintB_dec h2]
theorem encInts_dec : ∀ (n : Nat) {l : List UInt8}, (decInts n l).2.2 = 0 → encInts (decInts n l).1 ++ (decInts n l).2.1 = l ∧ (decInts n l).1.length = n ∧ (decInts n l).1.all inR = true
  | 0, l, _ => by simp [decInts, encInts]
  | n + 1, l, h => by
    rw [decInts] at h ⊢
    simp only at h ⊢
    split at h
    · rename_i hc; exact (hc h).elim
    · rename_i hc
      rw [if_neg hc]
      have hc0 : (decInt l).2.2 = 0 := by simpa using hc
      split at h
      · rename_i h2; exact (h2 h).elim
      · rename_i h2
        rw [if_neg h2]
        obtain ⟨i1, i2, i3⟩ := encInts_dec n (l := l.drop (decInt l).2.1) (by simpa using h2)
        refine ⟨?_, by simp [i2], by rw [List.all_cons, decInt_bound hc0, i3]; rfl⟩
        show uintB _ ++ encInts _ ++ _ = _
        rw [List.append_assoc, i1, uintB_decInt hc0]
theorem decInt_uintB {n : Int} (hn : inR n = true) (r : List UInt8) : decInt (uintB (intCode n) ++ r) = (n, (uintB (intCode n)).length, 0) := by
  have hd := dec_uintB (intCode_le hn) r
  unfold decInt
  simp only [hd]
  rw [if_neg (by simp)]
  unfold intCode
  by_cases h0 : 0 ≤ n
  · rw [if_pos h0, if_pos (by omega)]
    have : (((2 * n).toNat / 2 : Nat) : Int) = n := by omega
    rw [this]
  · rw [if_neg h0, if_neg (by omega)]
    have : (-(((-2 * n - 1).toNat / 2 : Nat) + 1 : Int)) = n := by omega
    rw [this]
theorem decInts_encInts : ∀ (l : List Int) (r : List UInt8), l.all inR = true → decInts l.length (encInts l ++ r) = (l, r, 0)
  | [], r, _ => rfl
  | n :: l, r, h => by
    simp only [List.all_cons, Bool.and_eq_true] at h
    have e : encInts (n :: l) ++ r = uintB (intCode n) ++ (encInts l ++ r) := by simp [encInts]
    rw [e, List.length_cons, decInts]
    simp only [decInt_uintB h.1]
    rw [if_neg (by simp), List.drop_left, decInts_encInts l r h.2]
    simp
/-! The laws. -/
theorem intsB_app {l : List Int} (hl : l.length ≤ 100000) (h : l.all inR = true) (r : List UInt8) : intsB l.length (appInts [] l ++ r) = (l, r, 0) := by
  have hn : l.length ≤ 4611686018427387904 := by omega
  have e : appInts [] l ++ r = uintB l.length ++ (encInts l ++ r) := by rw [appInts, if_pos h]; simp
  have hd := dec_uintB hn (encInts l ++ r)
  rw [e, intsB]
  simp only [hd]
  rw [if_neg (by simp), if_neg (by unfold mx; split <;> omega), List.drop_left, decInts_encInts l r h]
theorem strB_app {s : List UInt8} (hl : s.length ≤ 100000) (r : List UInt8) : strB s.length (appStr [] s ++ r) = (s, r, 0) := by
  have hn : s.length ≤ 4611686018427387904 := by omega
  have e : appStr [] s ++ r = uintB s.length ++ (s ++ r) := by simp [appStr]
  have hd := dec_uintB hn (s ++ r)
  rw [e, strB]
  simp only [hd]
  rw [if_neg (by simp), if_neg (by unfold mx; split <;> omega), List.drop_left, if_neg (by simp), List.take_left, List.drop_left]
theorem openB_app {p : List UInt8} (hp : p.length ≤ 100000) (r : List UInt8) : openB (sealB p ++ r) = (p, r, 0) := by
  have hn : p.length ≤ 4611686018427387904 := by omega
  have e : sealB p ++ r = uintB p.length ++ (p ++ (sumB (crc (uintB p.length ++ p)) ++ r)) := by simp [sealB]
  have hd := dec_uintB hn (p ++ (sumB (crc (uintB p.length ++ p)) ++ r))
  rw [openB, e]
  simp only [hd]
  rw [if_neg (by simp), if_neg (by simp [sumB]; omega)]
  have e2 : uintB p.length ++ (p ++ (sumB (crc (uintB p.length ++ p)) ++ r)) = (uintB p.length ++ p) ++ (sumB (crc (uintB p.length ++ p)) ++ r) := by simp
  have e3 : (uintB p.length).length + p.length = (uintB p.length ++ p).length := by simp
  rw [e2, e3, List.drop_left, List.take_left]
  have e4 : (sumB (crc (uintB p.length ++ p)) ++ r).take 4 = sumB (crc (uintB p.length ++ p)) := by
    rw [List.take_append_of_le_length (by simp [sumB]), List.take_of_length_le (by simp [sumB])]
  rw [e4, if_pos rfl, List.drop_left]
  have e5 : ((uintB p.length ++ p) ++ (sumB (crc (uintB p.length ++ p)) ++ r)).drop ((uintB p.length ++ p).length + 4) = r := by
    rw [← List.drop_drop, List.drop_left]; rfl
  rw [e5]
theorem app_intsB {m : Int} {l : List UInt8} (h : (intsB m l).2.2 = 0) : appInts [] (intsB m l).1 ++ (intsB m l).2.1 = l ∧ (intsB m l).1.all inR = true := by
  unfold intsB at h ⊢
  split at h
  · rename_i hc; exact (hc h).elim
  · rename_i hc
    rw [if_neg hc]
    split at h
    · simp at h
    · rename_i h2
      rw [if_neg h2]
      obtain ⟨i1, i2, i3⟩ := encInts_dec _ h
      rw [appInts, if_pos i3, i2]
      refine ⟨?_, i3⟩
      rw [List.nil_append, List.append_assoc, i1, uintB_dec (by simpa using hc)]
theorem app_strB {m : Int} {l : List UInt8} (h : (strB m l).2.2 = 0) : appStr [] (strB m l).1 ++ (strB m l).2.1 = l := by
  unfold strB at h ⊢
  split at h
  · rename_i hc; exact (hc h).elim
  · rename_i hc
    rw [if_neg hc]
    split at h
    · simp at h
    · rename_i h2
      rw [if_neg h2]
      split at h
      · simp at h
      · rename_i h3
        rw [if_neg h3]
        simp only [appStr, List.nil_append]
        have : ((l.drop (dec l).2.1).take (dec l).1).length = (dec l).1 := by rw [List.length_take]; omega
        rw [this, List.append_assoc, List.take_append_drop, uintB_dec (by simpa using hc)]
theorem app_openB {l : List UInt8} (h : (openB l).2.2 = 0) : sealB (openB l).1 ++ (openB l).2.1 = l := by
  unfold openB at h ⊢
  simp only at h ⊢
  split at h
  · rename_i hc; exact (hc h).elim
  · rename_i hc
    rw [if_neg hc]
    have hd0 : (dec l).2.2 = 0 := by simpa using hc
    have hs := dec_size hd0
    have hu := uintB_dec hd0
    split at h
    · simp at h
    · rename_i h2
      rw [if_neg h2]
      split at h
      · rename_i h3
        rw [if_pos h3]
        simp only
        generalize hk : (dec l).2.1 = k at *
        generalize hn : (dec l).1 = n at *
        have hkl : (uintB n).length = k := by
          have := congrArg List.length hu
          simp at this; omega
        have hp : ((l.take (k + n)).drop k).length = n := by simp; omega
        have ht : uintB n ++ (l.take (k + n)).drop k = l.take (k + n) := by
          have e1 : l.take k = uintB n := by rw [← hu, ← hkl, List.take_left]
          have e2 : (l.take (k + n)).take k = l.take k := by rw [List.take_take, Nat.min_eq_left (by omega)]
          rw [← e1, ← e2, List.take_append_drop]
        rw [sealB]
        simp only [hp, ht, ← h3]
        have e9 : l.drop (k + n + 4) = (l.drop (k + n)).drop 4 := by rw [List.drop_drop]
        rw [e9, List.append_assoc, List.take_append_drop, List.take_append_drop]
      · simp at h
end Go.Fr
