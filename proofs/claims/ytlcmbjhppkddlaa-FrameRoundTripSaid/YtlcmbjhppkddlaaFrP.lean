/- Plain laws: the encoding of numbers and of frames. -/
import Derived.Test.YtlcmbjhppkddlaaFrS
namespace Go.Fr
open Go.Fw

theorem valB_uintB (n : Nat) : valB (uintB n) = n := by
  induction n using Nat.strongRecOn with
  | _ n ih =>
    by_cases h : n < 128
    · rw [uintB_lt h]; simp only [valB, byteN_toNat]; omega
    · rw [uintB_ge (by omega)]; simp only [valB, byteN_toNat, ih (n / 128) (by omega)]; omega

/-- The shape of a number's encoding. -/
theorem uintB_shape (n : Nat) : ∃ init c, uintB n = init ++ [c] ∧ (∀ b ∈ init, ¬ b.toNat < 128) ∧ c.toNat < 128 ∧ (c.toNat = 0 → init = []) := by
  induction n using Nat.strongRecOn with
  | _ n ih =>
    by_cases h : n < 128
    · exact ⟨[], byteN n, by rw [uintB_lt h]; rfl, by simp, by rw [byteN_toNat]; omega, fun _ => rfl⟩
    · obtain ⟨init, c, e, h1, h2, h3⟩ := ih (n / 128) (by omega)
      refine ⟨byteN (n % 128 + 128) :: init, c, by rw [uintB_ge (by omega), e]; rfl, ?_, h2, fun hc => ?_⟩
      · intro b hb
        rcases List.mem_cons.1 hb with rfl | hb
        · rw [byteN_toNat]; omega
        · exact h1 b hb
      · have := valB_uintB (n / 128)
        rw [e, h3 hc] at this
        simp [valB, hc] at this
        omega
theorem lead_init : ∀ (init : List UInt8) (f : Nat) (c : UInt8) (r : List UInt8), (∀ b ∈ init, ¬ b.toNat < 128) → c.toNat < 128 → init.length < f → lead f (init ++ c :: r) = init.length
  | [], f + 1, c, r, _, hc, _ => by simp [lead, hc]
  | b :: init, f + 1, c, r, h, hc, hf => by
    have hb := h b (by simp)
    rw [List.cons_append, lead, if_neg hb, lead_init init f c r (fun x hx => h x (by simp [hx])) hc (by simpa using hf)]; rfl
theorem lead_all : ∀ (l : List UInt8) (f : Nat), (∀ b ∈ l, ¬ b.toNat < 128) → l.length ≤ f → lead f l = l.length
  | [], 0, _, _ => rfl
  | [], f + 1, _, _ => rfl
  | b :: l, f + 1, h, hf => by
    rw [lead, if_neg (h b (by simp)), lead_all l f (fun x hx => h x (by simp [hx])) (by simpa using hf)]; rfl
theorem dec_uintB {n : Nat} (hn : n ≤ 4611686018427387904) (r : List UInt8) : dec (uintB n ++ r) = (n, (uintB n).length, 0) := by
  obtain ⟨init, c, e, h1, h2, h3⟩ := uintB_shape n
  have hl := uintB_le9 hn
  have hv := valB_uintB n
  rw [e] at hl hv ⊢
  have hk : init.length ≤ 8 := by simp at hl; omega
  have hld : lead 9 (init ++ [c] ++ r) = init.length := by
    rw [List.append_assoc]; exact lead_init init 9 c r h1 h2 (by omega)
  unfold dec
  simp only [hld]
  have g1 : (init ++ [c] ++ r).getD init.length 0 = c := by simp
  have g2 : (init ++ [c] ++ r).take (init.length + 1) = init ++ [c] := by
    rw [List.take_append_of_le_length (by simp), List.take_of_length_le (by simp)]
  rw [if_neg (by omega), if_neg (by simp), g1, g2, hv, if_neg (by rintro ⟨hc, hp⟩; rw [h3 hc] at hp; simp at hp), if_neg (by omega)]
  simp
theorem dec_short {l : List UInt8} (h : ∀ b ∈ l, ¬ b.toNat < 128) (hl : l.length < 9) : dec l = (0, 0, 22) := by
  have hld := lead_all l 9 h (by omega)
  unfold dec
  simp only [hld]
  rw [if_neg (by omega)]; simp
/-- A proper prefix of a frame is short. -/
theorem open_prefix {p : List UInt8} (hp : p.length ≤ 1000000) {i : Nat} (hi : i < (sealB p).length) : openB ((sealB p).take i) = ([], [], 22) := by
  have hn : p.length ≤ 4611686018427387904 := by omega
  have hs : sealB p = uintB p.length ++ (p ++ sumB (crc (uintB p.length ++ p))) := by simp [sealB]
  have h4 : (sumB (crc (uintB p.length ++ p))).length = 4 := rfl
  rw [hs] at hi ⊢
  generalize sumB (crc (uintB p.length ++ p)) = s at h4 hi
  have hu9 := uintB_le9 hn
  rcases Nat.lt_or_ge i (uintB p.length).length with h | h
  · have e : (uintB p.length ++ (p ++ s)).take i = (uintB p.length).take i := List.take_append_of_le_length (by omega)
    have hd : dec ((uintB p.length).take i) = (0, 0, 22) := by
      obtain ⟨init, c, e, h1, h2, h3⟩ := uintB_shape p.length
      rw [e] at h ⊢ hu9
      simp at h hu9
      rw [List.take_append_of_le_length (by omega)]
      exact dec_short (fun b hb => h1 b (List.mem_of_mem_take hb)) (by simp; omega)
    rw [e, openB]; simp only [hd]; simp
  · have e : (uintB p.length ++ (p ++ s)).take i = uintB p.length ++ (p ++ s).take (i - (uintB p.length).length) := by rw [List.take_append, List.take_of_length_le h]
    have hd := dec_uintB hn ((p ++ s).take (i - (uintB p.length).length))
    rw [e, openB]; simp only [hd]
    simp only [List.length_append] at hi
    rw [if_neg (by simp), if_pos (by simp only [List.length_append, List.length_take]; omega)]
end Go.Fr
