/- Bursts: what Open answers to a frame that has been changed. -/
import Derived.Test.YtlcmbjhppkddlaaFrQ
namespace Go.Fr
open Go.Fw

/-- The first k bits. -/
def lowW (k n : Nat) : BitVec 32 := BitVec.ofNat 32 (n % 2 ^ k)
theorem lowW_get (k n i : Nat) (hk : k ≤ 32) : (lowW k n).getLsbD i = (decide (i < k) && n.testBit i) := by
  unfold lowW
  rw [BitVec.getLsbD_ofNat, Nat.testBit_mod_two_pow]
  by_cases h : i < k
  · have : i < 32 := by omega
    simp [h, this]
  · simp [h]
/-- One bit turned over. -/
theorem bitAt_flip {l : List UInt8} {i t : Nat} (hi : i < l.length) (ht : t < 8) (j : Nat) : bitAt (l.set i (l[i] ^^^ (byteN (2 ^ t)))) j = (bitAt l j ^^ decide (j = 8 * i + t)) := by
  unfold bitAt
  rw [List.getD_eq_getElem?_getD, List.getD_eq_getElem?_getD, List.getElem?_set]
  by_cases h : i = j / 8
  · subst h
    rw [if_pos rfl, if_pos hi, List.getElem?_eq_getElem hi]
    simp only [Option.getD_some, UInt8.toBitVec_xor, BitVec.getLsbD_xor]
    congr 1
    have e : (byteN (2 ^ t)).toBitVec = BitVec.ofNat 8 (2 ^ t) := rfl
    rw [e, BitVec.getLsbD_ofNat, Nat.testBit_two_pow]
    have : j % 8 < 8 := Nat.mod_lt _ (by omega)
    by_cases h : t = j % 8
    · have h2 : j = 8 * (j / 8) + t := by omega
      simp [this, h]
      omega
    · have h2 : ¬ j = 8 * (j / 8) + t := by omega
      simp [h, h2]
  · rw [if_neg h]
    have h2 : ¬ j = 8 * i + t := by omega
    simp [h2]
/-- One more bit of the burst. -/
theorem burst_step {B : List UInt8} {A k n : Nat} {b : List UInt8} (hb : ∀ j, bitAt b j = (bitAt B j ^^ (decide (A ≤ j) && decide (j < A + k) && n.testBit (j - A)))) (hlt : (A + k) / 8 < b.length) (hn : n.testBit k = true) :
    ∀ j, bitAt (b.set ((A + k) / 8) (b[(A + k) / 8] ^^^ (byteN (2 ^ ((A + k) % 8))))) j = (bitAt B j ^^ (decide (A ≤ j) && decide (j < A + (k + 1)) && n.testBit (j - A))) := by
  intro j
  have e : 8 * ((A + k) / 8) + (A + k) % 8 = A + k := by omega
  rw [bitAt_flip hlt (Nat.mod_lt _ (by omega)), hb, e, Bool.xor_assoc]
  congr 1
  by_cases h : j = A + k
  · subst h; simp [hn]
  · have h1 : decide (j < A + (k + 1)) = decide (j < A + k) := by
      apply decide_eq_decide.2; omega
    simp [h, h1]
theorem burst_skip {B : List UInt8} {A k n : Nat} {b : List UInt8} (hb : ∀ j, bitAt b j = (bitAt B j ^^ (decide (A ≤ j) && decide (j < A + k) && n.testBit (j - A)))) (hn : n.testBit k = false) :
    ∀ j, bitAt b j = (bitAt B j ^^ (decide (A ≤ j) && decide (j < A + (k + 1)) && n.testBit (j - A))) := by
  intro j
  rw [hb]
  congr 1
  by_cases h : j = A + k
  · subst h; simp [hn]
  · have h1 : decide (j < A + (k + 1)) = decide (j < A + k) := by
      apply decide_eq_decide.2; omega
    simp [h1]
/-- What Open answers. -/
theorem open_burst {p b : List UInt8} (hp : p.length ≤ 1000000) {at_ k n : Nat} (hk : k ≤ 32) (hak : at_ + k ≤ 8 * (p.length + 4)) (hlen : b.length = (sealB p).length)
    (hb : ∀ j, bitAt b j = (bitAt (sealB p) j ^^ (decide (8 * (uintB p.length).length + at_ ≤ j) && decide (j < 8 * (uintB p.length).length + at_ + k) && n.testBit (j - (8 * (uintB p.length).length + at_))))) :
    ((∃ i, i < k ∧ n.testBit i = true) → openB b = ([], [], 21)) ∧ ((∀ i, i < k → n.testBit i = false) → openB b = (p, [], 0)) := by
  have hs : sealB p = uintB p.length ++ (p ++ sumB (crc (uintB p.length ++ p))) := by simp [sealB]
  have hsl : (sealB p).length = (uintB p.length).length + p.length + 4 := by rw [hs]; simp [sumB]; omega
  have hpre : b = uintB p.length ++ b.drop (uintB p.length).length := by
    have h1 : b.take (uintB p.length).length = uintB p.length := by
      apply bitsB_inj
      · simp; omega
      · intro j hj
        have hj' : j / 8 < (uintB p.length).length := by simp at hj; omega
        have hx : ∀ l : List UInt8, (uintB p.length).length ≤ l.length → bitAt (l.take (uintB p.length).length) j = bitAt l j := by
          intro l hl
          unfold bitAt
          rw [List.getD_eq_getElem?_getD, List.getD_eq_getElem?_getD, List.getElem?_take, if_pos hj']
        rw [hx b (by omega), hb]
        have h2 : ¬ (8 * (uintB p.length).length + at_ ≤ j) := by omega
        simp only [h2, decide_false, Bool.false_and, Bool.xor_false]
        rw [← hx (sealB p) (by omega), hs, List.take_left]
    conv => lhs; rw [← List.take_append_drop (uintB p.length).length b, h1]
  have hd : dec b = (p.length, (uintB p.length).length, 0) := by
    rw [hpre]; exact dec_uintB (by omega) _
  have hsum : sealB p = (uintB p.length ++ p) ++ sumB (crc (uintB p.length ++ p)) := by rw [hs]; simp
  constructor
  · rintro ⟨i, hi, hni⟩
    rw [openB]; simp only [hd]
    rw [if_neg (by simp), if_neg (by omega), if_neg]
    intro he
    rw [List.take_of_length_le (by simp; omega)] at he
    have hw : ∀ i, (lowW k n).getLsbD i = (decide (i < k) && n.testBit i) := fun i => lowW_get k n i hk
    refine burst_rejects (m := uintB p.length ++ p) (m' := b.take ((uintB p.length).length + p.length)) (s' := b.drop ((uintB p.length).length + p.length)) (b' := b) (a := 8 * (uintB p.length).length + at_) (k := k) (w := lowW k n) hk ?_ ?_ ?_ ?_ ?_ (List.take_append_drop _ _).symm he
    · rw [← hsum, hsl]; omega
    · intro i hi; rw [hw]; simp; omega
    · intro h0
      have := hw i
      rw [h0] at this
      simp [hi, hni] at this
    · rw [← hsum, hlen]
    · intro j hj
      rw [hb, hsum, hw]
      congr 1
      by_cases h1 : 8 * (uintB p.length).length + at_ ≤ j
      · by_cases h2 : j < 8 * (uintB p.length).length + at_ + k
        · have h3 : j - (8 * (uintB p.length).length + at_) < k := by omega
          simp [h1, h2, h3]
        · simp [h2]
      · simp [h1]
  · intro hz
    have hbs : b = sealB p := by
      apply bitsB_inj hlen
      intro j hj
      rw [hb]
      by_cases h1 : 8 * (uintB p.length).length + at_ ≤ j
      · by_cases h2 : j < 8 * (uintB p.length).length + at_ + k
        · rw [hz _ (by omega)]; simp
        · simp [h2]
      · simp [h1]
    subst hbs
    rw [openB]; simp only [hd]
    rw [if_neg (by simp), if_neg (by omega)]
    have ht : (sealB p).take ((uintB p.length).length + p.length) = uintB p.length ++ p := by
      rw [hsum, List.take_append_of_le_length (by simp), List.take_of_length_le (by simp)]
    have hdr : (sealB p).drop ((uintB p.length).length + p.length) = sumB (crc (uintB p.length ++ p)) := by
      rw [hsum]; exact List.drop_left' (by simp)
    rw [ht, hdr, if_pos (by simp [sumB])]
    rw [List.drop_left, List.drop_of_length_le (by omega)]
end Go.Fr
