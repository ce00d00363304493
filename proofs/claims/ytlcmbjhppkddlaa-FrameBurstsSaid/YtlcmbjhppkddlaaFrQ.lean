/- The checksum of bits: bursts. -/
import Derived.Test.YtlcmbjhppkddlaaFrP
namespace Go.Fr
open Go.Fw

theorem crcBit_xor (a b : BitVec 32) : crcBit (a ^^^ b) = crcBit a ^^^ crcBit b := by
  unfold crcBit
  rw [BitVec.getLsbD_xor]
  cases ha : a.getLsbD 0 <;> cases hb : b.getLsbD 0 <;> simp [BitVec.ushiftRight_xor_distrib]
  · rw [BitVec.xor_assoc]
  · rw [BitVec.xor_assoc, BitVec.xor_comm (b >>> 1), BitVec.xor_assoc]
  · apply BitVec.eq_of_getLsbD_eq
    intro i hi
    simp only [BitVec.getLsbD_xor]
    cases (a >>> 1).getLsbD i <;> cases (b >>> 1).getLsbD i <;> cases (0xEDB88320#32).getLsbD i <;> rfl
theorem crcBit_zero : crcBit 0#32 = 0#32 := by decide
theorem crcBit_inj0 {a : BitVec 32} (h : crcBit a = 0#32) : a = 0#32 := by
  unfold crcBit at h
  split at h
  · rename_i h0
    have h31 : ((a >>> 1) ^^^ 0xEDB88320#32).getLsbD 31 = true := by
      rw [BitVec.getLsbD_xor, BitVec.getLsbD_ushiftRight]
      have : a.getLsbD (1 + 31) = false := BitVec.getLsbD_of_ge _ _ (by omega)
      rw [this]; decide
    rw [h] at h31; simp at h31
  · rename_i h0
    apply BitVec.eq_of_getLsbD_eq
    intro i hi
    rcases i with _ | i
    · simpa using h0
    · have : (a >>> 1).getLsbD i = false := by rw [h]; simp
      rw [BitVec.getLsbD_ushiftRight, Nat.add_comm] at this
      rw [this]; simp
theorem crcBits_xor : ∀ (n : Nat) (a b : BitVec 32), crcBits n (a ^^^ b) = crcBits n a ^^^ crcBits n b
  | 0, _, _ => rfl
  | n + 1, a, b => by rw [crcBits, crcBits, crcBits, crcBit_xor, crcBits_xor n]
theorem crcBits_zero : ∀ n : Nat, crcBits n 0#32 = 0#32
  | 0 => rfl
  | n + 1 => by rw [crcBits, crcBit_zero, crcBits_zero n]
theorem crcBits_inj0 : ∀ (n : Nat) {a : BitVec 32}, crcBits n a = 0#32 → a = 0#32
  | 0, _, h => h
  | n + 1, _, h => crcBit_inj0 (crcBits_inj0 n h)
theorem xor_zero_iff {a b : BitVec 32} (h : a ^^^ b = 0#32) : a = b := by
  have : a ^^^ b ^^^ b = 0#32 ^^^ b := by rw [h]
  simpa [BitVec.xor_assoc] using this
theorem crcBits_inj {n : Nat} {a b : BitVec 32} (h : crcBits n a = crcBits n b) : a = b := by
  apply xor_zero_iff
  apply crcBits_inj0 n
  rw [crcBits_xor, h, BitVec.xor_self]
theorem crcBits_add : ∀ (m n : Nat) (a : BitVec 32), crcBits (m + n) a = crcBits n (crcBits m a)
  | 0, n, a => by simp [crcBits]
  | m + 1, n, a => by rw [show m + 1 + n = (m + n) + 1 by omega, crcBits, crcBits, crcBits_add m n]

/-- Bits fed one after the other. -/
def feed (r : BitVec 32) : List Bool → BitVec 32
  | [] => r
  | x :: xs => feed (crcBit (r ^^^ (if x then 1#32 else 0#32))) xs
def bitsW : Nat → BitVec 32 → List Bool
  | 0, _ => []
  | n + 1, w => w.getLsbD 0 :: bitsW n (w >>> 1)
theorem bitsW_length : ∀ (n : Nat) (w : BitVec 32), (bitsW n w).length = n
  | 0, _ => rfl
  | n + 1, w => by simp [bitsW, bitsW_length n]
theorem bitsW_get : ∀ (n : Nat) (w : BitVec 32) (i : Nat) (h : i < (bitsW n w).length), (bitsW n w)[i] = w.getLsbD i
  | 0, _, i, h => by simp [bitsW] at h
  | n + 1, w, 0, h => rfl
  | n + 1, w, i + 1, h => by
    simp only [bitsW, List.getElem_cons_succ]
    rw [bitsW_get n]; simp [Nat.add_comm]
theorem feed_append : ∀ (xs ys : List Bool) (r : BitVec 32), feed r (xs ++ ys) = feed (feed r xs) ys
  | [], _, _ => rfl
  | x :: xs, ys, r => by rw [List.cons_append, feed, feed, feed_append xs]
/-- n bits fed are n bits put in ahead. -/
theorem feed_bitsW : ∀ (n : Nat) (w r : BitVec 32), (∀ i, n ≤ i → w.getLsbD i = false) → feed r (bitsW n w) = crcBits n (r ^^^ w)
  | 0, w, r, h => by
    have : w = 0#32 := BitVec.eq_of_getLsbD_eq (fun i hi => by rw [h i (Nat.zero_le _)]; simp)
    subst this; simp [bitsW, feed, crcBits]
  | n + 1, w, r, h => by
    rw [bitsW, feed, feed_bitsW n (w >>> 1) _ (fun i hi => by rw [BitVec.getLsbD_ushiftRight]; exact h _ (by omega)), crcBits]
    congr 1
    have hw : w = (if w.getLsbD 0 then 1#32 else 0#32) ^^^ ((w >>> 1) <<< 1) := by
      apply BitVec.eq_of_getLsbD_eq
      intro i hi
      rw [BitVec.getLsbD_xor, BitVec.getLsbD_shiftLeft, BitVec.getLsbD_ushiftRight]
      rcases i with _ | i
      · cases w.getLsbD 0 <;> simp
      · have e : 1 + (i + 1 - 1) = i + 1 := by omega
        rw [e]
        have : (if w.getLsbD 0 = true then 1#32 else 0#32).getLsbD (i + 1) = false := by
          split
          · rw [BitVec.getLsbD_one]; simp
          · simp
        rw [this]
        simp [hi]
    have h2 : crcBit ((w >>> 1) <<< 1) = w >>> 1 := by
      unfold crcBit
      have : ((w >>> 1) <<< 1).getLsbD 0 = false := by simp
      rw [this]
      apply BitVec.eq_of_getLsbD_eq
      intro i hi
      simp only [Bool.false_eq_true, if_false, BitVec.getLsbD_ushiftRight, BitVec.getLsbD_shiftLeft]
      have e : 1 + i - 1 = i := by omega
      rw [e]
      by_cases h31 : 1 + i < 32
      · simp [h31]
      · have : w.getLsbD (1 + i) = false := BitVec.getLsbD_of_ge _ _ (by omega)
        simp [h31, this]
    conv => rhs; rw [hw]
    have e := crcBit_xor (r ^^^ (if w.getLsbD 0 then 1#32 else 0#32)) ((w >>> 1) <<< 1)
    rw [h2] at e
    rw [← BitVec.xor_assoc]
    exact e.symm
theorem feed_false : ∀ (n : Nat) (r : BitVec 32), feed r (List.replicate n false) = crcBits n r
  | 0, r => rfl
  | n + 1, r => by rw [List.replicate_succ, feed, feed_false n, crcBits]; simp
theorem feed_xor : ∀ (xs es : List Bool) (r d : BitVec 32), xs.length = es.length → feed (r ^^^ d) (List.zipWith xor xs es) = feed r xs ^^^ feed d es
  | [], [], r, d, _ => rfl
  | x :: xs, e :: es, r, d, h => by
    rw [List.zipWith_cons_cons, feed, feed, feed, ← feed_xor xs es _ _ (by simpa using h), ← crcBit_xor]
    congr 2
    apply BitVec.eq_of_getLsbD_eq
    intro i hi
    simp only [BitVec.getLsbD_xor]
    generalize r.getLsbD i = p
    generalize d.getLsbD i = q
    have hx : ∀ c : Bool, (if c = true then 1#32 else 0#32).getLsbD i = (c && decide (i = 0)) := by
      intro c; cases c <;> simp
    rw [hx, hx, hx]
    cases p <;> cases q <;> cases x <;> cases e <;> cases (decide (i = 0)) <;> rfl
  | [], _ :: _, _, _, h => by simp at h
  | _ :: _, [], _, _, h => by simp at h

/-! Bytes as bits. -/
def bitsB (l : List UInt8) : List Bool := l.flatMap fun b => bitsW 8 (b.toBitVec.zeroExtend 32)
def bitAt (l : List UInt8) (j : Nat) : Bool := (l.getD (j / 8) 0).toBitVec.getLsbD (j % 8)
theorem bitsB_length (l : List UInt8) : (bitsB l).length = 8 * l.length := by
  induction l with
  | nil => rfl
  | cons b l ih => simp only [bitsB, List.flatMap_cons, List.length_append, bitsW_length, List.length_cons] at ih ⊢; omega
theorem bitsB_get : ∀ (l : List UInt8) (j : Nat) (h : j < (bitsB l).length), (bitsB l)[j] = bitAt l j
  | [], j, h => by simp [bitsB] at h
  | b :: l, j, h => by
    have e : bitsB (b :: l) = bitsW 8 (b.toBitVec.zeroExtend 32) ++ bitsB l := rfl
    simp only [e]
    rcases Nat.lt_or_ge j 8 with h8 | h8
    · rw [List.getElem_append_left (by rw [bitsW_length]; exact h8), bitsW_get]
      unfold bitAt
      rw [Nat.div_eq_of_lt h8, Nat.mod_eq_of_lt h8]
      simp [BitVec.getLsbD_setWidth]; omega
    · have hj : j - 8 < (bitsB l).length := by rw [bitsB_length] at h ⊢; simp at h; omega
      rw [List.getElem_append_right (by rw [bitsW_length]; exact h8)]
      simp only [bitsW_length]
      rw [bitsB_get l (j - 8) hj]
      unfold bitAt
      have e1 : j / 8 = (j - 8) / 8 + 1 := by omega
      have e2 : j % 8 = (j - 8) % 8 := by omega
      rw [e1, e2]; rfl
theorem crcRun_feed : ∀ (l : List UInt8) (r : BitVec 32), crcRun r l = feed r (bitsB l)
  | [], r => rfl
  | b :: l, r => by
    have e : bitsB (b :: l) = bitsW 8 (b.toBitVec.zeroExtend 32) ++ bitsB l := rfl
    have e2 : crcRun r (b :: l) = crcRun (crcByte r b) l := rfl
    rw [e, feed_append, e2, crcRun_feed l, feed_bitsW 8, crcByte]
    intro i hi
    simp [BitVec.getLsbD_setWidth]
    intro _; exact BitVec.getLsbD_of_ge _ _ hi
theorem bitsW_add : ∀ (m n : Nat) (w : BitVec 32), bitsW (m + n) w = bitsW m w ++ bitsW n (w >>> m)
  | 0, n, w => by simp [bitsW]
  | m + 1, n, w => by
    rw [show m + 1 + n = (m + n) + 1 by omega, bitsW, bitsW, bitsW_add m n, List.cons_append]
    congr 3
    apply BitVec.eq_of_getLsbD_eq
    intro i hi
    simp only [BitVec.getLsbD_ushiftRight]
    congr 1; omega
theorem bitsW_byte (x : BitVec 32) (k : Nat) : bitsW 8 ((byteN (x.toNat / 2 ^ k)).toBitVec.zeroExtend 32) = bitsW 8 (x >>> k) := by
  apply List.ext_getElem (by simp [bitsW_length])
  intro i h1 h2
  rw [bitsW_length] at h2
  rw [bitsW_get, bitsW_get, BitVec.getLsbD_ushiftRight]
  have : (byteN (x.toNat / 2 ^ k)).toBitVec = BitVec.ofNat 8 (x.toNat / 2 ^ k) := rfl
  rw [this]
  simp [BitVec.getLsbD_setWidth, BitVec.getLsbD_ofNat, Nat.testBit_div_two_pow]
  rw [BitVec.getLsbD, Nat.add_comm]
  have : i < 32 := by omega
  simp [this, h2]
theorem bitsB_sumB (x : BitVec 32) : bitsB (sumB x) = bitsW 32 x := by
  have h0 := bitsW_byte x 0
  have h1 := bitsW_byte x 8
  have h2 := bitsW_byte x 16
  have h3 := bitsW_byte x 24
  simp only [Nat.pow_zero, Nat.div_one, BitVec.ushiftRight_zero, show (2 : Nat) ^ 8 = 256 from rfl, show (2 : Nat) ^ 16 = 65536 from rfl, show (2 : Nat) ^ 24 = 16777216 from rfl] at h0 h1 h2 h3
  have e : bitsB (sumB x) = bitsW 8 x ++ (bitsW 8 (x >>> 8) ++ (bitsW 8 (x >>> 16) ++ (bitsW 8 (x >>> 24) ++ []))) := by
    rw [← h0, ← h1, ← h2, ← h3]; rfl
  have e2 := bitsW_add 8 24 x
  have e3 := bitsW_add 8 16 (x >>> 8)
  have e4 := bitsW_add 8 8 (x >>> 8 >>> 8)
  have s1 : x >>> 8 >>> 8 = x >>> 16 := (BitVec.shiftRight_add x 8 8).symm
  have s2 : x >>> 8 >>> 8 >>> 8 = x >>> 24 := by rw [s1]; exact (BitVec.shiftRight_add x 16 8).symm
  rw [s2] at e4
  rw [s1] at e3 e4
  rw [e, List.append_nil, ← e4]
  exact (congrArg (bitsW 8 x ++ ·) e3.symm).trans e2.symm
/-- A valid frame's whole run. -/
theorem crc_valid (m : List UInt8) (r : BitVec 32) : crcRun r (m ++ sumB (~~~ (crcRun r m))) = crcBits 32 (BitVec.allOnes 32) := by
  rw [crcRun, List.foldl_append, ← crcRun, ← crcRun, crcRun_feed (sumB _), bitsB_sumB, feed_bitsW 32 _ _ (fun i hi => BitVec.getLsbD_of_ge _ _ hi)]
  congr 1
  apply BitVec.eq_of_getLsbD_eq
  intro i hi
  rw [BitVec.getLsbD_xor, BitVec.getLsbD_not, BitVec.getLsbD_allOnes]
  simp only [hi, decide_true, Bool.true_and]
  generalize BitVec.getLsbD _ i = p
  cases p <;> rfl
theorem bitsB_inj {a b : List UInt8} (hl : a.length = b.length) (h : ∀ j, j < 8 * a.length → bitAt a j = bitAt b j) : a = b := by
  apply List.ext_getElem hl
  intro i h1 h2
  apply UInt8.toBitVec_inj.1
  apply BitVec.eq_of_getLsbD_eq
  intro t ht
  have := h (8 * i + t) (by omega)
  unfold bitAt at this
  have e1 : (8 * i + t) / 8 = i := by omega
  have e2 : (8 * i + t) % 8 = t := by omega
  rw [e1, e2, List.getD_eq_getElem?_getD, List.getD_eq_getElem?_getD, List.getElem?_eq_getElem h1, List.getElem?_eq_getElem h2] at this
  exact this
/-- BURSTS: a frame in which bits within 32 bits have been changed is not valid. -/
theorem burst_rejects {m m' s' b' : List UInt8} {a k : Nat} {w : BitVec 32} (hk : k ≤ 32) (hak : a + k ≤ 8 * (m ++ sumB (crc m)).length) (hw : ∀ i, k ≤ i → w.getLsbD i = false) (hw0 : w ≠ 0#32)
    (hlen : b'.length = (m ++ sumB (crc m)).length) (hbits : ∀ j, j < 8 * b'.length → bitAt b' j = (bitAt (m ++ sumB (crc m)) j ^^ (decide (a ≤ j) && decide (j < a + k) && w.getLsbD (j - a)))) (hb : b' = m' ++ s') :
    s' ≠ sumB (crc m') := by
  intro hs
  have h1 : crcRun 0xFFFFFFFF#32 (m ++ sumB (crc m)) = crcBits 32 (BitVec.allOnes 32) := crc_valid m _
  have h2 : crcRun 0xFFFFFFFF#32 b' = crcBits 32 (BitVec.allOnes 32) := by rw [hb, hs]; exact crc_valid m' _
  generalize m ++ sumB (crc m) = b at *
  let E : List Bool := List.replicate a false ++ (bitsW k w ++ List.replicate (8 * b.length - (a + k)) false)
  have hEl : E.length = 8 * b.length := by simp only [E, List.length_append, List.length_replicate, bitsW_length]; omega
  have hE : ∀ (j : Nat) (h : j < E.length), E[j] = (decide (a ≤ j) && decide (j < a + k) && w.getLsbD (j - a)) := by
    intro j h
    simp only [E]
    rcases Nat.lt_or_ge j a with h1 | h1
    · rw [List.getElem_append_left (by simpa using h1)]
      have : ¬ a ≤ j := by omega
      simp [this]
    · rw [List.getElem_append_right (by simpa using h1)]
      simp only [List.length_replicate]
      rcases Nat.lt_or_ge (j - a) k with h2 | h2
      · rw [List.getElem_append_left (by rw [bitsW_length]; exact h2), bitsW_get]
        have : j < a + k := by omega
        simp [h1, this]
      · rw [List.getElem_append_right (by rw [bitsW_length]; exact h2)]
        have : ¬ j < a + k := by omega
        simp [this]
  have hz : bitsB b' = List.zipWith xor (bitsB b) E := by
    apply List.ext_getElem
    · simp only [List.length_zipWith, bitsB_length, hEl, hlen]; omega
    · intro j h1 h2
      have hj : j < 8 * b'.length := by rw [← bitsB_length]; exact h1
      rw [bitsB_get, List.getElem_zipWith, bitsB_get, hE, hbits j hj]
  rw [crcRun_feed] at h1 h2
  rw [hz, show (0xFFFFFFFF#32) = 0xFFFFFFFF#32 ^^^ 0#32 by simp, feed_xor _ _ _ _ (by rw [bitsB_length, hEl]), h1] at h2
  have h3 : feed 0#32 E = 0#32 := by
    have : crcBits 32 (BitVec.allOnes 32) ^^^ (crcBits 32 (BitVec.allOnes 32) ^^^ feed 0#32 E) = crcBits 32 (BitVec.allOnes 32) ^^^ crcBits 32 (BitVec.allOnes 32) := by rw [h2]
    rw [← BitVec.xor_assoc, BitVec.xor_self, BitVec.zero_xor] at this
    exact this
  simp only [E] at h3
  rw [feed_append, feed_append, feed_false, feed_false, crcBits_zero, feed_bitsW k w _ hw, BitVec.zero_xor] at h3
  exact hw0 (crcBits_inj0 _ (crcBits_inj0 _ h3))
end Go.Fr
