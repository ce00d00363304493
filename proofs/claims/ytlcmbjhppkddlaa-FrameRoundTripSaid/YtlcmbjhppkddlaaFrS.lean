/- Plain functions: what the frame package computes. -/
import Derived.Test.YtlcmbjhppkddlaaFwP
namespace Go.Fr
open Go.Fw

def uintB (n : Nat) : List UInt8 := if n < 128 then [byteN n] else byteN (n % 128 + 128) :: uintB (n / 128)
termination_by n
decreasing_by omega

theorem uintB_lt {n : Nat} (h : n < 128) : uintB n = [byteN n] := by rw [uintB, if_pos h]
theorem uintB_ge {n : Nat} (h : 128 ≤ n) : uintB n = byteN (n % 128 + 128) :: uintB (n / 128) := by rw [uintB, if_neg (by omega)]
theorem uintB_length : ∀ k n : Nat, n < 128 ^ (k + 1) → (uintB n).length ≤ k + 1
  | 0, n, h => by rw [uintB_lt (by simpa using h)]; simp
  | k + 1, n, h => by
    by_cases hn : n < 128
    · rw [uintB_lt hn]; simp
    · rw [uintB_ge (by omega)]
      have := uintB_length k (n / 128) (by rw [Nat.pow_succ] at h; omega)
      simp; omega
theorem uintB_le9 {n : Nat} (h : n ≤ 4611686018427387904) : (uintB n).length ≤ 9 := uintB_length 8 n (by omega)

/-- A signed integer in range. -/
def inR (n : Int) : Bool := decide (-2305843009213693952 ≤ n) && decide (n ≤ 2305843009213693952)
def intCode (n : Int) : Nat := if 0 ≤ n then (2 * n).toNat else (-2 * n - 1).toNat
theorem intCode_le {n : Int} (h : inR n = true) : intCode n ≤ 4611686018427387904 := by
  simp [inR] at h; unfold intCode; split <;> omega

def appUint (b : List UInt8) (n : Int) : List UInt8 := if n < 0 ∨ n > 4611686018427387904 then b else b ++ uintB n.toNat
def appInt (b : List UInt8) (n : Int) : List UInt8 := if inR n then b ++ uintB (intCode n) else b
def encInts : List Int → List UInt8
  | [] => []
  | n :: l => uintB (intCode n) ++ encInts l
def appInts (b : List UInt8) (l : List Int) : List UInt8 := if l.all inR then b ++ uintB l.length ++ encInts l else b
def appStr (b s : List UInt8) : List UInt8 := b ++ uintB s.length ++ s

theorem encInts_length : ∀ l : List Int, l.all inR = true → (encInts l).length ≤ 9 * l.length
  | [], _ => by simp [encInts]
  | n :: l, h => by
    simp only [List.all_cons, Bool.and_eq_true] at h
    have h1 := uintB_le9 (intCode_le h.1)
    have h2 := encInts_length l h.2
    simp [encInts]; omega

/-- How many bytes from 128 on stand ahead, up to f. -/
def lead : Nat → List UInt8 → Nat
  | 0, _ => 0
  | _ + 1, [] => 0
  | f + 1, b :: r => if b.toNat < 128 then 0 else lead f r + 1

def valB : List UInt8 → Nat
  | [] => 0
  | b :: r => b.toNat % 128 + 128 * valB r

def dec (l : List UInt8) : Nat × Nat × Int :=
  let k := lead 9 l
  if k = 9 then (0, 0, 2)
  else if k = l.length then (0, 0, 22)
  else if (l.getD k 0).toNat = 0 ∧ 0 < k then (0, 0, 3)
  else if 4611686018427387904 < valB (l.take (k + 1)) then (0, 0, 2)
  else (valB (l.take (k + 1)), k + 1, 0)

theorem valB_lt : ∀ l : List UInt8, valB l < 128 ^ l.length
  | [] => by simp [valB]
  | b :: r => by
    have := valB_lt r
    simp only [valB, List.length_cons, Nat.pow_succ]
    have h : b.toNat % 128 < 128 := Nat.mod_lt _ (by omega)
    omega

theorem valB_append : ∀ l r : List UInt8, valB (l ++ r) = valB l + 128 ^ l.length * valB r
  | [], r => by simp [valB]
  | b :: l, r => by simp only [List.cons_append, valB, valB_append l r, List.length_cons, Nat.pow_succ, Nat.mul_add]; rw [Nat.add_assoc, ← Nat.mul_assoc, Nat.mul_comm 128 (128 ^ l.length)]

theorem valB_snoc (l : List UInt8) (b : UInt8) : valB (l ++ [b]) = valB l + 128 ^ l.length * (b.toNat % 128) := by simp [valB_append, valB]

theorem lead_le : ∀ f l, lead f l ≤ f
  | 0, _ => by simp [lead]
  | f + 1, [] => by simp [lead]
  | f + 1, b :: r => by simp only [lead]; split <;> (have := lead_le f r; omega)
theorem lead_len : ∀ f l, lead f l ≤ l.length
  | 0, _ => by simp [lead]
  | f + 1, [] => by simp [lead]
  | f + 1, b :: r => by simp only [lead, List.length_cons]; split <;> (have := lead_len f r; omega)
/-- One byte more. -/
theorem lead_step {f : Nat} {l : List UInt8} {k : Nat} (hf : k < f) (hk : k < l.length) (h : lead f l = k + lead (f - k) (l.drop k)) :
    ((l[k]).toNat < 128 → lead f l = k) ∧ (¬ (l[k]).toNat < 128 → lead f l = (k + 1) + lead (f - (k + 1)) (l.drop (k + 1))) := by
  have e1 : f - k = (f - (k + 1)) + 1 := by omega
  have e2 : l.drop k = l[k] :: l.drop (k + 1) := List.drop_eq_getElem_cons hk
  rw [e1, e2] at h
  simp only [lead] at h
  constructor
  · intro hc; rw [if_pos hc] at h; omega
  · intro hc; rw [if_neg hc] at h; omega
theorem lead_end {f : Nat} {l : List UInt8} {k : Nat} (h : lead f l = k + lead (f - k) (l.drop k)) (hk : k = f ∨ k = l.length) : lead f l = k := by
  rcases hk with rfl | rfl
  · rw [Nat.sub_self] at h; simpa [lead] using h
  · rw [List.drop_length] at h
    rw [h]
    cases f - l.length <;> simp [lead]

/-! The checksum. -/
def crcBit (r : BitVec 32) : BitVec 32 := if r.getLsbD 0 then (r >>> 1) ^^^ 0xEDB88320#32 else r >>> 1
def crcBits : Nat → BitVec 32 → BitVec 32
  | 0, r => r
  | n + 1, r => crcBits n (crcBit r)
def crcByte (r : BitVec 32) (b : UInt8) : BitVec 32 := crcBits 8 (r ^^^ (b.toBitVec.zeroExtend 32))
def crcRun (r : BitVec 32) (l : List UInt8) : BitVec 32 := l.foldl crcByte r
theorem crcRun_snoc (r : BitVec 32) {l : List UInt8} {i : Nat} (h : i < l.length) : crcRun r (l.take (i + 1)) = crcBits 8 (crcRun r (l.take i) ^^^ (l[i].toBitVec.zeroExtend 32)) := by
  rw [List.take_succ_eq_append_getElem h, crcRun, List.foldl_append]; rfl
def crc (l : List UInt8) : BitVec 32 := ~~~ (crcRun 0xFFFFFFFF#32 l)
def sumB (r : BitVec 32) : List UInt8 := [byteN r.toNat, byteN (r.toNat / 256), byteN (r.toNat / 65536), byteN (r.toNat / 16777216)]
def sealB (p : List UInt8) : List UInt8 := let b := uintB p.length ++ p; b ++ sumB (crc b)

/-- What Open comes to: payload, rest, error. -/
def openB (l : List UInt8) : List UInt8 × List UInt8 × Int :=
  let d := dec l
  if d.2.2 ≠ 0 then ([], [], d.2.2)
  else if l.length - d.2.1 < 4 ∨ d.1 > l.length - d.2.1 - 4 then ([], [], 22)
  else
    let e := d.2.1 + d.1
    if (l.drop e).take 4 = sumB (crc (l.take e)) then ((l.take e).drop d.2.1, l.drop (e + 4), 0) else ([], [], 21)

/-- What decodeInt comes to. -/
def decInt (l : List UInt8) : Int × Nat × Int :=
  let d := dec l
  if d.2.2 ≠ 0 then (0, 0, d.2.2)
  else if d.1 % 2 = 0 then ((d.1 / 2 : Nat), d.2.1, 0) else (-((d.1 / 2 : Nat) + 1 : Int), d.2.1, 0)

theorem dec_size {l : List UInt8} (h : (dec l).2.2 = 0) : 0 < (dec l).2.1 ∧ (dec l).2.1 ≤ l.length ∧ (dec l).2.1 ≤ 9 ∧ (dec l).1 ≤ 4611686018427387904 := by
  unfold dec at h ⊢
  simp only at h ⊢
  have h1 := lead_le 9 l
  have h2 := lead_len 9 l
  split at h
  · simp at h
  · rename_i e1
    split at h
    · simp at h
    · rename_i e2
      split at h
      · simp at h
      · rename_i e3
        split at h
        · simp at h
        · rename_i e4
          rw [if_neg e1, if_neg e2, if_neg e3, if_neg e4]
          simp only
          omega

theorem dec_err {l : List UInt8} (h : (dec l).2.2 ≠ 0) : (dec l).1 = 0 ∧ (dec l).2.1 = 0 := by
  unfold dec at h ⊢
  simp only at h ⊢
  split
  · simp
  · split
    · simp
    · split
      · simp
      · split
        · simp
        · rename_i h1 h2 h3 h4
          rw [if_neg h1, if_neg h2, if_neg h3, if_neg h4] at h; simp at h
theorem decInt_err {l : List UInt8} (h : (decInt l).2.2 ≠ 0) : (decInt l).1 = 0 ∧ (decInt l).2.1 = 0 := by
  unfold decInt at h ⊢
  simp only at h ⊢
  split
  · simp
  · rename_i h1
    rw [if_neg h1] at h
    split at h <;> simp at h
theorem decInt_bound {l : List UInt8} (h : (decInt l).2.2 = 0) : inR (decInt l).1 = true := by
  unfold decInt at h ⊢
  simp only at h ⊢
  split at h
  · rename_i h1; exact (h1 h).elim
  · rename_i h1
    have hd := dec_size (l := l) (by simpa using h1)
    rw [if_neg h1]
    split <;> simp [inR] <;> omega
theorem decInt_size {l : List UInt8} (h : (decInt l).2.2 = 0) : 0 < (decInt l).2.1 ∧ (decInt l).2.1 ≤ l.length := by
  unfold decInt at h ⊢
  simp only at h ⊢
  split at h
  · rename_i hc; exact (hc h).elim
  · rename_i hc
    have hd := dec_size (l := l) (by simpa using hc)
    rw [if_neg hc]
    split <;> (simp only; omega)

def decR (l : List UInt8) : List UInt8 := if (dec l).2.2 = 0 then l.drop (dec l).2.1 else []
def decIR (l : List UInt8) : List UInt8 := if (decInt l).2.2 = 0 then l.drop (decInt l).2.1 else []
/-- n signed integers. -/
def decInts : Nat → List UInt8 → List Int × List UInt8 × Int
  | 0, l => ([], l, 0)
  | n + 1, l =>
    let d := decInt l
    if d.2.2 ≠ 0 then ([], [], d.2.2)
    else
      let r := decInts n (l.drop d.2.1)
      if r.2.2 ≠ 0 then ([], [], r.2.2) else (d.1 :: r.1, r.2.1, 0)

def intsCV (l : List Int) : List CV := l.map fun n => .c (.int .i64 n)
@[simp] theorem intsCV_length (l : List Int) : (intsCV l).length = l.length := by simp [intsCV]
theorem intsCV_append (l r : List Int) : intsCV l ++ intsCV r = intsCV (l ++ r) := by simp [intsCV]
@[simp] theorem intsCV_isC (l : List Int) : (intsCV l).all CV.isC = true := by simp [intsCV]
@[simp] theorem intsCV_getE (l : List Int) (n : Nat) (h : n < (intsCV l).length) : (intsCV l)[n] = .c (.int .i64 (l[n]'(by simpa using h))) := by simp [intsCV]
theorem intsCV_get (l : List Int) (n : Nat) (h : n < l.length) : (intsCV l)[n]? = some (.c (.int .i64 l[n])) := by simp [intsCV, h]
/-- A slice of integers, as an argument; of its own. -/
abbrev iA (l : List Int) : AV := .cell (.p (.sl l.length (intsCV l)))
abbrev iO (f : Nat) (l : List Int) : AV := .cell (.own f 1 l.length (intsCV l))

end Go.Fr
