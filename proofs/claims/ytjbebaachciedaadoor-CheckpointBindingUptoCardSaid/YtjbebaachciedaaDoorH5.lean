/- Contracts of functions, by their numbers, and the laws that walk them. Conditions: as each states. -/
import Derived.Test.YtjbebaachciedaaDoorH4
set_option linter.all false
section
set_option linter.all false
namespace Go.Dc
open Go Go.Hw Go.Proofs
set_option maxRecDepth 100000
def frame_Open_L1 (a0 : List UInt8) (y1 : Int × Int × Int) : List UInt8 -> Nat -> Option (Unit ⊕ ((List UInt8) × (List UInt8) × Int))
 | [], k66 => some (.inl ())
 | x86 :: q82, k66 => Option.bind (getI a0 (IntKind.i64.wrap (IntKind.i64.wrap (y1.2.1 + y1.1) + ((k66 : Nat) : Int)))) (fun x90 => cond (!(eqI (x90.toNat : Int) (x86.toNat : Int))) (some (.inr ([], [], 21))) (frame_Open_L1 a0 y1 q82 (k66 + 1)))
def frame_Open (fuelN : Nat) (a0 : List UInt8) : Option ((List UInt8) × (List UInt8) × Int) :=
 Option.bind (frame_decode fuelN a0) (fun y1 => cond (!(eqI y1.2.2 0)) (some ([], [], y1.2.2)) (cond (orB (ltI (IntKind.i64.wrap (((a0.length : Nat) : Int) - y1.2.1)) 4) (ltI (IntKind.i64.wrap (IntKind.i64.wrap (((a0.length : Nat) : Int) - y1.2.1) - 4)) y1.1)) (some ([], [], 22)) (guardO (slB 0 (IntKind.i64.wrap (y1.2.1 + y1.1)) a0.length) (Option.bind (some (subL a0 0 (IntKind.i64.wrap (y1.2.1 + y1.1)))) (fun l6 => Option.bind (frame_Checksum fuelN l6) (fun y9 => Option.bind (frame_sumBytes y9) (fun y11 => Option.bind (α := Unit ⊕ ((List UInt8) × (List UInt8) × Int)) (guardO (lenB y11.length) (Option.bind (frame_Open_L1 a0 y1 y11 0) (fun o => match o with | .inl _ => some (.inl ()) | .inr r94 => some (.inr r94)))) (fun o => match o with | .inl _ => guardO (slB y1.2.1 (IntKind.i64.wrap (y1.2.1 + y1.1)) a0.length) (Option.bind (some (subL a0 y1.2.1 (IntKind.i64.wrap (y1.2.1 + y1.1)))) (fun l112 => Option.bind (some ([l112])) (fun l115 => Option.bind (frame_join l115) (fun y117 => guardO (slB (IntKind.i64.wrap (IntKind.i64.wrap (y1.2.1 + y1.1) + 4)) (a0.length : Int) a0.length) (Option.bind (some (subL a0 (IntKind.i64.wrap (IntKind.i64.wrap (y1.2.1 + y1.1) + 4)) (a0.length : Int))) (fun l120 => Option.bind (some ([l120])) (fun l123 => Option.bind (frame_join l123) (fun y125 => some (y117, y125, 0))))))))) | .inr r127 => some r127))))))))
set_option maxHeartbeats 2000000 in
theorem at_frame_Open {fuelN : Nat} {a0 : List UInt8} {r : (List UInt8) × (List UInt8) × Int} (hs : frame_Open fuelN a0 = some r) : At Tryd.prog 35 [.cell (sC a0)] (.tup [.cell (sC r.1), .cell (sC r.2.1), iV .i64 r.2.2]) := by
 refine at_bound (by kernel_rfl) fun hb => ?_
 have hb1 : LenOk (.sl a0.length (encL a0)) := lkc hb
 refine at_code mixed Tryd.func35 (by kernel_rfl) rfl (by kernel_rfl) rfl fun Q hQ => ?_
 rw [frame_Open] at hs
 refine goR f0 ?_
 revert hs; refine bK fun y1 hx2 hs => ?_
 refine cP f0 (at_frame_decode hx2) ?_
 refine goR f0 ?_
 revert hs; refine cS f0 ?_ ?_ <;> intro h3 hs
 ·refine goR f0 ?_
  obtain rfl := sj hs
  exact hQ _ _ (rg f0 (Gh.unz _))
 ·refine goG f0 f0 ?_
  revert hs; refine cS f0 ?_ ?_ <;> intro h4 hs
  ·refine goG f0 f0 ?_
   obtain rfl := sj hs
   exact hQ _ _ (rg f0 (Gh.unz _))
  ·obtain ⟨g5, hs⟩ := guardO_some hs
   obtain ⟨g5a, g5b, g5c⟩ := slB_t g5
   revert hs; refine lK fun l6 hx7 hs => ?_
   have f8n : l6.length = (IntKind.i64.wrap (y1.2.1 + y1.1) - 0).toNat := by rw [hx7]; exact subL_len ⟨g5a, g5b, g5c⟩
   have f8e : ((encL a0).drop ((0 : Int).toNat * 1)).take ((IntKind.i64.wrap (y1.2.1 + y1.1) - 0).toNat * 1) = encL l6 := by rw [hx7]; exact subL_enc (α := UInt8)
   try simp at f8n
   try simp at f8e
   have f8o : LenOk (.sl l6.length (encL l6)) := by rw [hx7]; exact subL_ok hb1
   have F1 := an g5a (an g5b (an g5c (an f8n f8e)))
   refine goG F1 F1 ?_
   revert hs; refine bK fun y9 hx10 hs => ?_
   refine cP F1 (at_frame_Checksum hx10) ?_
   refine goG F1 F1 ?_
   revert hs; refine bK fun y11 hx12 hs => ?_
   refine cP F1 (at_frame_sumBytes hx12) ?_
   refine goG2 F1 F1 ?_
   revert hs; refine bK fun o53 e52 hs => ?_
   refine awp_cutK (fun (v : Unit) (σ : St) => some (.inl v) = some o53 /\ σ.env 0 = .cell (sC a0) /\ σ.env 6 = iV .i64 y1.2.1 /\ σ.env 8 = iV .i64 (IntKind.i64.wrap (y1.2.1 + y1.1)) /\ 6 <= σ.gen) (by rfl) (fun Q hK54 hX55 => ?_) (fun v σ3 hp => ?_)
   ·refine goG F1 F1 ?_
    obtain ⟨hb87, e52⟩ := guardO_some e52
    revert e52; refine bK fun o77 e76 e52 => ?_
    refine awp_loopW (fun (v : (List UInt8) × Nat) (σ : St) => frame_Open_L1 a0 y1 v.1 v.2 = some o77 /\ v.1 = y11.drop v.2 /\ σ.env 0 = .cell (sC a0) /\ σ.env 6 = iV .i64 y1.2.1 /\ σ.env 8 = iV .i64 (IntKind.i64.wrap (y1.2.1 + y1.1)) /\ σ.env 41 = .cell (sC y11) /\ σ.env 42 = iV .i64 ((y11.length : Nat) : Int) /\ σ.env 43 = iV .i64 ((v.2 : Nat) : Int) /\ 6 <= σ.gen) (fun v => v.1.length) _ (Gh.refl _) (y11, 0) ⟨e76, by simp, pv F1, pv F1, pv F1, pv F1, pv F1, pv F1, pg⟩ fun v σ6 hp L78 hL79 => ?_
    obtain ⟨q81, k66⟩ := v
    dsimp only at hp hL79
    obtain ⟨e76, hd80, h5_0, h5_6, h5_8, h5_41, h5_42, h5_43, n5_g⟩ := hp
    rcases q81 with _ | ⟨x86, q82⟩
    ·have hlt83 := drop_end hd80
     rw [frame_Open_L1] at e76; try dsimp only at e76
     have F2 := an h5_0 (an h5_6 (an h5_8 (an h5_41 (an h5_42 h5_43))))
     refine goR F2 ?_
     refine condK_f (by simp [ltI]; omega) ?_
     obtain rfl := sj e76
     try dsimp only at e52
     exact hK54 () _ _ (Gh.refl _) ⟨e52, pv F2, pv F2, pv F2, pg⟩
    ·obtain ⟨hx85, hlt83, hd88⟩ := drop_next hd80
     have ew84 := wrap_succG hlt83 hb87
     rw [frame_Open_L1] at e76; try dsimp only at e76
     have F3 := an h5_0 (an h5_6 (an h5_8 (an h5_41 (an h5_42 (an h5_43 (an hlt83 ew84))))))
     refine goR F3 ?_
     refine condK_t (by simp [ltI]; omega) ?_
     have f89 : partCV Tryd.prog 5 (encL y11) (k66) = some (iV .u8 (x86.toNat : Int)) := partCV_enc1 hx85 (by simp)
     revert e76; refine bK fun x90 hx91 e76 => ?_
     obtain ⟨hx91a, hx91b, hx91c, hx91d⟩ := getI_some hx91
     have f92 : partCV Tryd.prog 5 (encL a0) ((IntKind.i64.wrap (IntKind.i64.wrap (y1.2.1 + y1.1) + ((k66 : Nat) : Int))).toNat) = some (iV .u8 (x90.toNat : Int)) := partCV_enc1 hx91d (by simp)
     have F4 := an F3 (an f89 f92)
     refine goR F4 ?_
     revert e76; refine cS F4 ?_ ?_ <;> intro h93 e76
     ·refine goR F4 ?_
      obtain rfl := sj e76
      try dsimp only at e52
      obtain rfl := sj e52
      try dsimp only at hs
      refine hX55 _ _ (by simp) ?_
      refine goR F4 ?_
      obtain rfl := sj hs
      exact hQ _ _ (rg F4 (Gh.unz _))
     ·refine goR F4 ?_
      exact hL79 (q82, (k66 + 1)) _ _ (Gh.refl _) ⟨e76, hd88, pv F4, pv F4, pv F4, pv F4, pv F4, pv F4, pg⟩ (by simp)
   ·obtain ⟨e52, h4_0, h4_6, h4_8, n4_g⟩ := hp
    obtain rfl := sj e52
    try dsimp only at hs
    obtain ⟨g111, hs⟩ := guardO_some hs
    obtain ⟨g111a, g111b, g111c⟩ := slB_t g111
    revert hs; refine lK fun l112 hx113 hs => ?_
    have f114n : l112.length = (IntKind.i64.wrap (y1.2.1 + y1.1) - y1.2.1).toNat := by rw [hx113]; exact subL_len ⟨g111a, g111b, g111c⟩
    have f114e : ((encL a0).drop ((y1.2.1 : Int).toNat * 1)).take ((IntKind.i64.wrap (y1.2.1 + y1.1) - y1.2.1).toNat * 1) = encL l112 := by rw [hx113]; exact subL_enc (α := UInt8)
    try simp at f114n
    try simp at f114e
    have f114o : LenOk (.sl l112.length (encL l112)) := by rw [hx113]; exact subL_ok hb1
    revert hs; refine lK fun l115 hx116 hs => ?_
    have hx116n : l115.length = 1 := by rw [hx116]; rfl
    have F5 := an h4_0 (an h4_6 (an h4_8 (an g111a (an g111b (an g111c (an f114n (an f114e hx116)))))))
    refine goE F5 F5 ?_
    revert hs; refine bK fun y117 hx118 hs => ?_
    refine cA F5 (at_frame_join hx118) ?_
    obtain ⟨g119, hs⟩ := guardO_some hs
    obtain ⟨g119a, g119b, g119c⟩ := slB_t g119
    revert hs; refine lK fun l120 hx121 hs => ?_
    have f122n : l120.length = ((a0.length : Int) - IntKind.i64.wrap (IntKind.i64.wrap (y1.2.1 + y1.1) + 4)).toNat := by rw [hx121]; exact subL_len ⟨g119a, g119b, g119c⟩
    have f122e : ((encL a0).drop ((IntKind.i64.wrap (IntKind.i64.wrap (y1.2.1 + y1.1) + 4) : Int).toNat * 1)).take (((a0.length : Int) - IntKind.i64.wrap (IntKind.i64.wrap (y1.2.1 + y1.1) + 4)).toNat * 1) = encL l120 := by rw [hx121]; exact subL_enc (α := UInt8)
    try simp at f122n
    try simp at f122e
    have f122o : LenOk (.sl l120.length (encL l120)) := by rw [hx121]; exact subL_ok hb1
    revert hs; refine lK fun l123 hx124 hs => ?_
    have hx124n : l123.length = 1 := by rw [hx124]; rfl
    have F6 := an F5 (an g119a (an g119b (an g119c (an f122n (an f122e hx124)))))
    refine goE F6 F6 ?_
    revert hs; refine bK fun y125 hx126 hs => ?_
    refine cA F6 (at_frame_join hx126) ?_
    refine goE F6 F6 ?_
    obtain rfl := sj hs
    exact hQ _ _ (rg F6 ((Gh.frz _ (.o (σ3.gen + 1) 5 0)).trans (Gh.frz _ (.o (σ3.gen + 1) 11 0))))
end Go.Dc
end
section
set_option linter.all false
namespace Go.Dc
open Go Go.Hw Go.Proofs
set_option maxRecDepth 100000
def frame_Seal (fuelN : Nat) (a0 : List UInt8) : Option (List UInt8) :=
 Option.bind (frame_uintBytes fuelN ((a0.length : Nat) : Int)) (fun y1 => Option.bind (some ([y1, a0])) (fun l3 => Option.bind (frame_join l3) (fun y5 => Option.bind (frame_Checksum fuelN y5) (fun y11 => Option.bind (frame_sumBytes y11) (fun y13 => Option.bind (some ([y5, y13])) (fun l15 => Option.bind (frame_join l15) (fun y17 => some y17)))))))
set_option maxHeartbeats 2000000 in
theorem at_frame_Seal {fuelN : Nat} {a0 : List UInt8} {r : (List UInt8)} (hs : frame_Seal fuelN a0 = some r) : At Tryd.prog 20 [.cell (sC a0)] (.cell (sC r)) := by
 refine at_bound (by kernel_rfl) fun hb => ?_
 have hb1 : LenOk (.sl a0.length (encL a0)) := lkc hb
 refine at_code mixed Tryd.func20 (by kernel_rfl) rfl (by kernel_rfl) rfl fun Q hQ => ?_
 rw [frame_Seal] at hs
 refine goR f0 ?_
 revert hs; refine bK fun y1 hx2 hs => ?_
 refine cP f0 (at_frame_uintBytes hx2) ?_
 revert hs; refine lK fun l3 hx4 hs => ?_
 have hx4n : l3.length = 2 := by rw [hx4]; rfl
 refine goR hx4 ?_
 revert hs; refine bK fun y5 hx6 hs => ?_
 refine cA hx4 (at_frame_join hx6) ?_
 refine goN hx4 ?_
 refine awp_gh (by rfl) (Gh.frz _ (.o 2 5 0)) ?_
 try simp only [St.frz, St.pur]
 refine goR hx4 ?_
 revert hs; refine bK fun y11 hx12 hs => ?_
 refine cP hx4 (at_frame_Checksum hx12) ?_
 refine goR hx4 ?_
 revert hs; refine bK fun y13 hx14 hs => ?_
 refine cP hx4 (at_frame_sumBytes hx14) ?_
 revert hs; refine lK fun l15 hx16 hs => ?_
 have hx16n : l15.length = 2 := by rw [hx16]; rfl
 have F1 := an hx4 hx16
 refine goR F1 ?_
 revert hs; refine bK fun y17 hx18 hs => ?_
 refine cA F1 (at_frame_join hx18) ?_
 refine goR F1 ?_
 obtain rfl := sj hs
 exact hQ _ _ (rg F1 (Gh.frz _ (.o 3 5 0)))
end Go.Dc
end
section
set_option linter.all false
namespace Go.Dc.Pl
open Go Go.Hw Go.Dc
/-- How many bytes from 128 on stand ahead, up to f. -/
def lead : Nat -> List UInt8 -> Nat
 | 0, _ => 0
 | _ + 1, [] => 0
 | f + 1, b :: r => if b.toNat < 128 then 0 else lead f r + 1
def valB : List UInt8 -> Nat
 | [] => 0
 | b :: r => b.toNat % 128 + 128 * valB r
def dec (l : List UInt8) : Nat × Nat × Int :=
 let k := lead 9 l
 if k = 9 then (0, 0, 2)
 else if k = l.length then (0, 0, 22)
 else if (l.getD k 0).toNat = 0 /\ 0 < k then (0, 0, 3)
 else if 4611686018427387904 < valB (l.take (k + 1)) then (0, 0, 2)
 else (valB (l.take (k + 1)), k + 1, 0)
theorem valB_lt : ∀ l : List UInt8, valB l < 128 ^ l.length
 | [] => by simp [valB]
 | b :: r => by
  have := valB_lt r
  simp only [valB, List.length_cons, Nat.pow_succ]
  have h : b.toNat % 128 < 128 := Nat.mod_lt _ (by omega)
  omega
theorem valB_append : ∀ l r : List UInt8, valB (l ++ r) = valB l + 128 ^ l.length * valB r
 | [], r => by simp [valB]
 | b :: l, r => by simp only [List.cons_append, valB, valB_append l r, List.length_cons, Nat.pow_succ, Nat.mul_add]; rw [Nat.add_assoc, <- Nat.mul_assoc, Nat.mul_comm 128 (128 ^ l.length)]
theorem valB_snoc (l : List UInt8) (b : UInt8) : valB (l ++ [b]) = valB l + 128 ^ l.length * (b.toNat % 128) := by simp [valB_append, valB]
theorem lead_le : ∀ f l, lead f l <= f
 | 0, _ => by simp [lead]
 | f + 1, [] => by simp [lead]
 | f + 1, b :: r => by simp only [lead]; split <;> (have := lead_le f r; omega)
theorem lead_len : ∀ f l, lead f l <= l.length
 | 0, _ => by simp [lead]
 | f + 1, [] => by simp [lead]
 | f + 1, b :: r => by simp only [lead, List.length_cons]; split <;> (have := lead_len f r; omega)
/-- One byte more. -/
theorem lead_step {f : Nat} {l : List UInt8} {k : Nat} (hf : k < f) (hk : k < l.length) (h : lead f l = k + lead (f - k) (l.drop k)) :
  ((l[k]).toNat < 128 -> lead f l = k) /\ (¬ (l[k]).toNat < 128 -> lead f l = (k + 1) + lead (f - (k + 1)) (l.drop (k + 1))) := by
 have e1 : f - k = (f - (k + 1)) + 1 := by omega
 have e2 : l.drop k = l[k] :: l.drop (k + 1) := List.drop_eq_getElem_cons hk
 rw [e1, e2] at h
 simp only [lead] at h
 constructor
 ·intro hc; rw [if_pos hc] at h; omega
 ·intro hc; rw [if_neg hc] at h; omega
theorem lead_end {f : Nat} {l : List UInt8} {k : Nat} (h : lead f l = k + lead (f - k) (l.drop k)) (hk : k = f \/ k = l.length) : lead f l = k := by
 rcases hk with rfl | rfl
 ·rw [Nat.sub_self] at h; simpa [lead] using h
 ·rw [List.drop_length] at h
  rw [h]
  cases f - l.length <;> simp [lead]
/-- What decodeInt comes to. -/
def decInt (l : List UInt8) : Int × Nat × Int :=
 let d := dec l
 if d.2.2 ≠ 0 then (0, 0, d.2.2)
 else if d.1 % 2 = 0 then ((d.1 / 2 : Nat), d.2.1, 0) else (-((d.1 / 2 : Nat) + 1 : Int), d.2.1, 0)
theorem dec_size {l : List UInt8} (h : (dec l).2.2 = 0) : 0 < (dec l).2.1 /\ (dec l).2.1 <= l.length /\ (dec l).2.1 <= 9 /\ (dec l).1 <= 4611686018427387904 := by
 unfold dec at h ⊢
 simp only at h ⊢
 have h1 := lead_le 9 l
 have h2 := lead_len 9 l
 split at h
 ·simp at h
 ·rename_i e1
  split at h
  ·simp at h
  ·rename_i e2
   split at h
   ·simp at h
   ·rename_i e3
    split at h
    ·simp at h
    ·rename_i e4
     rw [if_neg e1, if_neg e2, if_neg e3, if_neg e4]
     simp only
     omega
theorem decInt_size {l : List UInt8} (h : (decInt l).2.2 = 0) : 0 < (decInt l).2.1 /\ (decInt l).2.1 <= l.length := by
 unfold decInt at h ⊢
 simp only at h ⊢
 split at h
 ·rename_i hc; exact (hc h).elim
 ·rename_i hc
  have hd := dec_size (l := l) (by simpa using hc)
  rw [if_neg hc]
  split <;> (simp only; omega)
/-- n signed integers. -/
def decInts : Nat -> List UInt8 -> List Int × List UInt8 × Int
 | 0, l => ([], l, 0)
 | n + 1, l =>
  let d := decInt l
  if d.2.2 ≠ 0 then ([], [], d.2.2)
  else
   let r := decInts n (l.drop d.2.1)
   if r.2.2 ≠ 0 then ([], [], r.2.2) else (d.1 :: r.1, r.2.1, 0)
theorem shl_nat {k : IntKind} {a s : Nat} (hs : s <= k.bits) : shlI k (a : Int) (s : Int) = k.wrap ((a * 2 ^ s : Nat) : Int) := by
 simp [shlI, Nat.min_eq_left hs]
theorem wrap_u64_nat (n : Nat) : IntKind.wrap .u64 (n : Int) = ((n % 18446744073709551616 : Nat) : Int) := by rw [IntKind.wrap_u64]; simp
theorem wrap_u8_lt {n : Int} (h1 : 0 <= n) (h2 : n < 256) : IntKind.wrap .u8 n = n := by
 simp [IntKind.wrap, IntKind.bits, IntKind.signed]; omega
theorem or_valB {v k c : Nat} (hk : k <= 8) (hv : v < 128 ^ k) (hc : c < 128) : bits .or .u64 (v : Int) (shlI .u64 (c : Int) (IntKind.i64.wrap (7 * (k : Int)))) = ((v + 128 ^ k * c : Nat) : Int) := by
 have e1 : IntKind.i64.wrap (7 * (k : Int)) = ((7 * k : Nat) : Int) := by rw [wrap_i64 (by omega) (by omega)]; simp
 have e2 : (2 : Nat) ^ (7 * k) = 128 ^ k := by rw [Nat.pow_mul]
 have h8 : (128 : Nat) ^ k <= 128 ^ 8 := Nat.pow_le_pow_right (by omega) hk
 have h9 : c * 128 ^ k < 128 * 128 ^ 8 := Nat.lt_of_lt_of_le (Nat.mul_lt_mul_of_pos_right hc (Nat.pow_pos (by omega))) (Nat.mul_le_mul_left _ h8)
 rw [e1, shl_nat (by show 7 * k <= 64; omega), wrap_u64_nat, e2, Nat.mod_eq_of_lt (by omega), u64_or_nat _ _ (by omega) (by omega), Nat.or_comm, <- e2, Nat.mul_comm c, <- Nat.two_pow_add_eq_or_of_lt (by rw [e2]; exact hv), Nat.add_comm]
theorem u8_sub128 {b : Nat} (h1 : 128 <= b) (h2 : b < 256) : IntKind.u64.wrap (IntKind.u8.wrap ((b : Int) - 128)) = ((b % 128 : Nat) : Int) := by
 have : b % 128 = b - 128 := by omega
 rw [wrap_u8_lt (by omega) (by omega), IntKind.wrap_u64, this]; omega
theorem valB_take {l : List UInt8} {k : Nat} (h : k < l.length) : valB (l.take (k + 1)) = valB (l.take k) + 128 ^ k * (l[k].toNat % 128) := by
 rw [List.take_succ_eq_append_getElem h, valB_snoc, List.length_take, Nat.min_eq_left (by omega)]
theorem lead_lt : ∀ (f : Nat) (l : List UInt8), lead f l ≠ f -> lead f l ≠ l.length -> (l.getD (lead f l) 0).toNat < 128
 | 0, l, h, _ => by simp [lead] at h
 | f + 1, [], h, h2 => by simp [lead] at h2
 | f + 1, x :: l, h, h2 => by
  rw [lead] at h h2 ⊢
  split
  ·rename_i hx; simpa using hx
  ·rename_i hx
   rw [if_neg hx] at h h2
   simpa using lead_lt f l (by omega) (by simpa using h2)
theorem own_decL {a : List UInt8} (ha : a.length <= 1000000000000) : ∀ (j q k : Nat), k + j = 9 -> j < q -> k <= a.length -> lead 9 a = k + lead (9 - k) (a.drop k) ->
  frame_decode_L1 a q ((valB (a.take k) : Nat) : Int) (k : Int) = some (if lead 9 a = 9 then .inr (0, 0, 2) else if lead 9 a = a.length then .inr (0, 0, 22) else .inl (((valB (a.take (lead 9 a)) : Nat) : Int), ((lead 9 a : Nat) : Int))) := by
 intro j
 induction j with
 | zero =>
  intro q k hk hq hl hL
  obtain ⟨q, rfl⟩ : ∃ q', q = q' + 1 := ⟨q - 1, by omega⟩
  obtain rfl : k = 9 := by omega
  have := lead_end hL (.inl rfl)
  rw [frame_decode_L1, eqI_d, decide_eq_true (by omega), if_pos this]; rfl
 | succ j ih =>
  intro q k hk hq hl hL
  obtain ⟨q, rfl⟩ : ∃ q', q = q' + 1 := ⟨q - 1, by omega⟩
  rw [frame_decode_L1, eqI_d, decide_eq_false (by omega), cond_false]
  by_cases e : k = a.length
  ·have := lead_end hL (.inr e)
   rw [eqI_d, decide_eq_true (by omega), if_neg (by omega), if_pos (by omega)]; rfl
  ·have hk' : k < a.length := by omega
   obtain ⟨s1, s2⟩ := lead_step (by omega : k < 9) hk' hL
   rw [eqI_d, decide_eq_false (by omega), cond_false, getI_nat, List.getElem?_eq_getElem hk', Option.bind_some, ltI_d]
   by_cases hb : (a[k]).toNat < 128
   ·have := s1 hb
    rw [decide_eq_true (by omega), if_neg (by omega), if_neg (by omega), this]; rfl
   ·have h256 := (a[k]).toNat_lt
    have hv := valB_lt (a.take k)
    rw [List.length_take, Nat.min_eq_left hl] at hv
    have e1 : IntKind.i64.wrap (7 * (k : Int)) = ((7 * k : Nat) : Int) := by rw [wrap_i64 (by omega) (by omega)]; simp
    rw [decide_eq_false (by omega), cond_false, show ltI (IntKind.i64.wrap (7 * (k : Int))) 0 = false by rw [e1, ltI_d, decide_eq_false (by omega)], Bool.not_false, guardO_t, u8_sub128 (by omega) (by omega), or_valB (by omega) hv (by omega), wrapS (by omega), <- valB_take hk']
    exact ih q (k + 1) (by omega) (by omega) (by omega) (s2 hb)
theorem own_dec {f : Nat} {a : List UInt8} (hf : 10 <= f) (ha : a.length <= 1000000000000) : frame_decode f a = some (((dec a).1 : Int), ((dec a).2.1 : Int), (dec a).2.2) := by
 have h := own_decL ha 9 f 0 rfl (by omega) (by omega) (by simp)
 simp only [List.take_zero, valB] at h
 rw [frame_decode]
 simp only [show ((0 : Nat) : Int) = 0 from rfl] at h
 rw [h]
 unfold dec
 have h1 := lead_le 9 a
 have h2 := lead_len 9 a
 have h3 := lead_lt 9 a
 generalize lead 9 a = k at h1 h2 h3 ⊢
 by_cases e1 : k = 9
 ·rw [if_pos e1, if_pos e1]; rfl
 ·rw [if_neg e1, if_neg e1]
  by_cases e2 : k = a.length
  ·rw [if_pos e2, if_pos e2]; rfl
  ·rw [if_neg e2, if_neg e2]
   have hk : k < a.length := by omega
   have h256 := (a[k]).toNat_lt
   simp only [Option.bind_some, getI_nat, List.getElem?_eq_getElem hk]
   rw [show a.getD k 0 = a[k] by simp [hk], andB_d, eqI_d, ltI_d, <- Bool.decide_and]
   by_cases e3 : (a[k]).toNat = 0 /\ 0 < k
   ·rw [if_pos e3, decide_eq_true (by omega)]; rfl
   ·rw [if_neg e3, decide_eq_false (by omega), cond_false]
    have e4 : IntKind.i64.wrap (7 * (k : Int)) = ((7 * k : Nat) : Int) := by rw [wrap_i64 (by omega) (by omega)]; simp
    have hv := valB_lt (a.take k)
    rw [List.length_take, Nat.min_eq_left h2] at hv
    rw [show ltI (IntKind.i64.wrap (7 * (k : Int))) 0 = false by rw [e4, ltI_d, decide_eq_false (by omega)], Bool.not_false, guardO_t]
    have hlt : (a[k]).toNat < 128 := by have := h3 e1 e2; simpa [hk] using this
    have hw : IntKind.u64.wrap ((a[k]).toNat : Int) = (((a[k]).toNat % 128 : Nat) : Int) := by rw [wrap_u64_nat, Nat.mod_eq_of_lt (by omega), Nat.mod_eq_of_lt hlt]
    rw [hw, or_valB (by omega) hv (by omega), <- valB_take hk, ltI_d]
    by_cases e5 : 4611686018427387904 < valB (a.take (k + 1))
    ·rw [if_pos e5, decide_eq_true (by omega)]; rfl
    ·rw [if_neg e5, decide_eq_false (by omega), cond_false, wrap_i64 (by omega) (by omega), wrapS (by omega)]
theorem decInts_len : ∀ (n : Nat) {a : List UInt8} {m : Nat}, (decInts n a).2.2 = 0 -> a.length <= m -> (decInts n a).2.1.length <= m
 | 0, a, m, _, h => h
 | n + 1, a, m, e, h => by
  rw [decInts] at e ⊢
  simp only at e ⊢
  split at e
  ·rename_i hc; exact (hc e).elim
  ·rename_i hc
   rw [if_neg hc]
   split at e
   ·rename_i h2; exact (h2 e).elim
   ·rename_i h2
    rw [if_neg h2]
    exact decInts_len n (by simpa using h2) (by simp; omega)
/-- One integer read: it, what is left, the error. -/
def uintR (a : List UInt8) : Int × List UInt8 × Int := if (dec a).2.2 = 0 then ((dec a).1, a.drop (dec a).2.1, 0) else (0, [], (dec a).2.2)
def intR (a : List UInt8) : Int × List UInt8 × Int := if (decInt a).2.2 = 0 then ((decInt a).1, a.drop (decInt a).2.1, 0) else (0, [], (decInt a).2.2)
def intsR (m : Int) (a : List UInt8) : List Int × List UInt8 × Int :=
 if (dec a).2.2 ≠ 0 then ([], [], (dec a).2.2)
 else if (if 0 > m then 0 else m) < ((dec a).1 : Int) then ([], [], 4)
 else decInts (dec a).1 (a.drop (dec a).2.1)
theorem slB_k {a : List UInt8} {k : Nat} (h : k <= a.length) : slB (k : Int) (a.length : Int) a.length = true := by simp [slB]; omega
theorem subL_k {α : Type} {a : List α} {k : Nat} (h : k <= a.length) : subL a (k : Int) (a.length : Int) = a.drop k := by
 unfold subL; rw [Int.toNat_natCast, show ((a.length : Int) - (k : Int)).toNat = a.length - k by omega, List.take_of_length_le (by simp)]
theorem join1 {a : List UInt8} (h : a.length <= 1000000000000) : frame_join [a] = some a := by rw [own_join (by simp; omega)]; simp
theorem own_uint {f : Nat} {a : List UInt8} (hf : 10 <= f) (ha : a.length <= 1000000000000) : frame_Uint f a = some (uintR a) := by
 rw [frame_Uint, own_dec hf ha, Option.bind_some, eqI_d, uintR]
 by_cases e : (dec a).2.2 = 0
 ·have hs := dec_size e
  rw [if_pos e, decide_eq_true e, Bool.not_true, cond_false, slB_k hs.2.1, guardO_t, Option.bind_some, subL_k hs.2.1, Option.bind_some, join1 (by simp; omega)]; rfl
 ·rw [if_neg e, decide_eq_false e]; rfl
theorem own_decInt {f : Nat} {a : List UInt8} (hf : 10 <= f) (ha : a.length <= 1000000000000) : frame_decodeInt f a = some ((decInt a).1, ((decInt a).2.1 : Int), (decInt a).2.2) := by
 rw [frame_decodeInt, own_dec hf ha, Option.bind_some, eqI_d, decInt]
 by_cases e : (dec a).2.2 = 0
 ·have hs := dec_size e
  have e1 : Int.tmod ((dec a).1 : Int) 2 = (((dec a).1 % 2 : Nat) : Int) := tmod_nat _ 2
  have e2 : Int.tdiv ((dec a).1 : Int) 2 = (((dec a).1 / 2 : Nat) : Int) := tdiv_nat _ 2
  simp only []
  rw [if_neg (by simpa using e), decide_eq_true e, Bool.not_true, cond_false, e1, eqI_d]
  by_cases h2 : (dec a).1 % 2 = 0
  ·rw [if_pos h2, decide_eq_true (by omega), cond_true, e2, wrap_i64 (by omega) (by omega)]
  ·rw [if_neg h2, decide_eq_false (by omega), cond_false, wrap_i64 (n := ((dec a).1 : Int) + 1) (by omega) (by omega), wrap_i64 (n := 0 - (((dec a).1 : Int) + 1)) (by omega) (by omega)]
   have e3 : Int.tdiv (0 - (((dec a).1 : Int) + 1)) 2 = -((((dec a).1 / 2 : Nat) : Int) + 1) := by
    rw [show 0 - (((dec a).1 : Int) + 1) = -((((dec a).1 + 1 : Nat)) : Int) by omega, Int.neg_tdiv, show (2 : Int) = ((2 : Nat) : Int) from rfl, tdiv_nat]; omega
   rw [e3, wrap_i64 (by omega) (by omega)]
 ·simp only []
  rw [if_pos (by simpa using e), decide_eq_false e]; rfl
theorem own_int {f : Nat} {a : List UInt8} (hf : 10 <= f) (ha : a.length <= 1000000000000) : frame_Int f a = some (intR a) := by
 rw [frame_Int, own_decInt hf ha, Option.bind_some, eqI_d, intR]
 by_cases e : (decInt a).2.2 = 0
 ·have hs := decInt_size e
  rw [if_pos e, decide_eq_true e, Bool.not_true, cond_false, slB_k hs.2, guardO_t, Option.bind_some, subL_k hs.2, Option.bind_some, join1 (by simp; omega)]; rfl
 ·rw [if_neg e, decide_eq_false e]; rfl
/-- The integers of a list that are still to be read. -/
theorem own_intsL {f : Nat} (hf : 10 <= f) {y : Int × Int × Int} {n : Nat} (hy : y.1 = (n : Int)) (hn : n <= 1000000) : ∀ (m q : Nat) (a : List UInt8) (l : List Int), l.length + m = n -> m < q -> a.length <= 1000000000000 ->
  frame_Ints_L1 f y q a l = some (if (decInts m a).2.2 = 0 then .inl ((decInts m a).2.1, l ++ (decInts m a).1) else .inr ([], [], (decInts m a).2.2)) := by
 intro m
 induction m with
 | zero =>
  intro q a l hl hq ha
  obtain ⟨q, rfl⟩ : ∃ q', q = q' + 1 := ⟨q - 1, by omega⟩
  rw [frame_Ints_L1, ltI_d, hy, decide_eq_false (by omega)]
  simp [decInts]
 | succ m ih =>
  intro q a l hl hq ha
  obtain ⟨q, rfl⟩ : ∃ q', q = q' + 1 := ⟨q - 1, by omega⟩
  rw [frame_Ints_L1, ltI_d, hy, decide_eq_true (by omega), cond_true, own_decInt hf ha, Option.bind_some, eqI_d, decInts]
  simp only []
  by_cases e : (decInt a).2.2 = 0
  ·have hs := decInt_size e
   rw [decide_eq_true e, Bool.not_true, cond_false, if_neg (fun h : (decInt a).2.2 ≠ 0 => h e)]
   simp only [Option.bind_some]
   rw [show limB 8 (l.length + [(decInt a).1].length) = true by simp [limB]; omega, guardO_t, slB_k hs.2, guardO_t, subL_k hs.2, ih q (a.drop (decInt a).2.1) (l ++ [(decInt a).1]) (by simp; omega) (by omega) (by simp; omega)]
   by_cases e2 : (decInts m (a.drop (decInt a).2.1)).2.2 = 0
   ·rw [if_pos e2, if_neg (fun h : (decInts m (a.drop (decInt a).2.1)).2.2 ≠ 0 => h e2)]; simp
   ·rw [if_neg e2, if_pos (show (decInts m (a.drop (decInt a).2.1)).2.2 ≠ 0 from e2), if_neg e2]
  ·rw [decide_eq_false e, if_pos (show (decInt a).2.2 ≠ 0 from e)]
   simp [e]
theorem decInts_err : ∀ (n : Nat) {a : List UInt8}, (decInts n a).2.2 ≠ 0 -> (decInts n a).1 = [] /\ (decInts n a).2.1 = []
 | 0, a, h => by simp [decInts] at h
 | n + 1, a, h => by
  rw [decInts] at h ⊢
  simp only at h ⊢
  split
  ·simp
  ·rename_i h1
   rw [if_neg h1] at h
   split
   ·simp
   ·rename_i h2; rw [if_neg h2] at h; simp at h
theorem own_ints {f : Nat} {a : List UInt8} {m : Int} (hf : 1000010 <= f) (hm : m <= 1000000) (ha : a.length <= 1000000000000) : frame_Ints f a m = some (intsR m a) := by
 rw [frame_Ints, own_dec (by omega) ha, Option.bind_some, eqI_d, intsR]
 by_cases e : (dec a).2.2 = 0
 ·have hs := dec_size e
  rw [decide_eq_true e, Bool.not_true, cond_false, if_neg (fun h : (dec a).2.2 ≠ 0 => h e), ltI_d]
  by_cases h2 : (if 0 > m then 0 else m) < ((dec a).1 : Int)
  ·rw [if_pos h2, decide_eq_true h2]; rfl
  ·have hn : (dec a).1 <= 1000000 := by split at h2 <;> omega
   rw [if_neg h2, decide_eq_false h2, cond_false, slB_k hs.2.1, guardO_t, Option.bind_some, subL_k hs.2.1, own_intsL (by omega) (n := (dec a).1) rfl hn (dec a).1 f _ [] (by simp) (by omega) (by simp; omega)]
   by_cases e2 : (decInts (dec a).1 (a.drop (dec a).2.1)).2.2 = 0
   ·have hl : (decInts (dec a).1 (a.drop (dec a).2.1)).2.1.length <= a.length := decInts_len _ e2 (by simp)
    rw [if_pos e2]
    simp only [Option.bind_some, List.nil_append]
    rw [join1 (by omega), Option.bind_some]
    rw [<- e2]
   ·obtain ⟨g1, g2⟩ := decInts_err _ e2
    rw [if_neg e2]
    simp only [Option.bind_some]
    rw [<- g1, <- g2]
 ·rw [decide_eq_false e, if_pos (show (dec a).2.2 ≠ 0 from e)]; rfl
/-! Frames. -/
def sumB (c : Nat) : List UInt8 := [byteN c, byteN (c / 256), byteN (c / 65536), byteN (c / 16777216)]
def sealB (p : List UInt8) : List UInt8 := uintB p.length ++ p ++ sumB (crc (uintB p.length ++ p))
def openB (l : List UInt8) : List UInt8 × List UInt8 × Int :=
 if (dec l).2.2 ≠ 0 then ([], [], (dec l).2.2)
 else if l.length - (dec l).2.1 < 4 \/ (dec l).1 > l.length - (dec l).2.1 - 4 then ([], [], 22)
 else if (l.drop ((dec l).2.1 + (dec l).1)).take 4 = sumB (crc (l.take ((dec l).2.1 + (dec l).1))) then ((l.drop (dec l).2.1).take (dec l).1, l.drop ((dec l).2.1 + (dec l).1 + 4), 0) else ([], [], 21)
theorem own_sum {c : Nat} (h : c < 4294967296) : frame_sumBytes (c : Int) = some (sumB c) := by
 have e : ∀ s : Nat, s <= 32 -> shrI .u32 (c : Int) (s : Int) = ((c / 2 ^ s : Nat) : Int) := fun s hs => shr_nat (by show s <= 32; exact hs)
 have e1 := e 8 (by omega); have e2 := e 16 (by omega); have e3 := e 24 (by omega)
 rw [frame_sumBytes, show (8 : Int) = ((8 : Nat) : Int) from rfl, show (16 : Int) = ((16 : Nat) : Int) from rfl, show (24 : Int) = ((24 : Nat) : Int) from rfl, e1, e2, e3, u8_nat, u8_nat, u8_nat, u8_nat]; rfl
theorem own_seal {f : Nat} {p : List UInt8} (hp : p.length <= 100000000000) (hf : p.length + 100 <= f) : frame_Seal f p = some (sealB p) := by
 have h9 := uintB_le9 (n := p.length) (by omega)
 have hc := crc_lt (uintB p.length ++ p)
 rw [frame_Seal, own_uintB (by omega) (by omega), Option.bind_some, Option.bind_some, own_join (by simp; omega), Option.bind_some]
 simp only [List.flatten_cons, List.flatten_nil, List.append_nil]
 rw [own_crc (by omega) (by simp; omega) (by simp; omega), Option.bind_some, own_sum (by omega), Option.bind_some, Option.bind_some, own_join (by simp [sumB]; omega)]
 simp [sealB]
theorem own_openL {a : List UInt8} {y : Int × Int × Int} {e : Nat} (hy : IntKind.i64.wrap (y.2.1 + y.1) = (e : Int)) (ha : a.length <= 1000000000000) : ∀ (l : List UInt8) (k : Nat), e + k + l.length <= a.length ->
  frame_Open_L1 a y l k = some (if (a.drop (e + k)).take l.length = l then .inl () else .inr ([], [], 21))
 | [], k, _ => by simp [frame_Open_L1]
 | x :: l, k, h => by
  rw [List.length_cons] at h
  have hk : e + k < a.length := by omega
  rw [frame_Open_L1, hy, <- Int.natCast_add, wrapN (by omega), getI_nat, List.getElem?_eq_getElem hk, Option.bind_some, eqI_d, List.drop_eq_getElem_cons hk, List.length_cons, List.take_succ_cons]
  by_cases hx : a[e + k] = x
  ·rw [decide_eq_true (by rw [hx]), Bool.not_true, cond_false, own_openL hy ha l (k + 1) (by omega), show e + (k + 1) = e + k + 1 by omega]
   by_cases h2 : (a.drop (e + k + 1)).take l.length = l
   ·rw [if_pos h2, if_pos (by rw [hx, h2])]
   ·rw [if_neg h2, if_neg (by simp [hx, h2])]
  ·have : ((a[e + k]).toNat : Int) ≠ (x.toNat : Int) := fun he => hx (UInt8.toNat_inj.1 (by omega))
   rw [decide_eq_false this, if_neg (by simp [hx])]; rfl
theorem own_open {f : Nat} {a : List UInt8} (hf : a.length + 10 <= f) (ha : a.length <= 100000000000) : frame_Open f a = some (openB a) := by
 rw [frame_Open, own_dec (by omega) (by omega), Option.bind_some, eqI_d, openB]
 by_cases e : (dec a).2.2 = 0
 ·obtain ⟨s1, s2, s3, s4⟩ := dec_size e
  have hlow := own_sum (crc_lt (a.take ((dec a).2.1 + (dec a).1)))
  have hw := own_openL (a := a) (y := (((dec a).1 : Int), ((dec a).2.1 : Int), (dec a).2.2)) (e := (dec a).2.1 + (dec a).1) (by simp only []; rw [<- Int.natCast_add]; exact wrap_i64 (by omega) (by omega)) (by omega)
  generalize (dec a).2.1 = k at *
  generalize hn : (dec a).1 = n at *
  simp only []
  rw [decide_eq_true e, Bool.not_true, cond_false, if_neg (by simpa using e), wrap_i64 (n := (a.length : Int) - (k : Int)) (by omega) (by omega), wrap_i64 (n := (a.length : Int) - (k : Int) - 4) (by omega) (by omega), orB_d, ltI_d, ltI_d, <- Bool.decide_or]
  by_cases h2 : a.length - k < 4 \/ n > a.length - k - 4
  ·rw [if_pos h2, decide_eq_true (by omega)]; rfl
  ·have hkn : k + n + 4 <= a.length := by omega
   rw [if_neg h2, decide_eq_false (by omega), cond_false, <- Int.natCast_add, wrapN (by omega), show slB 0 ((k + n : Nat) : Int) a.length = true by simp [slB]; omega, guardO_t]
   simp only [Option.bind_some]
   rw [show subL a 0 ((k + n : Nat) : Int) = a.take (k + n) by simp only [subL]; rw [Int.sub_zero, Int.toNat_natCast]; rfl, own_crc (by omega) (by simp; omega) (by simp; omega), Option.bind_some, hlow, Option.bind_some]
   have hlen : (sumB (crc (a.take (k + n)))).length = 4 := rfl
   rw [show lenB (sumB (crc (a.take (k + n)))).length = true from rfl, guardO_t, hw _ 0 (by rw [hlen]; omega), hlen, Nat.add_zero]
   by_cases h3 : (a.drop (k + n)).take 4 = sumB (crc (a.take (k + n)))
   ·rw [if_pos h3, if_pos h3]
    simp only [Option.bind_some]
    rw [show slB (k : Int) ((k + n : Nat) : Int) a.length = true by simp [slB]; omega, guardO_t, show subL a (k : Int) ((k + n : Nat) : Int) = (a.drop k).take n by simp [subL]; omega, join1 (by simp; omega)]
    simp only [Option.bind_some]
    rw [show ((k + n : Nat) : Int) + 4 = ((k + n + 4 : Nat) : Int) by omega, wrapN (by omega), slB_k hkn, guardO_t, subL_k hkn, join1 (by simp; omega)]; rfl
   ·rw [if_neg h3, if_neg h3]; rfl
 ·rw [decide_eq_false e, if_pos (by simpa using e)]; rfl
end Go.Dc.Pl
end
section
set_option linter.all false
namespace Go.Dc
open Go Go.Hw Go.Proofs
set_option maxRecDepth 100000
def checkpoint_rest_uint_CheckpointDecoder (fuelN : Nat) (a0 : CheckpointDecoder) : Option (Int × CheckpointDecoder) :=
 cond (!(eqI a0.rest.err 0)) (some (0, a0)) (Option.bind (frame_Uint fuelN a0.rest.bytes) (fun y2 => some (y2.1, { a0 with rest := ({ bytes := y2.2.1, err := y2.2.2 } : CheckpointRest) })))
set_option maxHeartbeats 2000000 in
theorem at_checkpoint_rest_uint_CheckpointDecoder {fuelN : Nat} {a0 : CheckpointDecoder} {r : Int × CheckpointDecoder} (hs : checkpoint_rest_uint_CheckpointDecoder fuelN a0 = some r) : CAt Tryd.prog 36 [.cell (.ref (.a 0) 0)] [.cells [sC a0.rest.bytes, nC a0.rest.err, nC a0.done, .own (.sp 4 a0.out.Frames.length (encL a0.out.Frames)), bC a0.out.Done, nC a0.out.Count, nC a0.out.Blocked]] (.ret (iV .i64 r.1)) [(.a 0, .cells [sC r.2.rest.bytes, nC r.2.rest.err, nC r.2.done, .own (.sp 4 r.2.out.Frames.length (encL r.2.out.Frames)), bC r.2.out.Done, nC r.2.out.Count, nC r.2.out.Blocked])] := by
 refine at_bound (by kernel_rfl) fun hb => ?_
 refine at_code mixed Tryd.func36 (by kernel_rfl) rfl (by kernel_rfl) rfl fun Q hQ => ?_
 rw [checkpoint_rest_uint_CheckpointDecoder] at hs
 refine goR f0 ?_
 revert hs; refine cS f0 ?_ ?_ <;> intro h1 hs
 ·refine goR f0 ?_
  obtain rfl := sj hs
  refine hQ _ _ (ret2g _ (Gh.refl _) (by simp [St.frz, St.pur]; rfl) (by first | rfl | (simp [St.frz, St.pur]; done) | (rw [if_pos (by first | omega | (simp; omega))]; simp [St.frz, St.pur]; first | omega | exact List.take_of_length_le (by simp; omega) | skip)) (pv f0))
 ·refine goR f0 ?_
  revert hs; refine bK fun y2 hx3 hs => ?_
  refine cP f0 (at_frame_Uint hx3) ?_
  refine goR f0 ?_
  obtain rfl := sj hs
  refine hQ _ _ (ret2g _ (Gh.refl _) (by simp [St.frz, St.pur]; rfl) (by first | rfl | (simp [St.frz, St.pur]; done) | (rw [if_pos (by first | omega | (simp; omega))]; simp [St.frz, St.pur]; first | omega | exact List.take_of_length_le (by simp; omega) | skip)) (pv f0))
end Go.Dc
end
section
set_option linter.all false
namespace Go.Dc
open Go Go.Hw Go.Proofs
set_option maxRecDepth 100000
def checkpoint_rest_int_CheckpointDecoder (fuelN : Nat) (a0 : CheckpointDecoder) : Option (Int × CheckpointDecoder) :=
 cond (!(eqI a0.rest.err 0)) (some (0, a0)) (Option.bind (frame_Int fuelN a0.rest.bytes) (fun y2 => some (y2.1, { a0 with rest := ({ bytes := y2.2.1, err := y2.2.2 } : CheckpointRest) })))
set_option maxHeartbeats 2000000 in
theorem at_checkpoint_rest_int_CheckpointDecoder {fuelN : Nat} {a0 : CheckpointDecoder} {r : Int × CheckpointDecoder} (hs : checkpoint_rest_int_CheckpointDecoder fuelN a0 = some r) : CAt Tryd.prog 58 [.cell (.ref (.a 0) 0)] [.cells [sC a0.rest.bytes, nC a0.rest.err, nC a0.done, .own (.sp 4 a0.out.Frames.length (encL a0.out.Frames)), bC a0.out.Done, nC a0.out.Count, nC a0.out.Blocked]] (.ret (iV .i64 r.1)) [(.a 0, .cells [sC r.2.rest.bytes, nC r.2.rest.err, nC r.2.done, .own (.sp 4 r.2.out.Frames.length (encL r.2.out.Frames)), bC r.2.out.Done, nC r.2.out.Count, nC r.2.out.Blocked])] := by
 refine at_bound (by kernel_rfl) fun hb => ?_
 refine at_code mixed Tryd.func58 (by kernel_rfl) rfl (by kernel_rfl) rfl fun Q hQ => ?_
 rw [checkpoint_rest_int_CheckpointDecoder] at hs
 refine goR f0 ?_
 revert hs; refine cS f0 ?_ ?_ <;> intro h1 hs
 ·refine goR f0 ?_
  obtain rfl := sj hs
  refine hQ _ _ (ret2g _ (Gh.refl _) (by simp [St.frz, St.pur]; rfl) (by first | rfl | (simp [St.frz, St.pur]; done) | (rw [if_pos (by first | omega | (simp; omega))]; simp [St.frz, St.pur]; first | omega | exact List.take_of_length_le (by simp; omega) | skip)) (pv f0))
 ·refine goR f0 ?_
  revert hs; refine bK fun y2 hx3 hs => ?_
  refine cP f0 (at_frame_Int hx3) ?_
  refine goR f0 ?_
  obtain rfl := sj hs
  refine hQ _ _ (ret2g _ (Gh.refl _) (by simp [St.frz, St.pur]; rfl) (by first | rfl | (simp [St.frz, St.pur]; done) | (rw [if_pos (by first | omega | (simp; omega))]; simp [St.frz, St.pur]; first | omega | exact List.take_of_length_le (by simp; omega) | skip)) (pv f0))
end Go.Dc
end
section
set_option linter.all false
namespace Go.Dc
open Go Go.Hw Go.Proofs
set_option maxRecDepth 100000
def checkpoint_rest_ints_CheckpointDecoder (fuelN : Nat) (a0 : CheckpointDecoder) : Option ((List Int) × CheckpointDecoder) :=
 cond (!(eqI a0.rest.err 0)) (some ([], a0)) (Option.bind (frame_Ints fuelN a0.rest.bytes 2048) (fun y2 => some (y2.1, { a0 with rest := ({ bytes := y2.2.1, err := y2.2.2 } : CheckpointRest) })))
set_option maxHeartbeats 2000000 in
theorem at_checkpoint_rest_ints_CheckpointDecoder {fuelN : Nat} {a0 : CheckpointDecoder} {r : (List Int) × CheckpointDecoder} (hs : checkpoint_rest_ints_CheckpointDecoder fuelN a0 = some r) : CAt Tryd.prog 59 [.cell (.ref (.a 0) 0)] [.cells [sC a0.rest.bytes, nC a0.rest.err, nC a0.done, .own (.sp 4 a0.out.Frames.length (encL a0.out.Frames)), bC a0.out.Done, nC a0.out.Count, nC a0.out.Blocked]] (.ret (.cell (sC r.1))) [(.a 0, .cells [sC r.2.rest.bytes, nC r.2.rest.err, nC r.2.done, .own (.sp 4 r.2.out.Frames.length (encL r.2.out.Frames)), bC r.2.out.Done, nC r.2.out.Count, nC r.2.out.Blocked])] := by
 refine at_bound (by kernel_rfl) fun hb => ?_
 refine at_code mixed Tryd.func59 (by kernel_rfl) rfl (by kernel_rfl) rfl fun Q hQ => ?_
 rw [checkpoint_rest_ints_CheckpointDecoder] at hs
 refine goR f0 ?_
 revert hs; refine cS f0 ?_ ?_ <;> intro h1 hs
 ·refine goR f0 ?_
  obtain rfl := sj hs
  refine hQ _ _ (ret2g _ (Gh.unz _) (by simp [St.frz, St.pur]; rfl) (by first | rfl | (simp [St.frz, St.pur]; done) | (rw [if_pos (by first | omega | (simp; omega))]; simp [St.frz, St.pur]; first | omega | exact List.take_of_length_le (by simp; omega) | skip)) (pv f0))
 ·refine goR f0 ?_
  revert hs; refine bK fun y2 hx3 hs => ?_
  refine cP f0 (at_frame_Ints hx3) ?_
  refine goR f0 ?_
  obtain rfl := sj hs
  refine hQ _ _ (ret2g _ (Gh.refl _) (by simp [St.frz, St.pur]; rfl) (by first | rfl | (simp [St.frz, St.pur]; done) | (rw [if_pos (by first | omega | (simp; omega))]; simp [St.frz, St.pur]; first | omega | exact List.take_of_length_le (by simp; omega) | skip)) (pv f0))
end Go.Dc
end
section
set_option linter.all false
namespace Go.Dc
open Go Go.Hw Go.Proofs
set_option maxRecDepth 100000
def checkpoint_rest_uint (fuelN : Nat) (a0 : CheckpointRest) : Option (Int × CheckpointRest) :=
 cond (!(eqI a0.err 0)) (some (0, a0)) (Option.bind (frame_Uint fuelN a0.bytes) (fun y2 => some (y2.1, ({ bytes := y2.2.1, err := y2.2.2 } : CheckpointRest))))
end Go.Dc
end
section
set_option linter.all false
namespace Go.Dc
open Go Go.Hw Go.Proofs
set_option maxRecDepth 100000
def checkpoint_decoder_tree_L1 (fuelN : Nat) (a2 : Int) (y1 : Int × CheckpointDecoder) (rF60z : CheckpointDecoder -> Tree -> Int -> Option (CheckpointDecoder × Tree)) : Nat -> Int -> (List UInt8) -> Int -> Int -> (List Frame) -> Bool -> Int -> Int -> (List Tree) -> Option ((List UInt8) × Int × Int × (List Frame) × Bool × Int × Int × (List Tree))
 | 0, _, _, _, _, _, _, _, _, _ => none
 | q240 + 1, i150, l151, i152, i153, l154, b155, i156, i157, l158 => cond (andB (ltI i150 y1.1) (eqI i152 0)) (Option.bind (α := (List UInt8) × Int × Int × (List Frame) × Bool × Int × Int × (List Tree)) (Option.bind (checkpoint_rest_int_CheckpointDecoder fuelN ({ rest := ({ bytes := l151, err := i152 } : CheckpointRest), done := i153, out := ({ Frames := l154, Done := b155, Count := i156, Blocked := i157 } : Snapshot) } : CheckpointDecoder)) (fun y282 => Option.bind (rF60z y282.2 ({ Agent := y282.1, Kids := ([] : List Tree) } : Tree) (IntKind.i64.wrap (a2 + 1))) (fun y284 => Option.bind (some ([y284.2])) (fun l302 => guardO (limB 32 (l158.length + l302.length)) (Option.bind (some (l158 ++ l302)) (fun l305 => some ((y284.1.rest.bytes, y284.1.rest.err, y284.1.done, y284.1.out.Frames, y284.1.out.Done, y284.1.out.Count, y284.1.out.Blocked, l305)))))))) (fun o => match o with | (l270, i271, i272, l273, b274, i275, i276, l277) => checkpoint_decoder_tree_L1 fuelN a2 y1 rF60z q240 (IntKind.i64.wrap (i150 + 1)) l270 i271 i272 l273 b274 i275 i276 l277)) (some ((l151, i152, i153, l154, b155, i156, i157, l158)))
def checkpoint_decoder_tree_B (rF60z : CheckpointDecoder -> Tree -> Int -> Option (CheckpointDecoder × Tree)) (fuelN : Nat) (a0 : CheckpointDecoder) (a1 : Tree) (a2 : Int) : Option (CheckpointDecoder × Tree) :=
 Option.bind (checkpoint_rest_uint_CheckpointDecoder fuelN a0) (fun y1 => Option.bind (α := Int × (List Frame) × (List Tree)) (cond (andB (andB (eqI y1.2.rest.err 0) (ltI 0 y1.1)) (eqI a2 512)) (some ((3, y1.2.out.Frames, a1.Kids))) (some ((y1.2.rest.err, y1.2.out.Frames, a1.Kids)))) (fun o => match o with | (i4, l5, l6) => Option.bind (checkpoint_decoder_tree_L1 fuelN a2 y1 rF60z fuelN 0 y1.2.rest.bytes i4 y1.2.done l5 y1.2.out.Done y1.2.out.Count y1.2.out.Blocked l6) (fun o => match o with | (l226, i227, i228, l229, b230, i231, i232, l233) => some (({ rest := ({ bytes := l226, err := i227 } : CheckpointRest), done := i228, out := ({ Frames := l229, Done := b230, Count := i231, Blocked := i232 } : Snapshot) } : CheckpointDecoder), { a1 with Kids := l233 }))))
def checkpoint_decoder_tree : Nat -> CheckpointDecoder -> Tree -> Int -> Option (CheckpointDecoder × Tree)
 | 0 => fun _ _ _ => none
 | fuelN + 1 => fun a0 a1 a2 => checkpoint_decoder_tree_B (checkpoint_decoder_tree fuelN) fuelN a0 a1 a2
set_option maxHeartbeats 2000000 in
theorem at_checkpoint_decoder_tree_B {rF60z : CheckpointDecoder -> Tree -> Int -> Option (CheckpointDecoder × Tree)} (ihrF60z : ∀ (a0 : CheckpointDecoder) (a1 : Tree) (a2 : Int) (r : CheckpointDecoder × Tree), rF60z a0 a1 a2 = some r -> CAt Tryd.prog 60 [.cell (.ref (.a 0) 0), .cell (.ref (.a 1) 0), iV .i64 a2] [.cells [sC a0.rest.bytes, nC a0.rest.err, nC a0.done, .own (.sp 4 a0.out.Frames.length (encL a0.out.Frames)), bC a0.out.Done, nC a0.out.Count, nC a0.out.Blocked], .cells [nC a1.Agent, .own (.sp 2 a1.Kids.length (encL a1.Kids))]] (.ret (.tup [])) [(.a 0, .cells [sC r.1.rest.bytes, nC r.1.rest.err, nC r.1.done, .own (.sp 4 r.1.out.Frames.length (encL r.1.out.Frames)), bC r.1.out.Done, nC r.1.out.Count, nC r.1.out.Blocked]), (.a 1, .cells [nC r.2.Agent, .own (.sp 2 r.2.Kids.length (encL r.2.Kids))])]) {fuelN : Nat} {a0 : CheckpointDecoder} {a1 : Tree} {a2 : Int} {r : CheckpointDecoder × Tree} (hs : checkpoint_decoder_tree_B rF60z fuelN a0 a1 a2 = some r) : CAt Tryd.prog 60 [.cell (.ref (.a 0) 0), .cell (.ref (.a 1) 0), iV .i64 a2] [.cells [sC a0.rest.bytes, nC a0.rest.err, nC a0.done, .own (.sp 4 a0.out.Frames.length (encL a0.out.Frames)), bC a0.out.Done, nC a0.out.Count, nC a0.out.Blocked], .cells [nC a1.Agent, .own (.sp 2 a1.Kids.length (encL a1.Kids))]] (.ret (.tup [])) [(.a 0, .cells [sC r.1.rest.bytes, nC r.1.rest.err, nC r.1.done, .own (.sp 4 r.1.out.Frames.length (encL r.1.out.Frames)), bC r.1.out.Done, nC r.1.out.Count, nC r.1.out.Blocked]), (.a 1, .cells [nC r.2.Agent, .own (.sp 2 r.2.Kids.length (encL r.2.Kids))])] := by
 refine at_bound (by kernel_rfl) fun hb => ?_
 refine at_code mixed Tryd.func60 (by kernel_rfl) rfl (by kernel_rfl) rfl fun Q hQ => ?_
 rw [checkpoint_decoder_tree_B] at hs
 refine goR f0 ?_
 revert hs; refine bK fun y1 hx2 hs => ?_
 refine cB f0 (at_checkpoint_rest_uint_CheckpointDecoder hx2) [.a 0] ?_
 refine goG2 f0 f0 ?_
 revert hs; refine bK fun o8 e7 hs => ?_
 refine awp_cutK (fun (v : Int × (List Frame) × (List Tree)) (σ : St) => some (v) = some o8 /\ σ.env 0 = .cell (.ref (.a 0) 0) /\ σ.env 1 = .cell (.ref (.a 1) 0) /\ σ.env 2 = iV .i64 a2 /\ σ.env 6 = iV .i64 y1.1 /\ σ.hp (.a 0) = some (.cells [sC y1.2.rest.bytes, nC v.1, nC y1.2.done, .own (.sp 4 v.2.1.length (encL v.2.1)), bC y1.2.out.Done, nC y1.2.out.Count, nC y1.2.out.Blocked]) /\ σ.hp (.a 1) = some (.cells [nC a1.Agent, .own (.sp 2 v.2.2.length (encL v.2.2))]) /\ 2 <= σ.gen) (by rfl) (fun Q hK9 hX10 => ?_) (fun v σ1 hp => ?_)
 ·refine goG f0 f0 ?_
  revert e7; refine cS f0 ?_ ?_ <;> intro h11 e7
  ·refine goG f0 f0 ?_
   exact hK9 (3, y1.2.out.Frames, a1.Kids) _ _ (Gh.refl _) ⟨e7, pv f0, pv f0, pv f0, pv f0, pv f0, pv f0, pg⟩
  ·refine goG f0 f0 ?_
   exact hK9 (y1.2.rest.err, y1.2.out.Frames, a1.Kids) _ _ (Gh.refl _) ⟨e7, pv f0, pv f0, pv f0, pv f0, pv f0, pv f0, pg⟩
 ·obtain ⟨i4, l5, l6⟩ := v
  dsimp only at hp
  obtain ⟨e7, h2_0, h2_1, h2_2, h2_6, g2_0, g2_1, n2_g⟩ := hp
  obtain rfl := sj e7
  try dsimp only at hs
  have F1 := an h2_0 (an h2_1 (an h2_2 (an h2_6 (an g2_0 g2_1))))
  refine goG F1 F1 ?_
  revert hs; refine bK fun o235 e234 hs => ?_
  refine awp_loopW (fun (v : Nat × Int × (List UInt8) × Int × Int × (List Frame) × Bool × Int × Int × (List Tree)) (σ : St) => checkpoint_decoder_tree_L1 fuelN a2 y1 rF60z v.1 v.2.1 v.2.2.1 v.2.2.2.1 v.2.2.2.2.1 v.2.2.2.2.2.1 v.2.2.2.2.2.2.1 v.2.2.2.2.2.2.2.1 v.2.2.2.2.2.2.2.2.1 v.2.2.2.2.2.2.2.2.2 = some o235 /\ σ.env 0 = .cell (.ref (.a 0) 0) /\ σ.env 1 = .cell (.ref (.a 1) 0) /\ σ.env 2 = iV .i64 a2 /\ σ.env 6 = iV .i64 y1.1 /\ σ.env 7 = iV .i64 v.2.1 /\ σ.hp (.a 0) = some (.cells [sC v.2.2.1, nC v.2.2.2.1, nC v.2.2.2.2.1, .own (.sp 4 v.2.2.2.2.2.1.length (encL v.2.2.2.2.2.1)), bC v.2.2.2.2.2.2.1, nC v.2.2.2.2.2.2.2.1, nC v.2.2.2.2.2.2.2.2.1]) /\ σ.hp (.a 1) = some (.cells [nC a1.Agent, .own (.sp 2 v.2.2.2.2.2.2.2.2.2.length (encL v.2.2.2.2.2.2.2.2.2))]) /\ (σ1.gen + 1) <= σ.gen) (fun v => v.1) _ (Gh.refl _) (fuelN, 0, y1.2.rest.bytes, i4, y1.2.done, l5, y1.2.out.Done, y1.2.out.Count, y1.2.out.Blocked, l6) ⟨e234, pv F1, pv F1, pv F1, pv F1, pv F1, pv F1, pv F1, pg⟩ fun v σ10 hp L236 hL237 => ?_
  obtain ⟨q239, i150, l151, i152, i153, l154, b155, i156, i157, l158⟩ := v
  dsimp only at hp hL237
  obtain ⟨e234, h9_0, h9_1, h9_2, h9_6, h9_7, g9_0, g9_1, n9_g⟩ := hp
  rcases q239 with _ | q240
  ·rw [checkpoint_decoder_tree_L1] at e234; cases e234
  ·rw [checkpoint_decoder_tree_L1] at e234; try dsimp only at e234
   have F2 := an h9_0 (an h9_1 (an h9_2 (an h9_6 (an h9_7 (an g9_0 g9_1)))))
   refine goG F2 F2 ?_
   revert e234; refine cS F2 ?_ ?_ <;> intro h244 e234
   ·refine goG2 F2 F2 ?_
    revert e234; refine bK fun o279 e278 e234 => ?_
    refine awp_cutK (fun (v : (List UInt8) × Int × Int × (List Frame) × Bool × Int × Int × (List Tree)) (σ : St) => some (v) = some o279 /\ σ.env 0 = .cell (.ref (.a 0) 0) /\ σ.env 1 = .cell (.ref (.a 1) 0) /\ σ.env 2 = iV .i64 a2 /\ σ.env 6 = iV .i64 y1.1 /\ σ.env 7 = iV .i64 i150 /\ σ.hp (.a 0) = some (.cells [sC v.1, nC v.2.1, nC v.2.2.1, .own (.sp 4 v.2.2.2.1.length (encL v.2.2.2.1)), bC v.2.2.2.2.1, nC v.2.2.2.2.2.1, nC v.2.2.2.2.2.2.1]) /\ σ.hp (.l 11) = some (.pure (encL v.2.2.2.2.2.2.2)) /\ σ.hp (.a 1) = some (.cells [nC a1.Agent, .sl (.l 11) 0 2 v.2.2.2.2.2.2.2.length]) /\ (σ10.gen + 1) <= σ.gen) (by rfl) (fun Q hK280 hX281 => ?_) (fun v σ11 hp => ?_)
    ·refine goG F2 F2 ?_
     revert e278; refine bK fun y282 hx283 e278 => ?_
     refine cB F2 (at_checkpoint_rest_int_CheckpointDecoder hx283) [.a 0] ?_
     repeat (first | simp [F2] | with_reducible first | refine And.intro (by omega) ?_ | refine optF_if (by omega) ?_ | refine gsel_pure (by with_unfolding_all rfl) _ (fun hg => by (try simp at hg); first | (simp [hg, F2]; rfl) | (simp [F2]; simp only [if_pos hg]; simp [F2]; rfl)) ?_)
     refine awp_gh (by rfl) ((Gh.voidB _ (.l 12) (.o (σ10.gen + 2) 5 0) 1 2 rfl (by simp [F2]; rfl) (by first | rfl | simp) (by simp)).trans (Gh.close _ (.o (σ10.gen + 2) 5 0) 1)) ?_
     try simp only [St.frz, St.pur]
     refine goR F2 ?_
     revert e278; refine bK fun y284 hx285 e278 => ?_
     refine cB F2 (ihrF60z _ _ _ _ hx285) [.a 0, .o (σ10.gen + 2) 5 0] ?_
     refine goN F2 ?_
     refine awp_coin rfl (by kernel_rfl) (by kernel_rfl) (by kernel_rfl) (by kernel_rfl) (by kernel_rfl) (by kernel_rfl) (by simp) (by simp) (by simp) fun coin286 => ?_
     simp only [St.coin_eq]
     refine goR F2 ?_
     rcases coin286 with _ | _
     all_goals refine ⟨fun h => ?_, fun h => ?_⟩
     any_goals (cases h; done)
     ·clear h
      refine goN F2 ?_
      refine awp_gh (by rfl) ((Gh.opn _ (.a 1) 1).trans (Gh.opn _ (.o (σ10.gen + 2) 5 0) 1)) ?_
      try simp only [St.frz, St.pur]
      revert e278; refine lK fun l302 hx303 e278 => ?_
      have hx303n : l302.length = 1 := by rw [hx303]; rfl
      obtain ⟨g304, e278⟩ := guardO_some e278
      have g304 := limB_t g304
      obtain ⟨g304a, g304b⟩ := g304
      revert e278; refine lK fun l305 hx306 e278 => ?_
      have hx306n : l305.length = (l158.length + l302.length) := by rw [hx306]; simp
      have hx306e : encL l305 = encL l158 ++ encL l302 := by rw [hx306]; simp
      have F3 := an F2 (an hx303 (an hx306n hx306e))
      refine goD F3 ?_
      exact hK280 (y284.1.rest.bytes, y284.1.rest.err, y284.1.done, y284.1.out.Frames, y284.1.out.Done, y284.1.out.Count, y284.1.out.Blocked, l305) _ _ ((Gh.frz _ (.o (σ10.gen + 6) 0 1)).trans ((Gh.pur _ (.o (σ10.gen + 7) 6 0)).trans ((Gh.pur _ (.o (σ10.gen + 7) 7 0)).trans (Gh.ren _ (.o (σ10.gen + 7) 7 0) (.l 11) (by simp) rfl rfl)))) ⟨e278, pv F3, pv F3, pv F3, pv F3, pv F3, pv F3, pv F3, pv F3, pg⟩
     ·clear h
      replace e278 := (show (Option.bind (some ([y284.2])) (fun l302 => guardO (limB 32 (l158.length + l302.length)) (Option.bind (some (l158 ++ l302)) (fun l305 => some ((y284.1.rest.bytes, y284.1.rest.err, y284.1.done, y284.1.out.Frames, y284.1.out.Done, y284.1.out.Count, y284.1.out.Blocked, l305)))))) = _ -> (Option.bind (some ([({ Agent := 0, Kids := [] } : Tree)])) (fun l287 => guardO (limB 32 (l158.length + l287.length)) (Option.bind (some (l158 ++ l287)) (fun l290 => Option.bind (l290[l158.length]?) (fun x292 => Option.bind (some (l290.set l158.length y284.2)) (fun l294 => some ((y284.1.rest.bytes, y284.1.rest.err, y284.1.done, y284.1.out.Frames, y284.1.out.Done, y284.1.out.Count, y284.1.out.Blocked, l294)))))))) = _ from fun h => by simp only [Option.bind_some, coin_get, coin_set] at h ⊢; exact h) e278
      revert e278; refine lK fun l287 hx288 e278 => ?_
      have hx288n : l287.length = 1 := by rw [hx288]; rfl
      obtain ⟨g289, e278⟩ := guardO_some e278
      have g289 := limB_t g289
      obtain ⟨g289a, g289b⟩ := g289
      revert e278; refine lK fun l290 hx291 e278 => ?_
      have hx291n : l290.length = (l158.length + l287.length) := by rw [hx291]; simp
      have hx291e : encL l290 = encL l158 ++ encL l287 := by rw [hx291]; simp
      have F4 := an F2 (an hx288 (an hx291n hx291e))
      refine goN F4 ?_
      refine awp_reg ?_
      refine goN F4 ?_
      refine awp_gh (by rfl) ((Gh.opn _ (.o (σ10.gen + 2) 5 0) 1).trans (Gh.frz _ (.o (σ10.gen + 6) 0 1))) ?_
      try simp only [St.frz, St.pur]
      revert e278; refine bK fun x292 hx293 e278 => ?_
      have hx293b := getN_some hx293
      revert e278; refine lK fun l294 hx295 e278 => ?_
      have f296 : setRun (encL l290) (l158.length * 2) [.c (.int .i64 y284.2.Agent), .sl y284.2.Kids.length (encL y284.2.Kids)] = encL l294 := hx295 ▸ setRun_enc hx293 (f := 0) (by simp) (by simp [setRun])
      simp only [setRun] at f296
      have f296z := f296
      try simp [F4] at f296z
      have f296n : l294.length = l290.length := by rw [hx295]; simp
      have F5 := an F4 (an f296z (an f296 f296n))
      refine goR F5 ?_
      exact hK280 (y284.1.rest.bytes, y284.1.rest.err, y284.1.done, y284.1.out.Frames, y284.1.out.Done, y284.1.out.Count, y284.1.out.Blocked, l294) _ _ (Gh.ren _ (.o (σ10.gen + 5) 6 0) (.l 11) (by simp) rfl rfl) ⟨e278, pv F5, pv F5, pv F5, pv F5, pv F5, pv F5, pv F5, pv F5, pg⟩
    ·obtain ⟨l270, i271, i272, l273, b274, i275, i276, l277⟩ := v
     dsimp only at hp
     obtain ⟨e278, h12_0, h12_1, h12_2, h12_6, h12_7, g12_0, g12_1, g12_2, n12_g⟩ := hp
     obtain rfl := sj e278
     try dsimp only at e234
     have F6 := an h12_0 (an h12_1 (an h12_2 (an h12_6 (an h12_7 (an g12_0 (an g12_1 g12_2))))))
     refine goG F6 F6 ?_
     exact hL237 (q240, IntKind.i64.wrap (i150 + 1), l270, i271, i272, l273, b274, i275, i276, l277) _ _ (Gh.close _ (.a 1) 1) ⟨e234, pv F6, pv F6, pv F6, pv F6, pv F6, pv F6, pv F6, pg⟩ (by omega)
   ·refine goG F2 F2 ?_
    obtain rfl := sj e234
    try dsimp only at hs
    obtain rfl := sj hs
    refine hQ _ _ (ret2g _ (Gh.refl _) (by simp [St.frz, St.pur, F2]; rfl) (by first | rfl | (simp [St.frz, St.pur, F2]; done) | (rw [if_pos (by first | omega | (simp; omega))]; simp [St.frz, St.pur, F2]; first | omega | exact List.take_of_length_le (by simp; omega) | skip)) (pv F2))
theorem at_checkpoint_decoder_tree : ∀ {fuelN : Nat} {a0 : CheckpointDecoder} {a1 : Tree} {a2 : Int} {r : CheckpointDecoder × Tree} (hs : checkpoint_decoder_tree fuelN a0 a1 a2 = some r), CAt Tryd.prog 60 [.cell (.ref (.a 0) 0), .cell (.ref (.a 1) 0), iV .i64 a2] [.cells [sC a0.rest.bytes, nC a0.rest.err, nC a0.done, .own (.sp 4 a0.out.Frames.length (encL a0.out.Frames)), bC a0.out.Done, nC a0.out.Count, nC a0.out.Blocked], .cells [nC a1.Agent, .own (.sp 2 a1.Kids.length (encL a1.Kids))]] (.ret (.tup [])) [(.a 0, .cells [sC r.1.rest.bytes, nC r.1.rest.err, nC r.1.done, .own (.sp 4 r.1.out.Frames.length (encL r.1.out.Frames)), bC r.1.out.Done, nC r.1.out.Count, nC r.1.out.Blocked]), (.a 1, .cells [nC r.2.Agent, .own (.sp 2 r.2.Kids.length (encL r.2.Kids))])]
 | 0, _, _, _, _, hs => by rw [checkpoint_decoder_tree] at hs; cases hs
 | n + 1, _, _, _, _, hs => by
  rw [checkpoint_decoder_tree] at hs
  exact at_checkpoint_decoder_tree_B (fun _ _ _ _ h => at_checkpoint_decoder_tree h) hs
end Go.Dc
end
section
set_option linter.all false
namespace Go.Dc
open Go Go.Hw Go.Proofs
set_option maxRecDepth 100000
def checkpoint_decoder_tree_Frame2_L1 (fuelN : Nat) (a2 : Int) (y1 : Int × CheckpointDecoder) : Nat -> Int -> (List UInt8) -> Int -> Int -> (List Frame) -> Bool -> Int -> Int -> (List Tree) -> Option ((List UInt8) × Int × Int × (List Frame) × Bool × Int × Int × (List Tree))
 | 0, _, _, _, _, _, _, _, _, _ => none
 | q240 + 1, i150, l151, i152, i153, l154, b155, i156, i157, l158 => cond (andB (ltI i150 y1.1) (eqI i152 0)) (Option.bind (α := (List UInt8) × Int × Int × (List Frame) × Bool × Int × Int × (List Tree)) (Option.bind (checkpoint_rest_int_CheckpointDecoder fuelN ({ rest := ({ bytes := l151, err := i152 } : CheckpointRest), done := i153, out := ({ Frames := l154, Done := b155, Count := i156, Blocked := i157 } : Snapshot) } : CheckpointDecoder)) (fun y282 => Option.bind (checkpoint_decoder_tree fuelN y282.2 ({ Agent := y282.1, Kids := ([] : List Tree) } : Tree) (IntKind.i64.wrap (a2 + 1))) (fun y284 => Option.bind (some ([y284.2])) (fun l302 => guardO (limB 32 (l158.length + l302.length)) (Option.bind (some (l158 ++ l302)) (fun l305 => some ((y284.1.rest.bytes, y284.1.rest.err, y284.1.done, y284.1.out.Frames, y284.1.out.Done, y284.1.out.Count, y284.1.out.Blocked, l305)))))))) (fun o => match o with | (l270, i271, i272, l273, b274, i275, i276, l277) => checkpoint_decoder_tree_Frame2_L1 fuelN a2 y1 q240 (IntKind.i64.wrap (i150 + 1)) l270 i271 i272 l273 b274 i275 i276 l277)) (some ((l151, i152, i153, l154, b155, i156, i157, l158)))
def checkpoint_decoder_tree_Frame2 (fuelN : Nat) (a0 : CheckpointDecoder) (a1 : Frame) (a2 : Int) : Option (CheckpointDecoder × Frame) :=
 Option.bind (checkpoint_rest_uint_CheckpointDecoder fuelN a0) (fun y1 => Option.bind (α := Int × (List Frame) × (List Tree)) (cond (andB (andB (eqI y1.2.rest.err 0) (ltI 0 y1.1)) (eqI a2 512)) (some ((3, y1.2.out.Frames, a1.Tree.Kids))) (some ((y1.2.rest.err, y1.2.out.Frames, a1.Tree.Kids)))) (fun o => match o with | (i4, l5, l6) => Option.bind (checkpoint_decoder_tree_Frame2_L1 fuelN a2 y1 fuelN 0 y1.2.rest.bytes i4 y1.2.done l5 y1.2.out.Done y1.2.out.Count y1.2.out.Blocked l6) (fun o => match o with | (l226, i227, i228, l229, b230, i231, i232, l233) => some (({ rest := ({ bytes := l226, err := i227 } : CheckpointRest), done := i228, out := ({ Frames := l229, Done := b230, Count := i231, Blocked := i232 } : Snapshot) } : CheckpointDecoder), { a1 with Tree := ({ Agent := a1.Tree.Agent, Kids := l233 } : Tree) }))))
set_option maxHeartbeats 2000000 in
theorem at_checkpoint_decoder_tree_Frame2 {fuelN : Nat} {a0 : CheckpointDecoder} {a1 : Frame} {a2 : Int} {r : CheckpointDecoder × Frame} (hs : checkpoint_decoder_tree_Frame2 fuelN a0 a1 a2 = some r) : CAt Tryd.prog 60 [.cell (.ref (.a 0) 0), .cell (.ref (.a 1) 2), iV .i64 a2] [.cells [sC a0.rest.bytes, nC a0.rest.err, nC a0.done, .own (.sp 4 a0.out.Frames.length (encL a0.out.Frames)), bC a0.out.Done, nC a0.out.Count, nC a0.out.Blocked], .cells [nC a1.Agent, sC a1.Sleep, nC a1.Tree.Agent, .own (.sp 2 a1.Tree.Kids.length (encL a1.Tree.Kids))]] (.ret (.tup [])) [(.a 0, .cells [sC r.1.rest.bytes, nC r.1.rest.err, nC r.1.done, .own (.sp 4 r.1.out.Frames.length (encL r.1.out.Frames)), bC r.1.out.Done, nC r.1.out.Count, nC r.1.out.Blocked]), (.a 1, .cells [nC r.2.Agent, sC r.2.Sleep, nC r.2.Tree.Agent, .own (.sp 2 r.2.Tree.Kids.length (encL r.2.Tree.Kids))])] := by
 refine at_bound (by kernel_rfl) fun hb => ?_
 refine at_code mixed Tryd.func60 (by kernel_rfl) rfl (by kernel_rfl) rfl fun Q hQ => ?_
 rw [checkpoint_decoder_tree_Frame2] at hs
 refine goR f0 ?_
 revert hs; refine bK fun y1 hx2 hs => ?_
 refine cB f0 (at_checkpoint_rest_uint_CheckpointDecoder hx2) [.a 0] ?_
 refine goG2 f0 f0 ?_
 revert hs; refine bK fun o8 e7 hs => ?_
 refine awp_cutK (fun (v : Int × (List Frame) × (List Tree)) (σ : St) => some (v) = some o8 /\ σ.env 0 = .cell (.ref (.a 0) 0) /\ σ.env 1 = .cell (.ref (.a 1) 2) /\ σ.env 2 = iV .i64 a2 /\ σ.env 6 = iV .i64 y1.1 /\ σ.hp (.a 0) = some (.cells [sC y1.2.rest.bytes, nC v.1, nC y1.2.done, .own (.sp 4 v.2.1.length (encL v.2.1)), bC y1.2.out.Done, nC y1.2.out.Count, nC y1.2.out.Blocked]) /\ σ.hp (.a 1) = some (.cells [nC a1.Agent, sC a1.Sleep, nC a1.Tree.Agent, .own (.sp 2 v.2.2.length (encL v.2.2))]) /\ 2 <= σ.gen) (by rfl) (fun Q hK9 hX10 => ?_) (fun v σ1 hp => ?_)
 ·refine goG f0 f0 ?_
  revert e7; refine cS f0 ?_ ?_ <;> intro h11 e7
  ·refine goG f0 f0 ?_
   exact hK9 (3, y1.2.out.Frames, a1.Tree.Kids) _ _ (Gh.refl _) ⟨e7, pv f0, pv f0, pv f0, pv f0, pv f0, pv f0, pg⟩
  ·refine goG f0 f0 ?_
   exact hK9 (y1.2.rest.err, y1.2.out.Frames, a1.Tree.Kids) _ _ (Gh.refl _) ⟨e7, pv f0, pv f0, pv f0, pv f0, pv f0, pv f0, pg⟩
 ·obtain ⟨i4, l5, l6⟩ := v
  dsimp only at hp
  obtain ⟨e7, h2_0, h2_1, h2_2, h2_6, g2_0, g2_1, n2_g⟩ := hp
  obtain rfl := sj e7
  try dsimp only at hs
  have F1 := an h2_0 (an h2_1 (an h2_2 (an h2_6 (an g2_0 g2_1))))
  refine goG F1 F1 ?_
  revert hs; refine bK fun o235 e234 hs => ?_
  refine awp_loopW (fun (v : Nat × Int × (List UInt8) × Int × Int × (List Frame) × Bool × Int × Int × (List Tree)) (σ : St) => checkpoint_decoder_tree_Frame2_L1 fuelN a2 y1 v.1 v.2.1 v.2.2.1 v.2.2.2.1 v.2.2.2.2.1 v.2.2.2.2.2.1 v.2.2.2.2.2.2.1 v.2.2.2.2.2.2.2.1 v.2.2.2.2.2.2.2.2.1 v.2.2.2.2.2.2.2.2.2 = some o235 /\ σ.env 0 = .cell (.ref (.a 0) 0) /\ σ.env 1 = .cell (.ref (.a 1) 2) /\ σ.env 2 = iV .i64 a2 /\ σ.env 6 = iV .i64 y1.1 /\ σ.env 7 = iV .i64 v.2.1 /\ σ.hp (.a 0) = some (.cells [sC v.2.2.1, nC v.2.2.2.1, nC v.2.2.2.2.1, .own (.sp 4 v.2.2.2.2.2.1.length (encL v.2.2.2.2.2.1)), bC v.2.2.2.2.2.2.1, nC v.2.2.2.2.2.2.2.1, nC v.2.2.2.2.2.2.2.2.1]) /\ σ.hp (.a 1) = some (.cells [nC a1.Agent, sC a1.Sleep, nC a1.Tree.Agent, .own (.sp 2 v.2.2.2.2.2.2.2.2.2.length (encL v.2.2.2.2.2.2.2.2.2))]) /\ (σ1.gen + 1) <= σ.gen) (fun v => v.1) _ (Gh.refl _) (fuelN, 0, y1.2.rest.bytes, i4, y1.2.done, l5, y1.2.out.Done, y1.2.out.Count, y1.2.out.Blocked, l6) ⟨e234, pv F1, pv F1, pv F1, pv F1, pv F1, pv F1, pv F1, pg⟩ fun v σ10 hp L236 hL237 => ?_
  obtain ⟨q239, i150, l151, i152, i153, l154, b155, i156, i157, l158⟩ := v
  dsimp only at hp hL237
  obtain ⟨e234, h9_0, h9_1, h9_2, h9_6, h9_7, g9_0, g9_1, n9_g⟩ := hp
  rcases q239 with _ | q240
  ·rw [checkpoint_decoder_tree_Frame2_L1] at e234; cases e234
  ·rw [checkpoint_decoder_tree_Frame2_L1] at e234; try dsimp only at e234
   have F2 := an h9_0 (an h9_1 (an h9_2 (an h9_6 (an h9_7 (an g9_0 g9_1)))))
   refine goG F2 F2 ?_
   revert e234; refine cS F2 ?_ ?_ <;> intro h244 e234
   ·refine goG2 F2 F2 ?_
    revert e234; refine bK fun o279 e278 e234 => ?_
    refine awp_cutK (fun (v : (List UInt8) × Int × Int × (List Frame) × Bool × Int × Int × (List Tree)) (σ : St) => some (v) = some o279 /\ σ.env 0 = .cell (.ref (.a 0) 0) /\ σ.env 1 = .cell (.ref (.a 1) 2) /\ σ.env 2 = iV .i64 a2 /\ σ.env 6 = iV .i64 y1.1 /\ σ.env 7 = iV .i64 i150 /\ σ.hp (.a 0) = some (.cells [sC v.1, nC v.2.1, nC v.2.2.1, .own (.sp 4 v.2.2.2.1.length (encL v.2.2.2.1)), bC v.2.2.2.2.1, nC v.2.2.2.2.2.1, nC v.2.2.2.2.2.2.1]) /\ σ.hp (.l 11) = some (.pure (encL v.2.2.2.2.2.2.2)) /\ σ.hp (.a 1) = some (.cells [nC a1.Agent, sC a1.Sleep, nC a1.Tree.Agent, .sl (.l 11) 0 2 v.2.2.2.2.2.2.2.length]) /\ (σ10.gen + 1) <= σ.gen) (by rfl) (fun Q hK280 hX281 => ?_) (fun v σ11 hp => ?_)
    ·refine goG F2 F2 ?_
     revert e278; refine bK fun y282 hx283 e278 => ?_
     refine cB F2 (at_checkpoint_rest_int_CheckpointDecoder hx283) [.a 0] ?_
     repeat (first | simp [F2] | with_reducible first | refine And.intro (by omega) ?_ | refine optF_if (by omega) ?_ | refine gsel_pure (by with_unfolding_all rfl) _ (fun hg => by (try simp at hg); first | (simp [hg, F2]; rfl) | (simp [F2]; simp only [if_pos hg]; simp [F2]; rfl)) ?_)
     refine awp_gh (by rfl) ((Gh.voidB _ (.l 12) (.o (σ10.gen + 2) 5 0) 1 2 rfl (by simp [F2]; rfl) (by first | rfl | simp) (by simp)).trans (Gh.close _ (.o (σ10.gen + 2) 5 0) 1)) ?_
     try simp only [St.frz, St.pur]
     refine goR F2 ?_
     revert e278; refine bK fun y284 hx285 e278 => ?_
     refine cB F2 (at_checkpoint_decoder_tree hx285) [.a 0, .o (σ10.gen + 2) 5 0] ?_
     refine goN F2 ?_
     refine awp_coin rfl (by kernel_rfl) (by kernel_rfl) (by kernel_rfl) (by kernel_rfl) (by kernel_rfl) (by kernel_rfl) (by simp) (by simp) (by simp) fun coin286 => ?_
     simp only [St.coin_eq]
     refine goR F2 ?_
     rcases coin286 with _ | _
     all_goals refine ⟨fun h => ?_, fun h => ?_⟩
     any_goals (cases h; done)
     ·clear h
      refine goN F2 ?_
      refine awp_gh (by rfl) ((Gh.opn _ (.a 1) 3).trans (Gh.opn _ (.o (σ10.gen + 2) 5 0) 1)) ?_
      try simp only [St.frz, St.pur]
      revert e278; refine lK fun l302 hx303 e278 => ?_
      have hx303n : l302.length = 1 := by rw [hx303]; rfl
      obtain ⟨g304, e278⟩ := guardO_some e278
      have g304 := limB_t g304
      obtain ⟨g304a, g304b⟩ := g304
      revert e278; refine lK fun l305 hx306 e278 => ?_
      have hx306n : l305.length = (l158.length + l302.length) := by rw [hx306]; simp
      have hx306e : encL l305 = encL l158 ++ encL l302 := by rw [hx306]; simp
      have F3 := an F2 (an hx303 (an hx306n hx306e))
      refine goD F3 ?_
      exact hK280 (y284.1.rest.bytes, y284.1.rest.err, y284.1.done, y284.1.out.Frames, y284.1.out.Done, y284.1.out.Count, y284.1.out.Blocked, l305) _ _ ((Gh.frz _ (.o (σ10.gen + 6) 0 1)).trans ((Gh.pur _ (.o (σ10.gen + 7) 6 0)).trans ((Gh.pur _ (.o (σ10.gen + 7) 7 0)).trans (Gh.ren _ (.o (σ10.gen + 7) 7 0) (.l 11) (by simp) rfl rfl)))) ⟨e278, pv F3, pv F3, pv F3, pv F3, pv F3, pv F3, pv F3, pv F3, pg⟩
     ·clear h
      replace e278 := (show (Option.bind (some ([y284.2])) (fun l302 => guardO (limB 32 (l158.length + l302.length)) (Option.bind (some (l158 ++ l302)) (fun l305 => some ((y284.1.rest.bytes, y284.1.rest.err, y284.1.done, y284.1.out.Frames, y284.1.out.Done, y284.1.out.Count, y284.1.out.Blocked, l305)))))) = _ -> (Option.bind (some ([({ Agent := 0, Kids := [] } : Tree)])) (fun l287 => guardO (limB 32 (l158.length + l287.length)) (Option.bind (some (l158 ++ l287)) (fun l290 => Option.bind (l290[l158.length]?) (fun x292 => Option.bind (some (l290.set l158.length y284.2)) (fun l294 => some ((y284.1.rest.bytes, y284.1.rest.err, y284.1.done, y284.1.out.Frames, y284.1.out.Done, y284.1.out.Count, y284.1.out.Blocked, l294)))))))) = _ from fun h => by simp only [Option.bind_some, coin_get, coin_set] at h ⊢; exact h) e278
      revert e278; refine lK fun l287 hx288 e278 => ?_
      have hx288n : l287.length = 1 := by rw [hx288]; rfl
      obtain ⟨g289, e278⟩ := guardO_some e278
      have g289 := limB_t g289
      obtain ⟨g289a, g289b⟩ := g289
      revert e278; refine lK fun l290 hx291 e278 => ?_
      have hx291n : l290.length = (l158.length + l287.length) := by rw [hx291]; simp
      have hx291e : encL l290 = encL l158 ++ encL l287 := by rw [hx291]; simp
      have F4 := an F2 (an hx288 (an hx291n hx291e))
      refine goN F4 ?_
      refine awp_reg ?_
      refine goN F4 ?_
      refine awp_gh (by rfl) ((Gh.opn _ (.o (σ10.gen + 2) 5 0) 1).trans (Gh.frz _ (.o (σ10.gen + 6) 0 1))) ?_
      try simp only [St.frz, St.pur]
      revert e278; refine bK fun x292 hx293 e278 => ?_
      have hx293b := getN_some hx293
      revert e278; refine lK fun l294 hx295 e278 => ?_
      have f296 : setRun (encL l290) (l158.length * 2) [.c (.int .i64 y284.2.Agent), .sl y284.2.Kids.length (encL y284.2.Kids)] = encL l294 := hx295 ▸ setRun_enc hx293 (f := 0) (by simp) (by simp [setRun])
      simp only [setRun] at f296
      have f296z := f296
      try simp [F4] at f296z
      have f296n : l294.length = l290.length := by rw [hx295]; simp
      have F5 := an F4 (an f296z (an f296 f296n))
      refine goR F5 ?_
      exact hK280 (y284.1.rest.bytes, y284.1.rest.err, y284.1.done, y284.1.out.Frames, y284.1.out.Done, y284.1.out.Count, y284.1.out.Blocked, l294) _ _ (Gh.ren _ (.o (σ10.gen + 5) 6 0) (.l 11) (by simp) rfl rfl) ⟨e278, pv F5, pv F5, pv F5, pv F5, pv F5, pv F5, pv F5, pv F5, pg⟩
    ·obtain ⟨l270, i271, i272, l273, b274, i275, i276, l277⟩ := v
     dsimp only at hp
     obtain ⟨e278, h12_0, h12_1, h12_2, h12_6, h12_7, g12_0, g12_1, g12_2, n12_g⟩ := hp
     obtain rfl := sj e278
     try dsimp only at e234
     have F6 := an h12_0 (an h12_1 (an h12_2 (an h12_6 (an h12_7 (an g12_0 (an g12_1 g12_2))))))
     refine goG F6 F6 ?_
     exact hL237 (q240, IntKind.i64.wrap (i150 + 1), l270, i271, i272, l273, b274, i275, i276, l277) _ _ (Gh.close _ (.a 1) 3) ⟨e234, pv F6, pv F6, pv F6, pv F6, pv F6, pv F6, pv F6, pg⟩ (by omega)
   ·refine goG F2 F2 ?_
    obtain rfl := sj e234
    try dsimp only at hs
    obtain rfl := sj hs
    refine hQ _ _ (ret2g _ (Gh.refl _) (by simp [St.frz, St.pur, F2]; rfl) (by first | rfl | (simp [St.frz, St.pur, F2]; done) | (rw [if_pos (by first | omega | (simp; omega))]; simp [St.frz, St.pur, F2]; first | omega | exact List.take_of_length_le (by simp; omega) | skip)) (pv F2))
end Go.Dc
end
section
set_option linter.all false
namespace Go.Dc
open Go Go.Hw Go.Proofs
set_option maxRecDepth 100000
def checkpoint_decoder_snapshot_L1 (fuelN : Nat) (y7 : Int × CheckpointDecoder) : Nat -> Int -> (List UInt8) -> Int -> Int -> (List Frame) -> Bool -> Int -> Int -> Option ((List UInt8) × Int × Int × (List Frame) × Bool × Int × Int)
 | 0, _, _, _, _, _, _, _, _ => none
 | q108 + 1, i65, l66, i67, i68, l69, b70, i71, i72 => cond (andB (ltI i65 y7.1) (eqI i67 0)) (Option.bind (checkpoint_rest_int_CheckpointDecoder fuelN ({ rest := ({ bytes := l66, err := i67 } : CheckpointRest), done := i68, out := ({ Frames := l69, Done := b70, Count := i71, Blocked := i72 } : Snapshot) } : CheckpointDecoder)) (fun y117 => Option.bind (checkpoint_rest_ints_CheckpointDecoder fuelN y117.2) (fun y119 => Option.bind (checkpoint_decoder_tree_Frame2 fuelN y119.2 ({ Agent := y117.1, Sleep := y119.1, Tree := ({ Agent := 0, Kids := ([] : List Tree) } : Tree) } : Frame) 0) (fun y121 => Option.bind (some ([y121.2])) (fun l128 => guardO (limB 64 (y121.1.out.Frames.length + l128.length)) (Option.bind (some (y121.1.out.Frames ++ l128)) (fun l131 => checkpoint_decoder_snapshot_L1 fuelN y7 q108 (IntKind.i64.wrap (i65 + 1)) y121.1.rest.bytes y121.1.rest.err y121.1.done l131 y121.1.out.Done y121.1.out.Count y121.1.out.Blocked))))))) (some ((l66, i67, i68, l69, b70, i71, i72)))
def checkpoint_decoder_snapshot (fuelN : Nat) (a0 : CheckpointDecoder) : Option CheckpointDecoder :=
 Option.bind (checkpoint_rest_uint_CheckpointDecoder fuelN a0) (fun y1 => Option.bind (checkpoint_rest_uint_CheckpointDecoder fuelN ({ rest := y1.2.rest, done := y1.1, out := ({ Frames := y1.2.out.Frames, Done := eqI y1.1 1, Count := y1.2.out.Count, Blocked := y1.2.out.Blocked } : Snapshot) } : CheckpointDecoder)) (fun y3 => Option.bind (checkpoint_rest_uint_CheckpointDecoder fuelN ({ rest := y3.2.rest, done := y3.2.done, out := ({ Frames := y3.2.out.Frames, Done := y3.2.out.Done, Count := y3.1, Blocked := y3.2.out.Blocked } : Snapshot) } : CheckpointDecoder)) (fun y5 => Option.bind (checkpoint_rest_uint_CheckpointDecoder fuelN ({ rest := y5.2.rest, done := y5.2.done, out := ({ Frames := y5.2.out.Frames, Done := y5.2.out.Done, Count := y5.2.out.Count, Blocked := y5.1 } : Snapshot) } : CheckpointDecoder)) (fun y7 => Option.bind (α := Int × (List Frame)) (cond (andB (eqI y7.2.rest.err 0) (ltI 512 y7.1)) (some ((3, y7.2.out.Frames))) (some ((y7.2.rest.err, y7.2.out.Frames)))) (fun o => match o with | (i10, l11) => Option.bind (checkpoint_decoder_snapshot_L1 fuelN y7 fuelN 0 y7.2.rest.bytes i10 y7.2.done l11 y7.2.out.Done y7.2.out.Count y7.2.out.Blocked) (fun o => match o with | (l95, i96, i97, l98, b99, i100, i101) => some ({ rest := ({ bytes := l95, err := i96 } : CheckpointRest), done := i97, out := ({ Frames := l98, Done := b99, Count := i100, Blocked := i101 } : Snapshot) } : CheckpointDecoder)))))))
set_option maxHeartbeats 2000000 in
theorem at_checkpoint_decoder_snapshot {fuelN : Nat} {a0 : CheckpointDecoder} {r : CheckpointDecoder} (hs : checkpoint_decoder_snapshot fuelN a0 = some r) : CAt Tryd.prog 37 [.cell (.ref (.a 0) 0)] [.cells [sC a0.rest.bytes, nC a0.rest.err, nC a0.done, .own (.sp 4 a0.out.Frames.length (encL a0.out.Frames)), bC a0.out.Done, nC a0.out.Count, nC a0.out.Blocked]] (.ret (.tup [])) [(.a 0, .cells [sC r.rest.bytes, nC r.rest.err, nC r.done, .own (.sp 4 r.out.Frames.length (encL r.out.Frames)), bC r.out.Done, nC r.out.Count, nC r.out.Blocked])] := by
 refine at_bound (by kernel_rfl) fun hb => ?_
 refine at_code mixed Tryd.func37 (by kernel_rfl) rfl (by kernel_rfl) rfl fun Q hQ => ?_
 rw [checkpoint_decoder_snapshot] at hs
 refine goR f0 ?_
 revert hs; refine bK fun y1 hx2 hs => ?_
 refine cB f0 (at_checkpoint_rest_uint_CheckpointDecoder hx2) [.a 0] ?_
 refine goR f0 ?_
 revert hs; refine bK fun y3 hx4 hs => ?_
 refine cB f0 (at_checkpoint_rest_uint_CheckpointDecoder hx4) [.a 0] ?_
 refine goR f0 ?_
 revert hs; refine bK fun y5 hx6 hs => ?_
 refine cB f0 (at_checkpoint_rest_uint_CheckpointDecoder hx6) [.a 0] ?_
 refine goR f0 ?_
 revert hs; refine bK fun y7 hx8 hs => ?_
 refine cB f0 (at_checkpoint_rest_uint_CheckpointDecoder hx8) [.a 0] ?_
 refine goG2 f0 f0 ?_
 revert hs; refine bK fun o13 e12 hs => ?_
 refine awp_cutK (fun (v : Int × (List Frame)) (σ : St) => some (v) = some o13 /\ σ.env 0 = .cell (.ref (.a 0) 0) /\ σ.env 2 = iV .i64 y7.1 /\ σ.hp (.a 0) = some (.cells [sC y7.2.rest.bytes, nC v.1, nC y7.2.done, .own (.sp 4 v.2.length (encL v.2)), bC y7.2.out.Done, nC y7.2.out.Count, nC y7.2.out.Blocked]) /\ 6 <= σ.gen) (by rfl) (fun Q hK14 hX15 => ?_) (fun v σ1 hp => ?_)
 ·refine goG f0 f0 ?_
  revert e12; refine cS f0 ?_ ?_ <;> intro h16 e12
  ·refine goG f0 f0 ?_
   exact hK14 (3, y7.2.out.Frames) _ _ (Gh.refl _) ⟨e12, pv f0, pv f0, pv f0, pg⟩
  ·refine goG f0 f0 ?_
   exact hK14 (y7.2.rest.err, y7.2.out.Frames) _ _ (Gh.refl _) ⟨e12, pv f0, pv f0, pv f0, pg⟩
 ·obtain ⟨i10, l11⟩ := v
  dsimp only at hp
  obtain ⟨e12, h2_0, h2_2, g2_0, n2_g⟩ := hp
  obtain rfl := sj e12
  try dsimp only at hs
  have F1 := an h2_0 (an h2_2 g2_0)
  refine goG F1 F1 ?_
  revert hs; refine bK fun o103 e102 hs => ?_
  refine awp_loopW (fun (v : Nat × Int × (List UInt8) × Int × Int × (List Frame) × Bool × Int × Int) (σ : St) => checkpoint_decoder_snapshot_L1 fuelN y7 v.1 v.2.1 v.2.2.1 v.2.2.2.1 v.2.2.2.2.1 v.2.2.2.2.2.1 v.2.2.2.2.2.2.1 v.2.2.2.2.2.2.2.1 v.2.2.2.2.2.2.2.2 = some o103 /\ σ.env 0 = .cell (.ref (.a 0) 0) /\ σ.env 2 = iV .i64 y7.1 /\ σ.env 3 = iV .i64 v.2.1 /\ σ.hp (.a 0) = some (.cells [sC v.2.2.1, nC v.2.2.2.1, nC v.2.2.2.2.1, .own (.sp 4 v.2.2.2.2.2.1.length (encL v.2.2.2.2.2.1)), bC v.2.2.2.2.2.2.1, nC v.2.2.2.2.2.2.2.1, nC v.2.2.2.2.2.2.2.2]) /\ (σ1.gen + 1) <= σ.gen) (fun v => v.1) _ (Gh.refl _) (fuelN, 0, y7.2.rest.bytes, i10, y7.2.done, l11, y7.2.out.Done, y7.2.out.Count, y7.2.out.Blocked) ⟨e102, pv F1, pv F1, pv F1, pv F1, pg⟩ fun v σ4 hp L104 hL105 => ?_
  obtain ⟨q107, i65, l66, i67, i68, l69, b70, i71, i72⟩ := v
  dsimp only at hp hL105
  obtain ⟨e102, h3_0, h3_2, h3_3, g3_0, n3_g⟩ := hp
  rcases q107 with _ | q108
  ·rw [checkpoint_decoder_snapshot_L1] at e102; cases e102
  ·rw [checkpoint_decoder_snapshot_L1] at e102; try dsimp only at e102
   have F2 := an h3_0 (an h3_2 (an h3_3 g3_0))
   refine goG F2 F2 ?_
   revert e102; refine cS F2 ?_ ?_ <;> intro h112 e102
   ·refine goE F2 F2 ?_
    revert e102; refine bK fun y117 hx118 e102 => ?_
    refine cB F2 (at_checkpoint_rest_int_CheckpointDecoder hx118) [.a 0] ?_
    refine goE F2 F2 ?_
    revert e102; refine bK fun y119 hx120 e102 => ?_
    refine cB F2 (at_checkpoint_rest_ints_CheckpointDecoder hx120) [.a 0] ?_
    repeat (first | simp [F2] | with_reducible first | refine ord_l (by decide +kernel) ?_ | refine ord_e (by decide +kernel) ?_ | refine ord_c (by decide +kernel) ?_ | refine ord_d (by decide +kernel) ?_ | refine ord_c3 (by decide +kernel) ?_ | refine ord_d3 (by decide +kernel) ?_ | refine And.intro (by omega) ?_ | refine optF_if (by omega) ?_ | refine gsel_pure (by with_unfolding_all rfl) _ (fun hg => by (try simp at hg); first | (simp [hg, F2]; rfl) | (simp [F2]; simp only [if_pos hg]; simp [F2]; rfl)) ?_ | refine dskip_intro ?_ | refine dsel_pure (by with_unfolding_all rfl) _ (fun hg => by (try simp at hg); simp [hg, F2]; rfl) ?_)
    refine awp_gh (by rfl) ((Gh.voidB _ (.l 4) (.o (σ4.gen + 2) 9 0) 3 2 rfl (by simp [F2]; rfl) (by first | rfl | simp) (by simp)).trans (Gh.close _ (.o (σ4.gen + 2) 9 0) 3)) ?_
    try simp only [St.frz, St.pur]
    refine goR F2 ?_
    revert e102; refine bK fun y121 hx122 e102 => ?_
    refine cB F2 (at_checkpoint_decoder_tree_Frame2 hx122) [.a 0, .o (σ4.gen + 2) 9 0] ?_
    refine goN F2 ?_
    refine awp_gh (by rfl) ((Gh.opn _ (.a 0) 3).trans (Gh.opn _ (.o (σ4.gen + 2) 9 0) 3)) ?_
    try simp only [St.frz, St.pur]
    revert e102; refine lK fun l128 hx129 e102 => ?_
    have hx129n : l128.length = 1 := by rw [hx129]; rfl
    obtain ⟨g130, e102⟩ := guardO_some e102
    have g130 := limB_t g130
    obtain ⟨g130a, g130b⟩ := g130
    revert e102; refine lK fun l131 hx132 e102 => ?_
    have hx132n : l131.length = (y121.1.out.Frames.length + l128.length) := by rw [hx132]; simp
    have hx132e : encL l131 = encL y121.1.out.Frames ++ encL l128 := by rw [hx132]; simp
    have F3 := an F2 (an hx129 (an hx132n hx132e))
    refine goN F3 ?_
    refine awp_draw ?_
    refine goN F3 ?_
    refine awp_gh (by rfl) ((Gh.frz _ (.o (σ4.gen + 5) 0 3)).trans ((Gh.pur _ (.o (σ4.gen + 6) 7 0)).trans (Gh.pur _ (.o (σ4.gen + 6) 8 0)))) ?_
    try simp only [St.frz, St.pur]
    refine goR F3 ?_
    have f133 : (encL l131).take (l131.length * 4) = encL l131 := encL_takeN _ (by simp)
    try simp [F3] at f133
    have f133l : l131.length * 4 <= (encL l131).length := by rw [encL_length]; simp
    try simp [F3] at f133l
    have F4 := an F3 (an f133 f133l)
    exact hL105 (q108, IntKind.i64.wrap (i65 + 1), y121.1.rest.bytes, y121.1.rest.err, y121.1.done, l131, y121.1.out.Done, y121.1.out.Count, y121.1.out.Blocked) _ _ (Gh.close _ (.a 0) 3) ⟨e102, pv F4, pv F4, pv F4, pv F4, pg⟩ (by omega)
   ·refine goG F2 F2 ?_
    obtain rfl := sj e102
    try dsimp only at hs
    obtain rfl := sj hs
    refine hQ _ _ (ret2g _ (Gh.refl _) (by simp [St.frz, St.pur, F2]; rfl) (by first | rfl | (simp [St.frz, St.pur, F2]; done) | (rw [if_pos (by first | omega | (simp; omega))]; simp [St.frz, St.pur, F2]; first | omega | exact List.take_of_length_le (by simp; omega) | skip)) (pv F2))
end Go.Dc
end
section
set_option linter.all false
namespace Go.Dc.Pl
open Go Go.Hw Go.Dc
abbrev Rd := List UInt8 × Int
def rdU (r : Rd) : Int × Rd := if r.2 = 0 then uintR r.1 else (0, r)
def rdI (r : Rd) : Int × Rd := if r.2 = 0 then intR r.1 else (0, r)
def rdL (r : Rd) : List Int × Rd := if r.2 = 0 then intsR 2048 r.1 else ([], r)
/-- How far a reader can still go. -/
def meas (r : Rd) : Nat := if r.2 = 0 then r.1.length + 1 else 0
theorem uintR_len {a : List UInt8} : (uintR a).2.1.length <= a.length /\ ((uintR a).2.2 = 0 -> (uintR a).2.1.length < a.length) /\ 0 <= (uintR a).1 /\ (uintR a).1 <= 4611686018427387904 := by
 unfold uintR; split
 ·rename_i h; have := dec_size h; simp; omega
 ·rename_i h; simp [h]
theorem intR_len {a : List UInt8} : (intR a).2.1.length <= a.length /\ ((intR a).2.2 = 0 -> (intR a).2.1.length < a.length) := by
 unfold intR; split
 ·rename_i h; have := decInt_size h; simp; omega
 ·rename_i h; simp [h]
theorem intsR_len {m : Int} {a : List UInt8} : (intsR m a).2.1.length <= a.length /\ ((intsR m a).2.2 = 0 -> (intsR m a).2.1.length < a.length) := by
 unfold intsR
 by_cases h : (dec a).2.2 = 0
 ·have hs := dec_size h
  rw [if_neg (fun e : (dec a).2.2 ≠ 0 => e h)]
  by_cases hc : (if 0 > m then 0 else m) < ((dec a).1 : Int)
  ·rw [if_pos hc]; simp
  ·rw [if_neg hc]
   by_cases h2 : (decInts (dec a).1 (a.drop (dec a).2.1)).2.2 = 0
   ·have := decInts_len _ h2 (Nat.le_refl _)
    rw [List.length_drop] at this; constructor <;> (try intro _) <;> omega
   ·rw [(decInts_err _ h2).2]; simp [h2]
 ·rw [if_pos (show (dec a).2.2 ≠ 0 from h)]; simp [h]
theorem meas_of {a b : List UInt8} {e : Int} (h : b.length <= a.length /\ (e = 0 -> b.length < a.length)) : meas (b, e) < meas (a, 0) := by
 unfold meas
 by_cases he : e = 0
 ·have := h.2 he; rw [if_pos he, if_pos rfl]; simp; omega
 ·rw [if_neg he, if_pos rfl]; omega
theorem rdU_meas (r : Rd) : meas (rdU r).2 <= meas r /\ (rdU r).2.1.length <= r.1.length /\ (r.2 = 0 -> meas (rdU r).2 < meas r) := by
 obtain ⟨a, e⟩ := r
 unfold rdU
 by_cases h : e = 0
 ·subst h; rw [if_pos rfl]; have hl := @uintR_len a; have := meas_of (e := (uintR a).2.2) ⟨hl.1, hl.2.1⟩; exact ⟨Nat.le_of_lt this, hl.1, fun _ => this⟩
 ·rw [if_neg h]; exact ⟨Nat.le_refl _, Nat.le_refl _, fun x => (h x).elim⟩
theorem rdI_meas (r : Rd) : meas (rdI r).2 <= meas r /\ (rdI r).2.1.length <= r.1.length /\ (r.2 = 0 -> meas (rdI r).2 < meas r) := by
 obtain ⟨a, e⟩ := r
 unfold rdI
 by_cases h : e = 0
 ·subst h; rw [if_pos rfl]; have hl := @intR_len a; have := meas_of (e := (intR a).2.2) hl; exact ⟨Nat.le_of_lt this, hl.1, fun _ => this⟩
 ·rw [if_neg h]; exact ⟨Nat.le_refl _, Nat.le_refl _, fun x => (h x).elim⟩
theorem rdL_meas (r : Rd) : meas (rdL r).2 <= meas r /\ (rdL r).2.1.length <= r.1.length := by
 obtain ⟨a, e⟩ := r
 unfold rdL
 by_cases h : e = 0
 ·subst h; rw [if_pos rfl]; have hl := @intsR_len 2048 a; have := meas_of (e := (intsR 2048 a).2.2) hl; exact ⟨Nat.le_of_lt this, hl.1⟩
 ·rw [if_neg h]; exact ⟨Nat.le_refl _, Nat.le_refl _⟩
theorem rdU_nn (r : Rd) : 0 <= (rdU r).1 /\ (rdU r).1 <= 4611686018427387904 := by
 unfold rdU; split
 ·have := @uintR_len r.1; omega
 ·simp
/-- The children of a node: rem of them at most. -/
def trL (F : Rd -> List Tree × Rd) : Nat -> Rd -> List Tree -> List Tree × Rd
 | 0, r, acc => (acc, r)
 | rem + 1, r, acc => if r.2 = 0 then trL F rem (F (rdI r).2).2 (acc ++ [⟨(rdI r).1, (F (rdI r).2).1⟩]) else (acc, r)
def deep (m : Nat) (x : Int × Rd) : Rd := if x.2.2 = 0 /\ 0 < x.1 /\ m = 0 then (x.2.1, 3) else x.2
def tr : Nat -> Rd -> List Tree × Rd
 | 0, r => trL (fun r => ([], r)) (rdU r).1.toNat (deep 0 (rdU r)) []
 | m + 1, r => trL (tr m) (rdU r).1.toNat (deep (m + 1) (rdU r)) []
theorem deep_meas (m : Nat) (x : Int × Rd) : meas (deep m x) <= meas x.2 /\ (deep m x).1.length <= x.2.1.length := by
 unfold deep; split
 ·refine ⟨?_, Nat.le_refl _⟩; simp [meas]
 ·exact ⟨Nat.le_refl _, Nat.le_refl _⟩
theorem trL_meas {F : Rd -> List Tree × Rd} (hF : ∀ r, meas (F r).2 <= meas r /\ (F r).2.1.length <= r.1.length) : ∀ (rem : Nat) (r : Rd) (acc : List Tree), meas (trL F rem r acc).2 <= meas r /\ (trL F rem r acc).2.1.length <= r.1.length
 | 0, r, acc => ⟨Nat.le_refl _, Nat.le_refl _⟩
 | rem + 1, r, acc => by
  rw [trL]; split
  ·have h1 := rdI_meas r; have h2 := hF (rdI r).2; have h3 := trL_meas hF rem (F (rdI r).2).2 (acc ++ [⟨(rdI r).1, (F (rdI r).2).1⟩]); omega
  ·exact ⟨Nat.le_refl _, Nat.le_refl _⟩
theorem tr_meas : ∀ (m : Nat) (r : Rd), meas (tr m r).2 <= meas r /\ (tr m r).2.1.length <= r.1.length
 | 0, r => by
  rw [tr]; have h1 := rdU_meas r; have h2 := deep_meas 0 (rdU r); have h3 := trL_meas (F := fun r => ([], r)) (fun r => ⟨Nat.le_refl _, Nat.le_refl _⟩) (rdU r).1.toNat (deep 0 (rdU r)) []; omega
 | m + 1, r => by
  rw [tr]; have h1 := rdU_meas r; have h2 := deep_meas (m + 1) (rdU r); have h3 := trL_meas (F := tr m) (tr_meas m) (rdU r).1.toNat (deep (m + 1) (rdU r)) []; omega
/-! The program's readers. -/
def rst (d : CheckpointDecoder) : Rd := (d.rest.bytes, d.rest.err)
def withR (d : CheckpointDecoder) (r : Rd) : CheckpointDecoder := { d with rest := ⟨r.1, r.2⟩ }
theorem own_rdU {f : Nat} {d : CheckpointDecoder} (hf : 10 <= f) (hd : d.rest.bytes.length <= 1000000000000) : checkpoint_rest_uint_CheckpointDecoder f d = some ((rdU (rst d)).1, withR d (rdU (rst d)).2) := by
 rw [checkpoint_rest_uint_CheckpointDecoder, eqI_d, rdU]
 by_cases h : d.rest.err = 0
 ·rw [decide_eq_true h, if_pos (show (rst d).2 = 0 from h), own_uint hf hd]; rfl
 ·rw [decide_eq_false h, if_neg (show ¬ (rst d).2 = 0 from h)]; rfl
theorem own_rdI {f : Nat} {d : CheckpointDecoder} (hf : 10 <= f) (hd : d.rest.bytes.length <= 1000000000000) : checkpoint_rest_int_CheckpointDecoder f d = some ((rdI (rst d)).1, withR d (rdI (rst d)).2) := by
 rw [checkpoint_rest_int_CheckpointDecoder, eqI_d, rdI]
 by_cases h : d.rest.err = 0
 ·rw [decide_eq_true h, if_pos (show (rst d).2 = 0 from h), own_int hf hd]; rfl
 ·rw [decide_eq_false h, if_neg (show ¬ (rst d).2 = 0 from h)]; rfl
theorem own_rdL {f : Nat} {d : CheckpointDecoder} (hf : 1000010 <= f) (hd : d.rest.bytes.length <= 1000000000000) : checkpoint_rest_ints_CheckpointDecoder f d = some ((rdL (rst d)).1, withR d (rdL (rst d)).2) := by
 rw [checkpoint_rest_ints_CheckpointDecoder, eqI_d, rdL]
 by_cases h : d.rest.err = 0
 ·rw [decide_eq_true h, if_pos (show (rst d).2 = 0 from h), own_ints hf (by omega) hd]; rfl
 ·rw [decide_eq_false h, if_neg (show ¬ (rst d).2 = 0 from h)]; rfl
def mkD (r : Rd) (dn : Int) (fr : List Frame) (D : Bool) (c b : Int) : CheckpointDecoder := ⟨⟨r.1, r.2⟩, dn, ⟨fr, D, c, b⟩⟩
theorem meas_pos {r : Rd} (h : r.2 = 0) : meas r = r.1.length + 1 := by unfold meas; rw [if_pos h]
theorem lim32 {n : Nat} (h : n <= 2000000000) : limB 32 n = true := by simp only [limB, decide_eq_true_eq]; omega
theorem lim64 {n : Nat} (h : n <= 2000000000) : limB 64 n = true := by simp only [limB, decide_eq_true_eq]; omega
theorem own_treeL {f : Nat} {a2 : Int} {y : Int × CheckpointDecoder} {rF : CheckpointDecoder -> Tree -> Int -> Option (CheckpointDecoder × Tree)} {F : Rd -> List Tree × Rd} {B : Nat} (hB : B <= 1000000000) (hf : 10 <= f) (hy : 0 <= y.1)
  (hF : ∀ r, meas (F r).2 <= meas r /\ (F r).2.1.length <= r.1.length)
  (ih : ∀ (d : CheckpointDecoder) (g : Int), d.rest.bytes.length <= B -> rF d ⟨g, []⟩ (IntKind.i64.wrap (a2 + 1)) = some (withR d (F (rst d)).2, ⟨g, (F (rst d)).1⟩)) :
  ∀ (q i : Nat) (r : Rd) (dn : Int) (fr : List Frame) (D : Bool) (c b : Int) (acc : List Tree), meas r < q -> r.1.length <= B -> acc.length <= i -> i + meas r <= B + 1 ->
   checkpoint_decoder_tree_L1 f a2 y rF q (i : Int) r.1 r.2 dn fr D c b acc = some ((trL F (y.1.toNat - i) r acc).2.1, (trL F (y.1.toNat - i) r acc).2.2, dn, fr, D, c, b, (trL F (y.1.toNat - i) r acc).1) := by
 intro q
 induction q with
 | zero => intro i r dn fr D c b acc h; omega
 | succ q iq =>
  intro i r dn fr D c b acc h1 h2 h3 h4
  rw [checkpoint_decoder_tree_L1, andB_d, ltI_d, eqI_d, <- Bool.decide_and]
  by_cases hc : (i : Int) < y.1 /\ r.2 = 0
  ·have hm := meas_pos hc.2
   obtain ⟨k, hk⟩ : ∃ k, y.1.toNat - i = k + 1 := ⟨y.1.toNat - i - 1, by omega⟩
   have hI := rdI_meas r
   have hI3 := hI.2.2 hc.2
   have hF2 := hF (rdI r).2
   rw [decide_eq_true hc, cond_true]
   have e1 := own_rdI (f := f) (d := mkD r dn fr D c b) hf (by show r.1.length <= _; omega)
   have e2 := ih (withR (mkD r dn fr D c b) (rdI r).2) (rdI r).1 (by show (rdI r).2.1.length <= _; omega)
   rw [show ({ rest := { bytes := r.1, err := r.2 }, done := dn, out := { Frames := fr, Done := D, Count := c, Blocked := b } } : CheckpointDecoder) = mkD r dn fr D c b from rfl, e1]
   simp only [Option.bind_some]
   rw [show rst (mkD r dn fr D c b) = r from rfl, e2]
   simp only [Option.bind_some]
   rw [show ([({ Agent := (rdI r).1, Kids := (F (rst (withR (mkD r dn fr D c b) (rdI r).2))).1 } : Tree)]).length = 1 from rfl, lim32 (by omega), guardO_t, wrapS (by omega)]
   have e3 := iq (i + 1) (F (rdI r).2).2 dn fr D c b (acc ++ [⟨(rdI r).1, (F (rdI r).2).1⟩]) (by omega) (by omega) (by simp; omega) (by omega)
   rw [hk, trL, if_pos hc.2, show k = y.1.toNat - (i + 1) by omega]
   exact e3
  ·rw [decide_eq_false hc, cond_false]
   have : trL F (y.1.toNat - i) r acc = (acc, r) := by
    cases hr : y.1.toNat - i with
    | zero => rfl
    | succ k => rw [trL, if_neg (fun e => hc ⟨by omega, e⟩)]
   rw [this]
theorem own_tree : ∀ (m f : Nat) (d : CheckpointDecoder) (g : Int), m <= 512 -> d.rest.bytes.length + m + 20 <= f -> d.rest.bytes.length <= 1000000000 ->
  checkpoint_decoder_tree f d ⟨g, []⟩ ((512 - m : Nat) : Int) = some (withR d (tr m (rst d)).2, ⟨g, (tr m (rst d)).1⟩) := by
 intro m
 induction m with
 | zero =>
  intro f d g hm hf hd
  obtain ⟨f, rfl⟩ : ∃ k, f = k + 1 := ⟨f - 1, by omega⟩
  have hU := rdU_meas (rst d)
  have hdm := deep_meas 0 (rdU (rst d))
  have hn := rdU_nn (rst d)
  have hl : (rst d).1.length = d.rest.bytes.length := rfl
  show checkpoint_decoder_tree_B (checkpoint_decoder_tree f) f d ⟨g, []⟩ _ = _
  unfold checkpoint_decoder_tree_B
  rw [own_rdU (by omega) (by omega), Option.bind_some]
  have e0 : deep 0 (rdU (rst d)) = ((rdU (rst d)).2.1, if (rdU (rst d)).2.2 = 0 /\ 0 < (rdU (rst d)).1 then 3 else (rdU (rst d)).2.2) := by
   unfold deep
   by_cases h : (rdU (rst d)).2.2 = 0 /\ 0 < (rdU (rst d)).1
   ·rw [if_pos ⟨h.1, h.2, rfl⟩, if_pos h]
   ·rw [if_neg (fun x => h ⟨x.1, x.2.1⟩), if_neg h]
  have hm0 : meas (rst d) <= d.rest.bytes.length + 1 := by unfold meas; split <;> simp [rst]
  show Option.bind (cond (andB (andB (eqI (rdU (rst d)).2.2 0) (ltI 0 (rdU (rst d)).1)) (eqI ((512 - 0 : Nat) : Int) 512)) _ _) _ = _
  have hstop : ∀ (q : Nat) (e : Int) (dn : Int) (fr : List Frame) (D : Bool) (c b : Int), (0 < (rdU (rst d)).1 -> e ≠ 0) -> checkpoint_decoder_tree_L1 f ((512 - 0 : Nat) : Int) ((rdU (rst d)).1, withR d (rdU (rst d)).2) (checkpoint_decoder_tree f) (q + 1) 0 (rdU (rst d)).2.1 e dn fr D c b [] = some ((rdU (rst d)).2.1, e, dn, fr, D, c, b, []) := by
   intro q e dn fr D c b he
   rw [checkpoint_decoder_tree_L1, andB_d, ltI_d, eqI_d, <- Bool.decide_and, decide_eq_false (fun h => he h.1 h.2)]; rfl
  have hfin : trL (fun r => (([] : List Tree), r)) (rdU (rst d)).1.toNat (deep 0 (rdU (rst d))) [] = ([], deep 0 (rdU (rst d))) := by
   cases hr : (rdU (rst d)).1.toNat with
   | zero => rfl
   | succ k =>
    rw [trL, if_neg]
    rw [e0]; simp only []
    by_cases h : (rdU (rst d)).2.2 = 0
    ·rw [if_pos ⟨h, by omega⟩]; decide
    ·rw [if_neg (fun x => h x.1)]; exact h
  rw [tr, hfin, e0]
  obtain ⟨q, hq⟩ : ∃ q, f = q + 1 := ⟨f - 1, by omega⟩
  have hcond : andB (andB (eqI (rdU (rst d)).2.2 0) (ltI 0 (rdU (rst d)).1)) (eqI ((512 - 0 : Nat) : Int) 512) = decide ((rdU (rst d)).2.2 = 0 /\ 0 < (rdU (rst d)).1) := by
   rw [andB_d, andB_d, eqI_d, ltI_d, show eqI ((512 - 0 : Nat) : Int) 512 = true from rfl, Bool.and_true, Bool.decide_and]
  rw [hcond]
  by_cases h : (rdU (rst d)).2.2 = 0 /\ 0 < (rdU (rst d)).1
  ·rw [decide_eq_true h, if_pos h, cond_true]
   simp only [Option.bind_some]
   have := hstop q 3 (withR d (rdU (rst d)).2).done (withR d (rdU (rst d)).2).out.Frames (withR d (rdU (rst d)).2).out.Done (withR d (rdU (rst d)).2).out.Count (withR d (rdU (rst d)).2).out.Blocked (fun _ => by decide)
   rw [<- hq] at this
   exact (congrArg (fun o => Option.bind o _) this).trans rfl
  ·rw [decide_eq_false h, if_neg h, cond_false]
   simp only [Option.bind_some]
   have := hstop q (rdU (rst d)).2.2 (withR d (rdU (rst d)).2).done (withR d (rdU (rst d)).2).out.Frames (withR d (rdU (rst d)).2).out.Done (withR d (rdU (rst d)).2).out.Count (withR d (rdU (rst d)).2).out.Blocked (fun hp he => h ⟨he, hp⟩)
   rw [<- hq] at this
   exact (congrArg (fun o => Option.bind o _) this).trans rfl
 | succ m ih =>
  intro f d g hm hf hd
  obtain ⟨f, rfl⟩ : ∃ k, f = k + 1 := ⟨f - 1, by omega⟩
  have hU := rdU_meas (rst d)
  have hn := rdU_nn (rst d)
  have hl : (rst d).1.length = d.rest.bytes.length := rfl
  have hm0 : meas (rst d) <= d.rest.bytes.length + 1 := by unfold meas; split <;> simp [rst]
  show checkpoint_decoder_tree_B (checkpoint_decoder_tree f) f d ⟨g, []⟩ _ = _
  unfold checkpoint_decoder_tree_B
  rw [own_rdU (by omega) (by omega), Option.bind_some]
  have hcond : andB (andB (eqI (rdU (rst d)).2.2 0) (ltI 0 (rdU (rst d)).1)) (eqI ((512 - (m + 1) : Nat) : Int) 512) = false := by
   rw [show eqI ((512 - (m + 1) : Nat) : Int) 512 = false by rw [eqI_d, decide_eq_false (by omega)], andB_d, Bool.and_false]
  have e0 : deep (m + 1) (rdU (rst d)) = (rdU (rst d)).2 := by unfold deep; rw [if_neg (fun h => by omega)]
  have hL := own_treeL (f := f) (a2 := ((512 - (m + 1) : Nat) : Int)) (y := ((rdU (rst d)).1, withR d (rdU (rst d)).2)) (rF := checkpoint_decoder_tree f) (F := tr m) (B := d.rest.bytes.length) hd (by omega) hn.1 (tr_meas m) (fun d' g' hd' => by
   rw [show ((512 - (m + 1) : Nat) : Int) + 1 = ((512 - m : Nat) : Int) by omega, wrapN (by omega)]
   exact ih f d' g' (by omega) (by omega) (by omega)) f 0 (rdU (rst d)).2 d.done d.out.Frames d.out.Done d.out.Count d.out.Blocked [] (by omega) (by omega) (by simp) (by omega)
  show Option.bind (cond (andB (andB (eqI (rdU (rst d)).2.2 0) (ltI 0 (rdU (rst d)).1)) (eqI ((512 - (m + 1) : Nat) : Int) 512)) _ _) _ = _
  rw [hcond, cond_false, tr, e0]
  simp only [Option.bind_some]
  exact (congrArg (fun o => Option.bind o _) hL).trans rfl
end Go.Dc.Pl
end
section
set_option linter.all false
namespace Go.Dc.Pl
open Go Go.Hw Go.Dc
theorem fr2_L1 {f : Nat} {a2 : Int} {y : Int × CheckpointDecoder} : ∀ (q : Nat) (i : Int) (l : List UInt8) (e dn : Int) (fr : List Frame) (D : Bool) (c b : Int) (acc : List Tree),
  checkpoint_decoder_tree_Frame2_L1 f a2 y q i l e dn fr D c b acc = checkpoint_decoder_tree_L1 f a2 y (checkpoint_decoder_tree f) q i l e dn fr D c b acc := by
 intro q
 induction q with
 | zero => intros; rfl
 | succ q ih => intros; rw [checkpoint_decoder_tree_Frame2_L1, checkpoint_decoder_tree_L1]; simp only [ih]
theorem own_treeF {f : Nat} {d : CheckpointDecoder} {g : Int} {s : List Int} (hf : d.rest.bytes.length + 600 <= f) (hd : d.rest.bytes.length <= 1000000000) :
  checkpoint_decoder_tree_Frame2 f d ⟨g, s, ⟨0, []⟩⟩ 0 = some (withR d (tr 512 (rst d)).2, ⟨g, s, ⟨0, (tr 512 (rst d)).1⟩⟩) := by
 have hU := rdU_meas (rst d)
 have hn := rdU_nn (rst d)
 have hl : (rst d).1.length = d.rest.bytes.length := rfl
 have hm0 : meas (rst d) <= d.rest.bytes.length + 1 := by unfold meas; split <;> simp [rst]
 unfold checkpoint_decoder_tree_Frame2
 rw [own_rdU (by omega) (by omega), Option.bind_some]
 have hcond : andB (andB (eqI (rdU (rst d)).2.2 0) (ltI 0 (rdU (rst d)).1)) (eqI 0 512) = false := by
  rw [show eqI 0 512 = false from rfl, andB_d, Bool.and_false]
 have e0 : deep 512 (rdU (rst d)) = (rdU (rst d)).2 := by unfold deep; rw [if_neg (fun h => by omega)]
 have hL := own_treeL (f := f) (a2 := 0) (y := ((rdU (rst d)).1, withR d (rdU (rst d)).2)) (rF := checkpoint_decoder_tree f) (F := tr 511) (B := d.rest.bytes.length) hd (by omega) hn.1 (tr_meas 511) (fun d' g' hd' => by
  rw [show (0 : Int) + 1 = ((512 - 511 : Nat) : Int) from rfl, wrapN (by omega)]
  exact own_tree 511 f d' g' (by omega) (by omega) (by omega)) f 0 (rdU (rst d)).2 d.done d.out.Frames d.out.Done d.out.Count d.out.Blocked [] (by omega) (by omega) (by simp) (by omega)
 rw [<- fr2_L1] at hL
 show Option.bind (cond (andB (andB (eqI (rdU (rst d)).2.2 0) (ltI 0 (rdU (rst d)).1)) (eqI 0 512)) _ _) _ = _
 rw [hcond, cond_false, tr, e0]
 simp only [Option.bind_some]
 exact (congrArg (fun o => Option.bind o _) hL).trans rfl
/-- The frames: rem of them at most. -/
def frL : Nat -> Rd -> List Frame -> List Frame × Rd
 | 0, r, acc => (acc, r)
 | rem + 1, r, acc => if r.2 = 0 then frL rem (tr 512 (rdL (rdI r).2).2).2 (acc ++ [⟨(rdI r).1, (rdL (rdI r).2).1, ⟨0, (tr 512 (rdL (rdI r).2).2).1⟩⟩]) else (acc, r)
theorem own_frL {f : Nat} {y : Int × CheckpointDecoder} {B : Nat} (hB : B <= 1000000000) (hf : B + 1000100 <= f) (hy : 0 <= y.1) :
  ∀ (q i : Nat) (r : Rd) (dn : Int) (fr : List Frame) (D : Bool) (c b : Int), meas r < q -> r.1.length <= B -> fr.length <= i -> i + meas r <= B + 1 ->
   checkpoint_decoder_snapshot_L1 f y q (i : Int) r.1 r.2 dn fr D c b = some ((frL (y.1.toNat - i) r fr).2.1, (frL (y.1.toNat - i) r fr).2.2, dn, (frL (y.1.toNat - i) r fr).1, D, c, b) := by
 intro q
 induction q with
 | zero => intro i r dn fr D c b h; omega
 | succ q iq =>
  intro i r dn fr D c b h1 h2 h3 h4
  rw [checkpoint_decoder_snapshot_L1, andB_d, ltI_d, eqI_d, <- Bool.decide_and]
  by_cases hc : (i : Int) < y.1 /\ r.2 = 0
  ·have hm := meas_pos hc.2
   obtain ⟨k, hk⟩ : ∃ k, y.1.toNat - i = k + 1 := ⟨y.1.toNat - i - 1, by omega⟩
   have hI := rdI_meas r
   have hI3 := hI.2.2 hc.2
   have hL := rdL_meas (rdI r).2
   have hT := tr_meas 512 (rdL (rdI r).2).2
   rw [decide_eq_true hc, cond_true]
   have e1 := own_rdI (f := f) (d := mkD r dn fr D c b) (by omega) (by show r.1.length <= _; omega)
   have e2 := own_rdL (f := f) (d := withR (mkD r dn fr D c b) (rdI r).2) (by omega) (by show (rdI r).2.1.length <= _; omega)
   have e3 := own_treeF (f := f) (d := withR (withR (mkD r dn fr D c b) (rdI r).2) (rdL (rdI r).2).2) (g := (rdI r).1) (s := (rdL (rdI r).2).1) (by show (rdL (rdI r).2).2.1.length + _ <= _; omega) (by show (rdL (rdI r).2).2.1.length <= _; omega)
   rw [show ({ rest := { bytes := r.1, err := r.2 }, done := dn, out := { Frames := fr, Done := D, Count := c, Blocked := b } } : CheckpointDecoder) = mkD r dn fr D c b from rfl, e1]
   simp only [Option.bind_some]
   rw [show rst (mkD r dn fr D c b) = r from rfl, e2]
   simp only [Option.bind_some]
   rw [show rst (withR (mkD r dn fr D c b) (rdI r).2) = (rdI r).2 from rfl, e3]
   simp only [Option.bind_some]
   have e4 := iq (i + 1) (tr 512 (rdL (rdI r).2).2).2 dn (fr ++ [⟨(rdI r).1, (rdL (rdI r).2).1, ⟨0, (tr 512 (rdL (rdI r).2).2).1⟩⟩]) D c b (by omega) (by omega) (by simp; omega) (by omega)
   rw [hk, frL, if_pos hc.2, show k = y.1.toNat - (i + 1) by omega]
   refine Eq.trans ?_ e4
   show guardO (limB 64 (fr.length + 1)) _ = _
   rw [lim64 (by omega), guardO_t, wrapS (by omega)]; rfl
  ·rw [decide_eq_false hc, cond_false]
   have : frL (y.1.toNat - i) r fr = (fr, r) := by
    cases hr : y.1.toNat - i with
    | zero => rfl
    | succ k => rw [frL, if_neg (fun e => hc ⟨by omega, e⟩)]
   rw [this]
def many (x : Int × Rd) : Rd := if x.2.2 = 0 /\ 512 < x.1 then (x.2.1, 3) else x.2
/-- What a snapshot's bytes come to: how done is written, the snapshot, what is left. -/
def snapR (r : Rd) : Int × Snapshot × Rd :=
 let d := rdU r; let c := rdU d.2; let b := rdU c.2; let n := rdU b.2
 let l := frL n.1.toNat (many n) []
 (d.1, ⟨l.1, eqI d.1 1, c.1, b.1⟩, l.2)
theorem own_snap {f : Nat} {r : Rd} (hr : r.1.length <= 1000000000) (hf : r.1.length + 1000200 <= f) :
  checkpoint_decoder_snapshot f (mkD r 0 [] false 0 0) = some (mkD (snapR r).2.2 (snapR r).1 (snapR r).2.1.Frames (snapR r).2.1.Done (snapR r).2.1.Count (snapR r).2.1.Blocked) := by
 have h1 := rdU_meas r
 have h2 := rdU_meas (rdU r).2
 have h3 := rdU_meas (rdU (rdU r).2).2
 have h4 := rdU_meas (rdU (rdU (rdU r).2).2).2
 have hn := rdU_nn (rdU (rdU (rdU r).2).2).2
 have hm0 : meas r <= r.1.length + 1 := by unfold meas; split <;> omega
 have e1 := own_rdU (f := f) (d := mkD r 0 [] false 0 0) (by omega) (by show r.1.length <= _; omega)
 have e2 := own_rdU (f := f) (d := mkD (rdU r).2 (rdU r).1 [] (eqI (rdU r).1 1) 0 0) (by omega) (by show (rdU r).2.1.length <= _; omega)
 have e3 := own_rdU (f := f) (d := mkD (rdU (rdU r).2).2 (rdU r).1 [] (eqI (rdU r).1 1) (rdU (rdU r).2).1 0) (by omega) (by show (rdU (rdU r).2).2.1.length <= _; omega)
 have e4 := own_rdU (f := f) (d := mkD (rdU (rdU (rdU r).2).2).2 (rdU r).1 [] (eqI (rdU r).1 1) (rdU (rdU r).2).1 (rdU (rdU (rdU r).2).2).1) (by omega) (by show (rdU (rdU (rdU r).2).2).2.1.length <= _; omega)
 unfold checkpoint_decoder_snapshot
 rw [e1]
 simp only [Option.bind_some]
 refine (congrArg (fun o => Option.bind o _) e2).trans ?_
 simp only [Option.bind_some]
 refine (congrArg (fun o => Option.bind o _) e3).trans ?_
 simp only [Option.bind_some]
 refine (congrArg (fun o => Option.bind o _) e4).trans ?_
 simp only [Option.bind_some]
 simp only [snapR]
 have r2 : rst (mkD (rdU r).2 (rdU r).1 [] (eqI (rdU r).1 1) 0 0) = (rdU r).2 := rfl
 have r3 : rst (mkD (rdU (rdU r).2).2 (rdU r).1 [] (eqI (rdU r).1 1) (rdU (rdU r).2).1 0) = (rdU (rdU r).2).2 := rfl
 have r4 : rst (mkD (rdU (rdU (rdU r).2).2).2 (rdU r).1 [] (eqI (rdU r).1 1) (rdU (rdU r).2).1 (rdU (rdU (rdU r).2).2).1) = (rdU (rdU (rdU r).2).2).2 := rfl
 rw [r4]
 generalize rdU (rdU (rdU (rdU r).2).2).2 = n at h4 hn ⊢
 have em : many n = (n.2.1, if n.2.2 = 0 /\ 512 < n.1 then 3 else n.2.2) := by
  unfold many; split <;> rfl
 have hmm : meas (many n) <= meas n.2 := by
  unfold many; split
  ·simp [meas]
  ·exact Nat.le_refl _
 have hfr := own_frL (f := f) (y := (n.1, withR (mkD (rdU (rdU (rdU r).2).2).2 (rdU r).1 [] (eqI (rdU r).1 1) (rdU (rdU r).2).1 (rdU (rdU (rdU r).2).2).1) n.2)) (B := r.1.length) hr (by omega) hn.1 f 0 (many n) (rdU r).1 [] (eqI (rdU r).1 1) (rdU (rdU r).2).1 (rdU (rdU (rdU r).2).2).1 (by omega) (by rw [em]; show n.2.1.length <= _; omega) (by simp) (by omega)
 have hcond : andB (eqI n.2.2 0) (ltI 512 n.1) = decide (n.2.2 = 0 /\ 512 < n.1) := by rw [andB_d, eqI_d, ltI_d, Bool.decide_and]
 show Option.bind (cond (andB (eqI n.2.2 0) (ltI 512 n.1)) _ _) _ = _
 rw [hcond]
 rw [em] at hfr ⊢
 by_cases h : n.2.2 = 0 /\ 512 < n.1
 ·rw [decide_eq_true h, cond_true]
  rw [if_pos h] at hfr ⊢
  simp only [Option.bind_some]
  exact (congrArg (fun o => Option.bind o _) hfr).trans rfl
 ·rw [decide_eq_false h, cond_false]
  rw [if_neg h] at hfr ⊢
  simp only [Option.bind_some]
  exact (congrArg (fun o => Option.bind o _) hfr).trans rfl
end Go.Dc.Pl
end
section
set_option linter.all false
namespace Go.Dc
open Go Go.Hw Go.Proofs
set_option maxRecDepth 100000
def program_CheckConfig (a0 : Config) : Option Int :=
 cond (andB (andB (!(eqI a0.Model 1)) (!(eqI a0.Model 2))) (!(eqI a0.Model 3))) (some 18) (cond (orB (ltI a0.Bound 1) (ltI 32 a0.Bound)) (some 2) (some 0))
set_option maxHeartbeats 2000000 in
theorem at_program_CheckConfig {a0 : Config} {r : Int} (hs : program_CheckConfig a0 = some r) : At Tryd.prog 48 [.agg (eA a0)] (iV .i64 r) := by
 refine at_bound (by kernel_rfl) fun hb => ?_
 refine at_code mixed Tryd.func48 (by kernel_rfl) rfl (by kernel_rfl) rfl fun Q hQ => ?_
 rw [program_CheckConfig] at hs
 refine goG f0 f0 ?_
 revert hs; refine cS f0 ?_ ?_ <;> intro h1 hs
 ·refine goG f0 f0 ?_
  obtain rfl := sj hs
  exact hQ _ _ (rg f0 (Gh.refl _))
 ·refine goG f0 f0 ?_
  revert hs; refine cS f0 ?_ ?_ <;> intro h2 hs
  ·refine goG f0 f0 ?_
   obtain rfl := sj hs
   exact hQ _ _ (rg f0 (Gh.refl _))
  ·refine goG f0 f0 ?_
   obtain rfl := sj hs
   exact hQ _ _ (rg f0 (Gh.refl _))
end Go.Dc
end
section
set_option linter.all false
namespace Go.Dc
open Go Go.Hw Go.Proofs
set_option maxRecDepth 100000
def checkpoint_standard (fuelN : Nat) (a0 : Program) (a1 : Config) : Option Int :=
 Option.bind (program_Check fuelN a0) (fun y1 => cond (!(eqI y1.1 0)) (some y1.1) (Option.bind (program_CheckConfig a1) (fun y4 => cond (!(eqI y4 0)) (some y4) (cond (eqI a1.Model 3) (some 18) (some 0)))))
set_option maxHeartbeats 2000000 in
theorem at_checkpoint_standard {fuelN : Nat} {a0 : Program} {a1 : Config} {r : Int} (hs : checkpoint_standard fuelN a0 a1 = some r) : At Tryd.prog 21 [.agg (eA a0), .agg (eA a1)] (iV .i64 r) := by
 refine at_bound (by kernel_rfl) fun hb => ?_
 have hb1 : LenOk (.sl a0.Vars.length (encL a0.Vars)) := lkc hb
 have hb2 : LenOk (.sl a0.Mutexes.length (encL a0.Mutexes)) := lkc hb
 have hb3 : LenOk (.sl a0.Conds.length (encL a0.Conds)) := lkc hb
 have hb4 : LenOk (.sl a0.Funcs.length (encL a0.Funcs)) := lkc hb
 have hb5 : LenOk (.sl a0.Threads.length (encL a0.Threads)) := lkc hb
 refine at_code mixed Tryd.func21 (by kernel_rfl) rfl (by kernel_rfl) rfl fun Q hQ => ?_
 rw [checkpoint_standard] at hs
 refine goR f0 ?_
 revert hs; refine bK fun y1 hx2 hs => ?_
 refine cP f0 (at_program_Check hx2) ?_
 refine goR f0 ?_
 revert hs; refine cS f0 ?_ ?_ <;> intro h3 hs
 ·refine goR f0 ?_
  obtain rfl := sj hs
  exact hQ _ _ (rg f0 (Gh.refl _))
 ·refine goR f0 ?_
  revert hs; refine bK fun y4 hx5 hs => ?_
  refine cP f0 (at_program_CheckConfig hx5) ?_
  refine goR f0 ?_
  revert hs; refine cS f0 ?_ ?_ <;> intro h6 hs
  ·refine goR f0 ?_
   obtain rfl := sj hs
   exact hQ _ _ (rg f0 (Gh.refl _))
  ·refine goR f0 ?_
   revert hs; refine cS f0 ?_ ?_ <;> intro h7 hs
   ·refine goR f0 ?_
    obtain rfl := sj hs
    exact hQ _ _ (rg f0 (Gh.refl _))
   ·refine goR f0 ?_
    obtain rfl := sj hs
    exact hQ _ _ (rg f0 (Gh.refl _))
end Go.Dc
end
section
set_option linter.all false
namespace Go.Dc
open Go Go.Hw Go.Proofs
set_option maxRecDepth 100000
def checkpoint_text_2 (fuelN : Nat) (a0 : Int) (a1 : List UInt8) : Option (List UInt8) :=
 Option.bind (frame_AppendUint fuelN a1 a0) (fun y1 => some y1)
set_option maxHeartbeats 2000000 in
theorem at_checkpoint_text_2 {fuelN : Nat} {a0 : Int} {a1 : List UInt8} {r : (List UInt8)} (hs : checkpoint_text_2 fuelN a0 a1 = some r) : CAt Tryd.prog 50 [iV .i64 a0, .cell (.ref (.a 0) 0)] [.cells [.own (.sp 1 a1.length (encL a1))]] (.ret (.tup [])) [(.a 0, .cells [.own (.sp 1 r.length (encL r))])] := by
 refine at_bound (by kernel_rfl) fun hb => ?_
 refine at_code mixed Tryd.func50 (by kernel_rfl) rfl (by kernel_rfl) rfl fun Q hQ => ?_
 rw [checkpoint_text_2] at hs
 refine goR f0 ?_
 revert hs; refine bK fun y1 hx2 hs => ?_
 refine cA f0 (at_frame_AppendUint hx2) ?_
 refine goR f0 ?_
 obtain rfl := sj hs
 refine hQ _ _ (ret2g _ (Gh.close _ (.a 0) 0) (by simp [St.frz, St.pur]; rfl) (by first | rfl | (simp [St.frz, St.pur]; done) | (rw [if_pos (by first | omega | (simp; omega))]; simp [St.frz, St.pur]; first | omega | exact List.take_of_length_le (by simp; omega) | skip)) (pv f0))
end Go.Dc
end
section
set_option linter.all false
namespace Go.Dc
open Go Go.Hw Go.Proofs
set_option maxRecDepth 100000
def checkpoint_text_3_checkpoint_text_2_L1 (fuelN : Nat) : List ByteArray -> Nat -> (List UInt8) -> Option (List UInt8)
 | [], k12, l13 => some (l13)
 | x32 :: q28, k12, l13 => Option.bind (frame_AppendString fuelN l13 x32) (fun y35 => checkpoint_text_3_checkpoint_text_2_L1 fuelN q28 (k12 + 1) y35)
def checkpoint_text_3_checkpoint_text_2 (fuelN : Nat) (a0 : List ByteArray) (a2 : List UInt8) : Option (List UInt8) :=
 Option.bind (checkpoint_text_2 fuelN ((a0.length : Nat) : Int) a2) (fun y1 => Option.bind (checkpoint_text_3_checkpoint_text_2_L1 fuelN a0 0 y1) (fun l21 => some l21))
set_option maxHeartbeats 2000000 in
theorem at_checkpoint_text_3_checkpoint_text_2 {fuelN : Nat} {a0 : List ByteArray} {a2 : List UInt8} {r : (List UInt8)} (hs : checkpoint_text_3_checkpoint_text_2 fuelN a0 a2 = some r) : CAt Tryd.prog 51 [.cell (sC a0), .cell (.ref (.a 0) 0), .cell (.ref (.a 1) 0)] [.cells [.fn 50 [.inl (.a 1)]], .cells [.own (.sp 1 a2.length (encL a2))]] (.ret (.tup [])) [(.a 1, .cells [.own (.sp 1 r.length (encL r))]), (.a 0, .cells [.fn 50 [.inl (.a 1)]])] := by
 refine at_bound (by kernel_rfl) fun hb => ?_
 have hb1 : LenOk (.sl a0.length (encL a0)) := lkc hb
 refine at_code mixed Tryd.func51 (by kernel_rfl) rfl (by kernel_rfl) rfl fun Q hQ => ?_
 rw [checkpoint_text_3_checkpoint_text_2] at hs
 refine goR f0 ?_
 revert hs; refine bK fun y1 hx2 hs => ?_
 refine cB f0 (at_checkpoint_text_2 hx2) [.a 1] ?_
 refine goR f0 ?_
 revert hs; refine bK fun o23 e22 hs => ?_
 refine awp_loopW (fun (v : (List ByteArray) × Nat × (List UInt8)) (σ : St) => checkpoint_text_3_checkpoint_text_2_L1 fuelN v.1 v.2.1 v.2.2 = some o23 /\ v.1 = a0.drop v.2.1 /\ σ.env 2 = .cell (.ref (.a 1) 0) /\ σ.env 10 = .cell (sC a0) /\ σ.env 11 = iV .i64 ((a0.length : Nat) : Int) /\ σ.env 12 = iV .i64 ((v.2.1 : Nat) : Int) /\ σ.hp (.a 1) = some (.cells [.own (.sp 1 v.2.2.length (encL v.2.2))]) /\ σ.hp (.a 0) = some (.cells [.fn 50 [.inl (.a 1)]]) /\ 2 <= σ.gen) (fun v => v.1.length) _ (Gh.refl _) (a0, 0, y1) ⟨e22, by simp, pv f0, pv f0, pv f0, pv f0, pv f0, pv f0, pg⟩ fun v σ2 hp L24 hL25 => ?_
 obtain ⟨q27, k12, l13⟩ := v
 dsimp only at hp hL25
 obtain ⟨e22, hd26, h1_2, h1_10, h1_11, h1_12, g1_0, g1_1, n1_g⟩ := hp
 rcases q27 with _ | ⟨x32, q28⟩
 ·have hlt29 := drop_end hd26
  rw [checkpoint_text_3_checkpoint_text_2_L1] at e22; try dsimp only at e22
  have F1 := an h1_2 (an h1_10 (an h1_11 (an h1_12 (an g1_0 g1_1))))
  refine goR F1 ?_
  refine condK_f (by simp [ltI]; omega) ?_
  obtain rfl := sj e22
  try dsimp only at hs
  obtain rfl := sj hs
  refine hQ _ _ (ret2g _ (Gh.refl _) (by simp [St.frz, St.pur, F1]; rfl) (by first | rfl | (simp [St.frz, St.pur, F1]; done) | (rw [if_pos (by first | omega | (simp; omega))]; simp [St.frz, St.pur, F1]; first | omega | exact List.take_of_length_le (by simp; omega) | skip)) (pv F1))
 ·obtain ⟨hx31, hlt29, hd33⟩ := drop_next hd26
  have ew30 := wrap_succ hlt29 (hb1).len
  rw [checkpoint_text_3_checkpoint_text_2_L1] at e22; try dsimp only at e22
  have F2 := an h1_2 (an h1_10 (an h1_11 (an h1_12 (an g1_0 (an g1_1 (an hlt29 ew30))))))
  refine goR F2 ?_
  refine condK_t (by simp [ltI]; omega) ?_
  have f34 : partCV Tryd.prog 9 (encL a0) (k12) = some (sV x32) := partCV_enc1 hx31 (by simp)
  have F3 := an F2 f34
  refine goR F3 ?_
  revert e22; refine bK fun y35 hx36 e22 => ?_
  refine cA F3 (at_frame_AppendString hx36) ?_
  refine goR F3 ?_
  exact hL25 (q28, (k12 + 1), y35) _ _ (Gh.close _ (.a 1) 0) ⟨e22, hd33, pv F3, pv F3, pv F3, pv F3, pv F3, pv F3, pg⟩ (by simp)
end Go.Dc
end
section
set_option linter.all false
namespace Go.Dc
open Go Go.Hw Go.Proofs
set_option maxRecDepth 100000
def checkpoint_text_1_L1 (fuelN : Nat) : List Int -> Nat -> (List UInt8) -> Option (List UInt8)
 | [], k10, l11 => some (l11)
 | x30 :: q26, k10, l11 => Option.bind (frame_AppendInt fuelN l11 x30) (fun y33 => checkpoint_text_1_L1 fuelN q26 (k10 + 1) y33)
def checkpoint_text_1 (fuelN : Nat) (a0 : List Int) (a1 : List UInt8) : Option (List UInt8) :=
 Option.bind (checkpoint_text_1_L1 fuelN a0 0 a1) (fun l19 => some l19)
set_option maxHeartbeats 2000000 in
theorem at_checkpoint_text_1 {fuelN : Nat} {a0 : List Int} {a1 : List UInt8} {r : (List UInt8)} (hs : checkpoint_text_1 fuelN a0 a1 = some r) : CAt Tryd.prog 49 [.cell (sC a0), .cell (.ref (.a 0) 0)] [.cells [.own (.sp 1 a1.length (encL a1))]] (.ret (.tup [])) [(.a 0, .cells [.own (.sp 1 r.length (encL r))])] := by
 refine at_bound (by kernel_rfl) fun hb => ?_
 have hb1 : LenOk (.sl a0.length (encL a0)) := lkc hb
 refine at_code mixed Tryd.func49 (by kernel_rfl) rfl (by kernel_rfl) rfl fun Q hQ => ?_
 rw [checkpoint_text_1] at hs
 refine goR f0 ?_
 revert hs; refine bK fun o21 e20 hs => ?_
 refine awp_loopW (fun (v : (List Int) × Nat × (List UInt8)) (σ : St) => checkpoint_text_1_L1 fuelN v.1 v.2.1 v.2.2 = some o21 /\ v.1 = a0.drop v.2.1 /\ σ.env 1 = .cell (.ref (.a 0) 0) /\ σ.env 5 = .cell (sC a0) /\ σ.env 6 = iV .i64 ((a0.length : Nat) : Int) /\ σ.env 7 = iV .i64 ((v.2.1 : Nat) : Int) /\ σ.hp (.a 0) = some (.cells [.own (.sp 1 v.2.2.length (encL v.2.2))]) /\ 1 <= σ.gen) (fun v => v.1.length) _ (Gh.refl _) (a0, 0, a1) ⟨e20, by simp, pv f0, pv f0, pv f0, pv f0, pv f0, pg⟩ fun v σ2 hp L22 hL23 => ?_
 obtain ⟨q25, k10, l11⟩ := v
 dsimp only at hp hL23
 obtain ⟨e20, hd24, h1_1, h1_5, h1_6, h1_7, g1_0, n1_g⟩ := hp
 rcases q25 with _ | ⟨x30, q26⟩
 ·have hlt27 := drop_end hd24
  rw [checkpoint_text_1_L1] at e20; try dsimp only at e20
  have F1 := an h1_1 (an h1_5 (an h1_6 (an h1_7 g1_0)))
  refine goR F1 ?_
  refine condK_f (by simp [ltI]; omega) ?_
  obtain rfl := sj e20
  try dsimp only at hs
  obtain rfl := sj hs
  refine hQ _ _ (ret2g _ (Gh.refl _) (by simp [St.frz, St.pur, F1]; rfl) (by first | rfl | (simp [St.frz, St.pur, F1]; done) | (rw [if_pos (by first | omega | (simp; omega))]; simp [St.frz, St.pur, F1]; first | omega | exact List.take_of_length_le (by simp; omega) | skip)) (pv F1))
 ·obtain ⟨hx29, hlt27, hd31⟩ := drop_next hd24
  have ew28 := wrap_succ hlt27 (hb1).len
  rw [checkpoint_text_1_L1] at e20; try dsimp only at e20
  have F2 := an h1_1 (an h1_5 (an h1_6 (an h1_7 (an g1_0 (an hlt27 ew28)))))
  refine goR F2 ?_
  refine condK_t (by simp [ltI]; omega) ?_
  have f32 : partCV Tryd.prog 3 (encL a0) (k10) = some (iV .i64 x30) := partCV_enc1 hx29 (by simp)
  have F3 := an F2 f32
  refine goR F3 ?_
  revert e20; refine bK fun y33 hx34 e20 => ?_
  refine cA F3 (at_frame_AppendInt hx34) ?_
  refine goR F3 ?_
  exact hL23 (q26, (k10 + 1), y33) _ _ (Gh.close _ (.a 0) 0) ⟨e20, hd31, pv F3, pv F3, pv F3, pv F3, pv F3, pg⟩ (by simp)
end Go.Dc
end
section
set_option linter.all false
namespace Go.Dc
open Go Go.Hw Go.Proofs
set_option maxRecDepth 100000
def checkpoint_text_L1 (fuelN : Nat) : List Var -> Nat -> (List UInt8) -> Option (List UInt8)
 | [], k71, l72 => some (l72)
 | x95 :: q91, k71, l72 => Option.bind (frame_AppendString fuelN l72 x95.Name) (fun y98 => Option.bind (some ([x95.Init])) (fun l100 => Option.bind (checkpoint_text_1 fuelN l100 y98) (fun y102 => checkpoint_text_L1 fuelN q91 (k71 + 1) y102)))
def checkpoint_text_L3 (fuelN : Nat) : List Inst -> Nat -> (List UInt8) -> Option (List UInt8)
 | [], k968, l969 => some (l969)
 | x990 :: q986, k968, l969 => Option.bind (some ([x990.Op, x990.A, x990.B, x990.C, x990.Obj, x990.N, x990.Fn, x990.Order])) (fun l993 => Option.bind (checkpoint_text_1 fuelN l993 l969) (fun y995 => checkpoint_text_L3 fuelN q986 (k968 + 1) y995))
def checkpoint_text_L2 (fuelN : Nat) (a0 : Program) : Nat -> Int -> (List UInt8) -> Option (List UInt8)
 | 0, _, _ => none
 | q893 + 1, i776, l777 => cond (ltI i776 ((a0.Funcs.length : Nat) : Int)) (Option.bind (α := (List UInt8)) (Option.bind (getI a0.Funcs i776) (fun x950 => Option.bind (frame_AppendString fuelN l777 x950.Name) (fun y953 => Option.bind (checkpoint_text_2 fuelN ((x950.Code.length : Nat) : Int) y953) (fun y955 => Option.bind (checkpoint_text_L3 fuelN x950.Code 0 y955) (fun l979 => some (l979)))))) (fun l945 => checkpoint_text_L2 fuelN a0 q893 (IntKind.i64.wrap (i776 + 1)) l945)) (some (l777))
def checkpoint_text_L4 (fuelN : Nat) : List Start -> Nat -> (List UInt8) -> Option (List UInt8)
 | [], k1055, l1056 => some (l1056)
 | x1077 :: q1073, k1055, l1056 => Option.bind (some ([x1077.Func, x1077.Arg])) (fun l1080 => Option.bind (checkpoint_text_1 fuelN l1080 l1056) (fun y1082 => checkpoint_text_L4 fuelN q1073 (k1055 + 1) y1082))
def checkpoint_text (fuelN : Nat) (a0 : Program) (a1 : Config) : Option (List UInt8) :=
 Option.bind (some ([a1.Model, a1.Bound])) (fun l1 => Option.bind (checkpoint_text_1 fuelN l1 ([] : List UInt8)) (fun y3 => Option.bind (checkpoint_text_2 fuelN ((a0.Vars.length : Nat) : Int) y3) (fun y5 => Option.bind (α := (List UInt8)) (Option.bind (checkpoint_text_L1 fuelN a0.Vars 0 y5) (fun l84 => some (l84))) (fun l53 => Option.bind (checkpoint_text_3_checkpoint_text_2 fuelN a0.Mutexes l53) (fun y104 => Option.bind (checkpoint_text_3_checkpoint_text_2 fuelN a0.Conds y104) (fun y106 => Option.bind (checkpoint_text_2 fuelN ((a0.Funcs.length : Nat) : Int) y106) (fun y108 => Option.bind (α := (List UInt8)) (Option.bind (checkpoint_text_L2 fuelN a0 fuelN 0 y108) (fun l886 => some (l886))) (fun l551 => Option.bind (checkpoint_text_2 fuelN ((a0.Threads.length : Nat) : Int) l551) (fun y997 => Option.bind (α := (List UInt8)) (Option.bind (checkpoint_text_L4 fuelN a0.Threads 0 y997) (fun l1066 => some (l1066))) (fun l1039 => some l1039))))))))))
set_option maxHeartbeats 2000000 in
theorem at_checkpoint_text {fuelN : Nat} {a0 : Program} {a1 : Config} {r : (List UInt8)} (hs : checkpoint_text fuelN a0 a1 = some r) : CAt Tryd.prog 23 [.agg (eA a0), .agg (eA a1)] [] (.ret (.cell (.sl (.r 0) 0 1 r.length))) [(.r 0, .pure (encL r))] := by
 refine at_bound (by kernel_rfl) fun hb => ?_
 have hb1 : LenOk (.sl a0.Vars.length (encL a0.Vars)) := lkc hb
 have hb2 : LenOk (.sl a0.Mutexes.length (encL a0.Mutexes)) := lkc hb
 have hb3 : LenOk (.sl a0.Conds.length (encL a0.Conds)) := lkc hb
 have hb4 : LenOk (.sl a0.Funcs.length (encL a0.Funcs)) := lkc hb
 have hb5 : LenOk (.sl a0.Threads.length (encL a0.Threads)) := lkc hb
 refine at_code mixed Tryd.func23 (by kernel_rfl) rfl (by kernel_rfl) rfl fun Q hQ => ?_
 rw [checkpoint_text] at hs
 refine goN f0 ?_
 refine awp_reg ?_
 refine goN f0 ?_
 refine awp_reg ?_
 refine goN f0 ?_
 refine awp_reg ?_
 refine goN f0 ?_
 refine awp_reg ?_
 refine goN f0 ?_
 refine awp_reg ?_
 refine goN f0 ?_
 refine awp_gh (by rfl) ((Gh.voidB _ (.l 1) (.o 2 0 0) 0 1 rfl (by simp; rfl) (by first | rfl | simp) (by simp)).trans (Gh.close _ (.o 2 0 0) 0)) ?_
 try simp only [St.frz, St.pur]
 revert hs; refine lK fun l1 hx2 hs => ?_
 have hx2n : l1.length = 2 := by rw [hx2]; rfl
 refine goR hx2 ?_
 revert hs; refine bK fun y3 hx4 hs => ?_
 refine cB hx2 (at_checkpoint_text_1 hx4) [.o 2 0 0] ?_
 refine goR hx2 ?_
 revert hs; refine bK fun y5 hx6 hs => ?_
 refine cB hx2 (at_checkpoint_text_2 hx6) [.o 2 0 0] ?_
 refine goR2 hx2 ?_
 revert hs; refine bK fun o55 e54 hs => ?_
 refine awp_cutK (fun (v : (List UInt8)) (σ : St) => some (v) = some o55 /\ σ.env 2 = .cell (.ref (.o 1 0 0) 0) /\ σ.env 5 = .cell (.ref (.o 2 0 0) 0) /\ σ.env 6 = .cell (.fn 49 [.inl (.o 2 0 0)]) /\ σ.env 7 = .cell (.ref (.o 4 1 0) 0) /\ σ.env 8 = .cell (.fn 51 [.inl (.o 4 1 0), .inl (.o 2 0 0)]) /\ σ.hp (.o 1 0 0) = some (.cells (eA a0)) /\ σ.hp (.o 2 0 0) = some (.cells [.own (.sp 1 v.length (encL v))]) /\ σ.hp (.o 4 1 0) = some (.cells [.fn 50 [.inl (.o 2 0 0)]]) /\ 8 <= σ.gen) (by rfl) (fun Q hK56 hX57 => ?_) (fun l53 σ3 hp => ?_)
 ·refine goR hx2 ?_
  revert e54; refine bK fun o86 e85 e54 => ?_
  refine awp_loopW (fun (v : (List Var) × Nat × (List UInt8)) (σ : St) => checkpoint_text_L1 fuelN v.1 v.2.1 v.2.2 = some o86 /\ v.1 = a0.Vars.drop v.2.1 /\ σ.env 2 = .cell (.ref (.o 1 0 0) 0) /\ σ.env 5 = .cell (.ref (.o 2 0 0) 0) /\ σ.env 6 = .cell (.fn 49 [.inl (.o 2 0 0)]) /\ σ.env 7 = .cell (.ref (.o 4 1 0) 0) /\ σ.env 8 = .cell (.fn 51 [.inl (.o 4 1 0), .inl (.o 2 0 0)]) /\ σ.env 33 = .cell (sC a0.Vars) /\ σ.env 34 = iV .i64 ((a0.Vars.length : Nat) : Int) /\ σ.env 35 = iV .i64 ((v.2.1 : Nat) : Int) /\ σ.hp (.o 1 0 0) = some (.cells (eA a0)) /\ σ.hp (.o 2 0 0) = some (.cells [.own (.sp 1 v.2.2.length (encL v.2.2))]) /\ σ.hp (.o 4 1 0) = some (.cells [.fn 50 [.inl (.o 2 0 0)]]) /\ 8 <= σ.gen) (fun v => v.1.length) _ (Gh.refl _) (a0.Vars, 0, y5) ⟨e85, by simp, pv hx2, pv hx2, pv hx2, pv hx2, pv hx2, pv hx2, pv hx2, pv hx2, pv hx2, pv hx2, pv hx2, pg⟩ fun v σ6 hp L87 hL88 => ?_
  obtain ⟨q90, k71, l72⟩ := v
  dsimp only at hp hL88
  obtain ⟨e85, hd89, h5_2, h5_5, h5_6, h5_7, h5_8, h5_33, h5_34, h5_35, g5_0, g5_1, g5_2, n5_g⟩ := hp
  have n5_0 : ¬ (σ6.gen = 0) := by omega
  have n5_1 : ¬ (σ6.gen = 1) := by omega
  have n5_2 : ¬ (σ6.gen = 2) := by omega
  have n5_3 : ¬ (σ6.gen = 3) := by omega
  rcases q90 with _ | ⟨x95, q91⟩
  ·have hlt92 := drop_end hd89
   rw [checkpoint_text_L1] at e85; try dsimp only at e85
   have F1 := an h5_2 (an h5_5 (an h5_6 (an h5_7 (an h5_8 (an h5_33 (an h5_34 (an h5_35 (an g5_0 (an g5_1 (an g5_2 (an n5_0 (an n5_1 (an n5_2 n5_3)))))))))))))
   refine goR F1 ?_
   refine condK_f (by simp [ltI]; omega) ?_
   obtain rfl := sj e85
   try dsimp only at e54
   exact hK56 l72 _ _ (Gh.refl _) ⟨e54, pv F1, pv F1, pv F1, pv F1, pv F1, pv F1, pv F1, pv F1, pg⟩
  ·obtain ⟨hx94, hlt92, hd96⟩ := drop_next hd89
   have ew93 := wrap_succ hlt92 (hb1).len
   rw [checkpoint_text_L1] at e85; try dsimp only at e85
   have F2 := an h5_2 (an h5_5 (an h5_6 (an h5_7 (an h5_8 (an h5_33 (an h5_34 (an h5_35 (an g5_0 (an g5_1 (an g5_2 (an n5_0 (an n5_1 (an n5_2 (an n5_3 (an hlt92 ew93)))))))))))))))
   refine goR F2 ?_
   refine condK_t (by simp [ltI]; omega) ?_
   have f97 : partCV Tryd.prog 66 (encL a0.Vars) (k71 * 2) = some (.agg (eA x95)) := partCV_enc hx94 (f := 0) (by simp)
   have F3 := an F2 f97
   refine goR F3 ?_
   revert e85; refine bK fun y98 hx99 e85 => ?_
   refine cA F3 (at_frame_AppendString hx99) ?_
   refine goN F3 ?_
   refine awp_gh (by rfl) (Gh.close _ (.o 2 0 0) 0) ?_
   try simp only [St.frz, St.pur]
   revert e85; refine lK fun l100 hx101 e85 => ?_
   have hx101n : l100.length = 1 := by rw [hx101]; rfl
   have F4 := an F3 hx101
   refine goR F4 ?_
   revert e85; refine bK fun y102 hx103 e85 => ?_
   refine cB F4 (at_checkpoint_text_1 hx103) [.o 2 0 0] ?_
   refine goR F4 ?_
   exact hL88 (q91, (k71 + 1), y102) _ _ (Gh.refl _) ⟨e85, hd96, pv F4, pv F4, pv F4, pv F4, pv F4, pv F4, pv F4, pv F4, pv F4, pv F4, pv F4, pg⟩ (by simp)
 ·obtain ⟨e54, h4_2, h4_5, h4_6, h4_7, h4_8, g4_0, g4_1, g4_2, n4_g⟩ := hp
  obtain rfl := sj e54
  try dsimp only at hs
  have n4_0 : ¬ (σ3.gen = 0) := by omega
  have n4_1 : ¬ (σ3.gen = 1) := by omega
  have n4_2 : ¬ (σ3.gen = 2) := by omega
  have n4_3 : ¬ (σ3.gen = 3) := by omega
  have F5 := an h4_2 (an h4_5 (an h4_6 (an h4_7 (an h4_8 (an g4_0 (an g4_1 (an g4_2 (an n4_0 (an n4_1 (an n4_2 n4_3))))))))))
  refine goR F5 ?_
  revert hs; refine bK fun y104 hx105 hs => ?_
  refine cB F5 (at_checkpoint_text_3_checkpoint_text_2 hx105) [.o 4 1 0, .o 2 0 0] ?_
  refine goR F5 ?_
  revert hs; refine bK fun y106 hx107 hs => ?_
  refine cB F5 (at_checkpoint_text_3_checkpoint_text_2 hx107) [.o 4 1 0, .o 2 0 0] ?_
  refine goR F5 ?_
  revert hs; refine bK fun y108 hx109 hs => ?_
  refine cB F5 (at_checkpoint_text_2 hx109) [.o 2 0 0] ?_
  refine goR2 F5 ?_
  revert hs; refine bK fun o553 e552 hs => ?_
  refine awp_cutK (fun (v : (List UInt8)) (σ : St) => some (v) = some o553 /\ σ.env 2 = .cell (.ref (.o 1 0 0) 0) /\ σ.env 5 = .cell (.ref (.o 2 0 0) 0) /\ σ.env 6 = .cell (.fn 49 [.inl (.o 2 0 0)]) /\ σ.env 7 = .cell (.ref (.o 4 1 0) 0) /\ σ.hp (.o 1 0 0) = some (.cells (eA a0)) /\ σ.hp (.o 2 0 0) = some (.cells [.own (.sp 1 v.length (encL v))]) /\ σ.hp (.o 4 1 0) = some (.cells [.fn 50 [.inl (.o 2 0 0)]]) /\ (σ3.gen + 4) <= σ.gen) (by rfl) (fun Q hK554 hX555 => ?_) (fun l551 σ33 hp => ?_)
  ·refine goR F5 ?_
   revert e552; refine bK fun o888 e887 e552 => ?_
   refine awp_loopW (fun (v : Nat × Int × (List UInt8)) (σ : St) => checkpoint_text_L2 fuelN a0 v.1 v.2.1 v.2.2 = some o888 /\ σ.env 2 = .cell (.ref (.o 1 0 0) 0) /\ σ.env 5 = .cell (.ref (.o 2 0 0) 0) /\ σ.env 6 = .cell (.fn 49 [.inl (.o 2 0 0)]) /\ σ.env 7 = .cell (.ref (.o 4 1 0) 0) /\ σ.env 63 = .cell (sC a0.Funcs) /\ σ.env 64 = iV .i64 ((a0.Funcs.length : Nat) : Int) /\ σ.env 65 = iV .i64 v.2.1 /\ σ.hp (.o 1 0 0) = some (.cells (eA a0)) /\ σ.hp (.o 2 0 0) = some (.cells [.own (.sp 1 v.2.2.length (encL v.2.2))]) /\ σ.hp (.o 4 1 0) = some (.cells [.fn 50 [.inl (.o 2 0 0)]]) /\ (σ3.gen + 4) <= σ.gen) (fun v => v.1) _ (Gh.refl _) (fuelN, 0, y108) ⟨e887, pv F5, pv F5, pv F5, pv F5, pv F5, pv F5, pv F5, pv F5, pv F5, pv F5, pg⟩ fun v σ54 hp L889 hL890 => ?_
   obtain ⟨q892, i776, l777⟩ := v
   dsimp only at hp hL890
   obtain ⟨e887, h53_2, h53_5, h53_6, h53_7, h53_63, h53_64, h53_65, g53_0, g53_1, g53_2, n53_g⟩ := hp
   have n53_0 : ¬ (σ54.gen = 0) := by omega
   have n53_1 : ¬ (σ54.gen = 1) := by omega
   have n53_2 : ¬ (σ54.gen = 2) := by omega
   have n53_3 : ¬ (σ54.gen = 3) := by omega
   rcases q892 with _ | q893
   ·rw [checkpoint_text_L2] at e887; cases e887
   ·rw [checkpoint_text_L2] at e887; try dsimp only at e887
    have F6 := an h53_2 (an h53_5 (an h53_6 (an h53_7 (an h53_63 (an h53_64 (an h53_65 (an g53_0 (an g53_1 (an g53_2 (an n53_0 (an n53_1 (an n53_2 n53_3))))))))))))
    refine goR F6 ?_
    revert e887; refine cS F6 ?_ ?_ <;> intro h897 e887
    ·refine goR2 F6 ?_
     revert e887; refine bK fun o947 e946 e887 => ?_
     refine awp_cutK (fun (v : (List UInt8)) (σ : St) => some (v) = some o947 /\ σ.env 2 = .cell (.ref (.o 1 0 0) 0) /\ σ.env 5 = .cell (.ref (.o 2 0 0) 0) /\ σ.env 6 = .cell (.fn 49 [.inl (.o 2 0 0)]) /\ σ.env 7 = .cell (.ref (.o 4 1 0) 0) /\ σ.env 63 = .cell (sC a0.Funcs) /\ σ.env 64 = iV .i64 ((a0.Funcs.length : Nat) : Int) /\ σ.env 65 = iV .i64 i776 /\ σ.hp (.o 1 0 0) = some (.cells (eA a0)) /\ σ.hp (.o 2 0 0) = some (.cells [.own (.sp 1 v.length (encL v))]) /\ σ.hp (.o 4 1 0) = some (.cells [.fn 50 [.inl (.o 2 0 0)]]) /\ (σ54.gen + 1) <= σ.gen) (by rfl) (fun Q hK948 hX949 => ?_) (fun l945 σ57 hp => ?_)
     ·revert e946; refine bK fun x950 hx951 e946 => ?_
      obtain ⟨hx951a, hx951b, hx951c, hx951d⟩ := getI_some hx951
      have f952 : partCV Tryd.prog 56 (encL a0.Funcs) (((i776).toNat) * 2) = some (.agg (eA x950)) := partCV_enc hx951d (f := 0) (by simp)
      have F7 := an F6 f952
      refine goR F7 ?_
      revert e946; refine bK fun y953 hx954 e946 => ?_
      refine cA F7 (at_frame_AppendString hx954) ?_
      refine goN F7 ?_
      refine awp_gh (by rfl) (Gh.close _ (.o 2 0 0) 0) ?_
      try simp only [St.frz, St.pur]
      refine goR F7 ?_
      revert e946; refine bK fun y955 hx956 e946 => ?_
      refine cB F7 (at_checkpoint_text_2 hx956) [.o 2 0 0] ?_
      refine goR F7 ?_
      revert e946; refine bK fun o981 e980 e946 => ?_
      refine awp_loopW (fun (v : (List Inst) × Nat × (List UInt8)) (σ : St) => checkpoint_text_L3 fuelN v.1 v.2.1 v.2.2 = some o981 /\ v.1 = x950.Code.drop v.2.1 /\ σ.env 2 = .cell (.ref (.o 1 0 0) 0) /\ σ.env 5 = .cell (.ref (.o 2 0 0) 0) /\ σ.env 6 = .cell (.fn 49 [.inl (.o 2 0 0)]) /\ σ.env 7 = .cell (.ref (.o 4 1 0) 0) /\ σ.env 63 = .cell (sC a0.Funcs) /\ σ.env 64 = iV .i64 ((a0.Funcs.length : Nat) : Int) /\ σ.env 65 = iV .i64 i776 /\ σ.env 79 = .cell (sC x950.Code) /\ σ.env 80 = iV .i64 ((x950.Code.length : Nat) : Int) /\ σ.env 81 = iV .i64 ((v.2.1 : Nat) : Int) /\ σ.hp (.o 1 0 0) = some (.cells (eA a0)) /\ σ.hp (.o 2 0 0) = some (.cells [.own (.sp 1 v.2.2.length (encL v.2.2))]) /\ σ.hp (.o 4 1 0) = some (.cells [.fn 50 [.inl (.o 2 0 0)]]) /\ (σ54.gen + 5) <= σ.gen) (fun v => v.1.length) _ (Gh.refl _) (x950.Code, 0, y955) ⟨e980, by simp, pv F7, pv F7, pv F7, pv F7, pv F7, pv F7, pv F7, pv F7, pv F7, pv F7, pv F7, pv F7, pv F7, pg⟩ fun v σ60 hp L982 hL983 => ?_
      obtain ⟨q985, k968, l969⟩ := v
      dsimp only at hp hL983
      obtain ⟨e980, hd984, h59_2, h59_5, h59_6, h59_7, h59_63, h59_64, h59_65, h59_79, h59_80, h59_81, g59_0, g59_1, g59_2, n59_g⟩ := hp
      have n59_0 : ¬ (σ60.gen = 0) := by omega
      have n59_1 : ¬ (σ60.gen = 1) := by omega
      have n59_2 : ¬ (σ60.gen = 2) := by omega
      have n59_3 : ¬ (σ60.gen = 3) := by omega
      rcases q985 with _ | ⟨x990, q986⟩
      ·have hlt987 := drop_end hd984
       rw [checkpoint_text_L3] at e980; try dsimp only at e980
       have F8 := an h59_2 (an h59_5 (an h59_6 (an h59_7 (an h59_63 (an h59_64 (an h59_65 (an h59_79 (an h59_80 (an h59_81 (an g59_0 (an g59_1 (an g59_2 (an n59_0 (an n59_1 (an n59_2 (an n59_3 f952))))))))))))))))
       refine goR F8 ?_
       refine condK_f (by simp [ltI]; omega) ?_
       obtain rfl := sj e980
       try dsimp only at e946
       exact hK948 l969 _ _ (Gh.refl _) ⟨e946, pv F8, pv F8, pv F8, pv F8, pv F8, pv F8, pv F8, pv F8, pv F8, pv F8, pg⟩
      ·obtain ⟨hx989, hlt987, hd991⟩ := drop_next hd984
       have ew988 := wrap_succ hlt987 ((LenOk.elem hb4 hx951d (c := .sl x950.Code.length (encL x950.Code)) (by simp))).len
       rw [checkpoint_text_L3] at e980; try dsimp only at e980
       have F9 := an h59_2 (an h59_5 (an h59_6 (an h59_7 (an h59_63 (an h59_64 (an h59_65 (an h59_79 (an h59_80 (an h59_81 (an g59_0 (an g59_1 (an g59_2 (an n59_0 (an n59_1 (an n59_2 (an n59_3 (an f952 (an hlt987 ew988))))))))))))))))))
       refine goR F9 ?_
       refine condK_t (by simp [ltI]; omega) ?_
       have f992 : partCV Tryd.prog 72 (encL x950.Code) (k968 * 8) = some (.agg (eA x990)) := partCV_enc hx989 (f := 0) (by simp)
       revert e980; refine lK fun l993 hx994 e980 => ?_
       have hx994n : l993.length = 8 := by rw [hx994]; rfl
       have F10 := an F9 (an f992 hx994)
       refine goR F10 ?_
       revert e980; refine bK fun y995 hx996 e980 => ?_
       refine cB F10 (at_checkpoint_text_1 hx996) [.o 2 0 0] ?_
       refine goR F10 ?_
       exact hL983 (q986, (k968 + 1), y995) _ _ (Gh.refl _) ⟨e980, hd991, pv F10, pv F10, pv F10, pv F10, pv F10, pv F10, pv F10, pv F10, pv F10, pv F10, pv F10, pv F10, pv F10, pg⟩ (by simp)
     ·obtain ⟨e946, h58_2, h58_5, h58_6, h58_7, h58_63, h58_64, h58_65, g58_0, g58_1, g58_2, n58_g⟩ := hp
      obtain rfl := sj e946
      try dsimp only at e887
      have n58_0 : ¬ (σ57.gen = 0) := by omega
      have n58_1 : ¬ (σ57.gen = 1) := by omega
      have n58_2 : ¬ (σ57.gen = 2) := by omega
      have n58_3 : ¬ (σ57.gen = 3) := by omega
      have F11 := an h58_2 (an h58_5 (an h58_6 (an h58_7 (an h58_63 (an h58_64 (an h58_65 (an g58_0 (an g58_1 (an g58_2 (an n58_0 (an n58_1 (an n58_2 n58_3))))))))))))
      refine goR F11 ?_
      exact hL890 (q893, IntKind.i64.wrap (i776 + 1), l945) _ _ (Gh.refl _) ⟨e887, pv F11, pv F11, pv F11, pv F11, pv F11, pv F11, pv F11, pv F11, pv F11, pv F11, pg⟩ (by omega)
    ·refine goR F6 ?_
     obtain rfl := sj e887
     try dsimp only at e552
     exact hK554 l777 _ _ (Gh.refl _) ⟨e552, pv F6, pv F6, pv F6, pv F6, pv F6, pv F6, pv F6, pg⟩
  ·obtain ⟨e552, h34_2, h34_5, h34_6, h34_7, g34_0, g34_1, g34_2, n34_g⟩ := hp
   obtain rfl := sj e552
   try dsimp only at hs
   have n34_0 : ¬ (σ33.gen = 0) := by omega
   have n34_1 : ¬ (σ33.gen = 1) := by omega
   have n34_2 : ¬ (σ33.gen = 2) := by omega
   have n34_3 : ¬ (σ33.gen = 3) := by omega
   have F12 := an h34_2 (an h34_5 (an h34_6 (an h34_7 (an g34_0 (an g34_1 (an g34_2 (an n34_0 (an n34_1 (an n34_2 n34_3)))))))))
   refine goR F12 ?_
   revert hs; refine bK fun y997 hx998 hs => ?_
   refine cB F12 (at_checkpoint_text_2 hx998) [.o 2 0 0] ?_
   refine goR2 F12 ?_
   revert hs; refine bK fun o1041 e1040 hs => ?_
   refine awp_cutK (fun (v : (List UInt8)) (σ : St) => some (v) = some o1041 /\ σ.env 5 = .cell (.ref (.o 2 0 0) 0) /\ σ.hp (.o 2 0 0) = some (.cells [.own (.sp 1 v.length (encL v))]) /\ (σ33.gen + 2) <= σ.gen) (by rfl) (fun Q hK1042 hX1043 => ?_) (fun l1039 σ63 hp => ?_)
   ·refine goR F12 ?_
    revert e1040; refine bK fun o1068 e1067 e1040 => ?_
    refine awp_loopW (fun (v : (List Start) × Nat × (List UInt8)) (σ : St) => checkpoint_text_L4 fuelN v.1 v.2.1 v.2.2 = some o1068 /\ v.1 = a0.Threads.drop v.2.1 /\ σ.env 5 = .cell (.ref (.o 2 0 0) 0) /\ σ.env 6 = .cell (.fn 49 [.inl (.o 2 0 0)]) /\ σ.env 112 = .cell (sC a0.Threads) /\ σ.env 113 = iV .i64 ((a0.Threads.length : Nat) : Int) /\ σ.env 114 = iV .i64 ((v.2.1 : Nat) : Int) /\ σ.hp (.o 2 0 0) = some (.cells [.own (.sp 1 v.2.2.length (encL v.2.2))]) /\ (σ33.gen + 2) <= σ.gen) (fun v => v.1.length) _ (Gh.refl _) (a0.Threads, 0, y997) ⟨e1067, by simp, pv F12, pv F12, pv F12, pv F12, pv F12, pv F12, pg⟩ fun v σ66 hp L1069 hL1070 => ?_
    obtain ⟨q1072, k1055, l1056⟩ := v
    dsimp only at hp hL1070
    obtain ⟨e1067, hd1071, h65_5, h65_6, h65_112, h65_113, h65_114, g65_0, n65_g⟩ := hp
    have n65_0 : ¬ (σ66.gen = 0) := by omega
    have n65_1 : ¬ (σ66.gen = 1) := by omega
    rcases q1072 with _ | ⟨x1077, q1073⟩
    ·have hlt1074 := drop_end hd1071
     rw [checkpoint_text_L4] at e1067; try dsimp only at e1067
     have F13 := an h65_5 (an h65_6 (an h65_112 (an h65_113 (an h65_114 (an g65_0 (an n65_0 n65_1))))))
     refine goR F13 ?_
     refine condK_f (by simp [ltI]; omega) ?_
     obtain rfl := sj e1067
     try dsimp only at e1040
     exact hK1042 l1056 _ _ (Gh.refl _) ⟨e1040, pv F13, pv F13, pg⟩
    ·obtain ⟨hx1076, hlt1074, hd1078⟩ := drop_next hd1071
     have ew1075 := wrap_succ hlt1074 (hb5).len
     rw [checkpoint_text_L4] at e1067; try dsimp only at e1067
     have F14 := an h65_5 (an h65_6 (an h65_112 (an h65_113 (an h65_114 (an g65_0 (an n65_0 (an n65_1 (an hlt1074 ew1075))))))))
     refine goR F14 ?_
     refine condK_t (by simp [ltI]; omega) ?_
     have f1079 : partCV Tryd.prog 74 (encL a0.Threads) (k1055 * 2) = some (.agg (eA x1077)) := partCV_enc hx1076 (f := 0) (by simp)
     revert e1067; refine lK fun l1080 hx1081 e1067 => ?_
     have hx1081n : l1080.length = 2 := by rw [hx1081]; rfl
     have F15 := an F14 (an f1079 hx1081)
     refine goR F15 ?_
     revert e1067; refine bK fun y1082 hx1083 e1067 => ?_
     refine cB F15 (at_checkpoint_text_1 hx1083) [.o 2 0 0] ?_
     refine goR F15 ?_
     exact hL1070 (q1073, (k1055 + 1), y1082) _ _ (Gh.refl _) ⟨e1067, hd1078, pv F15, pv F15, pv F15, pv F15, pv F15, pv F15, pg⟩ (by simp)
   ·obtain ⟨e1040, h64_5, g64_0, n64_g⟩ := hp
    obtain rfl := sj e1040
    try dsimp only at hs
    have n64_0 : ¬ (σ63.gen = 0) := by omega
    have n64_1 : ¬ (σ63.gen = 1) := by omega
    have F16 := an h64_5 (an g64_0 (an n64_0 n64_1))
    refine goR F16 ?_
    obtain rfl := sj hs
    refine hQ _ _ (ret2g _ (Gh.ren _ (.o (σ63.gen + 1) 0 0) (.r 0) (by simp) rfl rfl) (by simp [St.frz, St.pur, F16]; rfl) (by first | rfl | (simp [St.frz, St.pur, F16]; done) | (rw [if_pos (by first | omega | (simp; omega))]; simp [St.frz, St.pur, F16]; first | omega | exact List.take_of_length_le (by simp; omega) | skip)) (pv F16))
end Go.Dc
end
section
set_option linter.all false
namespace Go.Dc
open Go Go.Hw Go.Proofs
set_option maxRecDepth 100000
def checkpoint_Digest (fuelN : Nat) (a0 : Program) (a1 : Config) : Option (Int × Int) :=
 Option.bind (checkpoint_standard fuelN a0 a1) (fun y1 => cond (!(eqI y1 0)) (some (0, y1)) (Option.bind (checkpoint_text fuelN a0 a1) (fun y4 => Option.bind (frame_Checksum fuelN y4) (fun y6 => some (IntKind.i64.wrap y6, 0)))))
set_option maxHeartbeats 2000000 in
theorem at_checkpoint_Digest {fuelN : Nat} {a0 : Program} {a1 : Config} {r : Int × Int} (hs : checkpoint_Digest fuelN a0 a1 = some r) : At Tryd.prog 8 [.agg (eA a0), .agg (eA a1)] (.tup [iV .i64 r.1, iV .i64 r.2]) := by
 refine at_bound (by kernel_rfl) fun hb => ?_
 have hb1 : LenOk (.sl a0.Vars.length (encL a0.Vars)) := lkc hb
 have hb2 : LenOk (.sl a0.Mutexes.length (encL a0.Mutexes)) := lkc hb
 have hb3 : LenOk (.sl a0.Conds.length (encL a0.Conds)) := lkc hb
 have hb4 : LenOk (.sl a0.Funcs.length (encL a0.Funcs)) := lkc hb
 have hb5 : LenOk (.sl a0.Threads.length (encL a0.Threads)) := lkc hb
 refine at_code mixed Tryd.func8 (by kernel_rfl) rfl (by kernel_rfl) rfl fun Q hQ => ?_
 rw [checkpoint_Digest] at hs
 refine goR f0 ?_
 revert hs; refine bK fun y1 hx2 hs => ?_
 refine cP f0 (at_checkpoint_standard hx2) ?_
 refine goR f0 ?_
 revert hs; refine cS f0 ?_ ?_ <;> intro h3 hs
 ·refine goR f0 ?_
  obtain rfl := sj hs
  exact hQ _ _ (rg f0 (Gh.refl _))
 ·refine goR f0 ?_
  revert hs; refine bK fun y4 hx5 hs => ?_
  refine cA f0 (at_checkpoint_text hx5) ?_
  refine goR f0 ?_
  revert hs; refine bK fun y6 hx7 hs => ?_
  refine cA f0 (at_frame_Checksum hx7) ?_
  refine goR f0 ?_
  obtain rfl := sj hs
  exact hQ _ _ (rg f0 (Gh.refl _))
end Go.Dc
end
section
set_option linter.all false
namespace Go.Dc
open Go Go.Hw Go.Proofs
set_option maxRecDepth 100000
def r08_CheckConfig (a0 : Config) : Option Int :=
 cond (andB (andB (!(eqI a0.Model 1)) (!(eqI a0.Model 2))) (!(eqI a0.Model 3))) (some 18) (cond (orB (ltI a0.Bound 1) (ltI 32 a0.Bound)) (some 2) (some 0))
end Go.Dc
end
section
set_option linter.all false
namespace Go.Dc
open Go Go.Hw Go.Proofs
set_option maxRecDepth 100000
def r49_standard (fuelN : Nat) (a0 : Program) (a1 : Config) : Option Int :=
 Option.bind (r08_Check fuelN a0) (fun y1 => cond (!(eqI y1.1 0)) (some y1.1) (Option.bind (r08_CheckConfig a1) (fun y4 => cond (!(eqI y4 0)) (some y4) (cond (eqI a1.Model 3) (some 18) (some 0)))))
end Go.Dc
end
section
set_option linter.all false
namespace Go.Dc
open Go Go.Hw Go.Proofs
set_option maxRecDepth 100000
def r49_numbers_L1 (fuelN : Nat) : List Int -> (List UInt8) -> Nat -> Option (List UInt8)
 | [], l49, k50 => some (l49)
 | x69 :: q65, l49, k50 => Option.bind (r06_AppendInt fuelN l49 x69) (fun y72 => r49_numbers_L1 fuelN q65 y72 (k50 + 1))
def r49_numbers (fuelN : Nat) (a0 : List UInt8) (a1 : List Int) : Option (List UInt8) :=
 Option.bind (α := (List UInt8)) (Option.bind (r49_numbers_L1 fuelN a1 a0 0) (fun l58 => some (l58))) (fun l35 => some l35)
end Go.Dc
end
section
set_option linter.all false
namespace Go.Dc
open Go Go.Hw Go.Proofs
set_option maxRecDepth 100000
def r49_names_L1 (fuelN : Nat) : List ByteArray -> (List UInt8) -> Nat -> Option (List UInt8)
 | [], l51, k52 => some (l51)
 | x71 :: q67, l51, k52 => Option.bind (r06_AppendString fuelN l51 x71) (fun y74 => r49_names_L1 fuelN q67 y74 (k52 + 1))
def r49_names (fuelN : Nat) (a0 : List UInt8) (a1 : List ByteArray) : Option (List UInt8) :=
 Option.bind (r06_AppendUint fuelN a0 ((a1.length : Nat) : Int)) (fun y1 => Option.bind (α := (List UInt8)) (Option.bind (r49_names_L1 fuelN a1 y1 0) (fun l60 => some (l60))) (fun l37 => some l37))
end Go.Dc
end
section
set_option linter.all false
namespace Go.Dc
open Go Go.Hw Go.Proofs
set_option maxRecDepth 100000
def r49_Digest_L1 (fuelN : Nat) : List Var -> (List UInt8) -> Nat -> Option (List UInt8)
 | [], l70, k71 => some (l70)
 | x93 :: q89, l70, k71 => Option.bind (r06_AppendString fuelN l70 x93.Name) (fun y96 => Option.bind (r06_AppendInt fuelN y96 x93.Init) (fun y99 => r49_Digest_L1 fuelN q89 y99 (k71 + 1)))
def r49_Digest_L3 (fuelN : Nat) : List Inst -> (List UInt8) -> Nat -> Option (List UInt8)
 | [], l1145, k1146 => some (l1145)
 | x1167 :: q1163, l1145, k1146 => Option.bind (some ([x1167.Op, x1167.A, x1167.B, x1167.C, x1167.Obj, x1167.N, x1167.Fn, x1167.Order])) (fun l1170 => Option.bind (r49_numbers fuelN l1145 l1170) (fun y1172 => r49_Digest_L3 fuelN q1163 y1172 (k1146 + 1)))
def r49_Digest_L2 (fuelN : Nat) (a0 : Program) : Nat -> (List UInt8) -> Int -> Option (List UInt8)
 | 0, _, _ => none
 | q1046 + 1, l907, i908 => cond (ltI i908 ((a0.Funcs.length : Nat) : Int)) (Option.bind (α := (List UInt8)) (Option.bind (getI a0.Funcs i908) (fun x1115 => Option.bind (r06_AppendString fuelN l907 x1115.Name) (fun y1118 => Option.bind (r06_AppendUint fuelN y1118 ((x1115.Code.length : Nat) : Int)) (fun y1121 => Option.bind (r49_Digest_L3 fuelN x1115.Code y1121 0) (fun l1156 => some (l1156)))))) (fun l1110 => r49_Digest_L2 fuelN a0 q1046 l1110 (IntKind.i64.wrap (i908 + 1)))) (some (l907))
def r49_Digest_L4 (fuelN : Nat) : List Start -> (List UInt8) -> Nat -> Option (List UInt8)
 | [], l1306, k1307 => some (l1306)
 | x1337 :: q1333, l1306, k1307 => Option.bind (some ([x1337.Func, x1337.Arg])) (fun l1347 => Option.bind (r49_numbers fuelN l1306 l1347) (fun y1349 => r49_Digest_L4 fuelN q1333 y1349 (k1307 + 1)))
def r49_Digest (fuelN : Nat) (a0 : Program) (a1 : Config) : Option (Int × Int) :=
 Option.bind (r49_standard fuelN a0 a1) (fun y1 => cond (!(eqI y1 0)) (some (0, y1)) (Option.bind (some ([a1.Model, a1.Bound])) (fun l4 => Option.bind (r49_numbers fuelN [] l4) (fun y6 => Option.bind (r06_AppendUint fuelN y6 ((a0.Vars.length : Nat) : Int)) (fun y8 => Option.bind (α := (List UInt8)) (Option.bind (r49_Digest_L1 fuelN a0.Vars y8 0) (fun l82 => some (l82))) (fun l53 => Option.bind (r49_names fuelN l53 a0.Mutexes) (fun y101 => Option.bind (r49_names fuelN y101 a0.Conds) (fun y103 => Option.bind (r06_AppendUint fuelN y103 ((a0.Funcs.length : Nat) : Int)) (fun y105 => Option.bind (α := (List UInt8)) (Option.bind (r49_Digest_L2 fuelN a0 fuelN y105 0) (fun l1039 => some (l1039))) (fun l638 => Option.bind (r06_AppendUint fuelN l638 ((a0.Threads.length : Nat) : Int)) (fun y1174 => Option.bind (α := (List UInt8)) (Option.bind (r49_Digest_L4 fuelN a0.Threads y1174 0) (fun l1326 => some (l1326))) (fun l1261 => Option.bind (r06_Checksum fuelN l1261) (fun y1351 => some (IntKind.i64.wrap y1351, 0))))))))))))))
end Go.Dc
end
section
set_option linter.all false
namespace Go.Dc
open Go Go.Hw Go.Proofs
set_option maxRecDepth 100000
def r26_back_L1 : List Inst -> Nat -> Option (Unit ⊕ Bool)
 | [], k45 => some (.inl ())
 | x63 :: q59, k45 => cond (andB (orB (eqI x63.Op 4) (eqI x63.Op 5)) (!(ltI ((k45 : Nat) : Int) x63.N))) (some (.inr true)) (r26_back_L1 q59 (k45 + 1))
def r26_back (a0 : Func) : Option Bool :=
 Option.bind (α := Unit ⊕ Bool) (Option.bind (r26_back_L1 a0.Code 0) (fun o => match o with | .inl _ => some (.inl ()) | .inr r68 => some (.inr r68))) (fun o => match o with | .inl _ => some false | .inr r69 => some r69)
set_option maxHeartbeats 2000000 in
theorem at_r26_back {a0 : Func} {r : Bool} (hs : r26_back a0 = some r) : At Tryd.prog 69 [.agg (eA a0)] (bV r) := by
 refine at_bound (by kernel_rfl) fun hb => ?_
 have hb1 : LenOk (.sl a0.Code.length (encL a0.Code)) := lkc hb
 refine at_code mixed Tryd.func69 (by kernel_rfl) rfl (by kernel_rfl) rfl fun Q hQ => ?_
 rw [r26_back] at hs
 refine goR2 f0 ?_
 revert hs; refine bK fun o34 e33 hs => ?_
 refine awp_cutK (fun (v : Unit) (σ : St) => some (.inl v) = some o34 /\ 2 <= σ.gen) (by rfl) (fun Q hK35 hX36 => ?_) (fun v σ3 hp => ?_)
 ·refine goR f0 ?_
  revert e33; refine bK fun o54 e53 e33 => ?_
  refine awp_loopW (fun (v : (List Inst) × Nat) (σ : St) => r26_back_L1 v.1 v.2 = some o54 /\ v.1 = a0.Code.drop v.2 /\ σ.env 1 = .cell (.ref (.o 1 0 0) 0) /\ σ.env 3 = iV .i64 ((v.2 : Nat) : Int) /\ σ.hp (.o 1 0 0) = some (.cells (eA a0)) /\ 2 <= σ.gen) (fun v => v.1.length) _ (Gh.refl _) (a0.Code, 0) ⟨e53, by simp, pv f0, pv f0, pv f0, pg⟩ fun v σ6 hp L55 hL56 => ?_
  obtain ⟨q58, k45⟩ := v
  dsimp only at hp hL56
  obtain ⟨e53, hd57, h5_1, h5_3, g5_0, n5_g⟩ := hp
  have n5_0 : ¬ (σ6.gen = 0) := by omega
  rcases q58 with _ | ⟨x63, q59⟩
  ·have hlt60 := drop_end hd57
   rw [r26_back_L1] at e53; try dsimp only at e53
   have F1 := an h5_1 (an h5_3 (an g5_0 n5_0))
   refine goR F1 ?_
   refine condK_f (by simp [ltI]; omega) ?_
   obtain rfl := sj e53
   try dsimp only at e33
   exact hK35 () _ _ (Gh.refl _) ⟨e33, pg⟩
  ·obtain ⟨hx62, hlt60, hd64⟩ := drop_next hd57
   have ew61 := wrap_succ hlt60 (hb1).len
   rw [r26_back_L1] at e53; try dsimp only at e53
   have F2 := an h5_1 (an h5_3 (an g5_0 (an n5_0 (an hlt60 ew61))))
   refine goR F2 ?_
   refine condK_t (by simp [ltI]; omega) ?_
   have f65 : partCV Tryd.prog 68 (encL a0.Code) (k45 * 8) = some (iV .i64 x63.Op) := partCV_enc hx62 (f := 0) (by simp)
   have f66 : partCV Tryd.prog 3 (encL a0.Code) (k45 * 8 + 5) = some (iV .i64 x63.N) := partCV_enc hx62 (f := 5) (by simp)
   have F3 := an F2 (an f65 f66)
   refine goG F3 F3 ?_
   revert e53; refine cS F3 ?_ ?_ <;> intro h67 e53
   ·refine goG F3 F3 ?_
    obtain rfl := sj e53
    try dsimp only at e33
    obtain rfl := sj e33
    try dsimp only at hs
    refine hX36 _ _ (by simp) ?_
    refine goG F3 F3 ?_
    obtain rfl := sj hs
    exact hQ _ _ (rg F3 (Gh.refl _))
   ·refine goG F3 F3 ?_
    exact hL56 (q59, (k45 + 1)) _ _ (Gh.refl _) ⟨e53, hd64, pv F3, pv F3, pv F3, pg⟩ (by simp)
 ·obtain ⟨e33, n4_g⟩ := hp
  obtain rfl := sj e33
  try dsimp only at hs
  refine goR f0 ?_
  obtain rfl := sj hs
  exact hQ _ _ (rg f0 (Gh.refl _))
end Go.Dc
end
section
set_option linter.all false
namespace Go.Dc
open Go Go.Hw Go.Proofs
set_option maxRecDepth 100000
def r26_spawned_L1 : List Inst -> Int -> Nat -> Option Int
 | [], i61, k62 => some (i61)
 | x80 :: q76, i61, k62 => cond (eqI x80.Op 21) (r26_spawned_L1 q76 (IntKind.i64.wrap (i61 + 1)) (k62 + 1)) (r26_spawned_L1 q76 i61 (k62 + 1))
def r26_spawned (a0 : Func) (a1 : Int) : Option Int :=
 Option.bind (α := Int) (Option.bind (r26_spawned_L1 a0.Code 0 0) (fun i69 => some (i69))) (fun i40 => guardO (orB (!(ltI 0 i40)) ((r26_back a0).isSome)) (cond (andB (ltI 0 i40) ((r26_back a0).getD default)) (some (if a1 > i40 then a1 else i40)) (some i40)))
set_option maxHeartbeats 2000000 in
theorem at_r26_spawned {a0 : Func} {a1 : Int} {r : Int} (hs : r26_spawned a0 a1 = some r) : At Tryd.prog 43 [.agg (eA a0), iV .i64 a1] (iV .i64 r) := by
 refine at_bound (by kernel_rfl) fun hb => ?_
 have hb1 : LenOk (.sl a0.Code.length (encL a0.Code)) := lkc hb
 refine at_code mixed Tryd.func43 (by kernel_rfl) rfl (by kernel_rfl) rfl fun Q hQ => ?_
 rw [r26_spawned] at hs
 refine goR2 f0 ?_
 revert hs; refine bK fun o42 e41 hs => ?_
 refine awp_cutK (fun (v : Int) (σ : St) => some (v) = some o42 /\ σ.env 1 = iV .i64 a1 /\ σ.env 2 = .cell (.ref (.o 1 0 0) 0) /\ σ.env 5 = iV .i64 v /\ σ.hp (.o 1 0 0) = some (.cells (eA a0)) /\ 3 <= σ.gen) (by rfl) (fun Q hK43 hX44 => ?_) (fun i40 σ3 hp => ?_)
 ·refine goR f0 ?_
  revert e41; refine bK fun o71 e70 e41 => ?_
  refine awp_loopW (fun (v : (List Inst) × Int × Nat) (σ : St) => r26_spawned_L1 v.1 v.2.1 v.2.2 = some o71 /\ v.1 = a0.Code.drop v.2.2 /\ σ.env 1 = iV .i64 a1 /\ σ.env 2 = .cell (.ref (.o 1 0 0) 0) /\ σ.env 5 = iV .i64 v.2.1 /\ σ.env 6 = iV .i64 ((v.2.2 : Nat) : Int) /\ σ.hp (.o 1 0 0) = some (.cells (eA a0)) /\ 3 <= σ.gen) (fun v => v.1.length) _ (Gh.refl _) (a0.Code, 0, 0) ⟨e70, by simp, pv f0, pv f0, pv f0, pv f0, pv f0, pg⟩ fun v σ6 hp L72 hL73 => ?_
  obtain ⟨q75, i61, k62⟩ := v
  dsimp only at hp hL73
  obtain ⟨e70, hd74, h5_1, h5_2, h5_5, h5_6, g5_0, n5_g⟩ := hp
  have n5_0 : ¬ (σ6.gen = 0) := by omega
  rcases q75 with _ | ⟨x80, q76⟩
  ·have hlt77 := drop_end hd74
   rw [r26_spawned_L1] at e70; try dsimp only at e70
   have F1 := an h5_1 (an h5_2 (an h5_5 (an h5_6 (an g5_0 n5_0))))
   refine goR F1 ?_
   refine condK_f (by simp [ltI]; omega) ?_
   obtain rfl := sj e70
   try dsimp only at e41
   exact hK43 i61 _ _ (Gh.refl _) ⟨e41, pv F1, pv F1, pv F1, pv F1, pg⟩
  ·obtain ⟨hx79, hlt77, hd81⟩ := drop_next hd74
   have ew78 := wrap_succ hlt77 (hb1).len
   rw [r26_spawned_L1] at e70; try dsimp only at e70
   have F2 := an h5_1 (an h5_2 (an h5_5 (an h5_6 (an g5_0 (an n5_0 (an hlt77 ew78))))))
   refine goR F2 ?_
   refine condK_t (by simp [ltI]; omega) ?_
   have f82 : partCV Tryd.prog 68 (encL a0.Code) (k62 * 8) = some (iV .i64 x80.Op) := partCV_enc hx79 (f := 0) (by simp)
   have F3 := an F2 f82
   refine goR F3 ?_
   revert e70; refine cS F3 ?_ ?_ <;> intro h83 e70
   ·refine goR F3 ?_
    exact hL73 (q76, IntKind.i64.wrap (i61 + 1), (k62 + 1)) _ _ (Gh.refl _) ⟨e70, hd81, pv F3, pv F3, pv F3, pv F3, pv F3, pg⟩ (by simp)
   ·refine goR F3 ?_
    exact hL73 (q76, i61, (k62 + 1)) _ _ (Gh.refl _) ⟨e70, hd81, pv F3, pv F3, pv F3, pv F3, pv F3, pg⟩ (by simp)
 ·obtain ⟨e41, h4_1, h4_2, h4_5, g4_0, n4_g⟩ := hp
  obtain rfl := sj e41
  try dsimp only at hs
  have n4_0 : ¬ (σ3.gen = 0) := by omega
  have F4 := an h4_1 (an h4_2 (an h4_5 (an g4_0 n4_0)))
  refine goG F4 F4 ?_
  obtain ⟨g84, hs⟩ := guardO_some hs
  refine gsel_call (fun hg => at_r26_back (under_call g84 hg)) (fun hg => by (try simp at hg); (first | simp [hg, F4]); try rfl) (fun hg => by (try simp at hg); simp [hg, F4]) (by simp) ?_
  refine goG F4 F4 ?_
  revert hs; refine cS F4 ?_ ?_ <;> intro h85 hs
  ·refine goG F4 F4 ?_
   obtain rfl := sj hs
   exact hQ _ _ (rg F4 (Gh.refl _))
  ·refine goG F4 F4 ?_
   obtain rfl := sj hs
   exact hQ _ _ (rg F4 (Gh.refl _))
end Go.Dc
end
section
set_option linter.all false
namespace Go.Dc
open Go Go.Hw Go.Proofs
set_option maxRecDepth 100000
def r26_lone_L1 (a0 : Program) (a1 : Int) : List Start -> Int -> Nat -> Option Int
 | [], i91, k92 => some (i91)
 | x115 :: q111, i91, k92 => cond (andB (!(ltI x115.Func 0)) (ltI x115.Func ((a0.Funcs.length : Nat) : Int))) (Option.bind (getI a0.Funcs x115.Func) (fun x119 => Option.bind (r26_spawned x119 a1) (fun y122 => r26_lone_L1 a0 a1 q111 (IntKind.i64.wrap (i91 + y122)) (k92 + 1)))) (r26_lone_L1 a0 a1 q111 i91 (k92 + 1))
def r26_lone_L3 (a0 : Program) (a1 : Int) (i796 : Int) : Nat -> Int -> Option (Unit ⊕ Bool)
 | 0, _ => none
 | q1002 + 1, i983 => Option.bind (getI a0.Funcs i796) (fun x1006 => cond (ltI i983 ((x1006.Code.length : Nat) : Int)) (Option.bind (getI x1006.Code i983) (fun x1010 => guardO (orB (!(andB (andB (eqI x1010.Op 21) (!(ltI x1010.Obj 0))) (ltI x1010.Obj ((a0.Funcs.length : Nat) : Int)))) (inB x1010.Obj a0.Funcs.length)) (guardO (orB (!(andB (andB (eqI x1010.Op 21) (!(ltI x1010.Obj 0))) (ltI x1010.Obj ((a0.Funcs.length : Nat) : Int)))) ((r26_spawned (gd a0.Funcs ((x1010.Obj).toNat)) a1).isSome)) (cond (andB (andB (andB (eqI x1010.Op 21) (!(ltI x1010.Obj 0))) (ltI x1010.Obj ((a0.Funcs.length : Nat) : Int))) (ltI 0 ((r26_spawned (gd a0.Funcs ((x1010.Obj).toNat)) a1).getD default))) (some (.inr false)) (r26_lone_L3 a0 a1 i796 q1002 (IntKind.i64.wrap (i983 + 1))))))) (some (.inl ())))
def r26_lone_L2 (fuelN : Nat) (a0 : Program) (a1 : Int) : Nat -> Int -> Option (Unit ⊕ Bool)
 | 0, _ => none
 | q913 + 1, i796 => cond (ltI i796 ((a0.Funcs.length : Nat) : Int)) (Option.bind (α := Unit ⊕ Bool) (Option.bind (r26_lone_L3 a0 a1 i796 fuelN 0) (fun o => match o with | .inl _ => some (.inl ()) | .inr r1017 => some (.inr r1017))) (fun o => match o with | .inl _ => r26_lone_L2 fuelN a0 a1 q913 (IntKind.i64.wrap (i796 + 1)) | .inr r1018 => some (.inr r1018))) (some (.inl ()))
def r26_lone (fuelN : Nat) (a0 : Program) (a1 : Int) : Option Bool :=
 Option.bind (α := Int) (Option.bind (r26_lone_L1 a0 a1 a0.Threads ((a0.Threads.length : Nat) : Int) 0) (fun i104 => some (i104))) (fun i60 => Option.bind (α := Unit ⊕ Bool) (Option.bind (r26_lone_L2 fuelN a0 a1 fuelN 0) (fun o => match o with | .inl _ => some (.inl ()) | .inr r1019 => some (.inr r1019))) (fun o => match o with | .inl _ => some (!(ltI 5 i60)) | .inr r1020 => some r1020))
set_option maxHeartbeats 2000000 in
theorem at_r26_lone {fuelN : Nat} {a0 : Program} {a1 : Int} {r : Bool} (hs : r26_lone fuelN a0 a1 = some r) : At Tryd.prog 17 [.agg (eA a0), iV .i64 a1] (bV r) := by
 refine at_bound (by kernel_rfl) fun hb => ?_
 have hb1 : LenOk (.sl a0.Vars.length (encL a0.Vars)) := lkc hb
 have hb2 : LenOk (.sl a0.Mutexes.length (encL a0.Mutexes)) := lkc hb
 have hb3 : LenOk (.sl a0.Conds.length (encL a0.Conds)) := lkc hb
 have hb4 : LenOk (.sl a0.Funcs.length (encL a0.Funcs)) := lkc hb
 have hb5 : LenOk (.sl a0.Threads.length (encL a0.Threads)) := lkc hb
 refine at_code mixed Tryd.func17 (by kernel_rfl) rfl (by kernel_rfl) rfl fun Q hQ => ?_
 rw [r26_lone] at hs
 refine goR2 f0 ?_
 revert hs; refine bK fun o62 e61 hs => ?_
 refine awp_cutK (fun (v : Int) (σ : St) => some (v) = some o62 /\ σ.env 1 = iV .i64 a1 /\ σ.env 2 = .cell (.ref (.o 1 0 0) 0) /\ σ.env 5 = iV .i64 v /\ σ.hp (.o 1 0 0) = some (.cells (eA a0)) /\ 3 <= σ.gen) (by rfl) (fun Q hK63 hX64 => ?_) (fun i60 σ3 hp => ?_)
 ·refine goR f0 ?_
  revert e61; refine bK fun o106 e105 e61 => ?_
  refine awp_loopW (fun (v : (List Start) × Int × Nat) (σ : St) => r26_lone_L1 a0 a1 v.1 v.2.1 v.2.2 = some o106 /\ v.1 = a0.Threads.drop v.2.2 /\ σ.env 1 = iV .i64 a1 /\ σ.env 2 = .cell (.ref (.o 1 0 0) 0) /\ σ.env 5 = iV .i64 v.2.1 /\ σ.env 6 = iV .i64 ((v.2.2 : Nat) : Int) /\ σ.hp (.o 1 0 0) = some (.cells (eA a0)) /\ 3 <= σ.gen) (fun v => v.1.length) _ (Gh.refl _) (a0.Threads, ((a0.Threads.length : Nat) : Int), 0) ⟨e105, by simp, pv f0, pv f0, pv f0, pv f0, pv f0, pg⟩ fun v σ6 hp L107 hL108 => ?_
  obtain ⟨q110, i91, k92⟩ := v
  dsimp only at hp hL108
  obtain ⟨e105, hd109, h5_1, h5_2, h5_5, h5_6, g5_0, n5_g⟩ := hp
  have n5_0 : ¬ (σ6.gen = 0) := by omega
  rcases q110 with _ | ⟨x115, q111⟩
  ·have hlt112 := drop_end hd109
   rw [r26_lone_L1] at e105; try dsimp only at e105
   have F1 := an h5_1 (an h5_2 (an h5_5 (an h5_6 (an g5_0 n5_0))))
   refine goR F1 ?_
   refine condK_f (by simp [ltI]; omega) ?_
   obtain rfl := sj e105
   try dsimp only at e61
   exact hK63 i91 _ _ (Gh.refl _) ⟨e61, pv F1, pv F1, pv F1, pv F1, pg⟩
  ·obtain ⟨hx114, hlt112, hd116⟩ := drop_next hd109
   have ew113 := wrap_succ hlt112 (hb5).len
   rw [r26_lone_L1] at e105; try dsimp only at e105
   have F2 := an h5_1 (an h5_2 (an h5_5 (an h5_6 (an g5_0 (an n5_0 (an hlt112 ew113))))))
   refine goR F2 ?_
   refine condK_t (by simp [ltI]; omega) ?_
   have f117 : partCV Tryd.prog 3 (encL a0.Threads) (k92 * 2) = some (iV .i64 x115.Func) := partCV_enc hx114 (f := 0) (by simp)
   have F3 := an F2 f117
   refine goG F3 F3 ?_
   revert e105; refine cS F3 ?_ ?_ <;> intro h118 e105
   ·revert e105; refine bK fun x119 hx120 e105 => ?_
    obtain ⟨hx120a, hx120b, hx120c, hx120d⟩ := getI_some hx120
    have f121 : partCV Tryd.prog 56 (encL a0.Funcs) (((x115.Func).toNat) * 2) = some (.agg (eA x119)) := partCV_enc hx120d (f := 0) (by simp)
    have F4 := an F3 f121
    have F5 := an F4 (an hx120a hx120b)
    refine goG F4 F5 ?_
    revert e105; refine bK fun y122 hx123 e105 => ?_
    refine cP F4 (at_r26_spawned hx123) ?_
    refine goG F4 F5 ?_
    exact hL108 (q111, IntKind.i64.wrap (i91 + y122), (k92 + 1)) _ _ (Gh.refl _) ⟨e105, hd116, pv F4, pv F4, pv F4, pv F4, pv F4, pg⟩ (by simp)
   ·refine goG F3 F3 ?_
    exact hL108 (q111, i91, (k92 + 1)) _ _ (Gh.refl _) ⟨e105, hd116, pv F3, pv F3, pv F3, pv F3, pv F3, pg⟩ (by simp)
 ·obtain ⟨e61, h4_1, h4_2, h4_5, g4_0, n4_g⟩ := hp
  obtain rfl := sj e61
  try dsimp only at hs
  have n4_0 : ¬ (σ3.gen = 0) := by omega
  have F6 := an h4_1 (an h4_2 (an h4_5 (an g4_0 n4_0)))
  refine goR2 F6 ?_
  revert hs; refine bK fun o571 e570 hs => ?_
  refine awp_cutK (fun (v : Unit) (σ : St) => some (.inl v) = some o571 /\ σ.env 5 = iV .i64 i60 /\ (σ3.gen + 1) <= σ.gen) (by rfl) (fun Q hK572 hX573 => ?_) (fun v σ33 hp => ?_)
  ·refine goR F6 ?_
   revert e570; refine bK fun o908 e907 e570 => ?_
   refine awp_loopW (fun (v : Nat × Int) (σ : St) => r26_lone_L2 fuelN a0 a1 v.1 v.2 = some o908 /\ σ.env 1 = iV .i64 a1 /\ σ.env 2 = .cell (.ref (.o 1 0 0) 0) /\ σ.env 5 = iV .i64 i60 /\ σ.env 8 = iV .i64 v.2 /\ σ.hp (.o 1 0 0) = some (.cells (eA a0)) /\ (σ3.gen + 1) <= σ.gen) (fun v => v.1) _ (Gh.refl _) (fuelN, 0) ⟨e907, pv F6, pv F6, pv F6, pv F6, pv F6, pg⟩ fun v σ54 hp L909 hL910 => ?_
   obtain ⟨q912, i796⟩ := v
   dsimp only at hp hL910
   obtain ⟨e907, h53_1, h53_2, h53_5, h53_8, g53_0, n53_g⟩ := hp
   have n53_0 : ¬ (σ54.gen = 0) := by omega
   rcases q912 with _ | q913
   ·rw [r26_lone_L2] at e907; cases e907
   ·rw [r26_lone_L2] at e907; try dsimp only at e907
    have F7 := an h53_1 (an h53_2 (an h53_5 (an h53_8 (an g53_0 n53_0))))
    refine goR F7 ?_
    revert e907; refine cS F7 ?_ ?_ <;> intro h917 e907
    ·refine goR2 F7 ?_
     revert e907; refine bK fun o967 e966 e907 => ?_
     refine awp_cutK (fun (v : Unit) (σ : St) => some (.inl v) = some o967 /\ σ.env 1 = iV .i64 a1 /\ σ.env 2 = .cell (.ref (.o 1 0 0) 0) /\ σ.env 5 = iV .i64 i60 /\ σ.env 8 = iV .i64 i796 /\ σ.hp (.o 1 0 0) = some (.cells (eA a0)) /\ (σ54.gen + 1) <= σ.gen) (by rfl) (fun Q hK968 hX969 => ?_) (fun v σ57 hp => ?_)
     ·refine goR F7 ?_
      revert e966; refine bK fun o997 e996 e966 => ?_
      refine awp_loopW (fun (v : Nat × Int) (σ : St) => r26_lone_L3 a0 a1 i796 v.1 v.2 = some o997 /\ σ.env 1 = iV .i64 a1 /\ σ.env 2 = .cell (.ref (.o 1 0 0) 0) /\ σ.env 5 = iV .i64 i60 /\ σ.env 8 = iV .i64 i796 /\ σ.env 9 = iV .i64 v.2 /\ σ.hp (.o 1 0 0) = some (.cells (eA a0)) /\ (σ54.gen + 2) <= σ.gen) (fun v => v.1) _ (Gh.refl _) (fuelN, 0) ⟨e996, pv F7, pv F7, pv F7, pv F7, pv F7, pv F7, pg⟩ fun v σ60 hp L998 hL999 => ?_
      obtain ⟨q1001, i983⟩ := v
      dsimp only at hp hL999
      obtain ⟨e996, h59_1, h59_2, h59_5, h59_8, h59_9, g59_0, n59_g⟩ := hp
      have n59_0 : ¬ (σ60.gen = 0) := by omega
      rcases q1001 with _ | q1002
      ·rw [r26_lone_L3] at e996; cases e996
      ·rw [r26_lone_L3] at e996; try dsimp only at e996
       revert e996; refine bK fun x1006 hx1007 e996 => ?_
       obtain ⟨hx1007a, hx1007b, hx1007c, hx1007d⟩ := getI_some hx1007
       have f1008 : partCV Tryd.prog 54 (encL a0.Funcs) (((i796).toNat) * 2 + 1) = some (.cell (sC x1006.Code)) := partCV_enc hx1007d (f := 1) (by simp)
       have F8 := an h59_1 (an h59_2 (an h59_5 (an h59_8 (an h59_9 (an g59_0 (an n59_0 f1008))))))
       refine goR F8 ?_
       revert e996; refine cS F8 ?_ ?_ <;> intro h1009 e996
       ·revert e996; refine bK fun x1010 hx1011 e996 => ?_
        obtain ⟨hx1011a, hx1011b, hx1011c, hx1011d⟩ := getI_some hx1011
        have f1012 : partCV Tryd.prog 72 (encL x1006.Code) (((i983).toNat) * 8) = some (.agg (eA x1010)) := partCV_enc hx1011d (f := 0) (by simp)
        obtain ⟨g1013, e996⟩ := guardO_some e996
        have g1013a : (andB (andB (eqI x1010.Op 21) (!(ltI x1010.Obj 0))) (ltI x1010.Obj ((a0.Funcs.length : Nat) : Int))) = true -> 0 <= x1010.Obj := fun hg => (under_elem g1013 hg).1
        have g1013b : (andB (andB (eqI x1010.Op 21) (!(ltI x1010.Obj 0))) (ltI x1010.Obj ((a0.Funcs.length : Nat) : Int))) = true -> x1010.Obj < (a0.Funcs.length : Int) := fun hg => (under_elem g1013 hg).2.1
        have g1013n : (andB (andB (eqI x1010.Op 21) (!(ltI x1010.Obj 0))) (ltI x1010.Obj ((a0.Funcs.length : Nat) : Int))) = true -> (x1010.Obj).toNat < a0.Funcs.length := fun hg => by simpa using (under_elem g1013 hg).2.2.1
        have g1013c : (andB (andB (eqI x1010.Op 21) (!(ltI x1010.Obj 0))) (ltI x1010.Obj ((a0.Funcs.length : Nat) : Int))) = true -> a0.Funcs[(x1010.Obj).toNat]? = some (gd a0.Funcs ((x1010.Obj).toNat)) := fun hg => by simpa using (under_elem g1013 hg).2.2.2
        have f1014 : (andB (andB (eqI x1010.Op 21) (!(ltI x1010.Obj 0))) (ltI x1010.Obj ((a0.Funcs.length : Nat) : Int))) = true -> partCV Tryd.prog 56 (encL a0.Funcs) (((x1010.Obj).toNat) * 2) = some (.agg [tC ((gd a0.Funcs ((x1010.Obj).toNat)).Name), sC ((gd a0.Funcs ((x1010.Obj).toNat)).Code)]) := fun hg => partCV_enc (g1013c hg) (f := 0) (by simp)
        have F9 := an F8 (an f1012 (an g1013a (an g1013b (an g1013n f1014))))
        have F10 := an F9 (an hx1007a (an hx1007b (an hx1011a hx1011b)))
        refine goG F9 F10 ?_
        obtain ⟨g1015, e996⟩ := guardO_some e996
        refine gsel_call (fun hg => at_r26_spawned (under_call g1015 hg)) (fun hg => by (try simp at hg); (first | simp [hg, F9]); try rfl) (fun hg => by (try simp at hg); simp [hg, F9]) (by simp) ?_
        refine goG F9 F10 ?_
        revert e996; refine cS F9 ?_ ?_ <;> intro h1016 e996
        ·refine goG F9 F10 ?_
         obtain rfl := sj e996
         try dsimp only at e966
         obtain rfl := sj e966
         try dsimp only at e907
         refine hX969 _ _ (by simp) ?_
         refine goG F9 F10 ?_
         obtain rfl := sj e907
         try dsimp only at e570
         obtain rfl := sj e570
         try dsimp only at hs
         refine hX573 _ _ (by simp) ?_
         refine goG F9 F10 ?_
         obtain rfl := sj hs
         exact hQ _ _ (rg F9 (Gh.refl _))
        ·refine goG F9 F10 ?_
         exact hL999 (q1002, IntKind.i64.wrap (i983 + 1)) _ _ (Gh.refl _) ⟨e996, pv F9, pv F9, pv F9, pv F9, pv F9, pv F9, pg⟩ (by omega)
       ·refine goR F8 ?_
        obtain rfl := sj e996
        try dsimp only at e966
        exact hK968 () _ _ (Gh.refl _) ⟨e966, pv F8, pv F8, pv F8, pv F8, pv F8, pg⟩
     ·obtain ⟨e966, h58_1, h58_2, h58_5, h58_8, g58_0, n58_g⟩ := hp
      obtain rfl := sj e966
      try dsimp only at e907
      have n58_0 : ¬ (σ57.gen = 0) := by omega
      have F11 := an h58_1 (an h58_2 (an h58_5 (an h58_8 (an g58_0 n58_0))))
      refine goR F11 ?_
      exact hL910 (q913, IntKind.i64.wrap (i796 + 1)) _ _ (Gh.refl _) ⟨e907, pv F11, pv F11, pv F11, pv F11, pv F11, pg⟩ (by omega)
    ·refine goR F7 ?_
     obtain rfl := sj e907
     try dsimp only at e570
     exact hK572 () _ _ (Gh.refl _) ⟨e570, pv F7, pg⟩
  ·obtain ⟨e570, h34_5, n34_g⟩ := hp
   obtain rfl := sj e570
   try dsimp only at hs
   refine goR h34_5 ?_
   obtain rfl := sj hs
   exact hQ _ _ (rg h34_5 (Gh.refl _))
end Go.Dc
end
section
set_option linter.all false
namespace Go.Dc
open Go Go.Hw Go.Proofs
set_option maxRecDepth 100000
def r26_Small_L1 : List Func -> Nat -> Option (Unit ⊕ Bool)
 | [], k42 => some (.inl ())
 | x59 :: q55, k42 => cond (ltI 12 ((x59.Code.length : Nat) : Int)) (some (.inr false)) (r26_Small_L1 q55 (k42 + 1))
def r26_Small (fuelN : Nat) (a0 : Program) (a1 : Int) : Option Bool :=
 cond (orB (orB (orB (orB (orB (ltI 4 ((a0.Funcs.length : Nat) : Int)) (ltI 4 ((a0.Threads.length : Nat) : Int))) (ltI 8 a1)) (ltI 8 ((a0.Vars.length : Nat) : Int))) (ltI 4 ((a0.Mutexes.length : Nat) : Int))) (ltI 4 ((a0.Conds.length : Nat) : Int))) (some false) (Option.bind (α := Unit ⊕ Bool) (Option.bind (r26_Small_L1 a0.Funcs 0) (fun o => match o with | .inl _ => some (.inl ()) | .inr r63 => some (.inr r63))) (fun o => match o with | .inl _ => Option.bind (r26_lone fuelN a0 a1) (fun y64 => some y64) | .inr r66 => some r66))
set_option maxHeartbeats 2000000 in
theorem at_r26_Small {fuelN : Nat} {a0 : Program} {a1 : Int} {r : Bool} (hs : r26_Small fuelN a0 a1 = some r) : At Tryd.prog 6 [.agg (eA a0), iV .i64 a1] (bV r) := by
 refine at_bound (by kernel_rfl) fun hb => ?_
 have hb1 : LenOk (.sl a0.Vars.length (encL a0.Vars)) := lkc hb
 have hb2 : LenOk (.sl a0.Mutexes.length (encL a0.Mutexes)) := lkc hb
 have hb3 : LenOk (.sl a0.Conds.length (encL a0.Conds)) := lkc hb
 have hb4 : LenOk (.sl a0.Funcs.length (encL a0.Funcs)) := lkc hb
 have hb5 : LenOk (.sl a0.Threads.length (encL a0.Threads)) := lkc hb
 refine at_code mixed Tryd.func6 (by kernel_rfl) rfl (by kernel_rfl) rfl fun Q hQ => ?_
 rw [r26_Small] at hs
 refine goG f0 f0 ?_
 revert hs; refine cS f0 ?_ ?_ <;> intro h1 hs
 ·refine goG f0 f0 ?_
  obtain rfl := sj hs
  exact hQ _ _ (rg f0 (Gh.refl _))
 ·refine goG2 f0 f0 ?_
  revert hs; refine bK fun o32 e31 hs => ?_
  refine awp_cutK (fun (v : Unit) (σ : St) => some (.inl v) = some o32 /\ σ.env 1 = iV .i64 a1 /\ σ.env 2 = .cell (.ref (.o 1 0 0) 0) /\ σ.hp (.o 1 0 0) = some (.cells (eA a0)) /\ 3 <= σ.gen) (by rfl) (fun Q hK33 hX34 => ?_) (fun v σ3 hp => ?_)
  ·refine goG f0 f0 ?_
   revert e31; refine bK fun o50 e49 e31 => ?_
   refine awp_loopW (fun (v : (List Func) × Nat) (σ : St) => r26_Small_L1 v.1 v.2 = some o50 /\ v.1 = a0.Funcs.drop v.2 /\ σ.env 1 = iV .i64 a1 /\ σ.env 2 = .cell (.ref (.o 1 0 0) 0) /\ σ.env 5 = iV .i64 ((v.2 : Nat) : Int) /\ σ.hp (.o 1 0 0) = some (.cells (eA a0)) /\ 3 <= σ.gen) (fun v => v.1.length) _ (Gh.refl _) (a0.Funcs, 0) ⟨e49, by simp, pv f0, pv f0, pv f0, pv f0, pg⟩ fun v σ6 hp L51 hL52 => ?_
   obtain ⟨q54, k42⟩ := v
   dsimp only at hp hL52
   obtain ⟨e49, hd53, h5_1, h5_2, h5_5, g5_0, n5_g⟩ := hp
   have n5_0 : ¬ (σ6.gen = 0) := by omega
   rcases q54 with _ | ⟨x59, q55⟩
   ·have hlt56 := drop_end hd53
    rw [r26_Small_L1] at e49; try dsimp only at e49
    have F1 := an h5_1 (an h5_2 (an h5_5 (an g5_0 n5_0)))
    refine goR F1 ?_
    refine condK_f (by simp [ltI]; omega) ?_
    obtain rfl := sj e49
    try dsimp only at e31
    exact hK33 () _ _ (Gh.refl _) ⟨e31, pv F1, pv F1, pv F1, pg⟩
   ·obtain ⟨hx58, hlt56, hd60⟩ := drop_next hd53
    have ew57 := wrap_succ hlt56 (hb4).len
    rw [r26_Small_L1] at e49; try dsimp only at e49
    have F2 := an h5_1 (an h5_2 (an h5_5 (an g5_0 (an n5_0 (an hlt56 ew57)))))
    refine goR F2 ?_
    refine condK_t (by simp [ltI]; omega) ?_
    have f61 : partCV Tryd.prog 54 (encL a0.Funcs) (k42 * 2 + 1) = some (.cell (sC x59.Code)) := partCV_enc hx58 (f := 1) (by simp)
    have F3 := an F2 f61
    refine goR F3 ?_
    revert e49; refine cS F3 ?_ ?_ <;> intro h62 e49
    ·refine goR F3 ?_
     obtain rfl := sj e49
     try dsimp only at e31
     obtain rfl := sj e31
     try dsimp only at hs
     refine hX34 _ _ (by simp) ?_
     refine goR F3 ?_
     obtain rfl := sj hs
     exact hQ _ _ (rg F3 (Gh.refl _))
    ·refine goR F3 ?_
     exact hL52 (q55, (k42 + 1)) _ _ (Gh.refl _) ⟨e49, hd60, pv F3, pv F3, pv F3, pv F3, pg⟩ (by simp)
  ·obtain ⟨e31, h4_1, h4_2, g4_0, n4_g⟩ := hp
   obtain rfl := sj e31
   try dsimp only at hs
   have n4_0 : ¬ (σ3.gen = 0) := by omega
   have F4 := an h4_1 (an h4_2 (an g4_0 n4_0))
   refine goG F4 F4 ?_
   revert hs; refine bK fun y64 hx65 hs => ?_
   refine cP F4 (at_r26_lone hx65) ?_
   refine goG F4 F4 ?_
   obtain rfl := sj hs
   exact hQ _ _ (rg F4 (Gh.refl _))
end Go.Dc
end
section
set_option linter.all false
namespace Go.Dc.Pl
open Go Go.Hw Go.Dc
/-! The size of what is checked. -/
theorem lone1 (p : Program) (a : Int) : ∀ (l : List Start) (i : Int) (k : Nat), ∃ r, r26_lone_L1 p a l i k = some r
 | [], i, k => ⟨i, rfl⟩
 | x :: q, i, k => by
  rw [r26_lone_L1]
  cases h : andB (!(ltI x.Func 0)) (ltI x.Func ((p.Funcs.length : Nat) : Int)) with
  | false => exact lone1 p a q i (k + 1)
  | true =>
   simp only [andB_d, ltI_d, Bool.and_eq_true, Bool.not_eq_true', decide_eq_false_iff_not, decide_eq_true_eq] at h
   obtain ⟨n, hn⟩ : ∃ n : Nat, x.Func = n := ⟨x.Func.toNat, by omega⟩
   rw [cond_true, hn, getI_nat, List.getElem?_eq_getElem (by omega), Option.bind_some]
   obtain ⟨y, hy⟩ : ∃ y, r26_spawned (p.Funcs[n]'(by omega)) a = some y := spawned_ex _ _
   rw [hy]; exact lone1 p a q _ (k + 1)
where
 spawnedL : ∀ (l : List Inst) (i : Int) (k : Nat), ∃ r, r26_spawned_L1 l i k = some r
  | [], i, k => ⟨i, rfl⟩
  | x :: q, i, k => by rw [r26_spawned_L1]; cases eqI x.Op 21 <;> exact spawnedL q _ _
 backL : ∀ (l : List Inst) (k : Nat), ∃ r, r26_back_L1 l k = some r
  | [], k => ⟨_, rfl⟩
  | x :: q, k => by rw [r26_back_L1]; cases andB (orB (eqI x.Op 4) (eqI x.Op 5)) (!(ltI ((k : Nat) : Int) x.N)) <;> first | exact backL q _ | exact ⟨_, rfl⟩
 back_ex (f : Func) : ∃ b, r26_back f = some b := by
  obtain ⟨r, hr⟩ := backL f.Code 0
  rw [r26_back, hr]; cases r <;> exact ⟨_, rfl⟩
 spawned_ex (f : Func) (a : Int) : ∃ y, r26_spawned f a = some y := by
  obtain ⟨r, hr⟩ := spawnedL f.Code 0 0
  obtain ⟨b, hb⟩ := back_ex f
  rw [r26_spawned, hr, hb]
  simp only [Option.bind_some, Option.isSome_some]
  rw [show orB (!ltI 0 r) true = true from orB_t _]
  cases andB (ltI 0 r) ((some b).getD default) <;> exact ⟨_, rfl⟩
theorem lone3 (p : Program) (a : Int) (k : Nat) (f : Func) (hf : p.Funcs[k]? = some f) (hc : f.Code.length <= 100) : ∀ (q j : Nat), j <= f.Code.length -> f.Code.length < j + q -> ∃ r, r26_lone_L3 p a (k : Int) q (j : Int) = some r
 | 0, j, h1, h2 => by omega
 | q + 1, j, h1, h2 => by
  rw [r26_lone_L3, getI_nat, hf, Option.bind_some]
  rcases Nat.lt_or_ge j f.Code.length with h | h
  ·rw [ltI_d, decide_eq_true (by omega), cond_true, getI_nat, List.getElem?_eq_getElem h, Option.bind_some]
   generalize f.Code[j] = x
   obtain ⟨y, hy⟩ := lone1.spawned_ex (gd p.Funcs x.Obj.toNat) a
   rw [hy]
   have e1 : orB (!(andB (andB (eqI x.Op 21) (!(ltI x.Obj 0))) (ltI x.Obj ((p.Funcs.length : Nat) : Int)))) (inB x.Obj p.Funcs.length) = true := by
    simp only [orB_d, andB_d, ltI_d, inB_d]
    by_cases a : 0 <= x.Obj /\ x.Obj < (p.Funcs.length : Int)
    ·simp [a]
    ·rw [decide_eq_false a]
     by_cases b : x.Obj < 0
     ·simp [b]
     ·simp [b]; right; omega
   rw [e1, guardO_t, show (some y).isSome = true from rfl, orB_t, guardO_t, wrapS (by omega)]
   cases andB (andB (andB (eqI x.Op 21) (!(ltI x.Obj 0))) (ltI x.Obj ((p.Funcs.length : Nat) : Int))) (ltI 0 ((some y).getD default)) with
   | true => exact ⟨_, rfl⟩
   | false => exact lone3 p a k f hf hc q (j + 1) (by omega) (by omega)
  ·rw [ltI_d, decide_eq_false (by omega)]; exact ⟨_, rfl⟩
theorem lone2 (p : Program) (a : Int) (f : Nat) (hp : p.Funcs.length <= 20) (hc : ∀ g ∈ p.Funcs, g.Code.length <= 100) (hf : 200 <= f) : ∀ (q k : Nat), k <= p.Funcs.length -> p.Funcs.length < k + q -> ∃ r, r26_lone_L2 f p a q (k : Int) = some r
 | 0, k, h1, h2 => by omega
 | q + 1, k, h1, h2 => by
  rw [r26_lone_L2]
  rcases Nat.lt_or_ge k p.Funcs.length with h | h
  ·obtain ⟨r, hr⟩ := lone3 p a k _ (List.getElem?_eq_getElem h) (hc _ (List.getElem_mem h)) f 0 (by omega) (by have := hc _ (List.getElem_mem h); omega)
   rw [ltI_d, decide_eq_true (by omega), cond_true, show (0 : Int) = ((0 : Nat) : Int) from rfl, hr, wrapS (by omega)]
   cases r with
   | inl u => exact lone2 p a f hp hc hf q (k + 1) (by omega) (by omega)
   | inr u => exact ⟨_, rfl⟩
  ·rw [ltI_d, decide_eq_false (by omega)]; exact ⟨_, rfl⟩
theorem lone_ex (p : Program) (a : Int) {f : Nat} (hp : p.Funcs.length <= 20) (hc : ∀ g ∈ p.Funcs, g.Code.length <= 100) (hf : 200 <= f) : ∃ b, r26_lone f p a = some b := by
 obtain ⟨r, hr⟩ := lone1 p a p.Threads ((p.Threads.length : Nat) : Int) 0
 obtain ⟨s, hs⟩ := lone2 p a f hp hc hf f 0 (by omega) (by omega)
 rw [r26_lone, hr, show (0 : Int) = ((0 : Nat) : Int) from rfl, hs]
 cases s <;> exact ⟨_, rfl⟩
/-- Whether a job is small is answered; and what that says. -/
theorem small26 (p : Program) (a : Int) {f : Nat} (hf : 200 <= f) : ∃ b, r26_Small f p a = some b /\ (b = true -> small p = true) := by
 rw [r26_Small]
 cases h : orB (orB (orB (orB (orB (ltI 4 ((p.Funcs.length : Nat) : Int)) (ltI 4 ((p.Threads.length : Nat) : Int))) (ltI 8 a)) (ltI 8 ((p.Vars.length : Nat) : Int))) (ltI 4 ((p.Mutexes.length : Nat) : Int))) (ltI 4 ((p.Conds.length : Nat) : Int)) with
 | true => exact ⟨false, rfl, fun h => by cases h⟩
 | false =>
  simp only [orB_d, ltI_d, Bool.or_eq_false_iff, decide_eq_false_iff_not] at h
  have hs := srch (L := r26_Small_L1) (fun _ (g : Func) => onlyIf (ltI 12 ((g.Code.length : Nat) : Int)) false) (fun _ => rfl) p.Funcs 0 fun j x hx q => by
   rw [r26_Small_L1]; exact step_only _ _ _
  rw [first_onlyC] at hs
  rw [cond_false, hs]
  cases hc : p.Funcs.any fun g => ltI 12 ((g.Code.length : Nat) : Int) with
  | true => exact ⟨false, rfl, fun h => by cases h⟩
  | false =>
   have hc' : ∀ g ∈ p.Funcs, g.Code.length <= 12 := fun g hg => by
    have := (List.any_eq_false.1 hc) g hg
    simp [ltI_d] at this; omega
   obtain ⟨b, hb⟩ := lone_ex p a (f := f) (by omega) (fun g hg => by have := hc' g hg; omega) hf
   refine ⟨b, ?_, fun _ => ?_⟩
   ·show Option.bind (r26_lone f p a) some = _
    rw [hb]; rfl
   ·simp only [small, Bool.and_eq_true, decide_eq_true_eq, Bool.not_eq_true']
    refine ⟨by omega, List.any_eq_false.2 fun g hg => ?_⟩
    have := hc' g hg; simp; omega
/-! Whether a program and a configuration are in order. -/
def cfgE (c : Config) : Int := (program_CheckConfig c).getD 0
theorem own_cfg (c : Config) : program_CheckConfig c = some (cfgE c) := by
 have : (program_CheckConfig c).isSome = true := by
  unfold program_CheckConfig
  cases andB (andB (!(eqI c.Model 1)) (!(eqI c.Model 2))) (!(eqI c.Model 3)) with
  | true => rfl
  | false => cases orB (ltI c.Bound 1) (ltI 32 c.Bound) <;> rfl
 obtain ⟨x, hx⟩ := Option.isSome_iff_exists.1 this
 rw [cfgE, hx]; rfl
def stdE (p : Program) (c : Config) : Int := cond (!(eqI (chk p).1 0)) (chk p).1 (cond (!(eqI (cfgE c) 0)) (cfgE c) (cond (eqI c.Model 3) 18 0))
theorem own_std {f : Nat} {p : Program} (c : Config) (h : small p = true) : checkpoint_standard (f + 8) p c = some (stdE p c) := by
 rw [checkpoint_standard, own_check h, own_cfg]
 simp only [Option.bind_some, stdE]
 cases eqI (chk p).1 0 <;> cases eqI (cfgE c) 0 <;> cases eqI c.Model 3 <;> rfl
theorem std_chk {p : Program} {c : Config} (h : eqI (stdE p c) 0 = true) : eqI (chk p).1 0 = true := by
 unfold stdE at h
 cases h1 : eqI (chk p).1 0 with
 | true => rfl
 | false => rw [h1] at h; simp at h; rw [h] at h1; cases h1
/-! Names of a program that is in order are short. -/
theorem first_none {α β : Type} {f : Nat -> α -> Option β} : ∀ {l : List α} {k : Nat}, first f l k = none -> ∀ j x, l[j]? = some x -> f (k + j) x = none
 | [], _, _, j, x, hx => by simp at hx
 | y :: q, k, h, j, x, hx => by
  rw [first_cons] at h
  cases hy : f k y with
  | some r => rw [hy] at h; cases h
  | none =>
   rw [hy] at h
   cases j with
   | zero => simp at hx; subst hx; exact hy
   | succ j => have := first_none h j x (by simpa using hx); rwa [show k + (j + 1) = k + 1 + j by omega]
theorem badName_none {l : List ByteArray} (h : badName l = none) : ∀ x ∈ l, x.size <= 16 := fun x hx => by
 obtain ⟨j, hj⟩ := List.getElem?_of_mem hx
 have := first_none h j x hj
 rw [nmF] at this
 split at this
 ·cases this
 ·rename_i hk
  have : okName x = true := by simpa using hk
  simp only [okName, Bool.and_eq_true, decide_eq_true_eq] at this
  exact this.1.2
theorem names16 {p : Program} (h : eqI (chk p).1 0 = true) : (∀ v ∈ p.Vars, v.Name.size <= 16) /\ (∀ x ∈ p.Mutexes, x.size <= 16) /\ (∀ x ∈ p.Conds, x.size <= 16) /\ ∀ g ∈ p.Funcs, g.Name.size <= 16 := by
 have hn : ckN p = none := by
  unfold chk at h
  cases hn : ckN p with
  | none => rfl
  | some r =>
   rw [hn] at h
   have : eqI r.1 0 = false := by
    rw [ckN] at hn
    split at hn
    ·rename_i hb; obtain rfl := Option.some.inj hn; have := badName_ne hb; exact this
    ·split at hn
     ·rename_i hb; obtain rfl := Option.some.inj hn; have := badName_ne hb; exact this
     ·split at hn
      ·rename_i hb; obtain rfl := Option.some.inj hn; have := badName_ne hb; exact this
      ·exact badName_ne hn
   simp [this] at h
 rw [ckN] at hn
 split at hn
 ·cases hn
 ·rename_i h1
  split at hn
  ·cases hn
  ·rename_i h2
   split at hn
   ·cases hn
   ·rename_i h3
    exact ⟨fun v hv => badName_none h1 _ (List.mem_map_of_mem hv), badName_none h2, badName_none h3, fun g hg => badName_none hn _ (List.mem_map_of_mem hg)⟩
end Go.Dc.Pl
end
section
set_option linter.all false
namespace Go.Dc.Pl
open Go Go.Hw Go.Dc
theorem appU_le (b : List UInt8) (n : Int) : (appU b n).length <= b.length + 9 := by
 unfold appU; split
 ·omega
 ·have := uintB_le9 (n := n.toNat) (by omega); simp; omega
theorem appI_le (b : List UInt8) (n : Int) : (appI b n).length <= b.length + 9 := by
 unfold appI; split
 ·rename_i h; have := uintB_le9 (intCode_le h); simp; omega
 ·omega
theorem appS_le (b : List UInt8) {s : ByteArray} (h : s.size <= 16) : (appS b s).length <= b.length + 25 := by
 have h9 := uintB_le9 (n := s.size) (by omega); have := str_len s
 unfold appS; simp; omega
/-- Bytes appended element by element. -/
theorem foldA {α : Type} {L : List α -> List UInt8 -> Nat -> Option (List UInt8)} (g : List UInt8 -> α -> List UInt8) (c B : Nat) (ok : α -> Prop) (h0 : ∀ b k, L [] b k = some b)
  (h1 : ∀ x q b k, ok x -> b.length <= B -> L (x :: q) b k = L q (g b x) (k + 1)) (hl : ∀ x b, ok x -> (g b x).length <= b.length + c) :
  ∀ (l : List α) (b : List UInt8) (k : Nat), (∀ x ∈ l, ok x) -> b.length + c * l.length <= B -> L l b k = some (l.foldl g b) /\ (l.foldl g b).length <= b.length + c * l.length
 | [], b, k, _, _ => ⟨h0 b k, by simp⟩
 | x :: q, b, k, ho, hb => by
  have hx := ho x (by simp)
  have hg := hl x b hx
  rw [List.length_cons, Nat.mul_succ] at hb ⊢
  obtain ⟨e1, e2⟩ := foldA g c B ok h0 h1 hl q (g b x) (k + 1) (fun y hy => ho y (by simp [hy])) (by omega)
  refine ⟨by rw [h1 x q b k hx (by omega)]; exact e1, ?_⟩
  show (List.foldl g (g b x) q).length <= _
  omega
def numsB (b : List UInt8) (l : List Int) : List UInt8 := l.foldl appI b
theorem own_nums {f : Nat} {b : List UInt8} {l : List Int} (hf : 9 <= f) (h : b.length + 9 * l.length <= 1000000) : checkpoint_text_1 f l b = some (numsB b l) /\ (numsB b l).length <= b.length + 9 * l.length := by
 have := foldA (L := fun l b k => checkpoint_text_1_L1 f l k b) appI 9 1000000 (fun _ => True) (fun b k => rfl) (fun x q b k _ hb => by
  show checkpoint_text_1_L1 f (x :: q) k b = _
  rw [checkpoint_text_1_L1, own_appI hf (by omega)]; rfl) (fun x b _ => appI_le b x) l b 0 (fun _ _ => trivial) h
 exact ⟨by rw [checkpoint_text_1, this.1]; rfl, this.2⟩
theorem ref_nums {f : Nat} {b : List UInt8} {l : List Int} (hf : 9 <= f) (h : b.length + 9 * l.length <= 1000000) : r49_numbers f b l = some (numsB b l) := by
 have := foldA (L := r49_numbers_L1 f) appI 9 1000000 (fun _ => True) (fun b k => rfl) (fun x q b k _ hb => by
  rw [r49_numbers_L1, ref_appI hf (by omega)]; rfl) (fun x b _ => appI_le b x) l b 0 (fun _ _ => trivial) h
 rw [r49_numbers, this.1]; rfl
theorem nums_le (b : List UInt8) (l : List Int) : (numsB b l).length <= b.length + 9 * l.length := by
 induction l generalizing b with
 | nil => simp [numsB]
 | cons x l ih => have h1 := ih (appI b x); have h2 := appI_le b x; simp only [numsB, List.foldl_cons, List.length_cons] at h1 ⊢; omega
def namesB (b : List UInt8) (l : List ByteArray) : List UInt8 := l.foldl appS (appU b (l.length : Int))
theorem own_namesB {f : Nat} {b : List UInt8} {l : List ByteArray} (hf : 9 <= f) (hl : ∀ x ∈ l, x.size <= 16) (h : b.length + 9 + 25 * l.length <= 1000000) :
  checkpoint_text_3_checkpoint_text_2 f l b = some (namesB b l) /\ (namesB b l).length <= b.length + 9 + 25 * l.length := by
 have hu := appU_le b (l.length : Int)
 have := foldA (L := fun l b k => checkpoint_text_3_checkpoint_text_2_L1 f l k b) appS 25 1000000 (fun x => x.size <= 16) (fun b k => rfl) (fun x q b k hx hb => by
  show checkpoint_text_3_checkpoint_text_2_L1 f (x :: q) k b = _
  rw [checkpoint_text_3_checkpoint_text_2_L1, own_appS hf (by omega) (by omega)]; rfl) (fun x b hx => appS_le b hx) l (appU b (l.length : Int)) 0 hl (by omega)
 refine ⟨?_, by have := this.2; unfold namesB; omega⟩
 rw [checkpoint_text_3_checkpoint_text_2, checkpoint_text_2, own_appU hf (by omega)]
 simp only [Option.bind_some, this.1]; rfl
theorem ref_namesB {f : Nat} {b : List UInt8} {l : List ByteArray} (hf : 9 <= f) (hl : ∀ x ∈ l, x.size <= 16) (h : b.length + 9 + 25 * l.length <= 1000000) : r49_names f b l = some (namesB b l) := by
 have hu := appU_le b (l.length : Int)
 have := foldA (L := r49_names_L1 f) appS 25 1000000 (fun x => x.size <= 16) (fun b k => rfl) (fun x q b k hx hb => by
  rw [r49_names_L1, ref_appS hf (by omega) (by omega)]; rfl) (fun x b hx => appS_le b hx) l (appU b (l.length : Int)) 0 hl (by omega)
 rw [r49_names, ref_appU hf (by omega)]
 simp only [Option.bind_some, this.1]; rfl
def varB (b : List UInt8) (v : Var) : List UInt8 := numsB (appS b v.Name) [v.Init]
def fieldsI (x : Inst) : List Int := [x.Op, x.A, x.B, x.C, x.Obj, x.N, x.Fn, x.Order]
def instB (b : List UInt8) (x : Inst) : List UInt8 := numsB b (fieldsI x)
def funcB (b : List UInt8) (g : Func) : List UInt8 := g.Code.foldl instB (appU (appS b g.Name) (g.Code.length : Int))
def startB (b : List UInt8) (t : Start) : List UInt8 := numsB b [t.Func, t.Arg]
def textB (p : Program) (c : Config) : List UInt8 :=
 p.Threads.foldl startB (appU (p.Funcs.foldl funcB (appU (namesB (namesB (p.Vars.foldl varB (appU (numsB [] [c.Model, c.Bound]) (p.Vars.length : Int))) p.Mutexes) p.Conds) (p.Funcs.length : Int))) (p.Threads.length : Int))
theorem code_own {f : Nat} (hf : 9 <= f) (l : List Inst) (b : List UInt8) (h : b.length + 72 * l.length <= 900000) : checkpoint_text_L3 f l 0 b = some (l.foldl instB b) /\ (l.foldl instB b).length <= b.length + 72 * l.length :=
 foldA (L := fun l b k => checkpoint_text_L3 f l k b) instB 72 900000 (fun _ => True) (fun b k => rfl) (fun x q b k _ hb => by
  show checkpoint_text_L3 f (x :: q) k b = _
  rw [checkpoint_text_L3]
  simp only [Option.bind_some]
  rw [(own_nums (l := [x.Op, x.A, x.B, x.C, x.Obj, x.N, x.Fn, x.Order]) hf (by simp; omega)).1]; rfl) (fun x b _ => by have := nums_le b (fieldsI x); simpa [instB, fieldsI] using this) l b 0 (fun _ _ => trivial) h
theorem code_ref {f : Nat} (hf : 9 <= f) (l : List Inst) (b : List UInt8) (h : b.length + 72 * l.length <= 900000) : r49_Digest_L3 f l b 0 = some (l.foldl instB b) :=
 (foldA (L := r49_Digest_L3 f) instB 72 900000 (fun _ => True) (fun b k => rfl) (fun x q b k _ hb => by
  rw [r49_Digest_L3]
  simp only [Option.bind_some]
  rw [ref_nums (l := [x.Op, x.A, x.B, x.C, x.Obj, x.N, x.Fn, x.Order]) hf (by simp; omega)]; rfl) (fun x b _ => by have := nums_le b (fieldsI x); simpa [instB, fieldsI] using this) l b 0 (fun _ _ => trivial) h).1
theorem funcB_le {b : List UInt8} {g : Func} (h : g.Name.size <= 16) : (funcB b g).length <= b.length + 34 + 72 * g.Code.length := by
 have h1 := appS_le b h
 have h2 := appU_le (appS b g.Name) (g.Code.length : Int)
 have : ∀ (l : List Inst) (b : List UInt8), (l.foldl instB b).length <= b.length + 72 * l.length := fun l => by
  induction l with
  | nil => intro b; simp
  | cons x l ih => intro b; have h3 := ih (instB b x); have h4 := nums_le b (fieldsI x); simp only [List.foldl_cons, List.length_cons]; simp only [instB, fieldsI, List.length_cons, List.length_nil] at h3 h4 ⊢; omega
 have h3 := this g.Code (appU (appS b g.Name) (g.Code.length : Int))
 unfold funcB; omega
theorem zip_foldl {α σ : Type} (g : σ -> α -> σ) : ∀ (l : List α) (k : Nat) (s : σ), (l.zipIdx k).foldl (fun s x => g s x.1) s = l.foldl g s
 | [], _, _ => rfl
 | x :: l, k, s => by rw [List.zipIdx_cons, List.foldl_cons, List.foldl_cons, zip_foldl g l]
theorem funcs_own {f : Nat} (hf : 200 <= f) (p : Program) (hp : p.Funcs.length <= 20) (hc : ∀ g ∈ p.Funcs, g.Code.length <= 100 /\ g.Name.size <= 16) (b : List UInt8) (hb : b.length <= 10000) :
  checkpoint_text_L2 f p f 0 b = some (p.Funcs.foldl funcB b) /\ (p.Funcs.foldl funcB b).length <= 10000 + 7234 * 20 := by
 have h := foldI (L := fun q s i => checkpoint_text_L2 f p q i s) p.Funcs (fun _ g s => funcB s g) (fun k s => s.length <= 10000 + 7234 * k) (fun q s _ => by
   show checkpoint_text_L2 f p (q + 1) _ s = _
   rw [checkpoint_text_L2, ltI_d, decide_eq_false (by omega)]; rfl) (fun q k s x hx hs => by
   have hk := getN_some hx
   obtain ⟨c1, c2⟩ := hc x (List.mem_of_getElem? hx)
   have hl := funcB_le (b := s) c2
   have ha := appS_le s c2
   have hu := appU_le (appS s x.Name) (x.Code.length : Int)
   refine ⟨?_, by omega⟩
   show checkpoint_text_L2 f p (q + 1) _ s = checkpoint_text_L2 f p q _ _
   rw [checkpoint_text_L2, ltI_d, decide_eq_true (by omega), cond_true, getI_nat, hx, Option.bind_some, own_appS (by omega) (by omega) (by omega), Option.bind_some, checkpoint_text_2, own_appU (by omega) (by omega)]
   simp only [Option.bind_some]
   rw [(code_own (by omega) x.Code _ (by omega)).1, wrapS (by omega)]; rfl) f 0 b (by omega) (by omega) (by omega)
 rw [List.drop_zero, zip_foldl (fun s g => funcB s g)] at h
 refine ⟨h, ?_⟩
 have : ∀ (l : List Func) (b : List UInt8), (∀ g ∈ l, g.Code.length <= 100 /\ g.Name.size <= 16) -> (l.foldl funcB b).length <= b.length + 7234 * l.length := fun l => by
  induction l with
  | nil => intro b _; simp
  | cons x l ih => intro b hl; have h3 := ih (funcB b x) (fun g hg => hl g (by simp [hg])); have h4 := funcB_le (b := b) (hl x (by simp)).2; have h5 := (hl x (by simp)).1; simp only [List.foldl_cons, List.length_cons]; omega
 have := this p.Funcs b hc
 have e : 7234 * p.Funcs.length <= 7234 * 20 := Nat.mul_le_mul_left _ hp
 omega
theorem funcs_ref {f : Nat} (hf : 200 <= f) (p : Program) (hp : p.Funcs.length <= 20) (hc : ∀ g ∈ p.Funcs, g.Code.length <= 100 /\ g.Name.size <= 16) (b : List UInt8) (hb : b.length <= 10000) :
  r49_Digest_L2 f p f b 0 = some (p.Funcs.foldl funcB b) := by
 have h := foldI (L := fun q s i => r49_Digest_L2 f p q s i) p.Funcs (fun _ g s => funcB s g) (fun k s => s.length <= 10000 + 7234 * k) (fun q s _ => by
   show r49_Digest_L2 f p (q + 1) s _ = _
   rw [r49_Digest_L2, ltI_d, decide_eq_false (by omega)]; rfl) (fun q k s x hx hs => by
   have hk := getN_some hx
   obtain ⟨c1, c2⟩ := hc x (List.mem_of_getElem? hx)
   have hl := funcB_le (b := s) c2
   have ha := appS_le s c2
   have hu := appU_le (appS s x.Name) (x.Code.length : Int)
   refine ⟨?_, by omega⟩
   show r49_Digest_L2 f p (q + 1) s _ = r49_Digest_L2 f p q _ _
   rw [r49_Digest_L2, ltI_d, decide_eq_true (by omega), cond_true, getI_nat, hx, Option.bind_some, ref_appS (by omega) (by omega) (by omega), Option.bind_some, ref_appU (by omega) (by omega)]
   simp only [Option.bind_some]
   rw [code_ref (by omega) x.Code _ (by omega), wrapS (by omega)]; rfl) f 0 b (by omega) (by omega) (by omega)
 rw [List.drop_zero, zip_foldl (fun s g => funcB s g)] at h
 exact h
/-- The text, by both; and its length. -/
theorem text_eq {f : Nat} (hf : 200 <= f) {p : Program} (c : Config) (h : small p = true) (hk : eqI (chk p).1 0 = true) :
  checkpoint_text f p c = some (textB p c) /\ (textB p c).length <= 200000 /\
  (∀ K : List UInt8 -> Option (Int × Int), (Option.bind (r49_numbers f [] [c.Model, c.Bound]) fun y6 => Option.bind (r06_AppendUint f y6 ((p.Vars.length : Nat) : Int)) fun y8 => Option.bind (Option.bind (r49_Digest_L1 f p.Vars y8 0) fun l82 => some l82) fun l53 => Option.bind (r49_names f l53 p.Mutexes) fun y101 => Option.bind (r49_names f y101 p.Conds) fun y103 => Option.bind (r06_AppendUint f y103 ((p.Funcs.length : Nat) : Int)) fun y105 => Option.bind (Option.bind (r49_Digest_L2 f p f y105 0) fun l1039 => some l1039) fun l638 => Option.bind (r06_AppendUint f l638 ((p.Threads.length : Nat) : Int)) fun y1174 => Option.bind (Option.bind (r49_Digest_L4 f p.Threads y1174 0) fun l1326 => some l1326) K) = K (textB p c)) := by
 obtain ⟨s1, s2, s3, s4, s5, s6⟩ := small_t h
 obtain ⟨n1, n2, n3, n4⟩ := names16 hk
 have a1 := nums_le [] [c.Model, c.Bound]
 simp only [List.length_nil, List.length_cons] at a1
 have a2 := appU_le (numsB [] [c.Model, c.Bound]) (p.Vars.length : Int)
 have hv := foldA (L := fun l b k => checkpoint_text_L1 f l k b) varB 34 100000 (fun v => v.Name.size <= 16) (fun b k => rfl) (fun x q b k hx hb => by
  show checkpoint_text_L1 f (x :: q) k b = _
  have := appS_le b hx
  rw [checkpoint_text_L1, own_appS (by omega) (by omega) (by omega)]
  simp only [Option.bind_some]
  rw [(own_nums (l := [x.Init]) (by omega) (by simp; omega)).1]; rfl) (fun x b hx => by have h1 := appS_le b hx; have h2 := nums_le (appS b x.Name) [x.Init]; simp only [List.length_cons, List.length_nil] at h2; unfold varB; omega)
  p.Vars (appU (numsB [] [c.Model, c.Bound]) (p.Vars.length : Int)) 0 n1 (by omega)
 have hv' := foldA (L := r49_Digest_L1 f) varB 34 100000 (fun v => v.Name.size <= 16) (fun b k => rfl) (fun x q b k hx hb => by
  have := appS_le b hx
  rw [r49_Digest_L1, ref_appS (by omega) (by omega) (by omega), Option.bind_some, ref_appI (by omega) (by omega)]; rfl) (fun x b hx => by have h1 := appS_le b hx; have h2 := nums_le (appS b x.Name) [x.Init]; simp only [List.length_cons, List.length_nil] at h2; unfold varB; omega)
  p.Vars (appU (numsB [] [c.Model, c.Bound]) (p.Vars.length : Int)) 0 n1 (by omega)
 obtain ⟨hv1, hv2⟩ := hv
 generalize hV : p.Vars.foldl varB (appU (numsB [] [c.Model, c.Bound]) (p.Vars.length : Int)) = V at hv1 hv2 hv'
 obtain ⟨m1, m2⟩ := own_namesB (f := f) (b := V) (by omega) n2 (by omega)
 have m3 := ref_namesB (f := f) (b := V) (by omega) n2 (by omega)
 obtain ⟨c1, c2⟩ := own_namesB (f := f) (b := namesB V p.Mutexes) (by omega) n3 (by omega)
 have c3 := ref_namesB (f := f) (b := namesB V p.Mutexes) (by omega) n3 (by omega)
 have u1 := appU_le (namesB (namesB V p.Mutexes) p.Conds) (p.Funcs.length : Int)
 obtain ⟨f1, f2⟩ := funcs_own hf p s4 (fun g hg => ⟨s6 g hg, n4 g hg⟩) (appU (namesB (namesB V p.Mutexes) p.Conds) (p.Funcs.length : Int)) (by omega)
 have f3 := funcs_ref hf p s4 (fun g hg => ⟨s6 g hg, n4 g hg⟩) (appU (namesB (namesB V p.Mutexes) p.Conds) (p.Funcs.length : Int)) (by omega)
 generalize hF : p.Funcs.foldl funcB (appU (namesB (namesB V p.Mutexes) p.Conds) (p.Funcs.length : Int)) = F at f1 f2 f3
 have u2 := appU_le F (p.Threads.length : Int)
 have ht := foldA (L := fun l b k => checkpoint_text_L4 f l k b) startB 18 900000 (fun _ => True) (fun b k => rfl) (fun x q b k _ hb => by
  show checkpoint_text_L4 f (x :: q) k b = _
  rw [checkpoint_text_L4]
  simp only [Option.bind_some]
  rw [(own_nums (l := [x.Func, x.Arg]) (by omega) (by simp; omega)).1]; rfl) (fun x b _ => by have := nums_le b [x.Func, x.Arg]; simpa [startB] using this) p.Threads (appU F (p.Threads.length : Int)) 0 (fun _ _ => trivial) (by omega)
 have ht' := foldA (L := r49_Digest_L4 f) startB 18 900000 (fun _ => True) (fun b k => rfl) (fun x q b k _ hb => by
  rw [r49_Digest_L4]
  simp only [Option.bind_some]
  rw [ref_nums (l := [x.Func, x.Arg]) (by omega) (by simp; omega)]; rfl) (fun x b _ => by have := nums_le b [x.Func, x.Arg]; simpa [startB] using this) p.Threads (appU F (p.Threads.length : Int)) 0 (fun _ _ => trivial) (by omega)
 have eT : textB p c = p.Threads.foldl startB (appU F (p.Threads.length : Int)) := by unfold textB; rw [hV, hF]
 refine ⟨?_, by rw [eT]; have := ht.2; omega, fun K => ?_⟩
 ·rw [checkpoint_text]
  simp only [Option.bind_some]
  rw [(own_nums (l := [c.Model, c.Bound]) (by omega) (by simp)).1]
  simp only [Option.bind_some, checkpoint_text_2]
  rw [own_appU (by omega) (by omega)]
  simp only [Option.bind_some]
  rw [hv1]
  simp only [Option.bind_some]
  rw [m1]
  simp only [Option.bind_some]
  rw [c1]
  simp only [Option.bind_some]
  rw [own_appU (by omega) (by omega)]
  simp only [Option.bind_some]
  rw [f1]
  simp only [Option.bind_some]
  rw [own_appU (by omega) (by omega)]
  simp only [Option.bind_some]
  rw [ht.1, eT]; rfl
 ·rw [ref_nums (by omega) (by simp)]
  simp only [Option.bind_some]
  rw [ref_appU (by omega) (by omega)]
  simp only [Option.bind_some]
  rw [hv'.1]
  simp only [Option.bind_some]
  rw [m3]
  simp only [Option.bind_some]
  rw [c3]
  simp only [Option.bind_some]
  rw [ref_appU (by omega) (by omega)]
  simp only [Option.bind_some]
  rw [f3]
  simp only [Option.bind_some]
  rw [ref_appU (by omega) (by omega)]
  simp only [Option.bind_some]
  rw [ht'.1, eT]; rfl
/-- The digest. -/
def digest (p : Program) (c : Config) : Int × Int := cond (!(eqI (stdE p c) 0)) (0, stdE p c) (((crc (textB p c) : Nat) : Int), 0)
theorem own_digest {f : Nat} (hf : 300000 <= f) {p : Program} (c : Config) (h : small p = true) : checkpoint_Digest f p c = some (digest p c) := by
 obtain ⟨f, rfl⟩ : ∃ g, f = g + 8 := ⟨f - 8, by omega⟩
 rw [checkpoint_Digest, own_std c h, Option.bind_some, digest]
 cases hs : eqI (stdE p c) 0 with
 | false => rfl
 | true =>
  obtain ⟨h1, h2, h3⟩ := text_eq (f := f + 8) (by omega) c h (std_chk hs)
  have hc := crc_lt (textB p c)
  rw [Bool.not_true, cond_false, h1, Option.bind_some, own_crc (by omega) (by omega) (by omega), Option.bind_some, wrap_i64 (by omega) (by omega)]; rfl
theorem digest_range (p : Program) (c : Config) : 0 <= (digest p c).1 /\ (digest p c).1 < 4294967296 := by
 have := crc_lt (textB p c)
 unfold digest; cases eqI (stdE p c) 0 <;> simp <;> omega
end Go.Dc.Pl
end
section
set_option linter.all false
namespace Go.Dc
open Go Go.Hw Go.Proofs
set_option maxRecDepth 100000
def checkpoint_agent (a0 : Int) : Option Bool :=
 some (andB (!(ltI a0 (-2147483648))) (!(ltI 2147483647 a0)))
set_option maxHeartbeats 2000000 in
theorem at_checkpoint_agent {a0 : Int} {r : Bool} (hs : checkpoint_agent a0 = some r) : At Tryd.prog 61 [iV .i64 a0] (bV r) := by
 refine at_bound (by kernel_rfl) fun hb => ?_
 refine at_code mixed Tryd.func61 (by kernel_rfl) rfl (by kernel_rfl) rfl fun Q hQ => ?_
 rw [checkpoint_agent] at hs
 refine goG f0 f0 ?_
 obtain rfl := sj hs
 exact hQ _ _ (rg f0 (Gh.refl _))
end Go.Dc
end
section
set_option linter.all false
namespace Go.Dc
open Go Go.Hw Go.Proofs
set_option maxRecDepth 100000
def checkpoint_shallow_L1 (a1 : Int) (rF62z : Tree -> Int -> Option Bool) : List Tree -> Nat -> Option (Unit ⊕ Bool)
 | [], k54 => some (.inl ())
 | x74 :: q70, k54 => Option.bind (checkpoint_agent x74.Agent) (fun y77 => guardO (orB (!y77) ((rF62z x74 (IntKind.i64.wrap (a1 - 1))).isSome)) (cond (orB (!y77) (!((rF62z x74 (IntKind.i64.wrap (a1 - 1))).getD default))) (some (.inr false)) (checkpoint_shallow_L1 a1 rF62z q70 (k54 + 1))))
def checkpoint_shallow_B (rF62z : Tree -> Int -> Option Bool) (a0 : Tree) (a1 : Int) : Option Bool :=
 cond (andB (ltI 0 ((a0.Kids.length : Nat) : Int)) (eqI a1 0)) (some false) (Option.bind (α := Unit ⊕ Bool) (Option.bind (checkpoint_shallow_L1 a1 rF62z a0.Kids 0) (fun o => match o with | .inl _ => some (.inl ()) | .inr r81 => some (.inr r81))) (fun o => match o with | .inl _ => some true | .inr r82 => some r82))
def checkpoint_shallow : Nat -> Tree -> Int -> Option Bool
 | 0 => fun _ _ => none
 | fuelN + 1 => fun a0 a1 => checkpoint_shallow_B (checkpoint_shallow fuelN) a0 a1
set_option maxHeartbeats 2000000 in
theorem at_checkpoint_shallow_B {rF62z : Tree -> Int -> Option Bool} (ihrF62z : ∀ (a0 : Tree) (a1 : Int) (r : Bool), rF62z a0 a1 = some r -> At Tryd.prog 62 [.agg (eA a0), iV .i64 a1] (bV r)) {a0 : Tree} {a1 : Int} {r : Bool} (hs : checkpoint_shallow_B rF62z a0 a1 = some r) : At Tryd.prog 62 [.agg (eA a0), iV .i64 a1] (bV r) := by
 refine at_bound (by kernel_rfl) fun hb => ?_
 have hb1 : LenOk (.sl a0.Kids.length (encL a0.Kids)) := lkc hb
 refine at_code mixed Tryd.func62 (by kernel_rfl) rfl (by kernel_rfl) rfl fun Q hQ => ?_
 rw [checkpoint_shallow_B] at hs
 refine goG f0 f0 ?_
 revert hs; refine cS f0 ?_ ?_ <;> intro h1 hs
 ·refine goG f0 f0 ?_
  obtain rfl := sj hs
  exact hQ _ _ (rg f0 (Gh.refl _))
 ·refine goG2 f0 f0 ?_
  revert hs; refine bK fun o41 e40 hs => ?_
  refine awp_cutK (fun (v : Unit) (σ : St) => some (.inl v) = some o41 /\ 3 <= σ.gen) (by rfl) (fun Q hK42 hX43 => ?_) (fun v σ3 hp => ?_)
  ·refine goG f0 f0 ?_
   revert e40; refine bK fun o65 e64 e40 => ?_
   refine awp_loopW (fun (v : (List Tree) × Nat) (σ : St) => checkpoint_shallow_L1 a1 rF62z v.1 v.2 = some o65 /\ v.1 = a0.Kids.drop v.2 /\ σ.env 1 = iV .i64 a1 /\ σ.env 16 = .cell (sC a0.Kids) /\ σ.env 17 = iV .i64 ((a0.Kids.length : Nat) : Int) /\ σ.env 18 = iV .i64 ((v.2 : Nat) : Int) /\ 3 <= σ.gen) (fun v => v.1.length) _ (Gh.refl _) (a0.Kids, 0) ⟨e64, by simp, pv f0, pv f0, pv f0, pv f0, pg⟩ fun v σ6 hp L66 hL67 => ?_
   obtain ⟨q69, k54⟩ := v
   dsimp only at hp hL67
   obtain ⟨e64, hd68, h5_1, h5_16, h5_17, h5_18, n5_g⟩ := hp
   rcases q69 with _ | ⟨x74, q70⟩
   ·have hlt71 := drop_end hd68
    rw [checkpoint_shallow_L1] at e64; try dsimp only at e64
    have F1 := an h5_1 (an h5_16 (an h5_17 h5_18))
    refine goR F1 ?_
    refine condK_f (by simp [ltI]; omega) ?_
    obtain rfl := sj e64
    try dsimp only at e40
    exact hK42 () _ _ (Gh.refl _) ⟨e40, pg⟩
   ·obtain ⟨hx73, hlt71, hd75⟩ := drop_next hd68
    have ew72 := wrap_succ hlt71 (hb1).len
    rw [checkpoint_shallow_L1] at e64; try dsimp only at e64
    have F2 := an h5_1 (an h5_16 (an h5_17 (an h5_18 (an hlt71 ew72))))
    refine goR F2 ?_
    refine condK_t (by simp [ltI]; omega) ?_
    have f76 : partCV Tryd.prog 77 (encL a0.Kids) (k54 * 2) = some (.agg (eA x74)) := partCV_enc hx73 (f := 0) (by simp)
    have F3 := an F2 f76
    refine goR F3 ?_
    revert e64; refine bK fun y77 hx78 e64 => ?_
    refine cP F3 (at_checkpoint_agent hx78) ?_
    refine goG F3 F3 ?_
    obtain ⟨g79, e64⟩ := guardO_some e64
    refine gsel_call (fun hg => ihrF62z _ _ _ (under_call g79 hg)) (fun hg => by (try simp at hg); (first | simp [hg, F3]); try rfl) (fun hg => by (try simp at hg); simp [hg, F3]) (by simp) ?_
    refine goG F3 F3 ?_
    revert e64; refine cS F3 ?_ ?_ <;> intro h80 e64
    ·refine goG F3 F3 ?_
     obtain rfl := sj e64
     try dsimp only at e40
     obtain rfl := sj e40
     try dsimp only at hs
     refine hX43 _ _ (by simp) ?_
     refine goG F3 F3 ?_
     obtain rfl := sj hs
     exact hQ _ _ (rg F3 (Gh.refl _))
    ·refine goG F3 F3 ?_
     exact hL67 (q70, (k54 + 1)) _ _ (Gh.refl _) ⟨e64, hd75, pv F3, pv F3, pv F3, pv F3, pg⟩ (by simp)
  ·obtain ⟨e40, n4_g⟩ := hp
   obtain rfl := sj e40
   try dsimp only at hs
   refine goG f0 f0 ?_
   obtain rfl := sj hs
   exact hQ _ _ (rg f0 (Gh.refl _))
theorem at_checkpoint_shallow : ∀ {fuelN : Nat} {a0 : Tree} {a1 : Int} {r : Bool} (hs : checkpoint_shallow fuelN a0 a1 = some r), At Tryd.prog 62 [.agg (eA a0), iV .i64 a1] (bV r)
 | 0, _, _, _, hs => by rw [checkpoint_shallow] at hs; cases hs
 | n + 1, _, _, _, hs => by
  rw [checkpoint_shallow] at hs
  exact at_checkpoint_shallow_B (fun _ _ _ h => at_checkpoint_shallow h) hs
end Go.Dc
end
section
set_option linter.all false
namespace Go.Dc
open Go Go.Hw Go.Proofs
set_option maxRecDepth 100000
def wakeup_Valid_1_wakeup_Valid_1_L2 (x1270 : Tree) : List Tree -> Nat -> Option (Unit ⊕ Bool)
 | [], k1317 => some (.inl ())
 | x1334 :: q1330, k1317 => cond (eqI x1334.Agent x1270.Agent) (some (.inr false)) (wakeup_Valid_1_wakeup_Valid_1_L2 x1270 q1330 (k1317 + 1))
def wakeup_Valid_1_wakeup_Valid_1_L1 (a0 : List Tree) (rF76q76z : (List Tree) -> Option Bool) : Nat -> Int -> Option (Unit ⊕ Bool)
 | 0, _ => none
 | q1188 + 1, i1013 => cond (ltI i1013 ((a0.length : Nat) : Int)) (Option.bind (α := Unit ⊕ Bool) (Option.bind (getI a0 i1013) (fun x1270 => guardO (slB 0 i1013 a0.length) (Option.bind (some (subL a0 0 i1013)) (fun l1274 => Option.bind (α := Unit ⊕ Bool) (Option.bind (wakeup_Valid_1_wakeup_Valid_1_L2 x1270 l1274 0) (fun o => match o with | .inl _ => some (.inl ()) | .inr r1338 => some (.inr r1338))) (fun o => match o with | .inl _ => Option.bind (rF76q76z x1270.Kids) (fun y1339 => cond (!y1339) (some (.inr false)) (some (.inl ()))) | .inr r1342 => some (.inr r1342)))))) (fun o => match o with | .inl _ => wakeup_Valid_1_wakeup_Valid_1_L1 a0 rF76q76z q1188 (IntKind.i64.wrap (i1013 + 1)) | .inr r1343 => some (.inr r1343))) (some (.inl ()))
def wakeup_Valid_1_wakeup_Valid_1_B (rF76q76z : (List Tree) -> Option Bool) (fuelN : Nat) (a0 : List Tree) : Option Bool :=
 Option.bind (α := Unit ⊕ Bool) (Option.bind (wakeup_Valid_1_wakeup_Valid_1_L1 a0 rF76q76z fuelN 0) (fun o => match o with | .inl _ => some (.inl ()) | .inr r1344 => some (.inr r1344))) (fun o => match o with | .inl _ => some true | .inr r1345 => some r1345)
def wakeup_Valid_1_wakeup_Valid_1 : Nat -> (List Tree) -> Option Bool
 | 0 => fun _ => none
 | fuelN + 1 => fun a0 => wakeup_Valid_1_wakeup_Valid_1_B (wakeup_Valid_1_wakeup_Valid_1 fuelN) fuelN a0
set_option maxHeartbeats 2000000 in
theorem at_wakeup_Valid_1_wakeup_Valid_1_B {rF76q76z : (List Tree) -> Option Bool} (ihrF76q76z : ∀ (a0 : List Tree) (r : Bool), rF76q76z a0 = some r -> CAt Tryd.prog 76 [.cell (sC a0), .cell (.ref (.a 0) 0)] [.cells [.fn 76 [.inl (.a 0)]]] (.ret (bV r)) [(.a 0, .cells [.fn 76 [.inl (.a 0)]])]) {fuelN : Nat} {a0 : List Tree} {r : Bool} (hs : wakeup_Valid_1_wakeup_Valid_1_B rF76q76z fuelN a0 = some r) : CAt Tryd.prog 76 [.cell (sC a0), .cell (.ref (.a 0) 0)] [.cells [.fn 76 [.inl (.a 0)]]] (.ret (bV r)) [(.a 0, .cells [.fn 76 [.inl (.a 0)]])] := by
 refine at_bound (by kernel_rfl) fun hb => ?_
 have hb1 : LenOk (.sl a0.length (encL a0)) := lkc hb
 refine at_code mixed Tryd.func76 (by kernel_rfl) rfl (by kernel_rfl) rfl fun Q hQ => ?_
 rw [wakeup_Valid_1_wakeup_Valid_1_B] at hs
 refine goR2 f0 ?_
 revert hs; refine bK fun o672 e671 hs => ?_
 refine awp_cutK (fun (v : Unit) (σ : St) => some (.inl v) = some o672 /\ σ.hp (.a 0) = some (.cells [.fn 76 [.inl (.a 0)]]) /\ 2 <= σ.gen) (by rfl) (fun Q hK673 hX674 => ?_) (fun v σ59 hp => ?_)
 ·refine goR f0 ?_
  revert e671; refine bK fun o1183 e1182 e671 => ?_
  refine awp_loopW (fun (v : Nat × Int) (σ : St) => wakeup_Valid_1_wakeup_Valid_1_L1 a0 rF76q76z v.1 v.2 = some o1183 /\ σ.env 0 = .cell (sC a0) /\ σ.env 1 = .cell (.ref (.a 0) 0) /\ σ.env 8 = .cell (sC a0) /\ σ.env 9 = iV .i64 ((a0.length : Nat) : Int) /\ σ.env 10 = iV .i64 v.2 /\ σ.hp (.a 0) = some (.cells [.fn 76 [.inl (.a 0)]]) /\ 2 <= σ.gen) (fun v => v.1) _ (Gh.refl _) (fuelN, 0) ⟨e1182, pv f0, pv f0, pv f0, pv f0, pv f0, pv f0, pg⟩ fun v σ104 hp L1184 hL1185 => ?_
  obtain ⟨q1187, i1013⟩ := v
  dsimp only at hp hL1185
  obtain ⟨e1182, h103_0, h103_1, h103_8, h103_9, h103_10, g103_0, n103_g⟩ := hp
  rcases q1187 with _ | q1188
  ·rw [wakeup_Valid_1_wakeup_Valid_1_L1] at e1182; cases e1182
  ·rw [wakeup_Valid_1_wakeup_Valid_1_L1] at e1182; try dsimp only at e1182
   have F1 := an h103_0 (an h103_1 (an h103_8 (an h103_9 (an h103_10 g103_0))))
   refine goR F1 ?_
   revert e1182; refine cS F1 ?_ ?_ <;> intro h1192 e1182
   ·refine goR2 F1 ?_
    revert e1182; refine bK fun o1267 e1266 e1182 => ?_
    refine awp_cutK (fun (v : Unit) (σ : St) => some (.inl v) = some o1267 /\ σ.env 0 = .cell (sC a0) /\ σ.env 1 = .cell (.ref (.a 0) 0) /\ σ.env 8 = .cell (sC a0) /\ σ.env 9 = iV .i64 ((a0.length : Nat) : Int) /\ σ.env 10 = iV .i64 i1013 /\ σ.hp (.a 0) = some (.cells [.fn 76 [.inl (.a 0)]]) /\ (σ104.gen + 1) <= σ.gen) (by rfl) (fun Q hK1268 hX1269 => ?_) (fun v σ111 hp => ?_)
    ·refine goR2 F1 ?_
     refine awp_block ?_
     revert e1266; refine bK fun x1270 hx1271 e1266 => ?_
     obtain ⟨hx1271a, hx1271b, hx1271c, hx1271d⟩ := getI_some hx1271
     have f1272 : partCV Tryd.prog 77 (encL a0) (((i1013).toNat) * 2) = some (.agg (eA x1270)) := partCV_enc hx1271d (f := 0) (by simp)
     obtain ⟨g1273, e1266⟩ := guardO_some e1266
     obtain ⟨g1273a, g1273b, g1273c⟩ := slB_t g1273
     revert e1266; refine lK fun l1274 hx1275 e1266 => ?_
     have f1276n : l1274.length = (i1013 - 0).toNat := by rw [hx1275]; exact subL_len ⟨g1273a, g1273b, g1273c⟩
     have f1276e : ((encL a0).drop ((0 : Int).toNat * 2)).take ((i1013 - 0).toNat * 2) = encL l1274 := by rw [hx1275]; exact subL_enc (α := Tree)
     try simp at f1276n
     try simp at f1276e
     have f1276o : LenOk (.sl l1274.length (encL l1274)) := by rw [hx1275]; exact subL_ok hb1
     have F2 := an F1 (an f1272 (an g1273a (an g1273b (an g1273c (an f1276n f1276e)))))
     refine goR2 F2 ?_
     revert e1266; refine bK fun o1307 e1306 e1266 => ?_
     refine awp_cutK (fun (v : Unit) (σ : St) => some (.inl v) = some o1307 /\ σ.env 0 = .cell (sC a0) /\ σ.env 1 = .cell (.ref (.a 0) 0) /\ σ.env 5 = .cell (.ref (.o (σ104.gen + 2) 3 0) 0) /\ σ.env 8 = .cell (sC a0) /\ σ.env 9 = iV .i64 ((a0.length : Nat) : Int) /\ σ.env 10 = iV .i64 i1013 /\ σ.hp (.a 0) = some (.cells [.fn 76 [.inl (.a 0)]]) /\ σ.hp (.o (σ104.gen + 2) 3 0) = some (.cells (eA x1270)) /\ (σ104.gen + 3) <= σ.gen) (by rfl) (fun Q hK1308 hX1309 => ?_) (fun v σ115 hp => ?_)
     ·refine goR F2 ?_
      revert e1306; refine bK fun o1325 e1324 e1306 => ?_
      refine awp_loopW (fun (v : (List Tree) × Nat) (σ : St) => wakeup_Valid_1_wakeup_Valid_1_L2 x1270 v.1 v.2 = some o1325 /\ v.1 = l1274.drop v.2 /\ σ.env 0 = .cell (sC a0) /\ σ.env 1 = .cell (.ref (.a 0) 0) /\ σ.env 5 = .cell (.ref (.o (σ104.gen + 2) 3 0) 0) /\ σ.env 8 = .cell (sC a0) /\ σ.env 9 = iV .i64 ((a0.length : Nat) : Int) /\ σ.env 10 = iV .i64 i1013 /\ σ.env 17 = .cell (sC l1274) /\ σ.env 18 = iV .i64 ((l1274.length : Nat) : Int) /\ σ.env 19 = iV .i64 ((v.2 : Nat) : Int) /\ σ.hp (.a 0) = some (.cells [.fn 76 [.inl (.a 0)]]) /\ σ.hp (.o (σ104.gen + 2) 3 0) = some (.cells (eA x1270)) /\ (σ104.gen + 3) <= σ.gen) (fun v => v.1.length) _ (Gh.refl _) (l1274, 0) ⟨e1324, by simp, pv F2, pv F2, pv F2, pv F2, pv F2, pv F2, pv F2, pv F2, pv F2, pv F2, pv F2, pg⟩ fun v σ118 hp L1326 hL1327 => ?_
      obtain ⟨q1329, k1317⟩ := v
      dsimp only at hp hL1327
      obtain ⟨e1324, hd1328, h117_0, h117_1, h117_5, h117_8, h117_9, h117_10, h117_17, h117_18, h117_19, g117_0, g117_1, n117_g⟩ := hp
      have n117_σ104gen_0 : ¬ (σ118.gen = σ104.gen) := by omega
      have n117_σ104gen_0' : ¬ (σ104.gen = σ118.gen) := by omega
      have n117_σ104gen_1 : ¬ (σ118.gen = σ104.gen + 1) := by omega
      have n117_σ104gen_1' : ¬ (σ104.gen + 1 = σ118.gen) := by omega
      have n117_σ104gen_a : ∀ j, ¬ (σ118.gen + j = σ104.gen) := fun j => by omega
      have n117_σ104gen_a' : ∀ j, ¬ (σ104.gen = σ118.gen + j) := fun j => by omega
      rcases q1329 with _ | ⟨x1334, q1330⟩
      ·have hlt1331 := drop_end hd1328
       rw [wakeup_Valid_1_wakeup_Valid_1_L2] at e1324; try dsimp only at e1324
       have F3 := an h117_0 (an h117_1 (an h117_5 (an h117_8 (an h117_9 (an h117_10 (an h117_17 (an h117_18 (an h117_19 (an g117_0 (an g117_1 (an n117_σ104gen_0 (an n117_σ104gen_0' (an n117_σ104gen_1 (an n117_σ104gen_1' (an n117_σ104gen_a (an n117_σ104gen_a' f1272))))))))))))))))
       refine goR F3 ?_
       refine condK_f (by simp [ltI]; omega) ?_
       obtain rfl := sj e1324
       try dsimp only at e1306
       exact hK1308 () _ _ (Gh.refl _) ⟨e1306, pv F3, pv F3, pv F3, pv F3, pv F3, pv F3, pv F3, pv F3, pg⟩
      ·obtain ⟨hx1333, hlt1331, hd1335⟩ := drop_next hd1328
       have ew1332 := wrap_succ hlt1331 (f1276o).len
       rw [wakeup_Valid_1_wakeup_Valid_1_L2] at e1324; try dsimp only at e1324
       have F4 := an h117_0 (an h117_1 (an h117_5 (an h117_8 (an h117_9 (an h117_10 (an h117_17 (an h117_18 (an h117_19 (an g117_0 (an g117_1 (an n117_σ104gen_0 (an n117_σ104gen_0' (an n117_σ104gen_1 (an n117_σ104gen_1' (an n117_σ104gen_a (an n117_σ104gen_a' (an f1272 (an hlt1331 ew1332))))))))))))))))))
       refine goR F4 ?_
       refine condK_t (by simp [ltI]; omega) ?_
       have f1336 : partCV Tryd.prog 77 (encL l1274) (k1317 * 2) = some (.agg (eA x1334)) := partCV_enc hx1333 (f := 0) (by simp)
       have F5 := an F4 f1336
       refine goR F5 ?_
       revert e1324; refine cS F5 ?_ ?_ <;> intro h1337 e1324
       ·refine goR F5 ?_
        obtain rfl := sj e1324
        try dsimp only at e1306
        obtain rfl := sj e1306
        try dsimp only at e1266
        refine hX1309 _ _ (by simp) ?_
        refine goR F5 ?_
        obtain rfl := sj e1266
        try dsimp only at e1182
        refine hX1269 _ _ (by simp) ?_
        refine goR F5 ?_
        obtain rfl := sj e1182
        try dsimp only at e671
        obtain rfl := sj e671
        try dsimp only at hs
        refine hX674 _ _ (by simp) ?_
        refine goR F5 ?_
        obtain rfl := sj hs
        refine hQ _ _ (ret2g _ (Gh.refl _) (by simp [St.frz, St.pur, F5]; rfl) (by first | rfl | (simp [St.frz, St.pur, F5]; done) | (rw [if_pos (by first | omega | (simp; omega))]; simp [St.frz, St.pur, F5]; first | omega | exact List.take_of_length_le (by simp; omega) | skip)) (pv F5))
       ·refine goR F5 ?_
        exact hL1327 (q1330, (k1317 + 1)) _ _ (Gh.refl _) ⟨e1324, hd1335, pv F5, pv F5, pv F5, pv F5, pv F5, pv F5, pv F5, pv F5, pv F5, pv F5, pv F5, pg⟩ (by simp)
     ·obtain ⟨e1306, h116_0, h116_1, h116_5, h116_8, h116_9, h116_10, g116_0, g116_1, n116_g⟩ := hp
      obtain rfl := sj e1306
      try dsimp only at e1266
      have n116_σ104gen_0 : ¬ (σ115.gen = σ104.gen) := by omega
      have n116_σ104gen_0' : ¬ (σ104.gen = σ115.gen) := by omega
      have n116_σ104gen_1 : ¬ (σ115.gen = σ104.gen + 1) := by omega
      have n116_σ104gen_1' : ¬ (σ104.gen + 1 = σ115.gen) := by omega
      have n116_σ104gen_a : ∀ j, ¬ (σ115.gen + j = σ104.gen) := fun j => by omega
      have n116_σ104gen_a' : ∀ j, ¬ (σ104.gen = σ115.gen + j) := fun j => by omega
      have F6 := an h116_0 (an h116_1 (an h116_5 (an h116_8 (an h116_9 (an h116_10 (an g116_0 (an g116_1 (an n116_σ104gen_0 (an n116_σ104gen_0' (an n116_σ104gen_1 (an n116_σ104gen_1' (an n116_σ104gen_a (an n116_σ104gen_a' f1272)))))))))))))
      refine goR F6 ?_
      revert e1266; refine bK fun y1339 hx1340 e1266 => ?_
      refine cB F6 (ihrF76q76z _ _ hx1340) [.a 0] ?_
      refine goR F6 ?_
      revert e1266; refine cS F6 ?_ ?_ <;> intro h1341 e1266
      ·refine goR F6 ?_
       obtain rfl := sj e1266
       try dsimp only at e1182
       refine hX1269 _ _ (by simp) ?_
       refine goR F6 ?_
       obtain rfl := sj e1182
       try dsimp only at e671
       obtain rfl := sj e671
       try dsimp only at hs
       refine hX674 _ _ (by simp) ?_
       refine goR F6 ?_
       obtain rfl := sj hs
       refine hQ _ _ (ret2g _ (Gh.refl _) (by simp [St.frz, St.pur, F6]; rfl) (by first | rfl | (simp [St.frz, St.pur, F6]; done) | (rw [if_pos (by first | omega | (simp; omega))]; simp [St.frz, St.pur, F6]; first | omega | exact List.take_of_length_le (by simp; omega) | skip)) (pv F6))
      ·refine goR F6 ?_
       exact hK1268 () _ _ (Gh.refl _) ⟨e1266, pv F6, pv F6, pv F6, pv F6, pv F6, pv F6, pg⟩
    ·obtain ⟨e1266, h112_0, h112_1, h112_8, h112_9, h112_10, g112_0, n112_g⟩ := hp
     obtain rfl := sj e1266
     try dsimp only at e1182
     have F7 := an h112_0 (an h112_1 (an h112_8 (an h112_9 (an h112_10 g112_0))))
     refine goR F7 ?_
     exact hL1185 (q1188, IntKind.i64.wrap (i1013 + 1)) _ _ (Gh.refl _) ⟨e1182, pv F7, pv F7, pv F7, pv F7, pv F7, pv F7, pg⟩ (by omega)
   ·refine goR F1 ?_
    obtain rfl := sj e1182
    try dsimp only at e671
    exact hK673 () _ _ (Gh.refl _) ⟨e671, pv F1, pg⟩
 ·obtain ⟨e671, g60_0, n60_g⟩ := hp
  obtain rfl := sj e671
  try dsimp only at hs
  refine goR g60_0 ?_
  obtain rfl := sj hs
  refine hQ _ _ (ret2g _ (Gh.refl _) (by simp [St.frz, St.pur, g60_0]; rfl) (by first | rfl | (simp [St.frz, St.pur, g60_0]; done) | (rw [if_pos (by first | omega | (simp; omega))]; simp [St.frz, St.pur, g60_0]; first | omega | exact List.take_of_length_le (by simp; omega) | skip)) (pv g60_0))
theorem at_wakeup_Valid_1_wakeup_Valid_1 : ∀ {fuelN : Nat} {a0 : List Tree} {r : Bool} (hs : wakeup_Valid_1_wakeup_Valid_1 fuelN a0 = some r), CAt Tryd.prog 76 [.cell (sC a0), .cell (.ref (.a 0) 0)] [.cells [.fn 76 [.inl (.a 0)]]] (.ret (bV r)) [(.a 0, .cells [.fn 76 [.inl (.a 0)]])]
 | 0, _, _, hs => by rw [wakeup_Valid_1_wakeup_Valid_1] at hs; cases hs
 | n + 1, _, _, hs => by
  rw [wakeup_Valid_1_wakeup_Valid_1] at hs
  exact at_wakeup_Valid_1_wakeup_Valid_1_B (fun _ _ h => at_wakeup_Valid_1_wakeup_Valid_1 h) hs
end Go.Dc
end
section
set_option linter.all false
namespace Go.Dc
open Go Go.Hw Go.Proofs
set_option maxRecDepth 100000
def wakeup_Valid (fuelN : Nat) (a0 : Tree) : Option Bool :=
 cond (eqI a0.Agent 0) (Option.bind (wakeup_Valid_1_wakeup_Valid_1 fuelN a0.Kids) (fun y2 => some y2)) (some false)
set_option maxHeartbeats 2000000 in
theorem at_wakeup_Valid {fuelN : Nat} {a0 : Tree} {r : Bool} (hs : wakeup_Valid fuelN a0 = some r) : At Tryd.prog 63 [.agg (eA a0)] (bV r) := by
 refine at_bound (by kernel_rfl) fun hb => ?_
 have hb1 : LenOk (.sl a0.Kids.length (encL a0.Kids)) := lkc hb
 refine at_code mixed Tryd.func63 (by kernel_rfl) rfl (by kernel_rfl) rfl fun Q hQ => ?_
 rw [wakeup_Valid] at hs
 refine goG f0 f0 ?_
 refine gsel_split (fun h1 => ?_) (fun h1 => ?_)
 ·replace hs := condT h1 hs
  refine goG h1 h1 ?_
  revert hs; refine bK fun y2 hx3 hs => ?_
  refine cB h1 (at_wakeup_Valid_1_wakeup_Valid_1 hx3) [.o 2 0 0] ?_
  refine goG h1 h1 ?_
  obtain rfl := sj hs
  exact hQ _ _ (rg h1 (Gh.refl _))
 ·replace hs := condF h1 hs
  refine goG h1 h1 ?_
  obtain rfl := sj hs
  exact hQ _ _ (rg h1 (Gh.refl _))
end Go.Dc
end
section
set_option linter.all false
namespace Go.Dc
open Go Go.Hw Go.Proofs
set_option maxRecDepth 100000
def checkpoint_validFrame_L1 (a0 : Frame) : List Int -> Nat -> Option (Unit ⊕ Bool)
 | [], k60 => some (.inl ())
 | x81 :: q77, k60 => Option.bind (checkpoint_agent x81) (fun y84 => guardO (orB (!(andB (!(orB (!y84) (eqI x81 a0.Agent))) (ltI 0 ((k60 : Nat) : Int)))) (inB (IntKind.i64.wrap (((k60 : Nat) : Int) - 1)) a0.Sleep.length)) (cond (orB (orB (!y84) (eqI x81 a0.Agent)) (andB (ltI 0 ((k60 : Nat) : Int)) (!(ltI (gd a0.Sleep ((IntKind.i64.wrap (((k60 : Nat) : Int) - 1)).toNat)) x81)))) (some (.inr false)) (checkpoint_validFrame_L1 a0 q77 (k60 + 1))))
def checkpoint_validFrame (fuelN : Nat) (a0 : Frame) : Option Bool :=
 Option.bind (checkpoint_agent a0.Agent) (fun y1 => cond (orB (!y1) (ltI 2048 ((a0.Sleep.length : Nat) : Int))) (some false) (Option.bind (α := Unit ⊕ Bool) (Option.bind (checkpoint_validFrame_L1 a0 a0.Sleep 0) (fun o => match o with | .inl _ => some (.inl ()) | .inr r89 => some (.inr r89))) (fun o => match o with | .inl _ => Option.bind (checkpoint_shallow fuelN a0.Tree 512) (fun y90 => guardO (orB (!y90) ((wakeup_Valid fuelN a0.Tree).isSome)) (cond (orB (orB (!y90) (!((wakeup_Valid fuelN a0.Tree).getD default))) (eqI ((a0.Tree.Kids.length : Nat) : Int) 0)) (some false) (Option.bind (a0.Tree.Kids[0]?) (fun x94 => some (andB (eqI x94.Agent a0.Agent) (eqI ((x94.Kids.length : Nat) : Int) 0)))))) | .inr r97 => some r97)))
set_option maxHeartbeats 2000000 in
theorem at_checkpoint_validFrame {fuelN : Nat} {a0 : Frame} {r : Bool} (hs : checkpoint_validFrame fuelN a0 = some r) : At Tryd.prog 40 [.agg (eA a0)] (bV r) := by
 refine at_bound (by kernel_rfl) fun hb => ?_
 have hb1 : LenOk (.sl a0.Sleep.length (encL a0.Sleep)) := lkc hb
 have hb2 : LenOk (.sl a0.Tree.Kids.length (encL a0.Tree.Kids)) := lkc hb
 refine at_code mixed Tryd.func40 (by kernel_rfl) rfl (by kernel_rfl) rfl fun Q hQ => ?_
 rw [checkpoint_validFrame] at hs
 refine goR f0 ?_
 revert hs; refine bK fun y1 hx2 hs => ?_
 refine cP f0 (at_checkpoint_agent hx2) ?_
 refine goG f0 f0 ?_
 revert hs; refine cS f0 ?_ ?_ <;> intro h3 hs
 ·refine goG f0 f0 ?_
  obtain rfl := sj hs
  exact hQ _ _ (rg f0 (Gh.refl _))
 ·refine goG2 f0 f0 ?_
  revert hs; refine bK fun o46 e45 hs => ?_
  refine awp_cutK (fun (v : Unit) (σ : St) => some (.inl v) = some o46 /\ σ.env 1 = .cell (.ref (.o 1 0 0) 0) /\ σ.hp (.o 1 0 0) = some (.cells (eA a0)) /\ 3 <= σ.gen) (by rfl) (fun Q hK47 hX48 => ?_) (fun v σ3 hp => ?_)
  ·refine goG f0 f0 ?_
   revert e45; refine bK fun o72 e71 e45 => ?_
   refine awp_loopW (fun (v : (List Int) × Nat) (σ : St) => checkpoint_validFrame_L1 a0 v.1 v.2 = some o72 /\ v.1 = a0.Sleep.drop v.2 /\ σ.env 1 = .cell (.ref (.o 1 0 0) 0) /\ σ.env 17 = .cell (sC a0.Sleep) /\ σ.env 18 = iV .i64 ((a0.Sleep.length : Nat) : Int) /\ σ.env 19 = iV .i64 ((v.2 : Nat) : Int) /\ σ.hp (.o 1 0 0) = some (.cells (eA a0)) /\ 3 <= σ.gen) (fun v => v.1.length) _ (Gh.refl _) (a0.Sleep, 0) ⟨e71, by simp, pv f0, pv f0, pv f0, pv f0, pv f0, pg⟩ fun v σ6 hp L73 hL74 => ?_
   obtain ⟨q76, k60⟩ := v
   dsimp only at hp hL74
   obtain ⟨e71, hd75, h5_1, h5_17, h5_18, h5_19, g5_0, n5_g⟩ := hp
   have n5_0 : ¬ (σ6.gen = 0) := by omega
   rcases q76 with _ | ⟨x81, q77⟩
   ·have hlt78 := drop_end hd75
    rw [checkpoint_validFrame_L1] at e71; try dsimp only at e71
    have F1 := an h5_1 (an h5_17 (an h5_18 (an h5_19 (an g5_0 n5_0))))
    refine goR F1 ?_
    refine condK_f (by simp [ltI]; omega) ?_
    obtain rfl := sj e71
    try dsimp only at e45
    exact hK47 () _ _ (Gh.refl _) ⟨e45, pv F1, pv F1, pg⟩
   ·obtain ⟨hx80, hlt78, hd82⟩ := drop_next hd75
    have ew79 := wrap_succ hlt78 (hb1).len
    rw [checkpoint_validFrame_L1] at e71; try dsimp only at e71
    have F2 := an h5_1 (an h5_17 (an h5_18 (an h5_19 (an g5_0 (an n5_0 (an hlt78 ew79))))))
    refine goR F2 ?_
    refine condK_t (by simp [ltI]; omega) ?_
    have f83 : partCV Tryd.prog 3 (encL a0.Sleep) (k60) = some (iV .i64 x81) := partCV_enc1 hx80 (by simp)
    have F3 := an F2 f83
    refine goR F3 ?_
    revert e71; refine bK fun y84 hx85 e71 => ?_
    refine cP F3 (at_checkpoint_agent hx85) ?_
    obtain ⟨g86, e71⟩ := guardO_some e71
    have g86a : (andB (!(orB (!y84) (eqI x81 a0.Agent))) (ltI 0 ((k60 : Nat) : Int))) = true -> 0 <= IntKind.i64.wrap (((k60 : Nat) : Int) - 1) := fun hg => (under_elem g86 hg).1
    have g86b : (andB (!(orB (!y84) (eqI x81 a0.Agent))) (ltI 0 ((k60 : Nat) : Int))) = true -> IntKind.i64.wrap (((k60 : Nat) : Int) - 1) < (a0.Sleep.length : Int) := fun hg => (under_elem g86 hg).2.1
    have g86n : (andB (!(orB (!y84) (eqI x81 a0.Agent))) (ltI 0 ((k60 : Nat) : Int))) = true -> (IntKind.i64.wrap (((k60 : Nat) : Int) - 1)).toNat < a0.Sleep.length := fun hg => by simpa using (under_elem g86 hg).2.2.1
    have g86c : (andB (!(orB (!y84) (eqI x81 a0.Agent))) (ltI 0 ((k60 : Nat) : Int))) = true -> a0.Sleep[(IntKind.i64.wrap (((k60 : Nat) : Int) - 1)).toNat]? = some (gd a0.Sleep ((IntKind.i64.wrap (((k60 : Nat) : Int) - 1)).toNat)) := fun hg => by simpa using (under_elem g86 hg).2.2.2
    have f87 : (andB (!(orB (!y84) (eqI x81 a0.Agent))) (ltI 0 ((k60 : Nat) : Int))) = true -> partCV Tryd.prog 3 (encL a0.Sleep) ((IntKind.i64.wrap (((k60 : Nat) : Int) - 1)).toNat) = some (iV .i64 (gd a0.Sleep ((IntKind.i64.wrap (((k60 : Nat) : Int) - 1)).toNat))) := fun hg => partCV_enc1 (g86c hg) (by simp)
    have F4 := an F3 (an g86a (an g86b (an g86n f87)))
    refine goG F4 F4 ?_
    revert e71; refine cS F4 ?_ ?_ <;> intro h88 e71
    ·refine goG F4 F4 ?_
     obtain rfl := sj e71
     try dsimp only at e45
     obtain rfl := sj e45
     try dsimp only at hs
     refine hX48 _ _ (by simp) ?_
     refine goG F4 F4 ?_
     obtain rfl := sj hs
     exact hQ _ _ (rg F4 (Gh.refl _))
    ·refine goG F4 F4 ?_
     exact hL74 (q77, (k60 + 1)) _ _ (Gh.refl _) ⟨e71, hd82, pv F4, pv F4, pv F4, pv F4, pv F4, pg⟩ (by simp)
  ·obtain ⟨e45, h4_1, g4_0, n4_g⟩ := hp
   obtain rfl := sj e45
   try dsimp only at hs
   have n4_0 : ¬ (σ3.gen = 0) := by omega
   have F5 := an h4_1 (an g4_0 n4_0)
   refine goG F5 F5 ?_
   revert hs; refine bK fun y90 hx91 hs => ?_
   refine cP F5 (at_checkpoint_shallow hx91) ?_
   refine goG F5 F5 ?_
   obtain ⟨g92, hs⟩ := guardO_some hs
   refine gsel_call (fun hg => at_wakeup_Valid (under_call g92 hg)) (fun hg => by (try simp at hg); (first | simp [hg, F5]); try rfl) (fun hg => by (try simp at hg); simp [hg, F5]) (by simp) ?_
   refine goG F5 F5 ?_
   revert hs; refine cS F5 ?_ ?_ <;> intro h93 hs
   ·refine goG F5 F5 ?_
    obtain rfl := sj hs
    exact hQ _ _ (rg F5 (Gh.refl _))
   ·revert hs; refine bK fun x94 hx95 hs => ?_
    have hx95b := getN_some hx95
    have f96 : partCV Tryd.prog 77 (encL a0.Tree.Kids) (0 * 2) = some (.agg (eA x94)) := partCV_enc hx95 (f := 0) (by simp)
    have F6 := an F5 f96
    have F7 := an F6 hx95b
    refine goG F6 F7 ?_
    obtain rfl := sj hs
    exact hQ _ _ (rg F6 (Gh.refl _))
end Go.Dc
end
section
set_option linter.all false
namespace Go.Dc
open Go Go.Hw Go.Proofs
set_option maxRecDepth 100000
def checkpoint_Valid_L1 (fuelN : Nat) : List Frame -> Nat -> Option (Unit ⊕ Bool)
 | [], k51 => some (.inl ())
 | x70 :: q66, k51 => Option.bind (checkpoint_validFrame fuelN x70) (fun y73 => cond (!y73) (some (.inr false)) (checkpoint_Valid_L1 fuelN q66 (k51 + 1)))
def checkpoint_Valid (fuelN : Nat) (a0 : Snapshot) : Option Bool :=
 cond (orB (orB (orB (orB (ltI a0.Count 0) (ltI 1048576 a0.Count)) (ltI a0.Blocked 0)) (ltI 1048576 a0.Blocked)) (ltI 512 ((a0.Frames.length : Nat) : Int))) (some false) (cond (andB (ltI 0 ((a0.Frames.length : Nat) : Int)) (orB a0.Done (eqI a0.Count 0))) (some false) (Option.bind (α := Unit ⊕ Bool) (Option.bind (checkpoint_Valid_L1 fuelN a0.Frames 0) (fun o => match o with | .inl _ => some (.inl ()) | .inr r76 => some (.inr r76))) (fun o => match o with | .inl _ => some true | .inr r77 => some r77)))
set_option maxHeartbeats 2000000 in
theorem at_checkpoint_Valid {fuelN : Nat} {a0 : Snapshot} {r : Bool} (hs : checkpoint_Valid fuelN a0 = some r) : At Tryd.prog 15 [.agg (eA a0)] (bV r) := by
 refine at_bound (by kernel_rfl) fun hb => ?_
 have hb1 : LenOk (.sl a0.Frames.length (encL a0.Frames)) := lkc hb
 refine at_code mixed Tryd.func15 (by kernel_rfl) rfl (by kernel_rfl) rfl fun Q hQ => ?_
 rw [checkpoint_Valid] at hs
 refine goG f0 f0 ?_
 revert hs; refine cS f0 ?_ ?_ <;> intro h1 hs
 ·refine goG f0 f0 ?_
  obtain rfl := sj hs
  exact hQ _ _ (rg f0 (Gh.refl _))
 ·refine goG f0 f0 ?_
  revert hs; refine cS f0 ?_ ?_ <;> intro h2 hs
  ·refine goG f0 f0 ?_
   obtain rfl := sj hs
   exact hQ _ _ (rg f0 (Gh.refl _))
  ·refine goG2 f0 f0 ?_
   revert hs; refine bK fun o39 e38 hs => ?_
   refine awp_cutK (fun (v : Unit) (σ : St) => some (.inl v) = some o39 /\ 4 <= σ.gen) (by rfl) (fun Q hK40 hX41 => ?_) (fun v σ3 hp => ?_)
   ·refine goG f0 f0 ?_
    revert e38; refine bK fun o61 e60 e38 => ?_
    refine awp_loopW (fun (v : (List Frame) × Nat) (σ : St) => checkpoint_Valid_L1 fuelN v.1 v.2 = some o61 /\ v.1 = a0.Frames.drop v.2 /\ σ.env 43 = .cell (sC a0.Frames) /\ σ.env 44 = iV .i64 ((a0.Frames.length : Nat) : Int) /\ σ.env 45 = iV .i64 ((v.2 : Nat) : Int) /\ 4 <= σ.gen) (fun v => v.1.length) _ (Gh.refl _) (a0.Frames, 0) ⟨e60, by simp, pv f0, pv f0, pv f0, pg⟩ fun v σ6 hp L62 hL63 => ?_
    obtain ⟨q65, k51⟩ := v
    dsimp only at hp hL63
    obtain ⟨e60, hd64, h5_43, h5_44, h5_45, n5_g⟩ := hp
    rcases q65 with _ | ⟨x70, q66⟩
    ·have hlt67 := drop_end hd64
     rw [checkpoint_Valid_L1] at e60; try dsimp only at e60
     have F1 := an h5_43 (an h5_44 h5_45)
     refine goR F1 ?_
     refine condK_f (by simp [ltI]; omega) ?_
     obtain rfl := sj e60
     try dsimp only at e38
     exact hK40 () _ _ (Gh.refl _) ⟨e38, pg⟩
    ·obtain ⟨hx69, hlt67, hd71⟩ := drop_next hd64
     have ew68 := wrap_succ hlt67 (hb1).len
     rw [checkpoint_Valid_L1] at e60; try dsimp only at e60
     have F2 := an h5_43 (an h5_44 (an h5_45 (an hlt67 ew68)))
     refine goR F2 ?_
     refine condK_t (by simp [ltI]; omega) ?_
     have f72 : partCV Tryd.prog 79 (encL a0.Frames) (k51 * 4) = some (.agg (eA x70)) := partCV_enc hx69 (f := 0) (by simp)
     have F3 := an F2 f72
     refine goR F3 ?_
     revert e60; refine bK fun y73 hx74 e60 => ?_
     refine cP F3 (at_checkpoint_validFrame hx74) ?_
     refine goR F3 ?_
     revert e60; refine cS F3 ?_ ?_ <;> intro h75 e60
     ·refine goR F3 ?_
      obtain rfl := sj e60
      try dsimp only at e38
      obtain rfl := sj e38
      try dsimp only at hs
      refine hX41 _ _ (by simp) ?_
      refine goR F3 ?_
      obtain rfl := sj hs
      exact hQ _ _ (rg F3 (Gh.refl _))
     ·refine goR F3 ?_
      exact hL63 (q66, (k51 + 1)) _ _ (Gh.refl _) ⟨e60, hd71, pv F3, pv F3, pv F3, pg⟩ (by simp)
   ·obtain ⟨e38, n4_g⟩ := hp
    obtain rfl := sj e38
    try dsimp only at hs
    refine goG f0 f0 ?_
    obtain rfl := sj hs
    exact hQ _ _ (rg f0 (Gh.refl _))
end Go.Dc
end
section
set_option linter.all false
namespace Go.Dc.Pl
open Go Go.Hw Go.Dc
def agentOk (n : Int) : Bool := andB (!(ltI n (-2147483648))) (!(ltI 2147483647 n))
theorem own_agent (n : Int) : checkpoint_agent n = some (agentOk n) := rfl
theorem agentOk_t {n : Int} (h : agentOk n = true) : -2147483648 <= n /\ n <= 2147483647 := by
 simp only [agentOk, andB_d, ltI_d, Bool.and_eq_true, Bool.not_eq_true', decide_eq_false_iff_not] at h; omega
def shal : Nat -> List Tree -> Bool
 | 0, l => decide (l.length = 0)
 | m + 1, l => l.all fun k => agentOk k.Agent && shal m k.Kids
def nodupA (l : List Tree) (k : Nat) (x : Tree) : Bool := (l.take k).any fun y => eqI y.Agent x.Agent
def dist : Nat -> List Tree -> Bool
 | 0, _ => true
 | m + 1, l => !((l.zipIdx 0).any fun x => nodupA l x.2 x.1 || !dist m x.1.Kids)
def wid (B : Nat) : Nat -> List Tree -> Prop
 | 0, _ => True
 | m + 1, l => l.length <= B /\ ∀ k ∈ l, wid B m k.Kids
theorem any_not_all {α : Type} (p : α -> Bool) (l : List α) : (l.any fun x => !p x) = !l.all p := by induction l with
 | nil => rfl
 | cons x l ih => rw [List.any_cons, List.all_cons, ih]; cases p x <;> rfl
theorem own_shal : ∀ (m f : Nat) (t : Tree), m <= 1000 -> m < f -> checkpoint_shallow f t (m : Int) = some (shal m t.Kids) := by
 intro m
 induction m with
 | zero =>
  intro f t _ hf
  obtain ⟨f, rfl⟩ : ∃ k, f = k + 1 := ⟨f - 1, by omega⟩
  show checkpoint_shallow_B (checkpoint_shallow f) t ((0 : Nat) : Int) = _
  unfold checkpoint_shallow_B
  rw [shal]
  cases hk : t.Kids with
  | nil => rfl
  | cons x l => rw [show eqI ((0 : Nat) : Int) 0 = true from rfl, ltI_d, decide_eq_true (by simp), decide_eq_false (by simp)]; rfl
 | succ m ih =>
  intro f t hm hf
  obtain ⟨f, rfl⟩ : ∃ k, f = k + 1 := ⟨f - 1, by omega⟩
  show checkpoint_shallow_B (checkpoint_shallow f) t ((m + 1 : Nat) : Int) = _
  unfold checkpoint_shallow_B
  have h := srch (L := checkpoint_shallow_L1 ((m + 1 : Nat) : Int) (checkpoint_shallow f)) (fun _ (k : Tree) => onlyIf (!(agentOk k.Agent && shal m k.Kids)) false) (fun _ => rfl) t.Kids 0 fun j x hx q => by
   rw [checkpoint_shallow_L1, own_agent, Option.bind_some, show ((m + 1 : Nat) : Int) - 1 = (m : Int) by omega, wrapN (by omega), ih f x (by omega) (by omega), show (some (shal m x.Kids)).isSome = true from rfl, orB_t, guardO_t]
   rw [show orB (!agentOk x.Agent) (!((some (shal m x.Kids)).getD default)) = !(agentOk x.Agent && shal m x.Kids) by cases agentOk x.Agent <;> rfl]
   exact step_only _ _ _
  rw [first_onlyC, any_not_all] at h
  rw [show eqI ((m + 1 : Nat) : Int) 0 = false by rw [eqI_d, decide_eq_false (by omega)], andB_d, Bool.and_false, cond_false, h, shal]
  cases t.Kids.all fun k => agentOk k.Agent && shal m k.Kids <;> rfl
theorem own_dist {B : Nat} (hB : B <= 1000000000) : ∀ (m f : Nat) (l : List Tree), B + m + 5 <= f -> shal m l = true -> wid B m l -> wakeup_Valid_1_wakeup_Valid_1 f l = some (dist m l) := by
 intro m
 induction m with
 | zero =>
  intro f l hf hs _
  obtain ⟨f, rfl⟩ : ∃ k, f = k + 2 := ⟨f - 2, by omega⟩
  simp only [shal, decide_eq_true_eq, List.length_eq_zero_iff] at hs
  subst hs; rfl
 | succ m ih =>
  intro f l hf hs hw
  obtain ⟨f, rfl⟩ : ∃ k, f = k + 1 := ⟨f - 1, by omega⟩
  rw [shal, List.all_eq_true] at hs
  show wakeup_Valid_1_wakeup_Valid_1_B (wakeup_Valid_1_wakeup_Valid_1 f) f l = _
  unfold wakeup_Valid_1_wakeup_Valid_1_B
  have h := srchI (L := fun q i => wakeup_Valid_1_wakeup_Valid_1_L1 l (wakeup_Valid_1_wakeup_Valid_1 f) q i) l (fun k x => onlyIf (nodupA l k x || !dist m x.Kids) false) (fun q => by
    show wakeup_Valid_1_wakeup_Valid_1_L1 _ _ (q + 1) _ = _
    rw [wakeup_Valid_1_wakeup_Valid_1_L1, ltI_d, decide_eq_false (by omega)]; rfl) (fun q k x hx => by
    have hk := getN_some hx
    have hm := List.mem_of_getElem? hx
    have h1 := hs x hm
    rw [Bool.and_eq_true] at h1
    show wakeup_Valid_1_wakeup_Valid_1_L1 _ _ (q + 1) _ = stepS _ (wakeup_Valid_1_wakeup_Valid_1_L1 _ _ q _)
    have h2 := srch (L := wakeup_Valid_1_wakeup_Valid_1_L2 x) (fun _ (y : Tree) => onlyIf (eqI y.Agent x.Agent) false) (fun _ => rfl) (l.take k) 0 fun j y hy q => by
     rw [wakeup_Valid_1_wakeup_Valid_1_L2]; exact step_only _ _ _
    rw [first_onlyC] at h2
    rw [wakeup_Valid_1_wakeup_Valid_1_L1, ltI_d, decide_eq_true (by omega), cond_true, getI_nat, hx]
    simp only [Option.bind_some]
    have hlen : l.length <= B := hw.1
    rw [show slB 0 (k : Int) l.length = true by simp [slB]; omega, guardO_t, show subL l 0 (k : Int) = l.take k by simp [subL], h2, ih f x.Kids (by omega) h1.2 (hw.2 x hm), wrapS (by omega)]
    show _ = stepS (onlyIf (nodupA l k x || !dist m x.Kids) false) _
    rw [show (List.take k l).any (fun y => eqI y.Agent x.Agent) = nodupA l k x from rfl]
    cases nodupA l k x <;> cases dist m x.Kids <;> rfl) f 0 (by omega) (by have := hw.1; omega)
  rw [List.drop_zero, first_only] at h
  simp only [show ((0 : Nat) : Int) = 0 from rfl] at h
  rw [h, dist]
  cases (l.zipIdx 0).any fun x => nodupA l x.2 x.1 || !dist m x.1.Kids <;> rfl
def wakeOk (t : Tree) : Bool := eqI t.Agent 0 && dist 512 t.Kids
theorem own_wake {B f : Nat} (hB : B <= 1000000000) {t : Tree} (hf : B + 600 <= f) (hs : shal 512 t.Kids = true) (hw : wid B 512 t.Kids) : wakeup_Valid f t = some (wakeOk t) := by
 rw [wakeup_Valid, own_dist hB 512 f t.Kids (by omega) hs hw, wakeOk]
 cases eqI t.Agent 0 <;> rfl
def badS (l : List Int) (g : Int) (k : Nat) (x : Int) : Bool := orB (orB (!agentOk x) (eqI x g)) (andB (ltI 0 (k : Int)) (!(ltI (gd l (k - 1)) x)))
def sleepBad (f : Frame) : Bool := (f.Sleep.zipIdx 0).any fun x => badS f.Sleep f.Agent x.2 x.1
def headOk (g : Int) : List Tree -> Bool
 | x :: _ => andB (eqI x.Agent g) (eqI ((x.Kids.length : Nat) : Int) 0)
 | [] => false
def treeOk (f : Frame) : Bool := shal 512 f.Tree.Kids && (wakeOk f.Tree && headOk f.Agent f.Tree.Kids)
def validF (f : Frame) : Bool := agentOk f.Agent && (decide (f.Sleep.length <= 2048) && (!sleepBad f && treeOk f))
theorem own_validF {B n : Nat} (hB : B <= 1000000000) {f : Frame} (hn : B + 600 <= n) (hw : wid B 512 f.Tree.Kids) : checkpoint_validFrame n f = some (validF f) := by
 rw [checkpoint_validFrame, own_agent, Option.bind_some, validF]
 cases ha : agentOk f.Agent with
 | false => rfl
 | true =>
  rw [Bool.not_true, orB_d, Bool.false_or, ltI_d]
  by_cases hl : f.Sleep.length <= 2048
  ·rw [decide_eq_false (by omega), cond_false, decide_eq_true hl, Bool.true_and, Bool.true_and]
   have h := srch (L := checkpoint_validFrame_L1 f) (fun k x => onlyIf (badS f.Sleep f.Agent k x) false) (fun _ => rfl) f.Sleep 0 fun j x hx q => by
    have hj := getN_some hx
    rw [Nat.zero_add, checkpoint_validFrame_L1, own_agent, Option.bind_some]
    have e1 : (IntKind.i64.wrap ((j : Int) - 1)).toNat = j - 1 := by rw [wrap_i64 (by omega) (by omega)]; omega
    have e2 : orB (!(andB (!(orB (!agentOk x) (eqI x f.Agent))) (ltI 0 ((j : Nat) : Int)))) (inB (IntKind.i64.wrap (((j : Nat) : Int) - 1)) f.Sleep.length) = true := by
     rw [wrap_i64 (by omega) (by omega), orB_d, inB_d, andB_d, ltI_d]
     by_cases h0 : 0 < j
     ·rw [decide_eq_true (p := 0 <= (j : Int) - 1 /\ (j : Int) - 1 < (f.Sleep.length : Int)) (by omega), Bool.or_true]
     ·rw [decide_eq_false (p := 0 < ((j : Nat) : Int)) (by omega), Bool.and_false]; rfl
    rw [e2, guardO_t, e1]
    exact step_only _ _ _
   rw [first_only] at h
   rw [h]
   show Option.bind (Option.bind (some (toS (onlyIf (sleepBad f) false))) _) _ = _
   cases sleepBad f with
   | true => rfl
   | false =>
    simp only [onlyIf_f, toS_none, Option.bind_some]
    rw [show (512 : Int) = ((512 : Nat) : Int) from rfl, own_shal 512 n f.Tree (by omega) (by omega), Option.bind_some, treeOk]
    cases hs : shal 512 f.Tree.Kids with
    | false => rfl
    | true =>
     rw [own_wake hB hn hs hw]
     simp only [Option.isSome_some, Option.getD_some, orB_t, guardO_t, Bool.not_true]
     cases hk : wakeOk f.Tree with
     | false => rfl
     | true =>
      cases hK : f.Tree.Kids with
      | nil => rfl
      | cons x l =>
       have : eqI (((x :: l).length : Nat) : Int) 0 = false := by rw [eqI_d, decide_eq_false (by simp; omega)]
       rw [this]; rfl
  ·rw [decide_eq_true (by omega), decide_eq_false hl]; rfl
def validS (s : Snapshot) : Bool :=
 !(orB (orB (orB (orB (ltI s.Count 0) (ltI 1048576 s.Count)) (ltI s.Blocked 0)) (ltI 1048576 s.Blocked)) (ltI 512 ((s.Frames.length : Nat) : Int))) &&
  (!(andB (ltI 0 ((s.Frames.length : Nat) : Int)) (orB s.Done (eqI s.Count 0))) && s.Frames.all validF)
theorem own_valid {B n : Nat} (hB : B <= 1000000000) {s : Snapshot} (hn : B + 600 <= n) (hw : ∀ f ∈ s.Frames, wid B 512 f.Tree.Kids) : checkpoint_Valid n s = some (validS s) := by
 have h := srch (L := checkpoint_Valid_L1 n) (fun _ (f : Frame) => onlyIf (!validF f) false) (fun _ => rfl) s.Frames 0 fun j x hx q => by
  rw [checkpoint_Valid_L1, own_validF hB hn (hw x (List.mem_of_getElem? hx)), Option.bind_some]; exact step_only _ _ _
 rw [first_onlyC, any_not_all] at h
 rw [checkpoint_Valid, h, validS]
 cases orB (orB (orB (orB (ltI s.Count 0) (ltI 1048576 s.Count)) (ltI s.Blocked 0)) (ltI 1048576 s.Blocked)) (ltI 512 ((s.Frames.length : Nat) : Int)) <;> cases andB (ltI 0 ((s.Frames.length : Nat) : Int)) (orB s.Done (eqI s.Count 0)) <;> cases s.Frames.all validF <;> rfl
end Go.Dc.Pl
end
section
set_option linter.all false
namespace Go.Dc
open Go Go.Hw Go.Proofs
set_option maxRecDepth 100000
def frame_AppendInts_L1 (fuelN : Nat) (a0 : List UInt8) : List Int -> (List UInt8) -> Nat -> Option ((List UInt8) ⊕ (List UInt8))
 | [], l96, k97 => some (.inl l96)
 | x126 :: q122, l96, k97 => Option.bind (frame_inRange x126) (fun y129 => cond (!y129) (Option.bind (some ([a0])) (fun l132 => Option.bind (frame_join l132) (fun y134 => some (.inr y134)))) (Option.bind (frame_intBytes fuelN x126) (fun y136 => guardO (limB 1 (l96.length + y136.length)) (Option.bind (some (l96 ++ y136)) (fun l139 => frame_AppendInts_L1 fuelN a0 q122 l139 (k97 + 1))))))
def frame_AppendInts (fuelN : Nat) (a0 : List UInt8) (a1 : List Int) : Option (List UInt8) :=
 Option.bind (frame_uintBytes fuelN ((a1.length : Nat) : Int)) (fun y1 => Option.bind (some ([a0, y1])) (fun l3 => Option.bind (frame_join l3) (fun y5 => Option.bind (α := (List UInt8) ⊕ (List UInt8)) (Option.bind (frame_AppendInts_L1 fuelN a0 a1 y5 0) (fun o => match o with | .inl l115 => some (.inl l115) | .inr r141 => some (.inr r141))) (fun o => match o with | .inl l72 => some l72 | .inr r142 => some r142))))
set_option maxHeartbeats 2000000 in
theorem at_frame_AppendInts {fuelN : Nat} {a0 : List UInt8} {a1 : List Int} {r : (List UInt8)} (hs : frame_AppendInts fuelN a0 a1 = some r) : CAt Tryd.prog 33 [.cell (sC a0), .cell (sC a1)] [] (.ret (.cell (.sl (.r 0) 0 1 r.length))) [(.r 0, .pure (encL r))] := by
 refine at_bound (by kernel_rfl) fun hb => ?_
 have hb1 : LenOk (.sl a0.length (encL a0)) := lkc hb
 have hb2 : LenOk (.sl a1.length (encL a1)) := lkc hb
 refine at_code mixed Tryd.func33 (by kernel_rfl) rfl (by kernel_rfl) rfl fun Q hQ => ?_
 rw [frame_AppendInts] at hs
 refine goR f0 ?_
 revert hs; refine bK fun y1 hx2 hs => ?_
 refine cP f0 (at_frame_uintBytes hx2) ?_
 revert hs; refine lK fun l3 hx4 hs => ?_
 have hx4n : l3.length = 2 := by rw [hx4]; rfl
 refine goR hx4 ?_
 revert hs; refine bK fun y5 hx6 hs => ?_
 refine cA hx4 (at_frame_join hx6) ?_
 refine goR2 hx4 ?_
 revert hs; refine bK fun o74 e73 hs => ?_
 refine awp_cutK (fun (v : (List UInt8)) (σ : St) => some (.inl v) = some o74 /\ σ.env 5 = .cell (.sl (.l 2) 0 1 v.length) /\ σ.hp (.l 2) = some (.pure (encL v)) /\ 3 <= σ.gen) (by rfl) (fun Q hK75 hX76 => ?_) (fun l72 σ3 hp => ?_)
 ·refine goR hx4 ?_
  revert e73; refine bK fun o117 e116 e73 => ?_
  refine awp_loopW (fun (v : (List Int) × (List UInt8) × Nat) (σ : St) => frame_AppendInts_L1 fuelN a0 v.1 v.2.1 v.2.2 = some o117 /\ v.1 = a1.drop v.2.2 /\ σ.env 0 = .cell (sC a0) /\ σ.env 5 = .cell (.sl (.l 6) 0 1 v.2.1.length) /\ σ.env 14 = .cell (sC a1) /\ σ.env 15 = iV .i64 ((a1.length : Nat) : Int) /\ σ.env 16 = iV .i64 ((v.2.2 : Nat) : Int) /\ σ.hp (.l 6) = some (.pure (encL v.2.1)) /\ 3 <= σ.gen) (fun v => v.1.length) _ (Gh.ren _ (.o 2 5 0) (.l 6) (by simp) rfl rfl) (a1, y5, 0) ⟨e116, by simp, pv hx4, pv hx4, pv hx4, pv hx4, pv hx4, pv hx4, pg⟩ fun v σ6 hp L118 hL119 => ?_
  obtain ⟨q121, l96, k97⟩ := v
  dsimp only at hp hL119
  obtain ⟨e116, hd120, h5_0, h5_5, h5_14, h5_15, h5_16, g5_0, n5_g⟩ := hp
  rcases q121 with _ | ⟨x126, q122⟩
  ·have hlt123 := drop_end hd120
   rw [frame_AppendInts_L1] at e116; try dsimp only at e116
   have F1 := an h5_0 (an h5_5 (an h5_14 (an h5_15 (an h5_16 g5_0))))
   refine goR F1 ?_
   refine condK_f (by simp [ltI]; omega) ?_
   obtain rfl := sj e116
   try dsimp only at e73
   exact hK75 l96 _ _ (Gh.ren _ (.l 6) (.l 2) (by simp) rfl rfl) ⟨e73, pv F1, pv F1, pg⟩
  ·obtain ⟨hx125, hlt123, hd127⟩ := drop_next hd120
   have ew124 := wrap_succ hlt123 (hb2).len
   rw [frame_AppendInts_L1] at e116; try dsimp only at e116
   have F2 := an h5_0 (an h5_5 (an h5_14 (an h5_15 (an h5_16 (an g5_0 (an hlt123 ew124))))))
   refine goR F2 ?_
   refine condK_t (by simp [ltI]; omega) ?_
   have f128 : partCV Tryd.prog 3 (encL a1) (k97) = some (iV .i64 x126) := partCV_enc1 hx125 (by simp)
   have F3 := an F2 f128
   refine goR F3 ?_
   revert e116; refine bK fun y129 hx130 e116 => ?_
   refine cP F3 (at_frame_inRange hx130) ?_
   refine goR F3 ?_
   revert e116; refine cS F3 ?_ ?_ <;> intro h131 e116
   ·revert e116; refine lK fun l132 hx133 e116 => ?_
    have hx133n : l132.length = 1 := by rw [hx133]; rfl
    have F4 := an F3 hx133
    refine goR F4 ?_
    revert e116; refine bK fun y134 hx135 e116 => ?_
    refine cA F4 (at_frame_join hx135) ?_
    refine goR F4 ?_
    obtain rfl := sj e116
    try dsimp only at e73
    obtain rfl := sj e73
    try dsimp only at hs
    refine hX76 _ _ (by simp) ?_
    refine goR F4 ?_
    obtain rfl := sj hs
    refine hQ _ _ (ret2g _ (Gh.ren _ (.o (σ6.gen + 4) 2 0) (.r 0) (by simp) rfl rfl) (by simp [St.frz, St.pur, F4]; rfl) (by first | rfl | (simp [St.frz, St.pur, F4]; done) | (rw [if_pos (by first | omega | (simp; omega))]; simp [St.frz, St.pur, F4]; first | omega | exact List.take_of_length_le (by simp; omega) | skip)) (pv F4))
   ·refine goR F3 ?_
    revert e116; refine bK fun y136 hx137 e116 => ?_
    refine cP F3 (at_frame_intBytes hx137) ?_
    obtain ⟨g138, e116⟩ := guardO_some e116
    have g138 := limB_t g138
    obtain ⟨g138a, g138b⟩ := g138
    revert e116; refine lK fun l139 hx140 e116 => ?_
    have hx140n : l139.length = (l96.length + y136.length) := by rw [hx140]; simp
    have hx140e : encL l139 = encL l96 ++ encL y136 := by rw [hx140]; simp
    have F5 := an F3 (an hx140n hx140e)
    refine goR F5 ?_
    exact hL119 (q122, l139, (k97 + 1)) _ _ (Gh.ren _ (.o (σ6.gen + 4) 3 0) (.l 6) (by simp) rfl rfl) ⟨e116, hd127, pv F5, pv F5, pv F5, pv F5, pv F5, pv F5, pg⟩ (by simp)
 ·obtain ⟨e73, h4_5, g4_0, n4_g⟩ := hp
  obtain rfl := sj e73
  try dsimp only at hs
  have F6 := an h4_5 g4_0
  refine goR F6 ?_
  obtain rfl := sj hs
  refine hQ _ _ (ret2g _ (Gh.ren _ (.l 2) (.r 0) (by simp) rfl rfl) (by simp [St.frz, St.pur, F6]; rfl) (by first | rfl | (simp [St.frz, St.pur, F6]; done) | (rw [if_pos (by first | omega | (simp; omega))]; simp [St.frz, St.pur, F6]; first | omega | exact List.take_of_length_le (by simp; omega) | skip)) (pv F6))
end Go.Dc
end
section
set_option linter.all false
namespace Go.Dc
open Go Go.Hw Go.Proofs
set_option maxRecDepth 100000
def checkpoint_appendTree_L1 (fuelN : Nat) (rF34z : (List UInt8) -> Tree -> Option (List UInt8)) : List Tree -> (List UInt8) -> Nat -> Option (List UInt8)
 | [], l105, k106 => some (l105)
 | x131 :: q127, l105, k106 => Option.bind (frame_AppendInt fuelN l105 x131.Agent) (fun y138 => Option.bind (rF34z y138 x131) (fun y140 => checkpoint_appendTree_L1 fuelN rF34z q127 y140 (k106 + 1)))
def checkpoint_appendTree_B (rF34z : (List UInt8) -> Tree -> Option (List UInt8)) (fuelN : Nat) (a0 : List UInt8) (a1 : Tree) : Option (List UInt8) :=
 Option.bind (frame_AppendUint fuelN a0 ((a1.Kids.length : Nat) : Int)) (fun y1 => Option.bind (α := (List UInt8)) (Option.bind (checkpoint_appendTree_L1 fuelN rF34z a1.Kids y1 0) (fun l120 => some (l120))) (fun l70 => some l70))
def checkpoint_appendTree : Nat -> (List UInt8) -> Tree -> Option (List UInt8)
 | 0 => fun _ _ => none
 | fuelN + 1 => fun a0 a1 => checkpoint_appendTree_B (checkpoint_appendTree fuelN) fuelN a0 a1
set_option maxHeartbeats 2000000 in
theorem at_checkpoint_appendTree_B {rF34z : (List UInt8) -> Tree -> Option (List UInt8)} (ihrF34z : ∀ (a0 : List UInt8) (a1 : Tree) (r : (List UInt8)), rF34z a0 a1 = some r -> At Tryd.prog 34 [.cell (sC a0), .agg (eA a1)] (.cell (sC r))) {fuelN : Nat} {a0 : List UInt8} {a1 : Tree} {r : (List UInt8)} (hs : checkpoint_appendTree_B rF34z fuelN a0 a1 = some r) : At Tryd.prog 34 [.cell (sC a0), .agg (eA a1)] (.cell (sC r)) := by
 refine at_bound (by kernel_rfl) fun hb => ?_
 have hb1 : LenOk (.sl a0.length (encL a0)) := lkc hb
 have hb2 : LenOk (.sl a1.Kids.length (encL a1.Kids)) := lkc hb
 refine at_code mixed Tryd.func34 (by kernel_rfl) rfl (by kernel_rfl) rfl fun Q hQ => ?_
 rw [checkpoint_appendTree_B] at hs
 refine goR f0 ?_
 revert hs; refine bK fun y1 hx2 hs => ?_
 refine cA f0 (at_frame_AppendUint hx2) ?_
 refine goR2 f0 ?_
 revert hs; refine bK fun o72 e71 hs => ?_
 refine awp_cutK (fun (v : (List UInt8)) (σ : St) => some (v) = some o72 /\ σ.env 0 = .cell (sC v) /\ 3 <= σ.gen) (by rfl) (fun Q hK73 hX74 => ?_) (fun l70 σ3 hp => ?_)
 ·refine goR f0 ?_
  revert e71; refine bK fun o122 e121 e71 => ?_
  refine awp_loopW (fun (v : (List Tree) × (List UInt8) × Nat) (σ : St) => checkpoint_appendTree_L1 fuelN rF34z v.1 v.2.1 v.2.2 = some o122 /\ v.1 = a1.Kids.drop v.2.2 /\ σ.env 0 = .cell (sC v.2.1) /\ σ.env 13 = .cell (sC a1.Kids) /\ σ.env 14 = iV .i64 ((a1.Kids.length : Nat) : Int) /\ σ.env 15 = iV .i64 ((v.2.2 : Nat) : Int) /\ 3 <= σ.gen) (fun v => v.1.length) _ (Gh.frz _ (.o 2 4 0)) (a1.Kids, y1, 0) ⟨e121, by simp, pv f0, pv f0, pv f0, pv f0, pg⟩ fun v σ6 hp L123 hL124 => ?_
  obtain ⟨q126, l105, k106⟩ := v
  dsimp only at hp hL124
  obtain ⟨e121, hd125, h5_0, h5_13, h5_14, h5_15, n5_g⟩ := hp
  rcases q126 with _ | ⟨x131, q127⟩
  ·have hlt128 := drop_end hd125
   rw [checkpoint_appendTree_L1] at e121; try dsimp only at e121
   have F1 := an h5_0 (an h5_13 (an h5_14 h5_15))
   refine goR F1 ?_
   refine condK_f (by simp [ltI]; omega) ?_
   obtain rfl := sj e121
   try dsimp only at e71
   exact hK73 l105 _ _ (Gh.refl _) ⟨e71, pv F1, pg⟩
  ·obtain ⟨hx130, hlt128, hd132⟩ := drop_next hd125
   have ew129 := wrap_succ hlt128 (hb2).len
   rw [checkpoint_appendTree_L1] at e121; try dsimp only at e121
   have F2 := an h5_0 (an h5_13 (an h5_14 (an h5_15 (an hlt128 ew129))))
   refine goR F2 ?_
   refine condK_t (by simp [ltI]; omega) ?_
   have f133 : partCV Tryd.prog 77 (encL a1.Kids) (k106 * 2) = some (.agg (eA x131)) := partCV_enc hx130 (f := 0) (by simp)
   have F3 := an F2 f133
   refine goD F3 ?_
   revert e121; refine bK fun y138 hx139 e121 => ?_
   refine cA F3 (at_frame_AppendInt hx139) ?_
   refine goD F3 ?_
   revert e121; refine bK fun y140 hx141 e121 => ?_
   refine cA F3 (ihrF34z _ _ _ hx141) ?_
   refine goD F3 ?_
   exact hL124 (q127, y140, (k106 + 1)) _ _ (Gh.refl _) ⟨e121, hd132, pv F3, pv F3, pv F3, pv F3, pg⟩ (by simp)
 ·obtain ⟨e71, h4_0, n4_g⟩ := hp
  obtain rfl := sj e71
  try dsimp only at hs
  refine goR h4_0 ?_
  obtain rfl := sj hs
  exact hQ _ _ (rg h4_0 (Gh.refl _))
theorem at_checkpoint_appendTree : ∀ {fuelN : Nat} {a0 : List UInt8} {a1 : Tree} {r : (List UInt8)} (hs : checkpoint_appendTree fuelN a0 a1 = some r), At Tryd.prog 34 [.cell (sC a0), .agg (eA a1)] (.cell (sC r))
 | 0, _, _, _, hs => by rw [checkpoint_appendTree] at hs; cases hs
 | n + 1, _, _, _, hs => by
  rw [checkpoint_appendTree] at hs
  exact at_checkpoint_appendTree_B (fun _ _ _ h => at_checkpoint_appendTree h) hs
end Go.Dc
end
