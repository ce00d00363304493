/- Contracts of functions, by their numbers, and the laws that walk them. Conditions: as each states. -/
import Derived.Test.YtjbebaachciedaaDoorH4
import Derived.Test.YtjbebaachciedaaDoorH5
import Derived.KernelRfl
import Derived.Test.YtjbebaachciedaaDoorH3
import Derived.Test.YtjbebaachciedaaDoorRows
import Derived.LaidMore
import Derived.MakeChecks
set_option linter.all false
section
set_option linter.all false
namespace Go.Dc
open Go Go.Hw Go.Proofs
set_option maxRecDepth 100000

def checkpoint_rest_int_CheckpointDecoder (fuelN : Nat) (a0 : CheckpointDecoder) : Option (Int × CheckpointDecoder) :=
  cond (!(eqI a0.rest.err 0)) (some (0, a0)) (Option.bind (frame_Int fuelN a0.rest.bytes) (fun y2 => some (y2.1, { a0 with rest := ({ bytes := y2.2.1, err := y2.2.2 } : CheckpointRest) })))

set_option maxHeartbeats 2000000 in
theorem at_checkpoint_rest_int_CheckpointDecoder {fuelN : Nat} {a0 : CheckpointDecoder} {r : Int × CheckpointDecoder} (hs : checkpoint_rest_int_CheckpointDecoder fuelN a0 = some r) : CAt Tryd.prog 58 [.cell (.ref (.a 0) 0)] [.cells [sC a0.rest.bytes, nC a0.rest.err, nC a0.done, .own (.sp 4 a0.out.Frames.length (encL a0.out.Frames)), bC a0.out.Done, nC a0.out.Count, nC a0.out.Blocked]] (.ret (iV .i64 r.1)) [(.a 0, .cells [sC r.2.rest.bytes, nC r.2.rest.err, nC r.2.done, .own (.sp 4 r.2.out.Frames.length (encL r.2.out.Frames)), bC r.2.out.Done, nC r.2.out.Count, nC r.2.out.Blocked])] := by
  refine at_bound (by kernel_rfl) fun hb => ?_
  refine at_code mixed Tryd.func58 (by kernel_rfl) rfl (by kernel_rfl) rfl fun Q hQ => ?_
  rw [checkpoint_rest_int_CheckpointDecoder] at hs
  refine goR f0 ?_
  revert hs; refine cS f0 ?_ ?_ <;> intro h1 hs
  · refine goR f0 ?_
    obtain rfl := sj hs
    refine hQ _ _ (ret2g _ (Gh.refl _) (by simp [St.frz, St.pur]; rfl) (by first | rfl | (simp [St.frz, St.pur]; done) | (rw [if_pos (by first | omega | (simp; omega))]; simp [St.frz, St.pur]; first | omega | exact List.take_of_length_le (by simp; omega) | skip)) (pv f0))
  · refine goR f0 ?_
    revert hs; refine bK fun y2 hx3 hs => ?_
    refine cP f0 (at_frame_Int hx3) ?_
    refine goR f0 ?_
    obtain rfl := sj hs
    refine hQ _ _ (ret2g _ (Gh.refl _) (by simp [St.frz, St.pur]; rfl) (by first | rfl | (simp [St.frz, St.pur]; done) | (rw [if_pos (by first | omega | (simp; omega))]; simp [St.frz, St.pur]; first | omega | exact List.take_of_length_le (by simp; omega) | skip)) (pv f0))
end Go.Dc
end
section
set_option linter.all false
namespace Go.Dc
open Go Go.Hw Go.Proofs
set_option maxRecDepth 100000
def frame_Ints_L1 (fuelN : Nat) (y1 : Int × Int × Int) : Nat → (List UInt8) → (List Int) → Option (((List UInt8) × (List Int)) ⊕ ((List Int) × (List UInt8) × Int))
  | 0, _, _ => none
  | q81 + 1, l57, l58 => cond (ltI ((l58.length : Nat) : Int) y1.1) (Option.bind (frame_decodeInt fuelN l57) (fun y86 => cond (!(eqI y86.2.2 0)) (some (.inr ([], [], y86.2.2))) (Option.bind (some ([y86.1])) (fun l89 => guardO (limB 8 (l58.length + l89.length)) (Option.bind (some (l58 ++ l89)) (fun l92 => guardO (slB y86.2.1 (l57.length : Int) l57.length) (Option.bind (some (subL l57 y86.2.1 (l57.length : Int))) (fun l95 => frame_Ints_L1 fuelN y1 q81 l95 l92)))))))) (some (.inl (l57, l58)))

def frame_Ints (fuelN : Nat) (a0 : List UInt8) (a1 : Int) : Option ((List Int) × (List UInt8) × Int) :=
  Option.bind (frame_decode fuelN a0) (fun y1 => cond (!(eqI y1.2.2 0)) (some ([], [], y1.2.2)) (cond (ltI (if 0 > a1 then 0 else a1) y1.1) (some ([], [], 4)) (guardO (slB y1.2.1 (a0.length : Int) a0.length) (Option.bind (some (subL a0 y1.2.1 (a0.length : Int))) (fun l6 => Option.bind (α := ((List UInt8) × (List Int)) ⊕ ((List Int) × (List UInt8) × Int)) (Option.bind (frame_Ints_L1 fuelN y1 fuelN l6 []) (fun o => match o with | .inl (l73, l74) => some (.inl (l73, l74)) | .inr r98 => some (.inr r98))) (fun o => match o with | .inl (l51, l52) => Option.bind (some ([l51])) (fun l99 => Option.bind (frame_join l99) (fun y101 => some (l52, y101, 0))) | .inr r103 => some r103))))))

set_option maxHeartbeats 2000000 in
theorem at_frame_Ints {fuelN : Nat} {a0 : List UInt8} {a1 : Int} {r : (List Int) × (List UInt8) × Int} (hs : frame_Ints fuelN a0 a1 = some r) : At Tryd.prog 75 [.cell (sC a0), iV .i64 a1] (.tup [.cell (sC r.1), .cell (sC r.2.1), iV .i64 r.2.2]) := by
  refine at_bound (by kernel_rfl) fun hb => ?_
  have hb1 : LenOk (.sl a0.length (encL a0)) := lkc hb
  refine at_code mixed Tryd.func75 (by kernel_rfl) rfl (by kernel_rfl) rfl fun Q hQ => ?_
  rw [frame_Ints] at hs
  refine goR f0 ?_
  revert hs; refine bK fun y1 hx2 hs => ?_
  refine cP f0 (at_frame_decode hx2) ?_
  refine goR f0 ?_
  revert hs; refine cS f0 ?_ ?_ <;> intro h3 hs
  · refine goR f0 ?_
    obtain rfl := sj hs
    exact hQ _ _ (rg f0 (Gh.unz _))
  · refine goR f0 ?_
    revert hs; refine cS f0 ?_ ?_ <;> intro h4 hs
    · refine goR f0 ?_
      obtain rfl := sj hs
      exact hQ _ _ (rg f0 (Gh.unz _))
    · obtain ⟨g5, hs⟩ := guardO_some hs
      obtain ⟨g5a, g5b, g5c⟩ := slB_t g5
      revert hs; refine lK fun l6 hx7 hs => ?_
      have f8n : l6.length = ((a0.length : Int) - y1.2.1).toNat := by rw [hx7]; exact subL_len ⟨g5a, g5b, g5c⟩
      have f8e : ((encL a0).drop ((y1.2.1 : Int).toNat * 1)).take (((a0.length : Int) - y1.2.1).toNat * 1) = encL l6 := by rw [hx7]; exact subL_enc (α := UInt8)
      try simp at f8n
      try simp at f8e
      have f8o : LenOk (.sl l6.length (encL l6)) := by rw [hx7]; exact subL_ok hb1
      have F1 := an g5a (an g5b (an g5c (an f8n f8e)))
      refine goR2 F1 ?_
      revert hs; refine bK fun o54 e53 hs => ?_
      refine awp_cutK (fun (v : (List UInt8) × (List Int)) (σ : St) => some (.inl v) = some o54 ∧ σ.env 10 = .cell (sC v.1) ∧ σ.env 11 = .cell (.sl (.l 1) 0 1 v.2.length) ∧ σ.hp (.l 1) = some (.pure (encL v.2)) ∧ 6 ≤ σ.gen) (by rfl) (fun Q hK55 hX56 => ?_) (fun v σ3 hp => ?_)
      · refine goR F1 ?_
        revert e53; refine bK fun o76 e75 e53 => ?_
        refine awp_loopW (fun (v : Nat × (List UInt8) × (List Int)) (σ : St) => frame_Ints_L1 fuelN y1 v.1 v.2.1 v.2.2 = some o76 ∧ σ.env 7 = iV .i64 y1.1 ∧ σ.env 10 = .cell (sC v.2.1) ∧ σ.env 11 = .cell (.sl (.l 4) 0 1 v.2.2.length) ∧ σ.hp (.l 4) = some (.pure (encL v.2.2)) ∧ 6 ≤ σ.gen) (fun v => v.1) _ (Gh.void _ (.l 4) 11 1 rfl (by simp [F1])) (fuelN, l6, []) ⟨e75, pv F1, pv F1, pv F1, pv F1, pg⟩ fun v σ6 hp L77 hL78 => ?_
        obtain ⟨q80, l57, l58⟩ := v
        dsimp only at hp hL78
        obtain ⟨e75, h5_7, h5_10, h5_11, g5_0, n5_g⟩ := hp
        rcases q80 with _ | q81
        · rw [frame_Ints_L1] at e75; cases e75
        · rw [frame_Ints_L1] at e75; try dsimp only at e75
          have F2 := an h5_7 (an h5_10 (an h5_11 g5_0))
          refine goR F2 ?_
          revert e75; refine cS F2 ?_ ?_ <;> intro h85 e75
          · refine goR F2 ?_
            revert e75; refine bK fun y86 hx87 e75 => ?_
            refine cP F2 (at_frame_decodeInt hx87) ?_
            refine goR F2 ?_
            revert e75; refine cS F2 ?_ ?_ <;> intro h88 e75
            · refine goR F2 ?_
              obtain rfl := sj e75
              try dsimp only at e53
              obtain rfl := sj e53
              try dsimp only at hs
              refine hX56 _ _ (by simp) ?_
              refine goR F2 ?_
              obtain rfl := sj hs
              exact hQ _ _ (rg F2 (Gh.unz _))
            · revert e75; refine lK fun l89 hx90 e75 => ?_
              have hx90n : l89.length = 1 := by rw [hx90]; rfl
              obtain ⟨g91, e75⟩ := guardO_some e75
              have g91 := limB_t g91
              obtain ⟨g91a, g91b⟩ := g91
              revert e75; refine lK fun l92 hx93 e75 => ?_
              have hx93n : l92.length = (l58.length + l89.length) := by rw [hx93]; simp
              have hx93e : encL l92 = encL l58 ++ encL l89 := by rw [hx93]; simp
              obtain ⟨g94, e75⟩ := guardO_some e75
              obtain ⟨g94a, g94b, g94c⟩ := slB_t g94
              revert e75; refine lK fun l95 hx96 e75 => ?_
              have f97n : l95.length = ((l57.length : Int) - y86.2.1).toNat := by rw [hx96]; exact subL_len ⟨g94a, g94b, g94c⟩
              have f97e : ((encL l57).drop ((y86.2.1 : Int).toNat * 1)).take (((l57.length : Int) - y86.2.1).toNat * 1) = encL l95 := by rw [hx96]; exact subL_enc (α := UInt8)
              try simp at f97n
              try simp at f97e
              have F3 := an F2 (an hx90 (an hx93n (an hx93e (an g94a (an g94b (an g94c (an f97n f97e)))))))
              refine goR F3 ?_
              exact hL78 (q81, l95, l92) _ _ (Gh.ren _ (.o (σ6.gen + 4) 3 0) (.l 4) (by simp) rfl rfl) ⟨e75, pv F3, pv F3, pv F3, pv F3, pg⟩ (by omega)
          · refine goR F2 ?_
            obtain rfl := sj e75
            try dsimp only at e53
            exact hK55 (l57, l58) _ _ (Gh.ren _ (.l 4) (.l 1) (by simp) rfl rfl) ⟨e53, pv F2, pv F2, pv F2, pg⟩
      · obtain ⟨l51, l52⟩ := v
        dsimp only at hp
        obtain ⟨e53, h4_10, h4_11, g4_0, n4_g⟩ := hp
        obtain rfl := sj e53
        try dsimp only at hs
        revert hs; refine lK fun l99 hx100 hs => ?_
        have hx100n : l99.length = 1 := by rw [hx100]; rfl
        have F4 := an h4_10 (an h4_11 (an g4_0 hx100))
        refine goR F4 ?_
        revert hs; refine bK fun y101 hx102 hs => ?_
        refine cA F4 (at_frame_join hx102) ?_
        refine goR F4 ?_
        obtain rfl := sj hs
        exact hQ _ _ (rg F4 ((Gh.frz _ (.l 1)).trans (Gh.frz _ (.o (σ3.gen + 1) 3 0))))
end Go.Dc
end
section
set_option linter.all false
namespace Go.Dc
open Go Go.Hw Go.Proofs
set_option maxRecDepth 100000

def checkpoint_rest_ints_CheckpointDecoder (fuelN : Nat) (a0 : CheckpointDecoder) : Option ((List Int) × CheckpointDecoder) :=
  cond (!(eqI a0.rest.err 0)) (some ([], a0)) (Option.bind (frame_Ints fuelN a0.rest.bytes 2048) (fun y2 => some (y2.1, { a0 with rest := ({ bytes := y2.2.1, err := y2.2.2 } : CheckpointRest) })))

set_option maxHeartbeats 2000000 in
theorem at_checkpoint_rest_ints_CheckpointDecoder {fuelN : Nat} {a0 : CheckpointDecoder} {r : (List Int) × CheckpointDecoder} (hs : checkpoint_rest_ints_CheckpointDecoder fuelN a0 = some r) : CAt Tryd.prog 59 [.cell (.ref (.a 0) 0)] [.cells [sC a0.rest.bytes, nC a0.rest.err, nC a0.done, .own (.sp 4 a0.out.Frames.length (encL a0.out.Frames)), bC a0.out.Done, nC a0.out.Count, nC a0.out.Blocked]] (.ret (.cell (sC r.1))) [(.a 0, .cells [sC r.2.rest.bytes, nC r.2.rest.err, nC r.2.done, .own (.sp 4 r.2.out.Frames.length (encL r.2.out.Frames)), bC r.2.out.Done, nC r.2.out.Count, nC r.2.out.Blocked])] := by
  refine at_bound (by kernel_rfl) fun hb => ?_
  refine at_code mixed Tryd.func59 (by kernel_rfl) rfl (by kernel_rfl) rfl fun Q hQ => ?_
  rw [checkpoint_rest_ints_CheckpointDecoder] at hs
  refine goR f0 ?_
  revert hs; refine cS f0 ?_ ?_ <;> intro h1 hs
  · refine goR f0 ?_
    obtain rfl := sj hs
    refine hQ _ _ (ret2g _ (Gh.unz _) (by simp [St.frz, St.pur]; rfl) (by first | rfl | (simp [St.frz, St.pur]; done) | (rw [if_pos (by first | omega | (simp; omega))]; simp [St.frz, St.pur]; first | omega | exact List.take_of_length_le (by simp; omega) | skip)) (pv f0))
  · refine goR f0 ?_
    revert hs; refine bK fun y2 hx3 hs => ?_
    refine cP f0 (at_frame_Ints hx3) ?_
    refine goR f0 ?_
    obtain rfl := sj hs
    refine hQ _ _ (ret2g _ (Gh.refl _) (by simp [St.frz, St.pur]; rfl) (by first | rfl | (simp [St.frz, St.pur]; done) | (rw [if_pos (by first | omega | (simp; omega))]; simp [St.frz, St.pur]; first | omega | exact List.take_of_length_le (by simp; omega) | skip)) (pv f0))
end Go.Dc
end
section
set_option linter.all false
namespace Go.Dc
open Go Go.Hw Go.Proofs
set_option maxRecDepth 100000

def checkpoint_rest_uint (fuelN : Nat) (a0 : CheckpointRest) : Option (Int × CheckpointRest) :=
  cond (!(eqI a0.err 0)) (some (0, a0)) (Option.bind (frame_Uint fuelN a0.bytes) (fun y2 => some (y2.1, ({ bytes := y2.2.1, err := y2.2.2 } : CheckpointRest))))

end Go.Dc
end
section
set_option linter.all false
namespace Go.Dc
open Go Go.Hw Go.Proofs
set_option maxRecDepth 100000
def checkpoint_decoder_tree_L1 (fuelN : Nat) (a2 : Int) (y1 : Int × CheckpointDecoder) (rF60z : CheckpointDecoder → Tree → Int → Option (CheckpointDecoder × Tree)) : Nat → Int → (List UInt8) → Int → Int → (List Frame) → Bool → Int → Int → (List Tree) → Option ((List UInt8) × Int × Int × (List Frame) × Bool × Int × Int × (List Tree))
  | 0, _, _, _, _, _, _, _, _, _ => none
  | q240 + 1, i150, l151, i152, i153, l154, b155, i156, i157, l158 => cond (andB (ltI i150 y1.1) (eqI i152 0)) (Option.bind (α := (List UInt8) × Int × Int × (List Frame) × Bool × Int × Int × (List Tree)) (Option.bind (checkpoint_rest_int_CheckpointDecoder fuelN ({ rest := ({ bytes := l151, err := i152 } : CheckpointRest), done := i153, out := ({ Frames := l154, Done := b155, Count := i156, Blocked := i157 } : Snapshot) } : CheckpointDecoder)) (fun y282 => Option.bind (rF60z y282.2 ({ Agent := y282.1, Kids := ([] : List Tree) } : Tree) (IntKind.i64.wrap (a2 + 1))) (fun y284 => Option.bind (some ([y284.2])) (fun l302 => guardO (limB 32 (l158.length + l302.length)) (Option.bind (some (l158 ++ l302)) (fun l305 => some ((y284.1.rest.bytes, y284.1.rest.err, y284.1.done, y284.1.out.Frames, y284.1.out.Done, y284.1.out.Count, y284.1.out.Blocked, l305)))))))) (fun o => match o with | (l270, i271, i272, l273, b274, i275, i276, l277) => checkpoint_decoder_tree_L1 fuelN a2 y1 rF60z q240 (IntKind.i64.wrap (i150 + 1)) l270 i271 i272 l273 b274 i275 i276 l277)) (some ((l151, i152, i153, l154, b155, i156, i157, l158)))

def checkpoint_decoder_tree_B (rF60z : CheckpointDecoder → Tree → Int → Option (CheckpointDecoder × Tree)) (fuelN : Nat) (a0 : CheckpointDecoder) (a1 : Tree) (a2 : Int) : Option (CheckpointDecoder × Tree) :=
  Option.bind (checkpoint_rest_uint_CheckpointDecoder fuelN a0) (fun y1 => Option.bind (α := Int × (List Frame) × (List Tree)) (cond (andB (andB (eqI y1.2.rest.err 0) (ltI 0 y1.1)) (eqI a2 512)) (some ((3, y1.2.out.Frames, a1.Kids))) (some ((y1.2.rest.err, y1.2.out.Frames, a1.Kids)))) (fun o => match o with | (i4, l5, l6) => Option.bind (checkpoint_decoder_tree_L1 fuelN a2 y1 rF60z fuelN 0 y1.2.rest.bytes i4 y1.2.done l5 y1.2.out.Done y1.2.out.Count y1.2.out.Blocked l6) (fun o => match o with | (l226, i227, i228, l229, b230, i231, i232, l233) => some (({ rest := ({ bytes := l226, err := i227 } : CheckpointRest), done := i228, out := ({ Frames := l229, Done := b230, Count := i231, Blocked := i232 } : Snapshot) } : CheckpointDecoder), { a1 with Kids := l233 }))))

def checkpoint_decoder_tree : Nat → CheckpointDecoder → Tree → Int → Option (CheckpointDecoder × Tree)
  | 0 => fun _ _ _ => none
  | fuelN + 1 => fun a0 a1 a2 => checkpoint_decoder_tree_B (checkpoint_decoder_tree fuelN) fuelN a0 a1 a2

set_option maxHeartbeats 2000000 in
theorem at_checkpoint_decoder_tree_B {rF60z : CheckpointDecoder → Tree → Int → Option (CheckpointDecoder × Tree)} (ihrF60z : ∀ (a0 : CheckpointDecoder) (a1 : Tree) (a2 : Int) (r : CheckpointDecoder × Tree), rF60z a0 a1 a2 = some r → CAt Tryd.prog 60 [.cell (.ref (.a 0) 0), .cell (.ref (.a 1) 0), iV .i64 a2] [.cells [sC a0.rest.bytes, nC a0.rest.err, nC a0.done, .own (.sp 4 a0.out.Frames.length (encL a0.out.Frames)), bC a0.out.Done, nC a0.out.Count, nC a0.out.Blocked], .cells [nC a1.Agent, .own (.sp 2 a1.Kids.length (encL a1.Kids))]] (.ret (.tup [])) [(.a 0, .cells [sC r.1.rest.bytes, nC r.1.rest.err, nC r.1.done, .own (.sp 4 r.1.out.Frames.length (encL r.1.out.Frames)), bC r.1.out.Done, nC r.1.out.Count, nC r.1.out.Blocked]), (.a 1, .cells [nC r.2.Agent, .own (.sp 2 r.2.Kids.length (encL r.2.Kids))])]) {fuelN : Nat} {a0 : CheckpointDecoder} {a1 : Tree} {a2 : Int} {r : CheckpointDecoder × Tree} (hs : checkpoint_decoder_tree_B rF60z fuelN a0 a1 a2 = some r) : CAt Tryd.prog 60 [.cell (.ref (.a 0) 0), .cell (.ref (.a 1) 0), iV .i64 a2] [.cells [sC a0.rest.bytes, nC a0.rest.err, nC a0.done, .own (.sp 4 a0.out.Frames.length (encL a0.out.Frames)), bC a0.out.Done, nC a0.out.Count, nC a0.out.Blocked], .cells [nC a1.Agent, .own (.sp 2 a1.Kids.length (encL a1.Kids))]] (.ret (.tup [])) [(.a 0, .cells [sC r.1.rest.bytes, nC r.1.rest.err, nC r.1.done, .own (.sp 4 r.1.out.Frames.length (encL r.1.out.Frames)), bC r.1.out.Done, nC r.1.out.Count, nC r.1.out.Blocked]), (.a 1, .cells [nC r.2.Agent, .own (.sp 2 r.2.Kids.length (encL r.2.Kids))])] := by
  refine at_bound (by kernel_rfl) fun hb => ?_
  refine at_code mixed Tryd.func60 (by kernel_rfl) rfl (by kernel_rfl) rfl fun Q hQ => ?_
  rw [checkpoint_decoder_tree_B] at hs
  refine goR f0 ?_
  revert hs; refine bK fun y1 hx2 hs => ?_
  refine cB f0 (at_checkpoint_rest_uint_CheckpointDecoder hx2) [.a 0] ?_
  refine goG2 f0 f0 ?_
  revert hs; refine bK fun o8 e7 hs => ?_
  refine awp_cutK (fun (v : Int × (List Frame) × (List Tree)) (σ : St) => some (v) = some o8 ∧ σ.env 0 = .cell (.ref (.a 0) 0) ∧ σ.env 1 = .cell (.ref (.a 1) 0) ∧ σ.env 2 = iV .i64 a2 ∧ σ.env 6 = iV .i64 y1.1 ∧ σ.hp (.a 0) = some (.cells [sC y1.2.rest.bytes, nC v.1, nC y1.2.done, .own (.sp 4 v.2.1.length (encL v.2.1)), bC y1.2.out.Done, nC y1.2.out.Count, nC y1.2.out.Blocked]) ∧ σ.hp (.a 1) = some (.cells [nC a1.Agent, .own (.sp 2 v.2.2.length (encL v.2.2))]) ∧ 2 ≤ σ.gen) (by rfl) (fun Q hK9 hX10 => ?_) (fun v σ1 hp => ?_)
  · refine goG f0 f0 ?_
    revert e7; refine cS f0 ?_ ?_ <;> intro h11 e7
    · refine goG f0 f0 ?_
      exact hK9 (3, y1.2.out.Frames, a1.Kids) _ _ (Gh.refl _) ⟨e7, pv f0, pv f0, pv f0, pv f0, pv f0, pv f0, pg⟩
    · refine goG f0 f0 ?_
      exact hK9 (y1.2.rest.err, y1.2.out.Frames, a1.Kids) _ _ (Gh.refl _) ⟨e7, pv f0, pv f0, pv f0, pv f0, pv f0, pv f0, pg⟩
  · obtain ⟨i4, l5, l6⟩ := v
    dsimp only at hp
    obtain ⟨e7, h2_0, h2_1, h2_2, h2_6, g2_0, g2_1, n2_g⟩ := hp
    obtain rfl := sj e7
    try dsimp only at hs
    have F1 := an h2_0 (an h2_1 (an h2_2 (an h2_6 (an g2_0 g2_1))))
    refine goG F1 F1 ?_
    revert hs; refine bK fun o235 e234 hs => ?_
    refine awp_loopW (fun (v : Nat × Int × (List UInt8) × Int × Int × (List Frame) × Bool × Int × Int × (List Tree)) (σ : St) => checkpoint_decoder_tree_L1 fuelN a2 y1 rF60z v.1 v.2.1 v.2.2.1 v.2.2.2.1 v.2.2.2.2.1 v.2.2.2.2.2.1 v.2.2.2.2.2.2.1 v.2.2.2.2.2.2.2.1 v.2.2.2.2.2.2.2.2.1 v.2.2.2.2.2.2.2.2.2 = some o235 ∧ σ.env 0 = .cell (.ref (.a 0) 0) ∧ σ.env 1 = .cell (.ref (.a 1) 0) ∧ σ.env 2 = iV .i64 a2 ∧ σ.env 6 = iV .i64 y1.1 ∧ σ.env 7 = iV .i64 v.2.1 ∧ σ.hp (.a 0) = some (.cells [sC v.2.2.1, nC v.2.2.2.1, nC v.2.2.2.2.1, .own (.sp 4 v.2.2.2.2.2.1.length (encL v.2.2.2.2.2.1)), bC v.2.2.2.2.2.2.1, nC v.2.2.2.2.2.2.2.1, nC v.2.2.2.2.2.2.2.2.1]) ∧ σ.hp (.a 1) = some (.cells [nC a1.Agent, .own (.sp 2 v.2.2.2.2.2.2.2.2.2.length (encL v.2.2.2.2.2.2.2.2.2))]) ∧ (σ1.gen + 1) ≤ σ.gen) (fun v => v.1) _ (Gh.refl _) (fuelN, 0, y1.2.rest.bytes, i4, y1.2.done, l5, y1.2.out.Done, y1.2.out.Count, y1.2.out.Blocked, l6) ⟨e234, pv F1, pv F1, pv F1, pv F1, pv F1, pv F1, pv F1, pg⟩ fun v σ10 hp L236 hL237 => ?_
    obtain ⟨q239, i150, l151, i152, i153, l154, b155, i156, i157, l158⟩ := v
    dsimp only at hp hL237
    obtain ⟨e234, h9_0, h9_1, h9_2, h9_6, h9_7, g9_0, g9_1, n9_g⟩ := hp
    rcases q239 with _ | q240
    · rw [checkpoint_decoder_tree_L1] at e234; cases e234
    · rw [checkpoint_decoder_tree_L1] at e234; try dsimp only at e234
      have F2 := an h9_0 (an h9_1 (an h9_2 (an h9_6 (an h9_7 (an g9_0 g9_1)))))
      refine goG F2 F2 ?_
      revert e234; refine cS F2 ?_ ?_ <;> intro h244 e234
      · refine goG2 F2 F2 ?_
        revert e234; refine bK fun o279 e278 e234 => ?_
        refine awp_cutK (fun (v : (List UInt8) × Int × Int × (List Frame) × Bool × Int × Int × (List Tree)) (σ : St) => some (v) = some o279 ∧ σ.env 0 = .cell (.ref (.a 0) 0) ∧ σ.env 1 = .cell (.ref (.a 1) 0) ∧ σ.env 2 = iV .i64 a2 ∧ σ.env 6 = iV .i64 y1.1 ∧ σ.env 7 = iV .i64 i150 ∧ σ.hp (.a 0) = some (.cells [sC v.1, nC v.2.1, nC v.2.2.1, .own (.sp 4 v.2.2.2.1.length (encL v.2.2.2.1)), bC v.2.2.2.2.1, nC v.2.2.2.2.2.1, nC v.2.2.2.2.2.2.1]) ∧ σ.hp (.l 11) = some (.pure (encL v.2.2.2.2.2.2.2)) ∧ σ.hp (.a 1) = some (.cells [nC a1.Agent, .sl (.l 11) 0 2 v.2.2.2.2.2.2.2.length]) ∧ (σ10.gen + 1) ≤ σ.gen) (by rfl) (fun Q hK280 hX281 => ?_) (fun v σ11 hp => ?_)
        · refine goG F2 F2 ?_
          revert e278; refine bK fun y282 hx283 e278 => ?_
          refine cB F2 (at_checkpoint_rest_int_CheckpointDecoder hx283) [.a 0] ?_
          repeat (first | simp [F2] | with_reducible first | refine And.intro (by omega) ?_ | refine optF_if (by omega) ?_ | refine gsel_pure (by with_unfolding_all rfl) _ (fun hg => by (try simp at hg); first | (simp [hg, F2]; rfl) | (simp [F2]; simp only [if_pos hg]; simp [F2]; rfl)) ?_)
          refine awp_gh (by rfl) ((Gh.voidB _ (.l 12) (.o (σ10.gen + 2) 5 0) 1 2 rfl (by simp [F2]; rfl) (by first | rfl | simp) (by simp)).trans (Gh.close _ (.o (σ10.gen + 2) 5 0) 1)) ?_
          try simp only [St.frz, St.pur]
          refine goR F2 ?_
          revert e278; refine bK fun y284 hx285 e278 => ?_
          refine cB F2 (ihrF60z _ _ _ _ hx285) [.a 0, .o (σ10.gen + 2) 5 0] ?_
          refine goN F2 ?_
          refine awp_coin rfl (by kernel_rfl) (by kernel_rfl) (by kernel_rfl) (by kernel_rfl) (by kernel_rfl) (by kernel_rfl) (by simp) (by simp) (by simp) fun coin286 => ?_
          simp only [St.coin_eq]
          refine goR F2 ?_
          rcases coin286 with _ | _
          all_goals refine ⟨fun h => ?_, fun h => ?_⟩
          any_goals (cases h; done)
          · clear h
            refine goN F2 ?_
            refine awp_gh (by rfl) ((Gh.opn _ (.a 1) 1).trans (Gh.opn _ (.o (σ10.gen + 2) 5 0) 1)) ?_
            try simp only [St.frz, St.pur]
            revert e278; refine lK fun l302 hx303 e278 => ?_
            have hx303n : l302.length = 1 := by rw [hx303]; rfl
            obtain ⟨g304, e278⟩ := guardO_some e278
            have g304 := limB_t g304
            obtain ⟨g304a, g304b⟩ := g304
            revert e278; refine lK fun l305 hx306 e278 => ?_
            have hx306n : l305.length = (l158.length + l302.length) := by rw [hx306]; simp
            have hx306e : encL l305 = encL l158 ++ encL l302 := by rw [hx306]; simp
            have F3 := an F2 (an hx303 (an hx306n hx306e))
            refine goD F3 ?_
            exact hK280 (y284.1.rest.bytes, y284.1.rest.err, y284.1.done, y284.1.out.Frames, y284.1.out.Done, y284.1.out.Count, y284.1.out.Blocked, l305) _ _ ((Gh.frz _ (.o (σ10.gen + 6) 0 1)).trans ((Gh.pur _ (.o (σ10.gen + 7) 6 0)).trans ((Gh.pur _ (.o (σ10.gen + 7) 7 0)).trans (Gh.ren _ (.o (σ10.gen + 7) 7 0) (.l 11) (by simp) rfl rfl)))) ⟨e278, pv F3, pv F3, pv F3, pv F3, pv F3, pv F3, pv F3, pv F3, pg⟩
          · clear h
            replace e278 := (show (Option.bind (some ([y284.2])) (fun l302 => guardO (limB 32 (l158.length + l302.length)) (Option.bind (some (l158 ++ l302)) (fun l305 => some ((y284.1.rest.bytes, y284.1.rest.err, y284.1.done, y284.1.out.Frames, y284.1.out.Done, y284.1.out.Count, y284.1.out.Blocked, l305)))))) = _ → (Option.bind (some ([({ Agent := 0, Kids := [] } : Tree)])) (fun l287 => guardO (limB 32 (l158.length + l287.length)) (Option.bind (some (l158 ++ l287)) (fun l290 => Option.bind (l290[l158.length]?) (fun x292 => Option.bind (some (l290.set l158.length y284.2)) (fun l294 => some ((y284.1.rest.bytes, y284.1.rest.err, y284.1.done, y284.1.out.Frames, y284.1.out.Done, y284.1.out.Count, y284.1.out.Blocked, l294)))))))) = _ from fun h => by simp only [Option.bind_some, coin_get, coin_set] at h ⊢; exact h) e278
            revert e278; refine lK fun l287 hx288 e278 => ?_
            have hx288n : l287.length = 1 := by rw [hx288]; rfl
            obtain ⟨g289, e278⟩ := guardO_some e278
            have g289 := limB_t g289
            obtain ⟨g289a, g289b⟩ := g289
            revert e278; refine lK fun l290 hx291 e278 => ?_
            have hx291n : l290.length = (l158.length + l287.length) := by rw [hx291]; simp
            have hx291e : encL l290 = encL l158 ++ encL l287 := by rw [hx291]; simp
            have F4 := an F2 (an hx288 (an hx291n hx291e))
            refine goN F4 ?_
            refine awp_reg ?_
            refine goN F4 ?_
            refine awp_gh (by rfl) ((Gh.opn _ (.o (σ10.gen + 2) 5 0) 1).trans (Gh.frz _ (.o (σ10.gen + 6) 0 1))) ?_
            try simp only [St.frz, St.pur]
            revert e278; refine bK fun x292 hx293 e278 => ?_
            have hx293b := getN_some hx293
            revert e278; refine lK fun l294 hx295 e278 => ?_
            have f296 : setRun (encL l290) (l158.length * 2) [.c (.int .i64 y284.2.Agent), .sl y284.2.Kids.length (encL y284.2.Kids)] = encL l294 := hx295 ▸ setRun_enc hx293 (f := 0) (by simp) (by simp [setRun])
            simp only [setRun] at f296
            have f296z := f296
            try simp [F4] at f296z
            have f296n : l294.length = l290.length := by rw [hx295]; simp
            have F5 := an F4 (an f296z (an f296 f296n))
            refine goR F5 ?_
            exact hK280 (y284.1.rest.bytes, y284.1.rest.err, y284.1.done, y284.1.out.Frames, y284.1.out.Done, y284.1.out.Count, y284.1.out.Blocked, l294) _ _ (Gh.ren _ (.o (σ10.gen + 5) 6 0) (.l 11) (by simp) rfl rfl) ⟨e278, pv F5, pv F5, pv F5, pv F5, pv F5, pv F5, pv F5, pv F5, pg⟩
        · obtain ⟨l270, i271, i272, l273, b274, i275, i276, l277⟩ := v
          dsimp only at hp
          obtain ⟨e278, h12_0, h12_1, h12_2, h12_6, h12_7, g12_0, g12_1, g12_2, n12_g⟩ := hp
          obtain rfl := sj e278
          try dsimp only at e234
          have F6 := an h12_0 (an h12_1 (an h12_2 (an h12_6 (an h12_7 (an g12_0 (an g12_1 g12_2))))))
          refine goG F6 F6 ?_
          exact hL237 (q240, IntKind.i64.wrap (i150 + 1), l270, i271, i272, l273, b274, i275, i276, l277) _ _ (Gh.close _ (.a 1) 1) ⟨e234, pv F6, pv F6, pv F6, pv F6, pv F6, pv F6, pv F6, pg⟩ (by omega)
      · refine goG F2 F2 ?_
        obtain rfl := sj e234
        try dsimp only at hs
        obtain rfl := sj hs
        refine hQ _ _ (ret2g _ (Gh.refl _) (by simp [St.frz, St.pur, F2]; rfl) (by first | rfl | (simp [St.frz, St.pur, F2]; done) | (rw [if_pos (by first | omega | (simp; omega))]; simp [St.frz, St.pur, F2]; first | omega | exact List.take_of_length_le (by simp; omega) | skip)) (pv F2))
theorem at_checkpoint_decoder_tree : ∀ {fuelN : Nat} {a0 : CheckpointDecoder} {a1 : Tree} {a2 : Int} {r : CheckpointDecoder × Tree} (hs : checkpoint_decoder_tree fuelN a0 a1 a2 = some r), CAt Tryd.prog 60 [.cell (.ref (.a 0) 0), .cell (.ref (.a 1) 0), iV .i64 a2] [.cells [sC a0.rest.bytes, nC a0.rest.err, nC a0.done, .own (.sp 4 a0.out.Frames.length (encL a0.out.Frames)), bC a0.out.Done, nC a0.out.Count, nC a0.out.Blocked], .cells [nC a1.Agent, .own (.sp 2 a1.Kids.length (encL a1.Kids))]] (.ret (.tup [])) [(.a 0, .cells [sC r.1.rest.bytes, nC r.1.rest.err, nC r.1.done, .own (.sp 4 r.1.out.Frames.length (encL r.1.out.Frames)), bC r.1.out.Done, nC r.1.out.Count, nC r.1.out.Blocked]), (.a 1, .cells [nC r.2.Agent, .own (.sp 2 r.2.Kids.length (encL r.2.Kids))])]
  | 0, _, _, _, _, hs => by rw [checkpoint_decoder_tree] at hs; cases hs
  | n + 1, _, _, _, _, hs => by
    rw [checkpoint_decoder_tree] at hs
    exact at_checkpoint_decoder_tree_B (fun _ _ _ _ h => at_checkpoint_decoder_tree h) hs
end Go.Dc
end
section
set_option linter.all false
namespace Go.Dc
open Go Go.Hw Go.Proofs
set_option maxRecDepth 100000
def checkpoint_decoder_tree_Frame2_L1 (fuelN : Nat) (a2 : Int) (y1 : Int × CheckpointDecoder) : Nat → Int → (List UInt8) → Int → Int → (List Frame) → Bool → Int → Int → (List Tree) → Option ((List UInt8) × Int × Int × (List Frame) × Bool × Int × Int × (List Tree))
  | 0, _, _, _, _, _, _, _, _, _ => none
  | q240 + 1, i150, l151, i152, i153, l154, b155, i156, i157, l158 => cond (andB (ltI i150 y1.1) (eqI i152 0)) (Option.bind (α := (List UInt8) × Int × Int × (List Frame) × Bool × Int × Int × (List Tree)) (Option.bind (checkpoint_rest_int_CheckpointDecoder fuelN ({ rest := ({ bytes := l151, err := i152 } : CheckpointRest), done := i153, out := ({ Frames := l154, Done := b155, Count := i156, Blocked := i157 } : Snapshot) } : CheckpointDecoder)) (fun y282 => Option.bind (checkpoint_decoder_tree fuelN y282.2 ({ Agent := y282.1, Kids := ([] : List Tree) } : Tree) (IntKind.i64.wrap (a2 + 1))) (fun y284 => Option.bind (some ([y284.2])) (fun l302 => guardO (limB 32 (l158.length + l302.length)) (Option.bind (some (l158 ++ l302)) (fun l305 => some ((y284.1.rest.bytes, y284.1.rest.err, y284.1.done, y284.1.out.Frames, y284.1.out.Done, y284.1.out.Count, y284.1.out.Blocked, l305)))))))) (fun o => match o with | (l270, i271, i272, l273, b274, i275, i276, l277) => checkpoint_decoder_tree_Frame2_L1 fuelN a2 y1 q240 (IntKind.i64.wrap (i150 + 1)) l270 i271 i272 l273 b274 i275 i276 l277)) (some ((l151, i152, i153, l154, b155, i156, i157, l158)))

def checkpoint_decoder_tree_Frame2 (fuelN : Nat) (a0 : CheckpointDecoder) (a1 : Frame) (a2 : Int) : Option (CheckpointDecoder × Frame) :=
  Option.bind (checkpoint_rest_uint_CheckpointDecoder fuelN a0) (fun y1 => Option.bind (α := Int × (List Frame) × (List Tree)) (cond (andB (andB (eqI y1.2.rest.err 0) (ltI 0 y1.1)) (eqI a2 512)) (some ((3, y1.2.out.Frames, a1.Tree.Kids))) (some ((y1.2.rest.err, y1.2.out.Frames, a1.Tree.Kids)))) (fun o => match o with | (i4, l5, l6) => Option.bind (checkpoint_decoder_tree_Frame2_L1 fuelN a2 y1 fuelN 0 y1.2.rest.bytes i4 y1.2.done l5 y1.2.out.Done y1.2.out.Count y1.2.out.Blocked l6) (fun o => match o with | (l226, i227, i228, l229, b230, i231, i232, l233) => some (({ rest := ({ bytes := l226, err := i227 } : CheckpointRest), done := i228, out := ({ Frames := l229, Done := b230, Count := i231, Blocked := i232 } : Snapshot) } : CheckpointDecoder), { a1 with Tree := ({ Agent := a1.Tree.Agent, Kids := l233 } : Tree) }))))

set_option maxHeartbeats 2000000 in
theorem at_checkpoint_decoder_tree_Frame2 {fuelN : Nat} {a0 : CheckpointDecoder} {a1 : Frame} {a2 : Int} {r : CheckpointDecoder × Frame} (hs : checkpoint_decoder_tree_Frame2 fuelN a0 a1 a2 = some r) : CAt Tryd.prog 60 [.cell (.ref (.a 0) 0), .cell (.ref (.a 1) 2), iV .i64 a2] [.cells [sC a0.rest.bytes, nC a0.rest.err, nC a0.done, .own (.sp 4 a0.out.Frames.length (encL a0.out.Frames)), bC a0.out.Done, nC a0.out.Count, nC a0.out.Blocked], .cells [nC a1.Agent, sC a1.Sleep, nC a1.Tree.Agent, .own (.sp 2 a1.Tree.Kids.length (encL a1.Tree.Kids))]] (.ret (.tup [])) [(.a 0, .cells [sC r.1.rest.bytes, nC r.1.rest.err, nC r.1.done, .own (.sp 4 r.1.out.Frames.length (encL r.1.out.Frames)), bC r.1.out.Done, nC r.1.out.Count, nC r.1.out.Blocked]), (.a 1, .cells [nC r.2.Agent, sC r.2.Sleep, nC r.2.Tree.Agent, .own (.sp 2 r.2.Tree.Kids.length (encL r.2.Tree.Kids))])] := by
  refine at_bound (by kernel_rfl) fun hb => ?_
  refine at_code mixed Tryd.func60 (by kernel_rfl) rfl (by kernel_rfl) rfl fun Q hQ => ?_
  rw [checkpoint_decoder_tree_Frame2] at hs
  refine goR f0 ?_
  revert hs; refine bK fun y1 hx2 hs => ?_
  refine cB f0 (at_checkpoint_rest_uint_CheckpointDecoder hx2) [.a 0] ?_
  refine goG2 f0 f0 ?_
  revert hs; refine bK fun o8 e7 hs => ?_
  refine awp_cutK (fun (v : Int × (List Frame) × (List Tree)) (σ : St) => some (v) = some o8 ∧ σ.env 0 = .cell (.ref (.a 0) 0) ∧ σ.env 1 = .cell (.ref (.a 1) 2) ∧ σ.env 2 = iV .i64 a2 ∧ σ.env 6 = iV .i64 y1.1 ∧ σ.hp (.a 0) = some (.cells [sC y1.2.rest.bytes, nC v.1, nC y1.2.done, .own (.sp 4 v.2.1.length (encL v.2.1)), bC y1.2.out.Done, nC y1.2.out.Count, nC y1.2.out.Blocked]) ∧ σ.hp (.a 1) = some (.cells [nC a1.Agent, sC a1.Sleep, nC a1.Tree.Agent, .own (.sp 2 v.2.2.length (encL v.2.2))]) ∧ 2 ≤ σ.gen) (by rfl) (fun Q hK9 hX10 => ?_) (fun v σ1 hp => ?_)
  · refine goG f0 f0 ?_
    revert e7; refine cS f0 ?_ ?_ <;> intro h11 e7
    · refine goG f0 f0 ?_
      exact hK9 (3, y1.2.out.Frames, a1.Tree.Kids) _ _ (Gh.refl _) ⟨e7, pv f0, pv f0, pv f0, pv f0, pv f0, pv f0, pg⟩
    · refine goG f0 f0 ?_
      exact hK9 (y1.2.rest.err, y1.2.out.Frames, a1.Tree.Kids) _ _ (Gh.refl _) ⟨e7, pv f0, pv f0, pv f0, pv f0, pv f0, pv f0, pg⟩
  · obtain ⟨i4, l5, l6⟩ := v
    dsimp only at hp
    obtain ⟨e7, h2_0, h2_1, h2_2, h2_6, g2_0, g2_1, n2_g⟩ := hp
    obtain rfl := sj e7
    try dsimp only at hs
    have F1 := an h2_0 (an h2_1 (an h2_2 (an h2_6 (an g2_0 g2_1))))
    refine goG F1 F1 ?_
    revert hs; refine bK fun o235 e234 hs => ?_
    refine awp_loopW (fun (v : Nat × Int × (List UInt8) × Int × Int × (List Frame) × Bool × Int × Int × (List Tree)) (σ : St) => checkpoint_decoder_tree_Frame2_L1 fuelN a2 y1 v.1 v.2.1 v.2.2.1 v.2.2.2.1 v.2.2.2.2.1 v.2.2.2.2.2.1 v.2.2.2.2.2.2.1 v.2.2.2.2.2.2.2.1 v.2.2.2.2.2.2.2.2.1 v.2.2.2.2.2.2.2.2.2 = some o235 ∧ σ.env 0 = .cell (.ref (.a 0) 0) ∧ σ.env 1 = .cell (.ref (.a 1) 2) ∧ σ.env 2 = iV .i64 a2 ∧ σ.env 6 = iV .i64 y1.1 ∧ σ.env 7 = iV .i64 v.2.1 ∧ σ.hp (.a 0) = some (.cells [sC v.2.2.1, nC v.2.2.2.1, nC v.2.2.2.2.1, .own (.sp 4 v.2.2.2.2.2.1.length (encL v.2.2.2.2.2.1)), bC v.2.2.2.2.2.2.1, nC v.2.2.2.2.2.2.2.1, nC v.2.2.2.2.2.2.2.2.1]) ∧ σ.hp (.a 1) = some (.cells [nC a1.Agent, sC a1.Sleep, nC a1.Tree.Agent, .own (.sp 2 v.2.2.2.2.2.2.2.2.2.length (encL v.2.2.2.2.2.2.2.2.2))]) ∧ (σ1.gen + 1) ≤ σ.gen) (fun v => v.1) _ (Gh.refl _) (fuelN, 0, y1.2.rest.bytes, i4, y1.2.done, l5, y1.2.out.Done, y1.2.out.Count, y1.2.out.Blocked, l6) ⟨e234, pv F1, pv F1, pv F1, pv F1, pv F1, pv F1, pv F1, pg⟩ fun v σ10 hp L236 hL237 => ?_
    obtain ⟨q239, i150, l151, i152, i153, l154, b155, i156, i157, l158⟩ := v
    dsimp only at hp hL237
    obtain ⟨e234, h9_0, h9_1, h9_2, h9_6, h9_7, g9_0, g9_1, n9_g⟩ := hp
    rcases q239 with _ | q240
    · rw [checkpoint_decoder_tree_Frame2_L1] at e234; cases e234
    · rw [checkpoint_decoder_tree_Frame2_L1] at e234; try dsimp only at e234
      have F2 := an h9_0 (an h9_1 (an h9_2 (an h9_6 (an h9_7 (an g9_0 g9_1)))))
      refine goG F2 F2 ?_
      revert e234; refine cS F2 ?_ ?_ <;> intro h244 e234
      · refine goG2 F2 F2 ?_
        revert e234; refine bK fun o279 e278 e234 => ?_
        refine awp_cutK (fun (v : (List UInt8) × Int × Int × (List Frame) × Bool × Int × Int × (List Tree)) (σ : St) => some (v) = some o279 ∧ σ.env 0 = .cell (.ref (.a 0) 0) ∧ σ.env 1 = .cell (.ref (.a 1) 2) ∧ σ.env 2 = iV .i64 a2 ∧ σ.env 6 = iV .i64 y1.1 ∧ σ.env 7 = iV .i64 i150 ∧ σ.hp (.a 0) = some (.cells [sC v.1, nC v.2.1, nC v.2.2.1, .own (.sp 4 v.2.2.2.1.length (encL v.2.2.2.1)), bC v.2.2.2.2.1, nC v.2.2.2.2.2.1, nC v.2.2.2.2.2.2.1]) ∧ σ.hp (.l 11) = some (.pure (encL v.2.2.2.2.2.2.2)) ∧ σ.hp (.a 1) = some (.cells [nC a1.Agent, sC a1.Sleep, nC a1.Tree.Agent, .sl (.l 11) 0 2 v.2.2.2.2.2.2.2.length]) ∧ (σ10.gen + 1) ≤ σ.gen) (by rfl) (fun Q hK280 hX281 => ?_) (fun v σ11 hp => ?_)
        · refine goG F2 F2 ?_
          revert e278; refine bK fun y282 hx283 e278 => ?_
          refine cB F2 (at_checkpoint_rest_int_CheckpointDecoder hx283) [.a 0] ?_
          repeat (first | simp [F2] | with_reducible first | refine And.intro (by omega) ?_ | refine optF_if (by omega) ?_ | refine gsel_pure (by with_unfolding_all rfl) _ (fun hg => by (try simp at hg); first | (simp [hg, F2]; rfl) | (simp [F2]; simp only [if_pos hg]; simp [F2]; rfl)) ?_)
          refine awp_gh (by rfl) ((Gh.voidB _ (.l 12) (.o (σ10.gen + 2) 5 0) 1 2 rfl (by simp [F2]; rfl) (by first | rfl | simp) (by simp)).trans (Gh.close _ (.o (σ10.gen + 2) 5 0) 1)) ?_
          try simp only [St.frz, St.pur]
          refine goR F2 ?_
          revert e278; refine bK fun y284 hx285 e278 => ?_
          refine cB F2 (at_checkpoint_decoder_tree hx285) [.a 0, .o (σ10.gen + 2) 5 0] ?_
          refine goN F2 ?_
          refine awp_coin rfl (by kernel_rfl) (by kernel_rfl) (by kernel_rfl) (by kernel_rfl) (by kernel_rfl) (by kernel_rfl) (by simp) (by simp) (by simp) fun coin286 => ?_
          simp only [St.coin_eq]
          refine goR F2 ?_
          rcases coin286 with _ | _
          all_goals refine ⟨fun h => ?_, fun h => ?_⟩
          any_goals (cases h; done)
          · clear h
            refine goN F2 ?_
            refine awp_gh (by rfl) ((Gh.opn _ (.a 1) 3).trans (Gh.opn _ (.o (σ10.gen + 2) 5 0) 1)) ?_
            try simp only [St.frz, St.pur]
            revert e278; refine lK fun l302 hx303 e278 => ?_
            have hx303n : l302.length = 1 := by rw [hx303]; rfl
            obtain ⟨g304, e278⟩ := guardO_some e278
            have g304 := limB_t g304
            obtain ⟨g304a, g304b⟩ := g304
            revert e278; refine lK fun l305 hx306 e278 => ?_
            have hx306n : l305.length = (l158.length + l302.length) := by rw [hx306]; simp
            have hx306e : encL l305 = encL l158 ++ encL l302 := by rw [hx306]; simp
            have F3 := an F2 (an hx303 (an hx306n hx306e))
            refine goD F3 ?_
            exact hK280 (y284.1.rest.bytes, y284.1.rest.err, y284.1.done, y284.1.out.Frames, y284.1.out.Done, y284.1.out.Count, y284.1.out.Blocked, l305) _ _ ((Gh.frz _ (.o (σ10.gen + 6) 0 1)).trans ((Gh.pur _ (.o (σ10.gen + 7) 6 0)).trans ((Gh.pur _ (.o (σ10.gen + 7) 7 0)).trans (Gh.ren _ (.o (σ10.gen + 7) 7 0) (.l 11) (by simp) rfl rfl)))) ⟨e278, pv F3, pv F3, pv F3, pv F3, pv F3, pv F3, pv F3, pv F3, pg⟩
          · clear h
            replace e278 := (show (Option.bind (some ([y284.2])) (fun l302 => guardO (limB 32 (l158.length + l302.length)) (Option.bind (some (l158 ++ l302)) (fun l305 => some ((y284.1.rest.bytes, y284.1.rest.err, y284.1.done, y284.1.out.Frames, y284.1.out.Done, y284.1.out.Count, y284.1.out.Blocked, l305)))))) = _ → (Option.bind (some ([({ Agent := 0, Kids := [] } : Tree)])) (fun l287 => guardO (limB 32 (l158.length + l287.length)) (Option.bind (some (l158 ++ l287)) (fun l290 => Option.bind (l290[l158.length]?) (fun x292 => Option.bind (some (l290.set l158.length y284.2)) (fun l294 => some ((y284.1.rest.bytes, y284.1.rest.err, y284.1.done, y284.1.out.Frames, y284.1.out.Done, y284.1.out.Count, y284.1.out.Blocked, l294)))))))) = _ from fun h => by simp only [Option.bind_some, coin_get, coin_set] at h ⊢; exact h) e278
            revert e278; refine lK fun l287 hx288 e278 => ?_
            have hx288n : l287.length = 1 := by rw [hx288]; rfl
            obtain ⟨g289, e278⟩ := guardO_some e278
            have g289 := limB_t g289
            obtain ⟨g289a, g289b⟩ := g289
            revert e278; refine lK fun l290 hx291 e278 => ?_
            have hx291n : l290.length = (l158.length + l287.length) := by rw [hx291]; simp
            have hx291e : encL l290 = encL l158 ++ encL l287 := by rw [hx291]; simp
            have F4 := an F2 (an hx288 (an hx291n hx291e))
            refine goN F4 ?_
            refine awp_reg ?_
            refine goN F4 ?_
            refine awp_gh (by rfl) ((Gh.opn _ (.o (σ10.gen + 2) 5 0) 1).trans (Gh.frz _ (.o (σ10.gen + 6) 0 1))) ?_
            try simp only [St.frz, St.pur]
            revert e278; refine bK fun x292 hx293 e278 => ?_
            have hx293b := getN_some hx293
            revert e278; refine lK fun l294 hx295 e278 => ?_
            have f296 : setRun (encL l290) (l158.length * 2) [.c (.int .i64 y284.2.Agent), .sl y284.2.Kids.length (encL y284.2.Kids)] = encL l294 := hx295 ▸ setRun_enc hx293 (f := 0) (by simp) (by simp [setRun])
            simp only [setRun] at f296
            have f296z := f296
            try simp [F4] at f296z
            have f296n : l294.length = l290.length := by rw [hx295]; simp
            have F5 := an F4 (an f296z (an f296 f296n))
            refine goR F5 ?_
            exact hK280 (y284.1.rest.bytes, y284.1.rest.err, y284.1.done, y284.1.out.Frames, y284.1.out.Done, y284.1.out.Count, y284.1.out.Blocked, l294) _ _ (Gh.ren _ (.o (σ10.gen + 5) 6 0) (.l 11) (by simp) rfl rfl) ⟨e278, pv F5, pv F5, pv F5, pv F5, pv F5, pv F5, pv F5, pv F5, pg⟩
        · obtain ⟨l270, i271, i272, l273, b274, i275, i276, l277⟩ := v
          dsimp only at hp
          obtain ⟨e278, h12_0, h12_1, h12_2, h12_6, h12_7, g12_0, g12_1, g12_2, n12_g⟩ := hp
          obtain rfl := sj e278
          try dsimp only at e234
          have F6 := an h12_0 (an h12_1 (an h12_2 (an h12_6 (an h12_7 (an g12_0 (an g12_1 g12_2))))))
          refine goG F6 F6 ?_
          exact hL237 (q240, IntKind.i64.wrap (i150 + 1), l270, i271, i272, l273, b274, i275, i276, l277) _ _ (Gh.close _ (.a 1) 3) ⟨e234, pv F6, pv F6, pv F6, pv F6, pv F6, pv F6, pv F6, pg⟩ (by omega)
      · refine goG F2 F2 ?_
        obtain rfl := sj e234
        try dsimp only at hs
        obtain rfl := sj hs
        refine hQ _ _ (ret2g _ (Gh.refl _) (by simp [St.frz, St.pur, F2]; rfl) (by first | rfl | (simp [St.frz, St.pur, F2]; done) | (rw [if_pos (by first | omega | (simp; omega))]; simp [St.frz, St.pur, F2]; first | omega | exact List.take_of_length_le (by simp; omega) | skip)) (pv F2))
end Go.Dc
end
section
set_option linter.all false
namespace Go.Dc
open Go Go.Hw Go.Proofs
set_option maxRecDepth 100000
def checkpoint_decoder_snapshot_L1 (fuelN : Nat) (y7 : Int × CheckpointDecoder) : Nat → Int → (List UInt8) → Int → Int → (List Frame) → Bool → Int → Int → Option ((List UInt8) × Int × Int × (List Frame) × Bool × Int × Int)
  | 0, _, _, _, _, _, _, _, _ => none
  | q108 + 1, i65, l66, i67, i68, l69, b70, i71, i72 => cond (andB (ltI i65 y7.1) (eqI i67 0)) (Option.bind (checkpoint_rest_int_CheckpointDecoder fuelN ({ rest := ({ bytes := l66, err := i67 } : CheckpointRest), done := i68, out := ({ Frames := l69, Done := b70, Count := i71, Blocked := i72 } : Snapshot) } : CheckpointDecoder)) (fun y117 => Option.bind (checkpoint_rest_ints_CheckpointDecoder fuelN y117.2) (fun y119 => Option.bind (checkpoint_decoder_tree_Frame2 fuelN y119.2 ({ Agent := y117.1, Sleep := y119.1, Tree := ({ Agent := 0, Kids := ([] : List Tree) } : Tree) } : Frame) 0) (fun y121 => Option.bind (some ([y121.2])) (fun l128 => guardO (limB 64 (y121.1.out.Frames.length + l128.length)) (Option.bind (some (y121.1.out.Frames ++ l128)) (fun l131 => checkpoint_decoder_snapshot_L1 fuelN y7 q108 (IntKind.i64.wrap (i65 + 1)) y121.1.rest.bytes y121.1.rest.err y121.1.done l131 y121.1.out.Done y121.1.out.Count y121.1.out.Blocked))))))) (some ((l66, i67, i68, l69, b70, i71, i72)))

def checkpoint_decoder_snapshot (fuelN : Nat) (a0 : CheckpointDecoder) : Option CheckpointDecoder :=
  Option.bind (checkpoint_rest_uint_CheckpointDecoder fuelN a0) (fun y1 => Option.bind (checkpoint_rest_uint_CheckpointDecoder fuelN ({ rest := y1.2.rest, done := y1.1, out := ({ Frames := y1.2.out.Frames, Done := eqI y1.1 1, Count := y1.2.out.Count, Blocked := y1.2.out.Blocked } : Snapshot) } : CheckpointDecoder)) (fun y3 => Option.bind (checkpoint_rest_uint_CheckpointDecoder fuelN ({ rest := y3.2.rest, done := y3.2.done, out := ({ Frames := y3.2.out.Frames, Done := y3.2.out.Done, Count := y3.1, Blocked := y3.2.out.Blocked } : Snapshot) } : CheckpointDecoder)) (fun y5 => Option.bind (checkpoint_rest_uint_CheckpointDecoder fuelN ({ rest := y5.2.rest, done := y5.2.done, out := ({ Frames := y5.2.out.Frames, Done := y5.2.out.Done, Count := y5.2.out.Count, Blocked := y5.1 } : Snapshot) } : CheckpointDecoder)) (fun y7 => Option.bind (α := Int × (List Frame)) (cond (andB (eqI y7.2.rest.err 0) (ltI 512 y7.1)) (some ((3, y7.2.out.Frames))) (some ((y7.2.rest.err, y7.2.out.Frames)))) (fun o => match o with | (i10, l11) => Option.bind (checkpoint_decoder_snapshot_L1 fuelN y7 fuelN 0 y7.2.rest.bytes i10 y7.2.done l11 y7.2.out.Done y7.2.out.Count y7.2.out.Blocked) (fun o => match o with | (l95, i96, i97, l98, b99, i100, i101) => some ({ rest := ({ bytes := l95, err := i96 } : CheckpointRest), done := i97, out := ({ Frames := l98, Done := b99, Count := i100, Blocked := i101 } : Snapshot) } : CheckpointDecoder)))))))

set_option maxHeartbeats 2000000 in
theorem at_checkpoint_decoder_snapshot {fuelN : Nat} {a0 : CheckpointDecoder} {r : CheckpointDecoder} (hs : checkpoint_decoder_snapshot fuelN a0 = some r) : CAt Tryd.prog 37 [.cell (.ref (.a 0) 0)] [.cells [sC a0.rest.bytes, nC a0.rest.err, nC a0.done, .own (.sp 4 a0.out.Frames.length (encL a0.out.Frames)), bC a0.out.Done, nC a0.out.Count, nC a0.out.Blocked]] (.ret (.tup [])) [(.a 0, .cells [sC r.rest.bytes, nC r.rest.err, nC r.done, .own (.sp 4 r.out.Frames.length (encL r.out.Frames)), bC r.out.Done, nC r.out.Count, nC r.out.Blocked])] := by
  refine at_bound (by kernel_rfl) fun hb => ?_
  refine at_code mixed Tryd.func37 (by kernel_rfl) rfl (by kernel_rfl) rfl fun Q hQ => ?_
  rw [checkpoint_decoder_snapshot] at hs
  refine goR f0 ?_
  revert hs; refine bK fun y1 hx2 hs => ?_
  refine cB f0 (at_checkpoint_rest_uint_CheckpointDecoder hx2) [.a 0] ?_
  refine goR f0 ?_
  revert hs; refine bK fun y3 hx4 hs => ?_
  refine cB f0 (at_checkpoint_rest_uint_CheckpointDecoder hx4) [.a 0] ?_
  refine goR f0 ?_
  revert hs; refine bK fun y5 hx6 hs => ?_
  refine cB f0 (at_checkpoint_rest_uint_CheckpointDecoder hx6) [.a 0] ?_
  refine goR f0 ?_
  revert hs; refine bK fun y7 hx8 hs => ?_
  refine cB f0 (at_checkpoint_rest_uint_CheckpointDecoder hx8) [.a 0] ?_
  refine goG2 f0 f0 ?_
  revert hs; refine bK fun o13 e12 hs => ?_
  refine awp_cutK (fun (v : Int × (List Frame)) (σ : St) => some (v) = some o13 ∧ σ.env 0 = .cell (.ref (.a 0) 0) ∧ σ.env 2 = iV .i64 y7.1 ∧ σ.hp (.a 0) = some (.cells [sC y7.2.rest.bytes, nC v.1, nC y7.2.done, .own (.sp 4 v.2.length (encL v.2)), bC y7.2.out.Done, nC y7.2.out.Count, nC y7.2.out.Blocked]) ∧ 6 ≤ σ.gen) (by rfl) (fun Q hK14 hX15 => ?_) (fun v σ1 hp => ?_)
  · refine goG f0 f0 ?_
    revert e12; refine cS f0 ?_ ?_ <;> intro h16 e12
    · refine goG f0 f0 ?_
      exact hK14 (3, y7.2.out.Frames) _ _ (Gh.refl _) ⟨e12, pv f0, pv f0, pv f0, pg⟩
    · refine goG f0 f0 ?_
      exact hK14 (y7.2.rest.err, y7.2.out.Frames) _ _ (Gh.refl _) ⟨e12, pv f0, pv f0, pv f0, pg⟩
  · obtain ⟨i10, l11⟩ := v
    dsimp only at hp
    obtain ⟨e12, h2_0, h2_2, g2_0, n2_g⟩ := hp
    obtain rfl := sj e12
    try dsimp only at hs
    have F1 := an h2_0 (an h2_2 g2_0)
    refine goG F1 F1 ?_
    revert hs; refine bK fun o103 e102 hs => ?_
    refine awp_loopW (fun (v : Nat × Int × (List UInt8) × Int × Int × (List Frame) × Bool × Int × Int) (σ : St) => checkpoint_decoder_snapshot_L1 fuelN y7 v.1 v.2.1 v.2.2.1 v.2.2.2.1 v.2.2.2.2.1 v.2.2.2.2.2.1 v.2.2.2.2.2.2.1 v.2.2.2.2.2.2.2.1 v.2.2.2.2.2.2.2.2 = some o103 ∧ σ.env 0 = .cell (.ref (.a 0) 0) ∧ σ.env 2 = iV .i64 y7.1 ∧ σ.env 3 = iV .i64 v.2.1 ∧ σ.hp (.a 0) = some (.cells [sC v.2.2.1, nC v.2.2.2.1, nC v.2.2.2.2.1, .own (.sp 4 v.2.2.2.2.2.1.length (encL v.2.2.2.2.2.1)), bC v.2.2.2.2.2.2.1, nC v.2.2.2.2.2.2.2.1, nC v.2.2.2.2.2.2.2.2]) ∧ (σ1.gen + 1) ≤ σ.gen) (fun v => v.1) _ (Gh.refl _) (fuelN, 0, y7.2.rest.bytes, i10, y7.2.done, l11, y7.2.out.Done, y7.2.out.Count, y7.2.out.Blocked) ⟨e102, pv F1, pv F1, pv F1, pv F1, pg⟩ fun v σ4 hp L104 hL105 => ?_
    obtain ⟨q107, i65, l66, i67, i68, l69, b70, i71, i72⟩ := v
    dsimp only at hp hL105
    obtain ⟨e102, h3_0, h3_2, h3_3, g3_0, n3_g⟩ := hp
    rcases q107 with _ | q108
    · rw [checkpoint_decoder_snapshot_L1] at e102; cases e102
    · rw [checkpoint_decoder_snapshot_L1] at e102; try dsimp only at e102
      have F2 := an h3_0 (an h3_2 (an h3_3 g3_0))
      refine goG F2 F2 ?_
      revert e102; refine cS F2 ?_ ?_ <;> intro h112 e102
      · refine goE F2 F2 ?_
        revert e102; refine bK fun y117 hx118 e102 => ?_
        refine cB F2 (at_checkpoint_rest_int_CheckpointDecoder hx118) [.a 0] ?_
        refine goE F2 F2 ?_
        revert e102; refine bK fun y119 hx120 e102 => ?_
        refine cB F2 (at_checkpoint_rest_ints_CheckpointDecoder hx120) [.a 0] ?_
        repeat (first | simp [F2] | with_reducible first | refine ord_l (by decide +kernel) ?_ | refine ord_e (by decide +kernel) ?_ | refine ord_c (by decide +kernel) ?_ | refine ord_d (by decide +kernel) ?_ | refine ord_c3 (by decide +kernel) ?_ | refine ord_d3 (by decide +kernel) ?_ | refine And.intro (by omega) ?_ | refine optF_if (by omega) ?_ | refine gsel_pure (by with_unfolding_all rfl) _ (fun hg => by (try simp at hg); first | (simp [hg, F2]; rfl) | (simp [F2]; simp only [if_pos hg]; simp [F2]; rfl)) ?_ | refine dskip_intro ?_ | refine dsel_pure (by with_unfolding_all rfl) _ (fun hg => by (try simp at hg); simp [hg, F2]; rfl) ?_)
        refine awp_gh (by rfl) ((Gh.voidB _ (.l 4) (.o (σ4.gen + 2) 9 0) 3 2 rfl (by simp [F2]; rfl) (by first | rfl | simp) (by simp)).trans (Gh.close _ (.o (σ4.gen + 2) 9 0) 3)) ?_
        try simp only [St.frz, St.pur]
        refine goR F2 ?_
        revert e102; refine bK fun y121 hx122 e102 => ?_
        refine cB F2 (at_checkpoint_decoder_tree_Frame2 hx122) [.a 0, .o (σ4.gen + 2) 9 0] ?_
        refine goN F2 ?_
        refine awp_gh (by rfl) ((Gh.opn _ (.a 0) 3).trans (Gh.opn _ (.o (σ4.gen + 2) 9 0) 3)) ?_
        try simp only [St.frz, St.pur]
        revert e102; refine lK fun l128 hx129 e102 => ?_
        have hx129n : l128.length = 1 := by rw [hx129]; rfl
        obtain ⟨g130, e102⟩ := guardO_some e102
        have g130 := limB_t g130
        obtain ⟨g130a, g130b⟩ := g130
        revert e102; refine lK fun l131 hx132 e102 => ?_
        have hx132n : l131.length = (y121.1.out.Frames.length + l128.length) := by rw [hx132]; simp
        have hx132e : encL l131 = encL y121.1.out.Frames ++ encL l128 := by rw [hx132]; simp
        have F3 := an F2 (an hx129 (an hx132n hx132e))
        refine goN F3 ?_
        refine awp_draw ?_
        refine goN F3 ?_
        refine awp_gh (by rfl) ((Gh.frz _ (.o (σ4.gen + 5) 0 3)).trans ((Gh.pur _ (.o (σ4.gen + 6) 7 0)).trans (Gh.pur _ (.o (σ4.gen + 6) 8 0)))) ?_
        try simp only [St.frz, St.pur]
        refine goR F3 ?_
        have f133 : (encL l131).take (l131.length * 4) = encL l131 := encL_takeN _ (by simp)
        try simp [F3] at f133
        have f133l : l131.length * 4 ≤ (encL l131).length := by rw [encL_length]; simp
        try simp [F3] at f133l
        have F4 := an F3 (an f133 f133l)
        exact hL105 (q108, IntKind.i64.wrap (i65 + 1), y121.1.rest.bytes, y121.1.rest.err, y121.1.done, l131, y121.1.out.Done, y121.1.out.Count, y121.1.out.Blocked) _ _ (Gh.close _ (.a 0) 3) ⟨e102, pv F4, pv F4, pv F4, pv F4, pg⟩ (by omega)
      · refine goG F2 F2 ?_
        obtain rfl := sj e102
        try dsimp only at hs
        obtain rfl := sj hs
        refine hQ _ _ (ret2g _ (Gh.refl _) (by simp [St.frz, St.pur, F2]; rfl) (by first | rfl | (simp [St.frz, St.pur, F2]; done) | (rw [if_pos (by first | omega | (simp; omega))]; simp [St.frz, St.pur, F2]; first | omega | exact List.take_of_length_le (by simp; omega) | skip)) (pv F2))
end Go.Dc
end
section
set_option linter.all false
namespace Go.Dc
open Go Go.Hw Go.Proofs
set_option maxRecDepth 100000

def checkpoint_Decode (fuelN : Nat) (a0 : Program) (a1 : Config) (a2 : List UInt8) : Option (Snapshot × Int) :=
  Option.bind (checkpoint_Digest fuelN a0 a1) (fun y1 => cond (!(eqI y1.2 0)) (some (({ Frames := [], Done := false, Count := 0, Blocked := 0 } : Snapshot), y1.2)) (Option.bind (frame_Open fuelN a2) (fun y4 => cond (!(eqI y4.2.2 0)) (some (({ Frames := [], Done := false, Count := 0, Blocked := 0 } : Snapshot), y4.2.2)) (cond (ltI 0 ((y4.2.1.length : Nat) : Int)) (some (({ Frames := [], Done := false, Count := 0, Blocked := 0 } : Snapshot), 3)) (Option.bind (checkpoint_rest_uint_CheckpointDecoder fuelN ({ rest := ({ bytes := y4.1, err := 0 } : CheckpointRest), done := 0, out := ({ Frames := ([] : List Frame), Done := false, Count := 0, Blocked := 0 } : Snapshot) } : CheckpointDecoder)) (fun y8 => cond (!(eqI y8.2.rest.err 0)) (some (({ Frames := [], Done := false, Count := 0, Blocked := 0 } : Snapshot), y8.2.rest.err)) (cond (!(eqI y8.1 y1.1)) (some (({ Frames := [], Done := false, Count := 0, Blocked := 0 } : Snapshot), 30)) (Option.bind (checkpoint_decoder_snapshot fuelN y8.2) (fun y12 => cond (!(eqI y12.rest.err 0)) (some (({ Frames := [], Done := false, Count := 0, Blocked := 0 } : Snapshot), y12.rest.err)) (cond (!(orB (ltI 1 y12.done) (ltI 0 ((y12.rest.bytes.length : Nat) : Int)))) (Option.bind (checkpoint_Valid fuelN y12.out) (fun y16 => cond (!y16) (some (({ Frames := [], Done := false, Count := 0, Blocked := 0 } : Snapshot), 3)) (some (y12.out, 0)))) (some (({ Frames := [], Done := false, Count := 0, Blocked := 0 } : Snapshot), 3))))))))))))

set_option maxHeartbeats 2000000 in
theorem at_checkpoint_Decode {fuelN : Nat} {a0 : Program} {a1 : Config} {a2 : List UInt8} {r : Snapshot × Int} (hs : checkpoint_Decode fuelN a0 a1 a2 = some r) : At Tryd.prog 12 [.agg (eA a0), .agg (eA a1), .cell (sC a2)] (.tup [.agg (eA r.1), iV .i64 r.2]) := by
  refine at_bound (by kernel_rfl) fun hb => ?_
  have hb1 : LenOk (.sl a0.Vars.length (encL a0.Vars)) := lkc hb
  have hb2 : LenOk (.sl a0.Mutexes.length (encL a0.Mutexes)) := lkc hb
  have hb3 : LenOk (.sl a0.Conds.length (encL a0.Conds)) := lkc hb
  have hb4 : LenOk (.sl a0.Funcs.length (encL a0.Funcs)) := lkc hb
  have hb5 : LenOk (.sl a0.Threads.length (encL a0.Threads)) := lkc hb
  have hb6 : LenOk (.sl a2.length (encL a2)) := lkc hb
  refine at_code mixed Tryd.func12 (by kernel_rfl) rfl (by kernel_rfl) rfl fun Q hQ => ?_
  rw [checkpoint_Decode] at hs
  refine goR f0 ?_
  revert hs; refine bK fun y1 hx2 hs => ?_
  refine cP f0 (at_checkpoint_Digest hx2) ?_
  refine goR f0 ?_
  revert hs; refine cS f0 ?_ ?_ <;> intro h3 hs
  · refine goR f0 ?_
    obtain rfl := sj hs
    exact hQ _ _ (rg f0 (Gh.unz _))
  · refine goR f0 ?_
    revert hs; refine bK fun y4 hx5 hs => ?_
    refine cP f0 (at_frame_Open hx5) ?_
    refine goR f0 ?_
    revert hs; refine cS f0 ?_ ?_ <;> intro h6 hs
    · refine goR f0 ?_
      obtain rfl := sj hs
      exact hQ _ _ (rg f0 (Gh.unz _))
    · refine goR f0 ?_
      revert hs; refine cS f0 ?_ ?_ <;> intro h7 hs
      · refine goR f0 ?_
        obtain rfl := sj hs
        exact hQ _ _ (rg f0 (Gh.unz _))
      · refine goN f0 ?_
        refine awp_reg ?_
        refine goN f0 ?_
        refine awp_gh (by rfl) ((Gh.voidB _ (.l 1) (.o 7 3 0) 3 4 rfl (by simp; rfl) (by first | rfl | simp) (by simp)).trans (Gh.close _ (.o 7 3 0) 3)) ?_
        try simp only [St.frz, St.pur]
        refine goR f0 ?_
        revert hs; refine bK fun y8 hx9 hs => ?_
        refine cB f0 (at_checkpoint_rest_uint_CheckpointDecoder hx9) [.o 7 3 0] ?_
        refine goR f0 ?_
        revert hs; refine cS f0 ?_ ?_ <;> intro h10 hs
        · refine goD f0 ?_
          obtain rfl := sj hs
          exact hQ _ _ (rg f0 (Gh.unz _))
        · refine goR f0 ?_
          revert hs; refine cS f0 ?_ ?_ <;> intro h11 hs
          · refine goR f0 ?_
            obtain rfl := sj hs
            exact hQ _ _ (rg f0 (Gh.unz _))
          · refine goR f0 ?_
            revert hs; refine bK fun y12 hx13 hs => ?_
            refine cB f0 (at_checkpoint_decoder_snapshot hx13) [.o 7 3 0] ?_
            refine goR f0 ?_
            revert hs; refine cS f0 ?_ ?_ <;> intro h14 hs
            · refine goD f0 ?_
              obtain rfl := sj hs
              exact hQ _ _ (rg f0 (Gh.unz _))
            · refine goG f0 f0 ?_
              refine gsel_split (fun h15 => ?_) (fun h15 => ?_)
              · replace hs := condT h15 hs
                simp only [Bool.not_eq_true', Bool.not_eq_false', Bool.not_not] at h15
                refine goG h15 h15 ?_
                revert hs; refine bK fun y16 hx17 hs => ?_
                refine cA h15 (at_checkpoint_Valid hx17) ?_
                refine goG h15 h15 ?_
                revert hs; refine cS h15 ?_ ?_ <;> intro h18 hs
                · refine goG h15 h15 ?_
                  obtain rfl := sj hs
                  exact hQ _ _ (rg h15 (Gh.unz _))
                · refine goG h15 h15 ?_
                  obtain rfl := sj hs
                  exact hQ _ _ (rg h15 (Gh.frz _ (.o 13 18 3)))
              · replace hs := condF h15 hs
                simp only [Bool.not_eq_true', Bool.not_eq_false', Bool.not_not] at h15
                refine goG h15 h15 ?_
                obtain rfl := sj hs
                exact hQ _ _ (rg h15 (Gh.unz _))
end Go.Dc
end
section
set_option linter.all false
namespace Go.Dc
open Go Go.Hw Go.Proofs
set_option maxRecDepth 100000
def r02_Ints_L1 (a1 : List Int) : List Int → Nat → Option (Unit ⊕ Bool)
  | [], k76 => some (.inl ())
  | x102 :: q98, k76 => Option.bind (a1[k76]?) (fun x109 => cond (!(eqI x102 x109)) (some (.inr false)) (r02_Ints_L1 a1 q98 (k76 + 1)))

def r02_Ints (a0 : List Int) (a1 : List Int) : Option Bool :=
  cond (!(eqI ((a0.length : Nat) : Int) ((a1.length : Nat) : Int))) (some false) (Option.bind (α := Unit ⊕ Bool) (Option.bind (r02_Ints_L1 a1 a0 0) (fun o => match o with | .inl _ => some (.inl ()) | .inr r113 => some (.inr r113))) (fun o => match o with | .inl _ => some true | .inr r114 => some r114))

set_option maxHeartbeats 2000000 in
theorem at_r02_Ints {a0 : List Int} {a1 : List Int} {r : Bool} (hs : r02_Ints a0 a1 = some r) : At Tryd.prog 38 [.cell (sC a0), .cell (sC a1)] (bV r) := by
  refine at_bound (by kernel_rfl) fun hb => ?_
  have hb1 : LenOk (.sl a0.length (encL a0)) := lkc hb
  have hb2 : LenOk (.sl a1.length (encL a1)) := lkc hb
  refine at_code mixed Tryd.func38 (by kernel_rfl) rfl (by kernel_rfl) rfl fun Q hQ => ?_
  rw [r02_Ints] at hs
  refine goR f0 ?_
  revert hs; refine cS f0 ?_ ?_ <;> intro h1 hs
  · refine goR f0 ?_
    obtain rfl := sj hs
    exact hQ _ _ (rg f0 (Gh.refl _))
  · refine goR2 f0 ?_
    revert hs; refine bK fun o57 e56 hs => ?_
    refine awp_cutK (fun (v : Unit) (σ : St) => some (.inl v) = some o57 ∧ 3 ≤ σ.gen) (by rfl) (fun Q hK58 hX59 => ?_) (fun v σ3 hp => ?_)
    · refine goR f0 ?_
      revert e56; refine bK fun o93 e92 e56 => ?_
      refine awp_loopW (fun (v : (List Int) × Nat) (σ : St) => r02_Ints_L1 a1 v.1 v.2 = some o93 ∧ v.1 = a0.drop v.2 ∧ σ.env 0 = .cell (sC a0) ∧ σ.env 1 = .cell (sC a1) ∧ σ.env 5 = iV .i64 ((v.2 : Nat) : Int) ∧ 3 ≤ σ.gen) (fun v => v.1.length) _ (Gh.refl _) (a0, 0) ⟨e92, by simp, pv f0, pv f0, pv f0, pg⟩ fun v σ6 hp L94 hL95 => ?_
      obtain ⟨q97, k76⟩ := v
      dsimp only at hp hL95
      obtain ⟨e92, hd96, h5_0, h5_1, h5_5, n5_g⟩ := hp
      rcases q97 with _ | ⟨x102, q98⟩
      · have hlt99 := drop_end hd96
        rw [r02_Ints_L1] at e92; try dsimp only at e92
        have F1 := an h5_0 (an h5_1 h5_5)
        refine goR F1 ?_
        refine condK_f (by simp [ltI]; omega) ?_
        obtain rfl := sj e92
        try dsimp only at e56
        exact hK58 () _ _ (Gh.refl _) ⟨e56, pg⟩
      · obtain ⟨hx101, hlt99, hd103⟩ := drop_next hd96
        have ew100 := wrap_succ hlt99 (hb1).len
        rw [r02_Ints_L1] at e92; try dsimp only at e92
        have F2 := an h5_0 (an h5_1 (an h5_5 (an hlt99 ew100)))
        refine goR F2 ?_
        refine condK_t (by simp [ltI]; omega) ?_
        have f108 : partCV Tryd.prog 3 (encL a0) (k76) = some (iV .i64 x102) := partCV_enc1 hx101 (by simp)
        revert e92; refine bK fun x109 hx110 e92 => ?_
        have hx110b := getN_some hx110
        have f111 : partCV Tryd.prog 3 (encL a1) (k76) = some (iV .i64 x109) := partCV_enc1 hx110 (by simp)
        have F3 := an F2 (an f108 f111)
        refine goD F3 ?_
        revert e92; refine cS F3 ?_ ?_ <;> intro h112 e92
        · refine goD F3 ?_
          obtain rfl := sj e92
          try dsimp only at e56
          obtain rfl := sj e56
          try dsimp only at hs
          refine hX59 _ _ (by simp) ?_
          refine goD F3 ?_
          obtain rfl := sj hs
          exact hQ _ _ (rg F3 (Gh.refl _))
        · refine goD F3 ?_
          exact hL95 (q98, (k76 + 1)) _ _ (Gh.refl _) ⟨e92, hd103, pv F3, pv F3, pv F3, pg⟩ (by simp)
    · obtain ⟨e56, n4_g⟩ := hp
      obtain rfl := sj e56
      try dsimp only at hs
      refine goR f0 ?_
      obtain rfl := sj hs
      exact hQ _ _ (rg f0 (Gh.refl _))
end Go.Dc
end
section
set_option linter.all false
namespace Go.Dc
open Go Go.Hw Go.Proofs
set_option maxRecDepth 100000
def r33_Equal_L1 (a1 : Tree) (rF39z : Tree → Tree → Option Bool) : List Tree → Nat → Option (Unit ⊕ Bool)
  | [], k92 => some (.inl ())
  | x122 :: q118, k92 => Option.bind (a1.Kids[k92]?) (fun x131 => Option.bind (rF39z x122 x131) (fun y134 => cond (!y134) (some (.inr false)) (r33_Equal_L1 a1 rF39z q118 (k92 + 1))))

def r33_Equal_B (rF39z : Tree → Tree → Option Bool) (a0 : Tree) (a1 : Tree) : Option Bool :=
  cond (orB (!(eqI a0.Agent a1.Agent)) (!(eqI ((a0.Kids.length : Nat) : Int) ((a1.Kids.length : Nat) : Int)))) (some false) (Option.bind (α := Unit ⊕ Bool) (Option.bind (r33_Equal_L1 a1 rF39z a0.Kids 0) (fun o => match o with | .inl _ => some (.inl ()) | .inr r137 => some (.inr r137))) (fun o => match o with | .inl _ => some true | .inr r138 => some r138))

def r33_Equal : Nat → Tree → Tree → Option Bool
  | 0 => fun _ _ => none
  | fuelN + 1 => fun a0 a1 => r33_Equal_B (r33_Equal fuelN) a0 a1

set_option maxHeartbeats 2000000 in
theorem at_r33_Equal_B {rF39z : Tree → Tree → Option Bool} (ihrF39z : ∀ (a0 : Tree) (a1 : Tree) (r : Bool), rF39z a0 a1 = some r → At Tryd.prog 39 [.agg (eA a0), .agg (eA a1)] (bV r)) {a0 : Tree} {a1 : Tree} {r : Bool} (hs : r33_Equal_B rF39z a0 a1 = some r) : At Tryd.prog 39 [.agg (eA a0), .agg (eA a1)] (bV r) := by
  refine at_bound (by kernel_rfl) fun hb => ?_
  have hb1 : LenOk (.sl a0.Kids.length (encL a0.Kids)) := lkc hb
  have hb2 : LenOk (.sl a1.Kids.length (encL a1.Kids)) := lkc hb
  refine at_code mixed Tryd.func39 (by kernel_rfl) rfl (by kernel_rfl) rfl fun Q hQ => ?_
  rw [r33_Equal_B] at hs
  refine goG f0 f0 ?_
  revert hs; refine cS f0 ?_ ?_ <;> intro h1 hs
  · refine goG f0 f0 ?_
    obtain rfl := sj hs
    exact hQ _ _ (rg f0 (Gh.refl _))
  · refine goG2 f0 f0 ?_
    revert hs; refine bK fun o69 e68 hs => ?_
    refine awp_cutK (fun (v : Unit) (σ : St) => some (.inl v) = some o69 ∧ 3 ≤ σ.gen) (by rfl) (fun Q hK70 hX71 => ?_) (fun v σ3 hp => ?_)
    · refine goG f0 f0 ?_
      revert e68; refine bK fun o113 e112 e68 => ?_
      refine awp_loopW (fun (v : (List Tree) × Nat) (σ : St) => r33_Equal_L1 a1 rF39z v.1 v.2 = some o113 ∧ v.1 = a0.Kids.drop v.2 ∧ σ.env 2 = .cell (.ref (.o 1 0 0) 0) ∧ σ.env 3 = .cell (.ref (.o 1 1 0) 0) ∧ σ.env 5 = iV .i64 ((v.2 : Nat) : Int) ∧ σ.hp (.o 1 0 0) = some (.cells (eA a0)) ∧ σ.hp (.o 1 1 0) = some (.cells (eA a1)) ∧ 3 ≤ σ.gen) (fun v => v.1.length) _ (Gh.refl _) (a0.Kids, 0) ⟨e112, by simp, pv f0, pv f0, pv f0, pv f0, pv f0, pg⟩ fun v σ6 hp L114 hL115 => ?_
      obtain ⟨q117, k92⟩ := v
      dsimp only at hp hL115
      obtain ⟨e112, hd116, h5_2, h5_3, h5_5, g5_0, g5_1, n5_g⟩ := hp
      have n5_0 : ¬ (σ6.gen = 0) := by omega
      rcases q117 with _ | ⟨x122, q118⟩
      · have hlt119 := drop_end hd116
        rw [r33_Equal_L1] at e112; try dsimp only at e112
        have F1 := an h5_2 (an h5_3 (an h5_5 (an g5_0 (an g5_1 n5_0))))
        refine goR F1 ?_
        refine condK_f (by simp [ltI]; omega) ?_
        obtain rfl := sj e112
        try dsimp only at e68
        exact hK70 () _ _ (Gh.refl _) ⟨e68, pg⟩
      · obtain ⟨hx121, hlt119, hd123⟩ := drop_next hd116
        have ew120 := wrap_succ hlt119 (hb1).len
        rw [r33_Equal_L1] at e112; try dsimp only at e112
        have F2 := an h5_2 (an h5_3 (an h5_5 (an g5_0 (an g5_1 (an n5_0 (an hlt119 ew120))))))
        refine goR F2 ?_
        refine condK_t (by simp [ltI]; omega) ?_
        have f130 : partCV Tryd.prog 77 (encL a0.Kids) (k92 * 2) = some (.agg (eA x122)) := partCV_enc hx121 (f := 0) (by simp)
        revert e112; refine bK fun x131 hx132 e112 => ?_
        have hx132b := getN_some hx132
        have f133 : partCV Tryd.prog 77 (encL a1.Kids) (k92 * 2) = some (.agg (eA x131)) := partCV_enc hx132 (f := 0) (by simp)
        have F3 := an F2 (an f130 f133)
        refine goD F3 ?_
        revert e112; refine bK fun y134 hx135 e112 => ?_
        refine cP F3 (ihrF39z _ _ _ hx135) ?_
        refine goD F3 ?_
        revert e112; refine cS F3 ?_ ?_ <;> intro h136 e112
        · refine goD F3 ?_
          obtain rfl := sj e112
          try dsimp only at e68
          obtain rfl := sj e68
          try dsimp only at hs
          refine hX71 _ _ (by simp) ?_
          refine goD F3 ?_
          obtain rfl := sj hs
          exact hQ _ _ (rg F3 (Gh.refl _))
        · refine goD F3 ?_
          exact hL115 (q118, (k92 + 1)) _ _ (Gh.refl _) ⟨e112, hd123, pv F3, pv F3, pv F3, pv F3, pv F3, pg⟩ (by simp)
    · obtain ⟨e68, n4_g⟩ := hp
      obtain rfl := sj e68
      try dsimp only at hs
      refine goG f0 f0 ?_
      obtain rfl := sj hs
      exact hQ _ _ (rg f0 (Gh.refl _))
theorem at_r33_Equal : ∀ {fuelN : Nat} {a0 : Tree} {a1 : Tree} {r : Bool} (hs : r33_Equal fuelN a0 a1 = some r), At Tryd.prog 39 [.agg (eA a0), .agg (eA a1)] (bV r)
  | 0, _, _, _, hs => by rw [r33_Equal] at hs; cases hs
  | n + 1, _, _, _, hs => by
    rw [r33_Equal] at hs
    exact at_r33_Equal_B (fun _ _ _ h => at_r33_Equal h) hs
end Go.Dc
end
section
set_option linter.all false
namespace Go.Dc
open Go Go.Hw Go.Proofs
set_option maxRecDepth 100000
def r49_Same_L1 (fuelN : Nat) (a1 : Snapshot) : List Frame → Nat → Option (Unit ⊕ Bool)
  | [], k124 => some (.inl ())
  | x162 :: q158, k124 => Option.bind (a1.Frames[k124]?) (fun x175 => guardO (orB (!(eqI x162.Agent x175.Agent)) ((r02_Ints x162.Sleep x175.Sleep).isSome)) (guardO (orB (!(!(orB (!(eqI x162.Agent x175.Agent)) (!((r02_Ints x162.Sleep x175.Sleep).getD default))))) ((r33_Equal fuelN x162.Tree x175.Tree).isSome)) (cond (orB (orB (!(eqI x162.Agent x175.Agent)) (!((r02_Ints x162.Sleep x175.Sleep).getD default))) (!((r33_Equal fuelN x162.Tree x175.Tree).getD default))) (some (.inr false)) (r49_Same_L1 fuelN a1 q158 (k124 + 1)))))

def r49_Same (fuelN : Nat) (a0 : Snapshot) (a1 : Snapshot) : Option Bool :=
  cond (orB (orB (orB (!(eqB a0.Done a1.Done)) (!(eqI a0.Count a1.Count))) (!(eqI a0.Blocked a1.Blocked))) (!(eqI ((a0.Frames.length : Nat) : Int) ((a1.Frames.length : Nat) : Int)))) (some false) (Option.bind (α := Unit ⊕ Bool) (Option.bind (r49_Same_L1 fuelN a1 a0.Frames 0) (fun o => match o with | .inl _ => some (.inl ()) | .inr r185 => some (.inr r185))) (fun o => match o with | .inl _ => some true | .inr r186 => some r186))

set_option maxHeartbeats 2000000 in
theorem at_r49_Same {fuelN : Nat} {a0 : Snapshot} {a1 : Snapshot} {r : Bool} (hs : r49_Same fuelN a0 a1 = some r) : At Tryd.prog 13 [.agg (eA a0), .agg (eA a1)] (bV r) := by
  refine at_bound (by kernel_rfl) fun hb => ?_
  have hb1 : LenOk (.sl a0.Frames.length (encL a0.Frames)) := lkc hb
  have hb2 : LenOk (.sl a1.Frames.length (encL a1.Frames)) := lkc hb
  refine at_code mixed Tryd.func13 (by kernel_rfl) rfl (by kernel_rfl) rfl fun Q hQ => ?_
  rw [r49_Same] at hs
  refine goG f0 f0 ?_
  revert hs; refine cS f0 ?_ ?_ <;> intro h1 hs
  · refine goG f0 f0 ?_
    obtain rfl := sj hs
    exact hQ _ _ (rg f0 (Gh.refl _))
  · refine goG2 f0 f0 ?_
    revert hs; refine bK fun o93 e92 hs => ?_
    refine awp_cutK (fun (v : Unit) (σ : St) => some (.inl v) = some o93 ∧ 3 ≤ σ.gen) (by rfl) (fun Q hK94 hX95 => ?_) (fun v σ3 hp => ?_)
    · refine goG f0 f0 ?_
      revert e92; refine bK fun o153 e152 e92 => ?_
      refine awp_loopW (fun (v : (List Frame) × Nat) (σ : St) => r49_Same_L1 fuelN a1 v.1 v.2 = some o153 ∧ v.1 = a0.Frames.drop v.2 ∧ σ.env 2 = .cell (.ref (.o 1 0 0) 0) ∧ σ.env 3 = .cell (.ref (.o 1 1 0) 0) ∧ σ.env 5 = iV .i64 ((v.2 : Nat) : Int) ∧ σ.hp (.o 1 0 0) = some (.cells (eA a0)) ∧ σ.hp (.o 1 1 0) = some (.cells (eA a1)) ∧ 3 ≤ σ.gen) (fun v => v.1.length) _ (Gh.refl _) (a0.Frames, 0) ⟨e152, by simp, pv f0, pv f0, pv f0, pv f0, pv f0, pg⟩ fun v σ6 hp L154 hL155 => ?_
      obtain ⟨q157, k124⟩ := v
      dsimp only at hp hL155
      obtain ⟨e152, hd156, h5_2, h5_3, h5_5, g5_0, g5_1, n5_g⟩ := hp
      have n5_0 : ¬ (σ6.gen = 0) := by omega
      rcases q157 with _ | ⟨x162, q158⟩
      · have hlt159 := drop_end hd156
        rw [r49_Same_L1] at e152; try dsimp only at e152
        have F1 := an h5_2 (an h5_3 (an h5_5 (an g5_0 (an g5_1 n5_0))))
        refine goR F1 ?_
        refine condK_f (by simp [ltI]; omega) ?_
        obtain rfl := sj e152
        try dsimp only at e92
        exact hK94 () _ _ (Gh.refl _) ⟨e92, pg⟩
      · obtain ⟨hx161, hlt159, hd163⟩ := drop_next hd156
        have ew160 := wrap_succ hlt159 (hb1).len
        rw [r49_Same_L1] at e152; try dsimp only at e152
        have F2 := an h5_2 (an h5_3 (an h5_5 (an g5_0 (an g5_1 (an n5_0 (an hlt159 ew160))))))
        refine goR F2 ?_
        refine condK_t (by simp [ltI]; omega) ?_
        have f174 : partCV Tryd.prog 3 (encL a0.Frames) (k124 * 4) = some (iV .i64 x162.Agent) := partCV_enc hx161 (f := 0) (by simp)
        revert e152; refine bK fun x175 hx176 e152 => ?_
        have hx176b := getN_some hx176
        have f177 : partCV Tryd.prog 3 (encL a1.Frames) (k124 * 4) = some (iV .i64 x175.Agent) := partCV_enc hx176 (f := 0) (by simp)
        have f178 : partCV Tryd.prog 37 (encL a0.Frames) (k124 * 4 + 1) = some (.cell (sC x162.Sleep)) := partCV_enc hx161 (f := 1) (by simp)
        have f179 : partCV Tryd.prog 37 (encL a1.Frames) (k124 * 4 + 1) = some (.cell (sC x175.Sleep)) := partCV_enc hx176 (f := 1) (by simp)
        have F3 := an F2 (an f174 (an f177 (an f178 f179)))
        have F4 := an F3 hx176b
        refine goE F3 F4 ?_
        obtain ⟨g180, e152⟩ := guardO_some e152
        refine dsel_call (fun hg => at_r02_Ints (under_call g180 hg)) (fun hg => by (try simp at hg); (first | simp [hg, F3]); try rfl) (fun hg => by (try simp at hg); simp [hg, F3]) (by simp) ?_
        have f181 : partCV Tryd.prog 77 (encL a0.Frames) (k124 * 4 + 2) = some (.agg (eA x162.Tree)) := partCV_enc hx161 (f := 2) (by simp)
        have f182 : partCV Tryd.prog 77 (encL a1.Frames) (k124 * 4 + 2) = some (.agg (eA x175.Tree)) := partCV_enc hx176 (f := 2) (by simp)
        have F5 := an F3 (an f181 f182)
        have F6 := an F5 hx176b
        refine goE F5 F6 ?_
        obtain ⟨g183, e152⟩ := guardO_some e152
        refine dsel_call (fun hg => at_r33_Equal (under_call g183 hg)) (fun hg => by (try simp at hg); (first | simp [hg, F5]); try rfl) (fun hg => by (try simp at hg); simp [hg, F5]) (by simp) ?_
        refine goE F5 F6 ?_
        revert e152; refine cS F5 ?_ ?_ <;> intro h184 e152
        · refine goE F5 F6 ?_
          obtain rfl := sj e152
          try dsimp only at e92
          obtain rfl := sj e92
          try dsimp only at hs
          refine hX95 _ _ (by simp) ?_
          refine goE F5 F6 ?_
          obtain rfl := sj hs
          exact hQ _ _ (rg F5 (Gh.refl _))
        · refine goE F5 F6 ?_
          exact hL155 (q158, (k124 + 1)) _ _ (Gh.refl _) ⟨e152, hd163, pv F5, pv F5, pv F5, pv F5, pv F5, pg⟩ (by simp)
    · obtain ⟨e92, n4_g⟩ := hp
      obtain rfl := sj e92
      try dsimp only at hs
      refine goG f0 f0 ?_
      obtain rfl := sj hs
      exact hQ _ _ (rg f0 (Gh.refl _))
end Go.Dc
end
section
set_option linter.all false
namespace Go.Dc
open Go Go.Hw Go.Proofs
set_option maxRecDepth 100000

def law49_bytes (a0 : List UInt8) (a1 : List UInt8) : Option Bool :=
  some (eqS (⟨a0.toArray⟩ : ByteArray) (⟨a1.toArray⟩ : ByteArray))

set_option maxHeartbeats 2000000 in
theorem at_law49_bytes {a0 : List UInt8} {a1 : List UInt8} {r : Bool} (hs : law49_bytes a0 a1 = some r) : At Tryd.prog 14 [.cell (sC a0), .cell (sC a1)] (bV r) := by
  refine at_bound (by kernel_rfl) fun hb => ?_
  have hb1 : LenOk (.sl a0.length (encL a0)) := lkc hb
  have hb2 : LenOk (.sl a1.length (encL a1)) := lkc hb
  refine at_code mixed Tryd.func14 (by kernel_rfl) rfl (by kernel_rfl) rfl fun Q hQ => ?_
  rw [law49_bytes] at hs
  refine goR f0 ?_
  obtain rfl := sj hs
  exact hQ _ _ (rg f0 (Gh.refl _))
end Go.Dc
end
section
set_option linter.all false
namespace Go.Dc
open Go Go.Hw Go.Proofs
set_option maxRecDepth 100000

def law49_one (a0 : Int) : Option Program :=
  Option.bind (some ([({ Name := (⟨#[120]⟩ : ByteArray), Init := 0 } : Var)])) (fun l1 => Option.bind (some ([({ Op := 9, A := 0, B := 0, C := 0, Obj := 0, N := 0, Fn := 0, Order := 0 } : Inst)])) (fun l3 => Option.bind (some ([({ Name := (⟨#[102]⟩ : ByteArray), Code := l3 } : Func)])) (fun l5 => Option.bind (some ([({ Func := 0, Arg := a0 } : Start)])) (fun l7 => some ({ Vars := l1, Mutexes := [], Conds := [], Funcs := l5, Threads := l7 } : Program)))))

set_option maxHeartbeats 2000000 in
theorem at_law49_one {a0 : Int} {r : Program} (hs : law49_one a0 = some r) : At Tryd.prog 18 [iV .i64 a0] (.agg (eA r)) := by
  refine at_bound (by kernel_rfl) fun hb => ?_
  refine at_code mixed Tryd.func18 (by kernel_rfl) rfl (by kernel_rfl) rfl fun Q hQ => ?_
  rw [law49_one] at hs
  revert hs; refine lK fun l1 hx2 hs => ?_
  have hx2n : l1.length = 1 := by rw [hx2]; rfl
  revert hs; refine lK fun l3 hx4 hs => ?_
  have hx4n : l3.length = 1 := by rw [hx4]; rfl
  revert hs; refine lK fun l5 hx6 hs => ?_
  have hx6n : l5.length = 1 := by rw [hx6]; rfl
  revert hs; refine lK fun l7 hx8 hs => ?_
  have hx8n : l7.length = 1 := by rw [hx8]; rfl
  have F1 := an hx2 (an hx4 (an hx6 hx8))
  refine goR F1 ?_
  obtain rfl := sj hs
  exact hQ _ _ (rg F1 ((Gh.frz _ (.o 2 3 0)).trans ((Gh.pur _ (.o 2 5 0)).trans ((Gh.frz _ (.o 2 1 0)).trans ((Gh.frz _ (.o 2 5 0)).trans ((Gh.frz _ (.o 2 8 0)).trans (Gh.unz _)))))))
end Go.Dc
end
section
set_option linter.all false
namespace Go.Dc
open Go Go.Hw Go.Proofs
set_option maxRecDepth 100000

def law49_awake (fuelN : Nat)  : Option Bool :=
  Option.bind (law49_one 1) (fun y5 => Option.bind (checkpoint_Digest fuelN y5 ({ Model := 1, Bound := 4 } : Config)) (fun y7 => Option.bind (law49_one 1) (fun y13 => Option.bind (checkpoint_Encode fuelN y13 ({ Model := 1, Bound := 4 } : Config) ({ Frames := [], Done := false, Count := 0, Blocked := 0 } : Snapshot)) (fun y15 => Option.bind (law49_one 1) (fun y21 => Option.bind (checkpoint_Decode fuelN y21 ({ Model := 1, Bound := 4 } : Config) y15.1) (fun y23 => Option.bind (law49_one 2) (fun y29 => Option.bind (checkpoint_Decode fuelN y29 ({ Model := 1, Bound := 4 } : Config) y15.1) (fun y31 => Option.bind (law49_one 1) (fun y37 => Option.bind (checkpoint_Encode fuelN y37 ({ Model := 1, Bound := 4 } : Config) ({ Frames := [], Done := false, Count := (-1), Blocked := 0 } : Snapshot)) (fun y39 => Option.bind (frame_AppendUint fuelN [] y7.1) (fun y41 => Option.bind (some ([0, 0, 0, 0])) (fun l43 => guardO (limB 1 (y41.length + l43.length)) (Option.bind (some (y41 ++ l43)) (fun l46 => cond (andB (andB (andB (andB (eqI y7.2 0) (eqI y15.2 0)) (eqI y23.2 0)) (eqI y31.2 30)) (eqI y39.2 1)) (Option.bind (frame_Seal fuelN l46) (fun y50 => Option.bind (law49_bytes y15.1 y50) (fun y52 => guardO (orB (!y52) ((r49_Same fuelN y23.1 ({ Frames := [], Done := false, Count := 0, Blocked := 0 } : Snapshot)).isSome)) (guardO (orB (!(andB y52 ((r49_Same fuelN y23.1 ({ Frames := [], Done := false, Count := 0, Blocked := 0 } : Snapshot)).getD default))) ((checkpoint_Valid fuelN y23.1).isSome)) (guardO (orB (!(andB (andB y52 ((r49_Same fuelN y23.1 ({ Frames := [], Done := false, Count := 0, Blocked := 0 } : Snapshot)).getD default)) ((checkpoint_Valid fuelN y23.1).getD default))) ((checkpoint_Valid fuelN ({ Frames := [], Done := false, Count := 0, Blocked := (-1) } : Snapshot)).isSome)) (some (andB (andB (andB y52 ((r49_Same fuelN y23.1 ({ Frames := [], Done := false, Count := 0, Blocked := 0 } : Snapshot)).getD default)) ((checkpoint_Valid fuelN y23.1).getD default)) (!((checkpoint_Valid fuelN ({ Frames := [], Done := false, Count := 0, Blocked := (-1) } : Snapshot)).getD default))))))))) (some false)))))))))))))))

set_option maxHeartbeats 2000000 in
theorem at_law49_awake {fuelN : Nat}  {r : Bool} (hs : law49_awake fuelN = some r) : At Tryd.prog 7 [] (bV r) := by
  refine at_bound (by kernel_rfl) fun hb => ?_
  refine at_code mixed Tryd.func7 (by kernel_rfl) rfl (by kernel_rfl) rfl fun Q hQ => ?_
  rw [law49_awake] at hs
  refine goD f0 ?_
  revert hs; refine bK fun y5 hx6 hs => ?_
  refine cP f0 (at_law49_one hx6) ?_
  refine goD f0 ?_
  revert hs; refine bK fun y7 hx8 hs => ?_
  refine cP f0 (at_checkpoint_Digest hx8) ?_
  refine goD f0 ?_
  revert hs; refine bK fun y13 hx14 hs => ?_
  refine cP f0 (at_law49_one hx14) ?_
  refine goD f0 ?_
  revert hs; refine bK fun y15 hx16 hs => ?_
  refine cP f0 (at_unz (args := [.agg (eA y13), .agg [nC 1, nC 4], .agg [.z, bC false, nC 0, nC 0]]) (by simp) (at_checkpoint_Encode hx16)) ?_
  refine goD f0 ?_
  revert hs; refine bK fun y21 hx22 hs => ?_
  refine cP f0 (at_law49_one hx22) ?_
  refine goD f0 ?_
  revert hs; refine bK fun y23 hx24 hs => ?_
  refine cP f0 (at_checkpoint_Decode hx24) ?_
  refine goD f0 ?_
  revert hs; refine bK fun y29 hx30 hs => ?_
  refine cP f0 (at_law49_one hx30) ?_
  refine goD f0 ?_
  revert hs; refine bK fun y31 hx32 hs => ?_
  refine cP f0 (at_checkpoint_Decode hx32) ?_
  refine goD f0 ?_
  revert hs; refine bK fun y37 hx38 hs => ?_
  refine cP f0 (at_law49_one hx38) ?_
  refine goD f0 ?_
  revert hs; refine bK fun y39 hx40 hs => ?_
  refine cP f0 (at_unz (args := [.agg (eA y37), .agg [nC 1, nC 4], .agg [.z, bC false, nC (-1), nC 0]]) (by simp) (at_checkpoint_Encode hx40)) ?_
  refine goD f0 ?_
  revert hs; refine bK fun y41 hx42 hs => ?_
  refine cA f0 (at_unz (args := [.cell (.z), iV .i64 y7.1]) (by simp) (at_frame_AppendUint hx42)) ?_
  revert hs; refine lK fun l43 hx44 hs => ?_
  have hx44n : l43.length = 4 := by rw [hx44]; rfl
  obtain ⟨g45, hs⟩ := guardO_some hs
  have g45 := limB_t g45
  obtain ⟨g45a, g45b⟩ := g45
  revert hs; refine lK fun l46 hx47 hs => ?_
  have hx47n : l46.length = (y41.length + l43.length) := by rw [hx47]; simp
  have hx47e : encL l46 = encL y41 ++ encL l43 := by rw [hx47]; simp
  have F1 := an hx44 (an hx47n hx47e)
  refine goE F1 F1 ?_
  refine gsel_split (fun h48 => ?_) (fun h48 => ?_)
  · replace hs := condT h48 hs
    have f49 : (encL l46).take (l46.length) = encL l46 := encL_take1 _ (by simp)
    have F2 := an F1 h48
    try simp [F2] at f49
    have f49l : l46.length * 1 ≤ (encL l46).length := by rw [encL_length]; simp
    try simp [F2] at f49l
    have F3 := an F2 (an f49 f49l)
    refine goE F3 F3 ?_
    revert hs; refine bK fun y50 hx51 hs => ?_
    refine cA F3 (at_frame_Seal hx51) ?_
    refine goE F3 F3 ?_
    revert hs; refine bK fun y52 hx53 hs => ?_
    refine cP F3 (at_law49_bytes hx53) ?_
    refine goE F3 F3 ?_
    obtain ⟨g54, hs⟩ := guardO_some hs
    refine gsel_call (fun hg => at_unz (args := [.agg (eA y23.1), .agg [.z, bC false, nC 0, nC 0]]) (by simp) (at_r49_Same (under_call g54 hg))) (fun hg => by (try simp at hg); (first | simp [hg, F3]); try rfl) (fun hg => by (try simp at hg); simp [hg, F3]) (by simp) ?_
    refine goE F3 F3 ?_
    obtain ⟨g55, hs⟩ := guardO_some hs
    refine gsel_call (fun hg => at_checkpoint_Valid (under_call g55 hg)) (fun hg => by (try simp at hg); (first | simp [hg, F3]); try rfl) (fun hg => by (try simp at hg); simp [hg, F3]) (by simp) ?_
    refine goE F3 F3 ?_
    obtain ⟨g56, hs⟩ := guardO_some hs
    refine gsel_call (fun hg => at_unz (args := [.agg [.z, bC false, nC 0, nC (-1)]]) (by simp) (at_checkpoint_Valid (under_call g56 hg))) (fun hg => by (try simp at hg); (first | simp [hg, F3]); try rfl) (fun hg => by (try simp at hg); simp [hg, F3]) (by simp) ?_
    refine goE F3 F3 ?_
    obtain rfl := sj hs
    exact hQ _ _ (rg F3 (Gh.refl _))
  · replace hs := condF h48 hs
    have F4 := an F1 h48
    refine goE F4 F4 ?_
    obtain rfl := sj hs
    exact hQ _ _ (rg F4 (Gh.refl _))
end Go.Dc
end
section
set_option linter.all false
namespace Go.Dc
open Go Go.Hw Go.Proofs
set_option maxRecDepth 100000

def law49_CheckpointDigest (fuelN : Nat) (a0 : Program) (a1 : Config) : Option Bool :=
  Option.bind (r26_Small fuelN a0 a1.Bound) (fun y1 => cond (!y1) (Option.bind (law49_awake fuelN) (fun y4 => some y4)) (Option.bind (checkpoint_Digest fuelN a0 a1) (fun y6 => Option.bind (r49_Digest fuelN a0 a1) (fun y8 => Option.bind (law49_awake fuelN) (fun y10 => some (andB (andB y10 (eqI y6.1 y8.1)) (eqI y6.2 y8.2)))))))

set_option maxHeartbeats 2000000 in
theorem at_law49_CheckpointDigest {fuelN : Nat} {a0 : Program} {a1 : Config} {r : Bool} (hs : law49_CheckpointDigest fuelN a0 a1 = some r) : At Tryd.prog 3 [.agg (eA a0), .agg (eA a1)] (bV r) := by
  refine at_bound (by kernel_rfl) fun hb => ?_
  have hb1 : LenOk (.sl a0.Vars.length (encL a0.Vars)) := lkc hb
  have hb2 : LenOk (.sl a0.Mutexes.length (encL a0.Mutexes)) := lkc hb
  have hb3 : LenOk (.sl a0.Conds.length (encL a0.Conds)) := lkc hb
  have hb4 : LenOk (.sl a0.Funcs.length (encL a0.Funcs)) := lkc hb
  have hb5 : LenOk (.sl a0.Threads.length (encL a0.Threads)) := lkc hb
  refine at_code mixed Tryd.func3 (by kernel_rfl) rfl (by kernel_rfl) rfl fun Q hQ => ?_
  rw [law49_CheckpointDigest] at hs
  refine goR f0 ?_
  revert hs; refine bK fun y1 hx2 hs => ?_
  refine cP f0 (at_r26_Small hx2) ?_
  refine goR f0 ?_
  revert hs; refine cS f0 ?_ ?_ <;> intro h3 hs
  · refine goR f0 ?_
    revert hs; refine bK fun y4 hx5 hs => ?_
    refine cP f0 (at_law49_awake hx5) ?_
    refine goR f0 ?_
    obtain rfl := sj hs
    exact hQ _ _ (rg f0 (Gh.refl _))
  · refine goR f0 ?_
    revert hs; refine bK fun y6 hx7 hs => ?_
    refine cP f0 (at_checkpoint_Digest hx7) ?_
    refine goR f0 ?_
    revert hs; refine bK fun y8 hx9 hs => ?_
    refine cP f0 (at_r49_Digest hx9) ?_
    refine goR f0 ?_
    revert hs; refine bK fun y10 hx11 hs => ?_
    refine cP f0 (at_law49_awake hx11) ?_
    refine goG f0 f0 ?_
    obtain rfl := sj hs
    exact hQ _ _ (rg f0 (Gh.refl _))
end Go.Dc
end
section
set_option linter.all false
namespace Go.Dc.Pl
open Go Go.Hw Go.Dc
set_option maxRecDepth 100000
theorem awake_t : law49_awake 67108864 = some true := by kernel_rfl
theorem law_digest (p : Program) (c : Config) : law49_CheckpointDigest 67108864 p c = some true := by
  obtain ⟨b, hb, hs⟩ := small26 p c.Bound (f := 67108864) (by omega)
  rw [law49_CheckpointDigest, hb, awake_t, Option.bind_some]
  cases b with
  | false => rfl
  | true =>
    have h := hs rfl
    rw [own_digest (by omega) c h, ref_digest (by omega) c h]
    simp [eqI_d, andB_d]
end Go.Dc.Pl
end
section
set_option linter.all false
namespace Go.Hw
variable [Globals]
section
variable {H : Type} {enc : TypeId × Value → H} {P : Program} {w : World} {sp : Nat → Bool} {held : Bool}
end
end Go.Hw
end
section
set_option linter.all false
namespace Go.Dc
open Go Go.Hw Go.Proofs
set_option maxRecDepth 100000
theorem dec9 {H : Type} {n : Nat} {d : DataW H} {c : List CV} (h : cvD Tryd.prog n 9 d = some c) : ∃ x : ByteArray, True ∧ c = Enc.enc x := by
  obtain ⟨m, rfl⟩ := cvD_string Tryd.underlying9 h
  exact ⟨m, trivial, rfl⟩
theorem dec3 {H : Type} {n : Nat} {d : DataW H} {c : List CV} (h : cvD Tryd.prog n 3 d = some c) : ∃ x : Int, (-9223372036854775808 ≤ x ∧ x ≤ 9223372036854775807) ∧ c = Enc.enc x := by
  obtain ⟨m, hm, rfl⟩ := cvD_int Tryd.underlying3 h
  exact ⟨m, by simpa [IntKind.min, IntKind.max, IntKind.signed, IntKind.bits] using hm, rfl⟩
def OkVar (x : Var) : Prop := (fun _ : ByteArray => True) x.Name ∧ (fun x : Int => -9223372036854775808 ≤ x ∧ x ≤ 9223372036854775807) x.Init
theorem dec66 {H : Type} {n : Nat} {d : DataW H} {c : List CV} (h : cvD Tryd.prog n 66 d = some c) : ∃ x : Var, OkVar x ∧ c = Enc.enc x := by
  obtain ⟨m, l, rfl, rfl, hl, h⟩ := cvD_struct Tryd.underlying66 h
  have hl : l.length = 2 := hl
  match l, hl with
  | [d0, d1], _ =>
    simp only [List.zipWith] at h
    obtain ⟨a0, b0, h0, k1, rfl⟩ := concatM_cons h
    obtain ⟨a1, b1, h1, k2, rfl⟩ := concatM_cons k1
    obtain rfl := concatM_nil k2
    obtain ⟨x0, q0, rfl⟩ := dec9 h0
    obtain ⟨x1, q1, rfl⟩ := dec3 h1
    exact ⟨⟨x0, x1⟩, ⟨q0, q1⟩, rfl⟩
theorem dec22 {H : Type} {n : Nat} {d : DataW H} {c : List CV} (h : cvD Tryd.prog n 22 d = some c) : ∃ x : List Var, (∀ y ∈ x, (OkVar) y) ∧ c = Enc.enc x := by
  obtain ⟨L, hQ, rfl⟩ := cvD_sliceQ (g := Enc.enc) (Q := OkVar) Tryd.underlying22 (fun n d c h => dec66 h) h
  exact ⟨L, hQ, rfl⟩
theorem dec23 {H : Type} {n : Nat} {d : DataW H} {c : List CV} (h : cvD Tryd.prog n 23 d = some c) : ∃ x : List ByteArray, (∀ y ∈ x, (fun _ : ByteArray => True) y) ∧ c = Enc.enc x := by
  obtain ⟨L, hQ, rfl⟩ := cvD_sliceQ (g := Enc.enc) (Q := fun _ : ByteArray => True) Tryd.underlying23 (fun n d c h => dec9 h) h
  exact ⟨L, hQ, rfl⟩
theorem dec68 {H : Type} {n : Nat} {d : DataW H} {c : List CV} (h : cvD Tryd.prog n 68 d = some c) : ∃ x : Int, (-9223372036854775808 ≤ x ∧ x ≤ 9223372036854775807) ∧ c = Enc.enc x := by
  obtain ⟨m, hm, rfl⟩ := cvD_int Tryd.underlying68 h
  exact ⟨m, by simpa [IntKind.min, IntKind.max, IntKind.signed, IntKind.bits] using hm, rfl⟩
theorem dec69 {H : Type} {n : Nat} {d : DataW H} {c : List CV} (h : cvD Tryd.prog n 69 d = some c) : ∃ x : Int, (-9223372036854775808 ≤ x ∧ x ≤ 9223372036854775807) ∧ c = Enc.enc x := by
  obtain ⟨m, hm, rfl⟩ := cvD_int Tryd.underlying69 h
  exact ⟨m, by simpa [IntKind.min, IntKind.max, IntKind.signed, IntKind.bits] using hm, rfl⟩
theorem dec70 {H : Type} {n : Nat} {d : DataW H} {c : List CV} (h : cvD Tryd.prog n 70 d = some c) : ∃ x : Int, (-9223372036854775808 ≤ x ∧ x ≤ 9223372036854775807) ∧ c = Enc.enc x := by
  obtain ⟨m, hm, rfl⟩ := cvD_int Tryd.underlying70 h
  exact ⟨m, by simpa [IntKind.min, IntKind.max, IntKind.signed, IntKind.bits] using hm, rfl⟩
def OkInst (x : Inst) : Prop := (fun x : Int => -9223372036854775808 ≤ x ∧ x ≤ 9223372036854775807) x.Op ∧ (fun x : Int => -9223372036854775808 ≤ x ∧ x ≤ 9223372036854775807) x.A ∧ (fun x : Int => -9223372036854775808 ≤ x ∧ x ≤ 9223372036854775807) x.B ∧ (fun x : Int => -9223372036854775808 ≤ x ∧ x ≤ 9223372036854775807) x.C ∧ (fun x : Int => -9223372036854775808 ≤ x ∧ x ≤ 9223372036854775807) x.Obj ∧ (fun x : Int => -9223372036854775808 ≤ x ∧ x ≤ 9223372036854775807) x.N ∧ (fun x : Int => -9223372036854775808 ≤ x ∧ x ≤ 9223372036854775807) x.Fn ∧ (fun x : Int => -9223372036854775808 ≤ x ∧ x ≤ 9223372036854775807) x.Order
theorem dec72 {H : Type} {n : Nat} {d : DataW H} {c : List CV} (h : cvD Tryd.prog n 72 d = some c) : ∃ x : Inst, OkInst x ∧ c = Enc.enc x := by
  obtain ⟨m, l, rfl, rfl, hl, h⟩ := cvD_struct Tryd.underlying72 h
  have hl : l.length = 8 := hl
  match l, hl with
  | [d0, d1, d2, d3, d4, d5, d6, d7], _ =>
    simp only [List.zipWith] at h
    obtain ⟨a0, b0, h0, k1, rfl⟩ := concatM_cons h
    obtain ⟨a1, b1, h1, k2, rfl⟩ := concatM_cons k1
    obtain ⟨a2, b2, h2, k3, rfl⟩ := concatM_cons k2
    obtain ⟨a3, b3, h3, k4, rfl⟩ := concatM_cons k3
    obtain ⟨a4, b4, h4, k5, rfl⟩ := concatM_cons k4
    obtain ⟨a5, b5, h5, k6, rfl⟩ := concatM_cons k5
    obtain ⟨a6, b6, h6, k7, rfl⟩ := concatM_cons k6
    obtain ⟨a7, b7, h7, k8, rfl⟩ := concatM_cons k7
    obtain rfl := concatM_nil k8
    obtain ⟨x0, q0, rfl⟩ := dec68 h0
    obtain ⟨x1, q1, rfl⟩ := dec3 h1
    obtain ⟨x2, q2, rfl⟩ := dec3 h2
    obtain ⟨x3, q3, rfl⟩ := dec3 h3
    obtain ⟨x4, q4, rfl⟩ := dec3 h4
    obtain ⟨x5, q5, rfl⟩ := dec3 h5
    obtain ⟨x6, q6, rfl⟩ := dec69 h6
    obtain ⟨x7, q7, rfl⟩ := dec70 h7
    exact ⟨⟨x0, x1, x2, x3, x4, x5, x6, x7⟩, ⟨q0, q1, q2, q3, q4, q5, q6, q7⟩, rfl⟩
theorem dec54 {H : Type} {n : Nat} {d : DataW H} {c : List CV} (h : cvD Tryd.prog n 54 d = some c) : ∃ x : List Inst, (∀ y ∈ x, (OkInst) y) ∧ c = Enc.enc x := by
  obtain ⟨L, hQ, rfl⟩ := cvD_sliceQ (g := Enc.enc) (Q := OkInst) Tryd.underlying54 (fun n d c h => dec72 h) h
  exact ⟨L, hQ, rfl⟩
def OkFunc (x : Func) : Prop := (fun _ : ByteArray => True) x.Name ∧ (fun l : List Inst => ∀ x ∈ l, (OkInst) x) x.Code
theorem dec56 {H : Type} {n : Nat} {d : DataW H} {c : List CV} (h : cvD Tryd.prog n 56 d = some c) : ∃ x : Func, OkFunc x ∧ c = Enc.enc x := by
  obtain ⟨m, l, rfl, rfl, hl, h⟩ := cvD_struct Tryd.underlying56 h
  have hl : l.length = 2 := hl
  match l, hl with
  | [d0, d1], _ =>
    simp only [List.zipWith] at h
    obtain ⟨a0, b0, h0, k1, rfl⟩ := concatM_cons h
    obtain ⟨a1, b1, h1, k2, rfl⟩ := concatM_cons k1
    obtain rfl := concatM_nil k2
    obtain ⟨x0, q0, rfl⟩ := dec9 h0
    obtain ⟨x1, q1, rfl⟩ := dec54 h1
    exact ⟨⟨x0, x1⟩, ⟨q0, q1⟩, rfl⟩
theorem dec24 {H : Type} {n : Nat} {d : DataW H} {c : List CV} (h : cvD Tryd.prog n 24 d = some c) : ∃ x : List Func, (∀ y ∈ x, (OkFunc) y) ∧ c = Enc.enc x := by
  obtain ⟨L, hQ, rfl⟩ := cvD_sliceQ (g := Enc.enc) (Q := OkFunc) Tryd.underlying24 (fun n d c h => dec56 h) h
  exact ⟨L, hQ, rfl⟩
def OkStart (x : Start) : Prop := (fun x : Int => -9223372036854775808 ≤ x ∧ x ≤ 9223372036854775807) x.Func ∧ (fun x : Int => -9223372036854775808 ≤ x ∧ x ≤ 9223372036854775807) x.Arg
theorem dec74 {H : Type} {n : Nat} {d : DataW H} {c : List CV} (h : cvD Tryd.prog n 74 d = some c) : ∃ x : Start, OkStart x ∧ c = Enc.enc x := by
  obtain ⟨m, l, rfl, rfl, hl, h⟩ := cvD_struct Tryd.underlying74 h
  have hl : l.length = 2 := hl
  match l, hl with
  | [d0, d1], _ =>
    simp only [List.zipWith] at h
    obtain ⟨a0, b0, h0, k1, rfl⟩ := concatM_cons h
    obtain ⟨a1, b1, h1, k2, rfl⟩ := concatM_cons k1
    obtain rfl := concatM_nil k2
    obtain ⟨x0, q0, rfl⟩ := dec3 h0
    obtain ⟨x1, q1, rfl⟩ := dec3 h1
    exact ⟨⟨x0, x1⟩, ⟨q0, q1⟩, rfl⟩
theorem dec25 {H : Type} {n : Nat} {d : DataW H} {c : List CV} (h : cvD Tryd.prog n 25 d = some c) : ∃ x : List Start, (∀ y ∈ x, (OkStart) y) ∧ c = Enc.enc x := by
  obtain ⟨L, hQ, rfl⟩ := cvD_sliceQ (g := Enc.enc) (Q := OkStart) Tryd.underlying25 (fun n d c h => dec74 h) h
  exact ⟨L, hQ, rfl⟩
def OkProgram (x : Program) : Prop := (fun l : List Var => ∀ x ∈ l, (OkVar) x) x.Vars ∧ (fun l : List ByteArray => ∀ x ∈ l, (fun _ : ByteArray => True) x) x.Mutexes ∧ (fun l : List ByteArray => ∀ x ∈ l, (fun _ : ByteArray => True) x) x.Conds ∧ (fun l : List Func => ∀ x ∈ l, (OkFunc) x) x.Funcs ∧ (fun l : List Start => ∀ x ∈ l, (OkStart) x) x.Threads
theorem dec27 {H : Type} {n : Nat} {d : DataW H} {c : List CV} (h : cvD Tryd.prog n 27 d = some c) : ∃ x : Program, OkProgram x ∧ c = Enc.enc x := by
  obtain ⟨m, l, rfl, rfl, hl, h⟩ := cvD_struct Tryd.underlying27 h
  have hl : l.length = 5 := hl
  match l, hl with
  | [d0, d1, d2, d3, d4], _ =>
    simp only [List.zipWith] at h
    obtain ⟨a0, b0, h0, k1, rfl⟩ := concatM_cons h
    obtain ⟨a1, b1, h1, k2, rfl⟩ := concatM_cons k1
    obtain ⟨a2, b2, h2, k3, rfl⟩ := concatM_cons k2
    obtain ⟨a3, b3, h3, k4, rfl⟩ := concatM_cons k3
    obtain ⟨a4, b4, h4, k5, rfl⟩ := concatM_cons k4
    obtain rfl := concatM_nil k5
    obtain ⟨x0, q0, rfl⟩ := dec22 h0
    obtain ⟨x1, q1, rfl⟩ := dec23 h1
    obtain ⟨x2, q2, rfl⟩ := dec23 h2
    obtain ⟨x3, q3, rfl⟩ := dec24 h3
    obtain ⟨x4, q4, rfl⟩ := dec25 h4
    exact ⟨⟨x0, x1, x2, x3, x4⟩, ⟨q0, q1, q2, q3, q4⟩, rfl⟩
theorem open27 {H : Type} {enc : TypeId × Value → H} {W : World} {sp : Nat → Bool} {held : Bool} {v : Value} {d : DataW H} {p : List MemPlace} {r : Go.Reach} {b0 : Nat} (hv : Value.okWide Tryd.prog W r b0 27 v) (h : DataW.Trod enc Tryd.prog W 0 sp held 27 v d p) :
    ∃ x : Program, OkProgram x ∧ AVRep W m0 (fun _ => False) v (.agg ((Enc.enc x).map .p)) := by
  obtain ⟨cvs, e, hr⟩ := rep_struct (m := 8) Tryd.underlying27 (by kernel_rfl) hv h
  obtain ⟨x, hx, rfl⟩ := dec27 e
  exact ⟨x, hx, hr⟩
theorem dec28 {H : Type} {n : Nat} {d : DataW H} {c : List CV} (h : cvD Tryd.prog n 28 d = some c) : ∃ x : Int, (-9223372036854775808 ≤ x ∧ x ≤ 9223372036854775807) ∧ c = Enc.enc x := by
  obtain ⟨m, hm, rfl⟩ := cvD_int Tryd.underlying28 h
  exact ⟨m, by simpa [IntKind.min, IntKind.max, IntKind.signed, IntKind.bits] using hm, rfl⟩
def OkConfig (x : Config) : Prop := (fun x : Int => -9223372036854775808 ≤ x ∧ x ≤ 9223372036854775807) x.Model ∧ (fun x : Int => -9223372036854775808 ≤ x ∧ x ≤ 9223372036854775807) x.Bound
theorem dec30 {H : Type} {n : Nat} {d : DataW H} {c : List CV} (h : cvD Tryd.prog n 30 d = some c) : ∃ x : Config, OkConfig x ∧ c = Enc.enc x := by
  obtain ⟨m, l, rfl, rfl, hl, h⟩ := cvD_struct Tryd.underlying30 h
  have hl : l.length = 2 := hl
  match l, hl with
  | [d0, d1], _ =>
    simp only [List.zipWith] at h
    obtain ⟨a0, b0, h0, k1, rfl⟩ := concatM_cons h
    obtain ⟨a1, b1, h1, k2, rfl⟩ := concatM_cons k1
    obtain rfl := concatM_nil k2
    obtain ⟨x0, q0, rfl⟩ := dec28 h0
    obtain ⟨x1, q1, rfl⟩ := dec3 h1
    exact ⟨⟨x0, x1⟩, ⟨q0, q1⟩, rfl⟩
theorem open30 {H : Type} {enc : TypeId × Value → H} {W : World} {sp : Nat → Bool} {held : Bool} {v : Value} {d : DataW H} {p : List MemPlace} {r : Go.Reach} {b0 : Nat} (hv : Value.okWide Tryd.prog W r b0 30 v) (h : DataW.Trod enc Tryd.prog W 0 sp held 30 v d p) :
    ∃ x : Config, OkConfig x ∧ AVRep W m0 (fun _ => False) v (.agg ((Enc.enc x).map .p)) := by
  obtain ⟨cvs, e, hr⟩ := rep_struct (m := 8) Tryd.underlying30 (by kernel_rfl) hv h
  obtain ⟨x, hx, rfl⟩ := dec30 e
  exact ⟨x, hx, hr⟩
theorem gN1 : Tryd.prog.globalNamed "modelcheck/value.names" = some 1 := by kernel_rfl
theorem gN0 : Tryd.prog.globalNamed "modelcheck/inst.rows" = some 0 := by kernel_rfl
/-- The package variables as the rows lay them. -/
theorem gT1 : (Tryd.prog.globals[1]?).map (·.type) = some 158 := by kernel_rfl
set_option maxRecDepth 100000 in
theorem gC1 : cvD Tryd.prog 6 158 (Go.Proofs.YtjbebaachciedaaDoor.Rows.laid_modelcheck_value_names (H := Unit)) = some (encL namesTab) := by kernel_rfl
theorem gT0 : (Tryd.prog.globals[0]?).map (·.type) = some 154 := by kernel_rfl
set_option maxRecDepth 100000 in
theorem gC0 : cvD Tryd.prog 6 154 (Go.Proofs.YtjbebaachciedaaDoor.Rows.laid_modelcheck_inst_rows (H := Unit)) = some (encL rowsTab) := by kernel_rfl
set_option maxRecDepth 100000 in
theorem globs {W : World} (laid : List (String × DataW Unit)) (he : laid = [("modelcheck/value.names", Go.Proofs.YtjbebaachciedaaDoor.Rows.laid_modelcheck_value_names), ("modelcheck/inst.rows", Go.Proofs.YtjbebaachciedaaDoor.Rows.laid_modelcheck_inst_rows)])
    (h : laidMetH Tryd.prog laid W) : ∀ g cs, Globals.G g = some cs → AVRep W m0 (fun _ => False) (.pointer (some ⟨g, 0, none⟩)) (.cell (.ep cs 0)) := by
  subst he
  rw [MakeChecks.laidMetH_plain _ _ _ (by kernel_rfl)] at h
  obtain ⟨ps, ⟨g0, t0, cs0, f0, p0, q0, hg0, ht0, hv0, hd0, ⟨g1, t1, cs1, f1, p1, q1, hg1, ht1, hv1, hd1, _, _⟩, _⟩, _, _⟩ := h
  obtain rfl := Option.some.inj (gN1.symm.trans hg0)
  obtain rfl := Option.some.inj (gT1.symm.trans ht0)
  obtain rfl := Option.some.inj (gN0.symm.trans hg1)
  obtain rfl := Option.some.inj (gT0.symm.trans ht1)
  intro g cs hgc
  have hgc : (if g = 0 then some (encL rowsTab) else if g = 1 then some (encL namesTab) else none) = some cs := hgc
  split at hgc
  · rename_i e
    subst e
    cases hgc
    exact rep_global (m := 6) (t := 154) (by kernel_rfl) hd1 gC0 fun j => by simpa using World.var?_cell hg1 hv1 j
  · split at hgc
    · rename_i e
      subst e
      cases hgc
      exact rep_global (m := 6) (t := 158) (by kernel_rfl) hd0 gC1 fun j => by simpa using World.var?_cell hg0 hv0 j
    · cases hgc
end Go.Dc
end
