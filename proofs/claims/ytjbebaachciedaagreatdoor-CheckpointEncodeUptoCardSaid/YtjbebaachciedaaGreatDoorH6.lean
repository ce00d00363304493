/- Contracts of functions, by their numbers, and the laws that walk them. Conditions: as each states. -/
import Derived.Test.YtjbebaachciedaaGreatDoorH4
import Derived.Test.YtjbebaachciedaaGreatDoorH5
import Derived.Test.YtjbebaachciedaaGreatDoorH3
import Derived.KernelRfl
import Derived.Test.YtjbebaachciedaaGreatDoorRows
import Derived.LaidMore
import Derived.MakeChecks
set_option linter.all false
section
set_option linter.all false
namespace Go.Dc
open Go Go.Hw Go.Proofs
set_option maxRecDepth 100000
def checkpoint_text_L1 (fuelN : Nat) : List Var -> Nat -> (List UInt8) -> Option (List UInt8)
 | [], k71, l72 => some (l72)
 | x95 :: q91, k71, l72 => Option.bind (frame_AppendString fuelN l72 x95.Name) (fun y98 => Option.bind (some ([x95.Init])) (fun l100 => Option.bind (checkpoint_text_1 fuelN l100 y98) (fun y102 => checkpoint_text_L1 fuelN q91 (k71 + 1) y102)))
def checkpoint_text_L3 (fuelN : Nat) : List Inst -> Nat -> (List UInt8) -> Option (List UInt8)
 | [], k968, l969 => some (l969)
 | x990 :: q986, k968, l969 => Option.bind (some ([x990.Op, x990.A, x990.B, x990.C, x990.Obj, x990.N, x990.Fn, x990.Order])) (fun l993 => Option.bind (checkpoint_text_1 fuelN l993 l969) (fun y995 => checkpoint_text_L3 fuelN q986 (k968 + 1) y995))
def checkpoint_text_L2 (fuelN : Nat) (a0 : Program) : Nat -> Int -> (List UInt8) -> Option (List UInt8)
 | 0, _, _ => none
 | q893 + 1, i776, l777 => cond (ltI i776 ((a0.Funcs.length : Nat) : Int)) (Option.bind (α := (List UInt8)) (Option.bind (getI a0.Funcs i776) (fun x950 => Option.bind (frame_AppendString fuelN l777 x950.Name) (fun y953 => Option.bind (checkpoint_text_2 fuelN ((x950.Code.length : Nat) : Int) y953) (fun y955 => Option.bind (checkpoint_text_L3 fuelN x950.Code 0 y955) (fun l979 => some (l979)))))) (fun l945 => checkpoint_text_L2 fuelN a0 q893 (IntKind.i64.wrap (i776 + 1)) l945)) (some (l777))
def checkpoint_text_L4 (fuelN : Nat) : List Start -> Nat -> (List UInt8) -> Option (List UInt8)
 | [], k1055, l1056 => some (l1056)
 | x1077 :: q1073, k1055, l1056 => Option.bind (some ([x1077.Func, x1077.Arg])) (fun l1080 => Option.bind (checkpoint_text_1 fuelN l1080 l1056) (fun y1082 => checkpoint_text_L4 fuelN q1073 (k1055 + 1) y1082))
def checkpoint_text (fuelN : Nat) (a0 : Program) (a1 : Config) : Option (List UInt8) :=
 Option.bind (some ([a1.Model, a1.Bound])) (fun l1 => Option.bind (checkpoint_text_1 fuelN l1 ([] : List UInt8)) (fun y3 => Option.bind (checkpoint_text_2 fuelN ((a0.Vars.length : Nat) : Int) y3) (fun y5 => Option.bind (α := (List UInt8)) (Option.bind (checkpoint_text_L1 fuelN a0.Vars 0 y5) (fun l84 => some (l84))) (fun l53 => Option.bind (checkpoint_text_3_checkpoint_text_2 fuelN a0.Mutexes l53) (fun y104 => Option.bind (checkpoint_text_3_checkpoint_text_2 fuelN a0.Conds y104) (fun y106 => Option.bind (checkpoint_text_2 fuelN ((a0.Funcs.length : Nat) : Int) y106) (fun y108 => Option.bind (α := (List UInt8)) (Option.bind (checkpoint_text_L2 fuelN a0 fuelN 0 y108) (fun l886 => some (l886))) (fun l551 => Option.bind (checkpoint_text_2 fuelN ((a0.Threads.length : Nat) : Int) l551) (fun y997 => Option.bind (α := (List UInt8)) (Option.bind (checkpoint_text_L4 fuelN a0.Threads 0 y997) (fun l1066 => some (l1066))) (fun l1039 => some l1039))))))))))
set_option maxHeartbeats 2000000 in
theorem at_checkpoint_text {fuelN : Nat} {a0 : Program} {a1 : Config} {r : (List UInt8)} (hs : checkpoint_text fuelN a0 a1 = some r) : CAt Tryz.prog 55 [.agg (eA a0), .agg (eA a1)] [] (.ret (.cell (.sl (.r 0) 0 1 r.length))) [(.r 0, .pure (encL r))] := by
 refine at_bound (by kernel_rfl) fun hb => ?_
 have hb1 : LenOk (.sl a0.Vars.length (encL a0.Vars)) := lkc hb
 have hb2 : LenOk (.sl a0.Mutexes.length (encL a0.Mutexes)) := lkc hb
 have hb3 : LenOk (.sl a0.Conds.length (encL a0.Conds)) := lkc hb
 have hb4 : LenOk (.sl a0.Funcs.length (encL a0.Funcs)) := lkc hb
 have hb5 : LenOk (.sl a0.Threads.length (encL a0.Threads)) := lkc hb
 refine at_code mixed Tryz.func55 (by kernel_rfl) rfl (by kernel_rfl) rfl fun Q hQ => ?_
 rw [checkpoint_text] at hs
 refine goN f0 ?_
 refine awp_reg ?_
 refine goN f0 ?_
 refine awp_reg ?_
 refine goN f0 ?_
 refine awp_reg ?_
 refine goN f0 ?_
 refine awp_reg ?_
 refine goN f0 ?_
 refine awp_reg ?_
 refine goN f0 ?_
 refine awp_gh (by rfl) ((Gh.voidB _ (.l 1) (.o 2 0 0) 0 1 rfl (by simp; rfl) (by first | rfl | simp) (by simp)).trans (Gh.close _ (.o 2 0 0) 0)) ?_
 try simp only [St.frz, St.pur]
 revert hs; refine lK fun l1 hx2 hs => ?_
 have hx2n : l1.length = 2 := by rw [hx2]; rfl
 refine goR hx2 ?_
 revert hs; refine bK fun y3 hx4 hs => ?_
 refine cB hx2 (at_checkpoint_text_1 hx4) [.o 2 0 0] ?_
 refine goR hx2 ?_
 revert hs; refine bK fun y5 hx6 hs => ?_
 refine cB hx2 (at_checkpoint_text_2 hx6) [.o 2 0 0] ?_
 refine goR2 hx2 ?_
 revert hs; refine bK fun o55 e54 hs => ?_
 refine awp_cutK (fun (v : (List UInt8)) (σ : St) => some (v) = some o55 /\ σ.env 2 = .cell (.ref (.o 1 0 0) 0) /\ σ.env 5 = .cell (.ref (.o 2 0 0) 0) /\ σ.env 6 = .cell (.fn 82 [.inl (.o 2 0 0)]) /\ σ.env 7 = .cell (.ref (.o 4 1 0) 0) /\ σ.env 8 = .cell (.fn 84 [.inl (.o 4 1 0), .inl (.o 2 0 0)]) /\ σ.hp (.o 1 0 0) = some (.cells (eA a0)) /\ σ.hp (.o 2 0 0) = some (.cells [.own (.sp 1 v.length (encL v))]) /\ σ.hp (.o 4 1 0) = some (.cells [.fn 83 [.inl (.o 2 0 0)]]) /\ 8 <= σ.gen) (by rfl) (fun Q hK56 hX57 => ?_) (fun l53 σ3 hp => ?_)
 ·refine goR hx2 ?_
  revert e54; refine bK fun o86 e85 e54 => ?_
  refine awp_loopW (fun (v : (List Var) × Nat × (List UInt8)) (σ : St) => checkpoint_text_L1 fuelN v.1 v.2.1 v.2.2 = some o86 /\ v.1 = a0.Vars.drop v.2.1 /\ σ.env 2 = .cell (.ref (.o 1 0 0) 0) /\ σ.env 5 = .cell (.ref (.o 2 0 0) 0) /\ σ.env 6 = .cell (.fn 82 [.inl (.o 2 0 0)]) /\ σ.env 7 = .cell (.ref (.o 4 1 0) 0) /\ σ.env 8 = .cell (.fn 84 [.inl (.o 4 1 0), .inl (.o 2 0 0)]) /\ σ.env 33 = .cell (sC a0.Vars) /\ σ.env 34 = iV .i64 ((a0.Vars.length : Nat) : Int) /\ σ.env 35 = iV .i64 ((v.2.1 : Nat) : Int) /\ σ.hp (.o 1 0 0) = some (.cells (eA a0)) /\ σ.hp (.o 2 0 0) = some (.cells [.own (.sp 1 v.2.2.length (encL v.2.2))]) /\ σ.hp (.o 4 1 0) = some (.cells [.fn 83 [.inl (.o 2 0 0)]]) /\ 8 <= σ.gen) (fun v => v.1.length) _ (Gh.refl _) (a0.Vars, 0, y5) ⟨e85, by simp, pv hx2, pv hx2, pv hx2, pv hx2, pv hx2, pv hx2, pv hx2, pv hx2, pv hx2, pv hx2, pv hx2, pg⟩ fun v σ6 hp L87 hL88 => ?_
  obtain ⟨q90, k71, l72⟩ := v
  dsimp only at hp hL88
  obtain ⟨e85, hd89, h5_2, h5_5, h5_6, h5_7, h5_8, h5_33, h5_34, h5_35, g5_0, g5_1, g5_2, n5_g⟩ := hp
  have n5_0 : ¬ (σ6.gen = 0) := by omega
  have n5_1 : ¬ (σ6.gen = 1) := by omega
  have n5_2 : ¬ (σ6.gen = 2) := by omega
  have n5_3 : ¬ (σ6.gen = 3) := by omega
  rcases q90 with _ | ⟨x95, q91⟩
  ·have hlt92 := drop_end hd89
   rw [checkpoint_text_L1] at e85; try dsimp only at e85
   have F1 := an h5_2 (an h5_5 (an h5_6 (an h5_7 (an h5_8 (an h5_33 (an h5_34 (an h5_35 (an g5_0 (an g5_1 (an g5_2 (an n5_0 (an n5_1 (an n5_2 n5_3)))))))))))))
   refine goR F1 ?_
   refine condK_f (by simp [ltI]; omega) ?_
   obtain rfl := sj e85
   try dsimp only at e54
   exact hK56 l72 _ _ (Gh.refl _) ⟨e54, pv F1, pv F1, pv F1, pv F1, pv F1, pv F1, pv F1, pv F1, pg⟩
  ·obtain ⟨hx94, hlt92, hd96⟩ := drop_next hd89
   have ew93 := wrap_succ hlt92 (hb1).len
   rw [checkpoint_text_L1] at e85; try dsimp only at e85
   have F2 := an h5_2 (an h5_5 (an h5_6 (an h5_7 (an h5_8 (an h5_33 (an h5_34 (an h5_35 (an g5_0 (an g5_1 (an g5_2 (an n5_0 (an n5_1 (an n5_2 (an n5_3 (an hlt92 ew93)))))))))))))))
   refine goR F2 ?_
   refine condK_t (by simp [ltI]; omega) ?_
   have f97 : partCV Tryz.prog 83 (encL a0.Vars) (k71 * 2) = some (.agg (eA x95)) := partCV_enc hx94 (f := 0) (by simp)
   have F3 := an F2 f97
   refine goR F3 ?_
   revert e85; refine bK fun y98 hx99 e85 => ?_
   refine cA F3 (at_frame_AppendString hx99) ?_
   refine goN F3 ?_
   refine awp_gh (by rfl) (Gh.close _ (.o 2 0 0) 0) ?_
   try simp only [St.frz, St.pur]
   revert e85; refine lK fun l100 hx101 e85 => ?_
   have hx101n : l100.length = 1 := by rw [hx101]; rfl
   have F4 := an F3 hx101
   refine goR F4 ?_
   revert e85; refine bK fun y102 hx103 e85 => ?_
   refine cB F4 (at_checkpoint_text_1 hx103) [.o 2 0 0] ?_
   refine goR F4 ?_
   exact hL88 (q91, (k71 + 1), y102) _ _ (Gh.refl _) ⟨e85, hd96, pv F4, pv F4, pv F4, pv F4, pv F4, pv F4, pv F4, pv F4, pv F4, pv F4, pv F4, pg⟩ (by simp)
 ·obtain ⟨e54, h4_2, h4_5, h4_6, h4_7, h4_8, g4_0, g4_1, g4_2, n4_g⟩ := hp
  obtain rfl := sj e54
  try dsimp only at hs
  have n4_0 : ¬ (σ3.gen = 0) := by omega
  have n4_1 : ¬ (σ3.gen = 1) := by omega
  have n4_2 : ¬ (σ3.gen = 2) := by omega
  have n4_3 : ¬ (σ3.gen = 3) := by omega
  have F5 := an h4_2 (an h4_5 (an h4_6 (an h4_7 (an h4_8 (an g4_0 (an g4_1 (an g4_2 (an n4_0 (an n4_1 (an n4_2 n4_3))))))))))
  refine goR F5 ?_
  revert hs; refine bK fun y104 hx105 hs => ?_
  refine cB F5 (at_checkpoint_text_3_checkpoint_text_2 hx105) [.o 4 1 0, .o 2 0 0] ?_
  refine goR F5 ?_
  revert hs; refine bK fun y106 hx107 hs => ?_
  refine cB F5 (at_checkpoint_text_3_checkpoint_text_2 hx107) [.o 4 1 0, .o 2 0 0] ?_
  refine goR F5 ?_
  revert hs; refine bK fun y108 hx109 hs => ?_
  refine cB F5 (at_checkpoint_text_2 hx109) [.o 2 0 0] ?_
  refine goR2 F5 ?_
  revert hs; refine bK fun o553 e552 hs => ?_
  refine awp_cutK (fun (v : (List UInt8)) (σ : St) => some (v) = some o553 /\ σ.env 2 = .cell (.ref (.o 1 0 0) 0) /\ σ.env 5 = .cell (.ref (.o 2 0 0) 0) /\ σ.env 6 = .cell (.fn 82 [.inl (.o 2 0 0)]) /\ σ.env 7 = .cell (.ref (.o 4 1 0) 0) /\ σ.hp (.o 1 0 0) = some (.cells (eA a0)) /\ σ.hp (.o 2 0 0) = some (.cells [.own (.sp 1 v.length (encL v))]) /\ σ.hp (.o 4 1 0) = some (.cells [.fn 83 [.inl (.o 2 0 0)]]) /\ (σ3.gen + 4) <= σ.gen) (by rfl) (fun Q hK554 hX555 => ?_) (fun l551 σ33 hp => ?_)
  ·refine goR F5 ?_
   revert e552; refine bK fun o888 e887 e552 => ?_
   refine awp_loopW (fun (v : Nat × Int × (List UInt8)) (σ : St) => checkpoint_text_L2 fuelN a0 v.1 v.2.1 v.2.2 = some o888 /\ σ.env 2 = .cell (.ref (.o 1 0 0) 0) /\ σ.env 5 = .cell (.ref (.o 2 0 0) 0) /\ σ.env 6 = .cell (.fn 82 [.inl (.o 2 0 0)]) /\ σ.env 7 = .cell (.ref (.o 4 1 0) 0) /\ σ.env 63 = .cell (sC a0.Funcs) /\ σ.env 64 = iV .i64 ((a0.Funcs.length : Nat) : Int) /\ σ.env 65 = iV .i64 v.2.1 /\ σ.hp (.o 1 0 0) = some (.cells (eA a0)) /\ σ.hp (.o 2 0 0) = some (.cells [.own (.sp 1 v.2.2.length (encL v.2.2))]) /\ σ.hp (.o 4 1 0) = some (.cells [.fn 83 [.inl (.o 2 0 0)]]) /\ (σ3.gen + 4) <= σ.gen) (fun v => v.1) _ (Gh.refl _) (fuelN, 0, y108) ⟨e887, pv F5, pv F5, pv F5, pv F5, pv F5, pv F5, pv F5, pv F5, pv F5, pv F5, pg⟩ fun v σ54 hp L889 hL890 => ?_
   obtain ⟨q892, i776, l777⟩ := v
   dsimp only at hp hL890
   obtain ⟨e887, h53_2, h53_5, h53_6, h53_7, h53_63, h53_64, h53_65, g53_0, g53_1, g53_2, n53_g⟩ := hp
   have n53_0 : ¬ (σ54.gen = 0) := by omega
   have n53_1 : ¬ (σ54.gen = 1) := by omega
   have n53_2 : ¬ (σ54.gen = 2) := by omega
   have n53_3 : ¬ (σ54.gen = 3) := by omega
   rcases q892 with _ | q893
   ·rw [checkpoint_text_L2] at e887; cases e887
   ·rw [checkpoint_text_L2] at e887; try dsimp only at e887
    have F6 := an h53_2 (an h53_5 (an h53_6 (an h53_7 (an h53_63 (an h53_64 (an h53_65 (an g53_0 (an g53_1 (an g53_2 (an n53_0 (an n53_1 (an n53_2 n53_3))))))))))))
    refine goR F6 ?_
    revert e887; refine cS F6 ?_ ?_ <;> intro h897 e887
    ·refine goR2 F6 ?_
     revert e887; refine bK fun o947 e946 e887 => ?_
     refine awp_cutK (fun (v : (List UInt8)) (σ : St) => some (v) = some o947 /\ σ.env 2 = .cell (.ref (.o 1 0 0) 0) /\ σ.env 5 = .cell (.ref (.o 2 0 0) 0) /\ σ.env 6 = .cell (.fn 82 [.inl (.o 2 0 0)]) /\ σ.env 7 = .cell (.ref (.o 4 1 0) 0) /\ σ.env 63 = .cell (sC a0.Funcs) /\ σ.env 64 = iV .i64 ((a0.Funcs.length : Nat) : Int) /\ σ.env 65 = iV .i64 i776 /\ σ.hp (.o 1 0 0) = some (.cells (eA a0)) /\ σ.hp (.o 2 0 0) = some (.cells [.own (.sp 1 v.length (encL v))]) /\ σ.hp (.o 4 1 0) = some (.cells [.fn 83 [.inl (.o 2 0 0)]]) /\ (σ54.gen + 1) <= σ.gen) (by rfl) (fun Q hK948 hX949 => ?_) (fun l945 σ57 hp => ?_)
     ·revert e946; refine bK fun x950 hx951 e946 => ?_
      obtain ⟨hx951a, hx951b, hx951c, hx951d⟩ := getI_some hx951
      have f952 : partCV Tryz.prog 53 (encL a0.Funcs) (((i776).toNat) * 2) = some (.agg (eA x950)) := partCV_enc hx951d (f := 0) (by simp)
      have F7 := an F6 f952
      refine goR F7 ?_
      revert e946; refine bK fun y953 hx954 e946 => ?_
      refine cA F7 (at_frame_AppendString hx954) ?_
      refine goN F7 ?_
      refine awp_gh (by rfl) (Gh.close _ (.o 2 0 0) 0) ?_
      try simp only [St.frz, St.pur]
      refine goR F7 ?_
      revert e946; refine bK fun y955 hx956 e946 => ?_
      refine cB F7 (at_checkpoint_text_2 hx956) [.o 2 0 0] ?_
      refine goR F7 ?_
      revert e946; refine bK fun o981 e980 e946 => ?_
      refine awp_loopW (fun (v : (List Inst) × Nat × (List UInt8)) (σ : St) => checkpoint_text_L3 fuelN v.1 v.2.1 v.2.2 = some o981 /\ v.1 = x950.Code.drop v.2.1 /\ σ.env 2 = .cell (.ref (.o 1 0 0) 0) /\ σ.env 5 = .cell (.ref (.o 2 0 0) 0) /\ σ.env 6 = .cell (.fn 82 [.inl (.o 2 0 0)]) /\ σ.env 7 = .cell (.ref (.o 4 1 0) 0) /\ σ.env 63 = .cell (sC a0.Funcs) /\ σ.env 64 = iV .i64 ((a0.Funcs.length : Nat) : Int) /\ σ.env 65 = iV .i64 i776 /\ σ.env 79 = .cell (sC x950.Code) /\ σ.env 80 = iV .i64 ((x950.Code.length : Nat) : Int) /\ σ.env 81 = iV .i64 ((v.2.1 : Nat) : Int) /\ σ.hp (.o 1 0 0) = some (.cells (eA a0)) /\ σ.hp (.o 2 0 0) = some (.cells [.own (.sp 1 v.2.2.length (encL v.2.2))]) /\ σ.hp (.o 4 1 0) = some (.cells [.fn 83 [.inl (.o 2 0 0)]]) /\ (σ54.gen + 5) <= σ.gen) (fun v => v.1.length) _ (Gh.refl _) (x950.Code, 0, y955) ⟨e980, by simp, pv F7, pv F7, pv F7, pv F7, pv F7, pv F7, pv F7, pv F7, pv F7, pv F7, pv F7, pv F7, pv F7, pg⟩ fun v σ60 hp L982 hL983 => ?_
      obtain ⟨q985, k968, l969⟩ := v
      dsimp only at hp hL983
      obtain ⟨e980, hd984, h59_2, h59_5, h59_6, h59_7, h59_63, h59_64, h59_65, h59_79, h59_80, h59_81, g59_0, g59_1, g59_2, n59_g⟩ := hp
      have n59_0 : ¬ (σ60.gen = 0) := by omega
      have n59_1 : ¬ (σ60.gen = 1) := by omega
      have n59_2 : ¬ (σ60.gen = 2) := by omega
      have n59_3 : ¬ (σ60.gen = 3) := by omega
      rcases q985 with _ | ⟨x990, q986⟩
      ·have hlt987 := drop_end hd984
       rw [checkpoint_text_L3] at e980; try dsimp only at e980
       have F8 := an h59_2 (an h59_5 (an h59_6 (an h59_7 (an h59_63 (an h59_64 (an h59_65 (an h59_79 (an h59_80 (an h59_81 (an g59_0 (an g59_1 (an g59_2 (an n59_0 (an n59_1 (an n59_2 (an n59_3 f952))))))))))))))))
       refine goR F8 ?_
       refine condK_f (by simp [ltI]; omega) ?_
       obtain rfl := sj e980
       try dsimp only at e946
       exact hK948 l969 _ _ (Gh.refl _) ⟨e946, pv F8, pv F8, pv F8, pv F8, pv F8, pv F8, pv F8, pv F8, pv F8, pv F8, pg⟩
      ·obtain ⟨hx989, hlt987, hd991⟩ := drop_next hd984
       have ew988 := wrap_succ hlt987 ((LenOk.elem hb4 hx951d (c := .sl x950.Code.length (encL x950.Code)) (by simp))).len
       rw [checkpoint_text_L3] at e980; try dsimp only at e980
       have F9 := an h59_2 (an h59_5 (an h59_6 (an h59_7 (an h59_63 (an h59_64 (an h59_65 (an h59_79 (an h59_80 (an h59_81 (an g59_0 (an g59_1 (an g59_2 (an n59_0 (an n59_1 (an n59_2 (an n59_3 (an f952 (an hlt987 ew988))))))))))))))))))
       refine goR F9 ?_
       refine condK_t (by simp [ltI]; omega) ?_
       have f992 : partCV Tryz.prog 89 (encL x950.Code) (k968 * 8) = some (.agg (eA x990)) := partCV_enc hx989 (f := 0) (by simp)
       revert e980; refine lK fun l993 hx994 e980 => ?_
       have hx994n : l993.length = 8 := by rw [hx994]; rfl
       have F10 := an F9 (an f992 hx994)
       refine goR F10 ?_
       revert e980; refine bK fun y995 hx996 e980 => ?_
       refine cB F10 (at_checkpoint_text_1 hx996) [.o 2 0 0] ?_
       refine goR F10 ?_
       exact hL983 (q986, (k968 + 1), y995) _ _ (Gh.refl _) ⟨e980, hd991, pv F10, pv F10, pv F10, pv F10, pv F10, pv F10, pv F10, pv F10, pv F10, pv F10, pv F10, pv F10, pv F10, pg⟩ (by simp)
     ·obtain ⟨e946, h58_2, h58_5, h58_6, h58_7, h58_63, h58_64, h58_65, g58_0, g58_1, g58_2, n58_g⟩ := hp
      obtain rfl := sj e946
      try dsimp only at e887
      have n58_0 : ¬ (σ57.gen = 0) := by omega
      have n58_1 : ¬ (σ57.gen = 1) := by omega
      have n58_2 : ¬ (σ57.gen = 2) := by omega
      have n58_3 : ¬ (σ57.gen = 3) := by omega
      have F11 := an h58_2 (an h58_5 (an h58_6 (an h58_7 (an h58_63 (an h58_64 (an h58_65 (an g58_0 (an g58_1 (an g58_2 (an n58_0 (an n58_1 (an n58_2 n58_3))))))))))))
      refine goR F11 ?_
      exact hL890 (q893, IntKind.i64.wrap (i776 + 1), l945) _ _ (Gh.refl _) ⟨e887, pv F11, pv F11, pv F11, pv F11, pv F11, pv F11, pv F11, pv F11, pv F11, pv F11, pg⟩ (by omega)
    ·refine goR F6 ?_
     obtain rfl := sj e887
     try dsimp only at e552
     exact hK554 l777 _ _ (Gh.refl _) ⟨e552, pv F6, pv F6, pv F6, pv F6, pv F6, pv F6, pv F6, pg⟩
  ·obtain ⟨e552, h34_2, h34_5, h34_6, h34_7, g34_0, g34_1, g34_2, n34_g⟩ := hp
   obtain rfl := sj e552
   try dsimp only at hs
   have n34_0 : ¬ (σ33.gen = 0) := by omega
   have n34_1 : ¬ (σ33.gen = 1) := by omega
   have n34_2 : ¬ (σ33.gen = 2) := by omega
   have n34_3 : ¬ (σ33.gen = 3) := by omega
   have F12 := an h34_2 (an h34_5 (an h34_6 (an h34_7 (an g34_0 (an g34_1 (an g34_2 (an n34_0 (an n34_1 (an n34_2 n34_3)))))))))
   refine goR F12 ?_
   revert hs; refine bK fun y997 hx998 hs => ?_
   refine cB F12 (at_checkpoint_text_2 hx998) [.o 2 0 0] ?_
   refine goR2 F12 ?_
   revert hs; refine bK fun o1041 e1040 hs => ?_
   refine awp_cutK (fun (v : (List UInt8)) (σ : St) => some (v) = some o1041 /\ σ.env 5 = .cell (.ref (.o 2 0 0) 0) /\ σ.hp (.o 2 0 0) = some (.cells [.own (.sp 1 v.length (encL v))]) /\ (σ33.gen + 2) <= σ.gen) (by rfl) (fun Q hK1042 hX1043 => ?_) (fun l1039 σ63 hp => ?_)
   ·refine goR F12 ?_
    revert e1040; refine bK fun o1068 e1067 e1040 => ?_
    refine awp_loopW (fun (v : (List Start) × Nat × (List UInt8)) (σ : St) => checkpoint_text_L4 fuelN v.1 v.2.1 v.2.2 = some o1068 /\ v.1 = a0.Threads.drop v.2.1 /\ σ.env 5 = .cell (.ref (.o 2 0 0) 0) /\ σ.env 6 = .cell (.fn 82 [.inl (.o 2 0 0)]) /\ σ.env 112 = .cell (sC a0.Threads) /\ σ.env 113 = iV .i64 ((a0.Threads.length : Nat) : Int) /\ σ.env 114 = iV .i64 ((v.2.1 : Nat) : Int) /\ σ.hp (.o 2 0 0) = some (.cells [.own (.sp 1 v.2.2.length (encL v.2.2))]) /\ (σ33.gen + 2) <= σ.gen) (fun v => v.1.length) _ (Gh.refl _) (a0.Threads, 0, y997) ⟨e1067, by simp, pv F12, pv F12, pv F12, pv F12, pv F12, pv F12, pg⟩ fun v σ66 hp L1069 hL1070 => ?_
    obtain ⟨q1072, k1055, l1056⟩ := v
    dsimp only at hp hL1070
    obtain ⟨e1067, hd1071, h65_5, h65_6, h65_112, h65_113, h65_114, g65_0, n65_g⟩ := hp
    have n65_0 : ¬ (σ66.gen = 0) := by omega
    have n65_1 : ¬ (σ66.gen = 1) := by omega
    rcases q1072 with _ | ⟨x1077, q1073⟩
    ·have hlt1074 := drop_end hd1071
     rw [checkpoint_text_L4] at e1067; try dsimp only at e1067
     have F13 := an h65_5 (an h65_6 (an h65_112 (an h65_113 (an h65_114 (an g65_0 (an n65_0 n65_1))))))
     refine goR F13 ?_
     refine condK_f (by simp [ltI]; omega) ?_
     obtain rfl := sj e1067
     try dsimp only at e1040
     exact hK1042 l1056 _ _ (Gh.refl _) ⟨e1040, pv F13, pv F13, pg⟩
    ·obtain ⟨hx1076, hlt1074, hd1078⟩ := drop_next hd1071
     have ew1075 := wrap_succ hlt1074 (hb5).len
     rw [checkpoint_text_L4] at e1067; try dsimp only at e1067
     have F14 := an h65_5 (an h65_6 (an h65_112 (an h65_113 (an h65_114 (an g65_0 (an n65_0 (an n65_1 (an hlt1074 ew1075))))))))
     refine goR F14 ?_
     refine condK_t (by simp [ltI]; omega) ?_
     have f1079 : partCV Tryz.prog 91 (encL a0.Threads) (k1055 * 2) = some (.agg (eA x1077)) := partCV_enc hx1076 (f := 0) (by simp)
     revert e1067; refine lK fun l1080 hx1081 e1067 => ?_
     have hx1081n : l1080.length = 2 := by rw [hx1081]; rfl
     have F15 := an F14 (an f1079 hx1081)
     refine goR F15 ?_
     revert e1067; refine bK fun y1082 hx1083 e1067 => ?_
     refine cB F15 (at_checkpoint_text_1 hx1083) [.o 2 0 0] ?_
     refine goR F15 ?_
     exact hL1070 (q1073, (k1055 + 1), y1082) _ _ (Gh.refl _) ⟨e1067, hd1078, pv F15, pv F15, pv F15, pv F15, pv F15, pv F15, pg⟩ (by simp)
   ·obtain ⟨e1040, h64_5, g64_0, n64_g⟩ := hp
    obtain rfl := sj e1040
    try dsimp only at hs
    have n64_0 : ¬ (σ63.gen = 0) := by omega
    have n64_1 : ¬ (σ63.gen = 1) := by omega
    have F16 := an h64_5 (an g64_0 (an n64_0 n64_1))
    refine goR F16 ?_
    obtain rfl := sj hs
    refine hQ _ _ (ret2g _ (Gh.ren _ (.o (σ63.gen + 1) 0 0) (.r 0) (by simp) rfl rfl) (by simp [St.frz, St.pur, F16]; rfl) (by first | rfl | (simp [St.frz, St.pur, F16]; done) | (rw [if_pos (by first | omega | (simp; omega))]; simp [St.frz, St.pur, F16]; first | omega | exact List.take_of_length_le (by simp; omega) | skip)) (pv F16))
end Go.Dc
end
section
set_option linter.all false
namespace Go.Dc
open Go Go.Hw Go.Proofs
set_option maxRecDepth 100000
def checkpoint_Digest (fuelN : Nat) (a0 : Program) (a1 : Config) : Option (Int × Int) :=
 Option.bind (checkpoint_standard fuelN a0 a1) (fun y1 => cond (!(eqI y1 0)) (some (0, y1)) (Option.bind (checkpoint_text fuelN a0 a1) (fun y4 => Option.bind (frame_Checksum fuelN y4) (fun y6 => some (IntKind.i64.wrap y6, 0)))))
set_option maxHeartbeats 2000000 in
theorem at_checkpoint_Digest {fuelN : Nat} {a0 : Program} {a1 : Config} {r : Int × Int} (hs : checkpoint_Digest fuelN a0 a1 = some r) : At Tryz.prog 22 [.agg (eA a0), .agg (eA a1)] (.tup [iV .i64 r.1, iV .i64 r.2]) := by
 refine at_bound (by kernel_rfl) fun hb => ?_
 have hb1 : LenOk (.sl a0.Vars.length (encL a0.Vars)) := lkc hb
 have hb2 : LenOk (.sl a0.Mutexes.length (encL a0.Mutexes)) := lkc hb
 have hb3 : LenOk (.sl a0.Conds.length (encL a0.Conds)) := lkc hb
 have hb4 : LenOk (.sl a0.Funcs.length (encL a0.Funcs)) := lkc hb
 have hb5 : LenOk (.sl a0.Threads.length (encL a0.Threads)) := lkc hb
 refine at_code mixed Tryz.func22 (by kernel_rfl) rfl (by kernel_rfl) rfl fun Q hQ => ?_
 rw [checkpoint_Digest] at hs
 refine goR f0 ?_
 revert hs; refine bK fun y1 hx2 hs => ?_
 refine cP f0 (at_checkpoint_standard hx2) ?_
 refine goR f0 ?_
 revert hs; refine cS f0 ?_ ?_ <;> intro h3 hs
 ·refine goR f0 ?_
  obtain rfl := sj hs
  exact hQ _ _ (rg f0 (Gh.refl _))
 ·refine goR f0 ?_
  revert hs; refine bK fun y4 hx5 hs => ?_
  refine cA f0 (at_checkpoint_text hx5) ?_
  refine goR f0 ?_
  revert hs; refine bK fun y6 hx7 hs => ?_
  refine cA f0 (at_frame_Checksum hx7) ?_
  refine goR f0 ?_
  obtain rfl := sj hs
  exact hQ _ _ (rg f0 (Gh.refl _))
end Go.Dc
end
section
set_option linter.all false
namespace Go.Dc
open Go Go.Hw Go.Proofs
set_option maxRecDepth 100000
def r08_CheckConfig (a0 : Config) : Option Int :=
 cond (andB (andB (!(eqI a0.Model 1)) (!(eqI a0.Model 2))) (!(eqI a0.Model 3))) (some 18) (cond (orB (ltI a0.Bound 1) (ltI 32 a0.Bound)) (some 2) (some 0))
set_option maxHeartbeats 2000000 in
theorem at_r08_CheckConfig {a0 : Config} {r : Int} (hs : r08_CheckConfig a0 = some r) : At Tryz.prog 78 [.agg (eA a0)] (iV .i64 r) := by
 refine at_bound (by kernel_rfl) fun hb => ?_
 refine at_code mixed Tryz.func78 (by kernel_rfl) rfl (by kernel_rfl) rfl fun Q hQ => ?_
 rw [r08_CheckConfig] at hs
 refine goG f0 f0 ?_
 revert hs; refine cS f0 ?_ ?_ <;> intro h1 hs
 ·refine goG f0 f0 ?_
  obtain rfl := sj hs
  exact hQ _ _ (rg f0 (Gh.refl _))
 ·refine goG f0 f0 ?_
  revert hs; refine cS f0 ?_ ?_ <;> intro h2 hs
  ·refine goG f0 f0 ?_
   obtain rfl := sj hs
   exact hQ _ _ (rg f0 (Gh.refl _))
  ·refine goG f0 f0 ?_
   obtain rfl := sj hs
   exact hQ _ _ (rg f0 (Gh.refl _))
end Go.Dc
end
section
set_option linter.all false
namespace Go.Dc
open Go Go.Hw Go.Proofs
set_option maxRecDepth 100000
def r49_standard (fuelN : Nat) (a0 : Program) (a1 : Config) : Option Int :=
 Option.bind (r08_Check fuelN a0) (fun y1 => cond (!(eqI y1.1 0)) (some y1.1) (Option.bind (r08_CheckConfig a1) (fun y4 => cond (!(eqI y4 0)) (some y4) (cond (eqI a1.Model 3) (some 18) (some 0)))))
set_option maxHeartbeats 2000000 in
theorem at_r49_standard {fuelN : Nat} {a0 : Program} {a1 : Config} {r : Int} (hs : r49_standard fuelN a0 a1 = some r) : At Tryz.prog 44 [.agg (eA a0), .agg (eA a1)] (iV .i64 r) := by
 refine at_bound (by kernel_rfl) fun hb => ?_
 have hb1 : LenOk (.sl a0.Vars.length (encL a0.Vars)) := lkc hb
 have hb2 : LenOk (.sl a0.Mutexes.length (encL a0.Mutexes)) := lkc hb
 have hb3 : LenOk (.sl a0.Conds.length (encL a0.Conds)) := lkc hb
 have hb4 : LenOk (.sl a0.Funcs.length (encL a0.Funcs)) := lkc hb
 have hb5 : LenOk (.sl a0.Threads.length (encL a0.Threads)) := lkc hb
 refine at_code mixed Tryz.func44 (by kernel_rfl) rfl (by kernel_rfl) rfl fun Q hQ => ?_
 rw [r49_standard] at hs
 refine goR f0 ?_
 revert hs; refine bK fun y1 hx2 hs => ?_
 refine cP f0 (at_r08_Check hx2) ?_
 refine goR f0 ?_
 revert hs; refine cS f0 ?_ ?_ <;> intro h3 hs
 ·refine goR f0 ?_
  obtain rfl := sj hs
  exact hQ _ _ (rg f0 (Gh.refl _))
 ·refine goR f0 ?_
  revert hs; refine bK fun y4 hx5 hs => ?_
  refine cP f0 (at_r08_CheckConfig hx5) ?_
  refine goR f0 ?_
  revert hs; refine cS f0 ?_ ?_ <;> intro h6 hs
  ·refine goR f0 ?_
   obtain rfl := sj hs
   exact hQ _ _ (rg f0 (Gh.refl _))
  ·refine goR f0 ?_
   revert hs; refine cS f0 ?_ ?_ <;> intro h7 hs
   ·refine goR f0 ?_
    obtain rfl := sj hs
    exact hQ _ _ (rg f0 (Gh.refl _))
   ·refine goR f0 ?_
    obtain rfl := sj hs
    exact hQ _ _ (rg f0 (Gh.refl _))
end Go.Dc
end
section
set_option linter.all false
namespace Go.Dc
open Go Go.Hw Go.Proofs
set_option maxRecDepth 100000
def r49_numbers_L1 (fuelN : Nat) : List Int -> (List UInt8) -> Nat -> Option (List UInt8)
 | [], l49, k50 => some (l49)
 | x69 :: q65, l49, k50 => Option.bind (r06_AppendInt fuelN l49 x69) (fun y72 => r49_numbers_L1 fuelN q65 y72 (k50 + 1))
def r49_numbers (fuelN : Nat) (a0 : List UInt8) (a1 : List Int) : Option (List UInt8) :=
 Option.bind (α := (List UInt8)) (Option.bind (r49_numbers_L1 fuelN a1 a0 0) (fun l58 => some (l58))) (fun l35 => some l35)
set_option maxHeartbeats 2000000 in
theorem at_r49_numbers {fuelN : Nat} {a0 : List UInt8} {a1 : List Int} {r : (List UInt8)} (hs : r49_numbers fuelN a0 a1 = some r) : At Tryz.prog 45 [.cell (sC a0), .cell (sC a1)] (.cell (sC r)) := by
 refine at_bound (by kernel_rfl) fun hb => ?_
 have hb1 : LenOk (.sl a0.length (encL a0)) := lkc hb
 have hb2 : LenOk (.sl a1.length (encL a1)) := lkc hb
 refine at_code mixed Tryz.func45 (by kernel_rfl) rfl (by kernel_rfl) rfl fun Q hQ => ?_
 rw [r49_numbers] at hs
 refine goR2 f0 ?_
 revert hs; refine bK fun o37 e36 hs => ?_
 refine awp_cutK (fun (v : (List UInt8)) (σ : St) => some (v) = some o37 /\ σ.env 0 = .cell (sC v) /\ 2 <= σ.gen) (by rfl) (fun Q hK38 hX39 => ?_) (fun l35 σ3 hp => ?_)
 ·refine goR f0 ?_
  revert e36; refine bK fun o60 e59 e36 => ?_
  refine awp_loopW (fun (v : (List Int) × (List UInt8) × Nat) (σ : St) => r49_numbers_L1 fuelN v.1 v.2.1 v.2.2 = some o60 /\ v.1 = a1.drop v.2.2 /\ σ.env 0 = .cell (sC v.2.1) /\ σ.env 1 = .cell (sC a1) /\ σ.env 5 = iV .i64 ((v.2.2 : Nat) : Int) /\ 2 <= σ.gen) (fun v => v.1.length) _ (Gh.refl _) (a1, a0, 0) ⟨e59, by simp, pv f0, pv f0, pv f0, pg⟩ fun v σ6 hp L61 hL62 => ?_
  obtain ⟨q64, l49, k50⟩ := v
  dsimp only at hp hL62
  obtain ⟨e59, hd63, h5_0, h5_1, h5_5, n5_g⟩ := hp
  rcases q64 with _ | ⟨x69, q65⟩
  ·have hlt66 := drop_end hd63
   rw [r49_numbers_L1] at e59; try dsimp only at e59
   have F1 := an h5_0 (an h5_1 h5_5)
   refine goR F1 ?_
   refine condK_f (by simp [ltI]; omega) ?_
   obtain rfl := sj e59
   try dsimp only at e36
   exact hK38 l49 _ _ (Gh.refl _) ⟨e36, pv F1, pg⟩
  ·obtain ⟨hx68, hlt66, hd70⟩ := drop_next hd63
   have ew67 := wrap_succ hlt66 (hb2).len
   rw [r49_numbers_L1] at e59; try dsimp only at e59
   have F2 := an h5_0 (an h5_1 (an h5_5 (an hlt66 ew67)))
   refine goR F2 ?_
   refine condK_t (by simp [ltI]; omega) ?_
   have f71 : partCV Tryz.prog 3 (encL a1) (k50) = some (iV .i64 x69) := partCV_enc1 hx68 (by simp)
   have F3 := an F2 f71
   refine goR F3 ?_
   revert e59; refine bK fun y72 hx73 e59 => ?_
   refine cA F3 (at_r06_AppendInt hx73) ?_
   refine goR F3 ?_
   exact hL62 (q65, y72, (k50 + 1)) _ _ (Gh.frz _ (.o (σ6.gen + 2) 5 0)) ⟨e59, hd70, pv F3, pv F3, pv F3, pg⟩ (by simp)
 ·obtain ⟨e36, h4_0, n4_g⟩ := hp
  obtain rfl := sj e36
  try dsimp only at hs
  refine goR h4_0 ?_
  obtain rfl := sj hs
  exact hQ _ _ (rg h4_0 (Gh.refl _))
end Go.Dc
end
section
set_option linter.all false
namespace Go.Dc
open Go Go.Hw Go.Proofs
set_option maxRecDepth 100000
def r49_names_L1 (fuelN : Nat) : List ByteArray -> (List UInt8) -> Nat -> Option (List UInt8)
 | [], l51, k52 => some (l51)
 | x71 :: q67, l51, k52 => Option.bind (r06_AppendString fuelN l51 x71) (fun y74 => r49_names_L1 fuelN q67 y74 (k52 + 1))
def r49_names (fuelN : Nat) (a0 : List UInt8) (a1 : List ByteArray) : Option (List UInt8) :=
 Option.bind (r06_AppendUint fuelN a0 ((a1.length : Nat) : Int)) (fun y1 => Option.bind (α := (List UInt8)) (Option.bind (r49_names_L1 fuelN a1 y1 0) (fun l60 => some (l60))) (fun l37 => some l37))
set_option maxHeartbeats 2000000 in
theorem at_r49_names {fuelN : Nat} {a0 : List UInt8} {a1 : List ByteArray} {r : (List UInt8)} (hs : r49_names fuelN a0 a1 = some r) : At Tryz.prog 47 [.cell (sC a0), .cell (sC a1)] (.cell (sC r)) := by
 refine at_bound (by kernel_rfl) fun hb => ?_
 have hb1 : LenOk (.sl a0.length (encL a0)) := lkc hb
 have hb2 : LenOk (.sl a1.length (encL a1)) := lkc hb
 refine at_code mixed Tryz.func47 (by kernel_rfl) rfl (by kernel_rfl) rfl fun Q hQ => ?_
 rw [r49_names] at hs
 refine goR f0 ?_
 revert hs; refine bK fun y1 hx2 hs => ?_
 refine cA f0 (at_r06_AppendUint hx2) ?_
 refine goR2 f0 ?_
 revert hs; refine bK fun o39 e38 hs => ?_
 refine awp_cutK (fun (v : (List UInt8)) (σ : St) => some (v) = some o39 /\ σ.env 0 = .cell (.sl (.l 2) 0 1 v.length) /\ σ.hp (.l 2) = some (.pure (encL v)) /\ 3 <= σ.gen) (by rfl) (fun Q hK40 hX41 => ?_) (fun l37 σ3 hp => ?_)
 ·refine goR f0 ?_
  revert e38; refine bK fun o62 e61 e38 => ?_
  refine awp_loopW (fun (v : (List ByteArray) × (List UInt8) × Nat) (σ : St) => r49_names_L1 fuelN v.1 v.2.1 v.2.2 = some o62 /\ v.1 = a1.drop v.2.2 /\ σ.env 0 = .cell (.sl (.l 6) 0 1 v.2.1.length) /\ σ.env 1 = .cell (sC a1) /\ σ.env 5 = iV .i64 ((v.2.2 : Nat) : Int) /\ σ.hp (.l 6) = some (.pure (encL v.2.1)) /\ 3 <= σ.gen) (fun v => v.1.length) _ (Gh.ren _ (.o 2 3 0) (.l 6) (by simp) rfl rfl) (a1, y1, 0) ⟨e61, by simp, pv f0, pv f0, pv f0, pv f0, pg⟩ fun v σ6 hp L63 hL64 => ?_
  obtain ⟨q66, l51, k52⟩ := v
  dsimp only at hp hL64
  obtain ⟨e61, hd65, h5_0, h5_1, h5_5, g5_0, n5_g⟩ := hp
  rcases q66 with _ | ⟨x71, q67⟩
  ·have hlt68 := drop_end hd65
   rw [r49_names_L1] at e61; try dsimp only at e61
   have F1 := an h5_0 (an h5_1 (an h5_5 g5_0))
   refine goR F1 ?_
   refine condK_f (by simp [ltI]; omega) ?_
   obtain rfl := sj e61
   try dsimp only at e38
   exact hK40 l51 _ _ (Gh.ren _ (.l 6) (.l 2) (by simp) rfl rfl) ⟨e38, pv F1, pv F1, pg⟩
  ·obtain ⟨hx70, hlt68, hd72⟩ := drop_next hd65
   have ew69 := wrap_succ hlt68 (hb2).len
   rw [r49_names_L1] at e61; try dsimp only at e61
   have F2 := an h5_0 (an h5_1 (an h5_5 (an g5_0 (an hlt68 ew69))))
   refine goR F2 ?_
   refine condK_t (by simp [ltI]; omega) ?_
   have f73 : partCV Tryz.prog 9 (encL a1) (k52) = some (sV x71) := partCV_enc1 hx70 (by simp)
   have F3 := an F2 f73
   refine goR F3 ?_
   revert e61; refine bK fun y74 hx75 e61 => ?_
   refine cA F3 (at_r06_AppendString hx75) ?_
   refine goR F3 ?_
   exact hL64 (q67, y74, (k52 + 1)) _ _ (Gh.ren _ (.o (σ6.gen + 2) 5 0) (.l 6) (by simp) rfl rfl) ⟨e61, hd72, pv F3, pv F3, pv F3, pv F3, pg⟩ (by simp)
 ·obtain ⟨e38, h4_0, g4_0, n4_g⟩ := hp
  obtain rfl := sj e38
  try dsimp only at hs
  have F4 := an h4_0 g4_0
  refine goR F4 ?_
  obtain rfl := sj hs
  exact hQ _ _ (rg F4 (Gh.frz _ (.l 2)))
end Go.Dc
end
section
set_option linter.all false
namespace Go.Dc
open Go Go.Hw Go.Proofs
set_option maxRecDepth 100000
def r49_Digest_L1 (fuelN : Nat) : List Var -> (List UInt8) -> Nat -> Option (List UInt8)
 | [], l70, k71 => some (l70)
 | x93 :: q89, l70, k71 => Option.bind (r06_AppendString fuelN l70 x93.Name) (fun y96 => Option.bind (r06_AppendInt fuelN y96 x93.Init) (fun y99 => r49_Digest_L1 fuelN q89 y99 (k71 + 1)))
def r49_Digest_L3 (fuelN : Nat) : List Inst -> (List UInt8) -> Nat -> Option (List UInt8)
 | [], l1145, k1146 => some (l1145)
 | x1167 :: q1163, l1145, k1146 => Option.bind (some ([x1167.Op, x1167.A, x1167.B, x1167.C, x1167.Obj, x1167.N, x1167.Fn, x1167.Order])) (fun l1170 => Option.bind (r49_numbers fuelN l1145 l1170) (fun y1172 => r49_Digest_L3 fuelN q1163 y1172 (k1146 + 1)))
def r49_Digest_L2 (fuelN : Nat) (a0 : Program) : Nat -> (List UInt8) -> Int -> Option (List UInt8)
 | 0, _, _ => none
 | q1046 + 1, l907, i908 => cond (ltI i908 ((a0.Funcs.length : Nat) : Int)) (Option.bind (α := (List UInt8)) (Option.bind (getI a0.Funcs i908) (fun x1115 => Option.bind (r06_AppendString fuelN l907 x1115.Name) (fun y1118 => Option.bind (r06_AppendUint fuelN y1118 ((x1115.Code.length : Nat) : Int)) (fun y1121 => Option.bind (r49_Digest_L3 fuelN x1115.Code y1121 0) (fun l1156 => some (l1156)))))) (fun l1110 => r49_Digest_L2 fuelN a0 q1046 l1110 (IntKind.i64.wrap (i908 + 1)))) (some (l907))
def r49_Digest_L4 (fuelN : Nat) : List Start -> (List UInt8) -> Nat -> Option (List UInt8)
 | [], l1306, k1307 => some (l1306)
 | x1337 :: q1333, l1306, k1307 => Option.bind (some ([x1337.Func, x1337.Arg])) (fun l1347 => Option.bind (r49_numbers fuelN l1306 l1347) (fun y1349 => r49_Digest_L4 fuelN q1333 y1349 (k1307 + 1)))
def r49_Digest (fuelN : Nat) (a0 : Program) (a1 : Config) : Option (Int × Int) :=
 Option.bind (r49_standard fuelN a0 a1) (fun y1 => cond (!(eqI y1 0)) (some (0, y1)) (Option.bind (some ([a1.Model, a1.Bound])) (fun l4 => Option.bind (r49_numbers fuelN [] l4) (fun y6 => Option.bind (r06_AppendUint fuelN y6 ((a0.Vars.length : Nat) : Int)) (fun y8 => Option.bind (α := (List UInt8)) (Option.bind (r49_Digest_L1 fuelN a0.Vars y8 0) (fun l82 => some (l82))) (fun l53 => Option.bind (r49_names fuelN l53 a0.Mutexes) (fun y101 => Option.bind (r49_names fuelN y101 a0.Conds) (fun y103 => Option.bind (r06_AppendUint fuelN y103 ((a0.Funcs.length : Nat) : Int)) (fun y105 => Option.bind (α := (List UInt8)) (Option.bind (r49_Digest_L2 fuelN a0 fuelN y105 0) (fun l1039 => some (l1039))) (fun l638 => Option.bind (r06_AppendUint fuelN l638 ((a0.Threads.length : Nat) : Int)) (fun y1174 => Option.bind (α := (List UInt8)) (Option.bind (r49_Digest_L4 fuelN a0.Threads y1174 0) (fun l1326 => some (l1326))) (fun l1261 => Option.bind (r06_Checksum fuelN l1261) (fun y1351 => some (IntKind.i64.wrap y1351, 0))))))))))))))
set_option maxHeartbeats 2000000 in
theorem at_r49_Digest {fuelN : Nat} {a0 : Program} {a1 : Config} {r : Int × Int} (hs : r49_Digest fuelN a0 a1 = some r) : At Tryz.prog 17 [.agg (eA a0), .agg (eA a1)] (.tup [iV .i64 r.1, iV .i64 r.2]) := by
 refine at_bound (by kernel_rfl) fun hb => ?_
 have hb1 : LenOk (.sl a0.Vars.length (encL a0.Vars)) := lkc hb
 have hb2 : LenOk (.sl a0.Mutexes.length (encL a0.Mutexes)) := lkc hb
 have hb3 : LenOk (.sl a0.Conds.length (encL a0.Conds)) := lkc hb
 have hb4 : LenOk (.sl a0.Funcs.length (encL a0.Funcs)) := lkc hb
 have hb5 : LenOk (.sl a0.Threads.length (encL a0.Threads)) := lkc hb
 refine at_code mixed Tryz.func17 (by kernel_rfl) rfl (by kernel_rfl) rfl fun Q hQ => ?_
 rw [r49_Digest] at hs
 refine goR f0 ?_
 revert hs; refine bK fun y1 hx2 hs => ?_
 refine cP f0 (at_r49_standard hx2) ?_
 refine goR f0 ?_
 revert hs; refine cS f0 ?_ ?_ <;> intro h3 hs
 ·refine goR f0 ?_
  obtain rfl := sj hs
  exact hQ _ _ (rg f0 (Gh.refl _))
 ·revert hs; refine lK fun l4 hx5 hs => ?_
  have hx5n : l4.length = 2 := by rw [hx5]; rfl
  refine goR hx5 ?_
  revert hs; refine bK fun y6 hx7 hs => ?_
  refine cA hx5 (at_unz (args := [.cell (.z), .cell (sC l4)]) (by simp) (at_r49_numbers hx7)) ?_
  refine goR hx5 ?_
  revert hs; refine bK fun y8 hx9 hs => ?_
  refine cA hx5 (at_r06_AppendUint hx9) ?_
  refine goR2 hx5 ?_
  revert hs; refine bK fun o55 e54 hs => ?_
  refine awp_cutK (fun (v : (List UInt8)) (σ : St) => some (v) = some o55 /\ σ.env 2 = .cell (.ref (.o 1 0 0) 0) /\ σ.env 7 = .cell (.sl (.l 2) 0 1 v.length) /\ σ.hp (.l 2) = some (.pure (encL v)) /\ σ.hp (.o 1 0 0) = some (.cells (eA a0)) /\ 6 <= σ.gen) (by rfl) (fun Q hK56 hX57 => ?_) (fun l53 σ3 hp => ?_)
  ·refine goR hx5 ?_
   revert e54; refine bK fun o84 e83 e54 => ?_
   refine awp_loopW (fun (v : (List Var) × (List UInt8) × Nat) (σ : St) => r49_Digest_L1 fuelN v.1 v.2.1 v.2.2 = some o84 /\ v.1 = a0.Vars.drop v.2.2 /\ σ.env 2 = .cell (.ref (.o 1 0 0) 0) /\ σ.env 7 = .cell (.sl (.l 6) 0 1 v.2.1.length) /\ σ.env 8 = iV .i64 ((v.2.2 : Nat) : Int) /\ σ.hp (.l 6) = some (.pure (encL v.2.1)) /\ σ.hp (.o 1 0 0) = some (.cells (eA a0)) /\ 6 <= σ.gen) (fun v => v.1.length) _ (Gh.ren _ (.o 5 4 0) (.l 6) (by simp) rfl rfl) (a0.Vars, y8, 0) ⟨e83, by simp, pv hx5, pv hx5, pv hx5, pv hx5, pv hx5, pg⟩ fun v σ6 hp L85 hL86 => ?_
   obtain ⟨q88, l70, k71⟩ := v
   dsimp only at hp hL86
   obtain ⟨e83, hd87, h5_2, h5_7, h5_8, g5_0, g5_1, n5_g⟩ := hp
   have n5_0 : ¬ (σ6.gen = 0) := by omega
   rcases q88 with _ | ⟨x93, q89⟩
   ·have hlt90 := drop_end hd87
    rw [r49_Digest_L1] at e83; try dsimp only at e83
    have F1 := an h5_2 (an h5_7 (an h5_8 (an g5_0 (an g5_1 n5_0))))
    refine goR F1 ?_
    refine condK_f (by simp [ltI]; omega) ?_
    obtain rfl := sj e83
    try dsimp only at e54
    exact hK56 l70 _ _ (Gh.ren _ (.l 6) (.l 2) (by simp) rfl rfl) ⟨e54, pv F1, pv F1, pv F1, pv F1, pg⟩
   ·obtain ⟨hx92, hlt90, hd94⟩ := drop_next hd87
    have ew91 := wrap_succ hlt90 (hb1).len
    rw [r49_Digest_L1] at e83; try dsimp only at e83
    have F2 := an h5_2 (an h5_7 (an h5_8 (an g5_0 (an g5_1 (an n5_0 (an hlt90 ew91))))))
    refine goR F2 ?_
    refine condK_t (by simp [ltI]; omega) ?_
    have f95 : partCV Tryz.prog 9 (encL a0.Vars) (k71 * 2) = some (sV x93.Name) := partCV_enc hx92 (f := 0) (by simp)
    have F3 := an F2 f95
    refine goR F3 ?_
    revert e83; refine bK fun y96 hx97 e83 => ?_
    refine cA F3 (at_r06_AppendString hx97) ?_
    have f98 : partCV Tryz.prog 3 (encL a0.Vars) (k71 * 2 + 1) = some (iV .i64 x93.Init) := partCV_enc hx92 (f := 1) (by simp)
    have F4 := an F3 f98
    refine goR F4 ?_
    revert e83; refine bK fun y99 hx100 e83 => ?_
    refine cA F4 (at_r06_AppendInt hx100) ?_
    refine goR F4 ?_
    exact hL86 (q89, y99, (k71 + 1)) _ _ (Gh.ren _ (.o (σ6.gen + 3) 7 0) (.l 6) (by simp) rfl rfl) ⟨e83, hd94, pv F4, pv F4, pv F4, pv F4, pv F4, pg⟩ (by simp)
  ·obtain ⟨e54, h4_2, h4_7, g4_0, g4_1, n4_g⟩ := hp
   obtain rfl := sj e54
   try dsimp only at hs
   have n4_0 : ¬ (σ3.gen = 0) := by omega
   have F5 := an h4_2 (an h4_7 (an g4_0 (an g4_1 n4_0)))
   refine goR F5 ?_
   revert hs; refine bK fun y101 hx102 hs => ?_
   refine cA F5 (at_r49_names hx102) ?_
   refine goR F5 ?_
   revert hs; refine bK fun y103 hx104 hs => ?_
   refine cP F5 (at_r49_names hx104) ?_
   refine goR F5 ?_
   revert hs; refine bK fun y105 hx106 hs => ?_
   refine cA F5 (at_r06_AppendUint hx106) ?_
   refine goR2 F5 ?_
   revert hs; refine bK fun o640 e639 hs => ?_
   refine awp_cutK (fun (v : (List UInt8)) (σ : St) => some (v) = some o640 /\ σ.env 2 = .cell (.ref (.o 1 0 0) 0) /\ σ.env 7 = .cell (sC v) /\ σ.hp (.o 1 0 0) = some (.cells (eA a0)) /\ (σ3.gen + 4) <= σ.gen) (by rfl) (fun Q hK641 hX642 => ?_) (fun l638 σ33 hp => ?_)
   ·refine goR F5 ?_
    revert e639; refine bK fun o1041 e1040 e639 => ?_
    refine awp_loopW (fun (v : Nat × (List UInt8) × Int) (σ : St) => r49_Digest_L2 fuelN a0 v.1 v.2.1 v.2.2 = some o1041 /\ σ.env 2 = .cell (.ref (.o 1 0 0) 0) /\ σ.env 7 = .cell (sC v.2.1) /\ σ.env 9 = iV .i64 v.2.2 /\ σ.hp (.o 1 0 0) = some (.cells (eA a0)) /\ (σ3.gen + 4) <= σ.gen) (fun v => v.1) _ (Gh.frz _ (.o (σ3.gen + 3) 4 0)) (fuelN, y105, 0) ⟨e1040, pv F5, pv F5, pv F5, pv F5, pg⟩ fun v σ54 hp L1042 hL1043 => ?_
    obtain ⟨q1045, l907, i908⟩ := v
    dsimp only at hp hL1043
    obtain ⟨e1040, h53_2, h53_7, h53_9, g53_0, n53_g⟩ := hp
    have n53_0 : ¬ (σ54.gen = 0) := by omega
    rcases q1045 with _ | q1046
    ·rw [r49_Digest_L2] at e1040; cases e1040
    ·rw [r49_Digest_L2] at e1040; try dsimp only at e1040
     have F6 := an h53_2 (an h53_7 (an h53_9 (an g53_0 n53_0)))
     refine goR F6 ?_
     revert e1040; refine cS F6 ?_ ?_ <;> intro h1050 e1040
     ·refine goR2 F6 ?_
      revert e1040; refine bK fun o1112 e1111 e1040 => ?_
      refine awp_cutK (fun (v : (List UInt8)) (σ : St) => some (v) = some o1112 /\ σ.env 2 = .cell (.ref (.o 1 0 0) 0) /\ σ.env 7 = .cell (sC v) /\ σ.env 9 = iV .i64 i908 /\ σ.hp (.o 1 0 0) = some (.cells (eA a0)) /\ (σ54.gen + 1) <= σ.gen) (by rfl) (fun Q hK1113 hX1114 => ?_) (fun l1110 σ57 hp => ?_)
      ·revert e1111; refine bK fun x1115 hx1116 e1111 => ?_
       obtain ⟨hx1116a, hx1116b, hx1116c, hx1116d⟩ := getI_some hx1116
       have f1117 : partCV Tryz.prog 9 (encL a0.Funcs) (((i908).toNat) * 2) = some (sV x1115.Name) := partCV_enc hx1116d (f := 0) (by simp)
       have F7 := an F6 f1117
       refine goR F7 ?_
       revert e1111; refine bK fun y1118 hx1119 e1111 => ?_
       refine cA F7 (at_r06_AppendString hx1119) ?_
       have f1120 : partCV Tryz.prog 51 (encL a0.Funcs) (((i908).toNat) * 2 + 1) = some (.cell (sC x1115.Code)) := partCV_enc hx1116d (f := 1) (by simp)
       have F8 := an F7 f1120
       refine goR F8 ?_
       revert e1111; refine bK fun y1121 hx1122 e1111 => ?_
       refine cA F8 (at_r06_AppendUint hx1122) ?_
       refine goR F8 ?_
       revert e1111; refine bK fun o1158 e1157 e1111 => ?_
       refine awp_loopW (fun (v : (List Inst) × (List UInt8) × Nat) (σ : St) => r49_Digest_L3 fuelN v.1 v.2.1 v.2.2 = some o1158 /\ v.1 = x1115.Code.drop v.2.2 /\ σ.env 2 = .cell (.ref (.o 1 0 0) 0) /\ σ.env 7 = .cell (sC v.2.1) /\ σ.env 9 = iV .i64 i908 /\ σ.env 10 = iV .i64 ((v.2.2 : Nat) : Int) /\ σ.hp (.o 1 0 0) = some (.cells (eA a0)) /\ (σ54.gen + 4) <= σ.gen) (fun v => v.1.length) _ (Gh.frz _ (.o (σ54.gen + 3) 8 0)) (x1115.Code, y1121, 0) ⟨e1157, by simp, pv F8, pv F8, pv F8, pv F8, pv F8, pg⟩ fun v σ60 hp L1159 hL1160 => ?_
       obtain ⟨q1162, l1145, k1146⟩ := v
       dsimp only at hp hL1160
       obtain ⟨e1157, hd1161, h59_2, h59_7, h59_9, h59_10, g59_0, n59_g⟩ := hp
       have n59_0 : ¬ (σ60.gen = 0) := by omega
       rcases q1162 with _ | ⟨x1167, q1163⟩
       ·have hlt1164 := drop_end hd1161
        rw [r49_Digest_L3] at e1157; try dsimp only at e1157
        have F9 := an h59_2 (an h59_7 (an h59_9 (an h59_10 (an g59_0 (an n59_0 (an f1117 f1120))))))
        refine goR F9 ?_
        refine condK_f (by simp [ltI]; omega) ?_
        obtain rfl := sj e1157
        try dsimp only at e1111
        exact hK1113 l1145 _ _ (Gh.refl _) ⟨e1111, pv F9, pv F9, pv F9, pv F9, pg⟩
       ·obtain ⟨hx1166, hlt1164, hd1168⟩ := drop_next hd1161
        have ew1165 := wrap_succ hlt1164 ((LenOk.elem hb4 hx1116d (c := .sl x1115.Code.length (encL x1115.Code)) (by simp))).len
        rw [r49_Digest_L3] at e1157; try dsimp only at e1157
        have F10 := an h59_2 (an h59_7 (an h59_9 (an h59_10 (an g59_0 (an n59_0 (an f1117 (an f1120 (an hlt1164 ew1165))))))))
        refine goR F10 ?_
        refine condK_t (by simp [ltI]; omega) ?_
        have f1169 : partCV Tryz.prog 89 (encL x1115.Code) (k1146 * 8) = some (.agg (eA x1167)) := partCV_enc hx1166 (f := 0) (by simp)
        revert e1157; refine lK fun l1170 hx1171 e1157 => ?_
        have hx1171n : l1170.length = 8 := by rw [hx1171]; rfl
        have F11 := an F10 (an f1169 hx1171)
        refine goR F11 ?_
        revert e1157; refine bK fun y1172 hx1173 e1157 => ?_
        refine cA F11 (at_r49_numbers hx1173) ?_
        refine goR F11 ?_
        exact hL1160 (q1163, y1172, (k1146 + 1)) _ _ (Gh.refl _) ⟨e1157, hd1168, pv F11, pv F11, pv F11, pv F11, pv F11, pg⟩ (by simp)
      ·obtain ⟨e1111, h58_2, h58_7, h58_9, g58_0, n58_g⟩ := hp
       obtain rfl := sj e1111
       try dsimp only at e1040
       have n58_0 : ¬ (σ57.gen = 0) := by omega
       have F12 := an h58_2 (an h58_7 (an h58_9 (an g58_0 n58_0)))
       refine goR F12 ?_
       exact hL1043 (q1046, l1110, IntKind.i64.wrap (i908 + 1)) _ _ (Gh.refl _) ⟨e1040, pv F12, pv F12, pv F12, pv F12, pg⟩ (by omega)
     ·refine goR F6 ?_
      obtain rfl := sj e1040
      try dsimp only at e639
      exact hK641 l907 _ _ (Gh.refl _) ⟨e639, pv F6, pv F6, pv F6, pg⟩
   ·obtain ⟨e639, h34_2, h34_7, g34_0, n34_g⟩ := hp
    obtain rfl := sj e639
    try dsimp only at hs
    have n34_0 : ¬ (σ33.gen = 0) := by omega
    have F13 := an h34_2 (an h34_7 (an g34_0 n34_0))
    refine goR F13 ?_
    revert hs; refine bK fun y1174 hx1175 hs => ?_
    refine cA F13 (at_r06_AppendUint hx1175) ?_
    refine goR2 F13 ?_
    revert hs; refine bK fun o1263 e1262 hs => ?_
    refine awp_cutK (fun (v : (List UInt8)) (σ : St) => some (v) = some o1263 /\ σ.env 7 = .cell (sC v) /\ (σ33.gen + 2) <= σ.gen) (by rfl) (fun Q hK1264 hX1265 => ?_) (fun l1261 σ63 hp => ?_)
    ·refine goR F13 ?_
     revert e1262; refine bK fun o1328 e1327 e1262 => ?_
     refine awp_loopW (fun (v : (List Start) × (List UInt8) × Nat) (σ : St) => r49_Digest_L4 fuelN v.1 v.2.1 v.2.2 = some o1328 /\ v.1 = a0.Threads.drop v.2.2 /\ σ.env 2 = .cell (.ref (.o 1 0 0) 0) /\ σ.env 7 = .cell (sC v.2.1) /\ σ.env 12 = iV .i64 ((v.2.2 : Nat) : Int) /\ σ.hp (.o 1 0 0) = some (.cells (eA a0)) /\ (σ33.gen + 2) <= σ.gen) (fun v => v.1.length) _ (Gh.frz _ (.o (σ33.gen + 1) 4 0)) (a0.Threads, y1174, 0) ⟨e1327, by simp, pv F13, pv F13, pv F13, pv F13, pg⟩ fun v σ66 hp L1329 hL1330 => ?_
     obtain ⟨q1332, l1306, k1307⟩ := v
     dsimp only at hp hL1330
     obtain ⟨e1327, hd1331, h65_2, h65_7, h65_12, g65_0, n65_g⟩ := hp
     have n65_0 : ¬ (σ66.gen = 0) := by omega
     rcases q1332 with _ | ⟨x1337, q1333⟩
     ·have hlt1334 := drop_end hd1331
      rw [r49_Digest_L4] at e1327; try dsimp only at e1327
      have F14 := an h65_2 (an h65_7 (an h65_12 (an g65_0 n65_0)))
      refine goR F14 ?_
      refine condK_f (by simp [ltI]; omega) ?_
      obtain rfl := sj e1327
      try dsimp only at e1262
      exact hK1264 l1306 _ _ (Gh.refl _) ⟨e1262, pv F14, pg⟩
     ·obtain ⟨hx1336, hlt1334, hd1338⟩ := drop_next hd1331
      have ew1335 := wrap_succ hlt1334 (hb5).len
      rw [r49_Digest_L4] at e1327; try dsimp only at e1327
      have F15 := an h65_2 (an h65_7 (an h65_12 (an g65_0 (an n65_0 (an hlt1334 ew1335)))))
      refine goR F15 ?_
      refine condK_t (by simp [ltI]; omega) ?_
      have f1345 : partCV Tryz.prog 3 (encL a0.Threads) (k1307 * 2) = some (iV .i64 x1337.Func) := partCV_enc hx1336 (f := 0) (by simp)
      have f1346 : partCV Tryz.prog 3 (encL a0.Threads) (k1307 * 2 + 1) = some (iV .i64 x1337.Arg) := partCV_enc hx1336 (f := 1) (by simp)
      revert e1327; refine lK fun l1347 hx1348 e1327 => ?_
      have hx1348n : l1347.length = 2 := by rw [hx1348]; rfl
      have F16 := an F15 (an f1345 (an f1346 hx1348))
      refine goD F16 ?_
      revert e1327; refine bK fun y1349 hx1350 e1327 => ?_
      refine cA F16 (at_r49_numbers hx1350) ?_
      refine goD F16 ?_
      exact hL1330 (q1333, y1349, (k1307 + 1)) _ _ (Gh.refl _) ⟨e1327, hd1338, pv F16, pv F16, pv F16, pv F16, pg⟩ (by simp)
    ·obtain ⟨e1262, h64_7, n64_g⟩ := hp
     obtain rfl := sj e1262
     try dsimp only at hs
     refine goR h64_7 ?_
     revert hs; refine bK fun y1351 hx1352 hs => ?_
     refine cP h64_7 (at_r06_Checksum hx1352) ?_
     refine goR h64_7 ?_
     obtain rfl := sj hs
     exact hQ _ _ (rg h64_7 (Gh.refl _))
end Go.Dc
end
section
set_option linter.all false
namespace Go.Dc
open Go Go.Hw Go.Proofs
set_option maxRecDepth 100000
def r26_back_L1 : List Inst -> Nat -> Option (Unit ⊕ Bool)
 | [], k45 => some (.inl ())
 | x63 :: q59, k45 => cond (andB (orB (eqI x63.Op 4) (eqI x63.Op 5)) (!(ltI ((k45 : Nat) : Int) x63.N))) (some (.inr true)) (r26_back_L1 q59 (k45 + 1))
def r26_back (a0 : Func) : Option Bool :=
 Option.bind (α := Unit ⊕ Bool) (Option.bind (r26_back_L1 a0.Code 0) (fun o => match o with | .inl _ => some (.inl ()) | .inr r68 => some (.inr r68))) (fun o => match o with | .inl _ => some false | .inr r69 => some r69)
set_option maxHeartbeats 2000000 in
theorem at_r26_back {a0 : Func} {r : Bool} (hs : r26_back a0 = some r) : At Tryz.prog 79 [.agg (eA a0)] (bV r) := by
 refine at_bound (by kernel_rfl) fun hb => ?_
 have hb1 : LenOk (.sl a0.Code.length (encL a0.Code)) := lkc hb
 refine at_code mixed Tryz.func79 (by kernel_rfl) rfl (by kernel_rfl) rfl fun Q hQ => ?_
 rw [r26_back] at hs
 refine goR2 f0 ?_
 revert hs; refine bK fun o34 e33 hs => ?_
 refine awp_cutK (fun (v : Unit) (σ : St) => some (.inl v) = some o34 /\ 2 <= σ.gen) (by rfl) (fun Q hK35 hX36 => ?_) (fun v σ3 hp => ?_)
 ·refine goR f0 ?_
  revert e33; refine bK fun o54 e53 e33 => ?_
  refine awp_loopW (fun (v : (List Inst) × Nat) (σ : St) => r26_back_L1 v.1 v.2 = some o54 /\ v.1 = a0.Code.drop v.2 /\ σ.env 1 = .cell (.ref (.o 1 0 0) 0) /\ σ.env 3 = iV .i64 ((v.2 : Nat) : Int) /\ σ.hp (.o 1 0 0) = some (.cells (eA a0)) /\ 2 <= σ.gen) (fun v => v.1.length) _ (Gh.refl _) (a0.Code, 0) ⟨e53, by simp, pv f0, pv f0, pv f0, pg⟩ fun v σ6 hp L55 hL56 => ?_
  obtain ⟨q58, k45⟩ := v
  dsimp only at hp hL56
  obtain ⟨e53, hd57, h5_1, h5_3, g5_0, n5_g⟩ := hp
  have n5_0 : ¬ (σ6.gen = 0) := by omega
  rcases q58 with _ | ⟨x63, q59⟩
  ·have hlt60 := drop_end hd57
   rw [r26_back_L1] at e53; try dsimp only at e53
   have F1 := an h5_1 (an h5_3 (an g5_0 n5_0))
   refine goR F1 ?_
   refine condK_f (by simp [ltI]; omega) ?_
   obtain rfl := sj e53
   try dsimp only at e33
   exact hK35 () _ _ (Gh.refl _) ⟨e33, pg⟩
  ·obtain ⟨hx62, hlt60, hd64⟩ := drop_next hd57
   have ew61 := wrap_succ hlt60 (hb1).len
   rw [r26_back_L1] at e53; try dsimp only at e53
   have F2 := an h5_1 (an h5_3 (an g5_0 (an n5_0 (an hlt60 ew61))))
   refine goR F2 ?_
   refine condK_t (by simp [ltI]; omega) ?_
   have f65 : partCV Tryz.prog 85 (encL a0.Code) (k45 * 8) = some (iV .i64 x63.Op) := partCV_enc hx62 (f := 0) (by simp)
   have f66 : partCV Tryz.prog 3 (encL a0.Code) (k45 * 8 + 5) = some (iV .i64 x63.N) := partCV_enc hx62 (f := 5) (by simp)
   have F3 := an F2 (an f65 f66)
   refine goG F3 F3 ?_
   revert e53; refine cS F3 ?_ ?_ <;> intro h67 e53
   ·refine goG F3 F3 ?_
    obtain rfl := sj e53
    try dsimp only at e33
    obtain rfl := sj e33
    try dsimp only at hs
    refine hX36 _ _ (by simp) ?_
    refine goG F3 F3 ?_
    obtain rfl := sj hs
    exact hQ _ _ (rg F3 (Gh.refl _))
   ·refine goG F3 F3 ?_
    exact hL56 (q59, (k45 + 1)) _ _ (Gh.refl _) ⟨e53, hd64, pv F3, pv F3, pv F3, pg⟩ (by simp)
 ·obtain ⟨e33, n4_g⟩ := hp
  obtain rfl := sj e33
  try dsimp only at hs
  refine goR f0 ?_
  obtain rfl := sj hs
  exact hQ _ _ (rg f0 (Gh.refl _))
end Go.Dc
end
section
set_option linter.all false
namespace Go.Dc
open Go Go.Hw Go.Proofs
set_option maxRecDepth 100000
def r26_spawned_L1 : List Inst -> Int -> Nat -> Option Int
 | [], i61, k62 => some (i61)
 | x80 :: q76, i61, k62 => cond (eqI x80.Op 21) (r26_spawned_L1 q76 (IntKind.i64.wrap (i61 + 1)) (k62 + 1)) (r26_spawned_L1 q76 i61 (k62 + 1))
def r26_spawned (a0 : Func) (a1 : Int) : Option Int :=
 Option.bind (α := Int) (Option.bind (r26_spawned_L1 a0.Code 0 0) (fun i69 => some (i69))) (fun i40 => guardO (orB (!(ltI 0 i40)) ((r26_back a0).isSome)) (cond (andB (ltI 0 i40) ((r26_back a0).getD default)) (some (if a1 > i40 then a1 else i40)) (some i40)))
set_option maxHeartbeats 2000000 in
theorem at_r26_spawned {a0 : Func} {a1 : Int} {r : Int} (hs : r26_spawned a0 a1 = some r) : At Tryz.prog 53 [.agg (eA a0), iV .i64 a1] (iV .i64 r) := by
 refine at_bound (by kernel_rfl) fun hb => ?_
 have hb1 : LenOk (.sl a0.Code.length (encL a0.Code)) := lkc hb
 refine at_code mixed Tryz.func53 (by kernel_rfl) rfl (by kernel_rfl) rfl fun Q hQ => ?_
 rw [r26_spawned] at hs
 refine goR2 f0 ?_
 revert hs; refine bK fun o42 e41 hs => ?_
 refine awp_cutK (fun (v : Int) (σ : St) => some (v) = some o42 /\ σ.env 1 = iV .i64 a1 /\ σ.env 2 = .cell (.ref (.o 1 0 0) 0) /\ σ.env 5 = iV .i64 v /\ σ.hp (.o 1 0 0) = some (.cells (eA a0)) /\ 3 <= σ.gen) (by rfl) (fun Q hK43 hX44 => ?_) (fun i40 σ3 hp => ?_)
 ·refine goR f0 ?_
  revert e41; refine bK fun o71 e70 e41 => ?_
  refine awp_loopW (fun (v : (List Inst) × Int × Nat) (σ : St) => r26_spawned_L1 v.1 v.2.1 v.2.2 = some o71 /\ v.1 = a0.Code.drop v.2.2 /\ σ.env 1 = iV .i64 a1 /\ σ.env 2 = .cell (.ref (.o 1 0 0) 0) /\ σ.env 5 = iV .i64 v.2.1 /\ σ.env 6 = iV .i64 ((v.2.2 : Nat) : Int) /\ σ.hp (.o 1 0 0) = some (.cells (eA a0)) /\ 3 <= σ.gen) (fun v => v.1.length) _ (Gh.refl _) (a0.Code, 0, 0) ⟨e70, by simp, pv f0, pv f0, pv f0, pv f0, pv f0, pg⟩ fun v σ6 hp L72 hL73 => ?_
  obtain ⟨q75, i61, k62⟩ := v
  dsimp only at hp hL73
  obtain ⟨e70, hd74, h5_1, h5_2, h5_5, h5_6, g5_0, n5_g⟩ := hp
  have n5_0 : ¬ (σ6.gen = 0) := by omega
  rcases q75 with _ | ⟨x80, q76⟩
  ·have hlt77 := drop_end hd74
   rw [r26_spawned_L1] at e70; try dsimp only at e70
   have F1 := an h5_1 (an h5_2 (an h5_5 (an h5_6 (an g5_0 n5_0))))
   refine goR F1 ?_
   refine condK_f (by simp [ltI]; omega) ?_
   obtain rfl := sj e70
   try dsimp only at e41
   exact hK43 i61 _ _ (Gh.refl _) ⟨e41, pv F1, pv F1, pv F1, pv F1, pg⟩
  ·obtain ⟨hx79, hlt77, hd81⟩ := drop_next hd74
   have ew78 := wrap_succ hlt77 (hb1).len
   rw [r26_spawned_L1] at e70; try dsimp only at e70
   have F2 := an h5_1 (an h5_2 (an h5_5 (an h5_6 (an g5_0 (an n5_0 (an hlt77 ew78))))))
   refine goR F2 ?_
   refine condK_t (by simp [ltI]; omega) ?_
   have f82 : partCV Tryz.prog 85 (encL a0.Code) (k62 * 8) = some (iV .i64 x80.Op) := partCV_enc hx79 (f := 0) (by simp)
   have F3 := an F2 f82
   refine goR F3 ?_
   revert e70; refine cS F3 ?_ ?_ <;> intro h83 e70
   ·refine goR F3 ?_
    exact hL73 (q76, IntKind.i64.wrap (i61 + 1), (k62 + 1)) _ _ (Gh.refl _) ⟨e70, hd81, pv F3, pv F3, pv F3, pv F3, pv F3, pg⟩ (by simp)
   ·refine goR F3 ?_
    exact hL73 (q76, i61, (k62 + 1)) _ _ (Gh.refl _) ⟨e70, hd81, pv F3, pv F3, pv F3, pv F3, pv F3, pg⟩ (by simp)
 ·obtain ⟨e41, h4_1, h4_2, h4_5, g4_0, n4_g⟩ := hp
  obtain rfl := sj e41
  try dsimp only at hs
  have n4_0 : ¬ (σ3.gen = 0) := by omega
  have F4 := an h4_1 (an h4_2 (an h4_5 (an g4_0 n4_0)))
  refine goG F4 F4 ?_
  obtain ⟨g84, hs⟩ := guardO_some hs
  refine gsel_call (fun hg => at_r26_back (under_call g84 hg)) (fun hg => by (try simp at hg); (first | simp [hg, F4]); try rfl) (fun hg => by (try simp at hg); simp [hg, F4]) (by simp) ?_
  refine goG F4 F4 ?_
  revert hs; refine cS F4 ?_ ?_ <;> intro h85 hs
  ·refine goG F4 F4 ?_
   obtain rfl := sj hs
   exact hQ _ _ (rg F4 (Gh.refl _))
  ·refine goG F4 F4 ?_
   obtain rfl := sj hs
   exact hQ _ _ (rg F4 (Gh.refl _))
end Go.Dc
end
section
set_option linter.all false
namespace Go.Dc
open Go Go.Hw Go.Proofs
set_option maxRecDepth 100000
def r26_lone_L1 (a0 : Program) (a1 : Int) : List Start -> Int -> Nat -> Option Int
 | [], i91, k92 => some (i91)
 | x115 :: q111, i91, k92 => cond (andB (!(ltI x115.Func 0)) (ltI x115.Func ((a0.Funcs.length : Nat) : Int))) (Option.bind (getI a0.Funcs x115.Func) (fun x119 => Option.bind (r26_spawned x119 a1) (fun y122 => r26_lone_L1 a0 a1 q111 (IntKind.i64.wrap (i91 + y122)) (k92 + 1)))) (r26_lone_L1 a0 a1 q111 i91 (k92 + 1))
def r26_lone_L3 (a0 : Program) (a1 : Int) (i796 : Int) : Nat -> Int -> Option (Unit ⊕ Bool)
 | 0, _ => none
 | q1002 + 1, i983 => Option.bind (getI a0.Funcs i796) (fun x1006 => cond (ltI i983 ((x1006.Code.length : Nat) : Int)) (Option.bind (getI x1006.Code i983) (fun x1010 => guardO (orB (!(andB (andB (eqI x1010.Op 21) (!(ltI x1010.Obj 0))) (ltI x1010.Obj ((a0.Funcs.length : Nat) : Int)))) (inB x1010.Obj a0.Funcs.length)) (guardO (orB (!(andB (andB (eqI x1010.Op 21) (!(ltI x1010.Obj 0))) (ltI x1010.Obj ((a0.Funcs.length : Nat) : Int)))) ((r26_spawned (gd a0.Funcs ((x1010.Obj).toNat)) a1).isSome)) (cond (andB (andB (andB (eqI x1010.Op 21) (!(ltI x1010.Obj 0))) (ltI x1010.Obj ((a0.Funcs.length : Nat) : Int))) (ltI 0 ((r26_spawned (gd a0.Funcs ((x1010.Obj).toNat)) a1).getD default))) (some (.inr false)) (r26_lone_L3 a0 a1 i796 q1002 (IntKind.i64.wrap (i983 + 1))))))) (some (.inl ())))
def r26_lone_L2 (fuelN : Nat) (a0 : Program) (a1 : Int) : Nat -> Int -> Option (Unit ⊕ Bool)
 | 0, _ => none
 | q913 + 1, i796 => cond (ltI i796 ((a0.Funcs.length : Nat) : Int)) (Option.bind (α := Unit ⊕ Bool) (Option.bind (r26_lone_L3 a0 a1 i796 fuelN 0) (fun o => match o with | .inl _ => some (.inl ()) | .inr r1017 => some (.inr r1017))) (fun o => match o with | .inl _ => r26_lone_L2 fuelN a0 a1 q913 (IntKind.i64.wrap (i796 + 1)) | .inr r1018 => some (.inr r1018))) (some (.inl ()))
def r26_lone (fuelN : Nat) (a0 : Program) (a1 : Int) : Option Bool :=
 Option.bind (α := Int) (Option.bind (r26_lone_L1 a0 a1 a0.Threads ((a0.Threads.length : Nat) : Int) 0) (fun i104 => some (i104))) (fun i60 => Option.bind (α := Unit ⊕ Bool) (Option.bind (r26_lone_L2 fuelN a0 a1 fuelN 0) (fun o => match o with | .inl _ => some (.inl ()) | .inr r1019 => some (.inr r1019))) (fun o => match o with | .inl _ => some (!(ltI 5 i60)) | .inr r1020 => some r1020))
set_option maxHeartbeats 2000000 in
theorem at_r26_lone {fuelN : Nat} {a0 : Program} {a1 : Int} {r : Bool} (hs : r26_lone fuelN a0 a1 = some r) : At Tryz.prog 20 [.agg (eA a0), iV .i64 a1] (bV r) := by
 refine at_bound (by kernel_rfl) fun hb => ?_
 have hb1 : LenOk (.sl a0.Vars.length (encL a0.Vars)) := lkc hb
 have hb2 : LenOk (.sl a0.Mutexes.length (encL a0.Mutexes)) := lkc hb
 have hb3 : LenOk (.sl a0.Conds.length (encL a0.Conds)) := lkc hb
 have hb4 : LenOk (.sl a0.Funcs.length (encL a0.Funcs)) := lkc hb
 have hb5 : LenOk (.sl a0.Threads.length (encL a0.Threads)) := lkc hb
 refine at_code mixed Tryz.func20 (by kernel_rfl) rfl (by kernel_rfl) rfl fun Q hQ => ?_
 rw [r26_lone] at hs
 refine goR2 f0 ?_
 revert hs; refine bK fun o62 e61 hs => ?_
 refine awp_cutK (fun (v : Int) (σ : St) => some (v) = some o62 /\ σ.env 1 = iV .i64 a1 /\ σ.env 2 = .cell (.ref (.o 1 0 0) 0) /\ σ.env 5 = iV .i64 v /\ σ.hp (.o 1 0 0) = some (.cells (eA a0)) /\ 3 <= σ.gen) (by rfl) (fun Q hK63 hX64 => ?_) (fun i60 σ3 hp => ?_)
 ·refine goR f0 ?_
  revert e61; refine bK fun o106 e105 e61 => ?_
  refine awp_loopW (fun (v : (List Start) × Int × Nat) (σ : St) => r26_lone_L1 a0 a1 v.1 v.2.1 v.2.2 = some o106 /\ v.1 = a0.Threads.drop v.2.2 /\ σ.env 1 = iV .i64 a1 /\ σ.env 2 = .cell (.ref (.o 1 0 0) 0) /\ σ.env 5 = iV .i64 v.2.1 /\ σ.env 6 = iV .i64 ((v.2.2 : Nat) : Int) /\ σ.hp (.o 1 0 0) = some (.cells (eA a0)) /\ 3 <= σ.gen) (fun v => v.1.length) _ (Gh.refl _) (a0.Threads, ((a0.Threads.length : Nat) : Int), 0) ⟨e105, by simp, pv f0, pv f0, pv f0, pv f0, pv f0, pg⟩ fun v σ6 hp L107 hL108 => ?_
  obtain ⟨q110, i91, k92⟩ := v
  dsimp only at hp hL108
  obtain ⟨e105, hd109, h5_1, h5_2, h5_5, h5_6, g5_0, n5_g⟩ := hp
  have n5_0 : ¬ (σ6.gen = 0) := by omega
  rcases q110 with _ | ⟨x115, q111⟩
  ·have hlt112 := drop_end hd109
   rw [r26_lone_L1] at e105; try dsimp only at e105
   have F1 := an h5_1 (an h5_2 (an h5_5 (an h5_6 (an g5_0 n5_0))))
   refine goR F1 ?_
   refine condK_f (by simp [ltI]; omega) ?_
   obtain rfl := sj e105
   try dsimp only at e61
   exact hK63 i91 _ _ (Gh.refl _) ⟨e61, pv F1, pv F1, pv F1, pv F1, pg⟩
  ·obtain ⟨hx114, hlt112, hd116⟩ := drop_next hd109
   have ew113 := wrap_succ hlt112 (hb5).len
   rw [r26_lone_L1] at e105; try dsimp only at e105
   have F2 := an h5_1 (an h5_2 (an h5_5 (an h5_6 (an g5_0 (an n5_0 (an hlt112 ew113))))))
   refine goR F2 ?_
   refine condK_t (by simp [ltI]; omega) ?_
   have f117 : partCV Tryz.prog 3 (encL a0.Threads) (k92 * 2) = some (iV .i64 x115.Func) := partCV_enc hx114 (f := 0) (by simp)
   have F3 := an F2 f117
   refine goG F3 F3 ?_
   revert e105; refine cS F3 ?_ ?_ <;> intro h118 e105
   ·revert e105; refine bK fun x119 hx120 e105 => ?_
    obtain ⟨hx120a, hx120b, hx120c, hx120d⟩ := getI_some hx120
    have f121 : partCV Tryz.prog 53 (encL a0.Funcs) (((x115.Func).toNat) * 2) = some (.agg (eA x119)) := partCV_enc hx120d (f := 0) (by simp)
    have F4 := an F3 f121
    have F5 := an F4 (an hx120a hx120b)
    refine goG F4 F5 ?_
    revert e105; refine bK fun y122 hx123 e105 => ?_
    refine cP F4 (at_r26_spawned hx123) ?_
    refine goG F4 F5 ?_
    exact hL108 (q111, IntKind.i64.wrap (i91 + y122), (k92 + 1)) _ _ (Gh.refl _) ⟨e105, hd116, pv F4, pv F4, pv F4, pv F4, pv F4, pg⟩ (by simp)
   ·refine goG F3 F3 ?_
    exact hL108 (q111, i91, (k92 + 1)) _ _ (Gh.refl _) ⟨e105, hd116, pv F3, pv F3, pv F3, pv F3, pv F3, pg⟩ (by simp)
 ·obtain ⟨e61, h4_1, h4_2, h4_5, g4_0, n4_g⟩ := hp
  obtain rfl := sj e61
  try dsimp only at hs
  have n4_0 : ¬ (σ3.gen = 0) := by omega
  have F6 := an h4_1 (an h4_2 (an h4_5 (an g4_0 n4_0)))
  refine goR2 F6 ?_
  revert hs; refine bK fun o571 e570 hs => ?_
  refine awp_cutK (fun (v : Unit) (σ : St) => some (.inl v) = some o571 /\ σ.env 5 = iV .i64 i60 /\ (σ3.gen + 1) <= σ.gen) (by rfl) (fun Q hK572 hX573 => ?_) (fun v σ33 hp => ?_)
  ·refine goR F6 ?_
   revert e570; refine bK fun o908 e907 e570 => ?_
   refine awp_loopW (fun (v : Nat × Int) (σ : St) => r26_lone_L2 fuelN a0 a1 v.1 v.2 = some o908 /\ σ.env 1 = iV .i64 a1 /\ σ.env 2 = .cell (.ref (.o 1 0 0) 0) /\ σ.env 5 = iV .i64 i60 /\ σ.env 8 = iV .i64 v.2 /\ σ.hp (.o 1 0 0) = some (.cells (eA a0)) /\ (σ3.gen + 1) <= σ.gen) (fun v => v.1) _ (Gh.refl _) (fuelN, 0) ⟨e907, pv F6, pv F6, pv F6, pv F6, pv F6, pg⟩ fun v σ54 hp L909 hL910 => ?_
   obtain ⟨q912, i796⟩ := v
   dsimp only at hp hL910
   obtain ⟨e907, h53_1, h53_2, h53_5, h53_8, g53_0, n53_g⟩ := hp
   have n53_0 : ¬ (σ54.gen = 0) := by omega
   rcases q912 with _ | q913
   ·rw [r26_lone_L2] at e907; cases e907
   ·rw [r26_lone_L2] at e907; try dsimp only at e907
    have F7 := an h53_1 (an h53_2 (an h53_5 (an h53_8 (an g53_0 n53_0))))
    refine goR F7 ?_
    revert e907; refine cS F7 ?_ ?_ <;> intro h917 e907
    ·refine goR2 F7 ?_
     revert e907; refine bK fun o967 e966 e907 => ?_
     refine awp_cutK (fun (v : Unit) (σ : St) => some (.inl v) = some o967 /\ σ.env 1 = iV .i64 a1 /\ σ.env 2 = .cell (.ref (.o 1 0 0) 0) /\ σ.env 5 = iV .i64 i60 /\ σ.env 8 = iV .i64 i796 /\ σ.hp (.o 1 0 0) = some (.cells (eA a0)) /\ (σ54.gen + 1) <= σ.gen) (by rfl) (fun Q hK968 hX969 => ?_) (fun v σ57 hp => ?_)
     ·refine goR F7 ?_
      revert e966; refine bK fun o997 e996 e966 => ?_
      refine awp_loopW (fun (v : Nat × Int) (σ : St) => r26_lone_L3 a0 a1 i796 v.1 v.2 = some o997 /\ σ.env 1 = iV .i64 a1 /\ σ.env 2 = .cell (.ref (.o 1 0 0) 0) /\ σ.env 5 = iV .i64 i60 /\ σ.env 8 = iV .i64 i796 /\ σ.env 9 = iV .i64 v.2 /\ σ.hp (.o 1 0 0) = some (.cells (eA a0)) /\ (σ54.gen + 2) <= σ.gen) (fun v => v.1) _ (Gh.refl _) (fuelN, 0) ⟨e996, pv F7, pv F7, pv F7, pv F7, pv F7, pv F7, pg⟩ fun v σ60 hp L998 hL999 => ?_
      obtain ⟨q1001, i983⟩ := v
      dsimp only at hp hL999
      obtain ⟨e996, h59_1, h59_2, h59_5, h59_8, h59_9, g59_0, n59_g⟩ := hp
      have n59_0 : ¬ (σ60.gen = 0) := by omega
      rcases q1001 with _ | q1002
      ·rw [r26_lone_L3] at e996; cases e996
      ·rw [r26_lone_L3] at e996; try dsimp only at e996
       revert e996; refine bK fun x1006 hx1007 e996 => ?_
       obtain ⟨hx1007a, hx1007b, hx1007c, hx1007d⟩ := getI_some hx1007
       have f1008 : partCV Tryz.prog 51 (encL a0.Funcs) (((i796).toNat) * 2 + 1) = some (.cell (sC x1006.Code)) := partCV_enc hx1007d (f := 1) (by simp)
       have F8 := an h59_1 (an h59_2 (an h59_5 (an h59_8 (an h59_9 (an g59_0 (an n59_0 f1008))))))
       refine goR F8 ?_
       revert e996; refine cS F8 ?_ ?_ <;> intro h1009 e996
       ·revert e996; refine bK fun x1010 hx1011 e996 => ?_
        obtain ⟨hx1011a, hx1011b, hx1011c, hx1011d⟩ := getI_some hx1011
        have f1012 : partCV Tryz.prog 89 (encL x1006.Code) (((i983).toNat) * 8) = some (.agg (eA x1010)) := partCV_enc hx1011d (f := 0) (by simp)
        obtain ⟨g1013, e996⟩ := guardO_some e996
        have g1013a : (andB (andB (eqI x1010.Op 21) (!(ltI x1010.Obj 0))) (ltI x1010.Obj ((a0.Funcs.length : Nat) : Int))) = true -> 0 <= x1010.Obj := fun hg => (under_elem g1013 hg).1
        have g1013b : (andB (andB (eqI x1010.Op 21) (!(ltI x1010.Obj 0))) (ltI x1010.Obj ((a0.Funcs.length : Nat) : Int))) = true -> x1010.Obj < (a0.Funcs.length : Int) := fun hg => (under_elem g1013 hg).2.1
        have g1013n : (andB (andB (eqI x1010.Op 21) (!(ltI x1010.Obj 0))) (ltI x1010.Obj ((a0.Funcs.length : Nat) : Int))) = true -> (x1010.Obj).toNat < a0.Funcs.length := fun hg => by simpa using (under_elem g1013 hg).2.2.1
        have g1013c : (andB (andB (eqI x1010.Op 21) (!(ltI x1010.Obj 0))) (ltI x1010.Obj ((a0.Funcs.length : Nat) : Int))) = true -> a0.Funcs[(x1010.Obj).toNat]? = some (gd a0.Funcs ((x1010.Obj).toNat)) := fun hg => by simpa using (under_elem g1013 hg).2.2.2
        have f1014 : (andB (andB (eqI x1010.Op 21) (!(ltI x1010.Obj 0))) (ltI x1010.Obj ((a0.Funcs.length : Nat) : Int))) = true -> partCV Tryz.prog 53 (encL a0.Funcs) (((x1010.Obj).toNat) * 2) = some (.agg [tC ((gd a0.Funcs ((x1010.Obj).toNat)).Name), sC ((gd a0.Funcs ((x1010.Obj).toNat)).Code)]) := fun hg => partCV_enc (g1013c hg) (f := 0) (by simp)
        have F9 := an F8 (an f1012 (an g1013a (an g1013b (an g1013n f1014))))
        have F10 := an F9 (an hx1007a (an hx1007b (an hx1011a hx1011b)))
        refine goG F9 F10 ?_
        obtain ⟨g1015, e996⟩ := guardO_some e996
        refine gsel_call (fun hg => at_r26_spawned (under_call g1015 hg)) (fun hg => by (try simp at hg); (first | simp [hg, F9]); try rfl) (fun hg => by (try simp at hg); simp [hg, F9]) (by simp) ?_
        refine goG F9 F10 ?_
        revert e996; refine cS F9 ?_ ?_ <;> intro h1016 e996
        ·refine goG F9 F10 ?_
         obtain rfl := sj e996
         try dsimp only at e966
         obtain rfl := sj e966
         try dsimp only at e907
         refine hX969 _ _ (by simp) ?_
         refine goG F9 F10 ?_
         obtain rfl := sj e907
         try dsimp only at e570
         obtain rfl := sj e570
         try dsimp only at hs
         refine hX573 _ _ (by simp) ?_
         refine goG F9 F10 ?_
         obtain rfl := sj hs
         exact hQ _ _ (rg F9 (Gh.refl _))
        ·refine goG F9 F10 ?_
         exact hL999 (q1002, IntKind.i64.wrap (i983 + 1)) _ _ (Gh.refl _) ⟨e996, pv F9, pv F9, pv F9, pv F9, pv F9, pv F9, pg⟩ (by omega)
       ·refine goR F8 ?_
        obtain rfl := sj e996
        try dsimp only at e966
        exact hK968 () _ _ (Gh.refl _) ⟨e966, pv F8, pv F8, pv F8, pv F8, pv F8, pg⟩
     ·obtain ⟨e966, h58_1, h58_2, h58_5, h58_8, g58_0, n58_g⟩ := hp
      obtain rfl := sj e966
      try dsimp only at e907
      have n58_0 : ¬ (σ57.gen = 0) := by omega
      have F11 := an h58_1 (an h58_2 (an h58_5 (an h58_8 (an g58_0 n58_0))))
      refine goR F11 ?_
      exact hL910 (q913, IntKind.i64.wrap (i796 + 1)) _ _ (Gh.refl _) ⟨e907, pv F11, pv F11, pv F11, pv F11, pv F11, pg⟩ (by omega)
    ·refine goR F7 ?_
     obtain rfl := sj e907
     try dsimp only at e570
     exact hK572 () _ _ (Gh.refl _) ⟨e570, pv F7, pg⟩
  ·obtain ⟨e570, h34_5, n34_g⟩ := hp
   obtain rfl := sj e570
   try dsimp only at hs
   refine goR h34_5 ?_
   obtain rfl := sj hs
   exact hQ _ _ (rg h34_5 (Gh.refl _))
end Go.Dc
end
section
set_option linter.all false
namespace Go.Dc
open Go Go.Hw Go.Proofs
set_option maxRecDepth 100000
def r26_Small_L1 : List Func -> Nat -> Option (Unit ⊕ Bool)
 | [], k42 => some (.inl ())
 | x59 :: q55, k42 => cond (ltI 12 ((x59.Code.length : Nat) : Int)) (some (.inr false)) (r26_Small_L1 q55 (k42 + 1))
def r26_Small (fuelN : Nat) (a0 : Program) (a1 : Int) : Option Bool :=
 cond (orB (orB (orB (orB (orB (ltI 4 ((a0.Funcs.length : Nat) : Int)) (ltI 4 ((a0.Threads.length : Nat) : Int))) (ltI 8 a1)) (ltI 8 ((a0.Vars.length : Nat) : Int))) (ltI 4 ((a0.Mutexes.length : Nat) : Int))) (ltI 4 ((a0.Conds.length : Nat) : Int))) (some false) (Option.bind (α := Unit ⊕ Bool) (Option.bind (r26_Small_L1 a0.Funcs 0) (fun o => match o with | .inl _ => some (.inl ()) | .inr r63 => some (.inr r63))) (fun o => match o with | .inl _ => Option.bind (r26_lone fuelN a0 a1) (fun y64 => some y64) | .inr r66 => some r66))
set_option maxHeartbeats 2000000 in
theorem at_r26_Small {fuelN : Nat} {a0 : Program} {a1 : Int} {r : Bool} (hs : r26_Small fuelN a0 a1 = some r) : At Tryz.prog 6 [.agg (eA a0), iV .i64 a1] (bV r) := by
 refine at_bound (by kernel_rfl) fun hb => ?_
 have hb1 : LenOk (.sl a0.Vars.length (encL a0.Vars)) := lkc hb
 have hb2 : LenOk (.sl a0.Mutexes.length (encL a0.Mutexes)) := lkc hb
 have hb3 : LenOk (.sl a0.Conds.length (encL a0.Conds)) := lkc hb
 have hb4 : LenOk (.sl a0.Funcs.length (encL a0.Funcs)) := lkc hb
 have hb5 : LenOk (.sl a0.Threads.length (encL a0.Threads)) := lkc hb
 refine at_code mixed Tryz.func6 (by kernel_rfl) rfl (by kernel_rfl) rfl fun Q hQ => ?_
 rw [r26_Small] at hs
 refine goG f0 f0 ?_
 revert hs; refine cS f0 ?_ ?_ <;> intro h1 hs
 ·refine goG f0 f0 ?_
  obtain rfl := sj hs
  exact hQ _ _ (rg f0 (Gh.refl _))
 ·refine goG2 f0 f0 ?_
  revert hs; refine bK fun o32 e31 hs => ?_
  refine awp_cutK (fun (v : Unit) (σ : St) => some (.inl v) = some o32 /\ σ.env 1 = iV .i64 a1 /\ σ.env 2 = .cell (.ref (.o 1 0 0) 0) /\ σ.hp (.o 1 0 0) = some (.cells (eA a0)) /\ 3 <= σ.gen) (by rfl) (fun Q hK33 hX34 => ?_) (fun v σ3 hp => ?_)
  ·refine goG f0 f0 ?_
   revert e31; refine bK fun o50 e49 e31 => ?_
   refine awp_loopW (fun (v : (List Func) × Nat) (σ : St) => r26_Small_L1 v.1 v.2 = some o50 /\ v.1 = a0.Funcs.drop v.2 /\ σ.env 1 = iV .i64 a1 /\ σ.env 2 = .cell (.ref (.o 1 0 0) 0) /\ σ.env 5 = iV .i64 ((v.2 : Nat) : Int) /\ σ.hp (.o 1 0 0) = some (.cells (eA a0)) /\ 3 <= σ.gen) (fun v => v.1.length) _ (Gh.refl _) (a0.Funcs, 0) ⟨e49, by simp, pv f0, pv f0, pv f0, pv f0, pg⟩ fun v σ6 hp L51 hL52 => ?_
   obtain ⟨q54, k42⟩ := v
   dsimp only at hp hL52
   obtain ⟨e49, hd53, h5_1, h5_2, h5_5, g5_0, n5_g⟩ := hp
   have n5_0 : ¬ (σ6.gen = 0) := by omega
   rcases q54 with _ | ⟨x59, q55⟩
   ·have hlt56 := drop_end hd53
    rw [r26_Small_L1] at e49; try dsimp only at e49
    have F1 := an h5_1 (an h5_2 (an h5_5 (an g5_0 n5_0)))
    refine goR F1 ?_
    refine condK_f (by simp [ltI]; omega) ?_
    obtain rfl := sj e49
    try dsimp only at e31
    exact hK33 () _ _ (Gh.refl _) ⟨e31, pv F1, pv F1, pv F1, pg⟩
   ·obtain ⟨hx58, hlt56, hd60⟩ := drop_next hd53
    have ew57 := wrap_succ hlt56 (hb4).len
    rw [r26_Small_L1] at e49; try dsimp only at e49
    have F2 := an h5_1 (an h5_2 (an h5_5 (an g5_0 (an n5_0 (an hlt56 ew57)))))
    refine goR F2 ?_
    refine condK_t (by simp [ltI]; omega) ?_
    have f61 : partCV Tryz.prog 51 (encL a0.Funcs) (k42 * 2 + 1) = some (.cell (sC x59.Code)) := partCV_enc hx58 (f := 1) (by simp)
    have F3 := an F2 f61
    refine goR F3 ?_
    revert e49; refine cS F3 ?_ ?_ <;> intro h62 e49
    ·refine goR F3 ?_
     obtain rfl := sj e49
     try dsimp only at e31
     obtain rfl := sj e31
     try dsimp only at hs
     refine hX34 _ _ (by simp) ?_
     refine goR F3 ?_
     obtain rfl := sj hs
     exact hQ _ _ (rg F3 (Gh.refl _))
    ·refine goR F3 ?_
     exact hL52 (q55, (k42 + 1)) _ _ (Gh.refl _) ⟨e49, hd60, pv F3, pv F3, pv F3, pv F3, pg⟩ (by simp)
  ·obtain ⟨e31, h4_1, h4_2, g4_0, n4_g⟩ := hp
   obtain rfl := sj e31
   try dsimp only at hs
   have n4_0 : ¬ (σ3.gen = 0) := by omega
   have F4 := an h4_1 (an h4_2 (an g4_0 n4_0))
   refine goG F4 F4 ?_
   revert hs; refine bK fun y64 hx65 hs => ?_
   refine cP F4 (at_r26_lone hx65) ?_
   refine goG F4 F4 ?_
   obtain rfl := sj hs
   exact hQ _ _ (rg F4 (Gh.refl _))
end Go.Dc
end
section
set_option linter.all false
namespace Go.Dc.Pl
open Go Go.Hw Go.Dc
/-! The size of what is checked. -/
theorem lone1 (p : Program) (a : Int) : ∀ (l : List Start) (i : Int) (k : Nat), ∃ r, r26_lone_L1 p a l i k = some r
 | [], i, k => ⟨i, rfl⟩
 | x :: q, i, k => by
  rw [r26_lone_L1]
  cases h : andB (!(ltI x.Func 0)) (ltI x.Func ((p.Funcs.length : Nat) : Int)) with
  | false => exact lone1 p a q i (k + 1)
  | true =>
   simp only [andB_d, ltI_d, Bool.and_eq_true, Bool.not_eq_true', decide_eq_false_iff_not, decide_eq_true_eq] at h
   obtain ⟨n, hn⟩ : ∃ n : Nat, x.Func = n := ⟨x.Func.toNat, by omega⟩
   rw [cond_true, hn, getI_nat, List.getElem?_eq_getElem (by omega), Option.bind_some]
   obtain ⟨y, hy⟩ : ∃ y, r26_spawned (p.Funcs[n]'(by omega)) a = some y := spawned_ex _ _
   rw [hy]; exact lone1 p a q _ (k + 1)
where
 spawnedL : ∀ (l : List Inst) (i : Int) (k : Nat), ∃ r, r26_spawned_L1 l i k = some r
  | [], i, k => ⟨i, rfl⟩
  | x :: q, i, k => by rw [r26_spawned_L1]; cases eqI x.Op 21 <;> exact spawnedL q _ _
 backL : ∀ (l : List Inst) (k : Nat), ∃ r, r26_back_L1 l k = some r
  | [], k => ⟨_, rfl⟩
  | x :: q, k => by rw [r26_back_L1]; cases andB (orB (eqI x.Op 4) (eqI x.Op 5)) (!(ltI ((k : Nat) : Int) x.N)) <;> first | exact backL q _ | exact ⟨_, rfl⟩
 back_ex (f : Func) : ∃ b, r26_back f = some b := by
  obtain ⟨r, hr⟩ := backL f.Code 0
  rw [r26_back, hr]; cases r <;> exact ⟨_, rfl⟩
 spawned_ex (f : Func) (a : Int) : ∃ y, r26_spawned f a = some y := by
  obtain ⟨r, hr⟩ := spawnedL f.Code 0 0
  obtain ⟨b, hb⟩ := back_ex f
  rw [r26_spawned, hr, hb]
  simp only [Option.bind_some, Option.isSome_some]
  rw [show orB (!ltI 0 r) true = true from orB_t _]
  cases andB (ltI 0 r) ((some b).getD default) <;> exact ⟨_, rfl⟩
theorem lone3 (p : Program) (a : Int) (k : Nat) (f : Func) (hf : p.Funcs[k]? = some f) (hc : f.Code.length <= 100) : ∀ (q j : Nat), j <= f.Code.length -> f.Code.length < j + q -> ∃ r, r26_lone_L3 p a (k : Int) q (j : Int) = some r
 | 0, j, h1, h2 => by omega
 | q + 1, j, h1, h2 => by
  rw [r26_lone_L3, getI_nat, hf, Option.bind_some]
  rcases Nat.lt_or_ge j f.Code.length with h | h
  ·rw [ltI_d, decide_eq_true (by omega), cond_true, getI_nat, List.getElem?_eq_getElem h, Option.bind_some]
   generalize f.Code[j] = x
   obtain ⟨y, hy⟩ := lone1.spawned_ex (gd p.Funcs x.Obj.toNat) a
   rw [hy]
   have e1 : orB (!(andB (andB (eqI x.Op 21) (!(ltI x.Obj 0))) (ltI x.Obj ((p.Funcs.length : Nat) : Int)))) (inB x.Obj p.Funcs.length) = true := by
    simp only [orB_d, andB_d, ltI_d, inB_d]
    by_cases a : 0 <= x.Obj /\ x.Obj < (p.Funcs.length : Int)
    ·simp [a]
    ·rw [decide_eq_false a]
     by_cases b : x.Obj < 0
     ·simp [b]
     ·simp [b]; right; omega
   rw [e1, guardO_t, show (some y).isSome = true from rfl, orB_t, guardO_t, wrapS (by omega)]
   cases andB (andB (andB (eqI x.Op 21) (!(ltI x.Obj 0))) (ltI x.Obj ((p.Funcs.length : Nat) : Int))) (ltI 0 ((some y).getD default)) with
   | true => exact ⟨_, rfl⟩
   | false => exact lone3 p a k f hf hc q (j + 1) (by omega) (by omega)
  ·rw [ltI_d, decide_eq_false (by omega)]; exact ⟨_, rfl⟩
theorem lone2 (p : Program) (a : Int) (f : Nat) (hp : p.Funcs.length <= 20) (hc : ∀ g ∈ p.Funcs, g.Code.length <= 100) (hf : 200 <= f) : ∀ (q k : Nat), k <= p.Funcs.length -> p.Funcs.length < k + q -> ∃ r, r26_lone_L2 f p a q (k : Int) = some r
 | 0, k, h1, h2 => by omega
 | q + 1, k, h1, h2 => by
  rw [r26_lone_L2]
  rcases Nat.lt_or_ge k p.Funcs.length with h | h
  ·obtain ⟨r, hr⟩ := lone3 p a k _ (List.getElem?_eq_getElem h) (hc _ (List.getElem_mem h)) f 0 (by omega) (by have := hc _ (List.getElem_mem h); omega)
   rw [ltI_d, decide_eq_true (by omega), cond_true, show (0 : Int) = ((0 : Nat) : Int) from rfl, hr, wrapS (by omega)]
   cases r with
   | inl u => exact lone2 p a f hp hc hf q (k + 1) (by omega) (by omega)
   | inr u => exact ⟨_, rfl⟩
  ·rw [ltI_d, decide_eq_false (by omega)]; exact ⟨_, rfl⟩
theorem lone_ex (p : Program) (a : Int) {f : Nat} (hp : p.Funcs.length <= 20) (hc : ∀ g ∈ p.Funcs, g.Code.length <= 100) (hf : 200 <= f) : ∃ b, r26_lone f p a = some b := by
 obtain ⟨r, hr⟩ := lone1 p a p.Threads ((p.Threads.length : Nat) : Int) 0
 obtain ⟨s, hs⟩ := lone2 p a f hp hc hf f 0 (by omega) (by omega)
 rw [r26_lone, hr, show (0 : Int) = ((0 : Nat) : Int) from rfl, hs]
 cases s <;> exact ⟨_, rfl⟩
/-- Whether a job is small is answered; and what that says. -/
theorem small26 (p : Program) (a : Int) {f : Nat} (hf : 200 <= f) : ∃ b, r26_Small f p a = some b /\ (b = true -> small p = true) := by
 rw [r26_Small]
 cases h : orB (orB (orB (orB (orB (ltI 4 ((p.Funcs.length : Nat) : Int)) (ltI 4 ((p.Threads.length : Nat) : Int))) (ltI 8 a)) (ltI 8 ((p.Vars.length : Nat) : Int))) (ltI 4 ((p.Mutexes.length : Nat) : Int))) (ltI 4 ((p.Conds.length : Nat) : Int)) with
 | true => exact ⟨false, rfl, fun h => by cases h⟩
 | false =>
  simp only [orB_d, ltI_d, Bool.or_eq_false_iff, decide_eq_false_iff_not] at h
  have hs := srch (L := r26_Small_L1) (fun _ (g : Func) => onlyIf (ltI 12 ((g.Code.length : Nat) : Int)) false) (fun _ => rfl) p.Funcs 0 fun j x hx q => by
   rw [r26_Small_L1]; exact step_only _ _ _
  rw [first_onlyC] at hs
  rw [cond_false, hs]
  cases hc : p.Funcs.any fun g => ltI 12 ((g.Code.length : Nat) : Int) with
  | true => exact ⟨false, rfl, fun h => by cases h⟩
  | false =>
   have hc' : ∀ g ∈ p.Funcs, g.Code.length <= 12 := fun g hg => by
    have := (List.any_eq_false.1 hc) g hg
    simp [ltI_d] at this; omega
   obtain ⟨b, hb⟩ := lone_ex p a (f := f) (by omega) (fun g hg => by have := hc' g hg; omega) hf
   refine ⟨b, ?_, fun _ => ?_⟩
   ·show Option.bind (r26_lone f p a) some = _
    rw [hb]; rfl
   ·simp only [small, Bool.and_eq_true, decide_eq_true_eq, Bool.not_eq_true']
    refine ⟨by omega, List.any_eq_false.2 fun g hg => ?_⟩
    have := hc' g hg; simp; omega
/-! Whether a program and a configuration are in order. -/
def cfgE (c : Config) : Int := (program_CheckConfig c).getD 0
theorem own_cfg (c : Config) : program_CheckConfig c = some (cfgE c) := by
 have : (program_CheckConfig c).isSome = true := by
  unfold program_CheckConfig
  cases andB (andB (!(eqI c.Model 1)) (!(eqI c.Model 2))) (!(eqI c.Model 3)) with
  | true => rfl
  | false => cases orB (ltI c.Bound 1) (ltI 32 c.Bound) <;> rfl
 obtain ⟨x, hx⟩ := Option.isSome_iff_exists.1 this
 rw [cfgE, hx]; rfl
theorem ref_cfg (c : Config) : r08_CheckConfig c = some (cfgE c) := own_cfg c
def stdE (p : Program) (c : Config) : Int := cond (!(eqI (chk p).1 0)) (chk p).1 (cond (!(eqI (cfgE c) 0)) (cfgE c) (cond (eqI c.Model 3) 18 0))
theorem own_std {f : Nat} {p : Program} (c : Config) (h : small p = true) : checkpoint_standard (f + 8) p c = some (stdE p c) := by
 rw [checkpoint_standard, own_check h, own_cfg]
 simp only [Option.bind_some, stdE]
 cases eqI (chk p).1 0 <;> cases eqI (cfgE c) 0 <;> cases eqI c.Model 3 <;> rfl
theorem ref_std {f : Nat} {p : Program} (c : Config) (h : small p = true) (hf : 21 <= f) : r49_standard f p c = some (stdE p c) := by
 rw [r49_standard, ref_check h hf, ref_cfg]
 simp only [Option.bind_some, stdE]
 cases eqI (chk p).1 0 <;> cases eqI (cfgE c) 0 <;> cases eqI c.Model 3 <;> rfl
theorem std_chk {p : Program} {c : Config} (h : eqI (stdE p c) 0 = true) : eqI (chk p).1 0 = true := by
 unfold stdE at h
 cases h1 : eqI (chk p).1 0 with
 | true => rfl
 | false => rw [h1] at h; simp at h; rw [h] at h1; cases h1
/-! Names of a program that is in order are short. -/
theorem first_none {α β : Type} {f : Nat -> α -> Option β} : ∀ {l : List α} {k : Nat}, first f l k = none -> ∀ j x, l[j]? = some x -> f (k + j) x = none
 | [], _, _, j, x, hx => by simp at hx
 | y :: q, k, h, j, x, hx => by
  rw [first_cons] at h
  cases hy : f k y with
  | some r => rw [hy] at h; cases h
  | none =>
   rw [hy] at h
   cases j with
   | zero => simp at hx; subst hx; exact hy
   | succ j => have := first_none h j x (by simpa using hx); rwa [show k + (j + 1) = k + 1 + j by omega]
theorem badName_none {l : List ByteArray} (h : badName l = none) : ∀ x ∈ l, x.size <= 16 := fun x hx => by
 obtain ⟨j, hj⟩ := List.getElem?_of_mem hx
 have := first_none h j x hj
 rw [nmF] at this
 split at this
 ·cases this
 ·rename_i hk
  have : okName x = true := by simpa using hk
  simp only [okName, Bool.and_eq_true, decide_eq_true_eq] at this
  exact this.1.2
theorem names16 {p : Program} (h : eqI (chk p).1 0 = true) : (∀ v ∈ p.Vars, v.Name.size <= 16) /\ (∀ x ∈ p.Mutexes, x.size <= 16) /\ (∀ x ∈ p.Conds, x.size <= 16) /\ ∀ g ∈ p.Funcs, g.Name.size <= 16 := by
 have hn : ckN p = none := by
  unfold chk at h
  cases hn : ckN p with
  | none => rfl
  | some r =>
   rw [hn] at h
   have : eqI r.1 0 = false := by
    rw [ckN] at hn
    split at hn
    ·rename_i hb; obtain rfl := Option.some.inj hn; have := badName_ne hb; exact this
    ·split at hn
     ·rename_i hb; obtain rfl := Option.some.inj hn; have := badName_ne hb; exact this
     ·split at hn
      ·rename_i hb; obtain rfl := Option.some.inj hn; have := badName_ne hb; exact this
      ·exact badName_ne hn
   simp [this] at h
 rw [ckN] at hn
 split at hn
 ·cases hn
 ·rename_i h1
  split at hn
  ·cases hn
  ·rename_i h2
   split at hn
   ·cases hn
   ·rename_i h3
    exact ⟨fun v hv => badName_none h1 _ (List.mem_map_of_mem hv), badName_none h2, badName_none h3, fun g hg => badName_none hn _ (List.mem_map_of_mem hg)⟩
end Go.Dc.Pl
end
section
set_option linter.all false
namespace Go.Dc.Pl
open Go Go.Hw Go.Dc
theorem appU_le (b : List UInt8) (n : Int) : (appU b n).length <= b.length + 9 := by
 unfold appU; split
 ·omega
 ·have := uintB_le9 (n := n.toNat) (by omega); simp; omega
theorem appI_le (b : List UInt8) (n : Int) : (appI b n).length <= b.length + 9 := by
 unfold appI; split
 ·rename_i h; have := uintB_le9 (intCode_le h); simp; omega
 ·omega
theorem appS_le (b : List UInt8) {s : ByteArray} (h : s.size <= 16) : (appS b s).length <= b.length + 25 := by
 have h9 := uintB_le9 (n := s.size) (by omega); have := str_len s
 unfold appS; simp; omega
/-- Bytes appended element by element. -/
theorem foldA {α : Type} {L : List α -> List UInt8 -> Nat -> Option (List UInt8)} (g : List UInt8 -> α -> List UInt8) (c B : Nat) (ok : α -> Prop) (h0 : ∀ b k, L [] b k = some b)
  (h1 : ∀ x q b k, ok x -> b.length <= B -> L (x :: q) b k = L q (g b x) (k + 1)) (hl : ∀ x b, ok x -> (g b x).length <= b.length + c) :
  ∀ (l : List α) (b : List UInt8) (k : Nat), (∀ x ∈ l, ok x) -> b.length + c * l.length <= B -> L l b k = some (l.foldl g b) /\ (l.foldl g b).length <= b.length + c * l.length
 | [], b, k, _, _ => ⟨h0 b k, by simp⟩
 | x :: q, b, k, ho, hb => by
  have hx := ho x (by simp)
  have hg := hl x b hx
  rw [List.length_cons, Nat.mul_succ] at hb ⊢
  obtain ⟨e1, e2⟩ := foldA g c B ok h0 h1 hl q (g b x) (k + 1) (fun y hy => ho y (by simp [hy])) (by omega)
  refine ⟨by rw [h1 x q b k hx (by omega)]; exact e1, ?_⟩
  show (List.foldl g (g b x) q).length <= _
  omega
def numsB (b : List UInt8) (l : List Int) : List UInt8 := l.foldl appI b
theorem own_nums {f : Nat} {b : List UInt8} {l : List Int} (hf : 9 <= f) (h : b.length + 9 * l.length <= 1000000) : checkpoint_text_1 f l b = some (numsB b l) /\ (numsB b l).length <= b.length + 9 * l.length := by
 have := foldA (L := fun l b k => checkpoint_text_1_L1 f l k b) appI 9 1000000 (fun _ => True) (fun b k => rfl) (fun x q b k _ hb => by
  show checkpoint_text_1_L1 f (x :: q) k b = _
  rw [checkpoint_text_1_L1, own_appI hf (by omega)]; rfl) (fun x b _ => appI_le b x) l b 0 (fun _ _ => trivial) h
 exact ⟨by rw [checkpoint_text_1, this.1]; rfl, this.2⟩
theorem ref_nums {f : Nat} {b : List UInt8} {l : List Int} (hf : 9 <= f) (h : b.length + 9 * l.length <= 1000000) : r49_numbers f b l = some (numsB b l) := by
 have := foldA (L := r49_numbers_L1 f) appI 9 1000000 (fun _ => True) (fun b k => rfl) (fun x q b k _ hb => by
  rw [r49_numbers_L1, ref_appI hf (by omega)]; rfl) (fun x b _ => appI_le b x) l b 0 (fun _ _ => trivial) h
 rw [r49_numbers, this.1]; rfl
theorem nums_le (b : List UInt8) (l : List Int) : (numsB b l).length <= b.length + 9 * l.length := by
 induction l generalizing b with
 | nil => simp [numsB]
 | cons x l ih => have h1 := ih (appI b x); have h2 := appI_le b x; simp only [numsB, List.foldl_cons, List.length_cons] at h1 ⊢; omega
def namesB (b : List UInt8) (l : List ByteArray) : List UInt8 := l.foldl appS (appU b (l.length : Int))
theorem own_namesB {f : Nat} {b : List UInt8} {l : List ByteArray} (hf : 9 <= f) (hl : ∀ x ∈ l, x.size <= 16) (h : b.length + 9 + 25 * l.length <= 1000000) :
  checkpoint_text_3_checkpoint_text_2 f l b = some (namesB b l) /\ (namesB b l).length <= b.length + 9 + 25 * l.length := by
 have hu := appU_le b (l.length : Int)
 have := foldA (L := fun l b k => checkpoint_text_3_checkpoint_text_2_L1 f l k b) appS 25 1000000 (fun x => x.size <= 16) (fun b k => rfl) (fun x q b k hx hb => by
  show checkpoint_text_3_checkpoint_text_2_L1 f (x :: q) k b = _
  rw [checkpoint_text_3_checkpoint_text_2_L1, own_appS hf (by omega) (by omega)]; rfl) (fun x b hx => appS_le b hx) l (appU b (l.length : Int)) 0 hl (by omega)
 refine ⟨?_, by have := this.2; unfold namesB; omega⟩
 rw [checkpoint_text_3_checkpoint_text_2, checkpoint_text_2, own_appU hf (by omega)]
 simp only [Option.bind_some, this.1]; rfl
theorem ref_namesB {f : Nat} {b : List UInt8} {l : List ByteArray} (hf : 9 <= f) (hl : ∀ x ∈ l, x.size <= 16) (h : b.length + 9 + 25 * l.length <= 1000000) : r49_names f b l = some (namesB b l) := by
 have hu := appU_le b (l.length : Int)
 have := foldA (L := r49_names_L1 f) appS 25 1000000 (fun x => x.size <= 16) (fun b k => rfl) (fun x q b k hx hb => by
  rw [r49_names_L1, ref_appS hf (by omega) (by omega)]; rfl) (fun x b hx => appS_le b hx) l (appU b (l.length : Int)) 0 hl (by omega)
 rw [r49_names, ref_appU hf (by omega)]
 simp only [Option.bind_some, this.1]; rfl
def varB (b : List UInt8) (v : Var) : List UInt8 := numsB (appS b v.Name) [v.Init]
def fieldsI (x : Inst) : List Int := [x.Op, x.A, x.B, x.C, x.Obj, x.N, x.Fn, x.Order]
def instB (b : List UInt8) (x : Inst) : List UInt8 := numsB b (fieldsI x)
def funcB (b : List UInt8) (g : Func) : List UInt8 := g.Code.foldl instB (appU (appS b g.Name) (g.Code.length : Int))
def startB (b : List UInt8) (t : Start) : List UInt8 := numsB b [t.Func, t.Arg]
def textB (p : Program) (c : Config) : List UInt8 :=
 p.Threads.foldl startB (appU (p.Funcs.foldl funcB (appU (namesB (namesB (p.Vars.foldl varB (appU (numsB [] [c.Model, c.Bound]) (p.Vars.length : Int))) p.Mutexes) p.Conds) (p.Funcs.length : Int))) (p.Threads.length : Int))
theorem code_own {f : Nat} (hf : 9 <= f) (l : List Inst) (b : List UInt8) (h : b.length + 72 * l.length <= 900000) : checkpoint_text_L3 f l 0 b = some (l.foldl instB b) /\ (l.foldl instB b).length <= b.length + 72 * l.length :=
 foldA (L := fun l b k => checkpoint_text_L3 f l k b) instB 72 900000 (fun _ => True) (fun b k => rfl) (fun x q b k _ hb => by
  show checkpoint_text_L3 f (x :: q) k b = _
  rw [checkpoint_text_L3]
  simp only [Option.bind_some]
  rw [(own_nums (l := [x.Op, x.A, x.B, x.C, x.Obj, x.N, x.Fn, x.Order]) hf (by simp; omega)).1]; rfl) (fun x b _ => by have := nums_le b (fieldsI x); simpa [instB, fieldsI] using this) l b 0 (fun _ _ => trivial) h
theorem code_ref {f : Nat} (hf : 9 <= f) (l : List Inst) (b : List UInt8) (h : b.length + 72 * l.length <= 900000) : r49_Digest_L3 f l b 0 = some (l.foldl instB b) :=
 (foldA (L := r49_Digest_L3 f) instB 72 900000 (fun _ => True) (fun b k => rfl) (fun x q b k _ hb => by
  rw [r49_Digest_L3]
  simp only [Option.bind_some]
  rw [ref_nums (l := [x.Op, x.A, x.B, x.C, x.Obj, x.N, x.Fn, x.Order]) hf (by simp; omega)]; rfl) (fun x b _ => by have := nums_le b (fieldsI x); simpa [instB, fieldsI] using this) l b 0 (fun _ _ => trivial) h).1
theorem funcB_le {b : List UInt8} {g : Func} (h : g.Name.size <= 16) : (funcB b g).length <= b.length + 34 + 72 * g.Code.length := by
 have h1 := appS_le b h
 have h2 := appU_le (appS b g.Name) (g.Code.length : Int)
 have : ∀ (l : List Inst) (b : List UInt8), (l.foldl instB b).length <= b.length + 72 * l.length := fun l => by
  induction l with
  | nil => intro b; simp
  | cons x l ih => intro b; have h3 := ih (instB b x); have h4 := nums_le b (fieldsI x); simp only [List.foldl_cons, List.length_cons]; simp only [instB, fieldsI, List.length_cons, List.length_nil] at h3 h4 ⊢; omega
 have h3 := this g.Code (appU (appS b g.Name) (g.Code.length : Int))
 unfold funcB; omega
theorem zip_foldl {α σ : Type} (g : σ -> α -> σ) : ∀ (l : List α) (k : Nat) (s : σ), (l.zipIdx k).foldl (fun s x => g s x.1) s = l.foldl g s
 | [], _, _ => rfl
 | x :: l, k, s => by rw [List.zipIdx_cons, List.foldl_cons, List.foldl_cons, zip_foldl g l]
theorem funcs_own {f : Nat} (hf : 200 <= f) (p : Program) (hp : p.Funcs.length <= 20) (hc : ∀ g ∈ p.Funcs, g.Code.length <= 100 /\ g.Name.size <= 16) (b : List UInt8) (hb : b.length <= 10000) :
  checkpoint_text_L2 f p f 0 b = some (p.Funcs.foldl funcB b) /\ (p.Funcs.foldl funcB b).length <= 10000 + 7234 * 20 := by
 have h := foldI (L := fun q s i => checkpoint_text_L2 f p q i s) p.Funcs (fun _ g s => funcB s g) (fun k s => s.length <= 10000 + 7234 * k) (fun q s _ => by
   show checkpoint_text_L2 f p (q + 1) _ s = _
   rw [checkpoint_text_L2, ltI_d, decide_eq_false (by omega)]; rfl) (fun q k s x hx hs => by
   have hk := getN_some hx
   obtain ⟨c1, c2⟩ := hc x (List.mem_of_getElem? hx)
   have hl := funcB_le (b := s) c2
   have ha := appS_le s c2
   have hu := appU_le (appS s x.Name) (x.Code.length : Int)
   refine ⟨?_, by omega⟩
   show checkpoint_text_L2 f p (q + 1) _ s = checkpoint_text_L2 f p q _ _
   rw [checkpoint_text_L2, ltI_d, decide_eq_true (by omega), cond_true, getI_nat, hx, Option.bind_some, own_appS (by omega) (by omega) (by omega), Option.bind_some, checkpoint_text_2, own_appU (by omega) (by omega)]
   simp only [Option.bind_some]
   rw [(code_own (by omega) x.Code _ (by omega)).1, wrapS (by omega)]; rfl) f 0 b (by omega) (by omega) (by omega)
 rw [List.drop_zero, zip_foldl (fun s g => funcB s g)] at h
 refine ⟨h, ?_⟩
 have : ∀ (l : List Func) (b : List UInt8), (∀ g ∈ l, g.Code.length <= 100 /\ g.Name.size <= 16) -> (l.foldl funcB b).length <= b.length + 7234 * l.length := fun l => by
  induction l with
  | nil => intro b _; simp
  | cons x l ih => intro b hl; have h3 := ih (funcB b x) (fun g hg => hl g (by simp [hg])); have h4 := funcB_le (b := b) (hl x (by simp)).2; have h5 := (hl x (by simp)).1; simp only [List.foldl_cons, List.length_cons]; omega
 have := this p.Funcs b hc
 have e : 7234 * p.Funcs.length <= 7234 * 20 := Nat.mul_le_mul_left _ hp
 omega
theorem funcs_ref {f : Nat} (hf : 200 <= f) (p : Program) (hp : p.Funcs.length <= 20) (hc : ∀ g ∈ p.Funcs, g.Code.length <= 100 /\ g.Name.size <= 16) (b : List UInt8) (hb : b.length <= 10000) :
  r49_Digest_L2 f p f b 0 = some (p.Funcs.foldl funcB b) := by
 have h := foldI (L := fun q s i => r49_Digest_L2 f p q s i) p.Funcs (fun _ g s => funcB s g) (fun k s => s.length <= 10000 + 7234 * k) (fun q s _ => by
   show r49_Digest_L2 f p (q + 1) s _ = _
   rw [r49_Digest_L2, ltI_d, decide_eq_false (by omega)]; rfl) (fun q k s x hx hs => by
   have hk := getN_some hx
   obtain ⟨c1, c2⟩ := hc x (List.mem_of_getElem? hx)
   have hl := funcB_le (b := s) c2
   have ha := appS_le s c2
   have hu := appU_le (appS s x.Name) (x.Code.length : Int)
   refine ⟨?_, by omega⟩
   show r49_Digest_L2 f p (q + 1) s _ = r49_Digest_L2 f p q _ _
   rw [r49_Digest_L2, ltI_d, decide_eq_true (by omega), cond_true, getI_nat, hx, Option.bind_some, ref_appS (by omega) (by omega) (by omega), Option.bind_some, ref_appU (by omega) (by omega)]
   simp only [Option.bind_some]
   rw [code_ref (by omega) x.Code _ (by omega), wrapS (by omega)]; rfl) f 0 b (by omega) (by omega) (by omega)
 rw [List.drop_zero, zip_foldl (fun s g => funcB s g)] at h
 exact h
/-- The text, by both; and its length. -/
theorem text_eq {f : Nat} (hf : 200 <= f) {p : Program} (c : Config) (h : small p = true) (hk : eqI (chk p).1 0 = true) :
  checkpoint_text f p c = some (textB p c) /\ (textB p c).length <= 200000 /\
  (∀ K : List UInt8 -> Option (Int × Int), (Option.bind (r49_numbers f [] [c.Model, c.Bound]) fun y6 => Option.bind (r06_AppendUint f y6 ((p.Vars.length : Nat) : Int)) fun y8 => Option.bind (Option.bind (r49_Digest_L1 f p.Vars y8 0) fun l82 => some l82) fun l53 => Option.bind (r49_names f l53 p.Mutexes) fun y101 => Option.bind (r49_names f y101 p.Conds) fun y103 => Option.bind (r06_AppendUint f y103 ((p.Funcs.length : Nat) : Int)) fun y105 => Option.bind (Option.bind (r49_Digest_L2 f p f y105 0) fun l1039 => some l1039) fun l638 => Option.bind (r06_AppendUint f l638 ((p.Threads.length : Nat) : Int)) fun y1174 => Option.bind (Option.bind (r49_Digest_L4 f p.Threads y1174 0) fun l1326 => some l1326) K) = K (textB p c)) := by
 obtain ⟨s1, s2, s3, s4, s5, s6⟩ := small_t h
 obtain ⟨n1, n2, n3, n4⟩ := names16 hk
 have a1 := nums_le [] [c.Model, c.Bound]
 simp only [List.length_nil, List.length_cons] at a1
 have a2 := appU_le (numsB [] [c.Model, c.Bound]) (p.Vars.length : Int)
 have hv := foldA (L := fun l b k => checkpoint_text_L1 f l k b) varB 34 100000 (fun v => v.Name.size <= 16) (fun b k => rfl) (fun x q b k hx hb => by
  show checkpoint_text_L1 f (x :: q) k b = _
  have := appS_le b hx
  rw [checkpoint_text_L1, own_appS (by omega) (by omega) (by omega)]
  simp only [Option.bind_some]
  rw [(own_nums (l := [x.Init]) (by omega) (by simp; omega)).1]; rfl) (fun x b hx => by have h1 := appS_le b hx; have h2 := nums_le (appS b x.Name) [x.Init]; simp only [List.length_cons, List.length_nil] at h2; unfold varB; omega)
  p.Vars (appU (numsB [] [c.Model, c.Bound]) (p.Vars.length : Int)) 0 n1 (by omega)
 have hv' := foldA (L := r49_Digest_L1 f) varB 34 100000 (fun v => v.Name.size <= 16) (fun b k => rfl) (fun x q b k hx hb => by
  have := appS_le b hx
  rw [r49_Digest_L1, ref_appS (by omega) (by omega) (by omega), Option.bind_some, ref_appI (by omega) (by omega)]; rfl) (fun x b hx => by have h1 := appS_le b hx; have h2 := nums_le (appS b x.Name) [x.Init]; simp only [List.length_cons, List.length_nil] at h2; unfold varB; omega)
  p.Vars (appU (numsB [] [c.Model, c.Bound]) (p.Vars.length : Int)) 0 n1 (by omega)
 obtain ⟨hv1, hv2⟩ := hv
 generalize hV : p.Vars.foldl varB (appU (numsB [] [c.Model, c.Bound]) (p.Vars.length : Int)) = V at hv1 hv2 hv'
 obtain ⟨m1, m2⟩ := own_namesB (f := f) (b := V) (by omega) n2 (by omega)
 have m3 := ref_namesB (f := f) (b := V) (by omega) n2 (by omega)
 obtain ⟨c1, c2⟩ := own_namesB (f := f) (b := namesB V p.Mutexes) (by omega) n3 (by omega)
 have c3 := ref_namesB (f := f) (b := namesB V p.Mutexes) (by omega) n3 (by omega)
 have u1 := appU_le (namesB (namesB V p.Mutexes) p.Conds) (p.Funcs.length : Int)
 obtain ⟨f1, f2⟩ := funcs_own hf p s4 (fun g hg => ⟨s6 g hg, n4 g hg⟩) (appU (namesB (namesB V p.Mutexes) p.Conds) (p.Funcs.length : Int)) (by omega)
 have f3 := funcs_ref hf p s4 (fun g hg => ⟨s6 g hg, n4 g hg⟩) (appU (namesB (namesB V p.Mutexes) p.Conds) (p.Funcs.length : Int)) (by omega)
 generalize hF : p.Funcs.foldl funcB (appU (namesB (namesB V p.Mutexes) p.Conds) (p.Funcs.length : Int)) = F at f1 f2 f3
 have u2 := appU_le F (p.Threads.length : Int)
 have ht := foldA (L := fun l b k => checkpoint_text_L4 f l k b) startB 18 900000 (fun _ => True) (fun b k => rfl) (fun x q b k _ hb => by
  show checkpoint_text_L4 f (x :: q) k b = _
  rw [checkpoint_text_L4]
  simp only [Option.bind_some]
  rw [(own_nums (l := [x.Func, x.Arg]) (by omega) (by simp; omega)).1]; rfl) (fun x b _ => by have := nums_le b [x.Func, x.Arg]; simpa [startB] using this) p.Threads (appU F (p.Threads.length : Int)) 0 (fun _ _ => trivial) (by omega)
 have ht' := foldA (L := r49_Digest_L4 f) startB 18 900000 (fun _ => True) (fun b k => rfl) (fun x q b k _ hb => by
  rw [r49_Digest_L4]
  simp only [Option.bind_some]
  rw [ref_nums (l := [x.Func, x.Arg]) (by omega) (by simp; omega)]; rfl) (fun x b _ => by have := nums_le b [x.Func, x.Arg]; simpa [startB] using this) p.Threads (appU F (p.Threads.length : Int)) 0 (fun _ _ => trivial) (by omega)
 have eT : textB p c = p.Threads.foldl startB (appU F (p.Threads.length : Int)) := by unfold textB; rw [hV, hF]
 refine ⟨?_, by rw [eT]; have := ht.2; omega, fun K => ?_⟩
 ·rw [checkpoint_text]
  simp only [Option.bind_some]
  rw [(own_nums (l := [c.Model, c.Bound]) (by omega) (by simp)).1]
  simp only [Option.bind_some, checkpoint_text_2]
  rw [own_appU (by omega) (by omega)]
  simp only [Option.bind_some]
  rw [hv1]
  simp only [Option.bind_some]
  rw [m1]
  simp only [Option.bind_some]
  rw [c1]
  simp only [Option.bind_some]
  rw [own_appU (by omega) (by omega)]
  simp only [Option.bind_some]
  rw [f1]
  simp only [Option.bind_some]
  rw [own_appU (by omega) (by omega)]
  simp only [Option.bind_some]
  rw [ht.1, eT]; rfl
 ·rw [ref_nums (by omega) (by simp)]
  simp only [Option.bind_some]
  rw [ref_appU (by omega) (by omega)]
  simp only [Option.bind_some]
  rw [hv'.1]
  simp only [Option.bind_some]
  rw [m3]
  simp only [Option.bind_some]
  rw [c3]
  simp only [Option.bind_some]
  rw [ref_appU (by omega) (by omega)]
  simp only [Option.bind_some]
  rw [f3]
  simp only [Option.bind_some]
  rw [ref_appU (by omega) (by omega)]
  simp only [Option.bind_some]
  rw [ht'.1, eT]; rfl
/-- The digest. -/
def digest (p : Program) (c : Config) : Int × Int := cond (!(eqI (stdE p c) 0)) (0, stdE p c) (((crc (textB p c) : Nat) : Int), 0)
theorem own_digest {f : Nat} (hf : 300000 <= f) {p : Program} (c : Config) (h : small p = true) : checkpoint_Digest f p c = some (digest p c) := by
 obtain ⟨f, rfl⟩ : ∃ g, f = g + 8 := ⟨f - 8, by omega⟩
 rw [checkpoint_Digest, own_std c h, Option.bind_some, digest]
 cases hs : eqI (stdE p c) 0 with
 | false => rfl
 | true =>
  obtain ⟨h1, h2, h3⟩ := text_eq (f := f + 8) (by omega) c h (std_chk hs)
  have hc := crc_lt (textB p c)
  rw [Bool.not_true, cond_false, h1, Option.bind_some, own_crc (by omega) (by omega) (by omega), Option.bind_some, wrap_i64 (by omega) (by omega)]; rfl
theorem ref_digest {f : Nat} (hf : 300000 <= f) {p : Program} (c : Config) (h : small p = true) : r49_Digest f p c = some (digest p c) := by
 rw [r49_Digest, ref_std c h (by omega), Option.bind_some, digest]
 cases hs : eqI (stdE p c) 0 with
 | false => rfl
 | true =>
  obtain ⟨h1, h2, h3⟩ := text_eq (f := f) (by omega) c h (std_chk hs)
  have hc := crc_lt (textB p c)
  rw [Bool.not_true, cond_false]
  simp only [Option.bind_some]
  rw [h3, ref_crc (by omega) (by omega) (by omega), Option.bind_some, wrap_i64 (by omega) (by omega)]; rfl
theorem digest_range (p : Program) (c : Config) : 0 <= (digest p c).1 /\ (digest p c).1 < 4294967296 := by
 have := crc_lt (textB p c)
 unfold digest; cases eqI (stdE p c) 0 <;> simp <;> omega
end Go.Dc.Pl
end
section
set_option linter.all false
namespace Go.Dc
open Go Go.Hw Go.Proofs
set_option maxRecDepth 100000
def frame_AppendInts_L1 (fuelN : Nat) (a0 : List UInt8) : List Int -> (List UInt8) -> Nat -> Option ((List UInt8) ⊕ (List UInt8))
 | [], l96, k97 => some (.inl l96)
 | x126 :: q122, l96, k97 => Option.bind (frame_inRange x126) (fun y129 => cond (!y129) (Option.bind (some ([a0])) (fun l132 => Option.bind (frame_join l132) (fun y134 => some (.inr y134)))) (Option.bind (frame_intBytes fuelN x126) (fun y136 => guardO (limB 1 (l96.length + y136.length)) (Option.bind (some (l96 ++ y136)) (fun l139 => frame_AppendInts_L1 fuelN a0 q122 l139 (k97 + 1))))))
def frame_AppendInts (fuelN : Nat) (a0 : List UInt8) (a1 : List Int) : Option (List UInt8) :=
 Option.bind (frame_uintBytes fuelN ((a1.length : Nat) : Int)) (fun y1 => Option.bind (some ([a0, y1])) (fun l3 => Option.bind (frame_join l3) (fun y5 => Option.bind (α := (List UInt8) ⊕ (List UInt8)) (Option.bind (frame_AppendInts_L1 fuelN a0 a1 y5 0) (fun o => match o with | .inl l115 => some (.inl l115) | .inr r141 => some (.inr r141))) (fun o => match o with | .inl l72 => some l72 | .inr r142 => some r142))))
set_option maxHeartbeats 2000000 in
theorem at_frame_AppendInts {fuelN : Nat} {a0 : List UInt8} {a1 : List Int} {r : (List UInt8)} (hs : frame_AppendInts fuelN a0 a1 = some r) : CAt Tryz.prog 25 [.cell (sC a0), .cell (sC a1)] [] (.ret (.cell (.sl (.r 0) 0 1 r.length))) [(.r 0, .pure (encL r))] := by
 refine at_bound (by kernel_rfl) fun hb => ?_
 have hb1 : LenOk (.sl a0.length (encL a0)) := lkc hb
 have hb2 : LenOk (.sl a1.length (encL a1)) := lkc hb
 refine at_code mixed Tryz.func25 (by kernel_rfl) rfl (by kernel_rfl) rfl fun Q hQ => ?_
 rw [frame_AppendInts] at hs
 refine goR f0 ?_
 revert hs; refine bK fun y1 hx2 hs => ?_
 refine cP f0 (at_frame_uintBytes hx2) ?_
 revert hs; refine lK fun l3 hx4 hs => ?_
 have hx4n : l3.length = 2 := by rw [hx4]; rfl
 refine goR hx4 ?_
 revert hs; refine bK fun y5 hx6 hs => ?_
 refine cA hx4 (at_frame_join hx6) ?_
 refine goR2 hx4 ?_
 revert hs; refine bK fun o74 e73 hs => ?_
 refine awp_cutK (fun (v : (List UInt8)) (σ : St) => some (.inl v) = some o74 /\ σ.env 5 = .cell (.sl (.l 2) 0 1 v.length) /\ σ.hp (.l 2) = some (.pure (encL v)) /\ 3 <= σ.gen) (by rfl) (fun Q hK75 hX76 => ?_) (fun l72 σ3 hp => ?_)
 ·refine goR hx4 ?_
  revert e73; refine bK fun o117 e116 e73 => ?_
  refine awp_loopW (fun (v : (List Int) × (List UInt8) × Nat) (σ : St) => frame_AppendInts_L1 fuelN a0 v.1 v.2.1 v.2.2 = some o117 /\ v.1 = a1.drop v.2.2 /\ σ.env 0 = .cell (sC a0) /\ σ.env 5 = .cell (.sl (.l 6) 0 1 v.2.1.length) /\ σ.env 14 = .cell (sC a1) /\ σ.env 15 = iV .i64 ((a1.length : Nat) : Int) /\ σ.env 16 = iV .i64 ((v.2.2 : Nat) : Int) /\ σ.hp (.l 6) = some (.pure (encL v.2.1)) /\ 3 <= σ.gen) (fun v => v.1.length) _ (Gh.ren _ (.o 2 5 0) (.l 6) (by simp) rfl rfl) (a1, y5, 0) ⟨e116, by simp, pv hx4, pv hx4, pv hx4, pv hx4, pv hx4, pv hx4, pg⟩ fun v σ6 hp L118 hL119 => ?_
  obtain ⟨q121, l96, k97⟩ := v
  dsimp only at hp hL119
  obtain ⟨e116, hd120, h5_0, h5_5, h5_14, h5_15, h5_16, g5_0, n5_g⟩ := hp
  rcases q121 with _ | ⟨x126, q122⟩
  ·have hlt123 := drop_end hd120
   rw [frame_AppendInts_L1] at e116; try dsimp only at e116
   have F1 := an h5_0 (an h5_5 (an h5_14 (an h5_15 (an h5_16 g5_0))))
   refine goR F1 ?_
   refine condK_f (by simp [ltI]; omega) ?_
   obtain rfl := sj e116
   try dsimp only at e73
   exact hK75 l96 _ _ (Gh.ren _ (.l 6) (.l 2) (by simp) rfl rfl) ⟨e73, pv F1, pv F1, pg⟩
  ·obtain ⟨hx125, hlt123, hd127⟩ := drop_next hd120
   have ew124 := wrap_succ hlt123 (hb2).len
   rw [frame_AppendInts_L1] at e116; try dsimp only at e116
   have F2 := an h5_0 (an h5_5 (an h5_14 (an h5_15 (an h5_16 (an g5_0 (an hlt123 ew124))))))
   refine goR F2 ?_
   refine condK_t (by simp [ltI]; omega) ?_
   have f128 : partCV Tryz.prog 3 (encL a1) (k97) = some (iV .i64 x126) := partCV_enc1 hx125 (by simp)
   have F3 := an F2 f128
   refine goR F3 ?_
   revert e116; refine bK fun y129 hx130 e116 => ?_
   refine cP F3 (at_frame_inRange hx130) ?_
   refine goR F3 ?_
   revert e116; refine cS F3 ?_ ?_ <;> intro h131 e116
   ·revert e116; refine lK fun l132 hx133 e116 => ?_
    have hx133n : l132.length = 1 := by rw [hx133]; rfl
    have F4 := an F3 hx133
    refine goR F4 ?_
    revert e116; refine bK fun y134 hx135 e116 => ?_
    refine cA F4 (at_frame_join hx135) ?_
    refine goR F4 ?_
    obtain rfl := sj e116
    try dsimp only at e73
    obtain rfl := sj e73
    try dsimp only at hs
    refine hX76 _ _ (by simp) ?_
    refine goR F4 ?_
    obtain rfl := sj hs
    refine hQ _ _ (ret2g _ (Gh.ren _ (.o (σ6.gen + 4) 2 0) (.r 0) (by simp) rfl rfl) (by simp [St.frz, St.pur, F4]; rfl) (by first | rfl | (simp [St.frz, St.pur, F4]; done) | (rw [if_pos (by first | omega | (simp; omega))]; simp [St.frz, St.pur, F4]; first | omega | exact List.take_of_length_le (by simp; omega) | skip)) (pv F4))
   ·refine goR F3 ?_
    revert e116; refine bK fun y136 hx137 e116 => ?_
    refine cP F3 (at_frame_intBytes hx137) ?_
    obtain ⟨g138, e116⟩ := guardO_some e116
    have g138 := limB_t g138
    obtain ⟨g138a, g138b⟩ := g138
    revert e116; refine lK fun l139 hx140 e116 => ?_
    have hx140n : l139.length = (l96.length + y136.length) := by rw [hx140]; simp
    have hx140e : encL l139 = encL l96 ++ encL y136 := by rw [hx140]; simp
    have F5 := an F3 (an hx140n hx140e)
    refine goR F5 ?_
    exact hL119 (q122, l139, (k97 + 1)) _ _ (Gh.ren _ (.o (σ6.gen + 4) 3 0) (.l 6) (by simp) rfl rfl) ⟨e116, hd127, pv F5, pv F5, pv F5, pv F5, pv F5, pv F5, pg⟩ (by simp)
 ·obtain ⟨e73, h4_5, g4_0, n4_g⟩ := hp
  obtain rfl := sj e73
  try dsimp only at hs
  have F6 := an h4_5 g4_0
  refine goR F6 ?_
  obtain rfl := sj hs
  refine hQ _ _ (ret2g _ (Gh.ren _ (.l 2) (.r 0) (by simp) rfl rfl) (by simp [St.frz, St.pur, F6]; rfl) (by first | rfl | (simp [St.frz, St.pur, F6]; done) | (rw [if_pos (by first | omega | (simp; omega))]; simp [St.frz, St.pur, F6]; first | omega | exact List.take_of_length_le (by simp; omega) | skip)) (pv F6))
end Go.Dc
end
section
set_option linter.all false
namespace Go.Dc
open Go Go.Hw Go.Proofs
set_option maxRecDepth 100000
def checkpoint_appendTree_L1 (fuelN : Nat) (rF26z : (List UInt8) -> Tree -> Option (List UInt8)) : List Tree -> (List UInt8) -> Nat -> Option (List UInt8)
 | [], l105, k106 => some (l105)
 | x131 :: q127, l105, k106 => Option.bind (frame_AppendInt fuelN l105 x131.Agent) (fun y138 => Option.bind (rF26z y138 x131) (fun y140 => checkpoint_appendTree_L1 fuelN rF26z q127 y140 (k106 + 1)))
def checkpoint_appendTree_B (rF26z : (List UInt8) -> Tree -> Option (List UInt8)) (fuelN : Nat) (a0 : List UInt8) (a1 : Tree) : Option (List UInt8) :=
 Option.bind (frame_AppendUint fuelN a0 ((a1.Kids.length : Nat) : Int)) (fun y1 => Option.bind (α := (List UInt8)) (Option.bind (checkpoint_appendTree_L1 fuelN rF26z a1.Kids y1 0) (fun l120 => some (l120))) (fun l70 => some l70))
def checkpoint_appendTree : Nat -> (List UInt8) -> Tree -> Option (List UInt8)
 | 0 => fun _ _ => none
 | fuelN + 1 => fun a0 a1 => checkpoint_appendTree_B (checkpoint_appendTree fuelN) fuelN a0 a1
set_option maxHeartbeats 2000000 in
theorem at_checkpoint_appendTree_B {rF26z : (List UInt8) -> Tree -> Option (List UInt8)} (ihrF26z : ∀ (a0 : List UInt8) (a1 : Tree) (r : (List UInt8)), rF26z a0 a1 = some r -> At Tryz.prog 26 [.cell (sC a0), .agg (eA a1)] (.cell (sC r))) {fuelN : Nat} {a0 : List UInt8} {a1 : Tree} {r : (List UInt8)} (hs : checkpoint_appendTree_B rF26z fuelN a0 a1 = some r) : At Tryz.prog 26 [.cell (sC a0), .agg (eA a1)] (.cell (sC r)) := by
 refine at_bound (by kernel_rfl) fun hb => ?_
 have hb1 : LenOk (.sl a0.length (encL a0)) := lkc hb
 have hb2 : LenOk (.sl a1.Kids.length (encL a1.Kids)) := lkc hb
 refine at_code mixed Tryz.func26 (by kernel_rfl) rfl (by kernel_rfl) rfl fun Q hQ => ?_
 rw [checkpoint_appendTree_B] at hs
 refine goR f0 ?_
 revert hs; refine bK fun y1 hx2 hs => ?_
 refine cA f0 (at_frame_AppendUint hx2) ?_
 refine goR2 f0 ?_
 revert hs; refine bK fun o72 e71 hs => ?_
 refine awp_cutK (fun (v : (List UInt8)) (σ : St) => some (v) = some o72 /\ σ.env 0 = .cell (sC v) /\ 3 <= σ.gen) (by rfl) (fun Q hK73 hX74 => ?_) (fun l70 σ3 hp => ?_)
 ·refine goR f0 ?_
  revert e71; refine bK fun o122 e121 e71 => ?_
  refine awp_loopW (fun (v : (List Tree) × (List UInt8) × Nat) (σ : St) => checkpoint_appendTree_L1 fuelN rF26z v.1 v.2.1 v.2.2 = some o122 /\ v.1 = a1.Kids.drop v.2.2 /\ σ.env 0 = .cell (sC v.2.1) /\ σ.env 13 = .cell (sC a1.Kids) /\ σ.env 14 = iV .i64 ((a1.Kids.length : Nat) : Int) /\ σ.env 15 = iV .i64 ((v.2.2 : Nat) : Int) /\ 3 <= σ.gen) (fun v => v.1.length) _ (Gh.frz _ (.o 2 4 0)) (a1.Kids, y1, 0) ⟨e121, by simp, pv f0, pv f0, pv f0, pv f0, pg⟩ fun v σ6 hp L123 hL124 => ?_
  obtain ⟨q126, l105, k106⟩ := v
  dsimp only at hp hL124
  obtain ⟨e121, hd125, h5_0, h5_13, h5_14, h5_15, n5_g⟩ := hp
  rcases q126 with _ | ⟨x131, q127⟩
  ·have hlt128 := drop_end hd125
   rw [checkpoint_appendTree_L1] at e121; try dsimp only at e121
   have F1 := an h5_0 (an h5_13 (an h5_14 h5_15))
   refine goR F1 ?_
   refine condK_f (by simp [ltI]; omega) ?_
   obtain rfl := sj e121
   try dsimp only at e71
   exact hK73 l105 _ _ (Gh.refl _) ⟨e71, pv F1, pg⟩
  ·obtain ⟨hx130, hlt128, hd132⟩ := drop_next hd125
   have ew129 := wrap_succ hlt128 (hb2).len
   rw [checkpoint_appendTree_L1] at e121; try dsimp only at e121
   have F2 := an h5_0 (an h5_13 (an h5_14 (an h5_15 (an hlt128 ew129))))
   refine goR F2 ?_
   refine condK_t (by simp [ltI]; omega) ?_
   have f133 : partCV Tryz.prog 57 (encL a1.Kids) (k106 * 2) = some (.agg (eA x131)) := partCV_enc hx130 (f := 0) (by simp)
   have F3 := an F2 f133
   refine goD F3 ?_
   revert e121; refine bK fun y138 hx139 e121 => ?_
   refine cA F3 (at_frame_AppendInt hx139) ?_
   refine goD F3 ?_
   revert e121; refine bK fun y140 hx141 e121 => ?_
   refine cA F3 (ihrF26z _ _ _ hx141) ?_
   refine goD F3 ?_
   exact hL124 (q127, y140, (k106 + 1)) _ _ (Gh.refl _) ⟨e121, hd132, pv F3, pv F3, pv F3, pv F3, pg⟩ (by simp)
 ·obtain ⟨e71, h4_0, n4_g⟩ := hp
  obtain rfl := sj e71
  try dsimp only at hs
  refine goR h4_0 ?_
  obtain rfl := sj hs
  exact hQ _ _ (rg h4_0 (Gh.refl _))
theorem at_checkpoint_appendTree : ∀ {fuelN : Nat} {a0 : List UInt8} {a1 : Tree} {r : (List UInt8)} (hs : checkpoint_appendTree fuelN a0 a1 = some r), At Tryz.prog 26 [.cell (sC a0), .agg (eA a1)] (.cell (sC r))
 | 0, _, _, _, hs => by rw [checkpoint_appendTree] at hs; cases hs
 | n + 1, _, _, _, hs => by
  rw [checkpoint_appendTree] at hs
  exact at_checkpoint_appendTree_B (fun _ _ _ h => at_checkpoint_appendTree h) hs
end Go.Dc
end
section
set_option linter.all false
namespace Go.Dc
open Go Go.Hw Go.Proofs
set_option maxRecDepth 100000
def checkpoint_Encode_L1 (fuelN : Nat) : List Int -> (List UInt8) -> Nat -> Option (List UInt8)
 | [], l65, k66 => some (l65)
 | x85 :: q81, l65, k66 => Option.bind (frame_AppendUint fuelN l65 x85) (fun y89 => checkpoint_Encode_L1 fuelN q81 y89 (k66 + 1))
def checkpoint_Encode_L2 (fuelN : Nat) : List Frame -> (List UInt8) -> Nat -> Option (List UInt8)
 | [], l181, k182 => some (l181)
 | x205 :: q201, l181, k182 => Option.bind (frame_AppendInt fuelN l181 x205.Agent) (fun y208 => Option.bind (frame_AppendInts fuelN y208 x205.Sleep) (fun y210 => Option.bind (checkpoint_appendTree fuelN y210 x205.Tree) (fun y212 => checkpoint_Encode_L2 fuelN q201 y212 (k182 + 1))))
def checkpoint_Encode (fuelN : Nat) (a0 : Program) (a1 : Config) (a2 : Snapshot) : Option ((List UInt8) × Int) :=
 Option.bind (checkpoint_Digest fuelN a0 a1) (fun y1 => cond (!(eqI y1.2 0)) (some ([], y1.2)) (Option.bind (checkpoint_Valid fuelN a2) (fun y4 => cond (!y4) (some ([], 1)) (Option.bind (α := Nat) (cond a2.Done (some (1)) (some (0))) (fun k8 => Option.bind (some ([y1.1, ((k8 : Nat) : Int), a2.Count, a2.Blocked, ((a2.Frames.length : Nat) : Int)])) (fun l14 => Option.bind (α := (List UInt8)) (guardO (lenB l14.length) (Option.bind (checkpoint_Encode_L1 fuelN l14 [] 0) (fun l74 => some (l74)))) (fun l51 => Option.bind (α := (List UInt8)) (Option.bind (checkpoint_Encode_L2 fuelN a2.Frames l51 0) (fun l194 => some (l194))) (fun l150 => Option.bind (frame_Seal fuelN l150) (fun y214 => some (y214, 0))))))))))
set_option maxHeartbeats 2000000 in
theorem at_checkpoint_Encode {fuelN : Nat} {a0 : Program} {a1 : Config} {a2 : Snapshot} {r : (List UInt8) × Int} (hs : checkpoint_Encode fuelN a0 a1 a2 = some r) : At Tryz.prog 9 [.agg (eA a0), .agg (eA a1), .agg (eA a2)] (.tup [.cell (sC r.1), iV .i64 r.2]) := by
 refine at_bound (by kernel_rfl) fun hb => ?_
 have hb1 : LenOk (.sl a0.Vars.length (encL a0.Vars)) := lkc hb
 have hb2 : LenOk (.sl a0.Mutexes.length (encL a0.Mutexes)) := lkc hb
 have hb3 : LenOk (.sl a0.Conds.length (encL a0.Conds)) := lkc hb
 have hb4 : LenOk (.sl a0.Funcs.length (encL a0.Funcs)) := lkc hb
 have hb5 : LenOk (.sl a0.Threads.length (encL a0.Threads)) := lkc hb
 have hb6 : LenOk (.sl a2.Frames.length (encL a2.Frames)) := lkc hb
 refine at_code mixed Tryz.func9 (by kernel_rfl) rfl (by kernel_rfl) rfl fun Q hQ => ?_
 rw [checkpoint_Encode] at hs
 refine goR f0 ?_
 revert hs; refine bK fun y1 hx2 hs => ?_
 refine cP f0 (at_checkpoint_Digest hx2) ?_
 refine goR f0 ?_
 revert hs; refine cS f0 ?_ ?_ <;> intro h3 hs
 ·refine goR f0 ?_
  obtain rfl := sj hs
  exact hQ _ _ (rg f0 (Gh.unz _))
 ·refine goR f0 ?_
  revert hs; refine bK fun y4 hx5 hs => ?_
  refine cP f0 (at_checkpoint_Valid hx5) ?_
  refine goR f0 ?_
  revert hs; refine cS f0 ?_ ?_ <;> intro h6 hs
  ·refine goR f0 ?_
   obtain rfl := sj hs
   exact hQ _ _ (rg f0 (Gh.unz _))
  ·refine goR2 f0 ?_
   revert hs; refine bK fun o10 e9 hs => ?_
   refine awp_cutK (fun (v : Nat) (σ : St) => some (v) = some o10 /\ σ.env 5 = .cell (.ref (.o 1 2 0) 0) /\ σ.env 8 = iV .i64 y1.1 /\ σ.env 10 = iV .i64 ((v : Nat) : Int) /\ σ.hp (.o 1 2 0) = some (.cells (eA a2)) /\ 6 <= σ.gen) (by rfl) (fun Q hK11 hX12 => ?_) (fun k8 σ1 hp => ?_)
   ·refine goR f0 ?_
    revert e9; refine cS f0 ?_ ?_ <;> intro h13 e9
    ·refine goR f0 ?_
     exact hK11 1 _ _ (Gh.refl _) ⟨e9, pv f0, pv f0, pv f0, pv f0, pg⟩
    ·refine goR f0 ?_
     exact hK11 0 _ _ (Gh.refl _) ⟨e9, pv f0, pv f0, pv f0, pv f0, pg⟩
   ·obtain ⟨e9, h2_5, h2_8, h2_10, g2_0, n2_g⟩ := hp
    obtain rfl := sj e9
    try dsimp only at hs
    have n2_0 : ¬ (σ1.gen = 0) := by omega
    revert hs; refine lK fun l14 hx15 hs => ?_
    have hx15n : l14.length = 5 := by rw [hx15]; rfl
    have F1 := an h2_5 (an h2_8 (an h2_10 (an g2_0 (an n2_0 hx15))))
    refine goR2 F1 ?_
    revert hs; refine bK fun o53 e52 hs => ?_
    refine awp_cutK (fun (v : (List UInt8)) (σ : St) => some (v) = some o53 /\ σ.env 5 = .cell (.ref (.o 1 2 0) 0) /\ σ.env 11 = .cell (.sl (.l 3) 0 1 v.length) /\ σ.hp (.l 3) = some (.pure (encL v)) /\ σ.hp (.o 1 2 0) = some (.cells (eA a2)) /\ (σ1.gen + 2) <= σ.gen) (by rfl) (fun Q hK54 hX55 => ?_) (fun l51 σ5 hp => ?_)
    ·refine goR F1 ?_
     obtain ⟨hb86, e52⟩ := guardO_some e52
     revert e52; refine bK fun o76 e75 e52 => ?_
     refine awp_loopW (fun (v : (List Int) × (List UInt8) × Nat) (σ : St) => checkpoint_Encode_L1 fuelN v.1 v.2.1 v.2.2 = some o76 /\ v.1 = l14.drop v.2.2 /\ σ.env 5 = .cell (.ref (.o 1 2 0) 0) /\ σ.env 11 = .cell (.sl (.l 9) 0 1 v.2.1.length) /\ σ.env 39 = .cell (.sl (.o (σ1.gen + 2) 9 0) 0 1 l14.length) /\ σ.env 40 = iV .i64 ((l14.length : Nat) : Int) /\ σ.env 41 = iV .i64 ((v.2.2 : Nat) : Int) /\ σ.hp (.l 9) = some (.pure (encL v.2.1)) /\ σ.hp (.o (σ1.gen + 2) 9 0) = some (.pure (encL l14)) /\ σ.hp (.o 1 2 0) = some (.cells (eA a2)) /\ (σ1.gen + 2) <= σ.gen) (fun v => v.1.length) _ (Gh.void _ (.l 9) 11 1 rfl (by simp [F1])) (l14, [], 0) ⟨e75, by simp, pv F1, pv F1, pv F1, pv F1, pv F1, pv F1, pv F1, pv F1, pg⟩ fun v σ8 hp L77 hL78 => ?_
     obtain ⟨q80, l65, k66⟩ := v
     dsimp only at hp hL78
     obtain ⟨e75, hd79, h7_5, h7_11, h7_39, h7_40, h7_41, g7_0, g7_1, g7_2, n7_g⟩ := hp
     have n7_0 : ¬ (σ8.gen = 0) := by omega
     have n7_σ1gen_0 : ¬ (σ8.gen = σ1.gen) := by omega
     have n7_σ1gen_0' : ¬ (σ1.gen = σ8.gen) := by omega
     have n7_σ1gen_1 : ¬ (σ8.gen = σ1.gen + 1) := by omega
     have n7_σ1gen_1' : ¬ (σ1.gen + 1 = σ8.gen) := by omega
     have n7_σ1gen_a : ∀ j, ¬ (σ8.gen + j = σ1.gen) := fun j => by omega
     have n7_σ1gen_a' : ∀ j, ¬ (σ1.gen = σ8.gen + j) := fun j => by omega
     rcases q80 with _ | ⟨x85, q81⟩
     ·have hlt82 := drop_end hd79
      rw [checkpoint_Encode_L1] at e75; try dsimp only at e75
      have F2 := an h7_5 (an h7_11 (an h7_39 (an h7_40 (an h7_41 (an g7_0 (an g7_1 (an g7_2 (an n7_0 (an n7_σ1gen_0 (an n7_σ1gen_0' (an n7_σ1gen_1 (an n7_σ1gen_1' (an n7_σ1gen_a n7_σ1gen_a')))))))))))))
      refine goR F2 ?_
      refine condK_f (by simp [ltI]; omega) ?_
      obtain rfl := sj e75
      try dsimp only at e52
      exact hK54 l65 _ _ (Gh.ren _ (.l 9) (.l 3) (by simp) rfl rfl) ⟨e52, pv F2, pv F2, pv F2, pv F2, pg⟩
     ·obtain ⟨hx84, hlt82, hd87⟩ := drop_next hd79
      have ew83 := wrap_succG hlt82 hb86
      rw [checkpoint_Encode_L1] at e75; try dsimp only at e75
      have F3 := an h7_5 (an h7_11 (an h7_39 (an h7_40 (an h7_41 (an g7_0 (an g7_1 (an g7_2 (an n7_0 (an n7_σ1gen_0 (an n7_σ1gen_0' (an n7_σ1gen_1 (an n7_σ1gen_1' (an n7_σ1gen_a (an n7_σ1gen_a' (an hlt82 ew83)))))))))))))))
      refine goR F3 ?_
      refine condK_t (by simp [ltI]; omega) ?_
      have f88 : partCV Tryz.prog 3 (encL l14) (k66) = some (iV .i64 x85) := partCV_enc1 hx84 (by simp)
      have F4 := an F3 f88
      refine goR F4 ?_
      revert e75; refine bK fun y89 hx90 e75 => ?_
      refine cA F4 (at_frame_AppendUint hx90) ?_
      refine goR F4 ?_
      exact hL78 (q81, y89, (k66 + 1)) _ _ (Gh.ren _ (.o (σ8.gen + 3) 2 0) (.l 9) (by simp) rfl rfl) ⟨e75, hd87, pv F4, pv F4, pv F4, pv F4, pv F4, pv F4, pv F4, pv F4, pg⟩ (by simp)
    ·obtain ⟨e52, h6_5, h6_11, g6_0, g6_1, n6_g⟩ := hp
     obtain rfl := sj e52
     try dsimp only at hs
     have n6_0 : ¬ (σ5.gen = 0) := by omega
     have F5 := an h6_5 (an h6_11 (an g6_0 (an g6_1 n6_0)))
     refine goR2 F5 ?_
     revert hs; refine bK fun o152 e151 hs => ?_
     refine awp_cutK (fun (v : (List UInt8)) (σ : St) => some (v) = some o152 /\ σ.env 11 = .cell (sC v) /\ (σ5.gen + 1) <= σ.gen) (by rfl) (fun Q hK153 hX154 => ?_) (fun l150 σ11 hp => ?_)
     ·refine goR F5 ?_
      revert e151; refine bK fun o196 e195 e151 => ?_
      refine awp_loopW (fun (v : (List Frame) × (List UInt8) × Nat) (σ : St) => checkpoint_Encode_L2 fuelN v.1 v.2.1 v.2.2 = some o196 /\ v.1 = a2.Frames.drop v.2.2 /\ σ.env 11 = .cell (sC v.2.1) /\ σ.env 50 = .cell (sC a2.Frames) /\ σ.env 51 = iV .i64 ((a2.Frames.length : Nat) : Int) /\ σ.env 52 = iV .i64 ((v.2.2 : Nat) : Int) /\ (σ5.gen + 1) <= σ.gen) (fun v => v.1.length) _ (Gh.frz _ (.l 3)) (a2.Frames, l51, 0) ⟨e195, by simp, pv F5, pv F5, pv F5, pv F5, pg⟩ fun v σ14 hp L197 hL198 => ?_
      obtain ⟨q200, l181, k182⟩ := v
      dsimp only at hp hL198
      obtain ⟨e195, hd199, h13_11, h13_50, h13_51, h13_52, n13_g⟩ := hp
      rcases q200 with _ | ⟨x205, q201⟩
      ·have hlt202 := drop_end hd199
       rw [checkpoint_Encode_L2] at e195; try dsimp only at e195
       have F6 := an h13_11 (an h13_50 (an h13_51 h13_52))
       refine goR F6 ?_
       refine condK_f (by simp [ltI]; omega) ?_
       obtain rfl := sj e195
       try dsimp only at e151
       exact hK153 l181 _ _ (Gh.refl _) ⟨e151, pv F6, pg⟩
      ·obtain ⟨hx204, hlt202, hd206⟩ := drop_next hd199
       have ew203 := wrap_succ hlt202 (hb6).len
       rw [checkpoint_Encode_L2] at e195; try dsimp only at e195
       have F7 := an h13_11 (an h13_50 (an h13_51 (an h13_52 (an hlt202 ew203))))
       refine goR F7 ?_
       refine condK_t (by simp [ltI]; omega) ?_
       have f207 : partCV Tryz.prog 59 (encL a2.Frames) (k182 * 4) = some (.agg (eA x205)) := partCV_enc hx204 (f := 0) (by simp)
       have F8 := an F7 f207
       refine goR F8 ?_
       revert e195; refine bK fun y208 hx209 e195 => ?_
       refine cA F8 (at_frame_AppendInt hx209) ?_
       refine goR F8 ?_
       revert e195; refine bK fun y210 hx211 e195 => ?_
       refine cA F8 (at_frame_AppendInts hx211) ?_
       refine goR F8 ?_
       revert e195; refine bK fun y212 hx213 e195 => ?_
       refine cA F8 (at_checkpoint_appendTree hx213) ?_
       refine goR F8 ?_
       exact hL198 (q201, y212, (k182 + 1)) _ _ (Gh.refl _) ⟨e195, hd206, pv F8, pv F8, pv F8, pv F8, pg⟩ (by simp)
     ·obtain ⟨e151, h12_11, n12_g⟩ := hp
      obtain rfl := sj e151
      try dsimp only at hs
      refine goR h12_11 ?_
      revert hs; refine bK fun y214 hx215 hs => ?_
      refine cP h12_11 (at_frame_Seal hx215) ?_
      refine goR h12_11 ?_
      obtain rfl := sj hs
      exact hQ _ _ (rg h12_11 (Gh.refl _))
end Go.Dc
end
section
set_option linter.all false
namespace Go.Dc.Pl
open Go Go.Hw Go.Dc
theorem agent_inR {n : Int} (h : agentOk n = true) : inR n = true := by
 have := agentOk_t h; simp [inR]; omega
def encT : Nat -> List Tree -> List UInt8
 | 0, l => uintB l.length
 | m + 1, l => uintB l.length ++ l.flatMap fun k => uintB (intCode k.Agent) ++ encT m k.Kids
/-- How many nodes a list of trees has. -/
def nT : Nat -> List Tree -> Nat
 | 0, _ => 0
 | m + 1, l => (l.map fun k => 1 + nT m k.Kids).sum
theorem own_encT : ∀ (m f : Nat) (b : List UInt8) (t : Tree), shal m t.Kids = true -> m + 12 <= f -> b.length + 9 + 18 * nT m t.Kids <= 1000000000 -> t.Kids.length <= 1000000000 ->
  (∀ k, wid 1000000000 k t.Kids) -> checkpoint_appendTree f b t = some (b ++ encT m t.Kids) /\ (encT m t.Kids).length <= 9 + 18 * nT m t.Kids := by
 intro m
 induction m with
 | zero =>
  intro f b t hs hf hb hk _
  obtain ⟨f, rfl⟩ : ∃ k, f = k + 1 := ⟨f - 1, by omega⟩
  simp only [shal, decide_eq_true_eq, List.length_eq_zero_iff] at hs
  refine ⟨?_, by rw [encT, hs]; exact uintB_le9 (by simp)⟩
  show checkpoint_appendTree_B (checkpoint_appendTree f) f b t = _
  unfold checkpoint_appendTree_B
  rw [own_appU (by omega) (by omega), hs]
  show some (appU b 0) = _
  rw [encT]; rfl
 | succ m ih =>
  intro f b t hs hf hb hk hw
  obtain ⟨f, rfl⟩ : ∃ k, f = k + 1 := ⟨f - 1, by omega⟩
  rw [shal, List.all_eq_true] at hs
  show checkpoint_appendTree_B (checkpoint_appendTree f) f b t = _ /\ _
  unfold checkpoint_appendTree_B
  have e0 : appU b ((t.Kids.length : Nat) : Int) = b ++ uintB t.Kids.length := by unfold appU; rw [if_neg (by omega)]; simp
  have h9 := uintB_le9 (n := t.Kids.length) (by omega)
  rw [own_appU (by omega) (by omega), Option.bind_some, e0]
  have hL : ∀ (l : List Tree) (c : List UInt8) (k : Nat), (∀ x ∈ l, agentOk x.Agent = true /\ shal m x.Kids = true /\ x.Kids.length <= 1000000000 /\ ∀ k, wid 1000000000 k x.Kids) -> c.length + 18 * (l.map fun k => 1 + nT m k.Kids).sum <= 1000000000 ->
    checkpoint_appendTree_L1 f (checkpoint_appendTree f) l c k = some (c ++ l.flatMap fun k => uintB (intCode k.Agent) ++ encT m k.Kids) /\ (l.flatMap fun k => uintB (intCode k.Agent) ++ encT m k.Kids).length <= 18 * (l.map fun k => 1 + nT m k.Kids).sum := by
   intro l
   induction l with
   | nil => intro c k _ _; simp [checkpoint_appendTree_L1]
   | cons x l il =>
    intro c k hx hc
    obtain ⟨h1, h2, h3, h4⟩ := hx x (by simp)
    rw [List.map_cons, List.sum_cons] at hc ⊢
    have hi := intCode_le (agent_inR h1)
    have h9 := uintB_le9 hi
    have ea : appI c x.Agent = c ++ uintB (intCode x.Agent) := by unfold appI; rw [if_pos (agent_inR h1)]
    obtain ⟨e1, e2⟩ := ih f (c ++ uintB (intCode x.Agent)) x h2 (by omega) (by simp; omega) h3 h4
    obtain ⟨g1, g2⟩ := il (c ++ uintB (intCode x.Agent) ++ encT m x.Kids) (k + 1) (fun y hy => hx y (by simp [hy])) (by simp; omega)
    rw [checkpoint_appendTree_L1, own_appI (by omega) (by omega), Option.bind_some, ea, e1, Option.bind_some, g1]
    refine ⟨by simp, ?_⟩
    rw [List.flatMap_cons]; simp only [List.length_append] at *; omega
  have hkids : ∀ x ∈ t.Kids, agentOk x.Agent = true /\ shal m x.Kids = true /\ x.Kids.length <= 1000000000 /\ ∀ k, wid 1000000000 k x.Kids := fun x hx => by
   have := hs x hx
   rw [Bool.and_eq_true] at this
   refine ⟨this.1, this.2, ((hw 2).2 x hx).1, fun k => (hw (k + 1)).2 x hx⟩
  rw [nT] at hb ⊢
  obtain ⟨g1, g2⟩ := hL t.Kids (b ++ uintB t.Kids.length) 0 hkids (by simp; omega)
  rw [g1, encT]
  refine ⟨by simp, ?_⟩
  simp only [List.length_append] at *; omega
def encInts : List Int -> List UInt8
 | [] => []
 | n :: l => uintB (intCode n) ++ encInts l
theorem encInts_length : ∀ l : List Int, l.all inR = true -> (encInts l).length <= 9 * l.length
 | [], _ => by simp [encInts]
 | n :: l, h => by
  simp only [List.all_cons, Bool.and_eq_true] at h
  have h1 := uintB_le9 (intCode_le h.1)
  have h2 := encInts_length l h.2
  simp [encInts]; omega
theorem own_appInts {f : Nat} {b : List UInt8} {l : List Int} (hf : 9 <= f) (h : l.all inR = true) (hb : b.length + 9 + 9 * l.length <= 1000000000) : frame_AppendInts f b l = some (b ++ uintB l.length ++ encInts l) := by
 have h9 := uintB_le9 (n := l.length) (by omega)
 have hL : ∀ (q : List Int) (c : List UInt8) (k : Nat), q.all inR = true -> c.length + 9 * q.length <= 1000000000 -> frame_AppendInts_L1 f b q c k = some (.inl (c ++ encInts q)) := by
  intro q
  induction q with
  | nil => intro c k _ _; simp [frame_AppendInts_L1, encInts]
  | cons x q ih =>
   intro c k hq hc
   simp only [List.all_cons, Bool.and_eq_true] at hq
   have h1 := uintB_le9 (intCode_le hq.1)
   simp only [List.length_cons] at hc
   rw [frame_AppendInts_L1, own_inR, Option.bind_some, hq.1, Bool.not_true, cond_false, own_intB hq.1 hf, Option.bind_some, lim1 (by omega), guardO_t, Option.bind_some, ih _ _ hq.2 (by simp; omega)]
   simp [encInts]
 rw [frame_AppendInts, own_uintB (by omega) hf]
 simp only [Option.bind_some]
 rw [own_join (by simp; omega)]
 simp only [Option.bind_some, List.flatten_cons, List.flatten_nil, List.append_nil]
 rw [hL l (b ++ uintB l.length) 0 h (by simp; omega)]; rfl
def encF (g : Frame) : List UInt8 := uintB (intCode g.Agent) ++ (uintB g.Sleep.length ++ encInts g.Sleep) ++ encT 512 g.Tree.Kids
def payB (d : Int) (s : Snapshot) : List UInt8 :=
 uintB d.toNat ++ uintB (if s.Done then 1 else 0) ++ uintB s.Count.toNat ++ uintB s.Blocked.toNat ++ uintB s.Frames.length ++ s.Frames.flatMap encF
/-- The size of a snapshot. -/
def nF (g : Frame) : Nat := 3 + g.Sleep.length + nT 512 g.Tree.Kids
def nS (s : Snapshot) : Nat := (s.Frames.map nF).sum
theorem validF_t {g : Frame} (h : validF g = true) : agentOk g.Agent = true /\ g.Sleep.length <= 2048 /\ g.Sleep.all inR = true /\ shal 512 g.Tree.Kids = true /\ wakeOk g.Tree = true := by
 unfold validF treeOk at h
 simp only [Bool.and_eq_true, decide_eq_true_eq, Bool.not_eq_true'] at h
 obtain ⟨h1, h2, h3, h4, h5, h6⟩ := h
 refine ⟨h1, h2, ?_, h4, h5⟩
 rw [List.all_eq_true]
 intro x hx
 obtain ⟨j, hj⟩ := List.getElem?_of_mem hx
 unfold sleepBad at h3
 have := (List.any_eq_false.1 h3) (x, j) (by
  rw [List.mem_zipIdx_iff_getElem?]; exact hj)
 simp only [badS, orB_d, Bool.or_eq_true, not_or, Bool.not_eq_true, Bool.not_eq_false'] at this
 exact agent_inR this.1.1
theorem own_frames {f : Nat} (hf : 600 <= f) : ∀ (l : List Frame) (b : List UInt8) (k : Nat), (∀ g ∈ l, validF g = true /\ g.Tree.Kids.length <= 1000000000 /\ ∀ k, wid 1000000000 k g.Tree.Kids) -> b.length + 18 * (l.map nF).sum <= 1000000000 ->
  checkpoint_Encode_L2 f l b k = some (b ++ l.flatMap encF) /\ (l.flatMap encF).length <= 18 * (l.map nF).sum := by
 intro l
 induction l with
 | nil => intro b k _ _; simp [checkpoint_Encode_L2]
 | cons x l ih =>
  intro b k hx hb
  obtain ⟨h1, h2, h3⟩ := hx x (by simp)
  obtain ⟨v1, v2, v3, v4, v5⟩ := validF_t h1
  rw [List.map_cons, List.sum_cons, nF] at hb
  have i9 := uintB_le9 (intCode_le (agent_inR v1))
  have s9 := uintB_le9 (n := x.Sleep.length) (by omega)
  have sl := encInts_length x.Sleep v3
  have ea : appI b x.Agent = b ++ uintB (intCode x.Agent) := by unfold appI; rw [if_pos (agent_inR v1)]
  have e2 := own_appInts (f := f) (b := b ++ uintB (intCode x.Agent)) (by omega) v3 (by simp; omega)
  obtain ⟨t1, t2⟩ := own_encT 512 f (b ++ uintB (intCode x.Agent) ++ uintB x.Sleep.length ++ encInts x.Sleep) x.Tree v4 (by omega) (by simp; omega) h2 h3
  have hF : (encF x).length <= 18 * nF x := by unfold encF nF; simp only [List.length_append]; omega
  have heq : b ++ uintB (intCode x.Agent) ++ uintB x.Sleep.length ++ encInts x.Sleep ++ encT 512 x.Tree.Kids = b ++ encF x := by unfold encF; simp
  obtain ⟨g1, g2⟩ := ih (b ++ encF x) (k + 1) (fun y hy => hx y (by simp [hy])) (by rw [List.length_append]; unfold nF at hF; omega)
  rw [checkpoint_Encode_L2, own_appI (by omega) (by omega), Option.bind_some, ea, e2, Option.bind_some, t1, Option.bind_some, heq, g1]
  refine ⟨by simp, ?_⟩
  rw [List.flatMap_cons, List.length_append, List.map_cons, List.sum_cons]; omega
def encodeB (dg : Int × Int) (s : Snapshot) : List UInt8 × Int := if dg.2 ≠ 0 then ([], dg.2) else if validS s = false then ([], 1) else (sealB (payB dg.1 s), 0)
theorem validS_t {s : Snapshot} (h : validS s = true) : 0 <= s.Count /\ s.Count <= 1048576 /\ 0 <= s.Blocked /\ s.Blocked <= 1048576 /\ s.Frames.length <= 512 /\ ∀ g ∈ s.Frames, validF g = true := by
 unfold validS at h
 simp only [Bool.and_eq_true, orB_d, ltI_d, Bool.not_eq_true', Bool.or_eq_false_iff, decide_eq_false_iff_not] at h
 exact ⟨by omega, by omega, by omega, by omega, by omega, List.all_eq_true.1 h.2.2⟩
theorem payB_len {d : Int} {s : Snapshot} (hd : 0 <= d /\ d < 4294967296) (hv : validS s = true) (hw : ∀ g ∈ s.Frames, g.Tree.Kids.length <= 1000000000 /\ ∀ k, wid 1000000000 k g.Tree.Kids) (hn : nS s <= 50000000) : (payB d s).length <= 45 + 18 * nS s := by
 obtain ⟨c1, c2, c3, c4, c5, c6⟩ := validS_t hv
 have a1 := uintB_le9 (n := d.toNat) (by omega)
 have a2 := uintB_le9 (n := if s.Done then 1 else 0) (by split <;> omega)
 have a3 := uintB_le9 (n := s.Count.toNat) (by omega)
 have a4 := uintB_le9 (n := s.Blocked.toNat) (by omega)
 have a5 := uintB_le9 (n := s.Frames.length) (by omega)
 have a6 := (own_frames (f := 600) (by omega) s.Frames [] 0 (fun g hg => ⟨c6 g hg, hw g hg⟩) (by unfold nS at hn; simp; omega)).2
 unfold payB nS; simp only [List.length_append]; omega
theorem own_encode {f B : Nat} {p : Program} {c : Config} {s : Snapshot} (hp : small p = true) (hB : B <= 1000000000) (hw : ∀ g ∈ s.Frames, g.Tree.Kids.length <= 1000000000 /\ (∀ k, wid 1000000000 k g.Tree.Kids) /\ wid B 512 g.Tree.Kids) (hn : nS s <= 3000000) (hf : 60000000 <= f) (hfB : B + 600 <= f) :
  checkpoint_Encode f p c s = some (encodeB (digest p c) s) := by
 have hr := digest_range p c
 rw [checkpoint_Encode, own_digest (by omega) c hp, Option.bind_some, eqI_d, encodeB]
 by_cases h1 : (digest p c).2 = 0
 ·rw [decide_eq_true h1, Bool.not_true, cond_false, if_neg (fun h : (digest p c).2 ≠ 0 => h h1), own_valid hB hfB (fun g hg => (hw g hg).2.2), Option.bind_some]
  cases hv : validS s with
  | false => rfl
  | true =>
   obtain ⟨c1, c2, c3, c4, c5, c6⟩ := validS_t hv
   have hpl := payB_len hr hv (fun g hg => ⟨(hw g hg).1, (hw g hg).2.1⟩) (by omega)
   rw [Bool.not_true, cond_false, if_neg (by simp)]
   have hk : (Option.bind (α := Nat) (cond s.Done (some 1) (some 0)) : (Nat -> Option (List UInt8 × Int)) -> _) = fun K => K (if s.Done then 1 else 0) := by cases s.Done <;> rfl
   rw [hk]
   simp only [Option.bind_some]
   have b1 := own_appU (f := f) (b := []) (n := (digest p c).1) (by omega) (by simp)
   have u : ∀ (b : List UInt8) (n : Int), 0 <= n -> n <= 4611686018427387904 -> appU b n = b ++ uintB n.toNat := fun b n h1 h2 => by unfold appU; rw [if_neg (by omega)]
   have hl : ∀ (l : List Int) (b : List UInt8) (k : Nat), (∀ x ∈ l, 0 <= x /\ x <= 4611686018427387904) -> b.length + 9 * l.length <= 1000 -> checkpoint_Encode_L1 f l b k = some (b ++ l.flatMap fun n => uintB n.toNat) := by
    intro l
    induction l with
    | nil => intro b k _ _; simp [checkpoint_Encode_L1]
    | cons x l ih =>
     intro b k hx hb
     have hx1 := hx x (by simp)
     have h9 := uintB_le9 (n := x.toNat) (by omega)
     rw [List.length_cons] at hb
     rw [checkpoint_Encode_L1, own_appU (by omega) (by omega), Option.bind_some, u b x hx1.1 hx1.2, ih _ _ (fun y hy => hx y (by simp [hy])) (by simp; omega)]
     simp
   have e1 := hl [(digest p c).1, (((if s.Done then 1 else 0 : Nat)) : Int), s.Count, s.Blocked, ((s.Frames.length : Nat) : Int)] [] 0 (by
    intro x hx
    simp only [List.mem_cons, List.not_mem_nil, or_false] at hx
    rcases hx with rfl | rfl | rfl | rfl | rfl
    ·omega
    ·split <;> omega
    ·omega
    ·omega
    ·omega) (by simp)
   rw [show lenB ([(digest p c).1, (((if s.Done then 1 else 0 : Nat)) : Int), s.Count, s.Blocked, ((s.Frames.length : Nat) : Int)]).length = true from rfl, guardO_t, e1]
   simp only [Option.bind_some, List.nil_append]
   have hhead : ([(digest p c).1, (((if s.Done then 1 else 0 : Nat)) : Int), s.Count, s.Blocked, ((s.Frames.length : Nat) : Int)].flatMap fun n => uintB n.toNat) = uintB (digest p c).1.toNat ++ uintB (if s.Done then 1 else 0) ++ uintB s.Count.toNat ++ uintB s.Blocked.toNat ++ uintB s.Frames.length := by
    simp
   rw [hhead]
   have a1 := uintB_le9 (n := (digest p c).1.toNat) (by omega)
   have a2 := uintB_le9 (n := if s.Done then 1 else 0) (by split <;> omega)
   have a3 := uintB_le9 (n := s.Count.toNat) (by omega)
   have a4 := uintB_le9 (n := s.Blocked.toNat) (by omega)
   have a5 := uintB_le9 (n := s.Frames.length) (by omega)
   have g := (own_frames (f := f) (by omega) s.Frames (uintB (digest p c).1.toNat ++ uintB (if s.Done then 1 else 0) ++ uintB s.Count.toNat ++ uintB s.Blocked.toNat ++ uintB s.Frames.length) 0 (fun g hg => ⟨c6 g hg, (hw g hg).1, (hw g hg).2.1⟩) (by unfold nS at hn; simp only [List.length_append]; omega)).1
   rw [g]
   simp only [Option.bind_some]
   show Option.bind (frame_Seal f (payB (digest p c).1 s)) _ = _
   rw [own_seal (by omega) (by omega)]; rfl
 ·rw [decide_eq_false h1, if_pos (show (digest p c).2 ≠ 0 from h1)]; rfl
end Go.Dc.Pl
end
section
set_option linter.all false
namespace Go.Dc
open Go Go.Hw Go.Proofs
set_option maxRecDepth 100000
def r49_nodes_L1 (a1 : Int) (rF21z : Tree -> Int -> Option Int) : List Tree -> Int -> Nat -> Option Int
 | [], i68, k69 => some (i68)
 | x88 :: q84, i68, k69 => Option.bind (rF21z x88 (IntKind.i64.wrap (a1 - 1))) (fun y91 => r49_nodes_L1 a1 rF21z q84 (IntKind.i64.wrap (i68 + y91)) (k69 + 1))
def r49_nodes_B (rF21z : Tree -> Int -> Option Int) (a0 : Tree) (a1 : Int) : Option Int :=
 cond (andB (eqI a1 0) (ltI 0 ((a0.Kids.length : Nat) : Int))) (some 1000000) (Option.bind (α := Int) (Option.bind (r49_nodes_L1 a1 rF21z a0.Kids 1 0) (fun i77 => some (i77))) (fun i45 => some i45))
def r49_nodes : Nat -> Tree -> Int -> Option Int
 | 0 => fun _ _ => none
 | fuelN + 1 => fun a0 a1 => r49_nodes_B (r49_nodes fuelN) a0 a1
set_option maxHeartbeats 2000000 in
theorem at_r49_nodes_B {rF21z : Tree -> Int -> Option Int} (ihrF21z : ∀ (a0 : Tree) (a1 : Int) (r : Int), rF21z a0 a1 = some r -> At Tryz.prog 21 [.agg (eA a0), iV .i64 a1] (iV .i64 r)) {a0 : Tree} {a1 : Int} {r : Int} (hs : r49_nodes_B rF21z a0 a1 = some r) : At Tryz.prog 21 [.agg (eA a0), iV .i64 a1] (iV .i64 r) := by
 refine at_bound (by kernel_rfl) fun hb => ?_
 have hb1 : LenOk (.sl a0.Kids.length (encL a0.Kids)) := lkc hb
 refine at_code mixed Tryz.func21 (by kernel_rfl) rfl (by kernel_rfl) rfl fun Q hQ => ?_
 rw [r49_nodes_B] at hs
 refine goG f0 f0 ?_
 revert hs; refine cS f0 ?_ ?_ <;> intro h1 hs
 ·refine goG f0 f0 ?_
  obtain rfl := sj hs
  exact hQ _ _ (rg f0 (Gh.refl _))
 ·refine goG2 f0 f0 ?_
  revert hs; refine bK fun o47 e46 hs => ?_
  refine awp_cutK (fun (v : Int) (σ : St) => some (v) = some o47 /\ σ.env 5 = iV .i64 v /\ 4 <= σ.gen) (by rfl) (fun Q hK48 hX49 => ?_) (fun i45 σ3 hp => ?_)
  ·refine goG f0 f0 ?_
   revert e46; refine bK fun o79 e78 e46 => ?_
   refine awp_loopW (fun (v : (List Tree) × Int × Nat) (σ : St) => r49_nodes_L1 a1 rF21z v.1 v.2.1 v.2.2 = some o79 /\ v.1 = a0.Kids.drop v.2.2 /\ σ.env 1 = iV .i64 a1 /\ σ.env 2 = .cell (.ref (.o 1 0 0) 0) /\ σ.env 5 = iV .i64 v.2.1 /\ σ.env 6 = iV .i64 ((v.2.2 : Nat) : Int) /\ σ.hp (.o 1 0 0) = some (.cells (eA a0)) /\ 4 <= σ.gen) (fun v => v.1.length) _ (Gh.refl _) (a0.Kids, 1, 0) ⟨e78, by simp, pv f0, pv f0, pv f0, pv f0, pv f0, pg⟩ fun v σ6 hp L80 hL81 => ?_
   obtain ⟨q83, i68, k69⟩ := v
   dsimp only at hp hL81
   obtain ⟨e78, hd82, h5_1, h5_2, h5_5, h5_6, g5_0, n5_g⟩ := hp
   have n5_0 : ¬ (σ6.gen = 0) := by omega
   rcases q83 with _ | ⟨x88, q84⟩
   ·have hlt85 := drop_end hd82
    rw [r49_nodes_L1] at e78; try dsimp only at e78
    have F1 := an h5_1 (an h5_2 (an h5_5 (an h5_6 (an g5_0 n5_0))))
    refine goR F1 ?_
    refine condK_f (by simp [ltI]; omega) ?_
    obtain rfl := sj e78
    try dsimp only at e46
    exact hK48 i68 _ _ (Gh.refl _) ⟨e46, pv F1, pg⟩
   ·obtain ⟨hx87, hlt85, hd89⟩ := drop_next hd82
    have ew86 := wrap_succ hlt85 (hb1).len
    rw [r49_nodes_L1] at e78; try dsimp only at e78
    have F2 := an h5_1 (an h5_2 (an h5_5 (an h5_6 (an g5_0 (an n5_0 (an hlt85 ew86))))))
    refine goR F2 ?_
    refine condK_t (by simp [ltI]; omega) ?_
    have f90 : partCV Tryz.prog 57 (encL a0.Kids) (k69 * 2) = some (.agg (eA x88)) := partCV_enc hx87 (f := 0) (by simp)
    have F3 := an F2 f90
    refine goR F3 ?_
    revert e78; refine bK fun y91 hx92 e78 => ?_
    refine cP F3 (ihrF21z _ _ _ hx92) ?_
    refine goR F3 ?_
    exact hL81 (q84, IntKind.i64.wrap (i68 + y91), (k69 + 1)) _ _ (Gh.refl _) ⟨e78, hd89, pv F3, pv F3, pv F3, pv F3, pv F3, pg⟩ (by simp)
  ·obtain ⟨e46, h4_5, n4_g⟩ := hp
   obtain rfl := sj e46
   try dsimp only at hs
   refine goG h4_5 h4_5 ?_
   obtain rfl := sj hs
   exact hQ _ _ (rg h4_5 (Gh.refl _))
theorem at_r49_nodes : ∀ {fuelN : Nat} {a0 : Tree} {a1 : Int} {r : Int} (hs : r49_nodes fuelN a0 a1 = some r), At Tryz.prog 21 [.agg (eA a0), iV .i64 a1] (iV .i64 r)
 | 0, _, _, _, hs => by rw [r49_nodes] at hs; cases hs
 | n + 1, _, _, _, hs => by
  rw [r49_nodes] at hs
  exact at_r49_nodes_B (fun _ _ _ h => at_r49_nodes h) hs
end Go.Dc
end
section
set_option linter.all false
namespace Go.Dc
open Go Go.Hw Go.Proofs
set_option maxRecDepth 100000
def r49_Few_L1 (fuelN : Nat) (a0 : Snapshot) : Nat -> Int -> Int -> Option Int
 | 0, _, _ => none
 | q101 + 1, i78, i79 => cond (andB (ltI i79 ((a0.Frames.length : Nat) : Int)) (!(ltI 1000 i78))) (Option.bind (getI a0.Frames i79) (fun x112 => Option.bind (r49_nodes fuelN x112.Tree 600) (fun y116 => r49_Few_L1 fuelN a0 q101 (IntKind.i64.wrap (IntKind.i64.wrap (i78 + ((x112.Sleep.length : Nat) : Int)) + y116)) (IntKind.i64.wrap (i79 + 1))))) (some (i78))
def r49_Few (fuelN : Nat) (a0 : Snapshot) : Option Bool :=
 Option.bind (α := Int) (Option.bind (r49_Few_L1 fuelN a0 fuelN ((a0.Frames.length : Nat) : Int) 0) (fun i94 => some (i94))) (fun i57 => some (!(ltI 1000 i57)))
set_option maxHeartbeats 2000000 in
theorem at_r49_Few {fuelN : Nat} {a0 : Snapshot} {r : Bool} (hs : r49_Few fuelN a0 = some r) : At Tryz.prog 7 [.agg (eA a0)] (bV r) := by
 refine at_bound (by kernel_rfl) fun hb => ?_
 have hb1 : LenOk (.sl a0.Frames.length (encL a0.Frames)) := lkc hb
 refine at_code mixed Tryz.func7 (by kernel_rfl) rfl (by kernel_rfl) rfl fun Q hQ => ?_
 rw [r49_Few] at hs
 refine goR2 f0 ?_
 revert hs; refine bK fun o59 e58 hs => ?_
 refine awp_cutK (fun (v : Int) (σ : St) => some (v) = some o59 /\ σ.env 3 = iV .i64 v /\ 3 <= σ.gen) (by rfl) (fun Q hK60 hX61 => ?_) (fun i57 σ3 hp => ?_)
 ·refine goR f0 ?_
  revert e58; refine bK fun o96 e95 e58 => ?_
  refine awp_loopW (fun (v : Nat × Int × Int) (σ : St) => r49_Few_L1 fuelN a0 v.1 v.2.1 v.2.2 = some o96 /\ σ.env 1 = .cell (.ref (.o 1 0 0) 0) /\ σ.env 3 = iV .i64 v.2.1 /\ σ.env 4 = iV .i64 v.2.2 /\ σ.hp (.o 1 0 0) = some (.cells (eA a0)) /\ 3 <= σ.gen) (fun v => v.1) _ (Gh.refl _) (fuelN, ((a0.Frames.length : Nat) : Int), 0) ⟨e95, pv f0, pv f0, pv f0, pv f0, pg⟩ fun v σ6 hp L97 hL98 => ?_
  obtain ⟨q100, i78, i79⟩ := v
  dsimp only at hp hL98
  obtain ⟨e95, h5_1, h5_3, h5_4, g5_0, n5_g⟩ := hp
  have n5_0 : ¬ (σ6.gen = 0) := by omega
  rcases q100 with _ | q101
  ·rw [r49_Few_L1] at e95; cases e95
  ·rw [r49_Few_L1] at e95; try dsimp only at e95
   have F1 := an h5_1 (an h5_3 (an h5_4 (an g5_0 n5_0)))
   refine goG F1 F1 ?_
   revert e95; refine cS F1 ?_ ?_ <;> intro h105 e95
   ·revert e95; refine bK fun x112 hx113 e95 => ?_
    obtain ⟨hx113a, hx113b, hx113c, hx113d⟩ := getI_some hx113
    have f114 : partCV Tryz.prog 54 (encL a0.Frames) (((i79).toNat) * 4 + 1) = some (.cell (sC x112.Sleep)) := partCV_enc hx113d (f := 1) (by simp)
    have f115 : partCV Tryz.prog 57 (encL a0.Frames) (((i79).toNat) * 4 + 2) = some (.agg (eA x112.Tree)) := partCV_enc hx113d (f := 2) (by simp)
    have F2 := an F1 (an f114 f115)
    have F3 := an F2 (an hx113a hx113b)
    refine goE F2 F3 ?_
    revert e95; refine bK fun y116 hx117 e95 => ?_
    refine cP F2 (at_r49_nodes hx117) ?_
    refine goE F2 F3 ?_
    exact hL98 (q101, IntKind.i64.wrap (IntKind.i64.wrap (i78 + ((x112.Sleep.length : Nat) : Int)) + y116), IntKind.i64.wrap (i79 + 1)) _ _ (Gh.refl _) ⟨e95, pv F2, pv F2, pv F2, pv F2, pg⟩ (by omega)
   ·refine goG F1 F1 ?_
    obtain rfl := sj e95
    try dsimp only at e58
    exact hK60 i78 _ _ (Gh.refl _) ⟨e58, pv F1, pg⟩
 ·obtain ⟨e58, h4_3, n4_g⟩ := hp
  obtain rfl := sj e58
  try dsimp only at hs
  refine goR h4_3 ?_
  obtain rfl := sj hs
  exact hQ _ _ (rg h4_3 (Gh.refl _))
end Go.Dc
end
section
set_option linter.all false
namespace Go.Hw
variable [Globals]
section
variable {H : Type} {enc : TypeId × Value -> H} {P : Program} {w : World} {sp : Nat -> Bool} {held : Bool}
end
end Go.Hw
end
section
set_option linter.all false
namespace Go.Hw
variable [Globals]
def okT (P : Program) (S : List TypeId) (t : TypeId) : Bool := match P.underlying t with
 | some .bool => P.cellsOf t == 1
 | some (.int _) => P.cellsOf t == 1
 | some .string => P.cellsOf t == 1
 | some (.slice e) => S.contains e && P.cellsOf t == 1
 | some (.struct fs) => fs.toList.all (fun f => S.contains f.type) && contig P 0 fs.toList == some (P.cellsOf t)
 | some (.array k e) => S.contains e && P.cellsOf t == k * P.cellsOf e
 | _ => false
def okS (P : Program) (S : List TypeId) : Bool := S.all (okT P S)
section
variable {H : Type} {enc : TypeId × Value -> H} {P : Program} {w : World} {sp : Nat -> Bool} {held : Bool} {bad : Nat -> Prop} {S : List TypeId}
theorem trodW_fields {n : Nat} (ih : ∀ (t : TypeId) (cs : List Value) (x : DataW H × List MemPlace), t ∈ S -> DataW.trod enc P w 0 sp held n t cs = some x -> ∃ cvs, cvD P n t x.1 = some cvs /\ CReps w bad cs cvs) {cs : List Value} :
  ∀ (fl : List Field) (xs : List (DataW H × List MemPlace)) (off tot : Nat), (∀ f ∈ fl, f.type ∈ S) -> contig P off fl = some tot -> xs.length = fl.length ->
   (∀ (i : Nat) (f : Field), fl[i]? = some f -> DataW.trod enc P w 0 sp held n f.type ((cs.drop f.offset).take (P.cellsOf f.type)) = xs[i]?) ->
   ∃ cvs, concatM (List.zipWith (fun f d => cvD P n f.type d) fl (xs.map (·.1))) = some cvs /\ CReps w bad ((cs.drop off).take (tot - off)) cvs
 | [], xs, off, tot, _, hc, hl, _ => by
  simp [contig] at hc
  subst hc
  exact ⟨[], by simp [concatM], by simpa using CReps.nil⟩
 | f :: r, [], off, tot, _, _, hl, _ => by simp at hl
 | f :: r, x :: xs, off, tot, hp, hc, hl, ht => by
  rw [contig] at hc
  split at hc
  ·rename_i ho
   have h0 := ht 0 f rfl
   simp at h0
   rw [ho] at h0
   obtain ⟨c1, e1, r1⟩ := ih f.type _ x (hp f (by simp)) h0
   obtain ⟨c2, e2, r2⟩ := trodW_fields ih r xs (off + P.cellsOf f.type) tot (fun g hg => hp g (by simp [hg])) hc (by simpa using hl) (fun i g hg => by simpa using ht (i + 1) g (by simpa using hg))
   refine ⟨c1 ++ c2, ?_, ?_⟩
   ·simp only [List.map_cons, List.zipWith_cons_cons, e1, concatM, e2, Option.map_some]
   ·rw [drop_split cs (contig_le hc)]
    exact r1.append r2
  ·cases hc
theorem trodW_elems {n : Nat} {e : TypeId} (ih : ∀ (cs : List Value) (x : DataW H × List MemPlace), DataW.trod enc P w 0 sp held n e cs = some x -> ∃ cvs, cvD P n e x.1 = some cvs /\ CReps w bad cs cvs) {cs : List Value} :
  ∀ (xs : List (DataW H × List MemPlace)) (i0 : Nat), (∀ i, i < xs.length -> DataW.trod enc P w 0 sp held n e ((cs.drop ((i0 + i) * P.cellsOf e)).take (P.cellsOf e)) = xs[i]?) ->
   ∃ cvs, concatM ((xs.map (·.1)).map (cvD P n e)) = some cvs /\ CReps w bad ((cs.drop (i0 * P.cellsOf e)).take (xs.length * P.cellsOf e)) cvs
 | [], i0, _ => ⟨[], by simp [concatM], by simpa using CReps.nil⟩
 | x :: xs, i0, ht => by
  have h0 := ht 0 (by simp)
  simp at h0
  obtain ⟨c1, e1, r1⟩ := ih _ x h0
  obtain ⟨c2, e2, r2⟩ := trodW_elems ih xs (i0 + 1) (fun i hi => by
   have := ht (i + 1) (by simpa using hi)
   rw [show i0 + (i + 1) = i0 + 1 + i by omega] at this
   simpa using this)
  refine ⟨c1 ++ c2, by simp only [List.map_cons, e1, concatM, e2, Option.map_some], ?_⟩
  have h1 : (i0 + 1) * P.cellsOf e = i0 * P.cellsOf e + P.cellsOf e := by rw [Nat.succ_mul]
  rw [h1] at r2
  have h2 : (x :: xs).length * P.cellsOf e = P.cellsOf e + xs.length * P.cellsOf e := by rw [List.length_cons, Nat.succ_mul]; omega
  rw [h2, List.take_add, List.drop_drop]
  exact r1.append r2
theorem trodW_slots {n : Nat} {e : TypeId} {a : Addr} (ih : ∀ (cs : List Value) (x : DataW H × List MemPlace), DataW.trod enc P w 0 sp held n e cs = some x -> ∃ cvs, cvD P n e x.1 = some cvs /\ CReps w bad cs cvs) :
  ∀ (xs : List (DataW H × List MemPlace)) (i0 : Nat), (∀ i, i < xs.length -> (w.cells? 0 (a.add ((i0 + i) * P.cellsOf e)) (P.cellsOf e)).bind (DataW.trod enc P w 0 sp held n e) = xs[i]?) ->
   ∃ cvs raws, concatM ((xs.map (·.1)).map (cvD P n e)) = some cvs /\ CReps w bad raws cvs /\ raws.length = xs.length * P.cellsOf e /\ ∀ j u, raws[j]? = some u -> w.cell? (a.add (i0 * P.cellsOf e + j)) = some u
 | [], i0, _ => ⟨[], [], by simp [concatM], CReps.nil, by simp, by simp⟩
 | x :: xs, i0, ht => by
  have h0 := ht 0 (by simp)
  simp only [Nat.add_zero, List.getElem?_cons_zero, Option.bind_eq_some_iff] at h0
  obtain ⟨us, hu, h0⟩ := h0
  obtain ⟨c1, e1, r1⟩ := ih _ x h0
  obtain ⟨c2, raws, e2, r2, hl, hm⟩ := trodW_slots ih xs (i0 + 1) (fun i hi => by
   have := ht (i + 1) (by simpa using hi)
   rw [show i0 + (i + 1) = i0 + 1 + i by omega] at this
   simpa using this)
  obtain ⟨_, hul, huc⟩ := World.cells?_some hu
  refine ⟨c1 ++ c2, us ++ raws, by simp only [List.map_cons, e1, concatM, e2, Option.map_some], r1.append r2, ?_, fun j u hj => ?_⟩
  ·rw [List.length_append, hul, hl, List.length_cons, Nat.succ_mul]; omega
  ·rcases Nat.lt_or_ge j us.length with hj' | hj'
   ·rw [List.getElem?_append_left hj'] at hj
    have := huc j (by omega)
    rw [addr_add] at this
    rw [this, hj]
   ·rw [List.getElem?_append_right hj'] at hj
    have := hm _ u hj
    have h1 : (i0 + 1) * P.cellsOf e = i0 * P.cellsOf e + P.cellsOf e := by rw [Nat.succ_mul]
    rw [h1, Nat.add_assoc, show P.cellsOf e + (j - us.length) = j by omega] at this
    exact this
/-- What reads as_ a datum is its cells: types that may lead to themselves. -/
theorem trodW_cvs (hbad : ∀ b, ¬ bad b) (hS : okS P S = true) : ∀ (m : Nat) (t : TypeId) (cs : List Value) (x : DataW H × List MemPlace), t ∈ S -> DataW.trod enc P w 0 sp held m t cs = some x -> ∃ cvs, cvD P m t x.1 = some cvs /\ CReps w bad cs cvs
 | 0, t, cs, x, _, h => by simp [DataW.trod] at h
 | m + 1, t, cs, x, hp, h => by
  have ih := trodW_cvs hbad hS m
  have hp := List.all_eq_true.1 hS t hp
  rw [okT] at hp
  split at hp
  ·rename_i hu
   obtain ⟨b, rfl, rfl⟩ := DataW.trod_bool hu h
   exact ⟨[.c (.bool b)], by simp [cvD, hu], .single (.c _) rfl⟩
  ·rename_i k hu
   obtain ⟨n, rfl, rfl, hw⟩ := DataW.trod_int hu h
   exact ⟨[.c (.int k n)], by simp only [cvD, hu]; rw [if_pos (by simpa [Lit.wf] using hw)], .single (.c _) rfl⟩
  ·rename_i hu
   obtain ⟨s, rfl, rfl, _⟩ := DataW.trod_string hu h
   exact ⟨[.c (.string s)], by simp [cvD, hu], .single (.c _) rfl⟩
  ·rename_i e hu
   simp only [Bool.and_eq_true, List.contains_iff_mem] at hp
   rcases DataW.trod_slice hu h with ⟨rfl, rfl⟩ | ⟨a, len, cap, elems, rest, n, hn, rfl, rfl, _, hlc, hcm, hel, hE, _, _⟩
   ·exact ⟨[.sl 0 []], by simp [cvD, hu], .single (.sl none 0 0 [] [] (Nat.le_refl _) (Nat.zero_le _) rfl (by simp) (by simp) (by simp)) rfl⟩
   ·obtain rfl : n = m := by omega
    obtain ⟨cvs, raws, e1, r1, hl, hm⟩ := trodW_slots (fun cs x h => ih e cs x hp.1 h) elems 0 (fun i hi => by simpa using hE i (by omega))
    refine ⟨[.sl elems.length cvs], by simp only [cvD, hu, e1, Option.map_some, List.length_map], .single ?_ rfl⟩
    rw [<- hel]
    exact .sl (some a) _ cap raws cvs (by omega) hcm r1.len r1.one (fun j u hj => ⟨a, rfl, hbad _, by simpa using hm j u hj⟩) r1.rep
  ·rename_i fs hu
   simp only [Bool.and_eq_true, beq_iff_eq, List.all_eq_true, List.contains_iff_mem] at hp
   obtain ⟨xs, n, hn, rfl, hcl, hxl, hF⟩ := DataW.trod_struct hu h
   obtain rfl : n = m := by omega
   obtain ⟨cvs, e1, r1⟩ := trodW_fields ih (cs := cs) fs.toList xs 0 (P.cellsOf t) hp.1 hp.2 (by simpa using hxl) (fun i f hf => hF i f (by simpa using hf))
   refine ⟨cvs, by simp only [cvD, hu, e1, List.length_map, hxl, if_true], ?_⟩
   have : (cs.drop 0).take (P.cellsOf t - 0) = cs := by rw [<- hcl]; simp
   rwa [this] at r1
  ·rename_i k e hu
   simp only [Bool.and_eq_true, beq_iff_eq, List.contains_iff_mem] at hp
   obtain ⟨xs, n, hn, rfl, hcl, hxl, hE⟩ := DataW.trod_array hu h
   obtain rfl : n = m := by omega
   obtain ⟨cvs, e1, r1⟩ := trodW_elems (fun cs x h => ih e cs x hp.1 h) (cs := cs) xs 0 (fun i hi => by simpa using hE i (by omega))
   refine ⟨cvs, by simp only [cvD, hu, e1, List.length_map, hxl, if_true], ?_⟩
   have : (cs.drop (0 * P.cellsOf e)).take (xs.length * P.cellsOf e) = cs := by
    rw [hxl, <- hp.2, <- hcl]; simp
   rwa [this] at r1
  ·cases hp
open Go.WideShapes in
theorem repW_struct {t : TypeId} {fs : Array Field} {v : Value} {d : DataW H} {p : List MemPlace} {r : Go.Reach} {b0 : Nat} (hS : okS P S = true) (ht : t ∈ S) (hu : P.underlying t = some (.struct fs)) (hv : Value.okWide P w r b0 t v)
  (h : DataW.Trod enc P w 0 sp held t v d p) : ∃ m cvs, cvD P m t d = some cvs /\ AVRep w m0 (fun _ => False) v (.agg (cvs.map .p)) := by
 obtain ⟨cs, rfl, hsz⟩ := okWide_struct hu hv
 obtain ⟨fuel, hf⟩ := h
 obtain ⟨cvs, e, hr⟩ := trodW_cvs (bad := Bad m0 (fun _ => False)) (fun b hb => (bad_m0).1 hb) hS fuel t _ _ ht hf
 have hr : CReps w (Bad m0 (fun _ => False)) cs.toList cvs := hr
 refine ⟨fuel, cvs, e, .agg cs _ (by have := hr.len; simpa using this) hr.one fun j u x hj hx => ?_⟩
 rw [List.getElem?_map, Option.map_eq_some_iff] at hx
 obtain ⟨c, hc, rfl⟩ := hx
 exact hr.rep j u c (by simpa using hj) hc
end
/-! What a datum's cells are, part by part. -/
theorem cvD_sliceW {H : Type} {P : Program} {n t e : Nat} {d : DataW H} {c : List CV} {α : Type} [Enc α] (hu : P.underlying t = some (.slice e)) (hg : ∀ m, m < n -> ∀ (d : DataW H) c, cvD P m e d = some c -> ∃ x : α, c = Enc.enc x) (h : cvD P n t d = some c) : ∃ L : List α, c = Enc.enc L := by
 cases n with
 | zero => simp [cvD] at h
 | succ n =>
  simp only [cvD, hu] at h
  split at h
  ·cases h; exact ⟨[], rfl⟩
  ·rename_i l sp
   rw [Option.map_eq_some_iff] at h
   obtain ⟨c', h, rfl⟩ := h
   obtain ⟨L, hL, rfl⟩ := concatM_map (fun d _ c hc => hg n (Nat.lt_succ_self _) d c hc) h
   exact ⟨L, by rw [<- hL]; rfl⟩
  ·cases h
theorem cvD_structW {H : Type} {P : Program} {n t : Nat} {d : DataW H} {c : List CV} {fs : Array Field} (hu : P.underlying t = some (.struct fs)) (h : cvD P n t d = some c) : ∃ m l, m < n /\ d = .agg l /\ l.length = fs.size /\ concatM (List.zipWith (fun f d => cvD P m f.type d) fs.toList l) = some c := by
 cases n with
 | zero => simp [cvD] at h
 | succ n =>
  simp only [cvD, hu] at h
  split at h
  ·rename_i l
   split at h
   ·rename_i hl; exact ⟨n, l, Nat.lt_succ_self _, rfl, hl, h⟩
   ·cases h
  ·cases h
/-! Integers are within their kinds; how much a datum holds. -/
mutual
def okC : CV -> Prop
 | .c (.int k n) => k.min <= n /\ n <= k.max
 | .sl _ cs => okL cs
 | _ => True
def okL : List CV -> Prop
 | [] => True
 | x :: r => okC x /\ okL r
end
mutual
def bkC : CV -> Nat
 | .c (.string s) => s.size + 1
 | .sl _ cs => bkL cs + 1
 | _ => 1
def bkL : List CV -> Nat
 | [] => 0
 | x :: r => bkC x + bkL r
end
@[simp] theorem okL_nil : okL [] := by rw [okL]; trivial
@[simp] theorem okL_cons (x : CV) (r : List CV) : okL (x :: r) ↔ okC x /\ okL r := by rw [okL]
@[simp] theorem bkL_nil : bkL [] = 0 := by rw [bkL]
@[simp] theorem bkL_cons (x : CV) (r : List CV) : bkL (x :: r) = bkC x + bkL r := by rw [bkL]
@[simp] theorem okL_append (a b : List CV) : okL (a ++ b) ↔ okL a /\ okL b := by
 induction a with
 | nil => simp
 | cons x a ih => simp [ih, and_assoc]
@[simp] theorem bkL_append (a b : List CV) : bkL (a ++ b) = bkL a + bkL b := by
 induction a with
 | nil => simp
 | cons x a ih => simp [ih]; omega
@[simp] theorem bkC_sl (n : Nat) (cs : List CV) : bkC (.sl n cs) = bkL cs + 1 := by rw [bkC]
@[simp] theorem bkC_str (s : ByteArray) : bkC (.c (.string s)) = s.size + 1 := by rw [bkC]
@[simp] theorem bkC_int (k : IntKind) (n : Int) : bkC (.c (.int k n)) = 1 := by rw [bkC] <;> simp
@[simp] theorem bkC_bool (b : Bool) : bkC (.c (.bool b)) = 1 := by rw [bkC] <;> simp
@[simp] theorem okC_sl (n : Nat) (cs : List CV) : okC (.sl n cs) ↔ okL cs := by rw [okC]
@[simp] theorem okC_int (k : IntKind) (n : Int) : okC (.c (.int k n)) ↔ (k.min <= n /\ n <= k.max) := by rw [okC]
theorem bkC_pos (c : CV) : 1 <= bkC c := by
 cases c with
 | c v => cases v <;> simp [bkC]
 | sl n cs => simp
 | _ => simp [bkC]
theorem bkL_encL {α : Type} [Enc α] : ∀ {l : List α} {x : α}, x ∈ l -> bkL (Enc.enc x) <= bkL (encL l)
 | y :: r, x, hx => by
  rw [encL_cons, bkL_append]
  rcases List.mem_cons.1 hx with rfl | hx
  ·omega
  ·have := bkL_encL hx; omega
theorem bkL_len (l : List CV) : l.length <= bkL l := by
 induction l with
 | nil => simp
 | cons x l ih => have := bkC_pos x; simp; omega
theorem bkL_lenL {α : Type} [Enc α] (h : 1 <= Enc.sz α) (l : List α) : l.length <= bkL (encL l) := by
 have h1 := bkL_len (encL l)
 rw [encL_length] at h1
 exact Nat.le_trans (Nat.le_mul_of_pos_right _ h) h1
theorem concatM_ok : ∀ {l : List (Option (List CV))} {c : List CV}, (∀ o ∈ l, ∀ a, o = some a -> okL a) -> concatM l = some c -> okL c
 | [], c, _, h => by simp [concatM] at h; subst h; simp
 | o :: r, c, hf, h => by
  obtain ⟨a, b, rfl, hb, rfl⟩ := concatM_cons h
  rw [okL_append]
  exact ⟨hf _ (by simp) a rfl, concatM_ok (fun o ho => hf o (by simp [ho])) hb⟩
theorem cvD_okL {H : Type} {P : Program} : ∀ (n : Nat) (t : TypeId) (d : DataW H) (c : List CV), cvD P n t d = some c -> okL c
 | 0, t, d, c, h => by simp [cvD] at h
 | n + 1, t, d, c, h => by
  unfold cvD at h
  split at h
  ·split at h
   ·cases h; simp [okC]
   ·cases h
  ·split at h
   ·split at h
    ·rename_i hr; cases h; simpa using hr
    ·cases h
   ·cases h
  ·split at h
   ·cases h; simp [okC]
   ·cases h
  ·split at h
   ·cases h; simp
   ·rw [Option.map_eq_some_iff] at h
    obtain ⟨c', h, rfl⟩ := h
    simp only [okL_cons, okC_sl, okL_nil, and_true]
    refine concatM_ok (fun o ho a ha => ?_) h
    obtain ⟨d', _, rfl⟩ := List.mem_map.1 ho
    exact cvD_okL n _ d' a ha
   ·cases h
  ·split at h
   ·split at h
    ·refine concatM_ok (fun o ho a ha => ?_) h
     rw [List.mem_iff_getElem?] at ho
     obtain ⟨j, hj⟩ := ho
     rw [List.getElem?_zipWith] at hj
     split at hj
     ·cases hj; exact cvD_okL n _ _ a ha
     ·cases hj
    ·cases h
   ·cases h
  ·split at h
   ·split at h
    ·refine concatM_ok (fun o ho a ha => ?_) h
     obtain ⟨d', _, rfl⟩ := List.mem_map.1 ho
     exact cvD_okL n _ d' a ha
    ·cases h
   ·cases h
  ·cases h
section
variable {H : Type} (B : DataW H -> Nat) (Bs : List (DataW H) -> Nat) (hnil : Bs [] = 0) (hcons : ∀ d r, Bs (d :: r) = B d + Bs r)
include hnil hcons
theorem concatM_bk {f : DataW H -> Option (List CV)} : ∀ {l : List (DataW H)} {c : List CV}, (∀ d ∈ l, ∀ a, f d = some a -> bkL a <= B d) -> concatM (l.map f) = some c -> bkL c <= Bs l
 | [], c, _, h => by simp [concatM] at h; subst h; simp
 | d :: r, c, hf, h => by
  rw [List.map_cons] at h
  obtain ⟨a, b, ha, hb, rfl⟩ := concatM_cons h
  have h1 := hf d (by simp) a ha
  have h2 := concatM_bk (fun d hd => hf d (by simp [hd])) hb
  rw [bkL_append, hcons]; omega
theorem concatM_bkz {F : Field -> DataW H -> Option (List CV)} : ∀ {fl : List Field} {l : List (DataW H)} {c : List CV}, (∀ f ∈ fl, ∀ d ∈ l, ∀ a, F f d = some a -> bkL a <= B d) -> concatM (List.zipWith F fl l) = some c -> bkL c <= Bs l
 | [], l, c, _, h => by simp [concatM] at h; subst h; simp
 | f :: fl, [], c, _, h => by simp [concatM] at h; subst h; simp
 | f :: fl, d :: r, c, hf, h => by
  rw [List.zipWith_cons_cons] at h
  obtain ⟨a, b, ha, hb, rfl⟩ := concatM_cons h
  have h1 := hf f (by simp) d (by simp) a ha
  have h2 := concatM_bkz (fun g hg d hd => hf g (by simp [hg]) d (by simp [hd])) hb
  rw [bkL_append, hcons]; omega
/-- The cells of a datum hold no more than the datum, by whatever measure counts its parts. -/
theorem cvD_bk {P : Program} (hlit : ∀ l, 1 <= B (.lit l)) (hstr : ∀ l, l.length + 1 <= B (.lit (.string l))) (hn : 1 <= B .nil) (hsl : ∀ l s, Bs l + 1 <= B (.slice l s)) (hag : ∀ l, Bs l <= B (.agg l)) : ∀ (n : Nat) (t : TypeId) (d : DataW H) (c : List CV), cvD P n t d = some c -> bkL c <= B d
 | 0, t, d, c, h => by simp [cvD] at h
 | n + 1, t, d, c, h => by
  have ih := cvD_bk (P := P) hlit hstr hn hsl hag n
  unfold cvD at h
  split at h
  ·split at h
   ·cases h; simpa using hlit _
   ·cases h
  ·split at h
   ·split at h
    ·cases h; simpa using hlit _
    ·cases h
   ·cases h
  ·split at h
   ·rename_i l; cases h; have := hstr l; simpa [ByteArray.size] using this
   ·cases h
  ·split at h
   ·cases h; simpa using hn
   ·rename_i l s
    rw [Option.map_eq_some_iff] at h
    obtain ⟨c', h, rfl⟩ := h
    have h1 := concatM_bk B Bs hnil hcons (fun d' _ a ha => ih _ d' a ha) h
    have h2 := hsl l s
    simp; omega
   ·cases h
  ·split at h
   ·rename_i l
    split at h
    ·have h1 := concatM_bkz B Bs hnil hcons (F := fun f d => cvD P n f.type d) (fun f _ d' _ a ha => ih _ d' a ha) h
     have h2 := hag l
     omega
    ·cases h
   ·cases h
  ·split at h
   ·rename_i l
    split at h
    ·have h1 := concatM_bk B Bs hnil hcons (fun d' _ a ha => ih _ d' a ha) h
     have h2 := hag l
     omega
    ·cases h
   ·cases h
  ·cases h
end
end Go.Hw
end
section
set_option linter.all false
namespace Go.Dc.Pl
open Go Go.Hw Go.Dc
set_option maxRecDepth 100000
/-! What bounds a snapshot. -/
theorem nT_bk : ∀ (m : Nat) (l : List Tree), nT m l <= bkL (encL l)
 | 0, l => by rw [nT]; omega
 | m + 1, l => by
  rw [nT]
  induction l with
  | nil => simp
  | cons x l ih =>
   have h := nT_bk m x.Kids
   rw [List.map_cons, List.sum_cons, encL_cons, bkL_append, enc_Tree]
   simp; omega
theorem wid_bk {B : Nat} : ∀ (m : Nat) (l : List Tree), bkL (encL l) <= B -> wid B m l
 | 0, l, _ => trivial
 | m + 1, l, h => by
  refine ⟨Nat.le_trans (bkL_lenL (by simp) l) h, fun k hk => wid_bk m k.Kids ?_⟩
  have := bkL_encL hk
  rw [enc_Tree] at this
  simp at this; omega
theorem frame_bk (g : Frame) : nF g + bkL (encL g.Tree.Kids) <= 2 * bkL (Enc.enc g) /\ nF g <= bkL (Enc.enc g) /\ bkL (encL g.Tree.Kids) <= bkL (Enc.enc g) := by
 have h1 := nT_bk 512 g.Tree.Kids
 have h2 := bkL_lenL (α := Int) (by simp) g.Sleep
 rw [enc_Frame]; unfold nF; simp; omega
theorem nS_bk (s : Snapshot) : nS s <= bkL (Enc.enc s) /\ s.Frames.length <= bkL (Enc.enc s) /\ ∀ g ∈ s.Frames, bkL (encL g.Tree.Kids) <= bkL (Enc.enc s) := by
 have h : ∀ l : List Frame, (l.map nF).sum <= bkL (encL l) := fun l => by
  induction l with
  | nil => simp
  | cons x l ih => have := frame_bk x; rw [List.map_cons, List.sum_cons, encL_cons, bkL_append]; omega
 have h1 := h s.Frames
 have h2 := bkL_lenL (α := Frame) (by simp) s.Frames
 have e : bkL (Enc.enc s) = bkL (encL s.Frames) + 1 + 1 + 1 + 1 := by rw [enc_Snapshot]; simp
 refine ⟨by unfold nS; omega, by omega, fun g hg => ?_⟩
 have := bkL_encL hg; have := frame_bk g; omega
/-! Whether a snapshot is small is answered. -/
theorem nodes_ex : ∀ (m f : Nat) (t : Tree), m <= 1000 -> m < f -> ∃ r, r49_nodes f t (m : Int) = some r := by
 intro m
 induction m with
 | zero =>
  intro f t _ hf
  obtain ⟨f, rfl⟩ : ∃ k, f = k + 1 := ⟨f - 1, by omega⟩
  show ∃ r, r49_nodes_B (r49_nodes f) t ((0 : Nat) : Int) = some r
  unfold r49_nodes_B
  cases hk : t.Kids with
  | nil => exact ⟨1, rfl⟩
  | cons x l => rw [show eqI ((0 : Nat) : Int) 0 = true from rfl, ltI_d, decide_eq_true (by simp)]; exact ⟨_, rfl⟩
 | succ m ih =>
  intro f t hm hf
  obtain ⟨f, rfl⟩ : ∃ k, f = k + 1 := ⟨f - 1, by omega⟩
  have hL : ∀ (l : List Tree) (n : Int) (k : Nat), ∃ r, r49_nodes_L1 ((m + 1 : Nat) : Int) (r49_nodes f) l n k = some r := by
   intro l
   induction l with
   | nil => intro n k; exact ⟨n, rfl⟩
   | cons x l il =>
    intro n k
    obtain ⟨y, hy⟩ := ih f x (by omega) (by omega)
    rw [r49_nodes_L1, show ((m + 1 : Nat) : Int) - 1 = (m : Int) by omega, wrapN (by omega), hy]
    exact il _ _
  obtain ⟨r, hr⟩ := hL t.Kids 1 0
  show ∃ r, r49_nodes_B (r49_nodes f) t ((m + 1 : Nat) : Int) = some r
  unfold r49_nodes_B
  rw [show eqI ((m + 1 : Nat) : Int) 0 = false by rw [eqI_d, decide_eq_false (by omega)], hr]
  exact ⟨_, rfl⟩
theorem few_ex {f : Nat} {s : Snapshot} (hf : s.Frames.length + 1000 <= f) (hl : s.Frames.length <= 1000000000) : ∃ b, r49_Few f s = some b := by
 have hL : ∀ (q k : Nat) (n : Int), k <= s.Frames.length -> s.Frames.length < k + q -> ∃ r, r49_Few_L1 f s q n (k : Int) = some r := by
  intro q
  induction q with
  | zero => intro k n h1 h2; omega
  | succ q ih =>
   intro k n h1 h2
   rw [r49_Few_L1]
   cases hc : andB (ltI (k : Int) ((s.Frames.length : Nat) : Int)) (!(ltI 1000 n)) with
   | false => exact ⟨_, rfl⟩
   | true =>
    rw [andB_d, ltI_d, Bool.and_eq_true, decide_eq_true_eq] at hc
    have hk : k < s.Frames.length := by omega
    obtain ⟨y, hy⟩ := nodes_ex 600 f (s.Frames[k]).Tree (by omega) (by omega)
    rw [cond_true, getI_nat, List.getElem?_eq_getElem hk, Option.bind_some, show (600 : Int) = ((600 : Nat) : Int) from rfl, hy, Option.bind_some, wrapS (by omega)]
    exact ih _ _ (by omega) (by omega)
 obtain ⟨r, hr⟩ := hL f 0 ((s.Frames.length : Nat) : Int) (by omega) (by omega)
 rw [r49_Few, show (0 : Int) = ((0 : Nat) : Int) from rfl, hr]
 exact ⟨_, rfl⟩
theorem snap_wid {s : Snapshot} (hb : bkL (Enc.enc s) <= 1048576) : ∀ g ∈ s.Frames, g.Tree.Kids.length <= 1000000000 /\ (∀ k, wid 1000000000 k g.Tree.Kids) /\ wid 1048576 512 g.Tree.Kids := fun g hg => by
 have h := (nS_bk s).2.2 g hg
 exact ⟨(wid_bk (B := 1000000000) 1 g.Tree.Kids (by omega)).1, fun k => wid_bk k _ (by omega), wid_bk 512 _ (by omega)⟩
theorem encode_own {p : Program} {c : Config} {s : Snapshot} (hp : small p = true) (hb : bkL (Enc.enc s) <= 1048576) : checkpoint_Encode 67108864 p c s = some (encodeB (digest p c) s) :=
 own_encode (B := 1048576) hp (by omega) (snap_wid hb) (by have := (nS_bk s).1; omega) (by omega) (by omega)
end Go.Dc.Pl
end
section
set_option linter.all false
namespace Go.Dc
open Go Go.Hw Go.Proofs
set_option maxRecDepth 100000
def r06_AppendInts_L1 (a0 : List UInt8) : List Int -> Nat -> Option (Unit ⊕ (List UInt8))
 | [], k69 => some (.inl ())
 | x93 :: q89, k69 => Option.bind (r06_fits x93) (fun y96 => cond (!y96) (Option.bind (some (([] : List UInt8))) (fun l99 => guardO (limB 1 (l99.length + a0.length)) (Option.bind (some (l99 ++ a0)) (fun l102 => some (.inr l102))))) (r06_AppendInts_L1 a0 q89 (k69 + 1)))
def r06_AppendInts_L2 (fuelN : Nat) : List Int -> (List UInt8) -> Nat -> Option (List UInt8)
 | [], l155, k156 => some (l155)
 | x175 :: q171, l155, k156 => Option.bind (r06_AppendInt fuelN l155 x175) (fun y178 => r06_AppendInts_L2 fuelN q171 y178 (k156 + 1))
def r06_AppendInts (fuelN : Nat) (a0 : List UInt8) (a1 : List Int) : Option (List UInt8) :=
 Option.bind (α := Unit ⊕ (List UInt8)) (Option.bind (r06_AppendInts_L1 a0 a1 0) (fun o => match o with | .inl _ => some (.inl ()) | .inr r104 => some (.inr r104))) (fun o => match o with | .inl _ => Option.bind (r06_AppendUint fuelN a0 ((a1.length : Nat) : Int)) (fun y105 => Option.bind (α := (List UInt8)) (Option.bind (r06_AppendInts_L2 fuelN a1 y105 0) (fun l164 => some (l164))) (fun l141 => some l141)) | .inr r180 => some r180)
set_option maxHeartbeats 2000000 in
theorem at_r06_AppendInts {fuelN : Nat} {a0 : List UInt8} {a1 : List Int} {r : (List UInt8)} (hs : r06_AppendInts fuelN a0 a1 = some r) : CAt Tryz.prog 29 [.cell (sC a0), .cell (sC a1)] [] (.ret (.cell (.sl (.r 0) 0 1 r.length))) [(.r 0, .pure (encL r))] := by
 refine at_bound (by kernel_rfl) fun hb => ?_
 have hb1 : LenOk (.sl a0.length (encL a0)) := lkc hb
 have hb2 : LenOk (.sl a1.length (encL a1)) := lkc hb
 refine at_code mixed Tryz.func29 (by kernel_rfl) rfl (by kernel_rfl) rfl fun Q hQ => ?_
 rw [r06_AppendInts] at hs
 refine goR2 f0 ?_
 revert hs; refine bK fun o52 e51 hs => ?_
 refine awp_cutK (fun (v : Unit) (σ : St) => some (.inl v) = some o52 /\ σ.env 0 = .cell (sC a0) /\ σ.env 1 = .cell (sC a1) /\ 2 <= σ.gen) (by rfl) (fun Q hK53 hX54 => ?_) (fun v σ3 hp => ?_)
 ·refine goR f0 ?_
  revert e51; refine bK fun o84 e83 e51 => ?_
  refine awp_loopW (fun (v : (List Int) × Nat) (σ : St) => r06_AppendInts_L1 a0 v.1 v.2 = some o84 /\ v.1 = a1.drop v.2 /\ σ.env 0 = .cell (sC a0) /\ σ.env 1 = .cell (sC a1) /\ σ.env 5 = iV .i64 ((v.2 : Nat) : Int) /\ 2 <= σ.gen) (fun v => v.1.length) _ (Gh.refl _) (a1, 0) ⟨e83, by simp, pv f0, pv f0, pv f0, pg⟩ fun v σ6 hp L85 hL86 => ?_
  obtain ⟨q88, k69⟩ := v
  dsimp only at hp hL86
  obtain ⟨e83, hd87, h5_0, h5_1, h5_5, n5_g⟩ := hp
  rcases q88 with _ | ⟨x93, q89⟩
  ·have hlt90 := drop_end hd87
   rw [r06_AppendInts_L1] at e83; try dsimp only at e83
   have F1 := an h5_0 (an h5_1 h5_5)
   refine goR F1 ?_
   refine condK_f (by simp [ltI]; omega) ?_
   obtain rfl := sj e83
   try dsimp only at e51
   exact hK53 () _ _ (Gh.refl _) ⟨e51, pv F1, pv F1, pg⟩
  ·obtain ⟨hx92, hlt90, hd94⟩ := drop_next hd87
   have ew91 := wrap_succ hlt90 (hb2).len
   rw [r06_AppendInts_L1] at e83; try dsimp only at e83
   have F2 := an h5_0 (an h5_1 (an h5_5 (an hlt90 ew91)))
   refine goR F2 ?_
   refine condK_t (by simp [ltI]; omega) ?_
   have f95 : partCV Tryz.prog 3 (encL a1) (k69) = some (iV .i64 x93) := partCV_enc1 hx92 (by simp)
   have F3 := an F2 f95
   refine goR F3 ?_
   revert e83; refine bK fun y96 hx97 e83 => ?_
   refine cP F3 (at_r06_fits hx97) ?_
   refine goR F3 ?_
   revert e83; refine cS F3 ?_ ?_ <;> intro h98 e83
   ·revert e83; refine lK fun l99 hx100 e83 => ?_
    have hx100n : l99.length = 0 := by rw [hx100]; rfl
    obtain ⟨g101, e83⟩ := guardO_some e83
    have g101 := limB_t g101
    obtain ⟨g101a, g101b⟩ := g101
    revert e83; refine lK fun l102 hx103 e83 => ?_
    have hx103n : l102.length = (l99.length + a0.length) := by rw [hx103]; simp
    have hx103e : encL l102 = encL l99 ++ encL a0 := by rw [hx103]; simp
    have F4 := an F3 (an hx100 (an hx103n hx103e))
    refine goR F4 ?_
    obtain rfl := sj e83
    try dsimp only at e51
    obtain rfl := sj e51
    try dsimp only at hs
    refine hX54 _ _ (by simp) ?_
    refine goR F4 ?_
    obtain rfl := sj hs
    refine hQ _ _ (ret2g _ (Gh.ren _ (.o (σ6.gen + 3) 2 0) (.r 0) (by simp) rfl rfl) (by simp [St.frz, St.pur, F4]; rfl) (by first | rfl | (simp [St.frz, St.pur, F4]; done) | (rw [if_pos (by first | omega | (simp; omega))]; simp [St.frz, St.pur, F4]; first | omega | exact List.take_of_length_le (by simp; omega) | skip)) (pv F4))
   ·refine goR F3 ?_
    exact hL86 (q89, (k69 + 1)) _ _ (Gh.refl _) ⟨e83, hd94, pv F3, pv F3, pv F3, pg⟩ (by simp)
 ·obtain ⟨e51, h4_0, h4_1, n4_g⟩ := hp
  obtain rfl := sj e51
  try dsimp only at hs
  have F5 := an h4_0 h4_1
  refine goR F5 ?_
  revert hs; refine bK fun y105 hx106 hs => ?_
  refine cA F5 (at_r06_AppendUint hx106) ?_
  refine goR2 F5 ?_
  revert hs; refine bK fun o143 e142 hs => ?_
  refine awp_cutK (fun (v : (List UInt8)) (σ : St) => some (v) = some o143 /\ σ.env 6 = .cell (.sl (.l 2) 0 1 v.length) /\ σ.hp (.l 2) = some (.pure (encL v)) /\ (σ3.gen + 2) <= σ.gen) (by rfl) (fun Q hK144 hX145 => ?_) (fun l141 σ9 hp => ?_)
  ·refine goR F5 ?_
   revert e142; refine bK fun o166 e165 e142 => ?_
   refine awp_loopW (fun (v : (List Int) × (List UInt8) × Nat) (σ : St) => r06_AppendInts_L2 fuelN v.1 v.2.1 v.2.2 = some o166 /\ v.1 = a1.drop v.2.2 /\ σ.env 1 = .cell (sC a1) /\ σ.env 6 = .cell (.sl (.l 6) 0 1 v.2.1.length) /\ σ.env 7 = iV .i64 ((v.2.2 : Nat) : Int) /\ σ.hp (.l 6) = some (.pure (encL v.2.1)) /\ (σ3.gen + 2) <= σ.gen) (fun v => v.1.length) _ (Gh.ren _ (.o (σ3.gen + 1) 3 0) (.l 6) (by simp) rfl rfl) (a1, y105, 0) ⟨e165, by simp, pv F5, pv F5, pv F5, pv F5, pg⟩ fun v σ12 hp L167 hL168 => ?_
   obtain ⟨q170, l155, k156⟩ := v
   dsimp only at hp hL168
   obtain ⟨e165, hd169, h11_1, h11_6, h11_7, g11_0, n11_g⟩ := hp
   rcases q170 with _ | ⟨x175, q171⟩
   ·have hlt172 := drop_end hd169
    rw [r06_AppendInts_L2] at e165; try dsimp only at e165
    have F6 := an h11_1 (an h11_6 (an h11_7 g11_0))
    refine goR F6 ?_
    refine condK_f (by simp [ltI]; omega) ?_
    obtain rfl := sj e165
    try dsimp only at e142
    exact hK144 l155 _ _ (Gh.ren _ (.l 6) (.l 2) (by simp) rfl rfl) ⟨e142, pv F6, pv F6, pg⟩
   ·obtain ⟨hx174, hlt172, hd176⟩ := drop_next hd169
    have ew173 := wrap_succ hlt172 (hb2).len
    rw [r06_AppendInts_L2] at e165; try dsimp only at e165
    have F7 := an h11_1 (an h11_6 (an h11_7 (an g11_0 (an hlt172 ew173))))
    refine goR F7 ?_
    refine condK_t (by simp [ltI]; omega) ?_
    have f177 : partCV Tryz.prog 3 (encL a1) (k156) = some (iV .i64 x175) := partCV_enc1 hx174 (by simp)
    have F8 := an F7 f177
    refine goR F8 ?_
    revert e165; refine bK fun y178 hx179 e165 => ?_
    refine cA F8 (at_r06_AppendInt hx179) ?_
    refine goR F8 ?_
    exact hL168 (q171, y178, (k156 + 1)) _ _ (Gh.ren _ (.o (σ12.gen + 2) 5 0) (.l 6) (by simp) rfl rfl) ⟨e165, hd176, pv F8, pv F8, pv F8, pv F8, pg⟩ (by simp)
  ·obtain ⟨e142, h10_6, g10_0, n10_g⟩ := hp
   obtain rfl := sj e142
   try dsimp only at hs
   have F9 := an h10_6 g10_0
   refine goR F9 ?_
   obtain rfl := sj hs
   refine hQ _ _ (ret2g _ (Gh.ren _ (.l 2) (.r 0) (by simp) rfl rfl) (by simp [St.frz, St.pur, F9]; rfl) (by first | rfl | (simp [St.frz, St.pur, F9]; done) | (rw [if_pos (by first | omega | (simp; omega))]; simp [St.frz, St.pur, F9]; first | omega | exact List.take_of_length_le (by simp; omega) | skip)) (pv F9))
end Go.Dc
end
section
set_option linter.all false
namespace Go.Dc
open Go Go.Hw Go.Proofs
set_option maxRecDepth 100000
def r49_tree_L1 (fuelN : Nat) (rF30z : (List UInt8) -> Tree -> Option (List UInt8)) : List Tree -> (List UInt8) -> Nat -> Option (List UInt8)
 | [], l87, k88 => some (l87)
 | x110 :: q106, l87, k88 => Option.bind (r06_AppendInt fuelN l87 x110.Agent) (fun y113 => Option.bind (rF30z y113 x110) (fun y116 => r49_tree_L1 fuelN rF30z q106 y116 (k88 + 1)))
def r49_tree_B (rF30z : (List UInt8) -> Tree -> Option (List UInt8)) (fuelN : Nat) (a0 : List UInt8) (a1 : Tree) : Option (List UInt8) :=
 Option.bind (r06_AppendUint fuelN a0 ((a1.Kids.length : Nat) : Int)) (fun y1 => Option.bind (α := (List UInt8)) (Option.bind (r49_tree_L1 fuelN rF30z a1.Kids y1 0) (fun l99 => some (l99))) (fun l58 => some l58))
def r49_tree : Nat -> (List UInt8) -> Tree -> Option (List UInt8)
 | 0 => fun _ _ => none
 | fuelN + 1 => fun a0 a1 => r49_tree_B (r49_tree fuelN) fuelN a0 a1
set_option maxHeartbeats 2000000 in
theorem at_r49_tree_B {rF30z : (List UInt8) -> Tree -> Option (List UInt8)} (ihrF30z : ∀ (a0 : List UInt8) (a1 : Tree) (r : (List UInt8)), rF30z a0 a1 = some r -> At Tryz.prog 30 [.cell (sC a0), .agg (eA a1)] (.cell (sC r))) {fuelN : Nat} {a0 : List UInt8} {a1 : Tree} {r : (List UInt8)} (hs : r49_tree_B rF30z fuelN a0 a1 = some r) : At Tryz.prog 30 [.cell (sC a0), .agg (eA a1)] (.cell (sC r)) := by
 refine at_bound (by kernel_rfl) fun hb => ?_
 have hb1 : LenOk (.sl a0.length (encL a0)) := lkc hb
 have hb2 : LenOk (.sl a1.Kids.length (encL a1.Kids)) := lkc hb
 refine at_code mixed Tryz.func30 (by kernel_rfl) rfl (by kernel_rfl) rfl fun Q hQ => ?_
 rw [r49_tree_B] at hs
 refine goR f0 ?_
 revert hs; refine bK fun y1 hx2 hs => ?_
 refine cA f0 (at_r06_AppendUint hx2) ?_
 refine goR2 f0 ?_
 revert hs; refine bK fun o60 e59 hs => ?_
 refine awp_cutK (fun (v : (List UInt8)) (σ : St) => some (v) = some o60 /\ σ.env 0 = .cell (sC v) /\ 3 <= σ.gen) (by rfl) (fun Q hK61 hX62 => ?_) (fun l58 σ3 hp => ?_)
 ·refine goR f0 ?_
  revert e59; refine bK fun o101 e100 e59 => ?_
  refine awp_loopW (fun (v : (List Tree) × (List UInt8) × Nat) (σ : St) => r49_tree_L1 fuelN rF30z v.1 v.2.1 v.2.2 = some o101 /\ v.1 = a1.Kids.drop v.2.2 /\ σ.env 0 = .cell (sC v.2.1) /\ σ.env 3 = .cell (.ref (.o 1 0 0) 0) /\ σ.env 5 = iV .i64 ((v.2.2 : Nat) : Int) /\ σ.hp (.o 1 0 0) = some (.cells (eA a1)) /\ 3 <= σ.gen) (fun v => v.1.length) _ (Gh.frz _ (.o 2 4 0)) (a1.Kids, y1, 0) ⟨e100, by simp, pv f0, pv f0, pv f0, pv f0, pg⟩ fun v σ6 hp L102 hL103 => ?_
  obtain ⟨q105, l87, k88⟩ := v
  dsimp only at hp hL103
  obtain ⟨e100, hd104, h5_0, h5_3, h5_5, g5_0, n5_g⟩ := hp
  have n5_0 : ¬ (σ6.gen = 0) := by omega
  rcases q105 with _ | ⟨x110, q106⟩
  ·have hlt107 := drop_end hd104
   rw [r49_tree_L1] at e100; try dsimp only at e100
   have F1 := an h5_0 (an h5_3 (an h5_5 (an g5_0 n5_0)))
   refine goR F1 ?_
   refine condK_f (by simp [ltI]; omega) ?_
   obtain rfl := sj e100
   try dsimp only at e59
   exact hK61 l87 _ _ (Gh.refl _) ⟨e59, pv F1, pg⟩
  ·obtain ⟨hx109, hlt107, hd111⟩ := drop_next hd104
   have ew108 := wrap_succ hlt107 (hb2).len
   rw [r49_tree_L1] at e100; try dsimp only at e100
   have F2 := an h5_0 (an h5_3 (an h5_5 (an g5_0 (an n5_0 (an hlt107 ew108)))))
   refine goR F2 ?_
   refine condK_t (by simp [ltI]; omega) ?_
   have f112 : partCV Tryz.prog 3 (encL a1.Kids) (k88 * 2) = some (iV .i64 x110.Agent) := partCV_enc hx109 (f := 0) (by simp)
   have F3 := an F2 f112
   refine goR F3 ?_
   revert e100; refine bK fun y113 hx114 e100 => ?_
   refine cA F3 (at_r06_AppendInt hx114) ?_
   have f115 : partCV Tryz.prog 57 (encL a1.Kids) (k88 * 2) = some (.agg (eA x110)) := partCV_enc hx109 (f := 0) (by simp)
   have F4 := an F3 f115
   refine goR F4 ?_
   revert e100; refine bK fun y116 hx117 e100 => ?_
   refine cA F4 (ihrF30z _ _ _ hx117) ?_
   refine goR F4 ?_
   exact hL103 (q106, y116, (k88 + 1)) _ _ (Gh.refl _) ⟨e100, hd111, pv F4, pv F4, pv F4, pv F4, pg⟩ (by simp)
 ·obtain ⟨e59, h4_0, n4_g⟩ := hp
  obtain rfl := sj e59
  try dsimp only at hs
  refine goR h4_0 ?_
  obtain rfl := sj hs
  exact hQ _ _ (rg h4_0 (Gh.refl _))
theorem at_r49_tree : ∀ {fuelN : Nat} {a0 : List UInt8} {a1 : Tree} {r : (List UInt8)} (hs : r49_tree fuelN a0 a1 = some r), At Tryz.prog 30 [.cell (sC a0), .agg (eA a1)] (.cell (sC r))
 | 0, _, _, _, hs => by rw [r49_tree] at hs; cases hs
 | n + 1, _, _, _, hs => by
  rw [r49_tree] at hs
  exact at_r49_tree_B (fun _ _ _ h => at_r49_tree h) hs
end Go.Dc
end
section
set_option linter.all false
namespace Go.Dc
open Go Go.Hw Go.Proofs
set_option maxRecDepth 100000
def r49_Encode_L1 (fuelN : Nat) : List Frame -> (List UInt8) -> Nat -> Option (List UInt8)
 | [], l126, k127 => some (l126)
 | x152 :: q148, l126, k127 => Option.bind (r06_AppendInt fuelN l126 x152.Agent) (fun y155 => Option.bind (r06_AppendInts fuelN y155 x152.Sleep) (fun y158 => Option.bind (r49_tree fuelN y158 x152.Tree) (fun y161 => r49_Encode_L1 fuelN q148 y161 (k127 + 1))))
def r49_Encode (fuelN : Nat) (a0 : Program) (a1 : Config) (a2 : Snapshot) : Option ((List UInt8) × Int) :=
 Option.bind (r49_Digest fuelN a0 a1) (fun y1 => cond (!(eqI y1.2 0)) (some ([], y1.2)) (Option.bind (r49_Valid fuelN a2) (fun y4 => cond (!y4) (some ([], 1)) (Option.bind (α := Nat) (cond a2.Done (some (1)) (some (0))) (fun k8 => Option.bind (r06_AppendUint fuelN [] y1.1) (fun y14 => Option.bind (r06_AppendUint fuelN y14 ((k8 : Nat) : Int)) (fun y16 => Option.bind (r06_AppendUint fuelN y16 a2.Count) (fun y18 => Option.bind (r06_AppendUint fuelN y18 a2.Blocked) (fun y20 => Option.bind (r06_AppendUint fuelN y20 ((a2.Frames.length : Nat) : Int)) (fun y22 => Option.bind (α := (List UInt8)) (Option.bind (r49_Encode_L1 fuelN a2.Frames y22 0) (fun l141 => some (l141))) (fun l91 => Option.bind (r06_Seal fuelN l91) (fun y163 => some (y163, 0)))))))))))))
set_option maxHeartbeats 2000000 in
theorem at_r49_Encode {fuelN : Nat} {a0 : Program} {a1 : Config} {a2 : Snapshot} {r : (List UInt8) × Int} (hs : r49_Encode fuelN a0 a1 a2 = some r) : At Tryz.prog 10 [.agg (eA a0), .agg (eA a1), .agg (eA a2)] (.tup [.cell (sC r.1), iV .i64 r.2]) := by
 refine at_bound (by kernel_rfl) fun hb => ?_
 have hb1 : LenOk (.sl a0.Vars.length (encL a0.Vars)) := lkc hb
 have hb2 : LenOk (.sl a0.Mutexes.length (encL a0.Mutexes)) := lkc hb
 have hb3 : LenOk (.sl a0.Conds.length (encL a0.Conds)) := lkc hb
 have hb4 : LenOk (.sl a0.Funcs.length (encL a0.Funcs)) := lkc hb
 have hb5 : LenOk (.sl a0.Threads.length (encL a0.Threads)) := lkc hb
 have hb6 : LenOk (.sl a2.Frames.length (encL a2.Frames)) := lkc hb
 refine at_code mixed Tryz.func10 (by kernel_rfl) rfl (by kernel_rfl) rfl fun Q hQ => ?_
 rw [r49_Encode] at hs
 refine goR f0 ?_
 revert hs; refine bK fun y1 hx2 hs => ?_
 refine cP f0 (at_r49_Digest hx2) ?_
 refine goR f0 ?_
 revert hs; refine cS f0 ?_ ?_ <;> intro h3 hs
 ·refine goR f0 ?_
  obtain rfl := sj hs
  exact hQ _ _ (rg f0 (Gh.unz _))
 ·refine goR f0 ?_
  revert hs; refine bK fun y4 hx5 hs => ?_
  refine cP f0 (at_r49_Valid hx5) ?_
  refine goR f0 ?_
  revert hs; refine cS f0 ?_ ?_ <;> intro h6 hs
  ·refine goR f0 ?_
   obtain rfl := sj hs
   exact hQ _ _ (rg f0 (Gh.unz _))
  ·refine goR2 f0 ?_
   revert hs; refine bK fun o10 e9 hs => ?_
   refine awp_cutK (fun (v : Nat) (σ : St) => some (v) = some o10 /\ σ.env 5 = .cell (.ref (.o 1 2 0) 0) /\ σ.env 8 = iV .i64 y1.1 /\ σ.env 10 = iV .i64 ((v : Nat) : Int) /\ σ.hp (.o 1 2 0) = some (.cells (eA a2)) /\ 6 <= σ.gen) (by rfl) (fun Q hK11 hX12 => ?_) (fun k8 σ1 hp => ?_)
   ·refine goR f0 ?_
    revert e9; refine cS f0 ?_ ?_ <;> intro h13 e9
    ·refine goR f0 ?_
     exact hK11 1 _ _ (Gh.refl _) ⟨e9, pv f0, pv f0, pv f0, pv f0, pg⟩
    ·refine goR f0 ?_
     exact hK11 0 _ _ (Gh.refl _) ⟨e9, pv f0, pv f0, pv f0, pv f0, pg⟩
   ·obtain ⟨e9, h2_5, h2_8, h2_10, g2_0, n2_g⟩ := hp
    obtain rfl := sj e9
    try dsimp only at hs
    have n2_0 : ¬ (σ1.gen = 0) := by omega
    have F1 := an h2_5 (an h2_8 (an h2_10 (an g2_0 n2_0)))
    refine goR F1 ?_
    revert hs; refine bK fun y14 hx15 hs => ?_
    refine cA F1 (at_unz (args := [.cell (.z), iV .i64 y1.1]) (by simp) (at_r06_AppendUint hx15)) ?_
    refine goR F1 ?_
    revert hs; refine bK fun y16 hx17 hs => ?_
    refine cA F1 (at_r06_AppendUint hx17) ?_
    refine goR F1 ?_
    revert hs; refine bK fun y18 hx19 hs => ?_
    refine cA F1 (at_r06_AppendUint hx19) ?_
    refine goR F1 ?_
    revert hs; refine bK fun y20 hx21 hs => ?_
    refine cA F1 (at_r06_AppendUint hx21) ?_
    refine goR F1 ?_
    revert hs; refine bK fun y22 hx23 hs => ?_
    refine cA F1 (at_r06_AppendUint hx23) ?_
    refine goR2 F1 ?_
    revert hs; refine bK fun o93 e92 hs => ?_
    refine awp_cutK (fun (v : (List UInt8)) (σ : St) => some (v) = some o93 /\ σ.env 11 = .cell (sC v) /\ (σ1.gen + 6) <= σ.gen) (by rfl) (fun Q hK94 hX95 => ?_) (fun l91 σ5 hp => ?_)
    ·refine goR F1 ?_
     revert e92; refine bK fun o143 e142 e92 => ?_
     refine awp_loopW (fun (v : (List Frame) × (List UInt8) × Nat) (σ : St) => r49_Encode_L1 fuelN v.1 v.2.1 v.2.2 = some o143 /\ v.1 = a2.Frames.drop v.2.2 /\ σ.env 5 = .cell (.ref (.o 1 2 0) 0) /\ σ.env 11 = .cell (sC v.2.1) /\ σ.env 12 = iV .i64 ((v.2.2 : Nat) : Int) /\ σ.hp (.o 1 2 0) = some (.cells (eA a2)) /\ (σ1.gen + 6) <= σ.gen) (fun v => v.1.length) _ (Gh.frz _ (.o (σ1.gen + 5) 4 0)) (a2.Frames, y22, 0) ⟨e142, by simp, pv F1, pv F1, pv F1, pv F1, pg⟩ fun v σ8 hp L144 hL145 => ?_
     obtain ⟨q147, l126, k127⟩ := v
     dsimp only at hp hL145
     obtain ⟨e142, hd146, h7_5, h7_11, h7_12, g7_0, n7_g⟩ := hp
     have n7_0 : ¬ (σ8.gen = 0) := by omega
     rcases q147 with _ | ⟨x152, q148⟩
     ·have hlt149 := drop_end hd146
      rw [r49_Encode_L1] at e142; try dsimp only at e142
      have F2 := an h7_5 (an h7_11 (an h7_12 (an g7_0 n7_0)))
      refine goR F2 ?_
      refine condK_f (by simp [ltI]; omega) ?_
      obtain rfl := sj e142
      try dsimp only at e92
      exact hK94 l126 _ _ (Gh.refl _) ⟨e92, pv F2, pg⟩
     ·obtain ⟨hx151, hlt149, hd153⟩ := drop_next hd146
      have ew150 := wrap_succ hlt149 (hb6).len
      rw [r49_Encode_L1] at e142; try dsimp only at e142
      have F3 := an h7_5 (an h7_11 (an h7_12 (an g7_0 (an n7_0 (an hlt149 ew150)))))
      refine goR F3 ?_
      refine condK_t (by simp [ltI]; omega) ?_
      have f154 : partCV Tryz.prog 3 (encL a2.Frames) (k127 * 4) = some (iV .i64 x152.Agent) := partCV_enc hx151 (f := 0) (by simp)
      have F4 := an F3 f154
      refine goR F4 ?_
      revert e142; refine bK fun y155 hx156 e142 => ?_
      refine cA F4 (at_r06_AppendInt hx156) ?_
      have f157 : partCV Tryz.prog 54 (encL a2.Frames) (k127 * 4 + 1) = some (.cell (sC x152.Sleep)) := partCV_enc hx151 (f := 1) (by simp)
      have F5 := an F4 f157
      refine goR F5 ?_
      revert e142; refine bK fun y158 hx159 e142 => ?_
      refine cA F5 (at_r06_AppendInts hx159) ?_
      have f160 : partCV Tryz.prog 57 (encL a2.Frames) (k127 * 4 + 2) = some (.agg (eA x152.Tree)) := partCV_enc hx151 (f := 2) (by simp)
      have F6 := an F5 f160
      refine goR F6 ?_
      revert e142; refine bK fun y161 hx162 e142 => ?_
      refine cA F6 (at_r49_tree hx162) ?_
      refine goR F6 ?_
      exact hL145 (q148, y161, (k127 + 1)) _ _ (Gh.refl _) ⟨e142, hd153, pv F6, pv F6, pv F6, pv F6, pg⟩ (by simp)
    ·obtain ⟨e92, h6_11, n6_g⟩ := hp
     obtain rfl := sj e92
     try dsimp only at hs
     refine goR h6_11 ?_
     revert hs; refine bK fun y163 hx164 hs => ?_
     refine cP h6_11 (at_r06_Seal hx164) ?_
     refine goR h6_11 ?_
     obtain rfl := sj hs
     exact hQ _ _ (rg h6_11 (Gh.refl _))
end Go.Dc
end
section
set_option linter.all false
namespace Go.Dc
open Go Go.Hw Go.Proofs
set_option maxRecDepth 100000
def law49_bytes (a0 : List UInt8) (a1 : List UInt8) : Option Bool :=
 some (eqS (⟨a0.toArray⟩ : ByteArray) (⟨a1.toArray⟩ : ByteArray))
set_option maxHeartbeats 2000000 in
theorem at_law49_bytes {a0 : List UInt8} {a1 : List UInt8} {r : Bool} (hs : law49_bytes a0 a1 = some r) : At Tryz.prog 11 [.cell (sC a0), .cell (sC a1)] (bV r) := by
 refine at_bound (by kernel_rfl) fun hb => ?_
 have hb1 : LenOk (.sl a0.length (encL a0)) := lkc hb
 have hb2 : LenOk (.sl a1.length (encL a1)) := lkc hb
 refine at_code mixed Tryz.func11 (by kernel_rfl) rfl (by kernel_rfl) rfl fun Q hQ => ?_
 rw [law49_bytes] at hs
 refine goR f0 ?_
 obtain rfl := sj hs
 exact hQ _ _ (rg f0 (Gh.refl _))
end Go.Dc
end
section
set_option linter.all false
namespace Go.Dc
open Go Go.Hw Go.Proofs
set_option maxRecDepth 100000
def checkpoint_Decode (fuelN : Nat) (a0 : Program) (a1 : Config) (a2 : List UInt8) : Option (Snapshot × Int) :=
 Option.bind (checkpoint_Digest fuelN a0 a1) (fun y1 => cond (!(eqI y1.2 0)) (some (({ Frames := [], Done := false, Count := 0, Blocked := 0 } : Snapshot), y1.2)) (Option.bind (frame_Open fuelN a2) (fun y4 => cond (!(eqI y4.2.2 0)) (some (({ Frames := [], Done := false, Count := 0, Blocked := 0 } : Snapshot), y4.2.2)) (cond (ltI 0 ((y4.2.1.length : Nat) : Int)) (some (({ Frames := [], Done := false, Count := 0, Blocked := 0 } : Snapshot), 3)) (Option.bind (checkpoint_rest_uint_CheckpointDecoder fuelN ({ rest := ({ bytes := y4.1, err := 0 } : CheckpointRest), done := 0, out := ({ Frames := ([] : List Frame), Done := false, Count := 0, Blocked := 0 } : Snapshot) } : CheckpointDecoder)) (fun y8 => cond (!(eqI y8.2.rest.err 0)) (some (({ Frames := [], Done := false, Count := 0, Blocked := 0 } : Snapshot), y8.2.rest.err)) (cond (!(eqI y8.1 y1.1)) (some (({ Frames := [], Done := false, Count := 0, Blocked := 0 } : Snapshot), 30)) (Option.bind (checkpoint_decoder_snapshot fuelN y8.2) (fun y12 => cond (!(eqI y12.rest.err 0)) (some (({ Frames := [], Done := false, Count := 0, Blocked := 0 } : Snapshot), y12.rest.err)) (cond (!(orB (ltI 1 y12.done) (ltI 0 ((y12.rest.bytes.length : Nat) : Int)))) (Option.bind (checkpoint_Valid fuelN y12.out) (fun y16 => cond (!y16) (some (({ Frames := [], Done := false, Count := 0, Blocked := 0 } : Snapshot), 3)) (some (y12.out, 0)))) (some (({ Frames := [], Done := false, Count := 0, Blocked := 0 } : Snapshot), 3))))))))))))
set_option maxHeartbeats 2000000 in
theorem at_checkpoint_Decode {fuelN : Nat} {a0 : Program} {a1 : Config} {a2 : List UInt8} {r : Snapshot × Int} (hs : checkpoint_Decode fuelN a0 a1 a2 = some r) : At Tryz.prog 14 [.agg (eA a0), .agg (eA a1), .cell (sC a2)] (.tup [.agg (eA r.1), iV .i64 r.2]) := by
 refine at_bound (by kernel_rfl) fun hb => ?_
 have hb1 : LenOk (.sl a0.Vars.length (encL a0.Vars)) := lkc hb
 have hb2 : LenOk (.sl a0.Mutexes.length (encL a0.Mutexes)) := lkc hb
 have hb3 : LenOk (.sl a0.Conds.length (encL a0.Conds)) := lkc hb
 have hb4 : LenOk (.sl a0.Funcs.length (encL a0.Funcs)) := lkc hb
 have hb5 : LenOk (.sl a0.Threads.length (encL a0.Threads)) := lkc hb
 have hb6 : LenOk (.sl a2.length (encL a2)) := lkc hb
 refine at_code mixed Tryz.func14 (by kernel_rfl) rfl (by kernel_rfl) rfl fun Q hQ => ?_
 rw [checkpoint_Decode] at hs
 refine goR f0 ?_
 revert hs; refine bK fun y1 hx2 hs => ?_
 refine cP f0 (at_checkpoint_Digest hx2) ?_
 refine goR f0 ?_
 revert hs; refine cS f0 ?_ ?_ <;> intro h3 hs
 ·refine goR f0 ?_
  obtain rfl := sj hs
  exact hQ _ _ (rg f0 (Gh.unz _))
 ·refine goR f0 ?_
  revert hs; refine bK fun y4 hx5 hs => ?_
  refine cP f0 (at_frame_Open hx5) ?_
  refine goR f0 ?_
  revert hs; refine cS f0 ?_ ?_ <;> intro h6 hs
  ·refine goR f0 ?_
   obtain rfl := sj hs
   exact hQ _ _ (rg f0 (Gh.unz _))
  ·refine goR f0 ?_
   revert hs; refine cS f0 ?_ ?_ <;> intro h7 hs
   ·refine goR f0 ?_
    obtain rfl := sj hs
    exact hQ _ _ (rg f0 (Gh.unz _))
   ·refine goN f0 ?_
    refine awp_reg ?_
    refine goN f0 ?_
    refine awp_gh (by rfl) ((Gh.voidB _ (.l 1) (.o 7 3 0) 3 4 rfl (by simp; rfl) (by first | rfl | simp) (by simp)).trans (Gh.close _ (.o 7 3 0) 3)) ?_
    try simp only [St.frz, St.pur]
    refine goR f0 ?_
    revert hs; refine bK fun y8 hx9 hs => ?_
    refine cB f0 (at_checkpoint_rest_uint_CheckpointDecoder hx9) [.o 7 3 0] ?_
    refine goR f0 ?_
    revert hs; refine cS f0 ?_ ?_ <;> intro h10 hs
    ·refine goD f0 ?_
     obtain rfl := sj hs
     exact hQ _ _ (rg f0 (Gh.unz _))
    ·refine goR f0 ?_
     revert hs; refine cS f0 ?_ ?_ <;> intro h11 hs
     ·refine goR f0 ?_
      obtain rfl := sj hs
      exact hQ _ _ (rg f0 (Gh.unz _))
     ·refine goR f0 ?_
      revert hs; refine bK fun y12 hx13 hs => ?_
      refine cB f0 (at_checkpoint_decoder_snapshot hx13) [.o 7 3 0] ?_
      refine goR f0 ?_
      revert hs; refine cS f0 ?_ ?_ <;> intro h14 hs
      ·refine goD f0 ?_
       obtain rfl := sj hs
       exact hQ _ _ (rg f0 (Gh.unz _))
      ·refine goG f0 f0 ?_
       refine gsel_split (fun h15 => ?_) (fun h15 => ?_)
       ·replace hs := condT h15 hs
        simp only [Bool.not_eq_true', Bool.not_eq_false', Bool.not_not] at h15
        refine goG h15 h15 ?_
        revert hs; refine bK fun y16 hx17 hs => ?_
        refine cA h15 (at_checkpoint_Valid hx17) ?_
        refine goG h15 h15 ?_
        revert hs; refine cS h15 ?_ ?_ <;> intro h18 hs
        ·refine goG h15 h15 ?_
         obtain rfl := sj hs
         exact hQ _ _ (rg h15 (Gh.unz _))
        ·refine goG h15 h15 ?_
         obtain rfl := sj hs
         exact hQ _ _ (rg h15 (Gh.frz _ (.o 13 18 3)))
       ·replace hs := condF h15 hs
        simp only [Bool.not_eq_true', Bool.not_eq_false', Bool.not_not] at h15
        refine goG h15 h15 ?_
        obtain rfl := sj hs
        exact hQ _ _ (rg h15 (Gh.unz _))
end Go.Dc
end
section
set_option linter.all false
namespace Go.Dc
open Go Go.Hw Go.Proofs
set_option maxRecDepth 100000
def r02_Ints_L1 (a1 : List Int) : List Int -> Nat -> Option (Unit ⊕ Bool)
 | [], k76 => some (.inl ())
 | x102 :: q98, k76 => Option.bind (a1[k76]?) (fun x109 => cond (!(eqI x102 x109)) (some (.inr false)) (r02_Ints_L1 a1 q98 (k76 + 1)))
def r02_Ints (a0 : List Int) (a1 : List Int) : Option Bool :=
 cond (!(eqI ((a0.length : Nat) : Int) ((a1.length : Nat) : Int))) (some false) (Option.bind (α := Unit ⊕ Bool) (Option.bind (r02_Ints_L1 a1 a0 0) (fun o => match o with | .inl _ => some (.inl ()) | .inr r113 => some (.inr r113))) (fun o => match o with | .inl _ => some true | .inr r114 => some r114))
set_option maxHeartbeats 2000000 in
theorem at_r02_Ints {a0 : List Int} {a1 : List Int} {r : Bool} (hs : r02_Ints a0 a1 = some r) : At Tryz.prog 42 [.cell (sC a0), .cell (sC a1)] (bV r) := by
 refine at_bound (by kernel_rfl) fun hb => ?_
 have hb1 : LenOk (.sl a0.length (encL a0)) := lkc hb
 have hb2 : LenOk (.sl a1.length (encL a1)) := lkc hb
 refine at_code mixed Tryz.func42 (by kernel_rfl) rfl (by kernel_rfl) rfl fun Q hQ => ?_
 rw [r02_Ints] at hs
 refine goR f0 ?_
 revert hs; refine cS f0 ?_ ?_ <;> intro h1 hs
 ·refine goR f0 ?_
  obtain rfl := sj hs
  exact hQ _ _ (rg f0 (Gh.refl _))
 ·refine goR2 f0 ?_
  revert hs; refine bK fun o57 e56 hs => ?_
  refine awp_cutK (fun (v : Unit) (σ : St) => some (.inl v) = some o57 /\ 3 <= σ.gen) (by rfl) (fun Q hK58 hX59 => ?_) (fun v σ3 hp => ?_)
  ·refine goR f0 ?_
   revert e56; refine bK fun o93 e92 e56 => ?_
   refine awp_loopW (fun (v : (List Int) × Nat) (σ : St) => r02_Ints_L1 a1 v.1 v.2 = some o93 /\ v.1 = a0.drop v.2 /\ σ.env 0 = .cell (sC a0) /\ σ.env 1 = .cell (sC a1) /\ σ.env 5 = iV .i64 ((v.2 : Nat) : Int) /\ 3 <= σ.gen) (fun v => v.1.length) _ (Gh.refl _) (a0, 0) ⟨e92, by simp, pv f0, pv f0, pv f0, pg⟩ fun v σ6 hp L94 hL95 => ?_
   obtain ⟨q97, k76⟩ := v
   dsimp only at hp hL95
   obtain ⟨e92, hd96, h5_0, h5_1, h5_5, n5_g⟩ := hp
   rcases q97 with _ | ⟨x102, q98⟩
   ·have hlt99 := drop_end hd96
    rw [r02_Ints_L1] at e92; try dsimp only at e92
    have F1 := an h5_0 (an h5_1 h5_5)
    refine goR F1 ?_
    refine condK_f (by simp [ltI]; omega) ?_
    obtain rfl := sj e92
    try dsimp only at e56
    exact hK58 () _ _ (Gh.refl _) ⟨e56, pg⟩
   ·obtain ⟨hx101, hlt99, hd103⟩ := drop_next hd96
    have ew100 := wrap_succ hlt99 (hb1).len
    rw [r02_Ints_L1] at e92; try dsimp only at e92
    have F2 := an h5_0 (an h5_1 (an h5_5 (an hlt99 ew100)))
    refine goR F2 ?_
    refine condK_t (by simp [ltI]; omega) ?_
    have f108 : partCV Tryz.prog 3 (encL a0) (k76) = some (iV .i64 x102) := partCV_enc1 hx101 (by simp)
    revert e92; refine bK fun x109 hx110 e92 => ?_
    have hx110b := getN_some hx110
    have f111 : partCV Tryz.prog 3 (encL a1) (k76) = some (iV .i64 x109) := partCV_enc1 hx110 (by simp)
    have F3 := an F2 (an f108 f111)
    refine goD F3 ?_
    revert e92; refine cS F3 ?_ ?_ <;> intro h112 e92
    ·refine goD F3 ?_
     obtain rfl := sj e92
     try dsimp only at e56
     obtain rfl := sj e56
     try dsimp only at hs
     refine hX59 _ _ (by simp) ?_
     refine goD F3 ?_
     obtain rfl := sj hs
     exact hQ _ _ (rg F3 (Gh.refl _))
    ·refine goD F3 ?_
     exact hL95 (q98, (k76 + 1)) _ _ (Gh.refl _) ⟨e92, hd103, pv F3, pv F3, pv F3, pg⟩ (by simp)
  ·obtain ⟨e56, n4_g⟩ := hp
   obtain rfl := sj e56
   try dsimp only at hs
   refine goR f0 ?_
   obtain rfl := sj hs
   exact hQ _ _ (rg f0 (Gh.refl _))
end Go.Dc
end
section
set_option linter.all false
namespace Go.Dc
open Go Go.Hw Go.Proofs
set_option maxRecDepth 100000
def r33_Equal_L1 (a1 : Tree) (rF43z : Tree -> Tree -> Option Bool) : List Tree -> Nat -> Option (Unit ⊕ Bool)
 | [], k92 => some (.inl ())
 | x122 :: q118, k92 => Option.bind (a1.Kids[k92]?) (fun x131 => Option.bind (rF43z x122 x131) (fun y134 => cond (!y134) (some (.inr false)) (r33_Equal_L1 a1 rF43z q118 (k92 + 1))))
def r33_Equal_B (rF43z : Tree -> Tree -> Option Bool) (a0 : Tree) (a1 : Tree) : Option Bool :=
 cond (orB (!(eqI a0.Agent a1.Agent)) (!(eqI ((a0.Kids.length : Nat) : Int) ((a1.Kids.length : Nat) : Int)))) (some false) (Option.bind (α := Unit ⊕ Bool) (Option.bind (r33_Equal_L1 a1 rF43z a0.Kids 0) (fun o => match o with | .inl _ => some (.inl ()) | .inr r137 => some (.inr r137))) (fun o => match o with | .inl _ => some true | .inr r138 => some r138))
def r33_Equal : Nat -> Tree -> Tree -> Option Bool
 | 0 => fun _ _ => none
 | fuelN + 1 => fun a0 a1 => r33_Equal_B (r33_Equal fuelN) a0 a1
set_option maxHeartbeats 2000000 in
theorem at_r33_Equal_B {rF43z : Tree -> Tree -> Option Bool} (ihrF43z : ∀ (a0 : Tree) (a1 : Tree) (r : Bool), rF43z a0 a1 = some r -> At Tryz.prog 43 [.agg (eA a0), .agg (eA a1)] (bV r)) {a0 : Tree} {a1 : Tree} {r : Bool} (hs : r33_Equal_B rF43z a0 a1 = some r) : At Tryz.prog 43 [.agg (eA a0), .agg (eA a1)] (bV r) := by
 refine at_bound (by kernel_rfl) fun hb => ?_
 have hb1 : LenOk (.sl a0.Kids.length (encL a0.Kids)) := lkc hb
 have hb2 : LenOk (.sl a1.Kids.length (encL a1.Kids)) := lkc hb
 refine at_code mixed Tryz.func43 (by kernel_rfl) rfl (by kernel_rfl) rfl fun Q hQ => ?_
 rw [r33_Equal_B] at hs
 refine goG f0 f0 ?_
 revert hs; refine cS f0 ?_ ?_ <;> intro h1 hs
 ·refine goG f0 f0 ?_
  obtain rfl := sj hs
  exact hQ _ _ (rg f0 (Gh.refl _))
 ·refine goG2 f0 f0 ?_
  revert hs; refine bK fun o69 e68 hs => ?_
  refine awp_cutK (fun (v : Unit) (σ : St) => some (.inl v) = some o69 /\ 3 <= σ.gen) (by rfl) (fun Q hK70 hX71 => ?_) (fun v σ3 hp => ?_)
  ·refine goG f0 f0 ?_
   revert e68; refine bK fun o113 e112 e68 => ?_
   refine awp_loopW (fun (v : (List Tree) × Nat) (σ : St) => r33_Equal_L1 a1 rF43z v.1 v.2 = some o113 /\ v.1 = a0.Kids.drop v.2 /\ σ.env 2 = .cell (.ref (.o 1 0 0) 0) /\ σ.env 3 = .cell (.ref (.o 1 1 0) 0) /\ σ.env 5 = iV .i64 ((v.2 : Nat) : Int) /\ σ.hp (.o 1 0 0) = some (.cells (eA a0)) /\ σ.hp (.o 1 1 0) = some (.cells (eA a1)) /\ 3 <= σ.gen) (fun v => v.1.length) _ (Gh.refl _) (a0.Kids, 0) ⟨e112, by simp, pv f0, pv f0, pv f0, pv f0, pv f0, pg⟩ fun v σ6 hp L114 hL115 => ?_
   obtain ⟨q117, k92⟩ := v
   dsimp only at hp hL115
   obtain ⟨e112, hd116, h5_2, h5_3, h5_5, g5_0, g5_1, n5_g⟩ := hp
   have n5_0 : ¬ (σ6.gen = 0) := by omega
   rcases q117 with _ | ⟨x122, q118⟩
   ·have hlt119 := drop_end hd116
    rw [r33_Equal_L1] at e112; try dsimp only at e112
    have F1 := an h5_2 (an h5_3 (an h5_5 (an g5_0 (an g5_1 n5_0))))
    refine goR F1 ?_
    refine condK_f (by simp [ltI]; omega) ?_
    obtain rfl := sj e112
    try dsimp only at e68
    exact hK70 () _ _ (Gh.refl _) ⟨e68, pg⟩
   ·obtain ⟨hx121, hlt119, hd123⟩ := drop_next hd116
    have ew120 := wrap_succ hlt119 (hb1).len
    rw [r33_Equal_L1] at e112; try dsimp only at e112
    have F2 := an h5_2 (an h5_3 (an h5_5 (an g5_0 (an g5_1 (an n5_0 (an hlt119 ew120))))))
    refine goR F2 ?_
    refine condK_t (by simp [ltI]; omega) ?_
    have f130 : partCV Tryz.prog 57 (encL a0.Kids) (k92 * 2) = some (.agg (eA x122)) := partCV_enc hx121 (f := 0) (by simp)
    revert e112; refine bK fun x131 hx132 e112 => ?_
    have hx132b := getN_some hx132
    have f133 : partCV Tryz.prog 57 (encL a1.Kids) (k92 * 2) = some (.agg (eA x131)) := partCV_enc hx132 (f := 0) (by simp)
    have F3 := an F2 (an f130 f133)
    refine goD F3 ?_
    revert e112; refine bK fun y134 hx135 e112 => ?_
    refine cP F3 (ihrF43z _ _ _ hx135) ?_
    refine goD F3 ?_
    revert e112; refine cS F3 ?_ ?_ <;> intro h136 e112
    ·refine goD F3 ?_
     obtain rfl := sj e112
     try dsimp only at e68
     obtain rfl := sj e68
     try dsimp only at hs
     refine hX71 _ _ (by simp) ?_
     refine goD F3 ?_
     obtain rfl := sj hs
     exact hQ _ _ (rg F3 (Gh.refl _))
    ·refine goD F3 ?_
     exact hL115 (q118, (k92 + 1)) _ _ (Gh.refl _) ⟨e112, hd123, pv F3, pv F3, pv F3, pv F3, pv F3, pg⟩ (by simp)
  ·obtain ⟨e68, n4_g⟩ := hp
   obtain rfl := sj e68
   try dsimp only at hs
   refine goG f0 f0 ?_
   obtain rfl := sj hs
   exact hQ _ _ (rg f0 (Gh.refl _))
theorem at_r33_Equal : ∀ {fuelN : Nat} {a0 : Tree} {a1 : Tree} {r : Bool} (hs : r33_Equal fuelN a0 a1 = some r), At Tryz.prog 43 [.agg (eA a0), .agg (eA a1)] (bV r)
 | 0, _, _, _, hs => by rw [r33_Equal] at hs; cases hs
 | n + 1, _, _, _, hs => by
  rw [r33_Equal] at hs
  exact at_r33_Equal_B (fun _ _ _ h => at_r33_Equal h) hs
end Go.Dc
end
section
set_option linter.all false
namespace Go.Dc
open Go Go.Hw Go.Proofs
set_option maxRecDepth 100000
def r49_Same_L1 (fuelN : Nat) (a1 : Snapshot) : List Frame -> Nat -> Option (Unit ⊕ Bool)
 | [], k124 => some (.inl ())
 | x162 :: q158, k124 => Option.bind (a1.Frames[k124]?) (fun x175 => guardO (orB (!(eqI x162.Agent x175.Agent)) ((r02_Ints x162.Sleep x175.Sleep).isSome)) (guardO (orB (!(!(orB (!(eqI x162.Agent x175.Agent)) (!((r02_Ints x162.Sleep x175.Sleep).getD default))))) ((r33_Equal fuelN x162.Tree x175.Tree).isSome)) (cond (orB (orB (!(eqI x162.Agent x175.Agent)) (!((r02_Ints x162.Sleep x175.Sleep).getD default))) (!((r33_Equal fuelN x162.Tree x175.Tree).getD default))) (some (.inr false)) (r49_Same_L1 fuelN a1 q158 (k124 + 1)))))
def r49_Same (fuelN : Nat) (a0 : Snapshot) (a1 : Snapshot) : Option Bool :=
 cond (orB (orB (orB (!(eqB a0.Done a1.Done)) (!(eqI a0.Count a1.Count))) (!(eqI a0.Blocked a1.Blocked))) (!(eqI ((a0.Frames.length : Nat) : Int) ((a1.Frames.length : Nat) : Int)))) (some false) (Option.bind (α := Unit ⊕ Bool) (Option.bind (r49_Same_L1 fuelN a1 a0.Frames 0) (fun o => match o with | .inl _ => some (.inl ()) | .inr r185 => some (.inr r185))) (fun o => match o with | .inl _ => some true | .inr r186 => some r186))
set_option maxHeartbeats 2000000 in
theorem at_r49_Same {fuelN : Nat} {a0 : Snapshot} {a1 : Snapshot} {r : Bool} (hs : r49_Same fuelN a0 a1 = some r) : At Tryz.prog 16 [.agg (eA a0), .agg (eA a1)] (bV r) := by
 refine at_bound (by kernel_rfl) fun hb => ?_
 have hb1 : LenOk (.sl a0.Frames.length (encL a0.Frames)) := lkc hb
 have hb2 : LenOk (.sl a1.Frames.length (encL a1.Frames)) := lkc hb
 refine at_code mixed Tryz.func16 (by kernel_rfl) rfl (by kernel_rfl) rfl fun Q hQ => ?_
 rw [r49_Same] at hs
 refine goG f0 f0 ?_
 revert hs; refine cS f0 ?_ ?_ <;> intro h1 hs
 ·refine goG f0 f0 ?_
  obtain rfl := sj hs
  exact hQ _ _ (rg f0 (Gh.refl _))
 ·refine goG2 f0 f0 ?_
  revert hs; refine bK fun o93 e92 hs => ?_
  refine awp_cutK (fun (v : Unit) (σ : St) => some (.inl v) = some o93 /\ 3 <= σ.gen) (by rfl) (fun Q hK94 hX95 => ?_) (fun v σ3 hp => ?_)
  ·refine goG f0 f0 ?_
   revert e92; refine bK fun o153 e152 e92 => ?_
   refine awp_loopW (fun (v : (List Frame) × Nat) (σ : St) => r49_Same_L1 fuelN a1 v.1 v.2 = some o153 /\ v.1 = a0.Frames.drop v.2 /\ σ.env 2 = .cell (.ref (.o 1 0 0) 0) /\ σ.env 3 = .cell (.ref (.o 1 1 0) 0) /\ σ.env 5 = iV .i64 ((v.2 : Nat) : Int) /\ σ.hp (.o 1 0 0) = some (.cells (eA a0)) /\ σ.hp (.o 1 1 0) = some (.cells (eA a1)) /\ 3 <= σ.gen) (fun v => v.1.length) _ (Gh.refl _) (a0.Frames, 0) ⟨e152, by simp, pv f0, pv f0, pv f0, pv f0, pv f0, pg⟩ fun v σ6 hp L154 hL155 => ?_
   obtain ⟨q157, k124⟩ := v
   dsimp only at hp hL155
   obtain ⟨e152, hd156, h5_2, h5_3, h5_5, g5_0, g5_1, n5_g⟩ := hp
   have n5_0 : ¬ (σ6.gen = 0) := by omega
   rcases q157 with _ | ⟨x162, q158⟩
   ·have hlt159 := drop_end hd156
    rw [r49_Same_L1] at e152; try dsimp only at e152
    have F1 := an h5_2 (an h5_3 (an h5_5 (an g5_0 (an g5_1 n5_0))))
    refine goR F1 ?_
    refine condK_f (by simp [ltI]; omega) ?_
    obtain rfl := sj e152
    try dsimp only at e92
    exact hK94 () _ _ (Gh.refl _) ⟨e92, pg⟩
   ·obtain ⟨hx161, hlt159, hd163⟩ := drop_next hd156
    have ew160 := wrap_succ hlt159 (hb1).len
    rw [r49_Same_L1] at e152; try dsimp only at e152
    have F2 := an h5_2 (an h5_3 (an h5_5 (an g5_0 (an g5_1 (an n5_0 (an hlt159 ew160))))))
    refine goR F2 ?_
    refine condK_t (by simp [ltI]; omega) ?_
    have f174 : partCV Tryz.prog 3 (encL a0.Frames) (k124 * 4) = some (iV .i64 x162.Agent) := partCV_enc hx161 (f := 0) (by simp)
    revert e152; refine bK fun x175 hx176 e152 => ?_
    have hx176b := getN_some hx176
    have f177 : partCV Tryz.prog 3 (encL a1.Frames) (k124 * 4) = some (iV .i64 x175.Agent) := partCV_enc hx176 (f := 0) (by simp)
    have f178 : partCV Tryz.prog 54 (encL a0.Frames) (k124 * 4 + 1) = some (.cell (sC x162.Sleep)) := partCV_enc hx161 (f := 1) (by simp)
    have f179 : partCV Tryz.prog 54 (encL a1.Frames) (k124 * 4 + 1) = some (.cell (sC x175.Sleep)) := partCV_enc hx176 (f := 1) (by simp)
    have F3 := an F2 (an f174 (an f177 (an f178 f179)))
    have F4 := an F3 hx176b
    refine goE F3 F4 ?_
    obtain ⟨g180, e152⟩ := guardO_some e152
    refine dsel_call (fun hg => at_r02_Ints (under_call g180 hg)) (fun hg => by (try simp at hg); (first | simp [hg, F3]); try rfl) (fun hg => by (try simp at hg); simp [hg, F3]) (by simp) ?_
    have f181 : partCV Tryz.prog 57 (encL a0.Frames) (k124 * 4 + 2) = some (.agg (eA x162.Tree)) := partCV_enc hx161 (f := 2) (by simp)
    have f182 : partCV Tryz.prog 57 (encL a1.Frames) (k124 * 4 + 2) = some (.agg (eA x175.Tree)) := partCV_enc hx176 (f := 2) (by simp)
    have F5 := an F3 (an f181 f182)
    have F6 := an F5 hx176b
    refine goE F5 F6 ?_
    obtain ⟨g183, e152⟩ := guardO_some e152
    refine dsel_call (fun hg => at_r33_Equal (under_call g183 hg)) (fun hg => by (try simp at hg); (first | simp [hg, F5]); try rfl) (fun hg => by (try simp at hg); simp [hg, F5]) (by simp) ?_
    refine goE F5 F6 ?_
    revert e152; refine cS F5 ?_ ?_ <;> intro h184 e152
    ·refine goE F5 F6 ?_
     obtain rfl := sj e152
     try dsimp only at e92
     obtain rfl := sj e92
     try dsimp only at hs
     refine hX95 _ _ (by simp) ?_
     refine goE F5 F6 ?_
     obtain rfl := sj hs
     exact hQ _ _ (rg F5 (Gh.refl _))
    ·refine goE F5 F6 ?_
     exact hL155 (q158, (k124 + 1)) _ _ (Gh.refl _) ⟨e152, hd163, pv F5, pv F5, pv F5, pv F5, pv F5, pg⟩ (by simp)
  ·obtain ⟨e92, n4_g⟩ := hp
   obtain rfl := sj e92
   try dsimp only at hs
   refine goG f0 f0 ?_
   obtain rfl := sj hs
   exact hQ _ _ (rg f0 (Gh.refl _))
end Go.Dc
end
section
set_option linter.all false
namespace Go.Dc
open Go Go.Hw Go.Proofs
set_option maxRecDepth 100000
def law49_one (a0 : Int) : Option Program :=
 Option.bind (some ([({ Name := (⟨#[120]⟩ : ByteArray), Init := 0 } : Var)])) (fun l1 => Option.bind (some ([({ Op := 9, A := 0, B := 0, C := 0, Obj := 0, N := 0, Fn := 0, Order := 0 } : Inst)])) (fun l3 => Option.bind (some ([({ Name := (⟨#[102]⟩ : ByteArray), Code := l3 } : Func)])) (fun l5 => Option.bind (some ([({ Func := 0, Arg := a0 } : Start)])) (fun l7 => some ({ Vars := l1, Mutexes := [], Conds := [], Funcs := l5, Threads := l7 } : Program)))))
set_option maxHeartbeats 2000000 in
theorem at_law49_one {a0 : Int} {r : Program} (hs : law49_one a0 = some r) : At Tryz.prog 23 [iV .i64 a0] (.agg (eA r)) := by
 refine at_bound (by kernel_rfl) fun hb => ?_
 refine at_code mixed Tryz.func23 (by kernel_rfl) rfl (by kernel_rfl) rfl fun Q hQ => ?_
 rw [law49_one] at hs
 revert hs; refine lK fun l1 hx2 hs => ?_
 have hx2n : l1.length = 1 := by rw [hx2]; rfl
 revert hs; refine lK fun l3 hx4 hs => ?_
 have hx4n : l3.length = 1 := by rw [hx4]; rfl
 revert hs; refine lK fun l5 hx6 hs => ?_
 have hx6n : l5.length = 1 := by rw [hx6]; rfl
 revert hs; refine lK fun l7 hx8 hs => ?_
 have hx8n : l7.length = 1 := by rw [hx8]; rfl
 have F1 := an hx2 (an hx4 (an hx6 hx8))
 refine goR F1 ?_
 obtain rfl := sj hs
 exact hQ _ _ (rg F1 ((Gh.frz _ (.o 2 3 0)).trans ((Gh.pur _ (.o 2 5 0)).trans ((Gh.frz _ (.o 2 1 0)).trans ((Gh.frz _ (.o 2 5 0)).trans ((Gh.frz _ (.o 2 8 0)).trans (Gh.unz _)))))))
end Go.Dc
end
section
set_option linter.all false
namespace Go.Dc
open Go Go.Hw Go.Proofs
set_option maxRecDepth 100000
def law49_awake (fuelN : Nat)  : Option Bool :=
 Option.bind (law49_one 1) (fun y5 => Option.bind (checkpoint_Digest fuelN y5 ({ Model := 1, Bound := 4 } : Config)) (fun y7 => Option.bind (law49_one 1) (fun y13 => Option.bind (checkpoint_Encode fuelN y13 ({ Model := 1, Bound := 4 } : Config) ({ Frames := [], Done := false, Count := 0, Blocked := 0 } : Snapshot)) (fun y15 => Option.bind (law49_one 1) (fun y21 => Option.bind (checkpoint_Decode fuelN y21 ({ Model := 1, Bound := 4 } : Config) y15.1) (fun y23 => Option.bind (law49_one 2) (fun y29 => Option.bind (checkpoint_Decode fuelN y29 ({ Model := 1, Bound := 4 } : Config) y15.1) (fun y31 => Option.bind (law49_one 1) (fun y37 => Option.bind (checkpoint_Encode fuelN y37 ({ Model := 1, Bound := 4 } : Config) ({ Frames := [], Done := false, Count := (-1), Blocked := 0 } : Snapshot)) (fun y39 => Option.bind (frame_AppendUint fuelN [] y7.1) (fun y41 => Option.bind (some ([0, 0, 0, 0])) (fun l43 => guardO (limB 1 (y41.length + l43.length)) (Option.bind (some (y41 ++ l43)) (fun l46 => cond (andB (andB (andB (andB (eqI y7.2 0) (eqI y15.2 0)) (eqI y23.2 0)) (eqI y31.2 30)) (eqI y39.2 1)) (Option.bind (frame_Seal fuelN l46) (fun y50 => Option.bind (law49_bytes y15.1 y50) (fun y52 => guardO (orB (!y52) ((r49_Same fuelN y23.1 ({ Frames := [], Done := false, Count := 0, Blocked := 0 } : Snapshot)).isSome)) (guardO (orB (!(andB y52 ((r49_Same fuelN y23.1 ({ Frames := [], Done := false, Count := 0, Blocked := 0 } : Snapshot)).getD default))) ((checkpoint_Valid fuelN y23.1).isSome)) (guardO (orB (!(andB (andB y52 ((r49_Same fuelN y23.1 ({ Frames := [], Done := false, Count := 0, Blocked := 0 } : Snapshot)).getD default)) ((checkpoint_Valid fuelN y23.1).getD default))) ((checkpoint_Valid fuelN ({ Frames := [], Done := false, Count := 0, Blocked := (-1) } : Snapshot)).isSome)) (some (andB (andB (andB y52 ((r49_Same fuelN y23.1 ({ Frames := [], Done := false, Count := 0, Blocked := 0 } : Snapshot)).getD default)) ((checkpoint_Valid fuelN y23.1).getD default)) (!((checkpoint_Valid fuelN ({ Frames := [], Done := false, Count := 0, Blocked := (-1) } : Snapshot)).getD default))))))))) (some false)))))))))))))))
set_option maxHeartbeats 2000000 in
theorem at_law49_awake {fuelN : Nat}  {r : Bool} (hs : law49_awake fuelN = some r) : At Tryz.prog 8 [] (bV r) := by
 refine at_bound (by kernel_rfl) fun hb => ?_
 refine at_code mixed Tryz.func8 (by kernel_rfl) rfl (by kernel_rfl) rfl fun Q hQ => ?_
 rw [law49_awake] at hs
 refine goD f0 ?_
 revert hs; refine bK fun y5 hx6 hs => ?_
 refine cP f0 (at_law49_one hx6) ?_
 refine goD f0 ?_
 revert hs; refine bK fun y7 hx8 hs => ?_
 refine cP f0 (at_checkpoint_Digest hx8) ?_
 refine goD f0 ?_
 revert hs; refine bK fun y13 hx14 hs => ?_
 refine cP f0 (at_law49_one hx14) ?_
 refine goD f0 ?_
 revert hs; refine bK fun y15 hx16 hs => ?_
 refine cP f0 (at_unz (args := [.agg (eA y13), .agg [nC 1, nC 4], .agg [.z, bC false, nC 0, nC 0]]) (by simp) (at_checkpoint_Encode hx16)) ?_
 refine goD f0 ?_
 revert hs; refine bK fun y21 hx22 hs => ?_
 refine cP f0 (at_law49_one hx22) ?_
 refine goD f0 ?_
 revert hs; refine bK fun y23 hx24 hs => ?_
 refine cP f0 (at_checkpoint_Decode hx24) ?_
 refine goD f0 ?_
 revert hs; refine bK fun y29 hx30 hs => ?_
 refine cP f0 (at_law49_one hx30) ?_
 refine goD f0 ?_
 revert hs; refine bK fun y31 hx32 hs => ?_
 refine cP f0 (at_checkpoint_Decode hx32) ?_
 refine goD f0 ?_
 revert hs; refine bK fun y37 hx38 hs => ?_
 refine cP f0 (at_law49_one hx38) ?_
 refine goD f0 ?_
 revert hs; refine bK fun y39 hx40 hs => ?_
 refine cP f0 (at_unz (args := [.agg (eA y37), .agg [nC 1, nC 4], .agg [.z, bC false, nC (-1), nC 0]]) (by simp) (at_checkpoint_Encode hx40)) ?_
 refine goD f0 ?_
 revert hs; refine bK fun y41 hx42 hs => ?_
 refine cA f0 (at_unz (args := [.cell (.z), iV .i64 y7.1]) (by simp) (at_frame_AppendUint hx42)) ?_
 revert hs; refine lK fun l43 hx44 hs => ?_
 have hx44n : l43.length = 4 := by rw [hx44]; rfl
 obtain ⟨g45, hs⟩ := guardO_some hs
 have g45 := limB_t g45
 obtain ⟨g45a, g45b⟩ := g45
 revert hs; refine lK fun l46 hx47 hs => ?_
 have hx47n : l46.length = (y41.length + l43.length) := by rw [hx47]; simp
 have hx47e : encL l46 = encL y41 ++ encL l43 := by rw [hx47]; simp
 have F1 := an hx44 (an hx47n hx47e)
 refine goE F1 F1 ?_
 refine gsel_split (fun h48 => ?_) (fun h48 => ?_)
 ·replace hs := condT h48 hs
  have f49 : (encL l46).take (l46.length) = encL l46 := encL_take1 _ (by simp)
  have F2 := an F1 h48
  try simp [F2] at f49
  have f49l : l46.length * 1 <= (encL l46).length := by rw [encL_length]; simp
  try simp [F2] at f49l
  have F3 := an F2 (an f49 f49l)
  refine goE F3 F3 ?_
  revert hs; refine bK fun y50 hx51 hs => ?_
  refine cA F3 (at_frame_Seal hx51) ?_
  refine goE F3 F3 ?_
  revert hs; refine bK fun y52 hx53 hs => ?_
  refine cP F3 (at_law49_bytes hx53) ?_
  refine goE F3 F3 ?_
  obtain ⟨g54, hs⟩ := guardO_some hs
  refine gsel_call (fun hg => at_unz (args := [.agg (eA y23.1), .agg [.z, bC false, nC 0, nC 0]]) (by simp) (at_r49_Same (under_call g54 hg))) (fun hg => by (try simp at hg); (first | simp [hg, F3]); try rfl) (fun hg => by (try simp at hg); simp [hg, F3]) (by simp) ?_
  refine goE F3 F3 ?_
  obtain ⟨g55, hs⟩ := guardO_some hs
  refine gsel_call (fun hg => at_checkpoint_Valid (under_call g55 hg)) (fun hg => by (try simp at hg); (first | simp [hg, F3]); try rfl) (fun hg => by (try simp at hg); simp [hg, F3]) (by simp) ?_
  refine goE F3 F3 ?_
  obtain ⟨g56, hs⟩ := guardO_some hs
  refine gsel_call (fun hg => at_unz (args := [.agg [.z, bC false, nC 0, nC (-1)]]) (by simp) (at_checkpoint_Valid (under_call g56 hg))) (fun hg => by (try simp at hg); (first | simp [hg, F3]); try rfl) (fun hg => by (try simp at hg); simp [hg, F3]) (by simp) ?_
  refine goE F3 F3 ?_
  obtain rfl := sj hs
  exact hQ _ _ (rg F3 (Gh.refl _))
 ·replace hs := condF h48 hs
  have F4 := an F1 h48
  refine goE F4 F4 ?_
  obtain rfl := sj hs
  exact hQ _ _ (rg F4 (Gh.refl _))
end Go.Dc
end
section
set_option linter.all false
namespace Go.Dc
open Go Go.Hw Go.Proofs
set_option maxRecDepth 100000
def law49_CheckpointEncode (fuelN : Nat) (a0 : Program) (a1 : Config) (a2 : Snapshot) : Option Bool :=
 Option.bind (r26_Small fuelN a0 a1.Bound) (fun y1 => guardO (orB (!y1) ((r49_Few fuelN a2).isSome)) (cond (orB (!y1) (!((r49_Few fuelN a2).getD default))) (Option.bind (law49_awake fuelN) (fun y5 => some y5)) (Option.bind (checkpoint_Encode fuelN a0 a1 a2) (fun y7 => Option.bind (r49_Encode fuelN a0 a1 a2) (fun y9 => Option.bind (law49_awake fuelN) (fun y16 => guardO (orB (!y16) ((law49_bytes y7.1 y9.1).isSome)) (guardO (orB (!(andB (andB y16 ((law49_bytes y7.1 y9.1).getD default)) (eqI y7.2 y9.2))) ((checkpoint_Valid fuelN a2).isSome)) (guardO (orB (!(andB (andB y16 ((law49_bytes y7.1 y9.1).getD default)) (eqI y7.2 y9.2))) ((r49_Valid fuelN a2).isSome)) (some (andB (andB (andB y16 ((law49_bytes y7.1 y9.1).getD default)) (eqI y7.2 y9.2)) (eqB ((checkpoint_Valid fuelN a2).getD default) ((r49_Valid fuelN a2).getD default))))))))))))
set_option maxHeartbeats 2000000 in
theorem at_law49_CheckpointEncode {fuelN : Nat} {a0 : Program} {a1 : Config} {a2 : Snapshot} {r : Bool} (hs : law49_CheckpointEncode fuelN a0 a1 a2 = some r) : At Tryz.prog 3 [.agg (eA a0), .agg (eA a1), .agg (eA a2)] (bV r) := by
 refine at_bound (by kernel_rfl) fun hb => ?_
 have hb1 : LenOk (.sl a0.Vars.length (encL a0.Vars)) := lkc hb
 have hb2 : LenOk (.sl a0.Mutexes.length (encL a0.Mutexes)) := lkc hb
 have hb3 : LenOk (.sl a0.Conds.length (encL a0.Conds)) := lkc hb
 have hb4 : LenOk (.sl a0.Funcs.length (encL a0.Funcs)) := lkc hb
 have hb5 : LenOk (.sl a0.Threads.length (encL a0.Threads)) := lkc hb
 have hb6 : LenOk (.sl a2.Frames.length (encL a2.Frames)) := lkc hb
 refine at_code mixed Tryz.func3 (by kernel_rfl) rfl (by kernel_rfl) rfl fun Q hQ => ?_
 rw [law49_CheckpointEncode] at hs
 refine goR f0 ?_
 revert hs; refine bK fun y1 hx2 hs => ?_
 refine cP f0 (at_r26_Small hx2) ?_
 refine goG f0 f0 ?_
 obtain ⟨g3, hs⟩ := guardO_some hs
 refine gsel_call (fun hg => at_r49_Few (under_call g3 hg)) (fun hg => by (try simp at hg); (first | simp [hg, id]); try rfl) (fun hg => by (try simp at hg); simp [hg, id]) (by simp) ?_
 refine goG f0 f0 ?_
 revert hs; refine cS f0 ?_ ?_ <;> intro h4 hs
 ·refine goG f0 f0 ?_
  revert hs; refine bK fun y5 hx6 hs => ?_
  refine cP f0 (at_law49_awake hx6) ?_
  refine goG f0 f0 ?_
  obtain rfl := sj hs
  exact hQ _ _ (rg f0 (Gh.refl _))
 ·refine goG f0 f0 ?_
  revert hs; refine bK fun y7 hx8 hs => ?_
  refine cP f0 (at_checkpoint_Encode hx8) ?_
  refine goG f0 f0 ?_
  revert hs; refine bK fun y9 hx10 hs => ?_
  refine cP f0 (at_r49_Encode hx10) ?_
  refine goE f0 f0 ?_
  revert hs; refine bK fun y16 hx17 hs => ?_
  refine cP f0 (at_law49_awake hx17) ?_
  refine goE f0 f0 ?_
  obtain ⟨g18, hs⟩ := guardO_some hs
  refine dsel_call (fun hg => at_law49_bytes (under_call g18 hg)) (fun hg => by (try simp at hg); (first | simp [hg, id]); try rfl) (fun hg => by (try simp at hg); simp [hg, id]) (by simp) ?_
  refine goE f0 f0 ?_
  obtain ⟨g19, hs⟩ := guardO_some hs
  refine dsel_call (fun hg => at_checkpoint_Valid (under_call g19 hg)) (fun hg => by (try simp at hg); (first | simp [hg, id]); try rfl) (fun hg => by (try simp at hg); simp [hg, id]) (by simp) ?_
  refine goE f0 f0 ?_
  obtain ⟨g20, hs⟩ := guardO_some hs
  refine dsel_call (fun hg => at_r49_Valid (under_call g20 hg)) (fun hg => by (try simp at hg); (first | simp [hg, id]); try rfl) (fun hg => by (try simp at hg); simp [hg, id]) (by simp) ?_
  refine goE f0 f0 ?_
  obtain rfl := sj hs
  exact hQ _ _ (rg f0 (Gh.refl _))
end Go.Dc
end
section
set_option linter.all false
namespace Go.Dc.Pl
open Go Go.Hw Go.Dc
set_option maxRecDepth 100000
theorem ref_encT : ∀ (m f : Nat) (b : List UInt8) (t : Tree), shal m t.Kids = true -> m + 12 <= f -> b.length + 9 + 18 * nT m t.Kids <= 1000000000 -> t.Kids.length <= 1000000000 ->
  (∀ k, wid 1000000000 k t.Kids) -> r49_tree f b t = some (b ++ encT m t.Kids) /\ (encT m t.Kids).length <= 9 + 18 * nT m t.Kids := by
 intro m
 induction m with
 | zero =>
  intro f b t hs hf hb hk _
  obtain ⟨f, rfl⟩ : ∃ k, f = k + 1 := ⟨f - 1, by omega⟩
  simp only [shal, decide_eq_true_eq, List.length_eq_zero_iff] at hs
  refine ⟨?_, by rw [encT, hs]; exact uintB_le9 (by simp)⟩
  show r49_tree_B (r49_tree f) f b t = _
  unfold r49_tree_B
  rw [ref_appU (by omega) (by omega), hs]
  show some (appU b 0) = _
  rw [encT]; rfl
 | succ m ih =>
  intro f b t hs hf hb hk hw
  obtain ⟨f, rfl⟩ : ∃ k, f = k + 1 := ⟨f - 1, by omega⟩
  rw [shal, List.all_eq_true] at hs
  show r49_tree_B (r49_tree f) f b t = _ /\ _
  unfold r49_tree_B
  have e0 : appU b ((t.Kids.length : Nat) : Int) = b ++ uintB t.Kids.length := by unfold appU; rw [if_neg (by omega)]; simp
  have h9 := uintB_le9 (n := t.Kids.length) (by omega)
  rw [ref_appU (by omega) (by omega), Option.bind_some, e0]
  have hL : ∀ (l : List Tree) (c : List UInt8) (k : Nat), (∀ x ∈ l, agentOk x.Agent = true /\ shal m x.Kids = true /\ x.Kids.length <= 1000000000 /\ ∀ k, wid 1000000000 k x.Kids) -> c.length + 18 * (l.map fun k => 1 + nT m k.Kids).sum <= 1000000000 ->
    r49_tree_L1 f (r49_tree f) l c k = some (c ++ l.flatMap fun k => uintB (intCode k.Agent) ++ encT m k.Kids) /\ (l.flatMap fun k => uintB (intCode k.Agent) ++ encT m k.Kids).length <= 18 * (l.map fun k => 1 + nT m k.Kids).sum := by
   intro l
   induction l with
   | nil => intro c k _ _; simp [r49_tree_L1]
   | cons x l il =>
    intro c k hx hc
    obtain ⟨h1, h2, h3, h4⟩ := hx x (by simp)
    rw [List.map_cons, List.sum_cons] at hc ⊢
    have hi := intCode_le (agent_inR h1)
    have h9 := uintB_le9 hi
    have ea : appI c x.Agent = c ++ uintB (intCode x.Agent) := by unfold appI; rw [if_pos (agent_inR h1)]
    obtain ⟨e1, e2⟩ := ih f (c ++ uintB (intCode x.Agent)) x h2 (by omega) (by simp; omega) h3 h4
    obtain ⟨g1, g2⟩ := il (c ++ uintB (intCode x.Agent) ++ encT m x.Kids) (k + 1) (fun y hy => hx y (by simp [hy])) (by simp; omega)
    rw [r49_tree_L1, ref_appI (by omega) (by omega), Option.bind_some, ea, e1, Option.bind_some, g1]
    refine ⟨by simp, ?_⟩
    rw [List.flatMap_cons]; simp only [List.length_append] at *; omega
  have hkids : ∀ x ∈ t.Kids, agentOk x.Agent = true /\ shal m x.Kids = true /\ x.Kids.length <= 1000000000 /\ ∀ k, wid 1000000000 k x.Kids := fun x hx => by
   have := hs x hx
   rw [Bool.and_eq_true] at this
   refine ⟨this.1, this.2, ((hw 2).2 x hx).1, fun k => (hw (k + 1)).2 x hx⟩
  rw [nT] at hb ⊢
  obtain ⟨g1, g2⟩ := hL t.Kids (b ++ uintB t.Kids.length) 0 hkids (by simp; omega)
  rw [g1, encT]
  refine ⟨by simp, ?_⟩
  simp only [List.length_append] at *; omega
theorem ref_appInts {f : Nat} {b : List UInt8} {l : List Int} (hf : 9 <= f) (h : l.all inR = true) (hb : b.length + 9 + 9 * l.length <= 1000000000) : r06_AppendInts f b l = some (b ++ uintB l.length ++ encInts l) := by
 have h9 := uintB_le9 (n := l.length) (by omega)
 have h1 : ∀ (q : List Int) (k : Nat), q.all inR = true -> r06_AppendInts_L1 b q k = some (.inl ()) := by
  intro q
  induction q with
  | nil => intro k _; rfl
  | cons x q ih =>
   intro k hq
   simp only [List.all_cons, Bool.and_eq_true] at hq
   rw [r06_AppendInts_L1, ref_inR, Option.bind_some, hq.1, Bool.not_true, cond_false, ih _ hq.2]
 have hL : ∀ (q : List Int) (c : List UInt8) (k : Nat), q.all inR = true -> c.length + 9 * q.length <= 1000000000 -> r06_AppendInts_L2 f q c k = some (c ++ encInts q) := by
  intro q
  induction q with
  | nil => intro c k _ _; simp [r06_AppendInts_L2, encInts]
  | cons x q ih =>
   intro c k hq hc
   simp only [List.all_cons, Bool.and_eq_true] at hq
   have h1 := uintB_le9 (intCode_le hq.1)
   simp only [List.length_cons] at hc
   have ea : appI c x = c ++ uintB (intCode x) := by unfold appI; rw [if_pos hq.1]
   rw [r06_AppendInts_L2, ref_appI hf (by omega), Option.bind_some, ea, ih _ _ hq.2 (by simp; omega)]
   simp [encInts]
 have e0 : appU b ((l.length : Nat) : Int) = b ++ uintB l.length := by unfold appU; rw [if_neg (by omega)]; simp
 rw [r06_AppendInts, h1 l 0 h]
 simp only [Option.bind_some]
 rw [ref_appU hf (by omega)]
 simp only [Option.bind_some]
 rw [e0, hL l _ 0 h (by simp; omega)]; rfl
theorem ref_frames {f : Nat} (hf : 600 <= f) : ∀ (l : List Frame) (b : List UInt8) (k : Nat), (∀ g ∈ l, validF g = true /\ g.Tree.Kids.length <= 1000000000 /\ ∀ k, wid 1000000000 k g.Tree.Kids) -> b.length + 18 * (l.map nF).sum <= 1000000000 ->
  r49_Encode_L1 f l b k = some (b ++ l.flatMap encF) := by
 intro l
 induction l with
 | nil => intro b k _ _; simp [r49_Encode_L1]
 | cons x l ih =>
  intro b k hx hb
  obtain ⟨h1, h2, h3⟩ := hx x (by simp)
  obtain ⟨v1, v2, v3, v4, v5⟩ := validF_t h1
  rw [List.map_cons, List.sum_cons, nF] at hb
  have i9 := uintB_le9 (intCode_le (agent_inR v1))
  have s9 := uintB_le9 (n := x.Sleep.length) (by omega)
  have sl := encInts_length x.Sleep v3
  have ea : appI b x.Agent = b ++ uintB (intCode x.Agent) := by unfold appI; rw [if_pos (agent_inR v1)]
  have e2 := ref_appInts (f := f) (b := b ++ uintB (intCode x.Agent)) (by omega) v3 (by simp; omega)
  obtain ⟨t1, t2⟩ := ref_encT 512 f (b ++ uintB (intCode x.Agent) ++ uintB x.Sleep.length ++ encInts x.Sleep) x.Tree v4 (by omega) (by simp; omega) h2 h3
  have hF : (encF x).length <= 18 * nF x := by unfold encF nF; simp only [List.length_append]; omega
  have heq : b ++ uintB (intCode x.Agent) ++ uintB x.Sleep.length ++ encInts x.Sleep ++ encT 512 x.Tree.Kids = b ++ encF x := by unfold encF; simp
  have g1 := ih (b ++ encF x) (k + 1) (fun y hy => hx y (by simp [hy])) (by rw [List.length_append]; unfold nF at hF; omega)
  rw [r49_Encode_L1, ref_appI (by omega) (by omega), Option.bind_some, ea, e2, Option.bind_some, t1, Option.bind_some, heq, g1]
  simp
theorem ref_encode {f : Nat} {p : Program} {c : Config} {s : Snapshot} (hp : small p = true) (hw : ∀ g ∈ s.Frames, g.Tree.Kids.length <= 1000000000 /\ (∀ k, wid 1000000000 k g.Tree.Kids)) (hsl : ∀ g ∈ s.Frames, g.Sleep.length <= 1000000000000) (hn : nS s <= 3000000) (hf : 60000000 <= f) :
  r49_Encode f p c s = some (encodeB (digest p c) s) := by
 have hr := digest_range p c
 rw [r49_Encode, ref_digest (by omega) c hp, Option.bind_some, eqI_d, encodeB]
 by_cases h1 : (digest p c).2 = 0
 ·rw [decide_eq_true h1, Bool.not_true, cond_false, if_neg (fun h : (digest p c).2 ≠ 0 => h h1), ref_valid (by omega) hsl, Option.bind_some]
  cases hv : validS s with
  | false => rfl
  | true =>
   obtain ⟨c1, c2, c3, c4, c5, c6⟩ := validS_t hv
   have hpl := payB_len hr hv (fun g hg => ⟨(hw g hg).1, (hw g hg).2⟩) (by omega)
   rw [Bool.not_true, cond_false, if_neg (by simp)]
   have hk : (Option.bind (α := Nat) (cond s.Done (some 1) (some 0)) : (Nat -> Option (List UInt8 × Int)) -> _) = fun K => K (if s.Done then 1 else 0) := by cases s.Done <;> rfl
   rw [hk]
   simp only [Option.bind_some]
   have u : ∀ (b : List UInt8) (n : Int), 0 <= n -> n <= 4611686018427387904 -> appU b n = b ++ uintB n.toNat := fun b n h1 h2 => by unfold appU; rw [if_neg (by omega)]
   have a1 := uintB_le9 (n := (digest p c).1.toNat) (by omega)
   have a2 := uintB_le9 (n := if s.Done then 1 else 0) (by split <;> omega)
   have a3 := uintB_le9 (n := s.Count.toNat) (by omega)
   have a4 := uintB_le9 (n := s.Blocked.toNat) (by omega)
   have a5 := uintB_le9 (n := s.Frames.length) (by omega)
   rw [ref_appU (by omega) (by simp), u [] _ (by omega) (by omega)]
   simp only [Option.bind_some, List.nil_append]
   rw [ref_appU (by omega) (by omega), u _ _ (by split <;> omega) (by split <;> omega), Int.toNat_natCast]
   simp only [Option.bind_some]
   rw [ref_appU (by omega) (by simp only [List.length_append]; omega), u _ _ (by omega) (by omega)]
   simp only [Option.bind_some]
   rw [ref_appU (by omega) (by simp only [List.length_append]; omega), u _ _ (by omega) (by omega)]
   simp only [Option.bind_some]
   rw [ref_appU (by omega) (by simp only [List.length_append]; omega), u _ _ (by omega) (by omega), Int.toNat_natCast]
   simp only [Option.bind_some]
   rw [ref_frames (f := f) (by omega) s.Frames _ 0 (fun g hg => ⟨c6 g hg, (hw g hg).1, (hw g hg).2⟩) (by unfold nS at hn; simp only [List.length_append]; omega)]
   simp only [Option.bind_some]
   show Option.bind (r06_Seal f (payB (digest p c).1 s)) _ = _
   rw [ref_seal (by omega) (by omega)]; rfl
 ·rw [decide_eq_false h1, if_pos (show (digest p c).2 ≠ 0 from h1)]; rfl
theorem awake_e : law49_awake 67108864 = some true := by kernel_rfl
theorem law_encode (p : Program) (c : Config) (s : Snapshot) (hb : bkL (Enc.enc s) <= 1048576) : law49_CheckpointEncode 67108864 p c s = some true := by
 obtain ⟨b0, hb0, hs⟩ := small26 p c.Bound (f := 67108864) (by omega)
 have hfr := (nS_bk s).2.1
 obtain ⟨b1, hb1⟩ := few_ex (f := 67108864) (s := s) (by omega) (by omega)
 have hsl : ∀ g ∈ s.Frames, g.Sleep.length <= 1000000000000 := fun g hg => by
  have h1 := bkL_encL hg
  have h2 := frame_bk g
  have h3 : bkL (encL s.Frames) + 4 = bkL (Enc.enc s) := by rw [enc_Snapshot]; simp
  unfold nF at h2; omega
 rw [law49_CheckpointEncode, hb0, hb1, awake_e]
 simp only [Option.bind_some, Option.isSome_some, Option.getD_some, orB_t, guardO_t]
 cases b0 with
 | false => rfl
 | true =>
  have hp := hs rfl
  cases b1 with
  | false => rfl
  | true =>
   rw [encode_own hp hb, ref_encode hp (fun g hg => ⟨(snap_wid hb g hg).1, (snap_wid hb g hg).2.1⟩) hsl (by have := (nS_bk s).1; omega) (by omega), own_valid (B := 1048576) (by omega) (by omega) (fun g hg => (snap_wid hb g hg).2.2), ref_valid (by omega) hsl]
   simp [law49_bytes, eqI_d, andB_d, orB_d, eqS_data, eqB]
end Go.Dc.Pl
end
section
set_option linter.all false
namespace Go.Dc
open Go Go.Hw Go.Proofs
set_option maxRecDepth 100000
theorem dec9 {H : Type} : ∀ (n : Nat) (d : DataW H) (c : List CV), cvD Tryz.prog n 9 d = some c -> ∃ x : ByteArray, c = Enc.enc x
 | n, d, c, h => by
  obtain ⟨m, rfl⟩ := cvD_string Tryz.underlying9 h
  exact ⟨m, rfl⟩
theorem dec3 {H : Type} : ∀ (n : Nat) (d : DataW H) (c : List CV), cvD Tryz.prog n 3 d = some c -> ∃ x : Int, c = Enc.enc x
 | n, d, c, h => by
  obtain ⟨m, hm, rfl⟩ := cvD_int Tryz.underlying3 h
  exact ⟨m, rfl⟩
theorem dec83 {H : Type} : ∀ (n : Nat) (d : DataW H) (c : List CV), cvD Tryz.prog n 83 d = some c -> ∃ x : Var, c = Enc.enc x
 | n, d, c, h => by
  obtain ⟨m, l, hm, rfl, hl, h⟩ := cvD_structW Tryz.underlying83 h
  have hl : l.length = 2 := hl
  match l, hl with
  | [d0, d1], _ =>
   simp only [List.zipWith] at h
   obtain ⟨a0, b0, h0, k1, rfl⟩ := concatM_cons h
   obtain ⟨a1, b1, h1, k2, rfl⟩ := concatM_cons k1
   obtain rfl := concatM_nil k2
   obtain ⟨x0, rfl⟩ := dec9 m _ _ h0
   obtain ⟨x1, rfl⟩ := dec3 m _ _ h1
   exact ⟨⟨x0, x1⟩, by rw [enc_Var]; first | rfl | simp⟩
theorem dec22 {H : Type} : ∀ (n : Nat) (d : DataW H) (c : List CV), cvD Tryz.prog n 22 d = some c -> ∃ x : List Var, c = Enc.enc x
 | n, d, c, h => cvD_sliceW Tryz.underlying22 (fun m hm d c h => dec83 m d c h) h
theorem dec23 {H : Type} : ∀ (n : Nat) (d : DataW H) (c : List CV), cvD Tryz.prog n 23 d = some c -> ∃ x : List ByteArray, c = Enc.enc x
 | n, d, c, h => cvD_sliceW Tryz.underlying23 (fun m hm d c h => dec9 m d c h) h
theorem dec85 {H : Type} : ∀ (n : Nat) (d : DataW H) (c : List CV), cvD Tryz.prog n 85 d = some c -> ∃ x : Int, c = Enc.enc x
 | n, d, c, h => by
  obtain ⟨m, hm, rfl⟩ := cvD_int Tryz.underlying85 h
  exact ⟨m, rfl⟩
theorem dec86 {H : Type} : ∀ (n : Nat) (d : DataW H) (c : List CV), cvD Tryz.prog n 86 d = some c -> ∃ x : Int, c = Enc.enc x
 | n, d, c, h => by
  obtain ⟨m, hm, rfl⟩ := cvD_int Tryz.underlying86 h
  exact ⟨m, rfl⟩
theorem dec87 {H : Type} : ∀ (n : Nat) (d : DataW H) (c : List CV), cvD Tryz.prog n 87 d = some c -> ∃ x : Int, c = Enc.enc x
 | n, d, c, h => by
  obtain ⟨m, hm, rfl⟩ := cvD_int Tryz.underlying87 h
  exact ⟨m, rfl⟩
theorem dec89 {H : Type} : ∀ (n : Nat) (d : DataW H) (c : List CV), cvD Tryz.prog n 89 d = some c -> ∃ x : Inst, c = Enc.enc x
 | n, d, c, h => by
  obtain ⟨m, l, hm, rfl, hl, h⟩ := cvD_structW Tryz.underlying89 h
  have hl : l.length = 8 := hl
  match l, hl with
  | [d0, d1, d2, d3, d4, d5, d6, d7], _ =>
   simp only [List.zipWith] at h
   obtain ⟨a0, b0, h0, k1, rfl⟩ := concatM_cons h
   obtain ⟨a1, b1, h1, k2, rfl⟩ := concatM_cons k1
   obtain ⟨a2, b2, h2, k3, rfl⟩ := concatM_cons k2
   obtain ⟨a3, b3, h3, k4, rfl⟩ := concatM_cons k3
   obtain ⟨a4, b4, h4, k5, rfl⟩ := concatM_cons k4
   obtain ⟨a5, b5, h5, k6, rfl⟩ := concatM_cons k5
   obtain ⟨a6, b6, h6, k7, rfl⟩ := concatM_cons k6
   obtain ⟨a7, b7, h7, k8, rfl⟩ := concatM_cons k7
   obtain rfl := concatM_nil k8
   obtain ⟨x0, rfl⟩ := dec85 m _ _ h0
   obtain ⟨x1, rfl⟩ := dec3 m _ _ h1
   obtain ⟨x2, rfl⟩ := dec3 m _ _ h2
   obtain ⟨x3, rfl⟩ := dec3 m _ _ h3
   obtain ⟨x4, rfl⟩ := dec3 m _ _ h4
   obtain ⟨x5, rfl⟩ := dec3 m _ _ h5
   obtain ⟨x6, rfl⟩ := dec86 m _ _ h6
   obtain ⟨x7, rfl⟩ := dec87 m _ _ h7
   exact ⟨⟨x0, x1, x2, x3, x4, x5, x6, x7⟩, by rw [enc_Inst]; first | rfl | simp⟩
theorem dec51 {H : Type} : ∀ (n : Nat) (d : DataW H) (c : List CV), cvD Tryz.prog n 51 d = some c -> ∃ x : List Inst, c = Enc.enc x
 | n, d, c, h => cvD_sliceW Tryz.underlying51 (fun m hm d c h => dec89 m d c h) h
theorem dec53 {H : Type} : ∀ (n : Nat) (d : DataW H) (c : List CV), cvD Tryz.prog n 53 d = some c -> ∃ x : Func, c = Enc.enc x
 | n, d, c, h => by
  obtain ⟨m, l, hm, rfl, hl, h⟩ := cvD_structW Tryz.underlying53 h
  have hl : l.length = 2 := hl
  match l, hl with
  | [d0, d1], _ =>
   simp only [List.zipWith] at h
   obtain ⟨a0, b0, h0, k1, rfl⟩ := concatM_cons h
   obtain ⟨a1, b1, h1, k2, rfl⟩ := concatM_cons k1
   obtain rfl := concatM_nil k2
   obtain ⟨x0, rfl⟩ := dec9 m _ _ h0
   obtain ⟨x1, rfl⟩ := dec51 m _ _ h1
   exact ⟨⟨x0, x1⟩, by rw [enc_Func]; first | rfl | simp⟩
theorem dec24 {H : Type} : ∀ (n : Nat) (d : DataW H) (c : List CV), cvD Tryz.prog n 24 d = some c -> ∃ x : List Func, c = Enc.enc x
 | n, d, c, h => cvD_sliceW Tryz.underlying24 (fun m hm d c h => dec53 m d c h) h
theorem dec91 {H : Type} : ∀ (n : Nat) (d : DataW H) (c : List CV), cvD Tryz.prog n 91 d = some c -> ∃ x : Start, c = Enc.enc x
 | n, d, c, h => by
  obtain ⟨m, l, hm, rfl, hl, h⟩ := cvD_structW Tryz.underlying91 h
  have hl : l.length = 2 := hl
  match l, hl with
  | [d0, d1], _ =>
   simp only [List.zipWith] at h
   obtain ⟨a0, b0, h0, k1, rfl⟩ := concatM_cons h
   obtain ⟨a1, b1, h1, k2, rfl⟩ := concatM_cons k1
   obtain rfl := concatM_nil k2
   obtain ⟨x0, rfl⟩ := dec3 m _ _ h0
   obtain ⟨x1, rfl⟩ := dec3 m _ _ h1
   exact ⟨⟨x0, x1⟩, by rw [enc_Start]; first | rfl | simp⟩
theorem dec25 {H : Type} : ∀ (n : Nat) (d : DataW H) (c : List CV), cvD Tryz.prog n 25 d = some c -> ∃ x : List Start, c = Enc.enc x
 | n, d, c, h => cvD_sliceW Tryz.underlying25 (fun m hm d c h => dec91 m d c h) h
theorem dec27 {H : Type} : ∀ (n : Nat) (d : DataW H) (c : List CV), cvD Tryz.prog n 27 d = some c -> ∃ x : Program, c = Enc.enc x
 | n, d, c, h => by
  obtain ⟨m, l, hm, rfl, hl, h⟩ := cvD_structW Tryz.underlying27 h
  have hl : l.length = 5 := hl
  match l, hl with
  | [d0, d1, d2, d3, d4], _ =>
   simp only [List.zipWith] at h
   obtain ⟨a0, b0, h0, k1, rfl⟩ := concatM_cons h
   obtain ⟨a1, b1, h1, k2, rfl⟩ := concatM_cons k1
   obtain ⟨a2, b2, h2, k3, rfl⟩ := concatM_cons k2
   obtain ⟨a3, b3, h3, k4, rfl⟩ := concatM_cons k3
   obtain ⟨a4, b4, h4, k5, rfl⟩ := concatM_cons k4
   obtain rfl := concatM_nil k5
   obtain ⟨x0, rfl⟩ := dec22 m _ _ h0
   obtain ⟨x1, rfl⟩ := dec23 m _ _ h1
   obtain ⟨x2, rfl⟩ := dec23 m _ _ h2
   obtain ⟨x3, rfl⟩ := dec24 m _ _ h3
   obtain ⟨x4, rfl⟩ := dec25 m _ _ h4
   exact ⟨⟨x0, x1, x2, x3, x4⟩, by rw [enc_Program]; first | rfl | simp⟩
theorem dec28 {H : Type} : ∀ (n : Nat) (d : DataW H) (c : List CV), cvD Tryz.prog n 28 d = some c -> ∃ x : Int, c = Enc.enc x
 | n, d, c, h => by
  obtain ⟨m, hm, rfl⟩ := cvD_int Tryz.underlying28 h
  exact ⟨m, rfl⟩
theorem dec30 {H : Type} : ∀ (n : Nat) (d : DataW H) (c : List CV), cvD Tryz.prog n 30 d = some c -> ∃ x : Config, c = Enc.enc x
 | n, d, c, h => by
  obtain ⟨m, l, hm, rfl, hl, h⟩ := cvD_structW Tryz.underlying30 h
  have hl : l.length = 2 := hl
  match l, hl with
  | [d0, d1], _ =>
   simp only [List.zipWith] at h
   obtain ⟨a0, b0, h0, k1, rfl⟩ := concatM_cons h
   obtain ⟨a1, b1, h1, k2, rfl⟩ := concatM_cons k1
   obtain rfl := concatM_nil k2
   obtain ⟨x0, rfl⟩ := dec28 m _ _ h0
   obtain ⟨x1, rfl⟩ := dec3 m _ _ h1
   exact ⟨⟨x0, x1⟩, by rw [enc_Config]; first | rfl | simp⟩
theorem dec54 {H : Type} : ∀ (n : Nat) (d : DataW H) (c : List CV), cvD Tryz.prog n 54 d = some c -> ∃ x : List Int, c = Enc.enc x
 | n, d, c, h => cvD_sliceW Tryz.underlying54 (fun m hm d c h => dec3 m d c h) h
mutual
theorem dec55 {H : Type} : ∀ (n : Nat) (d : DataW H) (c : List CV), cvD Tryz.prog n 55 d = some c -> ∃ x : List Tree, c = Enc.enc x
 | n, d, c, h => cvD_sliceW Tryz.underlying55 (fun m hm d c h => dec57 m d c h) h
 termination_by n => n
theorem dec57 {H : Type} : ∀ (n : Nat) (d : DataW H) (c : List CV), cvD Tryz.prog n 57 d = some c -> ∃ x : Tree, c = Enc.enc x
 | n, d, c, h => by
  obtain ⟨m, l, hm, rfl, hl, h⟩ := cvD_structW Tryz.underlying57 h
  have hl : l.length = 2 := hl
  match l, hl with
  | [d0, d1], _ =>
   simp only [List.zipWith] at h
   obtain ⟨a0, b0, h0, k1, rfl⟩ := concatM_cons h
   obtain ⟨a1, b1, h1, k2, rfl⟩ := concatM_cons k1
   obtain rfl := concatM_nil k2
   obtain ⟨x0, rfl⟩ := dec3 m _ _ h0
   obtain ⟨x1, rfl⟩ := dec55 m _ _ h1
   exact ⟨⟨x0, x1⟩, by rw [enc_Tree]; first | rfl | simp⟩
 termination_by n => n
end
theorem dec59 {H : Type} : ∀ (n : Nat) (d : DataW H) (c : List CV), cvD Tryz.prog n 59 d = some c -> ∃ x : Frame, c = Enc.enc x
 | n, d, c, h => by
  obtain ⟨m, l, hm, rfl, hl, h⟩ := cvD_structW Tryz.underlying59 h
  have hl : l.length = 3 := hl
  match l, hl with
  | [d0, d1, d2], _ =>
   simp only [List.zipWith] at h
   obtain ⟨a0, b0, h0, k1, rfl⟩ := concatM_cons h
   obtain ⟨a1, b1, h1, k2, rfl⟩ := concatM_cons k1
   obtain ⟨a2, b2, h2, k3, rfl⟩ := concatM_cons k2
   obtain rfl := concatM_nil k3
   obtain ⟨x0, rfl⟩ := dec3 m _ _ h0
   obtain ⟨x1, rfl⟩ := dec54 m _ _ h1
   obtain ⟨x2, rfl⟩ := dec57 m _ _ h2
   exact ⟨⟨x0, x1, x2⟩, by rw [enc_Frame]; first | rfl | simp⟩
theorem dec31 {H : Type} : ∀ (n : Nat) (d : DataW H) (c : List CV), cvD Tryz.prog n 31 d = some c -> ∃ x : List Frame, c = Enc.enc x
 | n, d, c, h => cvD_sliceW Tryz.underlying31 (fun m hm d c h => dec59 m d c h) h
theorem dec4 {H : Type} : ∀ (n : Nat) (d : DataW H) (c : List CV), cvD Tryz.prog n 4 d = some c -> ∃ x : Bool, c = Enc.enc x
 | n, d, c, h => by
  obtain ⟨m, rfl⟩ := cvD_bool Tryz.underlying4 h
  exact ⟨m, rfl⟩
theorem dec33 {H : Type} : ∀ (n : Nat) (d : DataW H) (c : List CV), cvD Tryz.prog n 33 d = some c -> ∃ x : Snapshot, c = Enc.enc x
 | n, d, c, h => by
  obtain ⟨m, l, hm, rfl, hl, h⟩ := cvD_structW Tryz.underlying33 h
  have hl : l.length = 4 := hl
  match l, hl with
  | [d0, d1, d2, d3], _ =>
   simp only [List.zipWith] at h
   obtain ⟨a0, b0, h0, k1, rfl⟩ := concatM_cons h
   obtain ⟨a1, b1, h1, k2, rfl⟩ := concatM_cons k1
   obtain ⟨a2, b2, h2, k3, rfl⟩ := concatM_cons k2
   obtain ⟨a3, b3, h3, k4, rfl⟩ := concatM_cons k3
   obtain rfl := concatM_nil k4
   obtain ⟨x0, rfl⟩ := dec31 m _ _ h0
   obtain ⟨x1, rfl⟩ := dec4 m _ _ h1
   obtain ⟨x2, rfl⟩ := dec3 m _ _ h2
   obtain ⟨x3, rfl⟩ := dec3 m _ _ h3
   exact ⟨⟨x0, x1, x2, x3⟩, by rw [enc_Snapshot]; first | rfl | simp⟩
theorem closed : okS Tryz.prog [27, 22, 83, 9, 3, 23, 24, 53, 51, 89, 85, 86, 87, 25, 91, 30, 28, 33, 31, 59, 54, 57, 55, 4] = true := by kernel_rfl
theorem bulk_of {H : Type} {n : Nat} {t : TypeId} {d : DataW H} {c : List CV} (h : cvD Tryz.prog n t d = some c) : bkL c <= Go.Proofs.YtjbebaachciedaaGreatDoor.Rows.uptoBulk d :=
 cvD_bk Go.Proofs.YtjbebaachciedaaGreatDoor.Rows.uptoBulk Go.Proofs.YtjbebaachciedaaGreatDoor.Rows.uptoBulkAll (by simp [Go.Proofs.YtjbebaachciedaaGreatDoor.Rows.uptoBulkAll]) (fun d r => by simp [Go.Proofs.YtjbebaachciedaaGreatDoor.Rows.uptoBulkAll]) (fun l => by cases l <;> simp [Go.Proofs.YtjbebaachciedaaGreatDoor.Rows.uptoBulk]) (fun l => by simp [Go.Proofs.YtjbebaachciedaaGreatDoor.Rows.uptoBulk]) (by simp [Go.Proofs.YtjbebaachciedaaGreatDoor.Rows.uptoBulk]) (fun l s => by simp only [Go.Proofs.YtjbebaachciedaaGreatDoor.Rows.uptoBulk]; omega) (fun l => by simp only [Go.Proofs.YtjbebaachciedaaGreatDoor.Rows.uptoBulk]; omega) n t d c h
theorem open27 {H : Type} {enc : TypeId × Value -> H} {W : World} {sp : Nat -> Bool} {held : Bool} {v : Value} {d : DataW H} {p : List MemPlace} {r : Go.Reach} {b0 : Nat} (hv : Value.okWide Tryz.prog W r b0 27 v) (h : DataW.Trod enc Tryz.prog W 0 sp held 27 v d p) :
  ∃ x : Program, (okL (Enc.enc x) /\ bkL (Enc.enc x) <= Go.Proofs.YtjbebaachciedaaGreatDoor.Rows.uptoBulk d) /\ AVRep W m0 (fun _ => False) v (.agg ((Enc.enc x).map .p)) := by
 obtain ⟨m, cvs, e, hr⟩ := repW_struct closed (by decide) Tryz.underlying27 hv h
 obtain ⟨x, rfl⟩ := dec27 m d cvs e
 exact ⟨x, ⟨cvD_okL _ _ _ _ e, bulk_of e⟩, hr⟩
theorem open30 {H : Type} {enc : TypeId × Value -> H} {W : World} {sp : Nat -> Bool} {held : Bool} {v : Value} {d : DataW H} {p : List MemPlace} {r : Go.Reach} {b0 : Nat} (hv : Value.okWide Tryz.prog W r b0 30 v) (h : DataW.Trod enc Tryz.prog W 0 sp held 30 v d p) :
  ∃ x : Config, (okL (Enc.enc x) /\ bkL (Enc.enc x) <= Go.Proofs.YtjbebaachciedaaGreatDoor.Rows.uptoBulk d) /\ AVRep W m0 (fun _ => False) v (.agg ((Enc.enc x).map .p)) := by
 obtain ⟨m, cvs, e, hr⟩ := repW_struct closed (by decide) Tryz.underlying30 hv h
 obtain ⟨x, rfl⟩ := dec30 m d cvs e
 exact ⟨x, ⟨cvD_okL _ _ _ _ e, bulk_of e⟩, hr⟩
theorem open33 {H : Type} {enc : TypeId × Value -> H} {W : World} {sp : Nat -> Bool} {held : Bool} {v : Value} {d : DataW H} {p : List MemPlace} {r : Go.Reach} {b0 : Nat} (hv : Value.okWide Tryz.prog W r b0 33 v) (h : DataW.Trod enc Tryz.prog W 0 sp held 33 v d p) :
  ∃ x : Snapshot, (okL (Enc.enc x) /\ bkL (Enc.enc x) <= Go.Proofs.YtjbebaachciedaaGreatDoor.Rows.uptoBulk d) /\ AVRep W m0 (fun _ => False) v (.agg ((Enc.enc x).map .p)) := by
 obtain ⟨m, cvs, e, hr⟩ := repW_struct closed (by decide) Tryz.underlying33 hv h
 obtain ⟨x, rfl⟩ := dec33 m d cvs e
 exact ⟨x, ⟨cvD_okL _ _ _ _ e, bulk_of e⟩, hr⟩
/-- The package variables as the rows lay them. -/
theorem gN1 : Tryz.prog.globalNamed "modelcheck/value.names" = some 1 := by kernel_rfl
theorem gN0 : Tryz.prog.globalNamed "modelcheck/inst.rows" = some 0 := by kernel_rfl
theorem gT1 : (Tryz.prog.globals[1]?).map (·.type) = some 162 := by kernel_rfl
set_option maxRecDepth 100000 in
theorem gC1 : cvD Tryz.prog 6 162 (Go.Proofs.YtjbebaachciedaaGreatDoor.Rows.laid_modelcheck_value_names (H := Unit)) = some (encL namesTab) := by kernel_rfl
theorem gT0 : (Tryz.prog.globals[0]?).map (·.type) = some 158 := by kernel_rfl
set_option maxRecDepth 100000 in
theorem gC0 : cvD Tryz.prog 6 158 (Go.Proofs.YtjbebaachciedaaGreatDoor.Rows.laid_modelcheck_inst_rows (H := Unit)) = some (encL rowsTab) := by kernel_rfl
set_option maxRecDepth 100000 in
theorem globs {W : World} (laid : List (String × DataW Unit)) (he : laid = [("modelcheck/value.names", Go.Proofs.YtjbebaachciedaaGreatDoor.Rows.laid_modelcheck_value_names), ("modelcheck/inst.rows", Go.Proofs.YtjbebaachciedaaGreatDoor.Rows.laid_modelcheck_inst_rows)])
  (h : laidMetH Tryz.prog laid W) : ∀ g cs, Globals.G g = some cs -> AVRep W m0 (fun _ => False) (.pointer (some ⟨g, 0, none⟩)) (.cell (.ep cs 0)) := by
 subst he
 rw [MakeChecks.laidMetH_plain _ _ _ (by kernel_rfl)] at h
 obtain ⟨ps, ⟨g0, t0, cs0, f0, p0, q0, hg0, ht0, hv0, hd0, ⟨g1, t1, cs1, f1, p1, q1, hg1, ht1, hv1, hd1, _, _⟩, _⟩, _, _⟩ := h
 obtain rfl := Option.some.inj (gN1.symm.trans hg0)
 obtain rfl := Option.some.inj (gT1.symm.trans ht0)
 obtain rfl := Option.some.inj (gN0.symm.trans hg1)
 obtain rfl := Option.some.inj (gT0.symm.trans ht1)
 intro g cs hgc
 have hgc : (if g = 0 then some (encL rowsTab) else if g = 1 then some (encL namesTab) else none) = some cs := hgc
 split at hgc
 ·rename_i e
  subst e
  cases hgc
  exact rep_global (m := 6) (t := 158) (by kernel_rfl) hd1 gC0 fun j => by simpa using World.var?_cell hg1 hv1 j
 ·split at hgc
  ·rename_i e
   subst e
   cases hgc
   exact rep_global (m := 6) (t := 162) (by kernel_rfl) hd0 gC1 fun j => by simpa using World.var?_cell hg0 hv0 j
  ·cases hgc
end Go.Dc
end
