/- Contracts of functions, by their numbers, and the laws that walk them. Conditions: as each states. -/
import Derived.Test.YtihjddokgmjafaaDoorH4
import Derived.Test.YtihjddokgmjafaaDoorH5
import Derived.KernelRfl
import Derived.Test.YtihjddokgmjafaaDoorH3
import Derived.Test.YtihjddokgmjafaaDoorRows
import Derived.LaidMore
import Derived.MakeChecks
set_option linter.all false
section
set_option linter.all false
namespace Go.Dc
open Go Go.Hw Go.Proofs
set_option maxRecDepth 100000

def law16_awake (fuelN : Nat)  : Option Bool :=
  Option.bind (law16_local (⟨#[98]⟩ : ByteArray)) (fun y1 => Option.bind (some ([y1])) (fun l3 => Option.bind (some ([({ Kind := 1, N := 1, Name := (⟨#[]⟩ : ByteArray), Fn := 0, Args := [] } : Expr)])) (fun l15 => Option.bind (law16_local (⟨#[97]⟩ : ByteArray)) (fun y17 => Option.bind (some ([y17])) (fun l19 => Option.bind (some ([({ Kind := 1, Name := (⟨#[99]⟩ : ByteArray), Obj := (⟨#[]⟩ : ByteArray), Other := (⟨#[]⟩ : ByteArray), Fn := 0, Order := 0, Exprs := l3, Body := [], Else := [] } : Stmt)])) (fun l21 => Option.bind (some ([({ Kind := 1, Name := (⟨#[98]⟩ : ByteArray), Obj := (⟨#[]⟩ : ByteArray), Other := (⟨#[]⟩ : ByteArray), Fn := 0, Order := 0, Exprs := l15, Body := [], Else := [] } : Stmt), ({ Kind := 18, Name := (⟨#[]⟩ : ByteArray), Obj := (⟨#[]⟩ : ByteArray), Other := (⟨#[]⟩ : ByteArray), Fn := 0, Order := 0, Exprs := l19, Body := l21, Else := [] } : Stmt)])) (fun l23 => Option.bind (some ([({ Name := (⟨#[112]⟩ : ByteArray), Param := (⟨#[97]⟩ : ByteArray), Body := l23 } : Proc)])) (fun l25 => Option.bind (some ([({ Proc := (⟨#[112]⟩ : ByteArray), Arg := 0 } : Launch)])) (fun l27 => Option.bind (ast_Check fuelN ({ Vars := [], Mutexes := [], Conds := [], Procs := l25, Threads := l27 } : UnitT)) (fun y29 => Option.bind (ast_Clone fuelN ({ Vars := [], Mutexes := [], Conds := [], Procs := l25, Threads := l27 } : UnitT)) (fun y31 => Option.bind (ast_Equal fuelN ({ Vars := [], Mutexes := [], Conds := [], Procs := l25, Threads := l27 } : UnitT) y31) (fun y33 => cond (eqI ((y31.Procs.length : Nat) : Int) 1) (Option.bind (y31.Procs[0]?) (fun x36 => cond (eqI ((x36.Body.length : Nat) : Int) 2) (Option.bind (x36.Body[1]?) (fun x41 => cond (!(eqI ((x41.Body.length : Nat) : Int) 1)) (Option.bind (some (x36.Body.set 1 x41)) (fun l46 => Option.bind (some (y31.Procs.set 0 ({ x36 with Body := l46 }))) (fun l49 => some false))) (Option.bind (some (x36.Body.set 1 x41)) (fun l52 => Option.bind (some (y31.Procs.set 0 ({ x36 with Body := l52 }))) (fun l55 => Option.bind (l55[0]?) (fun x57 => Option.bind (x57.Body[1]?) (fun x60 => Option.bind (x60.Body[0]?) (fun x63 => Option.bind (some (x60.Body.set 0 ({ x63 with Name := (⟨#[105, 102]⟩ : ByteArray) }))) (fun l66 => Option.bind (some (x57.Body.set 1 ({ x60 with Body := l66 }))) (fun l69 => Option.bind (some (l55.set 0 ({ x57 with Body := l69 }))) (fun l72 => Option.bind (ast_Check fuelN ({ y31 with Procs := l72 })) (fun y74 => Option.bind (law16_local (⟨#[97]⟩ : ByteArray)) (fun y76 => Option.bind (law16_local (⟨#[97]⟩ : ByteArray)) (fun y78 => Option.bind (law16_sum y76 y78) (fun y80 => Option.bind (law16_local (⟨#[97]⟩ : ByteArray)) (fun y82 => Option.bind (law16_sum y80 y82) (fun y84 => Option.bind (law16_local (⟨#[97]⟩ : ByteArray)) (fun y86 => Option.bind (law16_sum y84 y86) (fun y88 => cond (andB (andB (andB (andB (andB (andB (eqI y29.1 0) (eqI y29.2.1 (-1))) (eqI y29.2.2 (-1))) (eqI y74.1 6)) (eqI y74.2.1 0)) (eqI y74.2.2 2)) y33) (Option.bind (ast_Equal fuelN ({ Vars := [], Mutexes := [], Conds := [], Procs := l25, Threads := l27 } : UnitT) ({ y31 with Procs := l72 })) (fun y91 => guardO (orB (!(!y91)) ((ast_Locals ({ Name := (⟨#[112]⟩ : ByteArray), Param := (⟨#[97]⟩ : ByteArray), Body := l23 } : Proc)).isSome)) (cond (!y91) (Option.bind (some ([(⟨#[97]⟩ : ByteArray), (⟨#[98]⟩ : ByteArray), (⟨#[99]⟩ : ByteArray)])) (fun l95 => Option.bind (r16_Strings ((ast_Locals ({ Name := (⟨#[112]⟩ : ByteArray), Param := (⟨#[97]⟩ : ByteArray), Body := l23 } : Proc)).getD default) l95) (fun y97 => guardO (orB (!y97) ((ast_Count l23).isSome)) (guardO (orB (!(andB y97 (eqI ((ast_Count l23).getD default) 3))) ((law16_local (⟨#[97]⟩ : ByteArray)).isSome)) (guardO (orB (!(andB y97 (eqI ((ast_Count l23).getD default) 3))) ((law16_local (⟨#[98]⟩ : ByteArray)).isSome)) (guardO (orB (!(andB y97 (eqI ((ast_Count l23).getD default) 3))) ((law16_sum ((law16_local (⟨#[97]⟩ : ByteArray)).getD default) ((law16_local (⟨#[98]⟩ : ByteArray)).getD default)).isSome)) (cond (andB y97 (eqI ((ast_Count l23).getD default) 3)) (Option.bind (some ([(⟨#[97]⟩ : ByteArray)])) (fun l104 => Option.bind (ast_CheckExpr fuelN ((law16_sum ((law16_local (⟨#[97]⟩ : ByteArray)).getD default) ((law16_local (⟨#[98]⟩ : ByteArray)).getD default)).getD default) l104) (fun y106 => cond (eqI y106 11) (Option.bind (some ([(⟨#[97]⟩ : ByteArray)])) (fun l109 => Option.bind (ast_CheckExpr fuelN y88 l109) (fun y111 => guardO (orB (!(eqI y111 4)) ((ast_Depth fuelN y88).isSome)) (some (andB (eqI y111 4) (eqI ((ast_Depth fuelN y88).getD default) 4)))))) (some false)))) (some false)))))))) (some false)))) (some false)))))))))))))))))))) (Option.bind (some (y31.Procs.set 0 x36)) (fun l115 => some false)))) (some false)))))))))))))

set_option maxHeartbeats 2000000 in
theorem at_law16_awake {fuelN : Nat}  {r : Bool} (hs : law16_awake fuelN = some r) : At Tryd.prog 27 [] (bV r) := by
  refine at_bound (by kernel_rfl) fun hb => ?_
  refine at_code mixed Tryd.func27 (by kernel_rfl) rfl (by kernel_rfl) rfl fun Q hQ => ?_
  rw [law16_awake] at hs
  refine goR f0 ?_
  revert hs; refine bK fun y1 hx2 hs => ?_
  refine cP f0 (at_law16_local hx2) ?_
  revert hs; refine lK fun l3 hx4 hs => ?_
  have hx4n : l3.length = 1 := by rw [hx4]; rfl
  revert hs; refine lK fun l15 hx16 hs => ?_
  have hx16n : l15.length = 1 := by rw [hx16]; rfl
  have F1 := an hx4 hx16
  refine goD F1 ?_
  revert hs; refine bK fun y17 hx18 hs => ?_
  refine cP F1 (at_law16_local hx18) ?_
  revert hs; refine lK fun l19 hx20 hs => ?_
  have hx20n : l19.length = 1 := by rw [hx20]; rfl
  revert hs; refine lK fun l21 hx22 hs => ?_
  have hx22n : l21.length = 1 := by rw [hx22]; rfl
  revert hs; refine lK fun l23 hx24 hs => ?_
  have hx24n : l23.length = 2 := by rw [hx24]; rfl
  have F2 := an F1 (an hx20 (an hx22 hx24))
  refine goN F2 ?_
  refine awp_gh (by rfl) ((Gh.frz _ (.o 2 1 0)).trans ((Gh.pur _ (.o 3 6 0)).trans ((Gh.frz _ (.o 3 1 0)).trans ((Gh.frz _ (.o 3 4 0)).trans ((Gh.frz _ (.o 3 6 0)).trans (Gh.pur _ (.o 3 8 0))))))) ?_
  try simp only [St.frz, St.pur]
  revert hs; refine lK fun l25 hx26 hs => ?_
  have hx26n : l25.length = 1 := by rw [hx26]; rfl
  revert hs; refine lK fun l27 hx28 hs => ?_
  have hx28n : l27.length = 1 := by rw [hx28]; rfl
  have F3 := an F2 (an hx26 hx28)
  refine goN F3 ?_
  refine awp_reg ?_
  refine goN F3 ?_
  refine awp_gh (by rfl) ((Gh.frz _ (.o 3 8 0)).trans (Gh.pur _ (.o 4 1 0))) ?_
  try simp only [St.frz, St.pur]
  refine goR F3 ?_
  revert hs; refine bK fun y29 hx30 hs => ?_
  refine cA F3 (at_unz (args := [.agg [.z, .z, .z, sC l25, sC l27]]) (by simp) (at_ast_Check hx30)) ?_
  refine goN F3 ?_
  refine awp_gh (by rfl) ((Gh.frz _ (.o 4 1 0)).trans (Gh.frz _ (.o 4 3 0))) ?_
  try simp only [St.frz, St.pur]
  refine goR F3 ?_
  revert hs; refine bK fun y31 hx32 hs => ?_
  refine cA F3 (at_unz (args := [.agg [.z, .z, .z, sC l25, sC l27]]) (by simp) (at_ast_Clone hx32)) ?_
  refine goR F3 ?_
  revert hs; refine bK fun y33 hx34 hs => ?_
  refine cA F3 (at_unz (args := [.agg [.z, .z, .z, sC l25, sC l27], .agg (eA y31)]) (by simp) (at_ast_Equal hx34)) ?_
  refine goG F3 F3 ?_
  refine gsel_split (fun h35 => ?_) (fun h35 => ?_)
  · replace hs := condT h35 hs
    revert hs; refine bK fun x36 hx37 hs => ?_
    have hx37b := getN_some hx37
    have f38a : (oencL y31.Procs)[2]? = some (.own (.sl 9 x36.Body.length (otL x36.Body))) := oencL_get hx37 (f := 2) (by first | rfl | (simp; done) | (simp; rfl))
    have f38b : ((oencL y31.Procs).drop (2)).take 1 = [.own (.sl 9 x36.Body.length (otL x36.Body))] := oencL_seg hx37 (f := 2) (by first | rfl | (simp; done) | (simp; rfl)) (by first | rfl | (simp; done) | (simp; rfl))
    have f38l : 2 < (oencL y31.Procs).length := (List.getElem?_eq_some_iff.1 f38a).1
    have f38c := fun c => (set_seg f38l c).1
    have f38d := fun c => (set_seg f38l c).2
    have F4 := an F3 (an h35 (an f38a (an f38b (an f38c f38d))))
    have F5 := an F4 hx37b
    refine goG F4 F5 ?_
    refine gsel_split (fun h39 => ?_) (fun h39 => ?_)
    · replace hs := condT h39 hs
      revert hs; refine bK fun x41 hx42 hs => ?_
      have hx42b := getN_some hx42
      have f43a : (oencL x36.Body)[16]? = some (.own (.sl 9 x41.Body.length (otL x41.Body))) := oencL_get hx42 (f := 7) (by first | rfl | (simp; done) | (simp; rfl))
      have f43b : ((oencL x36.Body).drop (16)).take 1 = [.own (.sl 9 x41.Body.length (otL x41.Body))] := oencL_seg hx42 (f := 7) (by first | rfl | (simp; done) | (simp; rfl)) (by first | rfl | (simp; done) | (simp; rfl))
      have f43l : 16 < (oencL x36.Body).length := (List.getElem?_eq_some_iff.1 f43a).1
      have f43c := fun c => (set_seg f43l c).1
      have f43d := fun c => (set_seg f43l c).2
      have F6 := an F4 (an h39 (an f43a (an f43b (an f43c f43d))))
      have F7 := an F6 (an hx37b hx42b)
      refine goG F6 F7 ?_
      revert hs; refine cS F6 ?_ ?_ <;> intro h44 hs
      · revert hs; refine lK fun l46 hx47 hs => ?_
        have f45 : (oencL x36.Body).set (16) (.own (.sl 9 x41.Body.length (otL x41.Body))) = oencL l46 := by rw [hx47]; exact oencL_set hx42 (f := 7) (by simp) (by first | rfl | (simp; done) | (simp; rfl))
        have f45n : l46.length = x36.Body.length := by rw [hx47]; simp
        have f45t : (oencL x41.Body).take (x41.Body.length * 9) = oencL x41.Body := oencL_takeN _ (by simp)
        have f45u : x41.Body.length = x41.Body.length → (oencL x41.Body).take (x41.Body.length * 9) = oencL x41.Body := fun h => by rw [← h]; exact oencL_takeN _ (by simp)
        have f45v : x41.Body.length = x41.Body.length → (oencL x36.Body).set (16) (.own (.sl 9 x41.Body.length (otL x41.Body))) = oencL l46 := fun h => by rw [← h]; exact f45
        have f45w : ∀ n : Nat, n = l46.length → (encL l46).take (n * 9) = encL l46 := fun n h => by rw [h]; exact encL_takeN _ (by simp)
        revert hs; refine lK fun l49 hx50 hs => ?_
        have f48 : (oencL y31.Procs).set (2) (.own (.sl 9 l46.length (otL l46))) = oencL l49 := by rw [hx50]; exact oencL_set hx37 (f := 2) (by simp) (by first | rfl | (simp; done) | (simp; rfl))
        have f48n : l49.length = y31.Procs.length := by rw [hx50]; simp
        have f48t : (oencL l46).take (l46.length * 9) = oencL l46 := oencL_takeN _ (by simp)
        have f48u : l46.length = x36.Body.length → (oencL l46).take (x36.Body.length * 9) = oencL l46 := fun h => by rw [← h]; exact oencL_takeN _ (by simp)
        have f48v : l46.length = x36.Body.length → (oencL y31.Procs).set (2) (.own (.sl 9 x36.Body.length (otL l46))) = oencL l49 := fun h => by rw [← h]; exact f48
        have f48w : ∀ n : Nat, n = l49.length → (encL l49).take (n * 3) = encL l49 := fun n h => by rw [h]; exact encL_takeN _ (by simp)
        have F8 := an F6 (an f45 (an f45n (an f45t (an f45u (an f45v (an f45w (an f48 (an f48n (an f48t (an f48u (an f48v f48w)))))))))))
        have F9 := an F8 (an hx37b hx42b)
        repeat (first | simp [F8] | with_reducible first | refine And.intro (by omega) ?_ | refine optF_if (by omega) ?_ | refine gsel_pure (by with_unfolding_all rfl) _ (fun hg => by (try simp at hg); first | (simp [hg, F9]; rfl) | (simp [F8]; simp only [if_pos hg]; simp [F8]; rfl)) ?_)
        refine awp_gh (by rfl) ((Gh.close _ (.o 8 9 2) (16)).trans (Gh.close _ (.o 6 1 3) (2))) ?_
        try simp only [St.frz, St.pur]
        refine goR F8 ?_
        obtain rfl := sj hs
        exact hQ _ _ (rg F8 (Gh.refl _))
      · revert hs; refine lK fun l52 hx53 hs => ?_
        have f51 : (oencL x36.Body).set (16) (.own (.sl 9 x41.Body.length (otL x41.Body))) = oencL l52 := by rw [hx53]; exact oencL_set hx42 (f := 7) (by simp) (by first | rfl | (simp; done) | (simp; rfl))
        have f51n : l52.length = x36.Body.length := by rw [hx53]; simp
        have f51t : (oencL x41.Body).take (x41.Body.length * 9) = oencL x41.Body := oencL_takeN _ (by simp)
        have f51u : x41.Body.length = x41.Body.length → (oencL x41.Body).take (x41.Body.length * 9) = oencL x41.Body := fun h => by rw [← h]; exact oencL_takeN _ (by simp)
        have f51v : x41.Body.length = x41.Body.length → (oencL x36.Body).set (16) (.own (.sl 9 x41.Body.length (otL x41.Body))) = oencL l52 := fun h => by rw [← h]; exact f51
        have f51w : ∀ n : Nat, n = l52.length → (encL l52).take (n * 9) = encL l52 := fun n h => by rw [h]; exact encL_takeN _ (by simp)
        revert hs; refine lK fun l55 hx56 hs => ?_
        have f54 : (oencL y31.Procs).set (2) (.own (.sl 9 l52.length (otL l52))) = oencL l55 := by rw [hx56]; exact oencL_set hx37 (f := 2) (by simp) (by first | rfl | (simp; done) | (simp; rfl))
        have f54n : l55.length = y31.Procs.length := by rw [hx56]; simp
        have f54t : (oencL l52).take (l52.length * 9) = oencL l52 := oencL_takeN _ (by simp)
        have f54u : l52.length = x36.Body.length → (oencL l52).take (x36.Body.length * 9) = oencL l52 := fun h => by rw [← h]; exact oencL_takeN _ (by simp)
        have f54v : l52.length = x36.Body.length → (oencL y31.Procs).set (2) (.own (.sl 9 x36.Body.length (otL l52))) = oencL l55 := fun h => by rw [← h]; exact f54
        have f54w : ∀ n : Nat, n = l55.length → (encL l55).take (n * 3) = encL l55 := fun n h => by rw [h]; exact encL_takeN _ (by simp)
        have F10 := an F6 (an f51 (an f51n (an f51t (an f51u (an f51v (an f51w (an f54 (an f54n (an f54t (an f54u (an f54v f54w)))))))))))
        have F11 := an F10 (an hx37b hx42b)
        repeat (first | simp [F10] | with_reducible first | refine And.intro (by omega) ?_ | refine optF_if (by omega) ?_ | refine gsel_pure (by with_unfolding_all rfl) _ (fun hg => by (try simp at hg); first | (simp [hg, F11]; rfl) | (simp [F10]; simp only [if_pos hg]; simp [F10]; rfl)) ?_)
        refine awp_gh (by rfl) ((Gh.close _ (.o 8 9 2) (16)).trans (Gh.close _ (.o 6 1 3) (2))) ?_
        try simp only [St.frz, St.pur]
        revert hs; refine bK fun x57 hx58 hs => ?_
        have hx58b := getN_some hx58
        have f59a : (oencL l55)[2]? = some (.own (.sl 9 x57.Body.length (otL x57.Body))) := oencL_get hx58 (f := 2) (by first | rfl | (simp; done) | (simp; rfl))
        have f59b : ((oencL l55).drop (2)).take 1 = [.own (.sl 9 x57.Body.length (otL x57.Body))] := oencL_seg hx58 (f := 2) (by first | rfl | (simp; done) | (simp; rfl)) (by first | rfl | (simp; done) | (simp; rfl))
        have f59l : 2 < (oencL l55).length := (List.getElem?_eq_some_iff.1 f59a).1
        have f59c := fun c => (set_seg f59l c).1
        have f59d := fun c => (set_seg f59l c).2
        revert hs; refine bK fun x60 hx61 hs => ?_
        have hx61b := getN_some hx61
        have f62a : (oencL x57.Body)[16]? = some (.own (.sl 9 x60.Body.length (otL x60.Body))) := oencL_get hx61 (f := 7) (by first | rfl | (simp; done) | (simp; rfl))
        have f62b : ((oencL x57.Body).drop (16)).take 1 = [.own (.sl 9 x60.Body.length (otL x60.Body))] := oencL_seg hx61 (f := 7) (by first | rfl | (simp; done) | (simp; rfl)) (by first | rfl | (simp; done) | (simp; rfl))
        have f62l : 16 < (oencL x57.Body).length := (List.getElem?_eq_some_iff.1 f62a).1
        have f62c := fun c => (set_seg f62l c).1
        have f62d := fun c => (set_seg f62l c).2
        revert hs; refine bK fun x63 hx64 hs => ?_
        have hx64b := getN_some hx64
        revert hs; refine lK fun l66 hx67 hs => ?_
        have f65 : (oencL x60.Body).set (1) (tC (⟨#[105, 102]⟩ : ByteArray)) = oencL l66 := by rw [hx67]; exact oencL_set hx64 (f := 1) (by simp) (by first | rfl | (simp; done) | (simp; rfl))
        have f65n : l66.length = x60.Body.length := by rw [hx67]; simp
        have f65w : ∀ n : Nat, n = l66.length → (encL l66).take (n * 9) = encL l66 := fun n h => by rw [h]; exact encL_takeN _ (by simp)
        revert hs; refine lK fun l69 hx70 hs => ?_
        have f68 : (oencL x57.Body).set (16) (.own (.sl 9 l66.length (otL l66))) = oencL l69 := by rw [hx70]; exact oencL_set hx61 (f := 7) (by simp) (by first | rfl | (simp; done) | (simp; rfl))
        have f68n : l69.length = x57.Body.length := by rw [hx70]; simp
        have f68t : (oencL l66).take (l66.length * 9) = oencL l66 := oencL_takeN _ (by simp)
        have f68u : l66.length = x60.Body.length → (oencL l66).take (x60.Body.length * 9) = oencL l66 := fun h => by rw [← h]; exact oencL_takeN _ (by simp)
        have f68v : l66.length = x60.Body.length → (oencL x57.Body).set (16) (.own (.sl 9 x60.Body.length (otL l66))) = oencL l69 := fun h => by rw [← h]; exact f68
        have f68w : ∀ n : Nat, n = l69.length → (encL l69).take (n * 9) = encL l69 := fun n h => by rw [h]; exact encL_takeN _ (by simp)
        revert hs; refine lK fun l72 hx73 hs => ?_
        have f71 : (oencL l55).set (2) (.own (.sl 9 l69.length (otL l69))) = oencL l72 := by rw [hx73]; exact oencL_set hx58 (f := 2) (by simp) (by first | rfl | (simp; done) | (simp; rfl))
        have f71n : l72.length = l55.length := by rw [hx73]; simp
        have f71t : (oencL l69).take (l69.length * 9) = oencL l69 := oencL_takeN _ (by simp)
        have f71u : l69.length = x57.Body.length → (oencL l69).take (x57.Body.length * 9) = oencL l69 := fun h => by rw [← h]; exact oencL_takeN _ (by simp)
        have f71v : l69.length = x57.Body.length → (oencL l55).set (2) (.own (.sl 9 x57.Body.length (otL l69))) = oencL l72 := fun h => by rw [← h]; exact f71
        have f71w : ∀ n : Nat, n = l72.length → (encL l72).take (n * 3) = encL l72 := fun n h => by rw [h]; exact encL_takeN _ (by simp)
        have F12 := an F10 (an f59a (an f59b (an f59c (an f59d (an f62a (an f62b (an f62c (an f62d (an f65 (an f65n (an f65w (an f68 (an f68n (an f68t (an f68u (an f68v (an f68w (an f71 (an f71n (an f71t (an f71u (an f71v f71w))))))))))))))))))))))
        refine goN F12 ?_
        refine awp_reg ?_
        refine goN F12 ?_
        refine awp_gh (by rfl) ((Gh.close _ (.o 9 4 2) (16)).trans (Gh.close _ (.o 6 1 3) (2))) ?_
        try simp only [St.frz, St.pur]
        refine goR F12 ?_
        revert hs; refine bK fun y74 hx75 hs => ?_
        refine cA F12 (at_ast_Check hx75) ?_
        refine goR F12 ?_
        revert hs; refine bK fun y76 hx77 hs => ?_
        refine cP F12 (at_law16_local hx77) ?_
        refine goR F12 ?_
        revert hs; refine bK fun y78 hx79 hs => ?_
        refine cP F12 (at_law16_local hx79) ?_
        refine goR F12 ?_
        revert hs; refine bK fun y80 hx81 hs => ?_
        refine cP F12 (at_law16_sum hx81) ?_
        refine goR F12 ?_
        revert hs; refine bK fun y82 hx83 hs => ?_
        refine cP F12 (at_law16_local hx83) ?_
        refine goR F12 ?_
        revert hs; refine bK fun y84 hx85 hs => ?_
        refine cP F12 (at_law16_sum hx85) ?_
        refine goR F12 ?_
        revert hs; refine bK fun y86 hx87 hs => ?_
        refine cP F12 (at_law16_local hx87) ?_
        refine goR F12 ?_
        revert hs; refine bK fun y88 hx89 hs => ?_
        refine cP F12 (at_law16_sum hx89) ?_
        have F13 := an F12 (an hx37b (an hx42b (an hx58b (an hx61b hx64b))))
        refine goG F12 F13 ?_
        refine gsel_split (fun h90 => ?_) (fun h90 => ?_)
        · replace hs := condT h90 hs
          have F14 := an F12 h90
          have F15 := an F14 (an hx37b (an hx42b (an hx58b (an hx61b hx64b))))
          refine goG F14 F15 ?_
          revert hs; refine bK fun y91 hx92 hs => ?_
          refine cA F14 (at_unz (args := [.agg [.z, .z, .z, sC l25, sC l27], .agg [sC y31.Vars, sC y31.Mutexes, sC y31.Conds, sC l72, sC y31.Threads]]) (by simp) (at_ast_Equal hx92)) ?_
          refine goG F14 F15 ?_
          obtain ⟨g93, hs⟩ := guardO_some hs
          refine gsel_call (fun hg => at_ast_Locals (under_call g93 hg)) (fun hg => by (try simp at hg); (first | simp [hg, F14]); try rfl) (fun hg => by (try simp at hg); simp [hg, F14]) (by simp) ?_
          refine goG F14 F15 ?_
          refine gsel_split (fun h94 => ?_) (fun h94 => ?_)
          · replace hs := condT h94 hs
            simp only [Bool.not_eq_true', Bool.not_eq_false', Bool.not_not] at h94
            revert hs; refine lK fun l95 hx96 hs => ?_
            have hx96n : l95.length = 3 := by rw [hx96]; rfl
            have F16 := an F14 (an h94 hx96)
            have F17 := an F16 (an hx37b (an hx42b (an hx58b (an hx61b hx64b))))
            refine goG F16 F17 ?_
            revert hs; refine bK fun y97 hx98 hs => ?_
            refine cA F16 (at_r16_Strings hx98) ?_
            refine goG F16 F17 ?_
            obtain ⟨g99, hs⟩ := guardO_some hs
            refine gsel_call (fun hg => at_ast_Count (under_call g99 hg)) (fun hg => by (try simp at hg); (first | simp [hg, F16]); try rfl) (fun hg => by (try simp at hg); simp [hg, F16]) (by simp) ?_
            refine goG F16 F17 ?_
            obtain ⟨g100, hs⟩ := guardO_some hs
            refine gsel_cast (andB y97 (eqI ((ast_Count l23).getD default) 3)) (by first | rfl | simp [F16]) ?_
            refine gsel_call (fun hg => at_law16_local (under_call g100 hg)) (fun hg => by (try simp [F16] at hg); (first | simp [hg, F16]); try rfl) (fun hg => by (try simp [F16] at hg); simp [hg, F16]) (by simp) ?_
            refine goG F16 F17 ?_
            obtain ⟨g101, hs⟩ := guardO_some hs
            refine gsel_cast (andB y97 (eqI ((ast_Count l23).getD default) 3)) (by first | rfl | simp [F16]) ?_
            refine gsel_call (fun hg => at_law16_local (under_call g101 hg)) (fun hg => by (try simp [F16] at hg); (first | simp [hg, F16]); try rfl) (fun hg => by (try simp [F16] at hg); simp [hg, F16]) (by simp) ?_
            refine goG F16 F17 ?_
            obtain ⟨g102, hs⟩ := guardO_some hs
            refine gsel_cast (andB y97 (eqI ((ast_Count l23).getD default) 3)) (by first | rfl | simp [F16]) ?_
            refine gsel_call (fun hg => at_law16_sum (under_call g102 hg)) (fun hg => by (try simp [F16] at hg); (first | simp [hg, F16]); try rfl) (fun hg => by (try simp [F16] at hg); simp [hg, F16]) (by simp) ?_
            refine goG F16 F17 ?_
            refine gsel_cast (andB y97 (eqI ((ast_Count l23).getD default) 3)) (by first | rfl | simp [F16]) ?_
            refine gsel_split (fun h103 => ?_) (fun h103 => ?_)
            · replace hs := condT h103 hs
              have h103s := h103
              try simp [F16] at h103s
              revert hs; refine lK fun l104 hx105 hs => ?_
              have hx105n : l104.length = 1 := by rw [hx105]; rfl
              have F18 := an F16 (an h103s (an h103 hx105))
              have F19 := an F18 (an hx37b (an hx42b (an hx58b (an hx61b hx64b))))
              refine goG F18 F19 ?_
              revert hs; refine bK fun y106 hx107 hs => ?_
              refine cA F18 (at_ast_CheckExpr hx107) ?_
              refine goG F18 F19 ?_
              refine gsel_split (fun h108 => ?_) (fun h108 => ?_)
              · replace hs := condT h108 hs
                revert hs; refine lK fun l109 hx110 hs => ?_
                have hx110n : l109.length = 1 := by rw [hx110]; rfl
                have F20 := an F18 (an h108 hx110)
                have F21 := an F20 (an hx37b (an hx42b (an hx58b (an hx61b hx64b))))
                refine goG F20 F21 ?_
                revert hs; refine bK fun y111 hx112 hs => ?_
                refine cA F20 (at_ast_CheckExpr hx112) ?_
                refine goG F20 F21 ?_
                obtain ⟨g113, hs⟩ := guardO_some hs
                refine gsel_call (fun hg => at_ast_Depth (under_call g113 hg)) (fun hg => by (try simp at hg); (first | simp [hg, F20]); try rfl) (fun hg => by (try simp at hg); simp [hg, F20]) (by simp) ?_
                refine goG F20 F21 ?_
                obtain rfl := sj hs
                exact hQ _ _ (rg F20 (Gh.refl _))
              · replace hs := condF h108 hs
                have F22 := an F18 h108
                have F23 := an F22 (an hx37b (an hx42b (an hx58b (an hx61b hx64b))))
                refine goG F22 F23 ?_
                obtain rfl := sj hs
                exact hQ _ _ (rg F22 (Gh.refl _))
            · replace hs := condF h103 hs
              have h103s := h103
              try simp [F16] at h103s
              have F24 := an F16 (an h103s h103)
              have F25 := an F24 (an hx37b (an hx42b (an hx58b (an hx61b hx64b))))
              refine goG F24 F25 ?_
              obtain rfl := sj hs
              exact hQ _ _ (rg F24 (Gh.refl _))
          · replace hs := condF h94 hs
            simp only [Bool.not_eq_true', Bool.not_eq_false', Bool.not_not] at h94
            have F26 := an F14 h94
            have F27 := an F26 (an hx37b (an hx42b (an hx58b (an hx61b hx64b))))
            refine goG F26 F27 ?_
            obtain rfl := sj hs
            exact hQ _ _ (rg F26 (Gh.refl _))
        · replace hs := condF h90 hs
          have F28 := an F12 h90
          have F29 := an F28 (an hx37b (an hx42b (an hx58b (an hx61b hx64b))))
          refine goG F28 F29 ?_
          obtain rfl := sj hs
          exact hQ _ _ (rg F28 (Gh.refl _))
    · replace hs := condF h39 hs
      revert hs; refine lK fun l115 hx116 hs => ?_
      have f114 : (oencL y31.Procs).set (2) (.own (.sl 9 x36.Body.length (otL x36.Body))) = oencL l115 := by rw [hx116]; exact oencL_set hx37 (f := 2) (by simp) (by first | rfl | (simp; done) | (simp; rfl))
      have f114n : l115.length = y31.Procs.length := by rw [hx116]; simp
      have f114t : (oencL x36.Body).take (x36.Body.length * 9) = oencL x36.Body := oencL_takeN _ (by simp)
      have f114u : x36.Body.length = x36.Body.length → (oencL x36.Body).take (x36.Body.length * 9) = oencL x36.Body := fun h => by rw [← h]; exact oencL_takeN _ (by simp)
      have f114v : x36.Body.length = x36.Body.length → (oencL y31.Procs).set (2) (.own (.sl 9 x36.Body.length (otL x36.Body))) = oencL l115 := fun h => by rw [← h]; exact f114
      have f114w : ∀ n : Nat, n = l115.length → (encL l115).take (n * 3) = encL l115 := fun n h => by rw [h]; exact encL_takeN _ (by simp)
      have F30 := an F4 (an h39 (an f114 (an f114n (an f114t (an f114u (an f114v f114w))))))
      have F31 := an F30 hx37b
      repeat (first | simp [F30] | with_reducible first | refine And.intro (by omega) ?_ | refine optF_if (by omega) ?_ | refine gsel_pure (by with_unfolding_all rfl) _ (fun hg => by (try simp at hg); first | (simp [hg, F31]; rfl) | (simp [F30]; simp only [if_pos hg]; simp [F30]; rfl)) ?_)
      refine awp_gh (by rfl) (Gh.close _ (.o 6 1 3) (2)) ?_
      try simp only [St.frz, St.pur]
      refine goR F30 ?_
      obtain rfl := sj hs
      exact hQ _ _ (rg F30 (Gh.refl _))
  · replace hs := condF h35 hs
    have F32 := an F3 h35
    refine goG F32 F32 ?_
    refine goR F32 ?_
    obtain rfl := sj hs
    exact hQ _ _ (rg F32 (Gh.refl _))
end Go.Dc
end
section
set_option linter.all false
namespace Go.Dc
open Go Go.Hw Go.Proofs
set_option maxRecDepth 100000

def law16_AstCheck (fuelN : Nat) (a0 : UnitT) : Option Bool :=
  Option.bind (r16_Few fuelN a0) (fun y1 => cond (!y1) (Option.bind (law16_awake fuelN) (fun y4 => some y4)) (Option.bind (ast_Check fuelN a0) (fun y6 => Option.bind (r16_Check fuelN a0) (fun y8 => Option.bind (law16_awake fuelN) (fun y10 => some (andB (andB (andB y10 (eqI y6.1 y8.1)) (eqI y6.2.1 y8.2.1)) (eqI y6.2.2 y8.2.2)))))))

set_option maxHeartbeats 2000000 in
theorem at_law16_AstCheck {fuelN : Nat} {a0 : UnitT} {r : Bool} (hs : law16_AstCheck fuelN a0 = some r) : At Tryd.prog 7 [.agg (eA a0)] (bV r) := by
  refine at_bound (by kernel_rfl) fun hb => ?_
  have hb1 : LenOk (.sl a0.Vars.length (encL a0.Vars)) := lkc hb
  have hb2 : LenOk (.sl a0.Mutexes.length (encL a0.Mutexes)) := lkc hb
  have hb3 : LenOk (.sl a0.Conds.length (encL a0.Conds)) := lkc hb
  have hb4 : LenOk (.sl a0.Procs.length (encL a0.Procs)) := lkc hb
  have hb5 : LenOk (.sl a0.Threads.length (encL a0.Threads)) := lkc hb
  refine at_code mixed Tryd.func7 (by kernel_rfl) rfl (by kernel_rfl) rfl fun Q hQ => ?_
  rw [law16_AstCheck] at hs
  refine goR f0 ?_
  revert hs; refine bK fun y1 hx2 hs => ?_
  refine cP f0 (at_r16_Few hx2) ?_
  refine goR f0 ?_
  revert hs; refine cS f0 ?_ ?_ <;> intro h3 hs
  · refine goR f0 ?_
    revert hs; refine bK fun y4 hx5 hs => ?_
    refine cP f0 (at_law16_awake hx5) ?_
    refine goR f0 ?_
    obtain rfl := sj hs
    exact hQ _ _ (rg f0 (Gh.refl _))
  · refine goR f0 ?_
    revert hs; refine bK fun y6 hx7 hs => ?_
    refine cP f0 (at_ast_Check hx7) ?_
    refine goR f0 ?_
    revert hs; refine bK fun y8 hx9 hs => ?_
    refine cP f0 (at_r16_Check hx9) ?_
    refine goR f0 ?_
    revert hs; refine bK fun y10 hx11 hs => ?_
    refine cP f0 (at_law16_awake hx11) ?_
    refine goG f0 f0 ?_
    obtain rfl := sj hs
    exact hQ _ _ (rg f0 (Gh.refl _))
end Go.Dc
end
section
set_option linter.all false
namespace Go.Dc
open Go Go.Hw Go.Proofs
set_option maxRecDepth 100000

def law16_AstExpr (fuelN : Nat) (a0 : Expr) (a1 : List ByteArray) : Option Bool :=
  Option.bind (r16_FewExpr fuelN a0) (fun y1 => cond (orB (!y1) (ltI 100 ((a1.length : Nat) : Int))) (Option.bind (law16_awake fuelN) (fun y4 => some y4)) (Option.bind (law16_awake fuelN) (fun y12 => guardO (orB (!y12) ((ast_CheckExpr fuelN a0 a1).isSome)) (guardO (orB (!y12) ((r16_CheckExpr fuelN a0 a1).isSome)) (guardO (orB (!(andB y12 (eqI ((ast_CheckExpr fuelN a0 a1).getD default) ((r16_CheckExpr fuelN a0 a1).getD default)))) ((ast_Depth fuelN a0).isSome)) (guardO (orB (!(andB y12 (eqI ((ast_CheckExpr fuelN a0 a1).getD default) ((r16_CheckExpr fuelN a0 a1).getD default)))) ((r16_Depth fuelN a0).isSome)) (some (andB (andB y12 (eqI ((ast_CheckExpr fuelN a0 a1).getD default) ((r16_CheckExpr fuelN a0 a1).getD default))) (eqI ((ast_Depth fuelN a0).getD default) ((r16_Depth fuelN a0).getD default))))))))))

end Go.Dc
end
section
set_option linter.all false
namespace Go.Dc
open Go Go.Hw Go.Proofs
set_option maxRecDepth 100000

def law16_AstShape (fuelN : Nat) (a0 : Proc) : Option Bool :=
  Option.bind (some ([a0])) (fun l1 => Option.bind (r16_Few fuelN ({ Vars := [], Mutexes := [], Conds := [], Procs := l1, Threads := [] } : UnitT)) (fun y3 => cond (!y3) (Option.bind (law16_awake fuelN) (fun y6 => some y6)) (Option.bind (law16_awake fuelN) (fun y15 => guardO (orB (!y15) ((ast_Locals a0).isSome)) (guardO (orB (!y15) ((r16_Locals fuelN a0).isSome)) (guardO (orB (!y15) ((r16_Strings ((ast_Locals a0).getD default) ((r16_Locals fuelN a0).getD default)).isSome)) (guardO (orB (!(andB y15 ((r16_Strings ((ast_Locals a0).getD default) ((r16_Locals fuelN a0).getD default)).getD default))) ((ast_Count a0.Body).isSome)) (guardO (orB (!(andB y15 ((r16_Strings ((ast_Locals a0).getD default) ((r16_Locals fuelN a0).getD default)).getD default))) ((r16_Count fuelN a0.Body).isSome)) (some (andB (andB y15 ((r16_Strings ((ast_Locals a0).getD default) ((r16_Locals fuelN a0).getD default)).getD default)) (eqI ((ast_Count a0.Body).getD default) ((r16_Count fuelN a0.Body).getD default))))))))))))

end Go.Dc
end
section
set_option linter.all false
namespace Go.Dc.Pl
open Go Go.Hw Go.Dc
set_option maxRecDepth 100000 in
theorem awake_true : law16_awake 2097160 = some true := by kernel_rfl
theorem law_check {u : UnitT} (h : Sm u) : law16_AstCheck 2097160 u = some true := by
  obtain ⟨b, hb⟩ := few_some (N := 2097160) h (by omega)
  rw [law16_AstCheck, hb, Option.bind_some, awake_true, own_check h (by omega), ref_check h (by omega)]
  cases b <;> simp [andB_d, eqI_d]
end Go.Dc.Pl
end
section
set_option linter.all false
namespace Go.Hw
variable [Globals]
section
variable {H : Type} {enc : TypeId × Value → H} {P : Program} {w : World} {sp : Nat → Bool} {held : Bool}
end
end Go.Hw
end
section
set_option linter.all false
namespace Go.Hw
variable [Globals]
def okT (P : Program) (S : List TypeId) (t : TypeId) : Bool := match P.underlying t with
  | some .bool => P.cellsOf t == 1
  | some (.int _) => P.cellsOf t == 1
  | some .string => P.cellsOf t == 1
  | some (.slice e) => S.contains e && P.cellsOf t == 1
  | some (.struct fs) => fs.toList.all (fun f => S.contains f.type) && contig P 0 fs.toList == some (P.cellsOf t)
  | some (.array k e) => S.contains e && P.cellsOf t == k * P.cellsOf e
  | _ => false
def okS (P : Program) (S : List TypeId) : Bool := S.all (okT P S)
section
variable {H : Type} {enc : TypeId × Value → H} {P : Program} {w : World} {sp : Nat → Bool} {held : Bool} {bad : Nat → Prop} {S : List TypeId}
theorem trodW_fields {n : Nat} (ih : ∀ (t : TypeId) (cs : List Value) (x : DataW H × List MemPlace), t ∈ S → DataW.trod enc P w 0 sp held n t cs = some x → ∃ cvs, cvD P n t x.1 = some cvs ∧ CReps w bad cs cvs) {cs : List Value} :
    ∀ (fl : List Field) (xs : List (DataW H × List MemPlace)) (off tot : Nat), (∀ f ∈ fl, f.type ∈ S) → contig P off fl = some tot → xs.length = fl.length →
      (∀ (i : Nat) (f : Field), fl[i]? = some f → DataW.trod enc P w 0 sp held n f.type ((cs.drop f.offset).take (P.cellsOf f.type)) = xs[i]?) →
      ∃ cvs, concatM (List.zipWith (fun f d => cvD P n f.type d) fl (xs.map (·.1))) = some cvs ∧ CReps w bad ((cs.drop off).take (tot - off)) cvs
  | [], xs, off, tot, _, hc, hl, _ => by
    simp [contig] at hc
    subst hc
    exact ⟨[], by simp [concatM], by simpa using CReps.nil⟩
  | f :: r, [], off, tot, _, _, hl, _ => by simp at hl
  | f :: r, x :: xs, off, tot, hp, hc, hl, ht => by
    rw [contig] at hc
    split at hc
    · rename_i ho
      have h0 := ht 0 f rfl
      simp at h0
      rw [ho] at h0
      obtain ⟨c1, e1, r1⟩ := ih f.type _ x (hp f (by simp)) h0
      obtain ⟨c2, e2, r2⟩ := trodW_fields ih r xs (off + P.cellsOf f.type) tot (fun g hg => hp g (by simp [hg])) hc (by simpa using hl) (fun i g hg => by simpa using ht (i + 1) g (by simpa using hg))
      refine ⟨c1 ++ c2, ?_, ?_⟩
      · simp only [List.map_cons, List.zipWith_cons_cons, e1, concatM, e2, Option.map_some]
      · rw [drop_split cs (contig_le hc)]
        exact r1.append r2
    · cases hc
theorem trodW_elems {n : Nat} {e : TypeId} (ih : ∀ (cs : List Value) (x : DataW H × List MemPlace), DataW.trod enc P w 0 sp held n e cs = some x → ∃ cvs, cvD P n e x.1 = some cvs ∧ CReps w bad cs cvs) {cs : List Value} :
    ∀ (xs : List (DataW H × List MemPlace)) (i0 : Nat), (∀ i, i < xs.length → DataW.trod enc P w 0 sp held n e ((cs.drop ((i0 + i) * P.cellsOf e)).take (P.cellsOf e)) = xs[i]?) →
      ∃ cvs, concatM ((xs.map (·.1)).map (cvD P n e)) = some cvs ∧ CReps w bad ((cs.drop (i0 * P.cellsOf e)).take (xs.length * P.cellsOf e)) cvs
  | [], i0, _ => ⟨[], by simp [concatM], by simpa using CReps.nil⟩
  | x :: xs, i0, ht => by
    have h0 := ht 0 (by simp)
    simp at h0
    obtain ⟨c1, e1, r1⟩ := ih _ x h0
    obtain ⟨c2, e2, r2⟩ := trodW_elems ih xs (i0 + 1) (fun i hi => by
      have := ht (i + 1) (by simpa using hi)
      rw [show i0 + (i + 1) = i0 + 1 + i by omega] at this
      simpa using this)
    refine ⟨c1 ++ c2, by simp only [List.map_cons, e1, concatM, e2, Option.map_some], ?_⟩
    have h1 : (i0 + 1) * P.cellsOf e = i0 * P.cellsOf e + P.cellsOf e := by rw [Nat.succ_mul]
    rw [h1] at r2
    have h2 : (x :: xs).length * P.cellsOf e = P.cellsOf e + xs.length * P.cellsOf e := by rw [List.length_cons, Nat.succ_mul]; omega
    rw [h2, List.take_add, List.drop_drop]
    exact r1.append r2
theorem trodW_slots {n : Nat} {e : TypeId} {a : Addr} (ih : ∀ (cs : List Value) (x : DataW H × List MemPlace), DataW.trod enc P w 0 sp held n e cs = some x → ∃ cvs, cvD P n e x.1 = some cvs ∧ CReps w bad cs cvs) :
    ∀ (xs : List (DataW H × List MemPlace)) (i0 : Nat), (∀ i, i < xs.length → (w.cells? 0 (a.add ((i0 + i) * P.cellsOf e)) (P.cellsOf e)).bind (DataW.trod enc P w 0 sp held n e) = xs[i]?) →
      ∃ cvs raws, concatM ((xs.map (·.1)).map (cvD P n e)) = some cvs ∧ CReps w bad raws cvs ∧ raws.length = xs.length * P.cellsOf e ∧ ∀ j u, raws[j]? = some u → w.cell? (a.add (i0 * P.cellsOf e + j)) = some u
  | [], i0, _ => ⟨[], [], by simp [concatM], CReps.nil, by simp, by simp⟩
  | x :: xs, i0, ht => by
    have h0 := ht 0 (by simp)
    simp only [Nat.add_zero, List.getElem?_cons_zero, Option.bind_eq_some_iff] at h0
    obtain ⟨us, hu, h0⟩ := h0
    obtain ⟨c1, e1, r1⟩ := ih _ x h0
    obtain ⟨c2, raws, e2, r2, hl, hm⟩ := trodW_slots ih xs (i0 + 1) (fun i hi => by
      have := ht (i + 1) (by simpa using hi)
      rw [show i0 + (i + 1) = i0 + 1 + i by omega] at this
      simpa using this)
    obtain ⟨_, hul, huc⟩ := World.cells?_some hu
    refine ⟨c1 ++ c2, us ++ raws, by simp only [List.map_cons, e1, concatM, e2, Option.map_some], r1.append r2, ?_, fun j u hj => ?_⟩
    · rw [List.length_append, hul, hl, List.length_cons, Nat.succ_mul]; omega
    · rcases Nat.lt_or_ge j us.length with hj' | hj'
      · rw [List.getElem?_append_left hj'] at hj
        have := huc j (by omega)
        rw [addr_add] at this
        rw [this, hj]
      · rw [List.getElem?_append_right hj'] at hj
        have := hm _ u hj
        have h1 : (i0 + 1) * P.cellsOf e = i0 * P.cellsOf e + P.cellsOf e := by rw [Nat.succ_mul]
        rw [h1, Nat.add_assoc, show P.cellsOf e + (j - us.length) = j by omega] at this
        exact this
/-- What reads as_ a datum is its cells: types that may lead to themselves. -/
theorem trodW_cvs (hbad : ∀ b, ¬ bad b) (hS : okS P S = true) : ∀ (m : Nat) (t : TypeId) (cs : List Value) (x : DataW H × List MemPlace), t ∈ S → DataW.trod enc P w 0 sp held m t cs = some x → ∃ cvs, cvD P m t x.1 = some cvs ∧ CReps w bad cs cvs
  | 0, t, cs, x, _, h => by simp [DataW.trod] at h
  | m + 1, t, cs, x, hp, h => by
    have ih := trodW_cvs hbad hS m
    have hp := List.all_eq_true.1 hS t hp
    rw [okT] at hp
    split at hp
    · rename_i hu
      obtain ⟨b, rfl, rfl⟩ := DataW.trod_bool hu h
      exact ⟨[.c (.bool b)], by simp [cvD, hu], .single (.c _) rfl⟩
    · rename_i k hu
      obtain ⟨n, rfl, rfl, hw⟩ := DataW.trod_int hu h
      exact ⟨[.c (.int k n)], by simp only [cvD, hu]; rw [if_pos (by simpa [Lit.wf] using hw)], .single (.c _) rfl⟩
    · rename_i hu
      obtain ⟨s, rfl, rfl, _⟩ := DataW.trod_string hu h
      exact ⟨[.c (.string s)], by simp [cvD, hu], .single (.c _) rfl⟩
    · rename_i e hu
      simp only [Bool.and_eq_true, List.contains_iff_mem] at hp
      rcases DataW.trod_slice hu h with ⟨rfl, rfl⟩ | ⟨a, len, cap, elems, rest, n, hn, rfl, rfl, _, hlc, hcm, hel, hE, _, _⟩
      · exact ⟨[.sl 0 []], by simp [cvD, hu], .single (.sl none 0 0 [] [] (Nat.le_refl _) (Nat.zero_le _) rfl (by simp) (by simp) (by simp)) rfl⟩
      · obtain rfl : n = m := by omega
        obtain ⟨cvs, raws, e1, r1, hl, hm⟩ := trodW_slots (fun cs x h => ih e cs x hp.1 h) elems 0 (fun i hi => by simpa using hE i (by omega))
        refine ⟨[.sl elems.length cvs], by simp only [cvD, hu, e1, Option.map_some, List.length_map], .single ?_ rfl⟩
        rw [← hel]
        exact .sl (some a) _ cap raws cvs (by omega) hcm r1.len r1.one (fun j u hj => ⟨a, rfl, hbad _, by simpa using hm j u hj⟩) r1.rep
    · rename_i fs hu
      simp only [Bool.and_eq_true, beq_iff_eq, List.all_eq_true, List.contains_iff_mem] at hp
      obtain ⟨xs, n, hn, rfl, hcl, hxl, hF⟩ := DataW.trod_struct hu h
      obtain rfl : n = m := by omega
      obtain ⟨cvs, e1, r1⟩ := trodW_fields ih (cs := cs) fs.toList xs 0 (P.cellsOf t) hp.1 hp.2 (by simpa using hxl) (fun i f hf => hF i f (by simpa using hf))
      refine ⟨cvs, by simp only [cvD, hu, e1, List.length_map, hxl, if_true], ?_⟩
      have : (cs.drop 0).take (P.cellsOf t - 0) = cs := by rw [← hcl]; simp
      rwa [this] at r1
    · rename_i k e hu
      simp only [Bool.and_eq_true, beq_iff_eq, List.contains_iff_mem] at hp
      obtain ⟨xs, n, hn, rfl, hcl, hxl, hE⟩ := DataW.trod_array hu h
      obtain rfl : n = m := by omega
      obtain ⟨cvs, e1, r1⟩ := trodW_elems (fun cs x h => ih e cs x hp.1 h) (cs := cs) xs 0 (fun i hi => by simpa using hE i (by omega))
      refine ⟨cvs, by simp only [cvD, hu, e1, List.length_map, hxl, if_true], ?_⟩
      have : (cs.drop (0 * P.cellsOf e)).take (xs.length * P.cellsOf e) = cs := by
        rw [hxl, ← hp.2, ← hcl]; simp
      rwa [this] at r1
    · cases hp
open Go.WideShapes in
theorem repW_struct {t : TypeId} {fs : Array Field} {v : Value} {d : DataW H} {p : List MemPlace} {r : Go.Reach} {b0 : Nat} (hS : okS P S = true) (ht : t ∈ S) (hu : P.underlying t = some (.struct fs)) (hv : Value.okWide P w r b0 t v)
    (h : DataW.Trod enc P w 0 sp held t v d p) : ∃ m cvs, cvD P m t d = some cvs ∧ AVRep w m0 (fun _ => False) v (.agg (cvs.map .p)) := by
  obtain ⟨cs, rfl, hsz⟩ := okWide_struct hu hv
  obtain ⟨fuel, hf⟩ := h
  obtain ⟨cvs, e, hr⟩ := trodW_cvs (bad := Bad m0 (fun _ => False)) (fun b hb => (bad_m0).1 hb) hS fuel t _ _ ht hf
  have hr : CReps w (Bad m0 (fun _ => False)) cs.toList cvs := hr
  refine ⟨fuel, cvs, e, .agg cs _ (by have := hr.len; simpa using this) hr.one fun j u x hj hx => ?_⟩
  rw [List.getElem?_map, Option.map_eq_some_iff] at hx
  obtain ⟨c, hc, rfl⟩ := hx
  exact hr.rep j u c (by simpa using hj) hc
end
/-! What a datum's cells are, part by part. -/
theorem cvD_sliceW {H : Type} {P : Program} {n t e : Nat} {d : DataW H} {c : List CV} {α : Type} [Enc α] (hu : P.underlying t = some (.slice e)) (hg : ∀ m, m < n → ∀ (d : DataW H) c, cvD P m e d = some c → ∃ x : α, c = Enc.enc x) (h : cvD P n t d = some c) : ∃ L : List α, c = Enc.enc L := by
  cases n with
  | zero => simp [cvD] at h
  | succ n =>
    simp only [cvD, hu] at h
    split at h
    · cases h; exact ⟨[], rfl⟩
    · rename_i l sp
      rw [Option.map_eq_some_iff] at h
      obtain ⟨c', h, rfl⟩ := h
      obtain ⟨L, hL, rfl⟩ := concatM_map (fun d _ c hc => hg n (Nat.lt_succ_self _) d c hc) h
      exact ⟨L, by rw [← hL]; rfl⟩
    · cases h
theorem cvD_structW {H : Type} {P : Program} {n t : Nat} {d : DataW H} {c : List CV} {fs : Array Field} (hu : P.underlying t = some (.struct fs)) (h : cvD P n t d = some c) : ∃ m l, m < n ∧ d = .agg l ∧ l.length = fs.size ∧ concatM (List.zipWith (fun f d => cvD P m f.type d) fs.toList l) = some c := by
  cases n with
  | zero => simp [cvD] at h
  | succ n =>
    simp only [cvD, hu] at h
    split at h
    · rename_i l
      split at h
      · rename_i hl; exact ⟨n, l, Nat.lt_succ_self _, rfl, hl, h⟩
      · cases h
    · cases h
/-! Integers are within their kinds; how much a datum holds. -/
mutual
def okC : CV → Prop
  | .c (.int k n) => k.min ≤ n ∧ n ≤ k.max
  | .sl _ cs => okL cs
  | _ => True
def okL : List CV → Prop
  | [] => True
  | x :: r => okC x ∧ okL r
end
mutual
def bkC : CV → Nat
  | .c (.string s) => s.size + 1
  | .sl _ cs => bkL cs + 1
  | _ => 1
def bkL : List CV → Nat
  | [] => 0
  | x :: r => bkC x + bkL r
end
@[simp] theorem okL_nil : okL [] := by rw [okL]; trivial
@[simp] theorem okL_cons (x : CV) (r : List CV) : okL (x :: r) ↔ okC x ∧ okL r := by rw [okL]
@[simp] theorem bkL_nil : bkL [] = 0 := by rw [bkL]
@[simp] theorem bkL_cons (x : CV) (r : List CV) : bkL (x :: r) = bkC x + bkL r := by rw [bkL]
@[simp] theorem okL_append (a b : List CV) : okL (a ++ b) ↔ okL a ∧ okL b := by
  induction a with
  | nil => simp
  | cons x a ih => simp [ih, and_assoc]
@[simp] theorem bkL_append (a b : List CV) : bkL (a ++ b) = bkL a + bkL b := by
  induction a with
  | nil => simp
  | cons x a ih => simp [ih]; omega
@[simp] theorem bkC_sl (n : Nat) (cs : List CV) : bkC (.sl n cs) = bkL cs + 1 := by rw [bkC]
@[simp] theorem bkC_str (s : ByteArray) : bkC (.c (.string s)) = s.size + 1 := by rw [bkC]
@[simp] theorem bkC_int (k : IntKind) (n : Int) : bkC (.c (.int k n)) = 1 := by rw [bkC] <;> simp
@[simp] theorem bkC_bool (b : Bool) : bkC (.c (.bool b)) = 1 := by rw [bkC] <;> simp
@[simp] theorem okC_sl (n : Nat) (cs : List CV) : okC (.sl n cs) ↔ okL cs := by rw [okC]
@[simp] theorem okC_int (k : IntKind) (n : Int) : okC (.c (.int k n)) ↔ (k.min ≤ n ∧ n ≤ k.max) := by rw [okC]
theorem bkC_pos (c : CV) : 1 ≤ bkC c := by
  cases c with
  | c v => cases v <;> simp [bkC]
  | sl n cs => simp
  | _ => simp [bkC]
theorem bkL_encL {α : Type} [Enc α] : ∀ {l : List α} {x : α}, x ∈ l → bkL (Enc.enc x) ≤ bkL (encL l)
  | y :: r, x, hx => by
    rw [encL_cons, bkL_append]
    rcases List.mem_cons.1 hx with rfl | hx
    · omega
    · have := bkL_encL hx; omega
theorem bkL_len (l : List CV) : l.length ≤ bkL l := by
  induction l with
  | nil => simp
  | cons x l ih => have := bkC_pos x; simp; omega
theorem bkL_lenL {α : Type} [Enc α] (h : 1 ≤ Enc.sz α) (l : List α) : l.length ≤ bkL (encL l) := by
  have h1 := bkL_len (encL l)
  rw [encL_length] at h1
  exact Nat.le_trans (Nat.le_mul_of_pos_right _ h) h1
theorem concatM_ok : ∀ {l : List (Option (List CV))} {c : List CV}, (∀ o ∈ l, ∀ a, o = some a → okL a) → concatM l = some c → okL c
  | [], c, _, h => by simp [concatM] at h; subst h; simp
  | o :: r, c, hf, h => by
    obtain ⟨a, b, rfl, hb, rfl⟩ := concatM_cons h
    rw [okL_append]
    exact ⟨hf _ (by simp) a rfl, concatM_ok (fun o ho => hf o (by simp [ho])) hb⟩
theorem cvD_okL {H : Type} {P : Program} : ∀ (n : Nat) (t : TypeId) (d : DataW H) (c : List CV), cvD P n t d = some c → okL c
  | 0, t, d, c, h => by simp [cvD] at h
  | n + 1, t, d, c, h => by
    unfold cvD at h
    split at h
    · split at h
      · cases h; simp [okC]
      · cases h
    · split at h
      · split at h
        · rename_i hr; cases h; simpa using hr
        · cases h
      · cases h
    · split at h
      · cases h; simp [okC]
      · cases h
    · split at h
      · cases h; simp
      · rw [Option.map_eq_some_iff] at h
        obtain ⟨c', h, rfl⟩ := h
        simp only [okL_cons, okC_sl, okL_nil, and_true]
        refine concatM_ok (fun o ho a ha => ?_) h
        obtain ⟨d', _, rfl⟩ := List.mem_map.1 ho
        exact cvD_okL n _ d' a ha
      · cases h
    · split at h
      · split at h
        · refine concatM_ok (fun o ho a ha => ?_) h
          rw [List.mem_iff_getElem?] at ho
          obtain ⟨j, hj⟩ := ho
          rw [List.getElem?_zipWith] at hj
          split at hj
          · cases hj; exact cvD_okL n _ _ a ha
          · cases hj
        · cases h
      · cases h
    · split at h
      · split at h
        · refine concatM_ok (fun o ho a ha => ?_) h
          obtain ⟨d', _, rfl⟩ := List.mem_map.1 ho
          exact cvD_okL n _ d' a ha
        · cases h
      · cases h
    · cases h
section
variable {H : Type} (B : DataW H → Nat) (Bs : List (DataW H) → Nat) (hnil : Bs [] = 0) (hcons : ∀ d r, Bs (d :: r) = B d + Bs r)
include hnil hcons
theorem concatM_bk {f : DataW H → Option (List CV)} : ∀ {l : List (DataW H)} {c : List CV}, (∀ d ∈ l, ∀ a, f d = some a → bkL a ≤ B d) → concatM (l.map f) = some c → bkL c ≤ Bs l
  | [], c, _, h => by simp [concatM] at h; subst h; simp
  | d :: r, c, hf, h => by
    rw [List.map_cons] at h
    obtain ⟨a, b, ha, hb, rfl⟩ := concatM_cons h
    have h1 := hf d (by simp) a ha
    have h2 := concatM_bk (fun d hd => hf d (by simp [hd])) hb
    rw [bkL_append, hcons]; omega
theorem concatM_bkz {F : Field → DataW H → Option (List CV)} : ∀ {fl : List Field} {l : List (DataW H)} {c : List CV}, (∀ f ∈ fl, ∀ d ∈ l, ∀ a, F f d = some a → bkL a ≤ B d) → concatM (List.zipWith F fl l) = some c → bkL c ≤ Bs l
  | [], l, c, _, h => by simp [concatM] at h; subst h; simp
  | f :: fl, [], c, _, h => by simp [concatM] at h; subst h; simp
  | f :: fl, d :: r, c, hf, h => by
    rw [List.zipWith_cons_cons] at h
    obtain ⟨a, b, ha, hb, rfl⟩ := concatM_cons h
    have h1 := hf f (by simp) d (by simp) a ha
    have h2 := concatM_bkz (fun g hg d hd => hf g (by simp [hg]) d (by simp [hd])) hb
    rw [bkL_append, hcons]; omega
/-- The cells of a datum hold no more than the datum, by whatever measure counts its parts. -/
theorem cvD_bk {P : Program} (hlit : ∀ l, 1 ≤ B (.lit l)) (hstr : ∀ l, l.length + 1 ≤ B (.lit (.string l))) (hn : 1 ≤ B .nil) (hsl : ∀ l s, Bs l + 1 ≤ B (.slice l s)) (hag : ∀ l, Bs l ≤ B (.agg l)) : ∀ (n : Nat) (t : TypeId) (d : DataW H) (c : List CV), cvD P n t d = some c → bkL c ≤ B d
  | 0, t, d, c, h => by simp [cvD] at h
  | n + 1, t, d, c, h => by
    have ih := cvD_bk (P := P) hlit hstr hn hsl hag n
    unfold cvD at h
    split at h
    · split at h
      · cases h; simpa using hlit _
      · cases h
    · split at h
      · split at h
        · cases h; simpa using hlit _
        · cases h
      · cases h
    · split at h
      · rename_i l; cases h; have := hstr l; simpa [ByteArray.size] using this
      · cases h
    · split at h
      · cases h; simpa using hn
      · rename_i l s
        rw [Option.map_eq_some_iff] at h
        obtain ⟨c', h, rfl⟩ := h
        have h1 := concatM_bk B Bs hnil hcons (fun d' _ a ha => ih _ d' a ha) h
        have h2 := hsl l s
        simp; omega
      · cases h
    · split at h
      · rename_i l
        split at h
        · have h1 := concatM_bkz B Bs hnil hcons (F := fun f d => cvD P n f.type d) (fun f _ d' _ a ha => ih _ d' a ha) h
          have h2 := hag l
          omega
        · cases h
      · cases h
    · split at h
      · rename_i l
        split at h
        · have h1 := concatM_bk B Bs hnil hcons (fun d' _ a ha => ih _ d' a ha) h
          have h2 := hag l
          omega
        · cases h
      · cases h
    · cases h
end
end Go.Hw
end
section
set_option linter.all false
namespace Go.Dc.Pl
open Go Go.Hw Go.Dc
mutual
theorem nE_bk : ∀ e : Expr, nE e ≤ bkL (Enc.enc e)
  | ⟨a, b, c, d, l⟩ => by rw [nE, enc_Expr]; have := nL_bk l; simp; omega
theorem nL_bk : ∀ l : List Expr, nL l ≤ bkL (encL l)
  | [] => by simp
  | x :: r => by rw [encL_cons, bkL_append, nL_cons]; have := nE_bk x; have := nL_bk r; omega
end
mutual
theorem nS_bk : ∀ s : Stmt, nS s ≤ bkL (Enc.enc s)
  | ⟨a, b, c, d, e, f, g, h, i⟩ => by rw [nS, enc_Stmt]; have := nL_bk g; have := nSL_bk h; have := nSL_bk i; simp; omega
theorem nSL_bk : ∀ l : List Stmt, nSL l ≤ bkL (encL l)
  | [] => by simp
  | x :: r => by rw [encL_cons, bkL_append, nSL_cons]; have := nS_bk x; have := nSL_bk r; omega
end
theorem proc_bk (p : Proc) : nSL p.Body ≤ bkL (Enc.enc p) := by
  rw [enc_Proc]; have := nSL_bk p.Body; simp; omega
theorem sm_of {u : UnitT} {n : Nat} (h : bkL (Enc.enc u) ≤ n) (hn : n ≤ 1048576) : Sm u := by
  rw [enc_UnitT] at h
  have h1 := bkL_lenL (α := Var) (by simp) u.Vars
  have h2 := bkL_lenL (α := ByteArray) (by simp) u.Mutexes
  have h3 := bkL_lenL (α := ByteArray) (by simp) u.Conds
  have h4 := bkL_lenL (α := Proc) (by simp) u.Procs
  have h5 := bkL_lenL (α := Launch) (by simp) u.Threads
  simp at h
  exact ⟨by omega, by omega, by omega, by omega, by omega, fun p hp => by have := bkL_encL hp; have := proc_bk p; omega⟩
end Go.Dc.Pl
end
section
set_option linter.all false
namespace Go.Dc
open Go Go.Hw Go.Proofs
set_option maxRecDepth 100000
theorem dec9 {H : Type} : ∀ (n : Nat) (d : DataW H) (c : List CV), cvD Tryd.prog n 9 d = some c → ∃ x : ByteArray, c = Enc.enc x
  | n, d, c, h => by
    obtain ⟨m, rfl⟩ := cvD_string Tryd.underlying9 h
    exact ⟨m, rfl⟩
theorem dec3 {H : Type} : ∀ (n : Nat) (d : DataW H) (c : List CV), cvD Tryd.prog n 3 d = some c → ∃ x : Int, c = Enc.enc x
  | n, d, c, h => by
    obtain ⟨m, hm, rfl⟩ := cvD_int Tryd.underlying3 h
    exact ⟨m, rfl⟩
theorem dec69 {H : Type} : ∀ (n : Nat) (d : DataW H) (c : List CV), cvD Tryd.prog n 69 d = some c → ∃ x : Var, c = Enc.enc x
  | n, d, c, h => by
    obtain ⟨m, l, hm, rfl, hl, h⟩ := cvD_structW Tryd.underlying69 h
    have hl : l.length = 2 := hl
    match l, hl with
    | [d0, d1], _ =>
      simp only [List.zipWith] at h
      obtain ⟨a0, b0, h0, k1, rfl⟩ := concatM_cons h
      obtain ⟨a1, b1, h1, k2, rfl⟩ := concatM_cons k1
      obtain rfl := concatM_nil k2
      obtain ⟨x0, rfl⟩ := dec9 m _ _ h0
      obtain ⟨x1, rfl⟩ := dec3 m _ _ h1
      exact ⟨⟨x0, x1⟩, by rw [enc_Var]; rfl⟩
theorem dec37 {H : Type} : ∀ (n : Nat) (d : DataW H) (c : List CV), cvD Tryd.prog n 37 d = some c → ∃ x : List Var, c = Enc.enc x
  | n, d, c, h => cvD_sliceW Tryd.underlying37 (fun m hm d c h => dec69 m d c h) h
theorem dec38 {H : Type} : ∀ (n : Nat) (d : DataW H) (c : List CV), cvD Tryd.prog n 38 d = some c → ∃ x : List ByteArray, c = Enc.enc x
  | n, d, c, h => cvD_sliceW Tryd.underlying38 (fun m hm d c h => dec9 m d c h) h
theorem dec64 {H : Type} : ∀ (n : Nat) (d : DataW H) (c : List CV), cvD Tryd.prog n 64 d = some c → ∃ x : Int, c = Enc.enc x
  | n, d, c, h => by
    obtain ⟨m, hm, rfl⟩ := cvD_int Tryd.underlying64 h
    exact ⟨m, rfl⟩
theorem dec47 {H : Type} : ∀ (n : Nat) (d : DataW H) (c : List CV), cvD Tryd.prog n 47 d = some c → ∃ x : Int, c = Enc.enc x
  | n, d, c, h => by
    obtain ⟨m, hm, rfl⟩ := cvD_int Tryd.underlying47 h
    exact ⟨m, rfl⟩
theorem dec65 {H : Type} : ∀ (n : Nat) (d : DataW H) (c : List CV), cvD Tryd.prog n 65 d = some c → ∃ x : Int, c = Enc.enc x
  | n, d, c, h => by
    obtain ⟨m, hm, rfl⟩ := cvD_int Tryd.underlying65 h
    exact ⟨m, rfl⟩
theorem dec46 {H : Type} : ∀ (n : Nat) (d : DataW H) (c : List CV), cvD Tryd.prog n 46 d = some c → ∃ x : Int, c = Enc.enc x
  | n, d, c, h => by
    obtain ⟨m, hm, rfl⟩ := cvD_int Tryd.underlying46 h
    exact ⟨m, rfl⟩
mutual
theorem dec50 {H : Type} : ∀ (n : Nat) (d : DataW H) (c : List CV), cvD Tryd.prog n 50 d = some c → ∃ x : Expr, c = Enc.enc x
  | n, d, c, h => by
    obtain ⟨m, l, hm, rfl, hl, h⟩ := cvD_structW Tryd.underlying50 h
    have hl : l.length = 5 := hl
    match l, hl with
    | [d0, d1, d2, d3, d4], _ =>
      simp only [List.zipWith] at h
      obtain ⟨a0, b0, h0, k1, rfl⟩ := concatM_cons h
      obtain ⟨a1, b1, h1, k2, rfl⟩ := concatM_cons k1
      obtain ⟨a2, b2, h2, k3, rfl⟩ := concatM_cons k2
      obtain ⟨a3, b3, h3, k4, rfl⟩ := concatM_cons k3
      obtain ⟨a4, b4, h4, k5, rfl⟩ := concatM_cons k4
      obtain rfl := concatM_nil k5
      obtain ⟨x0, rfl⟩ := dec46 m _ _ h0
      obtain ⟨x1, rfl⟩ := dec3 m _ _ h1
      obtain ⟨x2, rfl⟩ := dec9 m _ _ h2
      obtain ⟨x3, rfl⟩ := dec47 m _ _ h3
      obtain ⟨x4, rfl⟩ := dec48 m _ _ h4
      exact ⟨⟨x0, x1, x2, x3, x4⟩, by rw [enc_Expr]; rfl⟩
  termination_by n => n
theorem dec48 {H : Type} : ∀ (n : Nat) (d : DataW H) (c : List CV), cvD Tryd.prog n 48 d = some c → ∃ x : List Expr, c = Enc.enc x
  | n, d, c, h => cvD_sliceW Tryd.underlying48 (fun m hm d c h => dec50 m d c h) h
  termination_by n => n
end
mutual
theorem dec67 {H : Type} : ∀ (n : Nat) (d : DataW H) (c : List CV), cvD Tryd.prog n 67 d = some c → ∃ x : Stmt, c = Enc.enc x
  | n, d, c, h => by
    obtain ⟨m, l, hm, rfl, hl, h⟩ := cvD_structW Tryd.underlying67 h
    have hl : l.length = 9 := hl
    match l, hl with
    | [d0, d1, d2, d3, d4, d5, d6, d7, d8], _ =>
      simp only [List.zipWith] at h
      obtain ⟨a0, b0, h0, k1, rfl⟩ := concatM_cons h
      obtain ⟨a1, b1, h1, k2, rfl⟩ := concatM_cons k1
      obtain ⟨a2, b2, h2, k3, rfl⟩ := concatM_cons k2
      obtain ⟨a3, b3, h3, k4, rfl⟩ := concatM_cons k3
      obtain ⟨a4, b4, h4, k5, rfl⟩ := concatM_cons k4
      obtain ⟨a5, b5, h5, k6, rfl⟩ := concatM_cons k5
      obtain ⟨a6, b6, h6, k7, rfl⟩ := concatM_cons k6
      obtain ⟨a7, b7, h7, k8, rfl⟩ := concatM_cons k7
      obtain ⟨a8, b8, h8, k9, rfl⟩ := concatM_cons k8
      obtain rfl := concatM_nil k9
      obtain ⟨x0, rfl⟩ := dec64 m _ _ h0
      obtain ⟨x1, rfl⟩ := dec9 m _ _ h1
      obtain ⟨x2, rfl⟩ := dec9 m _ _ h2
      obtain ⟨x3, rfl⟩ := dec9 m _ _ h3
      obtain ⟨x4, rfl⟩ := dec47 m _ _ h4
      obtain ⟨x5, rfl⟩ := dec65 m _ _ h5
      obtain ⟨x6, rfl⟩ := dec48 m _ _ h6
      obtain ⟨x7, rfl⟩ := dec55 m _ _ h7
      obtain ⟨x8, rfl⟩ := dec55 m _ _ h8
      exact ⟨⟨x0, x1, x2, x3, x4, x5, x6, x7, x8⟩, by rw [enc_Stmt]; rfl⟩
  termination_by n => n
theorem dec55 {H : Type} : ∀ (n : Nat) (d : DataW H) (c : List CV), cvD Tryd.prog n 55 d = some c → ∃ x : List Stmt, c = Enc.enc x
  | n, d, c, h => cvD_sliceW Tryd.underlying55 (fun m hm d c h => dec67 m d c h) h
  termination_by n => n
end
theorem dec57 {H : Type} : ∀ (n : Nat) (d : DataW H) (c : List CV), cvD Tryd.prog n 57 d = some c → ∃ x : Proc, c = Enc.enc x
  | n, d, c, h => by
    obtain ⟨m, l, hm, rfl, hl, h⟩ := cvD_structW Tryd.underlying57 h
    have hl : l.length = 3 := hl
    match l, hl with
    | [d0, d1, d2], _ =>
      simp only [List.zipWith] at h
      obtain ⟨a0, b0, h0, k1, rfl⟩ := concatM_cons h
      obtain ⟨a1, b1, h1, k2, rfl⟩ := concatM_cons k1
      obtain ⟨a2, b2, h2, k3, rfl⟩ := concatM_cons k2
      obtain rfl := concatM_nil k3
      obtain ⟨x0, rfl⟩ := dec9 m _ _ h0
      obtain ⟨x1, rfl⟩ := dec9 m _ _ h1
      obtain ⟨x2, rfl⟩ := dec55 m _ _ h2
      exact ⟨⟨x0, x1, x2⟩, by rw [enc_Proc]; rfl⟩
theorem dec39 {H : Type} : ∀ (n : Nat) (d : DataW H) (c : List CV), cvD Tryd.prog n 39 d = some c → ∃ x : List Proc, c = Enc.enc x
  | n, d, c, h => cvD_sliceW Tryd.underlying39 (fun m hm d c h => dec57 m d c h) h
theorem dec108 {H : Type} : ∀ (n : Nat) (d : DataW H) (c : List CV), cvD Tryd.prog n 108 d = some c → ∃ x : Launch, c = Enc.enc x
  | n, d, c, h => by
    obtain ⟨m, l, hm, rfl, hl, h⟩ := cvD_structW Tryd.underlying108 h
    have hl : l.length = 2 := hl
    match l, hl with
    | [d0, d1], _ =>
      simp only [List.zipWith] at h
      obtain ⟨a0, b0, h0, k1, rfl⟩ := concatM_cons h
      obtain ⟨a1, b1, h1, k2, rfl⟩ := concatM_cons k1
      obtain rfl := concatM_nil k2
      obtain ⟨x0, rfl⟩ := dec9 m _ _ h0
      obtain ⟨x1, rfl⟩ := dec3 m _ _ h1
      exact ⟨⟨x0, x1⟩, by rw [enc_Launch]; rfl⟩
theorem dec40 {H : Type} : ∀ (n : Nat) (d : DataW H) (c : List CV), cvD Tryd.prog n 40 d = some c → ∃ x : List Launch, c = Enc.enc x
  | n, d, c, h => cvD_sliceW Tryd.underlying40 (fun m hm d c h => dec108 m d c h) h
theorem dec42 {H : Type} : ∀ (n : Nat) (d : DataW H) (c : List CV), cvD Tryd.prog n 42 d = some c → ∃ x : UnitT, c = Enc.enc x
  | n, d, c, h => by
    obtain ⟨m, l, hm, rfl, hl, h⟩ := cvD_structW Tryd.underlying42 h
    have hl : l.length = 5 := hl
    match l, hl with
    | [d0, d1, d2, d3, d4], _ =>
      simp only [List.zipWith] at h
      obtain ⟨a0, b0, h0, k1, rfl⟩ := concatM_cons h
      obtain ⟨a1, b1, h1, k2, rfl⟩ := concatM_cons k1
      obtain ⟨a2, b2, h2, k3, rfl⟩ := concatM_cons k2
      obtain ⟨a3, b3, h3, k4, rfl⟩ := concatM_cons k3
      obtain ⟨a4, b4, h4, k5, rfl⟩ := concatM_cons k4
      obtain rfl := concatM_nil k5
      obtain ⟨x0, rfl⟩ := dec37 m _ _ h0
      obtain ⟨x1, rfl⟩ := dec38 m _ _ h1
      obtain ⟨x2, rfl⟩ := dec38 m _ _ h2
      obtain ⟨x3, rfl⟩ := dec39 m _ _ h3
      obtain ⟨x4, rfl⟩ := dec40 m _ _ h4
      exact ⟨⟨x0, x1, x2, x3, x4⟩, by rw [enc_UnitT]; rfl⟩
theorem closed : okS Tryd.prog [42, 37, 69, 9, 3, 38, 39, 57, 55, 67, 64, 47, 65, 48, 50, 46, 40, 108] = true := by kernel_rfl
theorem bulk_of {H : Type} {n : Nat} {t : TypeId} {d : DataW H} {c : List CV} (h : cvD Tryd.prog n t d = some c) : bkL c ≤ Go.Proofs.YtihjddokgmjafaaDoor.Rows.uptoBulk d :=
  cvD_bk Go.Proofs.YtihjddokgmjafaaDoor.Rows.uptoBulk Go.Proofs.YtihjddokgmjafaaDoor.Rows.uptoBulkAll (by simp [Go.Proofs.YtihjddokgmjafaaDoor.Rows.uptoBulkAll]) (fun d r => by simp [Go.Proofs.YtihjddokgmjafaaDoor.Rows.uptoBulkAll]) (fun l => by cases l <;> simp [Go.Proofs.YtihjddokgmjafaaDoor.Rows.uptoBulk]) (fun l => by simp [Go.Proofs.YtihjddokgmjafaaDoor.Rows.uptoBulk]) (by simp [Go.Proofs.YtihjddokgmjafaaDoor.Rows.uptoBulk]) (fun l s => by simp only [Go.Proofs.YtihjddokgmjafaaDoor.Rows.uptoBulk]; omega) (fun l => by simp only [Go.Proofs.YtihjddokgmjafaaDoor.Rows.uptoBulk]; omega) n t d c h
theorem open42 {H : Type} {enc : TypeId × Value → H} {W : World} {sp : Nat → Bool} {held : Bool} {v : Value} {d : DataW H} {p : List MemPlace} {r : Go.Reach} {b0 : Nat} (hv : Value.okWide Tryd.prog W r b0 42 v) (h : DataW.Trod enc Tryd.prog W 0 sp held 42 v d p) :
    ∃ x : UnitT, (okL (Enc.enc x) ∧ bkL (Enc.enc x) ≤ Go.Proofs.YtihjddokgmjafaaDoor.Rows.uptoBulk d) ∧ AVRep W m0 (fun _ => False) v (.agg ((Enc.enc x).map .p)) := by
  obtain ⟨m, cvs, e, hr⟩ := repW_struct closed (by decide) Tryd.underlying42 hv h
  obtain ⟨x, rfl⟩ := dec42 m d cvs e
  exact ⟨x, ⟨cvD_okL _ _ _ _ e, bulk_of e⟩, hr⟩
/-- The package variables as the rows lay them. -/
theorem gN1 : Tryd.prog.globalNamed "modelcheck/ast.keywords" = some 1 := by kernel_rfl
theorem gT1 : (Tryd.prog.globals[1]?).map (·.type) = some 194 := by kernel_rfl
set_option maxRecDepth 100000 in
theorem gC1 : cvD Tryd.prog 6 194 (Go.Proofs.YtihjddokgmjafaaDoor.Rows.laid_modelcheck_ast_keywords (H := Unit)) = some (encL keywordsTab) := by kernel_rfl
set_option maxRecDepth 100000 in
theorem globs {W : World} (laid : List (String × DataW Unit)) (he : laid = [("modelcheck/ast.keywords", Go.Proofs.YtihjddokgmjafaaDoor.Rows.laid_modelcheck_ast_keywords)])
    (h : laidMetH Tryd.prog laid W) : ∀ g cs, Globals.G g = some cs → AVRep W m0 (fun _ => False) (.pointer (some ⟨g, 0, none⟩)) (.cell (.ep cs 0)) := by
  subst he
  rw [MakeChecks.laidMetH_plain _ _ _ (by kernel_rfl)] at h
  obtain ⟨ps, ⟨g0, t0, cs0, f0, p0, q0, hg0, ht0, hv0, hd0, _, _⟩, _, _⟩ := h
  obtain rfl := Option.some.inj (gN1.symm.trans hg0)
  obtain rfl := Option.some.inj (gT1.symm.trans ht0)
  intro g cs hgc
  have hgc : (if g = 1 then some (encL keywordsTab) else none) = some cs := hgc
  split at hgc
  · rename_i e
    subst e
    cases hgc
    exact rep_global (m := 6) (t := 194) (by kernel_rfl) hd0 gC1 fun j => by simpa using World.var?_cell hg0 hv0 j
  · cases hgc
end Go.Dc
end
