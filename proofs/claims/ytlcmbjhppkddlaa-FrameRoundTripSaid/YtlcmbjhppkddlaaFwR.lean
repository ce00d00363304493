/- From a contract to a call: the arguments of a law. -/
import Derived.Test.YtlcmbjhppkddlaaFwQ
namespace Go.Fw
open Go.RowKit (Below)

theorem at_calls {P : Program} {f : FuncId} {args : List AV} {b : Bool} (h : At P f args (bV b)) {w : World} {vs : Array Value} (hsz : vs.size = args.length)
    (hr : ∀ (j : Nat) (u : Value) (x : AV), vs[j]? = some u → args[j]? = some x → AVRep w noneF (beta0 fun _ => False) u x) :
    Calls P f vs w fun e w' => e = .returned (.bool b) ∧ Below w.heap.size w w' := by
  refine (h.2 w vs (fun _ => False) (fun _ h => h.elim) hsz hr).mono ?_
  rintro e w' ⟨v, ρr, rfl, hb, _, _, hv⟩
  exact ⟨by rw [rep_c hv], hb⟩

/-- A slice of integers that came in: nil, or a row of cells. -/
theorem rep_ints {k : IntKind} {w : World} {a : Option Addr} {len cap : Nat} {zs : List Int}
    (h : (a = none ∧ len = 0 ∧ cap = 0 ∧ zs = []) ∨ ∃ x, a = some x ∧ len ≤ cap ∧ cap ≤ maxLen ∧ zs.length = cap ∧ (∀ i, i < zs.length → w.cell? (x.add i) = some (.int k (zs.getD i 0))) ∧ ∀ n ∈ zs, (Lit.int k n).wf = true)
 :
    ∃ l : List Int, l.length = len ∧ (∀ n ∈ l, (Lit.int k n).wf = true) ∧ AVRep w noneF (beta0 fun _ => False) (.slice a len cap) (.cell (.p (.sl len (l.map fun n => .c (.int k n))))) := by
  rcases h with ⟨rfl, rfl, rfl, rfl⟩ | ⟨x, rfl, hlc, hm, hz, hc, hwf⟩
  · exact ⟨[], rfl, by simp, .cell _ _ (.sl none 0 0 [] [] (Nat.le_refl _) (Nat.zero_le _) rfl (by simp) (by simp) (by simp))⟩
  · refine ⟨zs.take len, by simp; omega, fun n hn => hwf n (List.mem_of_mem_take hn), .cell _ _ (.sl (some x) len cap ((zs.take len).map (Value.int k)) _ hlc hm (by simp) ?_ ?_ ?_)⟩
    · intro u hu; rw [List.mem_map] at hu; obtain ⟨n, _, rfl⟩ := hu; rfl
    · intro j u hj
      refine ⟨x, rfl, fun hb => (bad_none _ _).1 hb, ?_⟩
      simp only [List.getElem?_map, Option.map_eq_some_iff] at hj
      obtain ⟨n, hn, rfl⟩ := hj
      rw [List.getElem?_take] at hn
      split at hn
      · have hjz : j < zs.length := by
          rcases Nat.lt_or_ge j zs.length with h | h
          · exact h
          · rw [List.getElem?_eq_none h] at hn; cases hn
        rw [hc j hjz, List.getD_eq_getElem?_getD, hn]; rfl
      · cases hn
    · intro j u c hj hc'
      simp only [List.getElem?_map, Option.map_eq_some_iff] at hj hc'
      obtain ⟨n, hn, rfl⟩ := hj
      obtain ⟨n', hn', rfl⟩ := hc'
      rw [hn] at hn'; cases hn'
      exact .c _

theorem bytes_of_wf : ∀ (l : List Int), (∀ n ∈ l, (Lit.int .u8 n).wf = true) → ∃ b : List UInt8, b.length = l.length ∧ (l.map fun n => CV.c (.int .u8 n)) = bytesCV b
  | [], _ => ⟨[], rfl, rfl⟩
  | n :: l, h => by
    obtain ⟨b, hb, e⟩ := bytes_of_wf l (fun m hm => h m (by simp [hm]))
    have hn := h n (by simp)
    have h1 : 0 ≤ n ∧ n < 256 := by
      simp [Lit.wf] at hn
      have e1 : IntKind.u8.min = 0 := by decide
      have e2 : IntKind.u8.max = 255 := by decide
      omega
    refine ⟨UInt8.ofNat n.toNat :: b, by simp [hb], ?_⟩
    simp only [List.map_cons, e, bytesCV, byteCV]
    congr 3
    simp; omega

/-- A slice of bytes that came in. -/
theorem rep_bytes {w : World} {a : Option Addr} {len cap : Nat} {zs : List Int}
    (h : (a = none ∧ len = 0 ∧ cap = 0 ∧ zs = []) ∨ ∃ x, a = some x ∧ len ≤ cap ∧ cap ≤ maxLen ∧ zs.length = cap ∧ (∀ i, i < zs.length → w.cell? (x.add i) = some (.int .u8 (zs.getD i 0))) ∧ ∀ n ∈ zs, (Lit.int .u8 n).wf = true) :
    ∃ b : List UInt8, b.length = len ∧ AVRep w noneF (beta0 fun _ => False) (.slice a len cap) (bA b) := by
  obtain ⟨l, hl, hwf, hr⟩ := rep_ints h
  obtain ⟨b, hb, e⟩ := bytes_of_wf l hwf
  have : b.length = len := by omega
  subst this
  rw [e] at hr
  exact ⟨b, rfl, hr⟩
theorem rep_int (w : World) (k : IntKind) (n : Int) : AVRep w noneF (beta0 fun _ => False) (.int k n) (iV k n) := .cell _ _ (.c _)
theorem rep1 {w : World} {v : Value} {x : AV} (h : AVRep w noneF (beta0 fun _ => False) v x) : ∀ (j : Nat) (u : Value) (y : AV), #[v][j]? = some u → [x][j]? = some y → AVRep w noneF (beta0 fun _ => False) u y := by
  intro j u y hu hy
  match j, hu, hy with
  | 0, hu, hy => simp at hu hy; subst hu hy; exact h
  | j + 1, hu, hy => simp at hy
theorem rep2 {w : World} {v v' : Value} {x x' : AV} (h : AVRep w noneF (beta0 fun _ => False) v x) (h' : AVRep w noneF (beta0 fun _ => False) v' x') :
    ∀ (j : Nat) (u : Value) (y : AV), #[v, v'][j]? = some u → [x, x'][j]? = some y → AVRep w noneF (beta0 fun _ => False) u y := by
  intro j u y hu hy
  match j, hu, hy with
  | 0, hu, hy => simp at hu hy; subst hu hy; exact h
  | 1, hu, hy => simp at hu hy; subst hu hy; exact h'
  | j + 2, hu, hy => simp at hy
theorem rep3 {w : World} {v v' v'' : Value} {x x' x'' : AV} (h : AVRep w noneF (beta0 fun _ => False) v x) (h' : AVRep w noneF (beta0 fun _ => False) v' x') (h'' : AVRep w noneF (beta0 fun _ => False) v'' x'') :
    ∀ (j : Nat) (u : Value) (y : AV), #[v, v', v''][j]? = some u → [x, x', x''][j]? = some y → AVRep w noneF (beta0 fun _ => False) u y := by
  intro j u y hu hy
  match j, hu, hy with
  | 0, hu, hy => simp at hu hy; subst hu hy; exact h
  | 1, hu, hy => simp at hu hy; subst hu hy; exact h'
  | 2, hu, hy => simp at hu hy; subst hu hy; exact h''
  | j + 3, hu, hy => simp at hy
end Go.Fw
