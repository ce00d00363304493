/- Rules for regions that draw their order. -/
import Derived.Test.YtlcmbjhppkddlaaFwP
namespace Go.Fw

section
variable {P : Program} {rid : Nat} {ops : Array Oper} {st : St} {bx : Nat → Option (List AC)} {env : Nat → AV} {outs : List AV} {nds : List (Nat × Nat)} {i : Nat}

theorem dops_plain {K : St → Prop} (hchk : dchk ops = true) (hsz : decide (ops.size ≤ 1024) = true) (hb : (ops.toList.getLast?.map fun o => isBar o.op).getD false = false)
    (h : dgo P rid ops (st.retire (isRid rid)).box 0 ops.toList (st.retire (isRid rid)).env [] [] fun outs nds env => ndOk outs nds = true ∧ K ⟨env, (st.retire (isRid rid)).box⟩) : dops P rid ops st K := by
  refine ⟨⟨hchk, by simpa using hsz⟩, ?_⟩
  split
  · rename_i o heq
    cases hl : ops.toList.getLast? with
    | none => rw [hl] at heq; simp at heq
    | some o' => rw [hl] at heq hb; simp at heq hb; rw [← heq.1] at heq; simp [hb] at heq
  · exact h
theorem dgo_nil {K : List AV → List (Nat × Nat) → (Nat → AV) → Prop} (h : K outs nds env) : dgo P rid ops bx i [] env outs nds K := h
theorem dgo_cons {K : List AV → List (Nat × Nat) → (Nat → AV) → Prop} {o : Oper} {rest : List Oper} (hg : o.guard = none)
    (h : ∀ K' : AV → Option (Nat × Nat) → Prop, (∀ out nd, dgo P rid ops bx (i + 1) rest (wr o out env) (outs ++ [out]) (nd.toList ++ nds) K → K' out nd) → dq P rid (rid * 65536 + i * 64) ops bx env o K') : dgo P rid ops bx i (o :: rest) env outs nds K := by
  unfold dgo dstep; rw [hg]; exact h _ (fun _ _ h => h)
theorem dgo_gt {K : List AV → List (Nat × Nat) → (Nat → AV) → Prop} {o : Oper} {rest : List Oper} {j : Nat} {want b : Bool} (hg : o.guard = some (j, want)) {d : Nat} (hd : (ops[j]?).bind (·.dst) = some d) (hb : env d = bV b) (hw : b = want)
    (h : ∀ K' : AV → Option (Nat × Nat) → Prop, (∀ out nd, dgo P rid ops bx (i + 1) rest (wr o out env) (outs ++ [out]) (nd.toList ++ nds) K → K' out nd) → dq P rid (rid * 65536 + i * 64) ops bx env o K') : dgo P rid ops bx i (o :: rest) env outs nds K := by
  have : guardB ops env j = some b := by unfold guardB; rw [hd]; simp [hb]
  unfold dgo dstep; rw [hg]; simp only [this]
  exact ⟨fun _ => h _ (fun _ _ h => h), fun hn => (hn hw).elim⟩
theorem dgo_gf {K : List AV → List (Nat × Nat) → (Nat → AV) → Prop} {o : Oper} {rest : List Oper} {j : Nat} {want b : Bool} (hg : o.guard = some (j, want)) {d : Nat} (hd : (ops[j]?).bind (·.dst) = some d) (hb : env d = bV b) (hw : b ≠ want)
    (h : dgo P rid ops bx (i + 1) rest (wr o .bad env) (outs ++ [.bad]) nds K) : dgo P rid ops bx i (o :: rest) env outs nds K := by
  have : guardB ops env j = some b := by unfold guardB; rw [hd]; simp [hb]
  unfold dgo dstep; rw [hg]; simp only [this]
  exact ⟨fun hn => (hw hn).elim, fun _ => h⟩
theorem dq_call {id n : Nat} {args : Array Operand} {ts : Array TypeId} {o : Oper} {K : AV → Option (Nat × Nat) → Prop} {as : List AV} {r : AV} (ho : o.op = .call { callee := .value (.func n), args := args, argTypes := ts })
    (hAt : At P n as r) (has : (args.toList.map fun x => (evAV env x).arg) = as) (hlab : r.labs.all (fun f => decide (f < 64)) = true) (hflat : r.flat = true) (hK : K (r.shift id) none) : dq P rid id ops bx env o K := by
  subst has
  unfold dq; rw [ho]
  exact ⟨r, hAt, ⟨hlab, by rw [hflat]; rfl⟩, hK⟩
end
attribute [simp] dq wr putE cons isRid
end Go.Fw
