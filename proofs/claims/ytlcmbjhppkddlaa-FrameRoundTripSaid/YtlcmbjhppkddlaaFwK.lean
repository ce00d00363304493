/- Regions: in the order of the text, and in whatever order is drawn. -/
import Derived.Test.YtlcmbjhppkddlaaFwJ
namespace Go.Fw
open Go.RowKit (Below)

def guardB (ops : Array Oper) (env : Nat → AV) (j : Nat) : Option Bool :=
  match (ops[j]?).bind (·.dst) with
  | some d => match env d with
    | .cell (.p (.c (.bool b))) => some b
    | _ => none
  | none => none

/-- A region in the order of the text. -/
def aops (P : Program) (rid : Nat) (ops : Array Oper) : Nat → List Oper → St → (St → Prop) → Prop
  | _, [], st, K => K st
  | i, o :: rest, st, K =>
    match o.guard with
    | none => fop P (rid * 65536 + i * 64) o.op st (fun out st' => aops P rid ops (i + 1) rest (st'.put o.dst out) K)
    | some (j, want) =>
      match guardB ops st.env j with
      | some b => (b = want → fop P (rid * 65536 + i * 64) o.op st (fun out st' => aops P rid ops (i + 1) rest (st'.put o.dst out) K)) ∧
          (b ≠ want → aops P rid ops (i + 1) rest (st.put o.dst .bad) K)
      | none => False

theorem yielded_of {C : Cx} {st : St} {a : Act} {w : World} {ρ β : Fam} (hJ : J C st a w ρ β) {ops : Array Oper} {j : Nat} {b : Bool} (h : guardB ops st.env j = some b) : yielded ops a.tmps j = some b := by
  unfold guardB at h
  split at h
  · rename_i d hd
    split at h
    · rename_i b' hb
      cases h
      have hr := hJ.env d
      rw [hb] at hr
      have hv := rep_c hr
      have : a.tmps[d]? = some (.bool b) := by
        rw [Array.getD_eq_getD_getElem?] at hv
        cases hx : a.tmps[d]? with
        | none => rw [hx] at hv; simp [undef] at hv
        | some v => rw [hx] at hv; simp at hv; rw [hv]
      simp [yielded, hd, this]
    · cases h
  · cases h

theorem wanted_none {ops : Array Oper} {o : Oper} {a : Act} (h : o.guard = none) : Region.wanted o (yielded ops a.tmps) = true := by simp [Region.wanted, h]

theorem aops_sound {P : Program} {C : Cx} {rid : Nat} {ops : Array Oper} {Q : Exit → Act → World → Prop} {K : St → Prop} : ∀ (l : List Oper) (i : Nat) (st : St) (a : Act) (w : World) (ρ β : Fam), aops P rid ops i l st K → J C st a w ρ β →
    (∀ o ∈ l, dstOk C.N o.dst) → (∀ st' a' w' ρ' β', K st' → J C st' a' w' ρ' β' → Q .normal a' w') → wpList P ops Q l a w
  | [], i, st, a, w, ρ, β, h, hJ, hd, hK => hK st a w ρ β h hJ
  | o :: rest, i, st, a, w, ρ, β, h, hJ, hd, hK => by
    have run : fop P (rid * 65536 + i * 64) o.op st (fun out st' => aops P rid ops (i + 1) rest (st'.put o.dst out) K) → Region.wanted o (yielded ops a.tmps) = true → wpList P ops Q (o :: rest) a w := by
      intro hf hw
      unfold wpList
      rw [if_pos hw]
      exact .inl (fop_sound hJ hf fun out st' v w' ρ' β' hk hJ' hv =>
        aops_sound rest (i + 1) _ _ _ ρ' β' hk (hJ'.put (hd o (by simp)) hv) (fun o' ho' => hd o' (by simp [ho'])) hK)
    unfold aops at h
    split at h
    · rename_i hg
      exact run h (wanted_none hg)
    · rename_i j want hg
      split at h
      · rename_i b hb
        have hy := yielded_of hJ hb
        by_cases hbw : b = want
        · exact run (h.1 hbw) (by simp [Region.wanted, hg, hy, hbw])
        · unfold wpList
          rw [if_neg (by simp [Region.wanted, hg, hy, hbw])]
          exact aops_sound rest (i + 1) _ _ _ ρ β (h.2 hbw) (hJ.put (hd o (by simp)) (.bad _)) (fun o' ho' => hd o' (by simp [ho'])) hK
      · exact h.elim

/-! ### A region that draws its order -/

def isRid (rid : Nat) : Nat → Bool := fun f => decide (rid * 65536 ≤ f) && decide (f < rid * 65536 + 65536)

/-- The slot that an append takes over. -/
def cons (o : Oper) : Option Nat :=
  match o.op with
  | .call { callee := .builtin .append, args := args, argTypes := _ } => match args.toList with
    | .tmp t :: _ => some t
    | _ => none
  | _ => none

def putE (env : Nat → AV) (d : Option Nat) (x : AV) : Nat → AV :=
  match d with
  | some d => fun s => if s = d then x else env s
  | none => env

def wr (o : Oper) (out : AV) (env : Nat → AV) : Nat → AV := putE (putE env (cons o) .bad) o.dst out

def wslots (o : Oper) : List Nat := (cons o).toList ++ o.dst.toList

theorem putE_other {env : Nat → AV} {d : Option Nat} {x : AV} {s : Nat} (h : s ∉ d.toList) : putE env d x s = env s := by
  cases d with
  | none => rfl
  | some d => simp at h; simp [putE, h]

theorem wr_other {o : Oper} {out : AV} {env : Nat → AV} {s : Nat} (h : s ∉ wslots o) : wr o out env s = env s := by
  simp only [wslots, List.mem_append, not_or] at h
  rw [wr, putE_other h.2, putE_other h.1]

/-- The states of a region's textual order; S: which operations have been carried out. -/
def envOf (ops : Array Oper) (outs : List AV) (env0 : Nat → AV) (S : Nat → Bool) : Nat → Nat → AV
  | 0 => env0
  | i + 1 => if S i then wr (ops.getD i default) (outs.getD i .bad) (envOf ops outs env0 S i) else envOf ops outs env0 S i

/-- What a quiet operation of a region that draws comes to. need: which families must be named by the result of one operation alone. -/
def dq (P : Program) (rid id : Nat) (ops : Array Oper) (bx : Nat → Option (List AC)) (env : Nat → AV) (o : Oper) (K : AV → Option (Nat × Nat) → Prop) : Prop :=
  match o.op with
  | .call { callee := .value (.func n), args := args, argTypes := _ } =>
    ∃ r, At P n (args.toList.map fun x => (evAV env x).arg) r ∧ (r.labs.all (fun f => decide (f < 64)) = true ∧ (r.flat || (args.toList.flatMap fun x => (evAV env x).labs).isEmpty) = true) ∧ K (r.shift id) none
  | .call { callee := .builtin .append, args := args, argTypes := ts } =>
    match args.toList, ts.toList with
    | [s, x], [t, tx] =>
      match P.underlying t with
      | some (.slice e) =>
        match eInfo P e with
        | some (sz, by_) =>
          0 < sz ∧
          match srcA P tx sz (evAV env x) with
          | some (m, news) =>
            match evAV env s with
            | .cell (.own f sz' n cells) =>
              match cons o with
              | some c =>
                match (List.range ops.size).find? (fun k => (ops.getD k default).dst == some c) with
                | some k => (sz' = sz ∧ n + m ≤ 1099511627776 ∧ (n + m) * by_ ≤ 140737488355328 ∧ isRid rid f = true) ∧ K (.cell (.own id sz (n + m) (cells ++ news))) (some (k, f))
                | none => False
              | none => False
            | .cell .z => (m ≤ 1099511627776 ∧ m * by_ ≤ 140737488355328) ∧ K (.cell (.own id sz m news)) none
            | _ => False
          | none => False
        | none => False
      | _ => False
    | _, _ => False
  | op => match qval P id (evAV env) bx op with
    | some out => K out none
    | none => False

def dstep (P : Program) (rid i : Nat) (ops : Array Oper) (bx : Nat → Option (List AC)) (env : Nat → AV) (o : Oper) (K : AV → Option (Nat × Nat) → Prop) : Prop :=
  match o.guard with
  | none => dq P rid (rid * 65536 + i * 64) ops bx env o K
  | some (j, want) =>
    match guardB ops env j with
    | some b => (b = want → dq P rid (rid * 65536 + i * 64) ops bx env o K) ∧ (b ≠ want → K .bad none)
    | none => False

theorem dq_split {P : Program} {rid id : Nat} {ops : Array Oper} {bx : Nat → Option (List AC)} {env : Nat → AV} {o : Oper} {K : AV → Option (Nat × Nat) → Prop} (h : dq P rid id ops bx env o K) :
    ∃ out nd, K out nd ∧ dq P rid id ops bx env o (fun x y => x = out ∧ y = nd) := by
  unfold dq at h ⊢
  split at h
  · obtain ⟨r, h1, h2, h3⟩ := h
    exact ⟨_, _, h3, r, h1, h2, rfl, rfl⟩
  · split at h
    · split at h
      · split at h
        · obtain ⟨hp, h⟩ := h
          split at h
          · split at h
            · split at h
              · split at h
                · exact ⟨_, _, h.2, hp, h.1, rfl, rfl⟩
                · exact h.elim
              · exact h.elim
            · exact ⟨_, _, h.2, hp, h.1, rfl, rfl⟩
            · exact h.elim
          · exact h.elim
        · exact h.elim
      · exact h.elim
    · exact h.elim
  · split at h
    · exact ⟨_, _, h, rfl, rfl⟩
    · exact h.elim

theorem dstep_split {P : Program} {rid i : Nat} {ops : Array Oper} {bx : Nat → Option (List AC)} {env : Nat → AV} {o : Oper} {K : AV → Option (Nat × Nat) → Prop} (h : dstep P rid i ops bx env o K) :
    ∃ out nd, K out nd ∧ dstep P rid i ops bx env o (fun x y => x = out ∧ y = nd) := by
  unfold dstep at h ⊢
  split at h
  · exact dq_split h
  · rename_i j want hg
    split at h
    · rename_i b hb
      by_cases hw : b = want
      · obtain ⟨out, nd, h1, h2⟩ := dq_split (h.1 hw)
        exact ⟨out, nd, h1, fun _ => h2, fun hn => (hn hw).elim⟩
      · exact ⟨_, _, h.2 hw, fun he => (hw he).elim, fun _ => ⟨rfl, rfl⟩⟩
    · exact h.elim

/-! What an operation looks at decides what it comes to. -/
theorem partsA_congr {ev ev' : Operand → AV} : ∀ (ps : List (Nat × Operand)), (∀ p ∈ ps, ev p.2 = ev' p.2) → partsA ev ps = partsA ev' ps
  | [], _ => rfl
  | (i, x) :: r, h => by
    have h1 := h (i, x) (by simp)
    simp only at h1
    simp only [partsA, h1, partsA_congr r (fun p hp => h p (by simp [hp]))]

theorem qval_congr {P : Program} {id : Nat} {bx : Nat → Option (List AC)} {ev ev' : Operand → AV} {op : Op} (h : ∀ x ∈ op.operands, ev x = ev' x) : qval P id ev bx op = qval P id ev' bx op := by
  cases op <;> try rfl
  all_goals simp only [Op.operands, Call.operands] at h
  case move x => simp only [qval]; rw [h x (by simp)]
  case assign x => simp only [qval]; rw [h x (by simp)]
  case pick c a b => simp only [qval]; rw [h c (by simp), h a (by simp), h b (by simp)]
  case build t parts =>
    simp only [qval, qbuild]
    rw [partsA_congr parts.toList (fun p hp => h p.2 (by simp; exact ⟨p.1, by simpa using hp⟩))]
  case buildSlice t len parts =>
    simp only [qval, qbuildSlice]
    rw [partsA_congr parts.toList (fun p hp => h p.2 (by simp; exact ⟨p.1, by simpa using hp⟩))]
  case load t x => simp only [qval]; rw [h x (by simp)]
  case nilCheck x => simp only [qval]; rw [h x (by simp)]
  case binOp o t x y t' => simp only [qval]; rw [h x (by simp), h y (by simp)]
  case unOp o t x => simp only [qval]; rw [h x (by simp)]
  case convert s d x => simp only [qval]; rw [h x (by simp)]
  case fieldAddr s x f => simp only [qval]; rw [h x (by simp)]
  case field s x f => simp only [qval]; rw [h x (by simp)]
  case indexAddr t x i => simp only [qval]; rw [h x (by simp), h i (by simp)]
  case index t x i => simp only [qval]; rw [h x (by simp), h i (by simp)]
  case slice t x lo hi mx =>
    have e : ∀ o : Option Operand, (∀ y, o = some y → ev y = ev' y) → o.map ev = o.map ev' := by
      intro o ho; cases o with
      | none => rfl
      | some y => simp [ho y rfl]
    simp only [qval]
    rw [h x (by simp), e lo (fun y hy => h y (by simp [hy])), e hi (fun y hy => h y (by simp [hy])), e mx (fun y hy => h y (by simp [hy]))]
  case extract t i => simp only [qval]; rw [h t (by simp)]
  case call c =>
    obtain ⟨callee, args, ts⟩ := c
    cases callee <;> try rfl
    simp only [qval]
    congr 1
    apply List.map_congr_left
    intro x hx
    exact h x (by simp; simpa using hx)

def agreeOn (L : List Nat) (env env' : Nat → AV) : Prop := ∀ s ∈ L, env s = env' s

theorem evAV_congr {ops : Array Oper} {o : Oper} {env env' : Nat → AV} (h : agreeOn (o.looksAt ops) env env') (x : Operand) (hx : x ∈ o.op.operands) : evAV env x = evAV env' x := by
  cases x with
  | tmp t => exact h t (by unfold Oper.looksAt; rw [List.mem_append]; left; rw [List.mem_filterMap]; exact ⟨.tmp t, by simpa using hx, rfl⟩)
  | const v => rfl
  | global g => rfl
  | func f => rfl

theorem dq_congr {P : Program} {rid id : Nat} {ops : Array Oper} {bx : Nat → Option (List AC)} {env env' : Nat → AV} {o : Oper} {K : AV → Option (Nat × Nat) → Prop} (h : agreeOn (o.looksAt ops) env env')
    (hd : dq P rid id ops bx env o K) : dq P rid id ops bx env' o K := by
  have he := evAV_congr h
  unfold dq at hd ⊢
  split at hd
  · rename_i n args ts hop
    rw [hop] at he
    have h1 : ∀ x ∈ args.toList, evAV env x = evAV env' x := fun x hx => he x (by simp [Op.operands, Call.operands]; right; simpa using hx)
    have e1 : (args.toList.map fun x => (evAV env x).arg) = args.toList.map fun x => (evAV env' x).arg := List.map_congr_left fun x hx => by rw [h1 x hx]
    have e2 : (args.toList.flatMap fun x => (evAV env x).labs) = args.toList.flatMap fun x => (evAV env' x).labs := by
      rw [List.flatMap_def, List.flatMap_def, List.map_congr_left fun x hx => by rw [h1 x hx]]
    rw [e1, e2] at hd
    simpa [hop] using hd
  · rename_i args ts hop
    rw [hop] at he
    split at hd
    · rename_i s x t tx hargs hts
      have h1 := he s (by simp only [Op.operands, Call.operands]; simp; rw [← Array.mem_toList_iff, hargs]; simp)
      have h2 := he x (by simp only [Op.operands, Call.operands]; simp; rw [← Array.mem_toList_iff, hargs]; simp)
      rw [h1, h2] at hd
      exact hd
    · exact hd.elim
  · rename_i h1 h2
    rw [qval_congr he] at hd
    exact hd

theorem guardB_congr {ops : Array Oper} {o : Oper} {env env' : Nat → AV} (h : agreeOn (o.looksAt ops) env env') {j : Nat} {want : Bool} (hg : o.guard = some (j, want)) : guardB ops env j = guardB ops env' j := by
  unfold guardB
  split
  · rename_i d hd
    rw [h d (by unfold Oper.looksAt; rw [List.mem_append]; right; simp [hg, hd])]
  · rfl

theorem dstep_congr {P : Program} {rid i : Nat} {ops : Array Oper} {bx : Nat → Option (List AC)} {env env' : Nat → AV} {o : Oper} {K : AV → Option (Nat × Nat) → Prop} (h : agreeOn (o.looksAt ops) env env')
    (hd : dstep P rid i ops bx env o K) : dstep P rid i ops bx env' o K := by
  unfold dstep at hd ⊢
  split at hd
  · exact dq_congr h hd
  · rename_i j want hg
    rw [← guardB_congr h hg]
    split at hd
    · exact ⟨fun hw => dq_congr h (hd.1 hw), hd.2⟩
    · exact hd.elim

end Go.Fw
