/- What the walk computes with: equations, numbers, bytes. -/
import Derived.Test.YtlcmbjhppkddlaaFwO
namespace Go.Fw

@[simp] theorem AC.retire_p (F : Nat → Bool) (x : CV) : (AC.p x).retire F = .p x := rfl
@[simp] theorem AC.retire_z (F : Nat → Bool) : AC.z.retire F = .z := rfl
@[simp] theorem AC.retire_own (F : Nat → Bool) (f sz n : Nat) (cells : List CV) : (AC.own f sz n cells).retire F = if F f then .p (.sl n cells) else .own f sz n cells := rfl
@[simp] theorem AC.retire_view (F : Nat → Bool) (f n : Nat) (cells : List CV) : (AC.view f n cells).retire F = if F f then .p (.sl n cells) else .view f n cells := rfl
@[simp] theorem AC.retire_ep (F : Nat → Bool) (k : Nat) (cells : List CV) (pos : Nat) : (AC.ep (some k) cells pos).retire F = if F k then .ep none cells pos else .ep (some k) cells pos := rfl
@[simp] theorem AC.retire_epn (F : Nat → Bool) (cells : List CV) (pos : Nat) : (AC.ep none cells pos).retire F = .ep none cells pos := rfl
@[simp] theorem AC.retire_epo (F : Nat → Bool) (k : Nat) (cells : List CV) (pos : Nat) : (AC.epo k cells pos).retire F = if F k then .ep none cells pos else .epo k cells pos := rfl
@[simp] theorem AC.retire_ptr (F : Nat → Bool) (b o : Nat) : (AC.ptr b o).retire F = .ptr b o := rfl
@[simp] theorem AC.retire_bad (F : Nat → Bool) : AC.bad.retire F = .bad := rfl
@[simp] theorem AV.retire_cell (F : Nat → Bool) (x : AC) : (AV.cell x).retire F = .cell (x.retire F) := rfl
@[simp] theorem AV.retire_agg (F : Nat → Bool) (xs : List AC) : (AV.agg xs).retire F = .agg (xs.map (·.retire F)) := rfl
@[simp] theorem AV.retire_tup (F : Nat → Bool) (xs : List AV) : (AV.tup xs).retire F = .tup (xs.map (·.retire F)) := by simp [AV.retire, retire_go_map]
@[simp] theorem AV.retire_bad (F : Nat → Bool) : AV.bad.retire F = .bad := rfl
@[simp] theorem AC.poison_p (F : Nat → Bool) (x : CV) : (AC.p x).poison F = .p x := rfl
@[simp] theorem AC.poison_z (F : Nat → Bool) : AC.z.poison F = .z := rfl
@[simp] theorem AC.poison_own (F : Nat → Bool) (f sz n : Nat) (cells : List CV) : (AC.own f sz n cells).poison F = if F f then .bad else .own f sz n cells := rfl
@[simp] theorem AC.poison_view (F : Nat → Bool) (f n : Nat) (cells : List CV) : (AC.view f n cells).poison F = if F f then .bad else .view f n cells := rfl
@[simp] theorem AC.poison_ep (F : Nat → Bool) (k : Nat) (cells : List CV) (pos : Nat) : (AC.ep (some k) cells pos).poison F = if F k then .bad else .ep (some k) cells pos := rfl
@[simp] theorem AC.poison_epn (F : Nat → Bool) (cells : List CV) (pos : Nat) : (AC.ep none cells pos).poison F = .ep none cells pos := rfl
@[simp] theorem AC.poison_epo (F : Nat → Bool) (k : Nat) (cells : List CV) (pos : Nat) : (AC.epo k cells pos).poison F = if F k then .bad else .epo k cells pos := rfl
@[simp] theorem AC.poison_ptr (F : Nat → Bool) (b o : Nat) : (AC.ptr b o).poison F = .ptr b o := rfl
@[simp] theorem AC.poison_bad (F : Nat → Bool) : AC.bad.poison F = .bad := rfl
@[simp] theorem AV.poison_cell (F : Nat → Bool) (x : AC) : (AV.cell x).poison F = .cell (x.poison F) := rfl
@[simp] theorem AV.poison_agg (F : Nat → Bool) (xs : List AC) : (AV.agg xs).poison F = .agg (xs.map (·.poison F)) := rfl
@[simp] theorem AV.poison_tup (F : Nat → Bool) (xs : List AV) : (AV.tup xs).poison F = .tup (xs.map (·.poison F)) := by simp [AV.poison, poison_go_map]
@[simp] theorem AV.poison_bad (F : Nat → Bool) : AV.bad.poison F = .bad := rfl
@[simp] theorem AC.upd_p (f pos : Nat) (cs : List CV) (x : CV) : (AC.p x).upd f pos cs = .p x := rfl
@[simp] theorem AC.upd_z (f pos : Nat) (cs : List CV) : AC.z.upd f pos cs = .z := rfl
@[simp] theorem AC.upd_own (f pos : Nat) (cs : List CV) (g sz n : Nat) (cells : List CV) : (AC.own g sz n cells).upd f pos cs = if g = f then .own g sz n (setRun cells pos cs) else .own g sz n cells := rfl
@[simp] theorem AC.upd_view (f pos : Nat) (cs : List CV) (g n : Nat) (cells : List CV) : (AC.view g n cells).upd f pos cs = if g = f then .bad else .view g n cells := rfl
@[simp] theorem AC.upd_ep (f pos : Nat) (cs : List CV) (g : Nat) (cells : List CV) (k : Nat) : (AC.ep (some g) cells k).upd f pos cs = if g = f then .bad else .ep (some g) cells k := rfl
@[simp] theorem AC.upd_epn (f pos : Nat) (cs : List CV) (cells : List CV) (k : Nat) : (AC.ep none cells k).upd f pos cs = .ep none cells k := rfl
@[simp] theorem AC.upd_epo (f pos : Nat) (cs : List CV) (g : Nat) (cells : List CV) (k : Nat) : (AC.epo g cells k).upd f pos cs = if g = f then .epo g (setRun cells pos cs) k else .epo g cells k := rfl
@[simp] theorem AC.upd_ptr (f pos : Nat) (cs : List CV) (b o : Nat) : (AC.ptr b o).upd f pos cs = .ptr b o := rfl
@[simp] theorem AC.upd_bad (f pos : Nat) (cs : List CV) : AC.bad.upd f pos cs = .bad := rfl
@[simp] theorem AV.upd_cell (f pos : Nat) (cs : List CV) (x : AC) : (AV.cell x).upd f pos cs = .cell (x.upd f pos cs) := rfl
@[simp] theorem AV.upd_agg (f pos : Nat) (cs : List CV) (xs : List AC) : (AV.agg xs).upd f pos cs = .agg (xs.map (·.upd f pos cs)) := rfl
@[simp] theorem AV.upd_tup (f pos : Nat) (cs : List CV) (xs : List AV) : (AV.tup xs).upd f pos cs = .tup (xs.map (·.upd f pos cs)) := by simp [AV.upd, upd_go]
@[simp] theorem AV.upd_bad (f pos : Nat) (cs : List CV) : AV.bad.upd f pos cs = .bad := rfl
@[simp] theorem AC.unbox_p (i : Nat) (x : CV) : (AC.p x).unbox i = .p x := rfl
@[simp] theorem AC.unbox_z (i : Nat) : AC.z.unbox i = .z := rfl
@[simp] theorem AC.unbox_own (i f sz n : Nat) (cells : List CV) : (AC.own f sz n cells).unbox i = .own f sz n cells := rfl
@[simp] theorem AC.unbox_view (i f n : Nat) (cells : List CV) : (AC.view f n cells).unbox i = .view f n cells := rfl
@[simp] theorem AC.unbox_ep (i : Nat) (k : Option Nat) (cells : List CV) (pos : Nat) : (AC.ep k cells pos).unbox i = .ep k cells pos := rfl
@[simp] theorem AC.unbox_epo (i k : Nat) (cells : List CV) (pos : Nat) : (AC.epo k cells pos).unbox i = .epo k cells pos := rfl
@[simp] theorem AC.unbox_ptr (i b o : Nat) : (AC.ptr b o).unbox i = if b = i then .bad else .ptr b o := rfl
@[simp] theorem AC.unbox_bad (i : Nat) : AC.bad.unbox i = .bad := rfl
@[simp] theorem AV.unbox_cell (i : Nat) (x : AC) : (AV.cell x).unbox i = .cell (x.unbox i) := rfl
@[simp] theorem AV.unbox_agg (i : Nat) (xs : List AC) : (AV.agg xs).unbox i = .agg (xs.map (·.unbox i)) := rfl
@[simp] theorem AV.unbox_tup (i : Nat) (xs : List AV) : (AV.tup xs).unbox i = .tup (xs.map (·.unbox i)) := by simp [AV.unbox, unbox_go_map]
@[simp] theorem AV.unbox_bad (i : Nat) : AV.bad.unbox i = .bad := rfl
@[simp] theorem AC.arg_p (x : CV) : (AC.p x).arg = .p x := rfl
@[simp] theorem AC.arg_z : AC.z.arg = .p (.sl 0 []) := rfl
@[simp] theorem AC.arg_own (f sz n : Nat) (cells : List CV) : (AC.own f sz n cells).arg = .p (.sl n cells) := rfl
@[simp] theorem AC.arg_view (f n : Nat) (cells : List CV) : (AC.view f n cells).arg = .p (.sl n cells) := rfl
@[simp] theorem AV.arg_cell (x : AC) : (AV.cell x).arg = .cell x.arg := rfl
@[simp] theorem AV.arg_agg (xs : List AC) : (AV.agg xs).arg = .agg (xs.map AC.arg) := rfl
@[simp] theorem AV.arg_bad : AV.bad.arg = .bad := rfl
@[simp] theorem AV.shift_tup (k : Nat) (xs : List AV) : (AV.tup xs).shift k = .tup (xs.map (·.shift k)) := by simp [AV.shift, shift_go]
@[simp] theorem AV.shift_cell (k : Nat) (x : AC) : (AV.cell x).shift k = .cell (x.shift k) := rfl
@[simp] theorem AV.shift_agg (k : Nat) (xs : List AC) : (AV.agg xs).shift k = .agg (xs.map (·.shift k)) := rfl
@[simp] theorem AV.shift_bad (k : Nat) : AV.bad.shift k = .bad := rfl
@[simp] theorem AC.shift_p (k : Nat) (x : CV) : (AC.p x).shift k = .p x := rfl
@[simp] theorem AC.shift_z (k : Nat) : AC.z.shift k = .z := rfl
@[simp] theorem AC.shift_own (k f sz n : Nat) (cells : List CV) : (AC.own f sz n cells).shift k = .own (k + f) sz n cells := rfl
@[simp] theorem AC.shift_view (k f n : Nat) (cells : List CV) : (AC.view f n cells).shift k = .view (k + f) n cells := rfl
@[simp] theorem AC.shift_bad (k : Nat) : AC.bad.shift k = .bad := rfl
@[simp] theorem AV.labs_cell (x : AC) : (AV.cell x).labs = x.labs := rfl
@[simp] theorem AV.labs_agg (xs : List AC) : (AV.agg xs).labs = xs.flatMap AC.labs := rfl
@[simp] theorem AV.labs_tup (xs : List AV) : (AV.tup xs).labs = xs.flatMap AV.labs := by simp [AV.labs, labs_go]
@[simp] theorem AV.labs_bad : AV.bad.labs = [] := rfl
@[simp] theorem AC.labs_p (x : CV) : (AC.p x).labs = [] := rfl
@[simp] theorem AC.labs_z : AC.z.labs = [] := rfl
@[simp] theorem AC.labs_own (f sz n : Nat) (cells : List CV) : (AC.own f sz n cells).labs = [f] := rfl
@[simp] theorem AC.labs_view (f n : Nat) (cells : List CV) : (AC.view f n cells).labs = [f] := rfl
@[simp] theorem AC.labs_ptr (b o : Nat) : (AC.ptr b o).labs = [] := rfl
@[simp] theorem AC.labs_bad : AC.bad.labs = [] := rfl
@[simp] theorem AV.flat_cell (x : AC) : (AV.cell x).flat = x.flat := rfl
@[simp] theorem AV.flat_agg (xs : List AC) : (AV.agg xs).flat = xs.all AC.flat := rfl
@[simp] theorem AV.flat_tup (xs : List AV) : (AV.tup xs).flat = xs.all AV.flat := by simp [AV.flat, flat_go]
@[simp] theorem AV.flat_bad : AV.bad.flat = true := rfl
@[simp] theorem AC.flat_p (x : CV) : (AC.p x).flat = x.isC := rfl
@[simp] theorem AC.flat_z : AC.z.flat = true := rfl
@[simp] theorem AC.flat_own (f sz n : Nat) (cells : List CV) : (AC.own f sz n cells).flat = cells.all CV.isC := rfl
@[simp] theorem AC.flat_bad : AC.bad.flat = true := rfl
@[simp] theorem CV.isC_c (v : Value) : (CV.c v).isC = true := rfl
@[simp] theorem CV.isC_sl (n : Nat) (cells : List CV) : (CV.sl n cells).isC = false := rfl

attribute [simp] fop selfB qval evAV st0 St.put constAV constAC valBin intBin strBin valUn appendK srcA AC.sl? storeK St.poison inL St.retire isId qconv qbuildSlice qbuild partsA AV.cells? AC.one fillA setRun repA toCVs AC.toCV Value.oneCell' AV.isC
  qload qfieldAddr qfield qindexAddr qindex qslice bound partAC placesA qbuiltin St.unbox St.setBox St.upd makeK

/-- The result of a call, relabelled. -/
theorem callK_at {P : Program} {id n : Nat} {args : List Operand} {st : St} {K : AV → St → Prop} {as : List AV} {r : AV} (hAt : At P n as r) (has : (args.map fun x => (evAV st.env x).arg) = as)
    (hlab : r.labs.all (fun f => decide (f < 64)) = true) (hflat : r.flat = true) (hK : K (r.shift id) (st.retire (isId id))) : callK P id n args st K := by
  subst has
  exact ⟨r, hAt, hlab, by rw [if_pos hflat]; exact hK⟩
/-- The same, where the result may lead to what the arguments lead to. -/
theorem callK_at' {P : Program} {id n : Nat} {args : List Operand} {st : St} {K : AV → St → Prop} {as : List AV} {r : AV} (hAt : At P n as r) (has : (args.map fun x => (evAV st.env x).arg) = as)
    (hlab : r.labs.all (fun f => decide (f < 64)) = true) (hflat : r.flat = false) (hK : K (r.shift id) ((st.retire (isId id)).retire (inL (args.flatMap fun x => (evAV st.env x).labs)))) : callK P id n args st K := by
  subst has
  exact ⟨r, hAt, hlab, by rw [hflat]; exact hK⟩

/-! canon -/
@[simp] theorem AC.relab_p (l : List Nat) (x : CV) : (AC.p x).relab l = .p x := rfl
@[simp] theorem AC.relab_z (l : List Nat) : AC.z.relab l = .z := rfl
@[simp] theorem AC.relab_own (l : List Nat) (f sz n : Nat) (cells : List CV) : (AC.own f sz n cells).relab l = .own (l.idxOf f) sz n cells := rfl
@[simp] theorem AC.relab_view (l : List Nat) (f n : Nat) (cells : List CV) : (AC.view f n cells).relab l = .view (l.idxOf f) n cells := rfl
@[simp] theorem AC.relab_bad (l : List Nat) : AC.bad.relab l = .bad := rfl
@[simp] theorem AV.relab_cell (l : List Nat) (x : AC) : (AV.cell x).relab l = .cell (x.relab l) := rfl
@[simp] theorem AV.relab_agg (l : List Nat) (xs : List AC) : (AV.agg xs).relab l = .agg (xs.map (·.relab l)) := rfl
@[simp] theorem AV.relab_tup (l : List Nat) (xs : List AV) : (AV.tup xs).relab l = .tup (xs.map (·.relab l)) := by simp [AV.relab, relab_go]
@[simp] theorem AV.relab_bad (l : List Nat) : AV.bad.relab l = .bad := rfl
attribute [simp] canon retAV resAV List.idxOf_cons

/-! Numbers -/
theorem wrap_i64 {n : Int} (h1 : -9223372036854775808 ≤ n) (h2 : n ≤ 9223372036854775807) : IntKind.wrap .i64 n = n := by
  rw [IntKind.wrap_i64]; omega
/-- A number's lowest byte. -/
def byteN (n : Nat) : UInt8 := UInt8.ofNat n
theorem byteN_toNat (n : Nat) : (byteN n).toNat = n % 256 := by simp [byteN]
theorem wrap_u8_nat (n : Nat) : IntKind.wrap .u8 (n : Int) = ((byteN n).toNat : Int) := by
  simp [byteN, IntKind.wrap, IntKind.bits, IntKind.signed]
theorem wrap_u8_lt {n : Int} (h1 : 0 ≤ n) (h2 : n < 256) : IntKind.wrap .u8 n = n := by
  simp [IntKind.wrap, IntKind.bits, IntKind.signed]; omega
theorem tmod_nat (a b : Nat) : (a : Int).tmod (b : Int) = ((a % b : Nat) : Int) := by rw [Int.tmod_eq_emod_of_nonneg (by omega)]; simp
theorem tdiv_nat (a b : Nat) : (a : Int).tdiv (b : Int) = ((a / b : Nat) : Int) := by rw [Int.tdiv_eq_ediv_of_nonneg (by omega)]; simp

theorem shl_nat {k : IntKind} {a s : Nat} (hs : s ≤ k.bits) : shlI k (a : Int) (s : Int) = k.wrap ((a * 2 ^ s : Nat) : Int) := by
  simp [shlI, Nat.min_eq_left hs]
theorem shr_nat {k : IntKind} {a s : Nat} (hs : s ≤ k.bits) : shrI k (a : Int) (s : Int) = ((a / 2 ^ s : Nat) : Int) := by
  unfold shrI
  rw [Int.toNat_natCast, Nat.min_eq_left hs, Int.fdiv_eq_ediv_of_nonneg _ (by exact Int.le_of_lt (Int.pow_pos (by omega)))]
  simp
theorem wrap_u64_nat (n : Nat) : IntKind.wrap .u64 (n : Int) = ((n % 18446744073709551616 : Nat) : Int) := by rw [IntKind.wrap_u64]; simp
theorem wrap_u32_nat (n : Nat) : IntKind.wrap .u32 (n : Int) = ((n % 4294967296 : Nat) : Int) := by rw [IntKind.wrap_u32']; simp

/-! Bytes -/
theorem byteCV_def (b : UInt8) : CV.c (.int .u8 (b.toNat : Int)) = byteCV b := rfl
@[simp] theorem bytesCV_length (l : List UInt8) : (bytesCV l).length = l.length := by simp [bytesCV]
theorem bytesCV_append (l r : List UInt8) : bytesCV l ++ bytesCV r = bytesCV (l ++ r) := by simp [bytesCV]
theorem bytesCV_one (b : UInt8) : [CV.c (.int .u8 (b.toNat : Int))] = bytesCV [b] := rfl
theorem bytesCV_nil : ([] : List CV) = bytesCV [] := rfl
@[simp] theorem bytesCV_isC (l : List UInt8) : (bytesCV l).all CV.isC = true := by simp [bytesCV, byteCV]
theorem bytesCV_drop (l : List UInt8) (n : Nat) : (bytesCV l).drop n = bytesCV (l.drop n) := by simp [bytesCV]
theorem bytesCV_take (l : List UInt8) (n : Nat) : (bytesCV l).take n = bytesCV (l.take n) := by simp [bytesCV]
@[simp] theorem bytesCV_getE (l : List UInt8) (n : Nat) (h : n < (bytesCV l).length) : (bytesCV l)[n] = .c (.int .u8 ((l[n]'(by simpa using h)).toNat : Int)) := by simp [bytesCV, byteCV]
/-- Parts of a slice of bytes. -/
@[simp] theorem bytes_rest (l : List UInt8) (a : Nat) : ((bytesCV l).drop a).take (l.length - a) = bytesCV (l.drop a) := by
  rw [bytesCV_drop, bytesCV_take, List.take_of_length_le (by simp)]
theorem bytes_part (l : List UInt8) (a b : Nat) : ((bytesCV l).drop a).take (b - a) = bytesCV ((l.take b).drop a) := by
  rw [bytesCV_drop, bytesCV_take, List.drop_take]
theorem bytesCV_get (l : List UInt8) (n : Nat) (h : n < l.length) : (bytesCV l)[n]? = some (.c (.int .u8 (l[n].toNat : Int))) := by simp [bytesCV, byteCV, h]
@[simp] theorem cellsBytes_bytesCV : ∀ l : List UInt8, cellsBytes (bytesCV l) = some l
  | [] => rfl
  | b :: l => by show (cellsBytes (bytesCV l)).map (UInt8.ofNat (b.toNat : Int).toNat :: ·) = _; rw [cellsBytes_bytesCV l]; simp

/-- A slice of bytes, as an argument. -/
abbrev bA (l : List UInt8) : AV := .cell (.p (.sl l.length (bytesCV l)))
/-- A slice of bytes of its own. -/
abbrev bO (f : Nat) (l : List UInt8) : AV := .cell (.own f 1 l.length (bytesCV l))

end Go.Fw
