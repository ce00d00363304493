/- The quiet operations: their abstract results. -/
import Derived.Test.YtlcmbjhppkddlaaFwB
namespace Go.Fw
open Go.RowKit (Below)

def szOf (P : Program) (t : TypeId) : Option Nat := (P.info? t).map (·.size)
def aggB (P : Program) (t : TypeId) : Option Bool :=
  match P.underlying t with
  | some (.struct _) | some (.array _ _) => some true
  | some _ => some false
  | none => none

/-- What can be read of a slice: its length and its cells. -/
def AC.sl? : AC → Option (Nat × List CV)
  | .p (.sl n cells) => some (n, cells)
  | .z => some (0, [])
  | .own _ _ n cells => some (n, cells)
  | .view _ n cells => some (n, cells)
  | _ => none

def AC.toCV : AC → Option CV
  | .p x => some x
  | .z => some (.sl 0 [])
  | _ => none

def AC.one : AC → Bool
  | .p (.c u) => u.oneCell'
  | .bad => false
  | _ => true

def AV.cells? : AV → Option (List AC)
  | .cell x => if x.one then some [x] else none
  | .agg xs => some xs
  | _ => none

def byteCV (b : UInt8) : CV := .c (.int .u8 (b.toNat : Int))
def bytesCV (l : List UInt8) : List CV := l.map byteCV

def cellsBytes : List CV → Option (List UInt8)
  | [] => some []
  | .c (.int .u8 n) :: r => (cellsBytes r).map (UInt8.ofNat n.toNat :: ·)
  | _ => none

def partAC (P : Program) (t : TypeId) (xs : List AC) (off : Nat) : Option AV :=
  match aggB P t, szOf P t with
  | some true, some s => if off + s ≤ xs.length then some (.agg ((xs.drop off).take s)) else none
  | some false, _ => (xs[off]?).map .cell
  | _, _ => none

/-- A constant. -/
def AV.isC : AV → Bool
  | .cell (.p (.c _)) => true
  | _ => false

def qconv (P : Program) (id : Nat) (src dst : TypeId) (x : AV) : Option AV :=
  match P.underlying src, P.underlying dst, x with
  | some _, some (.int k), .cell (.p (.c (.int _ n))) => some (iV k (k.wrap n))
  | some _, some .string, .cell (.p (.c (.string s))) => some (sV s)
  | some .string, some (.slice e), .cell (.p (.c (.string s))) =>
    match P.underlying e with
    | some (.int .u8) => if s.size ≤ 4611686018427387904 then some (.cell (.own id 1 s.size (bytesCV s.data.toList))) else none
    | _ => none
  | some (.slice e), some .string, .cell x =>
    match P.underlying e, x.sl? with
    | some (.int .u8), some (n, cells) => if cells.length = n then (cellsBytes cells).map fun l => sV ⟨l.toArray⟩ else none
    | _, _ => none
  | _, _, _ => none

def qload (P : Program) (t : TypeId) (x : AV) (bx : Nat → Option (List AC)) : Option AV :=
  match x with
  | .cell (.ptr b off) => (bx b).bind fun xs => partAC P t xs off
  | .cell (.ep _ cells pos) => partAC P t (cells.map .p) pos
  | .cell (.epo _ cells pos) => partAC P t (cells.map .p) pos
  | _ => none

def qfieldAddr (P : Program) (s : TypeId) (x : AV) (f : Nat) : Option AV :=
  match P.underlying s with
  | some (.struct fields) =>
    match fields[f]? with
    | some fd =>
      match szOf P fd.type with
      | some (_ + 1) =>
        match x with
        | .cell (.ptr b off) => some (.cell (.ptr b (off + fd.offset)))
        | .cell (.ep k cells pos) => some (.cell (.ep k cells (pos + fd.offset)))
        | .cell (.epo g cells pos) => some (.cell (.epo g cells (pos + fd.offset)))
        | _ => none
      | _ => none
    | none => none
  | _ => none

def qfield (P : Program) (s : TypeId) (x : AV) (f : Nat) : Option AV :=
  match P.underlying s, x with
  | some (.struct fields), .agg xs => (fields[f]?).bind fun fd => partAC P fd.type xs fd.offset
  | _, _ => none

def qindexAddr (P : Program) (t : TypeId) (x i : AV) : Option AV :=
  match i with
  | .cell (.p (.c (.int _ n))) =>
    match P.underlying t with
    | some (.slice e) =>
      match szOf P e, x with
      | some s, .cell (.p (.sl m cells)) => if (0 ≤ n ∧ n < m) ∧ n.toNat * s < cells.length then some (.cell (.ep none cells (n.toNat * s))) else none
      | some s, .cell (.own f _ m cells) => if 0 ≤ n ∧ n < m then some (.cell (.epo f cells (n.toNat * s))) else none
      | some s, .cell (.view f m cells) => if (0 ≤ n ∧ n < m) ∧ n.toNat * s < cells.length then some (.cell (.ep (some f) cells (n.toNat * s))) else none
      | _, _ => none
    | some (.array len e) =>
      match szOf P e, x with
      | some s, .cell (.ptr b off) => if 0 ≤ n ∧ n < len then some (.cell (.ptr b (off + n.toNat * s))) else none
      | some s, .cell (.ep k cells pos) => if 0 ≤ n ∧ n < len then some (.cell (.ep k cells (pos + n.toNat * s))) else none
      | some s, .cell (.epo f cells pos) => if 0 ≤ n ∧ n < len then some (.cell (.epo f cells (pos + n.toNat * s))) else none
      | _, _ => none
    | _ => none
  | _ => none

def qindex (P : Program) (t : TypeId) (x i : AV) : Option AV :=
  match i with
  | .cell (.p (.c (.int _ n))) =>
    match P.underlying t, x with
    | some (.array len e), .agg xs => if 0 ≤ n ∧ n < len then (szOf P e).bind fun s => partAC P e xs (n.toNat * s) else none
    | some .string, .cell (.p (.c (.string s))) => if 0 ≤ n then (s[n.toNat]?).map fun b => iV .u8 (b.toNat : Int) else none
    | _, _ => none
  | _ => none

/-- A bound of a slice expression: what it is where it is left out. -/
def bound (x : Option AV) (d : Nat) : Option Int :=
  match x with
  | none => some d
  | some (.cell (.p (.c (.int _ n)))) => some n
  | _ => none

def qslice (P : Program) (t : TypeId) (x : AV) (lo hi mx : Option AV) : Option AV :=
  match P.underlying t, x with
  | some .string, .cell (.p (.c (.string s))) =>
    match bound lo 0, bound hi s.size, mx with
    | some l, some h, none => if 0 ≤ l ∧ l ≤ h ∧ h ≤ s.size then some (sV (s.extract l.toNat h.toNat)) else none
    | _, _, _ => none
  | some (.slice e), .cell x =>
    match x.sl?, szOf P e with
    | some (n, cells), some s =>
      match bound lo 0, bound hi n, mx with
      | some l, some h, none =>
        if 0 ≤ l ∧ l ≤ h ∧ h ≤ n then
          match x with
          | .p _ => some (.cell (.p (.sl (h - l).toNat ((cells.drop (l.toNat * s)).take ((h - l).toNat * s)))))
          | .z => some (.cell .z)
          | .own f sz _ _ => if l = 0 then (if sz = s then some (.cell (.own f sz h.toNat (cells.take (h.toNat * s)))) else none)
              else some (.cell (.view f (h - l).toNat ((cells.drop (l.toNat * s)).take ((h - l).toNat * s))))
          | .view f _ _ => some (.cell (.view f (h - l).toNat ((cells.drop (l.toNat * s)).take ((h - l).toNat * s))))
          | _ => none
        else none
      | some l, some h, some m =>
        match hi, m with
        | some _, .cell (.p (.c (.int _ m))) => if l = 0 ∧ h = 0 ∧ m = 0 then some (.cell .z) else none
        | _, _ => none
      | _, _, _ => none
    | _, _ => none
  | _, _ => none

/-- The parts of a composite, laid into its cells. -/
def setRun {α : Type} (cells : List α) (off : Nat) : List α → List α
  | [] => cells
  | x :: xs => setRun (cells.set off x) (off + 1) xs

def fillA (place : Nat → Option (Nat × Nat)) (cells : List AC) : List (Nat × List AC) → Option (List AC)
  | [] => some cells
  | (i, v) :: rest =>
    match place i with
    | none => none
    | some (off, size) => if v.length ≠ size ∨ off + v.length > cells.length then none else fillA place (setRun cells off v) rest

def partsA (ev : Operand → AV) : List (Nat × Operand) → Option (List (Nat × List AC))
  | [] => some []
  | (i, x) :: r => match (ev x).cells?, partsA ev r with
    | some cs, some l => some ((i, cs) :: l)
    | _, _ => none

def toCVs : List AC → Option (List CV)
  | [] => some []
  | x :: r => match x.toCV, toCVs r with
    | some c, some l => some (c :: l)
    | _, _ => none

/-- Places of a struct's fields. -/
def placesA (P : Program) : List Field → Option (List (Nat × Nat))
  | [] => some []
  | fd :: r => match szOf P fd.type, placesA P r with
    | some s, some l => some ((fd.offset, s) :: l)
    | _, _ => none

def zeroA (P : Program) (t : TypeId) : Option (List AC) :=
  match P.info? t with
  | some i => match i.zero with
    | some z => if z.cells.toList.all (·.oneCell') then some (z.cells.toList.map constAC) else none
    | none => none
  | none => none

def qbuild (P : Program) (t : TypeId) (parts : List (Nat × Operand)) (ev : Operand → AV) : Option AV :=
  match P.underlying t, zeroA P t, partsA ev parts with
  | some (.struct fields), some zero, some ps => (placesA P fields.toList).bind fun pl => (fillA (fun i => pl[i]?) zero ps).map .agg
  | some (.array _ e), some zero, some ps => (szOf P e).bind fun s => (fillA (fun i => some (i * s, s)) zero ps).map .agg
  | _, _, _ => none

/-- n copies of the zero cells. -/
def repA (n : Nat) (zero : List AC) : List AC := match n with | 0 => [] | n + 1 => zero ++ repA n zero

def qbuildSlice (P : Program) (id : Nat) (t : TypeId) (len : Nat) (parts : List (Nat × Operand)) (ev : Operand → AV) : Option AV :=
  match P.underlying t with
  | some (.slice e) =>
    match szOf P e, zeroA P e, partsA ev parts with
    | some s, some zero, some ps =>
      if len * s ≤ 16777216 ∧ zero.length = s ∧ 0 < s then
        if len = 0 then (if ps.isEmpty then some (.cell .z) else none) else
        match fillA (fun i => some (i * s, s)) (repA len zero) ps with
        | some cells => (toCVs cells).map fun cs => .cell (.own id s len cs)
        | none => none
      else none
    | _, _, _ => none
  | _ => none

def qbuiltin (P : Program) (b : Builtin) (argTypes : List TypeId) (args : List AV) : Option AV :=
  match b, argTypes, args with
  | .len, t :: _, [x] =>
    match P.underlying t, x with
    | some .string, .cell (.p (.c (.string s))) => some (iV .i64 (s.size : Int))
    | some (.array n _), _ => some (iV .i64 (n : Int))
    | some (.slice _), .cell x => x.sl?.map fun (n, _) => iV .i64 (n : Int)
    | _, _ => none
  | .max, _, [.cell (.p (.c (.int k x))), .cell (.p (.c (.int _ y)))] => some (iV k (if y > x then y else x))
  | .min, _, [.cell (.p (.c (.int k x))), .cell (.p (.c (.int _ y)))] => some (iV k (if y < x then y else x))
  | _, _, _ => none

def qval (P : Program) (id : Nat) (ev : Operand → AV) (bx : Nat → Option (List AC)) (op : Op) : Option AV :=
  match op with
  | .move x => some (ev x)
  | .assign x => some (ev x)
  | .pick c a b => match ev c with
    | .cell (.p (.c (.bool t))) => some (if t then ev a else ev b)
    | _ => none
  | .binOp op t x y _ => match ev x, ev y with
    | .cell (.p (.c u)), .cell (.p (.c v)) => (valBin P op t u v).map fun r => .cell (.p (.c r))
    | _, _ => none
  | .unOp op _ x => match ev x with
    | .cell (.p (.c u)) => (valUn op u).map fun r => .cell (.p (.c r))
    | _ => none
  | .convert src dst x => qconv P id src dst (ev x)
  | .load t x => qload P t (ev x) bx
  | .nilCheck x => match ev x with
    | .cell (.ptr b o) => some (.cell (.ptr b o))
    | _ => none
  | .fieldAddr s x f => qfieldAddr P s (ev x) f
  | .field s x f => qfield P s (ev x) f
  | .indexAddr t x i => qindexAddr P t (ev x) (ev i)
  | .index t x i => qindex P t (ev x) (ev i)
  | .slice t x lo hi mx => qslice P t (ev x) (lo.map ev) (hi.map ev) (mx.map ev)
  | .extract t i => match ev t with
    | .tup xs => xs[i]?
    | _ => none
  | .build t parts => qbuild P t parts.toList ev
  | .buildSlice t len parts => qbuildSlice P id t len parts.toList ev
  | .call { callee := .builtin b, args := args, argTypes := ts } => qbuiltin P b ts.toList (args.toList.map ev)
  | _ => none

end Go.Fw
