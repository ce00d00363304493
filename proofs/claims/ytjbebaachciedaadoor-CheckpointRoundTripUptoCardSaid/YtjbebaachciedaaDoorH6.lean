/- Contracts of functions, by their numbers, and the laws that walk them. Conditions: as each states. -/
import Derived.Test.YtjbebaachciedaaDoorH5
import Derived.Test.YtjbebaachciedaaDoorH4
import Derived.Test.YtjbebaachciedaaDoorH3
import Derived.KernelRfl
import Derived.Test.YtjbebaachciedaaDoorRows
import Derived.LaidMore
import Derived.MakeChecks
set_option linter.all false
section
set_option linter.all false
namespace Go.Dc.Pl
open Go Go.Hw Go.Dc
theorem appU_le (b : List UInt8) (n : Int) : (appU b n).length <= b.length + 9 := by
 unfold appU; split
 ·omega
 ·have := uintB_le9 (n := n.toNat) (by omega); simp; omega
theorem appI_le (b : List UInt8) (n : Int) : (appI b n).length <= b.length + 9 := by
 unfold appI; split
 ·rename_i h; have := uintB_le9 (intCode_le h); simp; omega
 ·omega
theorem appS_le (b : List UInt8) {s : ByteArray} (h : s.size <= 16) : (appS b s).length <= b.length + 25 := by
 have h9 := uintB_le9 (n := s.size) (by omega); have := str_len s
 unfold appS; simp; omega
/-- Bytes appended element by element. -/
theorem foldA {α : Type} {L : List α -> List UInt8 -> Nat -> Option (List UInt8)} (g : List UInt8 -> α -> List UInt8) (c B : Nat) (ok : α -> Prop) (h0 : ∀ b k, L [] b k = some b)
  (h1 : ∀ x q b k, ok x -> b.length <= B -> L (x :: q) b k = L q (g b x) (k + 1)) (hl : ∀ x b, ok x -> (g b x).length <= b.length + c) :
  ∀ (l : List α) (b : List UInt8) (k : Nat), (∀ x ∈ l, ok x) -> b.length + c * l.length <= B -> L l b k = some (l.foldl g b) /\ (l.foldl g b).length <= b.length + c * l.length
 | [], b, k, _, _ => ⟨h0 b k, by simp⟩
 | x :: q, b, k, ho, hb => by
  have hx := ho x (by simp)
  have hg := hl x b hx
  rw [List.length_cons, Nat.mul_succ] at hb ⊢
  obtain ⟨e1, e2⟩ := foldA g c B ok h0 h1 hl q (g b x) (k + 1) (fun y hy => ho y (by simp [hy])) (by omega)
  refine ⟨by rw [h1 x q b k hx (by omega)]; exact e1, ?_⟩
  show (List.foldl g (g b x) q).length <= _
  omega
def numsB (b : List UInt8) (l : List Int) : List UInt8 := l.foldl appI b
theorem own_nums {f : Nat} {b : List UInt8} {l : List Int} (hf : 9 <= f) (h : b.length + 9 * l.length <= 1000000) : checkpoint_text_1 f l b = some (numsB b l) /\ (numsB b l).length <= b.length + 9 * l.length := by
 have := foldA (L := fun l b k => checkpoint_text_1_L1 f l k b) appI 9 1000000 (fun _ => True) (fun b k => rfl) (fun x q b k _ hb => by
  show checkpoint_text_1_L1 f (x :: q) k b = _
  rw [checkpoint_text_1_L1, own_appI hf (by omega)]; rfl) (fun x b _ => appI_le b x) l b 0 (fun _ _ => trivial) h
 exact ⟨by rw [checkpoint_text_1, this.1]; rfl, this.2⟩
theorem ref_nums {f : Nat} {b : List UInt8} {l : List Int} (hf : 9 <= f) (h : b.length + 9 * l.length <= 1000000) : r49_numbers f b l = some (numsB b l) := by
 have := foldA (L := r49_numbers_L1 f) appI 9 1000000 (fun _ => True) (fun b k => rfl) (fun x q b k _ hb => by
  rw [r49_numbers_L1, ref_appI hf (by omega)]; rfl) (fun x b _ => appI_le b x) l b 0 (fun _ _ => trivial) h
 rw [r49_numbers, this.1]; rfl
theorem nums_le (b : List UInt8) (l : List Int) : (numsB b l).length <= b.length + 9 * l.length := by
 induction l generalizing b with
 | nil => simp [numsB]
 | cons x l ih => have h1 := ih (appI b x); have h2 := appI_le b x; simp only [numsB, List.foldl_cons, List.length_cons] at h1 ⊢; omega
def namesB (b : List UInt8) (l : List ByteArray) : List UInt8 := l.foldl appS (appU b (l.length : Int))
theorem own_namesB {f : Nat} {b : List UInt8} {l : List ByteArray} (hf : 9 <= f) (hl : ∀ x ∈ l, x.size <= 16) (h : b.length + 9 + 25 * l.length <= 1000000) :
  checkpoint_text_3_checkpoint_text_2 f l b = some (namesB b l) /\ (namesB b l).length <= b.length + 9 + 25 * l.length := by
 have hu := appU_le b (l.length : Int)
 have := foldA (L := fun l b k => checkpoint_text_3_checkpoint_text_2_L1 f l k b) appS 25 1000000 (fun x => x.size <= 16) (fun b k => rfl) (fun x q b k hx hb => by
  show checkpoint_text_3_checkpoint_text_2_L1 f (x :: q) k b = _
  rw [checkpoint_text_3_checkpoint_text_2_L1, own_appS hf (by omega) (by omega)]; rfl) (fun x b hx => appS_le b hx) l (appU b (l.length : Int)) 0 hl (by omega)
 refine ⟨?_, by have := this.2; unfold namesB; omega⟩
 rw [checkpoint_text_3_checkpoint_text_2, checkpoint_text_2, own_appU hf (by omega)]
 simp only [Option.bind_some, this.1]; rfl
theorem ref_namesB {f : Nat} {b : List UInt8} {l : List ByteArray} (hf : 9 <= f) (hl : ∀ x ∈ l, x.size <= 16) (h : b.length + 9 + 25 * l.length <= 1000000) : r49_names f b l = some (namesB b l) := by
 have hu := appU_le b (l.length : Int)
 have := foldA (L := r49_names_L1 f) appS 25 1000000 (fun x => x.size <= 16) (fun b k => rfl) (fun x q b k hx hb => by
  rw [r49_names_L1, ref_appS hf (by omega) (by omega)]; rfl) (fun x b hx => appS_le b hx) l (appU b (l.length : Int)) 0 hl (by omega)
 rw [r49_names, ref_appU hf (by omega)]
 simp only [Option.bind_some, this.1]; rfl
def varB (b : List UInt8) (v : Var) : List UInt8 := numsB (appS b v.Name) [v.Init]
def fieldsI (x : Inst) : List Int := [x.Op, x.A, x.B, x.C, x.Obj, x.N, x.Fn, x.Order]
def instB (b : List UInt8) (x : Inst) : List UInt8 := numsB b (fieldsI x)
def funcB (b : List UInt8) (g : Func) : List UInt8 := g.Code.foldl instB (appU (appS b g.Name) (g.Code.length : Int))
def startB (b : List UInt8) (t : Start) : List UInt8 := numsB b [t.Func, t.Arg]
def textB (p : Program) (c : Config) : List UInt8 :=
 p.Threads.foldl startB (appU (p.Funcs.foldl funcB (appU (namesB (namesB (p.Vars.foldl varB (appU (numsB [] [c.Model, c.Bound]) (p.Vars.length : Int))) p.Mutexes) p.Conds) (p.Funcs.length : Int))) (p.Threads.length : Int))
theorem code_own {f : Nat} (hf : 9 <= f) (l : List Inst) (b : List UInt8) (h : b.length + 72 * l.length <= 900000) : checkpoint_text_L3 f l 0 b = some (l.foldl instB b) /\ (l.foldl instB b).length <= b.length + 72 * l.length :=
 foldA (L := fun l b k => checkpoint_text_L3 f l k b) instB 72 900000 (fun _ => True) (fun b k => rfl) (fun x q b k _ hb => by
  show checkpoint_text_L3 f (x :: q) k b = _
  rw [checkpoint_text_L3]
  simp only [Option.bind_some]
  rw [(own_nums (l := [x.Op, x.A, x.B, x.C, x.Obj, x.N, x.Fn, x.Order]) hf (by simp; omega)).1]; rfl) (fun x b _ => by have := nums_le b (fieldsI x); simpa [instB, fieldsI] using this) l b 0 (fun _ _ => trivial) h
theorem code_ref {f : Nat} (hf : 9 <= f) (l : List Inst) (b : List UInt8) (h : b.length + 72 * l.length <= 900000) : r49_Digest_L3 f l b 0 = some (l.foldl instB b) :=
 (foldA (L := r49_Digest_L3 f) instB 72 900000 (fun _ => True) (fun b k => rfl) (fun x q b k _ hb => by
  rw [r49_Digest_L3]
  simp only [Option.bind_some]
  rw [ref_nums (l := [x.Op, x.A, x.B, x.C, x.Obj, x.N, x.Fn, x.Order]) hf (by simp; omega)]; rfl) (fun x b _ => by have := nums_le b (fieldsI x); simpa [instB, fieldsI] using this) l b 0 (fun _ _ => trivial) h).1
theorem funcB_le {b : List UInt8} {g : Func} (h : g.Name.size <= 16) : (funcB b g).length <= b.length + 34 + 72 * g.Code.length := by
 have h1 := appS_le b h
 have h2 := appU_le (appS b g.Name) (g.Code.length : Int)
 have : ∀ (l : List Inst) (b : List UInt8), (l.foldl instB b).length <= b.length + 72 * l.length := fun l => by
  induction l with
  | nil => intro b; simp
  | cons x l ih => intro b; have h3 := ih (instB b x); have h4 := nums_le b (fieldsI x); simp only [List.foldl_cons, List.length_cons]; simp only [instB, fieldsI, List.length_cons, List.length_nil] at h3 h4 ⊢; omega
 have h3 := this g.Code (appU (appS b g.Name) (g.Code.length : Int))
 unfold funcB; omega
theorem zip_foldl {α σ : Type} (g : σ -> α -> σ) : ∀ (l : List α) (k : Nat) (s : σ), (l.zipIdx k).foldl (fun s x => g s x.1) s = l.foldl g s
 | [], _, _ => rfl
 | x :: l, k, s => by rw [List.zipIdx_cons, List.foldl_cons, List.foldl_cons, zip_foldl g l]
theorem funcs_own {f : Nat} (hf : 200 <= f) (p : Program) (hp : p.Funcs.length <= 20) (hc : ∀ g ∈ p.Funcs, g.Code.length <= 100 /\ g.Name.size <= 16) (b : List UInt8) (hb : b.length <= 10000) :
  checkpoint_text_L2 f p f 0 b = some (p.Funcs.foldl funcB b) /\ (p.Funcs.foldl funcB b).length <= 10000 + 7234 * 20 := by
 have h := foldI (L := fun q s i => checkpoint_text_L2 f p q i s) p.Funcs (fun _ g s => funcB s g) (fun k s => s.length <= 10000 + 7234 * k) (fun q s _ => by
   show checkpoint_text_L2 f p (q + 1) _ s = _
   rw [checkpoint_text_L2, ltI_d, decide_eq_false (by omega)]; rfl) (fun q k s x hx hs => by
   have hk := getN_some hx
   obtain ⟨c1, c2⟩ := hc x (List.mem_of_getElem? hx)
   have hl := funcB_le (b := s) c2
   have ha := appS_le s c2
   have hu := appU_le (appS s x.Name) (x.Code.length : Int)
   refine ⟨?_, by omega⟩
   show checkpoint_text_L2 f p (q + 1) _ s = checkpoint_text_L2 f p q _ _
   rw [checkpoint_text_L2, ltI_d, decide_eq_true (by omega), cond_true, getI_nat, hx, Option.bind_some, own_appS (by omega) (by omega) (by omega), Option.bind_some, checkpoint_text_2, own_appU (by omega) (by omega)]
   simp only [Option.bind_some]
   rw [(code_own (by omega) x.Code _ (by omega)).1, wrapS (by omega)]; rfl) f 0 b (by omega) (by omega) (by omega)
 rw [List.drop_zero, zip_foldl (fun s g => funcB s g)] at h
 refine ⟨h, ?_⟩
 have : ∀ (l : List Func) (b : List UInt8), (∀ g ∈ l, g.Code.length <= 100 /\ g.Name.size <= 16) -> (l.foldl funcB b).length <= b.length + 7234 * l.length := fun l => by
  induction l with
  | nil => intro b _; simp
  | cons x l ih => intro b hl; have h3 := ih (funcB b x) (fun g hg => hl g (by simp [hg])); have h4 := funcB_le (b := b) (hl x (by simp)).2; have h5 := (hl x (by simp)).1; simp only [List.foldl_cons, List.length_cons]; omega
 have := this p.Funcs b hc
 have e : 7234 * p.Funcs.length <= 7234 * 20 := Nat.mul_le_mul_left _ hp
 omega
theorem funcs_ref {f : Nat} (hf : 200 <= f) (p : Program) (hp : p.Funcs.length <= 20) (hc : ∀ g ∈ p.Funcs, g.Code.length <= 100 /\ g.Name.size <= 16) (b : List UInt8) (hb : b.length <= 10000) :
  r49_Digest_L2 f p f b 0 = some (p.Funcs.foldl funcB b) := by
 have h := foldI (L := fun q s i => r49_Digest_L2 f p q s i) p.Funcs (fun _ g s => funcB s g) (fun k s => s.length <= 10000 + 7234 * k) (fun q s _ => by
   show r49_Digest_L2 f p (q + 1) s _ = _
   rw [r49_Digest_L2, ltI_d, decide_eq_false (by omega)]; rfl) (fun q k s x hx hs => by
   have hk := getN_some hx
   obtain ⟨c1, c2⟩ := hc x (List.mem_of_getElem? hx)
   have hl := funcB_le (b := s) c2
   have ha := appS_le s c2
   have hu := appU_le (appS s x.Name) (x.Code.length : Int)
   refine ⟨?_, by omega⟩
   show r49_Digest_L2 f p (q + 1) s _ = r49_Digest_L2 f p q _ _
   rw [r49_Digest_L2, ltI_d, decide_eq_true (by omega), cond_true, getI_nat, hx, Option.bind_some, ref_appS (by omega) (by omega) (by omega), Option.bind_some, ref_appU (by omega) (by omega)]
   simp only [Option.bind_some]
   rw [code_ref (by omega) x.Code _ (by omega), wrapS (by omega)]; rfl) f 0 b (by omega) (by omega) (by omega)
 rw [List.drop_zero, zip_foldl (fun s g => funcB s g)] at h
 exact h
/-- The text, by both; and its length. -/
theorem text_eq {f : Nat} (hf : 200 <= f) {p : Program} (c : Config) (h : small p = true) (hk : eqI (chk p).1 0 = true) :
  checkpoint_text f p c = some (textB p c) /\ (textB p c).length <= 200000 /\
  (∀ K : List UInt8 -> Option (Int × Int), (Option.bind (r49_numbers f [] [c.Model, c.Bound]) fun y6 => Option.bind (r06_AppendUint f y6 ((p.Vars.length : Nat) : Int)) fun y8 => Option.bind (Option.bind (r49_Digest_L1 f p.Vars y8 0) fun l82 => some l82) fun l53 => Option.bind (r49_names f l53 p.Mutexes) fun y101 => Option.bind (r49_names f y101 p.Conds) fun y103 => Option.bind (r06_AppendUint f y103 ((p.Funcs.length : Nat) : Int)) fun y105 => Option.bind (Option.bind (r49_Digest_L2 f p f y105 0) fun l1039 => some l1039) fun l638 => Option.bind (r06_AppendUint f l638 ((p.Threads.length : Nat) : Int)) fun y1174 => Option.bind (Option.bind (r49_Digest_L4 f p.Threads y1174 0) fun l1326 => some l1326) K) = K (textB p c)) := by
 obtain ⟨s1, s2, s3, s4, s5, s6⟩ := small_t h
 obtain ⟨n1, n2, n3, n4⟩ := names16 hk
 have a1 := nums_le [] [c.Model, c.Bound]
 simp only [List.length_nil, List.length_cons] at a1
 have a2 := appU_le (numsB [] [c.Model, c.Bound]) (p.Vars.length : Int)
 have hv := foldA (L := fun l b k => checkpoint_text_L1 f l k b) varB 34 100000 (fun v => v.Name.size <= 16) (fun b k => rfl) (fun x q b k hx hb => by
  show checkpoint_text_L1 f (x :: q) k b = _
  have := appS_le b hx
  rw [checkpoint_text_L1, own_appS (by omega) (by omega) (by omega)]
  simp only [Option.bind_some]
  rw [(own_nums (l := [x.Init]) (by omega) (by simp; omega)).1]; rfl) (fun x b hx => by have h1 := appS_le b hx; have h2 := nums_le (appS b x.Name) [x.Init]; simp only [List.length_cons, List.length_nil] at h2; unfold varB; omega)
  p.Vars (appU (numsB [] [c.Model, c.Bound]) (p.Vars.length : Int)) 0 n1 (by omega)
 have hv' := foldA (L := r49_Digest_L1 f) varB 34 100000 (fun v => v.Name.size <= 16) (fun b k => rfl) (fun x q b k hx hb => by
  have := appS_le b hx
  rw [r49_Digest_L1, ref_appS (by omega) (by omega) (by omega), Option.bind_some, ref_appI (by omega) (by omega)]; rfl) (fun x b hx => by have h1 := appS_le b hx; have h2 := nums_le (appS b x.Name) [x.Init]; simp only [List.length_cons, List.length_nil] at h2; unfold varB; omega)
  p.Vars (appU (numsB [] [c.Model, c.Bound]) (p.Vars.length : Int)) 0 n1 (by omega)
 obtain ⟨hv1, hv2⟩ := hv
 generalize hV : p.Vars.foldl varB (appU (numsB [] [c.Model, c.Bound]) (p.Vars.length : Int)) = V at hv1 hv2 hv'
 obtain ⟨m1, m2⟩ := own_namesB (f := f) (b := V) (by omega) n2 (by omega)
 have m3 := ref_namesB (f := f) (b := V) (by omega) n2 (by omega)
 obtain ⟨c1, c2⟩ := own_namesB (f := f) (b := namesB V p.Mutexes) (by omega) n3 (by omega)
 have c3 := ref_namesB (f := f) (b := namesB V p.Mutexes) (by omega) n3 (by omega)
 have u1 := appU_le (namesB (namesB V p.Mutexes) p.Conds) (p.Funcs.length : Int)
 obtain ⟨f1, f2⟩ := funcs_own hf p s4 (fun g hg => ⟨s6 g hg, n4 g hg⟩) (appU (namesB (namesB V p.Mutexes) p.Conds) (p.Funcs.length : Int)) (by omega)
 have f3 := funcs_ref hf p s4 (fun g hg => ⟨s6 g hg, n4 g hg⟩) (appU (namesB (namesB V p.Mutexes) p.Conds) (p.Funcs.length : Int)) (by omega)
 generalize hF : p.Funcs.foldl funcB (appU (namesB (namesB V p.Mutexes) p.Conds) (p.Funcs.length : Int)) = F at f1 f2 f3
 have u2 := appU_le F (p.Threads.length : Int)
 have ht := foldA (L := fun l b k => checkpoint_text_L4 f l k b) startB 18 900000 (fun _ => True) (fun b k => rfl) (fun x q b k _ hb => by
  show checkpoint_text_L4 f (x :: q) k b = _
  rw [checkpoint_text_L4]
  simp only [Option.bind_some]
  rw [(own_nums (l := [x.Func, x.Arg]) (by omega) (by simp; omega)).1]; rfl) (fun x b _ => by have := nums_le b [x.Func, x.Arg]; simpa [startB] using this) p.Threads (appU F (p.Threads.length : Int)) 0 (fun _ _ => trivial) (by omega)
 have ht' := foldA (L := r49_Digest_L4 f) startB 18 900000 (fun _ => True) (fun b k => rfl) (fun x q b k _ hb => by
  rw [r49_Digest_L4]
  simp only [Option.bind_some]
  rw [ref_nums (l := [x.Func, x.Arg]) (by omega) (by simp; omega)]; rfl) (fun x b _ => by have := nums_le b [x.Func, x.Arg]; simpa [startB] using this) p.Threads (appU F (p.Threads.length : Int)) 0 (fun _ _ => trivial) (by omega)
 have eT : textB p c = p.Threads.foldl startB (appU F (p.Threads.length : Int)) := by unfold textB; rw [hV, hF]
 refine ⟨?_, by rw [eT]; have := ht.2; omega, fun K => ?_⟩
 ·rw [checkpoint_text]
  simp only [Option.bind_some]
  rw [(own_nums (l := [c.Model, c.Bound]) (by omega) (by simp)).1]
  simp only [Option.bind_some, checkpoint_text_2]
  rw [own_appU (by omega) (by omega)]
  simp only [Option.bind_some]
  rw [hv1]
  simp only [Option.bind_some]
  rw [m1]
  simp only [Option.bind_some]
  rw [c1]
  simp only [Option.bind_some]
  rw [own_appU (by omega) (by omega)]
  simp only [Option.bind_some]
  rw [f1]
  simp only [Option.bind_some]
  rw [own_appU (by omega) (by omega)]
  simp only [Option.bind_some]
  rw [ht.1, eT]; rfl
 ·rw [ref_nums (by omega) (by simp)]
  simp only [Option.bind_some]
  rw [ref_appU (by omega) (by omega)]
  simp only [Option.bind_some]
  rw [hv'.1]
  simp only [Option.bind_some]
  rw [m3]
  simp only [Option.bind_some]
  rw [c3]
  simp only [Option.bind_some]
  rw [ref_appU (by omega) (by omega)]
  simp only [Option.bind_some]
  rw [f3]
  simp only [Option.bind_some]
  rw [ref_appU (by omega) (by omega)]
  simp only [Option.bind_some]
  rw [ht'.1, eT]; rfl
/-- The digest. -/
def digest (p : Program) (c : Config) : Int × Int := cond (!(eqI (stdE p c) 0)) (0, stdE p c) (((crc (textB p c) : Nat) : Int), 0)
theorem own_digest {f : Nat} (hf : 300000 <= f) {p : Program} (c : Config) (h : small p = true) : checkpoint_Digest f p c = some (digest p c) := by
 obtain ⟨f, rfl⟩ : ∃ g, f = g + 8 := ⟨f - 8, by omega⟩
 rw [checkpoint_Digest, own_std c h, Option.bind_some, digest]
 cases hs : eqI (stdE p c) 0 with
 | false => rfl
 | true =>
  obtain ⟨h1, h2, h3⟩ := text_eq (f := f + 8) (by omega) c h (std_chk hs)
  have hc := crc_lt (textB p c)
  rw [Bool.not_true, cond_false, h1, Option.bind_some, own_crc (by omega) (by omega) (by omega), Option.bind_some, wrap_i64 (by omega) (by omega)]; rfl
theorem digest_range (p : Program) (c : Config) : 0 <= (digest p c).1 /\ (digest p c).1 < 4294967296 := by
 have := crc_lt (textB p c)
 unfold digest; cases eqI (stdE p c) 0 <;> simp <;> omega
end Go.Dc.Pl
end
section
set_option linter.all false
namespace Go.Dc
open Go Go.Hw Go.Proofs
set_option maxRecDepth 100000
def checkpoint_agent (a0 : Int) : Option Bool :=
 some (andB (!(ltI a0 (-2147483648))) (!(ltI 2147483647 a0)))
set_option maxHeartbeats 2000000 in
theorem at_checkpoint_agent {a0 : Int} {r : Bool} (hs : checkpoint_agent a0 = some r) : At Tryd.prog 61 [iV .i64 a0] (bV r) := by
 refine at_bound (by kernel_rfl) fun hb => ?_
 refine at_code mixed Tryd.func61 (by kernel_rfl) rfl (by kernel_rfl) rfl fun Q hQ => ?_
 rw [checkpoint_agent] at hs
 refine goG f0 f0 ?_
 obtain rfl := sj hs
 exact hQ _ _ (rg f0 (Gh.refl _))
end Go.Dc
end
section
set_option linter.all false
namespace Go.Dc
open Go Go.Hw Go.Proofs
set_option maxRecDepth 100000
def checkpoint_shallow_L1 (a1 : Int) (rF62z : Tree -> Int -> Option Bool) : List Tree -> Nat -> Option (Unit ⊕ Bool)
 | [], k54 => some (.inl ())
 | x74 :: q70, k54 => Option.bind (checkpoint_agent x74.Agent) (fun y77 => guardO (orB (!y77) ((rF62z x74 (IntKind.i64.wrap (a1 - 1))).isSome)) (cond (orB (!y77) (!((rF62z x74 (IntKind.i64.wrap (a1 - 1))).getD default))) (some (.inr false)) (checkpoint_shallow_L1 a1 rF62z q70 (k54 + 1))))
def checkpoint_shallow_B (rF62z : Tree -> Int -> Option Bool) (a0 : Tree) (a1 : Int) : Option Bool :=
 cond (andB (ltI 0 ((a0.Kids.length : Nat) : Int)) (eqI a1 0)) (some false) (Option.bind (α := Unit ⊕ Bool) (Option.bind (checkpoint_shallow_L1 a1 rF62z a0.Kids 0) (fun o => match o with | .inl _ => some (.inl ()) | .inr r81 => some (.inr r81))) (fun o => match o with | .inl _ => some true | .inr r82 => some r82))
def checkpoint_shallow : Nat -> Tree -> Int -> Option Bool
 | 0 => fun _ _ => none
 | fuelN + 1 => fun a0 a1 => checkpoint_shallow_B (checkpoint_shallow fuelN) a0 a1
set_option maxHeartbeats 2000000 in
theorem at_checkpoint_shallow_B {rF62z : Tree -> Int -> Option Bool} (ihrF62z : ∀ (a0 : Tree) (a1 : Int) (r : Bool), rF62z a0 a1 = some r -> At Tryd.prog 62 [.agg (eA a0), iV .i64 a1] (bV r)) {a0 : Tree} {a1 : Int} {r : Bool} (hs : checkpoint_shallow_B rF62z a0 a1 = some r) : At Tryd.prog 62 [.agg (eA a0), iV .i64 a1] (bV r) := by
 refine at_bound (by kernel_rfl) fun hb => ?_
 have hb1 : LenOk (.sl a0.Kids.length (encL a0.Kids)) := lkc hb
 refine at_code mixed Tryd.func62 (by kernel_rfl) rfl (by kernel_rfl) rfl fun Q hQ => ?_
 rw [checkpoint_shallow_B] at hs
 refine goG f0 f0 ?_
 revert hs; refine cS f0 ?_ ?_ <;> intro h1 hs
 ·refine goG f0 f0 ?_
  obtain rfl := sj hs
  exact hQ _ _ (rg f0 (Gh.refl _))
 ·refine goG2 f0 f0 ?_
  revert hs; refine bK fun o41 e40 hs => ?_
  refine awp_cutK (fun (v : Unit) (σ : St) => some (.inl v) = some o41 /\ 3 <= σ.gen) (by rfl) (fun Q hK42 hX43 => ?_) (fun v σ3 hp => ?_)
  ·refine goG f0 f0 ?_
   revert e40; refine bK fun o65 e64 e40 => ?_
   refine awp_loopW (fun (v : (List Tree) × Nat) (σ : St) => checkpoint_shallow_L1 a1 rF62z v.1 v.2 = some o65 /\ v.1 = a0.Kids.drop v.2 /\ σ.env 1 = iV .i64 a1 /\ σ.env 16 = .cell (sC a0.Kids) /\ σ.env 17 = iV .i64 ((a0.Kids.length : Nat) : Int) /\ σ.env 18 = iV .i64 ((v.2 : Nat) : Int) /\ 3 <= σ.gen) (fun v => v.1.length) _ (Gh.refl _) (a0.Kids, 0) ⟨e64, by simp, pv f0, pv f0, pv f0, pv f0, pg⟩ fun v σ6 hp L66 hL67 => ?_
   obtain ⟨q69, k54⟩ := v
   dsimp only at hp hL67
   obtain ⟨e64, hd68, h5_1, h5_16, h5_17, h5_18, n5_g⟩ := hp
   rcases q69 with _ | ⟨x74, q70⟩
   ·have hlt71 := drop_end hd68
    rw [checkpoint_shallow_L1] at e64; try dsimp only at e64
    have F1 := an h5_1 (an h5_16 (an h5_17 h5_18))
    refine goR F1 ?_
    refine condK_f (by simp [ltI]; omega) ?_
    obtain rfl := sj e64
    try dsimp only at e40
    exact hK42 () _ _ (Gh.refl _) ⟨e40, pg⟩
   ·obtain ⟨hx73, hlt71, hd75⟩ := drop_next hd68
    have ew72 := wrap_succ hlt71 (hb1).len
    rw [checkpoint_shallow_L1] at e64; try dsimp only at e64
    have F2 := an h5_1 (an h5_16 (an h5_17 (an h5_18 (an hlt71 ew72))))
    refine goR F2 ?_
    refine condK_t (by simp [ltI]; omega) ?_
    have f76 : partCV Tryd.prog 77 (encL a0.Kids) (k54 * 2) = some (.agg (eA x74)) := partCV_enc hx73 (f := 0) (by simp)
    have F3 := an F2 f76
    refine goR F3 ?_
    revert e64; refine bK fun y77 hx78 e64 => ?_
    refine cP F3 (at_checkpoint_agent hx78) ?_
    refine goG F3 F3 ?_
    obtain ⟨g79, e64⟩ := guardO_some e64
    refine gsel_call (fun hg => ihrF62z _ _ _ (under_call g79 hg)) (fun hg => by (try simp at hg); (first | simp [hg, F3]); try rfl) (fun hg => by (try simp at hg); simp [hg, F3]) (by simp) ?_
    refine goG F3 F3 ?_
    revert e64; refine cS F3 ?_ ?_ <;> intro h80 e64
    ·refine goG F3 F3 ?_
     obtain rfl := sj e64
     try dsimp only at e40
     obtain rfl := sj e40
     try dsimp only at hs
     refine hX43 _ _ (by simp) ?_
     refine goG F3 F3 ?_
     obtain rfl := sj hs
     exact hQ _ _ (rg F3 (Gh.refl _))
    ·refine goG F3 F3 ?_
     exact hL67 (q70, (k54 + 1)) _ _ (Gh.refl _) ⟨e64, hd75, pv F3, pv F3, pv F3, pv F3, pg⟩ (by simp)
  ·obtain ⟨e40, n4_g⟩ := hp
   obtain rfl := sj e40
   try dsimp only at hs
   refine goG f0 f0 ?_
   obtain rfl := sj hs
   exact hQ _ _ (rg f0 (Gh.refl _))
theorem at_checkpoint_shallow : ∀ {fuelN : Nat} {a0 : Tree} {a1 : Int} {r : Bool} (hs : checkpoint_shallow fuelN a0 a1 = some r), At Tryd.prog 62 [.agg (eA a0), iV .i64 a1] (bV r)
 | 0, _, _, _, hs => by rw [checkpoint_shallow] at hs; cases hs
 | n + 1, _, _, _, hs => by
  rw [checkpoint_shallow] at hs
  exact at_checkpoint_shallow_B (fun _ _ _ h => at_checkpoint_shallow h) hs
end Go.Dc
end
section
set_option linter.all false
namespace Go.Dc
open Go Go.Hw Go.Proofs
set_option maxRecDepth 100000
def wakeup_Valid_1_wakeup_Valid_1_L2 (x1270 : Tree) : List Tree -> Nat -> Option (Unit ⊕ Bool)
 | [], k1317 => some (.inl ())
 | x1334 :: q1330, k1317 => cond (eqI x1334.Agent x1270.Agent) (some (.inr false)) (wakeup_Valid_1_wakeup_Valid_1_L2 x1270 q1330 (k1317 + 1))
def wakeup_Valid_1_wakeup_Valid_1_L1 (a0 : List Tree) (rF76q76z : (List Tree) -> Option Bool) : Nat -> Int -> Option (Unit ⊕ Bool)
 | 0, _ => none
 | q1188 + 1, i1013 => cond (ltI i1013 ((a0.length : Nat) : Int)) (Option.bind (α := Unit ⊕ Bool) (Option.bind (getI a0 i1013) (fun x1270 => guardO (slB 0 i1013 a0.length) (Option.bind (some (subL a0 0 i1013)) (fun l1274 => Option.bind (α := Unit ⊕ Bool) (Option.bind (wakeup_Valid_1_wakeup_Valid_1_L2 x1270 l1274 0) (fun o => match o with | .inl _ => some (.inl ()) | .inr r1338 => some (.inr r1338))) (fun o => match o with | .inl _ => Option.bind (rF76q76z x1270.Kids) (fun y1339 => cond (!y1339) (some (.inr false)) (some (.inl ()))) | .inr r1342 => some (.inr r1342)))))) (fun o => match o with | .inl _ => wakeup_Valid_1_wakeup_Valid_1_L1 a0 rF76q76z q1188 (IntKind.i64.wrap (i1013 + 1)) | .inr r1343 => some (.inr r1343))) (some (.inl ()))
def wakeup_Valid_1_wakeup_Valid_1_B (rF76q76z : (List Tree) -> Option Bool) (fuelN : Nat) (a0 : List Tree) : Option Bool :=
 Option.bind (α := Unit ⊕ Bool) (Option.bind (wakeup_Valid_1_wakeup_Valid_1_L1 a0 rF76q76z fuelN 0) (fun o => match o with | .inl _ => some (.inl ()) | .inr r1344 => some (.inr r1344))) (fun o => match o with | .inl _ => some true | .inr r1345 => some r1345)
def wakeup_Valid_1_wakeup_Valid_1 : Nat -> (List Tree) -> Option Bool
 | 0 => fun _ => none
 | fuelN + 1 => fun a0 => wakeup_Valid_1_wakeup_Valid_1_B (wakeup_Valid_1_wakeup_Valid_1 fuelN) fuelN a0
set_option maxHeartbeats 2000000 in
theorem at_wakeup_Valid_1_wakeup_Valid_1_B {rF76q76z : (List Tree) -> Option Bool} (ihrF76q76z : ∀ (a0 : List Tree) (r : Bool), rF76q76z a0 = some r -> CAt Tryd.prog 76 [.cell (sC a0), .cell (.ref (.a 0) 0)] [.cells [.fn 76 [.inl (.a 0)]]] (.ret (bV r)) [(.a 0, .cells [.fn 76 [.inl (.a 0)]])]) {fuelN : Nat} {a0 : List Tree} {r : Bool} (hs : wakeup_Valid_1_wakeup_Valid_1_B rF76q76z fuelN a0 = some r) : CAt Tryd.prog 76 [.cell (sC a0), .cell (.ref (.a 0) 0)] [.cells [.fn 76 [.inl (.a 0)]]] (.ret (bV r)) [(.a 0, .cells [.fn 76 [.inl (.a 0)]])] := by
 refine at_bound (by kernel_rfl) fun hb => ?_
 have hb1 : LenOk (.sl a0.length (encL a0)) := lkc hb
 refine at_code mixed Tryd.func76 (by kernel_rfl) rfl (by kernel_rfl) rfl fun Q hQ => ?_
 rw [wakeup_Valid_1_wakeup_Valid_1_B] at hs
 refine goR2 f0 ?_
 revert hs; refine bK fun o672 e671 hs => ?_
 refine awp_cutK (fun (v : Unit) (σ : St) => some (.inl v) = some o672 /\ σ.hp (.a 0) = some (.cells [.fn 76 [.inl (.a 0)]]) /\ 2 <= σ.gen) (by rfl) (fun Q hK673 hX674 => ?_) (fun v σ59 hp => ?_)
 ·refine goR f0 ?_
  revert e671; refine bK fun o1183 e1182 e671 => ?_
  refine awp_loopW (fun (v : Nat × Int) (σ : St) => wakeup_Valid_1_wakeup_Valid_1_L1 a0 rF76q76z v.1 v.2 = some o1183 /\ σ.env 0 = .cell (sC a0) /\ σ.env 1 = .cell (.ref (.a 0) 0) /\ σ.env 8 = .cell (sC a0) /\ σ.env 9 = iV .i64 ((a0.length : Nat) : Int) /\ σ.env 10 = iV .i64 v.2 /\ σ.hp (.a 0) = some (.cells [.fn 76 [.inl (.a 0)]]) /\ 2 <= σ.gen) (fun v => v.1) _ (Gh.refl _) (fuelN, 0) ⟨e1182, pv f0, pv f0, pv f0, pv f0, pv f0, pv f0, pg⟩ fun v σ104 hp L1184 hL1185 => ?_
  obtain ⟨q1187, i1013⟩ := v
  dsimp only at hp hL1185
  obtain ⟨e1182, h103_0, h103_1, h103_8, h103_9, h103_10, g103_0, n103_g⟩ := hp
  rcases q1187 with _ | q1188
  ·rw [wakeup_Valid_1_wakeup_Valid_1_L1] at e1182; cases e1182
  ·rw [wakeup_Valid_1_wakeup_Valid_1_L1] at e1182; try dsimp only at e1182
   have F1 := an h103_0 (an h103_1 (an h103_8 (an h103_9 (an h103_10 g103_0))))
   refine goR F1 ?_
   revert e1182; refine cS F1 ?_ ?_ <;> intro h1192 e1182
   ·refine goR2 F1 ?_
    revert e1182; refine bK fun o1267 e1266 e1182 => ?_
    refine awp_cutK (fun (v : Unit) (σ : St) => some (.inl v) = some o1267 /\ σ.env 0 = .cell (sC a0) /\ σ.env 1 = .cell (.ref (.a 0) 0) /\ σ.env 8 = .cell (sC a0) /\ σ.env 9 = iV .i64 ((a0.length : Nat) : Int) /\ σ.env 10 = iV .i64 i1013 /\ σ.hp (.a 0) = some (.cells [.fn 76 [.inl (.a 0)]]) /\ (σ104.gen + 1) <= σ.gen) (by rfl) (fun Q hK1268 hX1269 => ?_) (fun v σ111 hp => ?_)
    ·refine goR2 F1 ?_
     refine awp_block ?_
     revert e1266; refine bK fun x1270 hx1271 e1266 => ?_
     obtain ⟨hx1271a, hx1271b, hx1271c, hx1271d⟩ := getI_some hx1271
     have f1272 : partCV Tryd.prog 77 (encL a0) (((i1013).toNat) * 2) = some (.agg (eA x1270)) := partCV_enc hx1271d (f := 0) (by simp)
     obtain ⟨g1273, e1266⟩ := guardO_some e1266
     obtain ⟨g1273a, g1273b, g1273c⟩ := slB_t g1273
     revert e1266; refine lK fun l1274 hx1275 e1266 => ?_
     have f1276n : l1274.length = (i1013 - 0).toNat := by rw [hx1275]; exact subL_len ⟨g1273a, g1273b, g1273c⟩
     have f1276e : ((encL a0).drop ((0 : Int).toNat * 2)).take ((i1013 - 0).toNat * 2) = encL l1274 := by rw [hx1275]; exact subL_enc (α := Tree)
     try simp at f1276n
     try simp at f1276e
     have f1276o : LenOk (.sl l1274.length (encL l1274)) := by rw [hx1275]; exact subL_ok hb1
     have F2 := an F1 (an f1272 (an g1273a (an g1273b (an g1273c (an f1276n f1276e)))))
     refine goR2 F2 ?_
     revert e1266; refine bK fun o1307 e1306 e1266 => ?_
     refine awp_cutK (fun (v : Unit) (σ : St) => some (.inl v) = some o1307 /\ σ.env 0 = .cell (sC a0) /\ σ.env 1 = .cell (.ref (.a 0) 0) /\ σ.env 5 = .cell (.ref (.o (σ104.gen + 2) 3 0) 0) /\ σ.env 8 = .cell (sC a0) /\ σ.env 9 = iV .i64 ((a0.length : Nat) : Int) /\ σ.env 10 = iV .i64 i1013 /\ σ.hp (.a 0) = some (.cells [.fn 76 [.inl (.a 0)]]) /\ σ.hp (.o (σ104.gen + 2) 3 0) = some (.cells (eA x1270)) /\ (σ104.gen + 3) <= σ.gen) (by rfl) (fun Q hK1308 hX1309 => ?_) (fun v σ115 hp => ?_)
     ·refine goR F2 ?_
      revert e1306; refine bK fun o1325 e1324 e1306 => ?_
      refine awp_loopW (fun (v : (List Tree) × Nat) (σ : St) => wakeup_Valid_1_wakeup_Valid_1_L2 x1270 v.1 v.2 = some o1325 /\ v.1 = l1274.drop v.2 /\ σ.env 0 = .cell (sC a0) /\ σ.env 1 = .cell (.ref (.a 0) 0) /\ σ.env 5 = .cell (.ref (.o (σ104.gen + 2) 3 0) 0) /\ σ.env 8 = .cell (sC a0) /\ σ.env 9 = iV .i64 ((a0.length : Nat) : Int) /\ σ.env 10 = iV .i64 i1013 /\ σ.env 17 = .cell (sC l1274) /\ σ.env 18 = iV .i64 ((l1274.length : Nat) : Int) /\ σ.env 19 = iV .i64 ((v.2 : Nat) : Int) /\ σ.hp (.a 0) = some (.cells [.fn 76 [.inl (.a 0)]]) /\ σ.hp (.o (σ104.gen + 2) 3 0) = some (.cells (eA x1270)) /\ (σ104.gen + 3) <= σ.gen) (fun v => v.1.length) _ (Gh.refl _) (l1274, 0) ⟨e1324, by simp, pv F2, pv F2, pv F2, pv F2, pv F2, pv F2, pv F2, pv F2, pv F2, pv F2, pv F2, pg⟩ fun v σ118 hp L1326 hL1327 => ?_
      obtain ⟨q1329, k1317⟩ := v
      dsimp only at hp hL1327
      obtain ⟨e1324, hd1328, h117_0, h117_1, h117_5, h117_8, h117_9, h117_10, h117_17, h117_18, h117_19, g117_0, g117_1, n117_g⟩ := hp
      have n117_σ104gen_0 : ¬ (σ118.gen = σ104.gen) := by omega
      have n117_σ104gen_0' : ¬ (σ104.gen = σ118.gen) := by omega
      have n117_σ104gen_1 : ¬ (σ118.gen = σ104.gen + 1) := by omega
      have n117_σ104gen_1' : ¬ (σ104.gen + 1 = σ118.gen) := by omega
      have n117_σ104gen_a : ∀ j, ¬ (σ118.gen + j = σ104.gen) := fun j => by omega
      have n117_σ104gen_a' : ∀ j, ¬ (σ104.gen = σ118.gen + j) := fun j => by omega
      rcases q1329 with _ | ⟨x1334, q1330⟩
      ·have hlt1331 := drop_end hd1328
       rw [wakeup_Valid_1_wakeup_Valid_1_L2] at e1324; try dsimp only at e1324
       have F3 := an h117_0 (an h117_1 (an h117_5 (an h117_8 (an h117_9 (an h117_10 (an h117_17 (an h117_18 (an h117_19 (an g117_0 (an g117_1 (an n117_σ104gen_0 (an n117_σ104gen_0' (an n117_σ104gen_1 (an n117_σ104gen_1' (an n117_σ104gen_a (an n117_σ104gen_a' f1272))))))))))))))))
       refine goR F3 ?_
       refine condK_f (by simp [ltI]; omega) ?_
       obtain rfl := sj e1324
       try dsimp only at e1306
       exact hK1308 () _ _ (Gh.refl _) ⟨e1306, pv F3, pv F3, pv F3, pv F3, pv F3, pv F3, pv F3, pv F3, pg⟩
      ·obtain ⟨hx1333, hlt1331, hd1335⟩ := drop_next hd1328
       have ew1332 := wrap_succ hlt1331 (f1276o).len
       rw [wakeup_Valid_1_wakeup_Valid_1_L2] at e1324; try dsimp only at e1324
       have F4 := an h117_0 (an h117_1 (an h117_5 (an h117_8 (an h117_9 (an h117_10 (an h117_17 (an h117_18 (an h117_19 (an g117_0 (an g117_1 (an n117_σ104gen_0 (an n117_σ104gen_0' (an n117_σ104gen_1 (an n117_σ104gen_1' (an n117_σ104gen_a (an n117_σ104gen_a' (an f1272 (an hlt1331 ew1332))))))))))))))))))
       refine goR F4 ?_
       refine condK_t (by simp [ltI]; omega) ?_
       have f1336 : partCV Tryd.prog 77 (encL l1274) (k1317 * 2) = some (.agg (eA x1334)) := partCV_enc hx1333 (f := 0) (by simp)
       have F5 := an F4 f1336
       refine goR F5 ?_
       revert e1324; refine cS F5 ?_ ?_ <;> intro h1337 e1324
       ·refine goR F5 ?_
        obtain rfl := sj e1324
        try dsimp only at e1306
        obtain rfl := sj e1306
        try dsimp only at e1266
        refine hX1309 _ _ (by simp) ?_
        refine goR F5 ?_
        obtain rfl := sj e1266
        try dsimp only at e1182
        refine hX1269 _ _ (by simp) ?_
        refine goR F5 ?_
        obtain rfl := sj e1182
        try dsimp only at e671
        obtain rfl := sj e671
        try dsimp only at hs
        refine hX674 _ _ (by simp) ?_
        refine goR F5 ?_
        obtain rfl := sj hs
        refine hQ _ _ (ret2g _ (Gh.refl _) (by simp [St.frz, St.pur, F5]; rfl) (by first | rfl | (simp [St.frz, St.pur, F5]; done) | (rw [if_pos (by first | omega | (simp; omega))]; simp [St.frz, St.pur, F5]; first | omega | exact List.take_of_length_le (by simp; omega) | skip)) (pv F5))
       ·refine goR F5 ?_
        exact hL1327 (q1330, (k1317 + 1)) _ _ (Gh.refl _) ⟨e1324, hd1335, pv F5, pv F5, pv F5, pv F5, pv F5, pv F5, pv F5, pv F5, pv F5, pv F5, pv F5, pg⟩ (by simp)
     ·obtain ⟨e1306, h116_0, h116_1, h116_5, h116_8, h116_9, h116_10, g116_0, g116_1, n116_g⟩ := hp
      obtain rfl := sj e1306
      try dsimp only at e1266
      have n116_σ104gen_0 : ¬ (σ115.gen = σ104.gen) := by omega
      have n116_σ104gen_0' : ¬ (σ104.gen = σ115.gen) := by omega
      have n116_σ104gen_1 : ¬ (σ115.gen = σ104.gen + 1) := by omega
      have n116_σ104gen_1' : ¬ (σ104.gen + 1 = σ115.gen) := by omega
      have n116_σ104gen_a : ∀ j, ¬ (σ115.gen + j = σ104.gen) := fun j => by omega
      have n116_σ104gen_a' : ∀ j, ¬ (σ104.gen = σ115.gen + j) := fun j => by omega
      have F6 := an h116_0 (an h116_1 (an h116_5 (an h116_8 (an h116_9 (an h116_10 (an g116_0 (an g116_1 (an n116_σ104gen_0 (an n116_σ104gen_0' (an n116_σ104gen_1 (an n116_σ104gen_1' (an n116_σ104gen_a (an n116_σ104gen_a' f1272)))))))))))))
      refine goR F6 ?_
      revert e1266; refine bK fun y1339 hx1340 e1266 => ?_
      refine cB F6 (ihrF76q76z _ _ hx1340) [.a 0] ?_
      refine goR F6 ?_
      revert e1266; refine cS F6 ?_ ?_ <;> intro h1341 e1266
      ·refine goR F6 ?_
       obtain rfl := sj e1266
       try dsimp only at e1182
       refine hX1269 _ _ (by simp) ?_
       refine goR F6 ?_
       obtain rfl := sj e1182
       try dsimp only at e671
       obtain rfl := sj e671
       try dsimp only at hs
       refine hX674 _ _ (by simp) ?_
       refine goR F6 ?_
       obtain rfl := sj hs
       refine hQ _ _ (ret2g _ (Gh.refl _) (by simp [St.frz, St.pur, F6]; rfl) (by first | rfl | (simp [St.frz, St.pur, F6]; done) | (rw [if_pos (by first | omega | (simp; omega))]; simp [St.frz, St.pur, F6]; first | omega | exact List.take_of_length_le (by simp; omega) | skip)) (pv F6))
      ·refine goR F6 ?_
       exact hK1268 () _ _ (Gh.refl _) ⟨e1266, pv F6, pv F6, pv F6, pv F6, pv F6, pv F6, pg⟩
    ·obtain ⟨e1266, h112_0, h112_1, h112_8, h112_9, h112_10, g112_0, n112_g⟩ := hp
     obtain rfl := sj e1266
     try dsimp only at e1182
     have F7 := an h112_0 (an h112_1 (an h112_8 (an h112_9 (an h112_10 g112_0))))
     refine goR F7 ?_
     exact hL1185 (q1188, IntKind.i64.wrap (i1013 + 1)) _ _ (Gh.refl _) ⟨e1182, pv F7, pv F7, pv F7, pv F7, pv F7, pv F7, pg⟩ (by omega)
   ·refine goR F1 ?_
    obtain rfl := sj e1182
    try dsimp only at e671
    exact hK673 () _ _ (Gh.refl _) ⟨e671, pv F1, pg⟩
 ·obtain ⟨e671, g60_0, n60_g⟩ := hp
  obtain rfl := sj e671
  try dsimp only at hs
  refine goR g60_0 ?_
  obtain rfl := sj hs
  refine hQ _ _ (ret2g _ (Gh.refl _) (by simp [St.frz, St.pur, g60_0]; rfl) (by first | rfl | (simp [St.frz, St.pur, g60_0]; done) | (rw [if_pos (by first | omega | (simp; omega))]; simp [St.frz, St.pur, g60_0]; first | omega | exact List.take_of_length_le (by simp; omega) | skip)) (pv g60_0))
theorem at_wakeup_Valid_1_wakeup_Valid_1 : ∀ {fuelN : Nat} {a0 : List Tree} {r : Bool} (hs : wakeup_Valid_1_wakeup_Valid_1 fuelN a0 = some r), CAt Tryd.prog 76 [.cell (sC a0), .cell (.ref (.a 0) 0)] [.cells [.fn 76 [.inl (.a 0)]]] (.ret (bV r)) [(.a 0, .cells [.fn 76 [.inl (.a 0)]])]
 | 0, _, _, hs => by rw [wakeup_Valid_1_wakeup_Valid_1] at hs; cases hs
 | n + 1, _, _, hs => by
  rw [wakeup_Valid_1_wakeup_Valid_1] at hs
  exact at_wakeup_Valid_1_wakeup_Valid_1_B (fun _ _ h => at_wakeup_Valid_1_wakeup_Valid_1 h) hs
end Go.Dc
end
section
set_option linter.all false
namespace Go.Dc
open Go Go.Hw Go.Proofs
set_option maxRecDepth 100000
def wakeup_Valid (fuelN : Nat) (a0 : Tree) : Option Bool :=
 cond (eqI a0.Agent 0) (Option.bind (wakeup_Valid_1_wakeup_Valid_1 fuelN a0.Kids) (fun y2 => some y2)) (some false)
set_option maxHeartbeats 2000000 in
theorem at_wakeup_Valid {fuelN : Nat} {a0 : Tree} {r : Bool} (hs : wakeup_Valid fuelN a0 = some r) : At Tryd.prog 63 [.agg (eA a0)] (bV r) := by
 refine at_bound (by kernel_rfl) fun hb => ?_
 have hb1 : LenOk (.sl a0.Kids.length (encL a0.Kids)) := lkc hb
 refine at_code mixed Tryd.func63 (by kernel_rfl) rfl (by kernel_rfl) rfl fun Q hQ => ?_
 rw [wakeup_Valid] at hs
 refine goG f0 f0 ?_
 refine gsel_split (fun h1 => ?_) (fun h1 => ?_)
 ·replace hs := condT h1 hs
  refine goG h1 h1 ?_
  revert hs; refine bK fun y2 hx3 hs => ?_
  refine cB h1 (at_wakeup_Valid_1_wakeup_Valid_1 hx3) [.o 2 0 0] ?_
  refine goG h1 h1 ?_
  obtain rfl := sj hs
  exact hQ _ _ (rg h1 (Gh.refl _))
 ·replace hs := condF h1 hs
  refine goG h1 h1 ?_
  obtain rfl := sj hs
  exact hQ _ _ (rg h1 (Gh.refl _))
end Go.Dc
end
section
set_option linter.all false
namespace Go.Dc
open Go Go.Hw Go.Proofs
set_option maxRecDepth 100000
def checkpoint_validFrame_L1 (a0 : Frame) : List Int -> Nat -> Option (Unit ⊕ Bool)
 | [], k60 => some (.inl ())
 | x81 :: q77, k60 => Option.bind (checkpoint_agent x81) (fun y84 => guardO (orB (!(andB (!(orB (!y84) (eqI x81 a0.Agent))) (ltI 0 ((k60 : Nat) : Int)))) (inB (IntKind.i64.wrap (((k60 : Nat) : Int) - 1)) a0.Sleep.length)) (cond (orB (orB (!y84) (eqI x81 a0.Agent)) (andB (ltI 0 ((k60 : Nat) : Int)) (!(ltI (gd a0.Sleep ((IntKind.i64.wrap (((k60 : Nat) : Int) - 1)).toNat)) x81)))) (some (.inr false)) (checkpoint_validFrame_L1 a0 q77 (k60 + 1))))
def checkpoint_validFrame (fuelN : Nat) (a0 : Frame) : Option Bool :=
 Option.bind (checkpoint_agent a0.Agent) (fun y1 => cond (orB (!y1) (ltI 2048 ((a0.Sleep.length : Nat) : Int))) (some false) (Option.bind (α := Unit ⊕ Bool) (Option.bind (checkpoint_validFrame_L1 a0 a0.Sleep 0) (fun o => match o with | .inl _ => some (.inl ()) | .inr r89 => some (.inr r89))) (fun o => match o with | .inl _ => Option.bind (checkpoint_shallow fuelN a0.Tree 512) (fun y90 => guardO (orB (!y90) ((wakeup_Valid fuelN a0.Tree).isSome)) (cond (orB (orB (!y90) (!((wakeup_Valid fuelN a0.Tree).getD default))) (eqI ((a0.Tree.Kids.length : Nat) : Int) 0)) (some false) (Option.bind (a0.Tree.Kids[0]?) (fun x94 => some (andB (eqI x94.Agent a0.Agent) (eqI ((x94.Kids.length : Nat) : Int) 0)))))) | .inr r97 => some r97)))
set_option maxHeartbeats 2000000 in
theorem at_checkpoint_validFrame {fuelN : Nat} {a0 : Frame} {r : Bool} (hs : checkpoint_validFrame fuelN a0 = some r) : At Tryd.prog 40 [.agg (eA a0)] (bV r) := by
 refine at_bound (by kernel_rfl) fun hb => ?_
 have hb1 : LenOk (.sl a0.Sleep.length (encL a0.Sleep)) := lkc hb
 have hb2 : LenOk (.sl a0.Tree.Kids.length (encL a0.Tree.Kids)) := lkc hb
 refine at_code mixed Tryd.func40 (by kernel_rfl) rfl (by kernel_rfl) rfl fun Q hQ => ?_
 rw [checkpoint_validFrame] at hs
 refine goR f0 ?_
 revert hs; refine bK fun y1 hx2 hs => ?_
 refine cP f0 (at_checkpoint_agent hx2) ?_
 refine goG f0 f0 ?_
 revert hs; refine cS f0 ?_ ?_ <;> intro h3 hs
 ·refine goG f0 f0 ?_
  obtain rfl := sj hs
  exact hQ _ _ (rg f0 (Gh.refl _))
 ·refine goG2 f0 f0 ?_
  revert hs; refine bK fun o46 e45 hs => ?_
  refine awp_cutK (fun (v : Unit) (σ : St) => some (.inl v) = some o46 /\ σ.env 1 = .cell (.ref (.o 1 0 0) 0) /\ σ.hp (.o 1 0 0) = some (.cells (eA a0)) /\ 3 <= σ.gen) (by rfl) (fun Q hK47 hX48 => ?_) (fun v σ3 hp => ?_)
  ·refine goG f0 f0 ?_
   revert e45; refine bK fun o72 e71 e45 => ?_
   refine awp_loopW (fun (v : (List Int) × Nat) (σ : St) => checkpoint_validFrame_L1 a0 v.1 v.2 = some o72 /\ v.1 = a0.Sleep.drop v.2 /\ σ.env 1 = .cell (.ref (.o 1 0 0) 0) /\ σ.env 17 = .cell (sC a0.Sleep) /\ σ.env 18 = iV .i64 ((a0.Sleep.length : Nat) : Int) /\ σ.env 19 = iV .i64 ((v.2 : Nat) : Int) /\ σ.hp (.o 1 0 0) = some (.cells (eA a0)) /\ 3 <= σ.gen) (fun v => v.1.length) _ (Gh.refl _) (a0.Sleep, 0) ⟨e71, by simp, pv f0, pv f0, pv f0, pv f0, pv f0, pg⟩ fun v σ6 hp L73 hL74 => ?_
   obtain ⟨q76, k60⟩ := v
   dsimp only at hp hL74
   obtain ⟨e71, hd75, h5_1, h5_17, h5_18, h5_19, g5_0, n5_g⟩ := hp
   have n5_0 : ¬ (σ6.gen = 0) := by omega
   rcases q76 with _ | ⟨x81, q77⟩
   ·have hlt78 := drop_end hd75
    rw [checkpoint_validFrame_L1] at e71; try dsimp only at e71
    have F1 := an h5_1 (an h5_17 (an h5_18 (an h5_19 (an g5_0 n5_0))))
    refine goR F1 ?_
    refine condK_f (by simp [ltI]; omega) ?_
    obtain rfl := sj e71
    try dsimp only at e45
    exact hK47 () _ _ (Gh.refl _) ⟨e45, pv F1, pv F1, pg⟩
   ·obtain ⟨hx80, hlt78, hd82⟩ := drop_next hd75
    have ew79 := wrap_succ hlt78 (hb1).len
    rw [checkpoint_validFrame_L1] at e71; try dsimp only at e71
    have F2 := an h5_1 (an h5_17 (an h5_18 (an h5_19 (an g5_0 (an n5_0 (an hlt78 ew79))))))
    refine goR F2 ?_
    refine condK_t (by simp [ltI]; omega) ?_
    have f83 : partCV Tryd.prog 3 (encL a0.Sleep) (k60) = some (iV .i64 x81) := partCV_enc1 hx80 (by simp)
    have F3 := an F2 f83
    refine goR F3 ?_
    revert e71; refine bK fun y84 hx85 e71 => ?_
    refine cP F3 (at_checkpoint_agent hx85) ?_
    obtain ⟨g86, e71⟩ := guardO_some e71
    have g86a : (andB (!(orB (!y84) (eqI x81 a0.Agent))) (ltI 0 ((k60 : Nat) : Int))) = true -> 0 <= IntKind.i64.wrap (((k60 : Nat) : Int) - 1) := fun hg => (under_elem g86 hg).1
    have g86b : (andB (!(orB (!y84) (eqI x81 a0.Agent))) (ltI 0 ((k60 : Nat) : Int))) = true -> IntKind.i64.wrap (((k60 : Nat) : Int) - 1) < (a0.Sleep.length : Int) := fun hg => (under_elem g86 hg).2.1
    have g86n : (andB (!(orB (!y84) (eqI x81 a0.Agent))) (ltI 0 ((k60 : Nat) : Int))) = true -> (IntKind.i64.wrap (((k60 : Nat) : Int) - 1)).toNat < a0.Sleep.length := fun hg => by simpa using (under_elem g86 hg).2.2.1
    have g86c : (andB (!(orB (!y84) (eqI x81 a0.Agent))) (ltI 0 ((k60 : Nat) : Int))) = true -> a0.Sleep[(IntKind.i64.wrap (((k60 : Nat) : Int) - 1)).toNat]? = some (gd a0.Sleep ((IntKind.i64.wrap (((k60 : Nat) : Int) - 1)).toNat)) := fun hg => by simpa using (under_elem g86 hg).2.2.2
    have f87 : (andB (!(orB (!y84) (eqI x81 a0.Agent))) (ltI 0 ((k60 : Nat) : Int))) = true -> partCV Tryd.prog 3 (encL a0.Sleep) ((IntKind.i64.wrap (((k60 : Nat) : Int) - 1)).toNat) = some (iV .i64 (gd a0.Sleep ((IntKind.i64.wrap (((k60 : Nat) : Int) - 1)).toNat))) := fun hg => partCV_enc1 (g86c hg) (by simp)
    have F4 := an F3 (an g86a (an g86b (an g86n f87)))
    refine goG F4 F4 ?_
    revert e71; refine cS F4 ?_ ?_ <;> intro h88 e71
    ·refine goG F4 F4 ?_
     obtain rfl := sj e71
     try dsimp only at e45
     obtain rfl := sj e45
     try dsimp only at hs
     refine hX48 _ _ (by simp) ?_
     refine goG F4 F4 ?_
     obtain rfl := sj hs
     exact hQ _ _ (rg F4 (Gh.refl _))
    ·refine goG F4 F4 ?_
     exact hL74 (q77, (k60 + 1)) _ _ (Gh.refl _) ⟨e71, hd82, pv F4, pv F4, pv F4, pv F4, pv F4, pg⟩ (by simp)
  ·obtain ⟨e45, h4_1, g4_0, n4_g⟩ := hp
   obtain rfl := sj e45
   try dsimp only at hs
   have n4_0 : ¬ (σ3.gen = 0) := by omega
   have F5 := an h4_1 (an g4_0 n4_0)
   refine goG F5 F5 ?_
   revert hs; refine bK fun y90 hx91 hs => ?_
   refine cP F5 (at_checkpoint_shallow hx91) ?_
   refine goG F5 F5 ?_
   obtain ⟨g92, hs⟩ := guardO_some hs
   refine gsel_call (fun hg => at_wakeup_Valid (under_call g92 hg)) (fun hg => by (try simp at hg); (first | simp [hg, F5]); try rfl) (fun hg => by (try simp at hg); simp [hg, F5]) (by simp) ?_
   refine goG F5 F5 ?_
   revert hs; refine cS F5 ?_ ?_ <;> intro h93 hs
   ·refine goG F5 F5 ?_
    obtain rfl := sj hs
    exact hQ _ _ (rg F5 (Gh.refl _))
   ·revert hs; refine bK fun x94 hx95 hs => ?_
    have hx95b := getN_some hx95
    have f96 : partCV Tryd.prog 77 (encL a0.Tree.Kids) (0 * 2) = some (.agg (eA x94)) := partCV_enc hx95 (f := 0) (by simp)
    have F6 := an F5 f96
    have F7 := an F6 hx95b
    refine goG F6 F7 ?_
    obtain rfl := sj hs
    exact hQ _ _ (rg F6 (Gh.refl _))
end Go.Dc
end
section
set_option linter.all false
namespace Go.Dc
open Go Go.Hw Go.Proofs
set_option maxRecDepth 100000
def checkpoint_Valid_L1 (fuelN : Nat) : List Frame -> Nat -> Option (Unit ⊕ Bool)
 | [], k51 => some (.inl ())
 | x70 :: q66, k51 => Option.bind (checkpoint_validFrame fuelN x70) (fun y73 => cond (!y73) (some (.inr false)) (checkpoint_Valid_L1 fuelN q66 (k51 + 1)))
def checkpoint_Valid (fuelN : Nat) (a0 : Snapshot) : Option Bool :=
 cond (orB (orB (orB (orB (ltI a0.Count 0) (ltI 1048576 a0.Count)) (ltI a0.Blocked 0)) (ltI 1048576 a0.Blocked)) (ltI 512 ((a0.Frames.length : Nat) : Int))) (some false) (cond (andB (ltI 0 ((a0.Frames.length : Nat) : Int)) (orB a0.Done (eqI a0.Count 0))) (some false) (Option.bind (α := Unit ⊕ Bool) (Option.bind (checkpoint_Valid_L1 fuelN a0.Frames 0) (fun o => match o with | .inl _ => some (.inl ()) | .inr r76 => some (.inr r76))) (fun o => match o with | .inl _ => some true | .inr r77 => some r77)))
set_option maxHeartbeats 2000000 in
theorem at_checkpoint_Valid {fuelN : Nat} {a0 : Snapshot} {r : Bool} (hs : checkpoint_Valid fuelN a0 = some r) : At Tryd.prog 15 [.agg (eA a0)] (bV r) := by
 refine at_bound (by kernel_rfl) fun hb => ?_
 have hb1 : LenOk (.sl a0.Frames.length (encL a0.Frames)) := lkc hb
 refine at_code mixed Tryd.func15 (by kernel_rfl) rfl (by kernel_rfl) rfl fun Q hQ => ?_
 rw [checkpoint_Valid] at hs
 refine goG f0 f0 ?_
 revert hs; refine cS f0 ?_ ?_ <;> intro h1 hs
 ·refine goG f0 f0 ?_
  obtain rfl := sj hs
  exact hQ _ _ (rg f0 (Gh.refl _))
 ·refine goG f0 f0 ?_
  revert hs; refine cS f0 ?_ ?_ <;> intro h2 hs
  ·refine goG f0 f0 ?_
   obtain rfl := sj hs
   exact hQ _ _ (rg f0 (Gh.refl _))
  ·refine goG2 f0 f0 ?_
   revert hs; refine bK fun o39 e38 hs => ?_
   refine awp_cutK (fun (v : Unit) (σ : St) => some (.inl v) = some o39 /\ 4 <= σ.gen) (by rfl) (fun Q hK40 hX41 => ?_) (fun v σ3 hp => ?_)
   ·refine goG f0 f0 ?_
    revert e38; refine bK fun o61 e60 e38 => ?_
    refine awp_loopW (fun (v : (List Frame) × Nat) (σ : St) => checkpoint_Valid_L1 fuelN v.1 v.2 = some o61 /\ v.1 = a0.Frames.drop v.2 /\ σ.env 43 = .cell (sC a0.Frames) /\ σ.env 44 = iV .i64 ((a0.Frames.length : Nat) : Int) /\ σ.env 45 = iV .i64 ((v.2 : Nat) : Int) /\ 4 <= σ.gen) (fun v => v.1.length) _ (Gh.refl _) (a0.Frames, 0) ⟨e60, by simp, pv f0, pv f0, pv f0, pg⟩ fun v σ6 hp L62 hL63 => ?_
    obtain ⟨q65, k51⟩ := v
    dsimp only at hp hL63
    obtain ⟨e60, hd64, h5_43, h5_44, h5_45, n5_g⟩ := hp
    rcases q65 with _ | ⟨x70, q66⟩
    ·have hlt67 := drop_end hd64
     rw [checkpoint_Valid_L1] at e60; try dsimp only at e60
     have F1 := an h5_43 (an h5_44 h5_45)
     refine goR F1 ?_
     refine condK_f (by simp [ltI]; omega) ?_
     obtain rfl := sj e60
     try dsimp only at e38
     exact hK40 () _ _ (Gh.refl _) ⟨e38, pg⟩
    ·obtain ⟨hx69, hlt67, hd71⟩ := drop_next hd64
     have ew68 := wrap_succ hlt67 (hb1).len
     rw [checkpoint_Valid_L1] at e60; try dsimp only at e60
     have F2 := an h5_43 (an h5_44 (an h5_45 (an hlt67 ew68)))
     refine goR F2 ?_
     refine condK_t (by simp [ltI]; omega) ?_
     have f72 : partCV Tryd.prog 79 (encL a0.Frames) (k51 * 4) = some (.agg (eA x70)) := partCV_enc hx69 (f := 0) (by simp)
     have F3 := an F2 f72
     refine goR F3 ?_
     revert e60; refine bK fun y73 hx74 e60 => ?_
     refine cP F3 (at_checkpoint_validFrame hx74) ?_
     refine goR F3 ?_
     revert e60; refine cS F3 ?_ ?_ <;> intro h75 e60
     ·refine goR F3 ?_
      obtain rfl := sj e60
      try dsimp only at e38
      obtain rfl := sj e38
      try dsimp only at hs
      refine hX41 _ _ (by simp) ?_
      refine goR F3 ?_
      obtain rfl := sj hs
      exact hQ _ _ (rg F3 (Gh.refl _))
     ·refine goR F3 ?_
      exact hL63 (q66, (k51 + 1)) _ _ (Gh.refl _) ⟨e60, hd71, pv F3, pv F3, pv F3, pg⟩ (by simp)
   ·obtain ⟨e38, n4_g⟩ := hp
    obtain rfl := sj e38
    try dsimp only at hs
    refine goG f0 f0 ?_
    obtain rfl := sj hs
    exact hQ _ _ (rg f0 (Gh.refl _))
end Go.Dc
end
section
set_option linter.all false
namespace Go.Dc.Pl
open Go Go.Hw Go.Dc
def agentOk (n : Int) : Bool := andB (!(ltI n (-2147483648))) (!(ltI 2147483647 n))
theorem own_agent (n : Int) : checkpoint_agent n = some (agentOk n) := rfl
theorem agentOk_t {n : Int} (h : agentOk n = true) : -2147483648 <= n /\ n <= 2147483647 := by
 simp only [agentOk, andB_d, ltI_d, Bool.and_eq_true, Bool.not_eq_true', decide_eq_false_iff_not] at h; omega
def shal : Nat -> List Tree -> Bool
 | 0, l => decide (l.length = 0)
 | m + 1, l => l.all fun k => agentOk k.Agent && shal m k.Kids
def nodupA (l : List Tree) (k : Nat) (x : Tree) : Bool := (l.take k).any fun y => eqI y.Agent x.Agent
def dist : Nat -> List Tree -> Bool
 | 0, _ => true
 | m + 1, l => !((l.zipIdx 0).any fun x => nodupA l x.2 x.1 || !dist m x.1.Kids)
def wid (B : Nat) : Nat -> List Tree -> Prop
 | 0, _ => True
 | m + 1, l => l.length <= B /\ ∀ k ∈ l, wid B m k.Kids
theorem any_not_all {α : Type} (p : α -> Bool) (l : List α) : (l.any fun x => !p x) = !l.all p := by induction l with
 | nil => rfl
 | cons x l ih => rw [List.any_cons, List.all_cons, ih]; cases p x <;> rfl
theorem own_shal : ∀ (m f : Nat) (t : Tree), m <= 1000 -> m < f -> checkpoint_shallow f t (m : Int) = some (shal m t.Kids) := by
 intro m
 induction m with
 | zero =>
  intro f t _ hf
  obtain ⟨f, rfl⟩ : ∃ k, f = k + 1 := ⟨f - 1, by omega⟩
  show checkpoint_shallow_B (checkpoint_shallow f) t ((0 : Nat) : Int) = _
  unfold checkpoint_shallow_B
  rw [shal]
  cases hk : t.Kids with
  | nil => rfl
  | cons x l => rw [show eqI ((0 : Nat) : Int) 0 = true from rfl, ltI_d, decide_eq_true (by simp), decide_eq_false (by simp)]; rfl
 | succ m ih =>
  intro f t hm hf
  obtain ⟨f, rfl⟩ : ∃ k, f = k + 1 := ⟨f - 1, by omega⟩
  show checkpoint_shallow_B (checkpoint_shallow f) t ((m + 1 : Nat) : Int) = _
  unfold checkpoint_shallow_B
  have h := srch (L := checkpoint_shallow_L1 ((m + 1 : Nat) : Int) (checkpoint_shallow f)) (fun _ (k : Tree) => onlyIf (!(agentOk k.Agent && shal m k.Kids)) false) (fun _ => rfl) t.Kids 0 fun j x hx q => by
   rw [checkpoint_shallow_L1, own_agent, Option.bind_some, show ((m + 1 : Nat) : Int) - 1 = (m : Int) by omega, wrapN (by omega), ih f x (by omega) (by omega), show (some (shal m x.Kids)).isSome = true from rfl, orB_t, guardO_t]
   rw [show orB (!agentOk x.Agent) (!((some (shal m x.Kids)).getD default)) = !(agentOk x.Agent && shal m x.Kids) by cases agentOk x.Agent <;> rfl]
   exact step_only _ _ _
  rw [first_onlyC, any_not_all] at h
  rw [show eqI ((m + 1 : Nat) : Int) 0 = false by rw [eqI_d, decide_eq_false (by omega)], andB_d, Bool.and_false, cond_false, h, shal]
  cases t.Kids.all fun k => agentOk k.Agent && shal m k.Kids <;> rfl
theorem own_dist {B : Nat} (hB : B <= 1000000000) : ∀ (m f : Nat) (l : List Tree), B + m + 5 <= f -> shal m l = true -> wid B m l -> wakeup_Valid_1_wakeup_Valid_1 f l = some (dist m l) := by
 intro m
 induction m with
 | zero =>
  intro f l hf hs _
  obtain ⟨f, rfl⟩ : ∃ k, f = k + 2 := ⟨f - 2, by omega⟩
  simp only [shal, decide_eq_true_eq, List.length_eq_zero_iff] at hs
  subst hs; rfl
 | succ m ih =>
  intro f l hf hs hw
  obtain ⟨f, rfl⟩ : ∃ k, f = k + 1 := ⟨f - 1, by omega⟩
  rw [shal, List.all_eq_true] at hs
  show wakeup_Valid_1_wakeup_Valid_1_B (wakeup_Valid_1_wakeup_Valid_1 f) f l = _
  unfold wakeup_Valid_1_wakeup_Valid_1_B
  have h := srchI (L := fun q i => wakeup_Valid_1_wakeup_Valid_1_L1 l (wakeup_Valid_1_wakeup_Valid_1 f) q i) l (fun k x => onlyIf (nodupA l k x || !dist m x.Kids) false) (fun q => by
    show wakeup_Valid_1_wakeup_Valid_1_L1 _ _ (q + 1) _ = _
    rw [wakeup_Valid_1_wakeup_Valid_1_L1, ltI_d, decide_eq_false (by omega)]; rfl) (fun q k x hx => by
    have hk := getN_some hx
    have hm := List.mem_of_getElem? hx
    have h1 := hs x hm
    rw [Bool.and_eq_true] at h1
    show wakeup_Valid_1_wakeup_Valid_1_L1 _ _ (q + 1) _ = stepS _ (wakeup_Valid_1_wakeup_Valid_1_L1 _ _ q _)
    have h2 := srch (L := wakeup_Valid_1_wakeup_Valid_1_L2 x) (fun _ (y : Tree) => onlyIf (eqI y.Agent x.Agent) false) (fun _ => rfl) (l.take k) 0 fun j y hy q => by
     rw [wakeup_Valid_1_wakeup_Valid_1_L2]; exact step_only _ _ _
    rw [first_onlyC] at h2
    rw [wakeup_Valid_1_wakeup_Valid_1_L1, ltI_d, decide_eq_true (by omega), cond_true, getI_nat, hx]
    simp only [Option.bind_some]
    have hlen : l.length <= B := hw.1
    rw [show slB 0 (k : Int) l.length = true by simp [slB]; omega, guardO_t, show subL l 0 (k : Int) = l.take k by simp [subL], h2, ih f x.Kids (by omega) h1.2 (hw.2 x hm), wrapS (by omega)]
    show _ = stepS (onlyIf (nodupA l k x || !dist m x.Kids) false) _
    rw [show (List.take k l).any (fun y => eqI y.Agent x.Agent) = nodupA l k x from rfl]
    cases nodupA l k x <;> cases dist m x.Kids <;> rfl) f 0 (by omega) (by have := hw.1; omega)
  rw [List.drop_zero, first_only] at h
  simp only [show ((0 : Nat) : Int) = 0 from rfl] at h
  rw [h, dist]
  cases (l.zipIdx 0).any fun x => nodupA l x.2 x.1 || !dist m x.1.Kids <;> rfl
def wakeOk (t : Tree) : Bool := eqI t.Agent 0 && dist 512 t.Kids
theorem own_wake {B f : Nat} (hB : B <= 1000000000) {t : Tree} (hf : B + 600 <= f) (hs : shal 512 t.Kids = true) (hw : wid B 512 t.Kids) : wakeup_Valid f t = some (wakeOk t) := by
 rw [wakeup_Valid, own_dist hB 512 f t.Kids (by omega) hs hw, wakeOk]
 cases eqI t.Agent 0 <;> rfl
def badS (l : List Int) (g : Int) (k : Nat) (x : Int) : Bool := orB (orB (!agentOk x) (eqI x g)) (andB (ltI 0 (k : Int)) (!(ltI (gd l (k - 1)) x)))
def sleepBad (f : Frame) : Bool := (f.Sleep.zipIdx 0).any fun x => badS f.Sleep f.Agent x.2 x.1
def headOk (g : Int) : List Tree -> Bool
 | x :: _ => andB (eqI x.Agent g) (eqI ((x.Kids.length : Nat) : Int) 0)
 | [] => false
def treeOk (f : Frame) : Bool := shal 512 f.Tree.Kids && (wakeOk f.Tree && headOk f.Agent f.Tree.Kids)
def validF (f : Frame) : Bool := agentOk f.Agent && (decide (f.Sleep.length <= 2048) && (!sleepBad f && treeOk f))
theorem own_validF {B n : Nat} (hB : B <= 1000000000) {f : Frame} (hn : B + 600 <= n) (hw : wid B 512 f.Tree.Kids) : checkpoint_validFrame n f = some (validF f) := by
 rw [checkpoint_validFrame, own_agent, Option.bind_some, validF]
 cases ha : agentOk f.Agent with
 | false => rfl
 | true =>
  rw [Bool.not_true, orB_d, Bool.false_or, ltI_d]
  by_cases hl : f.Sleep.length <= 2048
  ·rw [decide_eq_false (by omega), cond_false, decide_eq_true hl, Bool.true_and, Bool.true_and]
   have h := srch (L := checkpoint_validFrame_L1 f) (fun k x => onlyIf (badS f.Sleep f.Agent k x) false) (fun _ => rfl) f.Sleep 0 fun j x hx q => by
    have hj := getN_some hx
    rw [Nat.zero_add, checkpoint_validFrame_L1, own_agent, Option.bind_some]
    have e1 : (IntKind.i64.wrap ((j : Int) - 1)).toNat = j - 1 := by rw [wrap_i64 (by omega) (by omega)]; omega
    have e2 : orB (!(andB (!(orB (!agentOk x) (eqI x f.Agent))) (ltI 0 ((j : Nat) : Int)))) (inB (IntKind.i64.wrap (((j : Nat) : Int) - 1)) f.Sleep.length) = true := by
     rw [wrap_i64 (by omega) (by omega), orB_d, inB_d, andB_d, ltI_d]
     by_cases h0 : 0 < j
     ·rw [decide_eq_true (p := 0 <= (j : Int) - 1 /\ (j : Int) - 1 < (f.Sleep.length : Int)) (by omega), Bool.or_true]
     ·rw [decide_eq_false (p := 0 < ((j : Nat) : Int)) (by omega), Bool.and_false]; rfl
    rw [e2, guardO_t, e1]
    exact step_only _ _ _
   rw [first_only] at h
   rw [h]
   show Option.bind (Option.bind (some (toS (onlyIf (sleepBad f) false))) _) _ = _
   cases sleepBad f with
   | true => rfl
   | false =>
    simp only [onlyIf_f, toS_none, Option.bind_some]
    rw [show (512 : Int) = ((512 : Nat) : Int) from rfl, own_shal 512 n f.Tree (by omega) (by omega), Option.bind_some, treeOk]
    cases hs : shal 512 f.Tree.Kids with
    | false => rfl
    | true =>
     rw [own_wake hB hn hs hw]
     simp only [Option.isSome_some, Option.getD_some, orB_t, guardO_t, Bool.not_true]
     cases hk : wakeOk f.Tree with
     | false => rfl
     | true =>
      cases hK : f.Tree.Kids with
      | nil => rfl
      | cons x l =>
       have : eqI (((x :: l).length : Nat) : Int) 0 = false := by rw [eqI_d, decide_eq_false (by simp; omega)]
       rw [this]; rfl
  ·rw [decide_eq_true (by omega), decide_eq_false hl]; rfl
def validS (s : Snapshot) : Bool :=
 !(orB (orB (orB (orB (ltI s.Count 0) (ltI 1048576 s.Count)) (ltI s.Blocked 0)) (ltI 1048576 s.Blocked)) (ltI 512 ((s.Frames.length : Nat) : Int))) &&
  (!(andB (ltI 0 ((s.Frames.length : Nat) : Int)) (orB s.Done (eqI s.Count 0))) && s.Frames.all validF)
theorem own_valid {B n : Nat} (hB : B <= 1000000000) {s : Snapshot} (hn : B + 600 <= n) (hw : ∀ f ∈ s.Frames, wid B 512 f.Tree.Kids) : checkpoint_Valid n s = some (validS s) := by
 have h := srch (L := checkpoint_Valid_L1 n) (fun _ (f : Frame) => onlyIf (!validF f) false) (fun _ => rfl) s.Frames 0 fun j x hx q => by
  rw [checkpoint_Valid_L1, own_validF hB hn (hw x (List.mem_of_getElem? hx)), Option.bind_some]; exact step_only _ _ _
 rw [first_onlyC, any_not_all] at h
 rw [checkpoint_Valid, h, validS]
 cases orB (orB (orB (orB (ltI s.Count 0) (ltI 1048576 s.Count)) (ltI s.Blocked 0)) (ltI 1048576 s.Blocked)) (ltI 512 ((s.Frames.length : Nat) : Int)) <;> cases andB (ltI 0 ((s.Frames.length : Nat) : Int)) (orB s.Done (eqI s.Count 0)) <;> cases s.Frames.all validF <;> rfl
end Go.Dc.Pl
end
section
set_option linter.all false
namespace Go.Dc
open Go Go.Hw Go.Proofs
set_option maxRecDepth 100000
def frame_AppendInts_L1 (fuelN : Nat) (a0 : List UInt8) : List Int -> (List UInt8) -> Nat -> Option ((List UInt8) ⊕ (List UInt8))
 | [], l96, k97 => some (.inl l96)
 | x126 :: q122, l96, k97 => Option.bind (frame_inRange x126) (fun y129 => cond (!y129) (Option.bind (some ([a0])) (fun l132 => Option.bind (frame_join l132) (fun y134 => some (.inr y134)))) (Option.bind (frame_intBytes fuelN x126) (fun y136 => guardO (limB 1 (l96.length + y136.length)) (Option.bind (some (l96 ++ y136)) (fun l139 => frame_AppendInts_L1 fuelN a0 q122 l139 (k97 + 1))))))
def frame_AppendInts (fuelN : Nat) (a0 : List UInt8) (a1 : List Int) : Option (List UInt8) :=
 Option.bind (frame_uintBytes fuelN ((a1.length : Nat) : Int)) (fun y1 => Option.bind (some ([a0, y1])) (fun l3 => Option.bind (frame_join l3) (fun y5 => Option.bind (α := (List UInt8) ⊕ (List UInt8)) (Option.bind (frame_AppendInts_L1 fuelN a0 a1 y5 0) (fun o => match o with | .inl l115 => some (.inl l115) | .inr r141 => some (.inr r141))) (fun o => match o with | .inl l72 => some l72 | .inr r142 => some r142))))
set_option maxHeartbeats 2000000 in
theorem at_frame_AppendInts {fuelN : Nat} {a0 : List UInt8} {a1 : List Int} {r : (List UInt8)} (hs : frame_AppendInts fuelN a0 a1 = some r) : CAt Tryd.prog 33 [.cell (sC a0), .cell (sC a1)] [] (.ret (.cell (.sl (.r 0) 0 1 r.length))) [(.r 0, .pure (encL r))] := by
 refine at_bound (by kernel_rfl) fun hb => ?_
 have hb1 : LenOk (.sl a0.length (encL a0)) := lkc hb
 have hb2 : LenOk (.sl a1.length (encL a1)) := lkc hb
 refine at_code mixed Tryd.func33 (by kernel_rfl) rfl (by kernel_rfl) rfl fun Q hQ => ?_
 rw [frame_AppendInts] at hs
 refine goR f0 ?_
 revert hs; refine bK fun y1 hx2 hs => ?_
 refine cP f0 (at_frame_uintBytes hx2) ?_
 revert hs; refine lK fun l3 hx4 hs => ?_
 have hx4n : l3.length = 2 := by rw [hx4]; rfl
 refine goR hx4 ?_
 revert hs; refine bK fun y5 hx6 hs => ?_
 refine cA hx4 (at_frame_join hx6) ?_
 refine goR2 hx4 ?_
 revert hs; refine bK fun o74 e73 hs => ?_
 refine awp_cutK (fun (v : (List UInt8)) (σ : St) => some (.inl v) = some o74 /\ σ.env 5 = .cell (.sl (.l 2) 0 1 v.length) /\ σ.hp (.l 2) = some (.pure (encL v)) /\ 3 <= σ.gen) (by rfl) (fun Q hK75 hX76 => ?_) (fun l72 σ3 hp => ?_)
 ·refine goR hx4 ?_
  revert e73; refine bK fun o117 e116 e73 => ?_
  refine awp_loopW (fun (v : (List Int) × (List UInt8) × Nat) (σ : St) => frame_AppendInts_L1 fuelN a0 v.1 v.2.1 v.2.2 = some o117 /\ v.1 = a1.drop v.2.2 /\ σ.env 0 = .cell (sC a0) /\ σ.env 5 = .cell (.sl (.l 6) 0 1 v.2.1.length) /\ σ.env 14 = .cell (sC a1) /\ σ.env 15 = iV .i64 ((a1.length : Nat) : Int) /\ σ.env 16 = iV .i64 ((v.2.2 : Nat) : Int) /\ σ.hp (.l 6) = some (.pure (encL v.2.1)) /\ 3 <= σ.gen) (fun v => v.1.length) _ (Gh.ren _ (.o 2 5 0) (.l 6) (by simp) rfl rfl) (a1, y5, 0) ⟨e116, by simp, pv hx4, pv hx4, pv hx4, pv hx4, pv hx4, pv hx4, pg⟩ fun v σ6 hp L118 hL119 => ?_
  obtain ⟨q121, l96, k97⟩ := v
  dsimp only at hp hL119
  obtain ⟨e116, hd120, h5_0, h5_5, h5_14, h5_15, h5_16, g5_0, n5_g⟩ := hp
  rcases q121 with _ | ⟨x126, q122⟩
  ·have hlt123 := drop_end hd120
   rw [frame_AppendInts_L1] at e116; try dsimp only at e116
   have F1 := an h5_0 (an h5_5 (an h5_14 (an h5_15 (an h5_16 g5_0))))
   refine goR F1 ?_
   refine condK_f (by simp [ltI]; omega) ?_
   obtain rfl := sj e116
   try dsimp only at e73
   exact hK75 l96 _ _ (Gh.ren _ (.l 6) (.l 2) (by simp) rfl rfl) ⟨e73, pv F1, pv F1, pg⟩
  ·obtain ⟨hx125, hlt123, hd127⟩ := drop_next hd120
   have ew124 := wrap_succ hlt123 (hb2).len
   rw [frame_AppendInts_L1] at e116; try dsimp only at e116
   have F2 := an h5_0 (an h5_5 (an h5_14 (an h5_15 (an h5_16 (an g5_0 (an hlt123 ew124))))))
   refine goR F2 ?_
   refine condK_t (by simp [ltI]; omega) ?_
   have f128 : partCV Tryd.prog 3 (encL a1) (k97) = some (iV .i64 x126) := partCV_enc1 hx125 (by simp)
   have F3 := an F2 f128
   refine goR F3 ?_
   revert e116; refine bK fun y129 hx130 e116 => ?_
   refine cP F3 (at_frame_inRange hx130) ?_
   refine goR F3 ?_
   revert e116; refine cS F3 ?_ ?_ <;> intro h131 e116
   ·revert e116; refine lK fun l132 hx133 e116 => ?_
    have hx133n : l132.length = 1 := by rw [hx133]; rfl
    have F4 := an F3 hx133
    refine goR F4 ?_
    revert e116; refine bK fun y134 hx135 e116 => ?_
    refine cA F4 (at_frame_join hx135) ?_
    refine goR F4 ?_
    obtain rfl := sj e116
    try dsimp only at e73
    obtain rfl := sj e73
    try dsimp only at hs
    refine hX76 _ _ (by simp) ?_
    refine goR F4 ?_
    obtain rfl := sj hs
    refine hQ _ _ (ret2g _ (Gh.ren _ (.o (σ6.gen + 4) 2 0) (.r 0) (by simp) rfl rfl) (by simp [St.frz, St.pur, F4]; rfl) (by first | rfl | (simp [St.frz, St.pur, F4]; done) | (rw [if_pos (by first | omega | (simp; omega))]; simp [St.frz, St.pur, F4]; first | omega | exact List.take_of_length_le (by simp; omega) | skip)) (pv F4))
   ·refine goR F3 ?_
    revert e116; refine bK fun y136 hx137 e116 => ?_
    refine cP F3 (at_frame_intBytes hx137) ?_
    obtain ⟨g138, e116⟩ := guardO_some e116
    have g138 := limB_t g138
    obtain ⟨g138a, g138b⟩ := g138
    revert e116; refine lK fun l139 hx140 e116 => ?_
    have hx140n : l139.length = (l96.length + y136.length) := by rw [hx140]; simp
    have hx140e : encL l139 = encL l96 ++ encL y136 := by rw [hx140]; simp
    have F5 := an F3 (an hx140n hx140e)
    refine goR F5 ?_
    exact hL119 (q122, l139, (k97 + 1)) _ _ (Gh.ren _ (.o (σ6.gen + 4) 3 0) (.l 6) (by simp) rfl rfl) ⟨e116, hd127, pv F5, pv F5, pv F5, pv F5, pv F5, pv F5, pg⟩ (by simp)
 ·obtain ⟨e73, h4_5, g4_0, n4_g⟩ := hp
  obtain rfl := sj e73
  try dsimp only at hs
  have F6 := an h4_5 g4_0
  refine goR F6 ?_
  obtain rfl := sj hs
  refine hQ _ _ (ret2g _ (Gh.ren _ (.l 2) (.r 0) (by simp) rfl rfl) (by simp [St.frz, St.pur, F6]; rfl) (by first | rfl | (simp [St.frz, St.pur, F6]; done) | (rw [if_pos (by first | omega | (simp; omega))]; simp [St.frz, St.pur, F6]; first | omega | exact List.take_of_length_le (by simp; omega) | skip)) (pv F6))
end Go.Dc
end
section
set_option linter.all false
namespace Go.Dc
open Go Go.Hw Go.Proofs
set_option maxRecDepth 100000
def checkpoint_appendTree_L1 (fuelN : Nat) (rF34z : (List UInt8) -> Tree -> Option (List UInt8)) : List Tree -> (List UInt8) -> Nat -> Option (List UInt8)
 | [], l105, k106 => some (l105)
 | x131 :: q127, l105, k106 => Option.bind (frame_AppendInt fuelN l105 x131.Agent) (fun y138 => Option.bind (rF34z y138 x131) (fun y140 => checkpoint_appendTree_L1 fuelN rF34z q127 y140 (k106 + 1)))
def checkpoint_appendTree_B (rF34z : (List UInt8) -> Tree -> Option (List UInt8)) (fuelN : Nat) (a0 : List UInt8) (a1 : Tree) : Option (List UInt8) :=
 Option.bind (frame_AppendUint fuelN a0 ((a1.Kids.length : Nat) : Int)) (fun y1 => Option.bind (α := (List UInt8)) (Option.bind (checkpoint_appendTree_L1 fuelN rF34z a1.Kids y1 0) (fun l120 => some (l120))) (fun l70 => some l70))
def checkpoint_appendTree : Nat -> (List UInt8) -> Tree -> Option (List UInt8)
 | 0 => fun _ _ => none
 | fuelN + 1 => fun a0 a1 => checkpoint_appendTree_B (checkpoint_appendTree fuelN) fuelN a0 a1
set_option maxHeartbeats 2000000 in
theorem at_checkpoint_appendTree_B {rF34z : (List UInt8) -> Tree -> Option (List UInt8)} (ihrF34z : ∀ (a0 : List UInt8) (a1 : Tree) (r : (List UInt8)), rF34z a0 a1 = some r -> At Tryd.prog 34 [.cell (sC a0), .agg (eA a1)] (.cell (sC r))) {fuelN : Nat} {a0 : List UInt8} {a1 : Tree} {r : (List UInt8)} (hs : checkpoint_appendTree_B rF34z fuelN a0 a1 = some r) : At Tryd.prog 34 [.cell (sC a0), .agg (eA a1)] (.cell (sC r)) := by
 refine at_bound (by kernel_rfl) fun hb => ?_
 have hb1 : LenOk (.sl a0.length (encL a0)) := lkc hb
 have hb2 : LenOk (.sl a1.Kids.length (encL a1.Kids)) := lkc hb
 refine at_code mixed Tryd.func34 (by kernel_rfl) rfl (by kernel_rfl) rfl fun Q hQ => ?_
 rw [checkpoint_appendTree_B] at hs
 refine goR f0 ?_
 revert hs; refine bK fun y1 hx2 hs => ?_
 refine cA f0 (at_frame_AppendUint hx2) ?_
 refine goR2 f0 ?_
 revert hs; refine bK fun o72 e71 hs => ?_
 refine awp_cutK (fun (v : (List UInt8)) (σ : St) => some (v) = some o72 /\ σ.env 0 = .cell (sC v) /\ 3 <= σ.gen) (by rfl) (fun Q hK73 hX74 => ?_) (fun l70 σ3 hp => ?_)
 ·refine goR f0 ?_
  revert e71; refine bK fun o122 e121 e71 => ?_
  refine awp_loopW (fun (v : (List Tree) × (List UInt8) × Nat) (σ : St) => checkpoint_appendTree_L1 fuelN rF34z v.1 v.2.1 v.2.2 = some o122 /\ v.1 = a1.Kids.drop v.2.2 /\ σ.env 0 = .cell (sC v.2.1) /\ σ.env 13 = .cell (sC a1.Kids) /\ σ.env 14 = iV .i64 ((a1.Kids.length : Nat) : Int) /\ σ.env 15 = iV .i64 ((v.2.2 : Nat) : Int) /\ 3 <= σ.gen) (fun v => v.1.length) _ (Gh.frz _ (.o 2 4 0)) (a1.Kids, y1, 0) ⟨e121, by simp, pv f0, pv f0, pv f0, pv f0, pg⟩ fun v σ6 hp L123 hL124 => ?_
  obtain ⟨q126, l105, k106⟩ := v
  dsimp only at hp hL124
  obtain ⟨e121, hd125, h5_0, h5_13, h5_14, h5_15, n5_g⟩ := hp
  rcases q126 with _ | ⟨x131, q127⟩
  ·have hlt128 := drop_end hd125
   rw [checkpoint_appendTree_L1] at e121; try dsimp only at e121
   have F1 := an h5_0 (an h5_13 (an h5_14 h5_15))
   refine goR F1 ?_
   refine condK_f (by simp [ltI]; omega) ?_
   obtain rfl := sj e121
   try dsimp only at e71
   exact hK73 l105 _ _ (Gh.refl _) ⟨e71, pv F1, pg⟩
  ·obtain ⟨hx130, hlt128, hd132⟩ := drop_next hd125
   have ew129 := wrap_succ hlt128 (hb2).len
   rw [checkpoint_appendTree_L1] at e121; try dsimp only at e121
   have F2 := an h5_0 (an h5_13 (an h5_14 (an h5_15 (an hlt128 ew129))))
   refine goR F2 ?_
   refine condK_t (by simp [ltI]; omega) ?_
   have f133 : partCV Tryd.prog 77 (encL a1.Kids) (k106 * 2) = some (.agg (eA x131)) := partCV_enc hx130 (f := 0) (by simp)
   have F3 := an F2 f133
   refine goD F3 ?_
   revert e121; refine bK fun y138 hx139 e121 => ?_
   refine cA F3 (at_frame_AppendInt hx139) ?_
   refine goD F3 ?_
   revert e121; refine bK fun y140 hx141 e121 => ?_
   refine cA F3 (ihrF34z _ _ _ hx141) ?_
   refine goD F3 ?_
   exact hL124 (q127, y140, (k106 + 1)) _ _ (Gh.refl _) ⟨e121, hd132, pv F3, pv F3, pv F3, pv F3, pg⟩ (by simp)
 ·obtain ⟨e71, h4_0, n4_g⟩ := hp
  obtain rfl := sj e71
  try dsimp only at hs
  refine goR h4_0 ?_
  obtain rfl := sj hs
  exact hQ _ _ (rg h4_0 (Gh.refl _))
theorem at_checkpoint_appendTree : ∀ {fuelN : Nat} {a0 : List UInt8} {a1 : Tree} {r : (List UInt8)} (hs : checkpoint_appendTree fuelN a0 a1 = some r), At Tryd.prog 34 [.cell (sC a0), .agg (eA a1)] (.cell (sC r))
 | 0, _, _, _, hs => by rw [checkpoint_appendTree] at hs; cases hs
 | n + 1, _, _, _, hs => by
  rw [checkpoint_appendTree] at hs
  exact at_checkpoint_appendTree_B (fun _ _ _ h => at_checkpoint_appendTree h) hs
end Go.Dc
end
section
set_option linter.all false
namespace Go.Dc
open Go Go.Hw Go.Proofs
set_option maxRecDepth 100000
def checkpoint_Encode_L1 (fuelN : Nat) : List Int -> (List UInt8) -> Nat -> Option (List UInt8)
 | [], l65, k66 => some (l65)
 | x85 :: q81, l65, k66 => Option.bind (frame_AppendUint fuelN l65 x85) (fun y89 => checkpoint_Encode_L1 fuelN q81 y89 (k66 + 1))
def checkpoint_Encode_L2 (fuelN : Nat) : List Frame -> (List UInt8) -> Nat -> Option (List UInt8)
 | [], l181, k182 => some (l181)
 | x205 :: q201, l181, k182 => Option.bind (frame_AppendInt fuelN l181 x205.Agent) (fun y208 => Option.bind (frame_AppendInts fuelN y208 x205.Sleep) (fun y210 => Option.bind (checkpoint_appendTree fuelN y210 x205.Tree) (fun y212 => checkpoint_Encode_L2 fuelN q201 y212 (k182 + 1))))
def checkpoint_Encode (fuelN : Nat) (a0 : Program) (a1 : Config) (a2 : Snapshot) : Option ((List UInt8) × Int) :=
 Option.bind (checkpoint_Digest fuelN a0 a1) (fun y1 => cond (!(eqI y1.2 0)) (some ([], y1.2)) (Option.bind (checkpoint_Valid fuelN a2) (fun y4 => cond (!y4) (some ([], 1)) (Option.bind (α := Nat) (cond a2.Done (some (1)) (some (0))) (fun k8 => Option.bind (some ([y1.1, ((k8 : Nat) : Int), a2.Count, a2.Blocked, ((a2.Frames.length : Nat) : Int)])) (fun l14 => Option.bind (α := (List UInt8)) (guardO (lenB l14.length) (Option.bind (checkpoint_Encode_L1 fuelN l14 [] 0) (fun l74 => some (l74)))) (fun l51 => Option.bind (α := (List UInt8)) (Option.bind (checkpoint_Encode_L2 fuelN a2.Frames l51 0) (fun l194 => some (l194))) (fun l150 => Option.bind (frame_Seal fuelN l150) (fun y214 => some (y214, 0))))))))))
set_option maxHeartbeats 2000000 in
theorem at_checkpoint_Encode {fuelN : Nat} {a0 : Program} {a1 : Config} {a2 : Snapshot} {r : (List UInt8) × Int} (hs : checkpoint_Encode fuelN a0 a1 a2 = some r) : At Tryd.prog 11 [.agg (eA a0), .agg (eA a1), .agg (eA a2)] (.tup [.cell (sC r.1), iV .i64 r.2]) := by
 refine at_bound (by kernel_rfl) fun hb => ?_
 have hb1 : LenOk (.sl a0.Vars.length (encL a0.Vars)) := lkc hb
 have hb2 : LenOk (.sl a0.Mutexes.length (encL a0.Mutexes)) := lkc hb
 have hb3 : LenOk (.sl a0.Conds.length (encL a0.Conds)) := lkc hb
 have hb4 : LenOk (.sl a0.Funcs.length (encL a0.Funcs)) := lkc hb
 have hb5 : LenOk (.sl a0.Threads.length (encL a0.Threads)) := lkc hb
 have hb6 : LenOk (.sl a2.Frames.length (encL a2.Frames)) := lkc hb
 refine at_code mixed Tryd.func11 (by kernel_rfl) rfl (by kernel_rfl) rfl fun Q hQ => ?_
 rw [checkpoint_Encode] at hs
 refine goR f0 ?_
 revert hs; refine bK fun y1 hx2 hs => ?_
 refine cP f0 (at_checkpoint_Digest hx2) ?_
 refine goR f0 ?_
 revert hs; refine cS f0 ?_ ?_ <;> intro h3 hs
 ·refine goR f0 ?_
  obtain rfl := sj hs
  exact hQ _ _ (rg f0 (Gh.unz _))
 ·refine goR f0 ?_
  revert hs; refine bK fun y4 hx5 hs => ?_
  refine cP f0 (at_checkpoint_Valid hx5) ?_
  refine goR f0 ?_
  revert hs; refine cS f0 ?_ ?_ <;> intro h6 hs
  ·refine goR f0 ?_
   obtain rfl := sj hs
   exact hQ _ _ (rg f0 (Gh.unz _))
  ·refine goR2 f0 ?_
   revert hs; refine bK fun o10 e9 hs => ?_
   refine awp_cutK (fun (v : Nat) (σ : St) => some (v) = some o10 /\ σ.env 5 = .cell (.ref (.o 1 2 0) 0) /\ σ.env 8 = iV .i64 y1.1 /\ σ.env 10 = iV .i64 ((v : Nat) : Int) /\ σ.hp (.o 1 2 0) = some (.cells (eA a2)) /\ 6 <= σ.gen) (by rfl) (fun Q hK11 hX12 => ?_) (fun k8 σ1 hp => ?_)
   ·refine goR f0 ?_
    revert e9; refine cS f0 ?_ ?_ <;> intro h13 e9
    ·refine goR f0 ?_
     exact hK11 1 _ _ (Gh.refl _) ⟨e9, pv f0, pv f0, pv f0, pv f0, pg⟩
    ·refine goR f0 ?_
     exact hK11 0 _ _ (Gh.refl _) ⟨e9, pv f0, pv f0, pv f0, pv f0, pg⟩
   ·obtain ⟨e9, h2_5, h2_8, h2_10, g2_0, n2_g⟩ := hp
    obtain rfl := sj e9
    try dsimp only at hs
    have n2_0 : ¬ (σ1.gen = 0) := by omega
    revert hs; refine lK fun l14 hx15 hs => ?_
    have hx15n : l14.length = 5 := by rw [hx15]; rfl
    have F1 := an h2_5 (an h2_8 (an h2_10 (an g2_0 (an n2_0 hx15))))
    refine goR2 F1 ?_
    revert hs; refine bK fun o53 e52 hs => ?_
    refine awp_cutK (fun (v : (List UInt8)) (σ : St) => some (v) = some o53 /\ σ.env 5 = .cell (.ref (.o 1 2 0) 0) /\ σ.env 11 = .cell (.sl (.l 3) 0 1 v.length) /\ σ.hp (.l 3) = some (.pure (encL v)) /\ σ.hp (.o 1 2 0) = some (.cells (eA a2)) /\ (σ1.gen + 2) <= σ.gen) (by rfl) (fun Q hK54 hX55 => ?_) (fun l51 σ5 hp => ?_)
    ·refine goR F1 ?_
     obtain ⟨hb86, e52⟩ := guardO_some e52
     revert e52; refine bK fun o76 e75 e52 => ?_
     refine awp_loopW (fun (v : (List Int) × (List UInt8) × Nat) (σ : St) => checkpoint_Encode_L1 fuelN v.1 v.2.1 v.2.2 = some o76 /\ v.1 = l14.drop v.2.2 /\ σ.env 5 = .cell (.ref (.o 1 2 0) 0) /\ σ.env 11 = .cell (.sl (.l 9) 0 1 v.2.1.length) /\ σ.env 39 = .cell (.sl (.o (σ1.gen + 2) 9 0) 0 1 l14.length) /\ σ.env 40 = iV .i64 ((l14.length : Nat) : Int) /\ σ.env 41 = iV .i64 ((v.2.2 : Nat) : Int) /\ σ.hp (.l 9) = some (.pure (encL v.2.1)) /\ σ.hp (.o (σ1.gen + 2) 9 0) = some (.pure (encL l14)) /\ σ.hp (.o 1 2 0) = some (.cells (eA a2)) /\ (σ1.gen + 2) <= σ.gen) (fun v => v.1.length) _ (Gh.void _ (.l 9) 11 1 rfl (by simp [F1])) (l14, [], 0) ⟨e75, by simp, pv F1, pv F1, pv F1, pv F1, pv F1, pv F1, pv F1, pv F1, pg⟩ fun v σ8 hp L77 hL78 => ?_
     obtain ⟨q80, l65, k66⟩ := v
     dsimp only at hp hL78
     obtain ⟨e75, hd79, h7_5, h7_11, h7_39, h7_40, h7_41, g7_0, g7_1, g7_2, n7_g⟩ := hp
     have n7_0 : ¬ (σ8.gen = 0) := by omega
     have n7_σ1gen_0 : ¬ (σ8.gen = σ1.gen) := by omega
     have n7_σ1gen_0' : ¬ (σ1.gen = σ8.gen) := by omega
     have n7_σ1gen_1 : ¬ (σ8.gen = σ1.gen + 1) := by omega
     have n7_σ1gen_1' : ¬ (σ1.gen + 1 = σ8.gen) := by omega
     have n7_σ1gen_a : ∀ j, ¬ (σ8.gen + j = σ1.gen) := fun j => by omega
     have n7_σ1gen_a' : ∀ j, ¬ (σ1.gen = σ8.gen + j) := fun j => by omega
     rcases q80 with _ | ⟨x85, q81⟩
     ·have hlt82 := drop_end hd79
      rw [checkpoint_Encode_L1] at e75; try dsimp only at e75
      have F2 := an h7_5 (an h7_11 (an h7_39 (an h7_40 (an h7_41 (an g7_0 (an g7_1 (an g7_2 (an n7_0 (an n7_σ1gen_0 (an n7_σ1gen_0' (an n7_σ1gen_1 (an n7_σ1gen_1' (an n7_σ1gen_a n7_σ1gen_a')))))))))))))
      refine goR F2 ?_
      refine condK_f (by simp [ltI]; omega) ?_
      obtain rfl := sj e75
      try dsimp only at e52
      exact hK54 l65 _ _ (Gh.ren _ (.l 9) (.l 3) (by simp) rfl rfl) ⟨e52, pv F2, pv F2, pv F2, pv F2, pg⟩
     ·obtain ⟨hx84, hlt82, hd87⟩ := drop_next hd79
      have ew83 := wrap_succG hlt82 hb86
      rw [checkpoint_Encode_L1] at e75; try dsimp only at e75
      have F3 := an h7_5 (an h7_11 (an h7_39 (an h7_40 (an h7_41 (an g7_0 (an g7_1 (an g7_2 (an n7_0 (an n7_σ1gen_0 (an n7_σ1gen_0' (an n7_σ1gen_1 (an n7_σ1gen_1' (an n7_σ1gen_a (an n7_σ1gen_a' (an hlt82 ew83)))))))))))))))
      refine goR F3 ?_
      refine condK_t (by simp [ltI]; omega) ?_
      have f88 : partCV Tryd.prog 3 (encL l14) (k66) = some (iV .i64 x85) := partCV_enc1 hx84 (by simp)
      have F4 := an F3 f88
      refine goR F4 ?_
      revert e75; refine bK fun y89 hx90 e75 => ?_
      refine cA F4 (at_frame_AppendUint hx90) ?_
      refine goR F4 ?_
      exact hL78 (q81, y89, (k66 + 1)) _ _ (Gh.ren _ (.o (σ8.gen + 3) 2 0) (.l 9) (by simp) rfl rfl) ⟨e75, hd87, pv F4, pv F4, pv F4, pv F4, pv F4, pv F4, pv F4, pv F4, pg⟩ (by simp)
    ·obtain ⟨e52, h6_5, h6_11, g6_0, g6_1, n6_g⟩ := hp
     obtain rfl := sj e52
     try dsimp only at hs
     have n6_0 : ¬ (σ5.gen = 0) := by omega
     have F5 := an h6_5 (an h6_11 (an g6_0 (an g6_1 n6_0)))
     refine goR2 F5 ?_
     revert hs; refine bK fun o152 e151 hs => ?_
     refine awp_cutK (fun (v : (List UInt8)) (σ : St) => some (v) = some o152 /\ σ.env 11 = .cell (sC v) /\ (σ5.gen + 1) <= σ.gen) (by rfl) (fun Q hK153 hX154 => ?_) (fun l150 σ11 hp => ?_)
     ·refine goR F5 ?_
      revert e151; refine bK fun o196 e195 e151 => ?_
      refine awp_loopW (fun (v : (List Frame) × (List UInt8) × Nat) (σ : St) => checkpoint_Encode_L2 fuelN v.1 v.2.1 v.2.2 = some o196 /\ v.1 = a2.Frames.drop v.2.2 /\ σ.env 11 = .cell (sC v.2.1) /\ σ.env 50 = .cell (sC a2.Frames) /\ σ.env 51 = iV .i64 ((a2.Frames.length : Nat) : Int) /\ σ.env 52 = iV .i64 ((v.2.2 : Nat) : Int) /\ (σ5.gen + 1) <= σ.gen) (fun v => v.1.length) _ (Gh.frz _ (.l 3)) (a2.Frames, l51, 0) ⟨e195, by simp, pv F5, pv F5, pv F5, pv F5, pg⟩ fun v σ14 hp L197 hL198 => ?_
      obtain ⟨q200, l181, k182⟩ := v
      dsimp only at hp hL198
      obtain ⟨e195, hd199, h13_11, h13_50, h13_51, h13_52, n13_g⟩ := hp
      rcases q200 with _ | ⟨x205, q201⟩
      ·have hlt202 := drop_end hd199
       rw [checkpoint_Encode_L2] at e195; try dsimp only at e195
       have F6 := an h13_11 (an h13_50 (an h13_51 h13_52))
       refine goR F6 ?_
       refine condK_f (by simp [ltI]; omega) ?_
       obtain rfl := sj e195
       try dsimp only at e151
       exact hK153 l181 _ _ (Gh.refl _) ⟨e151, pv F6, pg⟩
      ·obtain ⟨hx204, hlt202, hd206⟩ := drop_next hd199
       have ew203 := wrap_succ hlt202 (hb6).len
       rw [checkpoint_Encode_L2] at e195; try dsimp only at e195
       have F7 := an h13_11 (an h13_50 (an h13_51 (an h13_52 (an hlt202 ew203))))
       refine goR F7 ?_
       refine condK_t (by simp [ltI]; omega) ?_
       have f207 : partCV Tryd.prog 79 (encL a2.Frames) (k182 * 4) = some (.agg (eA x205)) := partCV_enc hx204 (f := 0) (by simp)
       have F8 := an F7 f207
       refine goR F8 ?_
       revert e195; refine bK fun y208 hx209 e195 => ?_
       refine cA F8 (at_frame_AppendInt hx209) ?_
       refine goR F8 ?_
       revert e195; refine bK fun y210 hx211 e195 => ?_
       refine cA F8 (at_frame_AppendInts hx211) ?_
       refine goR F8 ?_
       revert e195; refine bK fun y212 hx213 e195 => ?_
       refine cA F8 (at_checkpoint_appendTree hx213) ?_
       refine goR F8 ?_
       exact hL198 (q201, y212, (k182 + 1)) _ _ (Gh.refl _) ⟨e195, hd206, pv F8, pv F8, pv F8, pv F8, pg⟩ (by simp)
     ·obtain ⟨e151, h12_11, n12_g⟩ := hp
      obtain rfl := sj e151
      try dsimp only at hs
      refine goR h12_11 ?_
      revert hs; refine bK fun y214 hx215 hs => ?_
      refine cP h12_11 (at_frame_Seal hx215) ?_
      refine goR h12_11 ?_
      obtain rfl := sj hs
      exact hQ _ _ (rg h12_11 (Gh.refl _))
end Go.Dc
end
section
set_option linter.all false
namespace Go.Dc.Pl
open Go Go.Hw Go.Dc
theorem agent_inR {n : Int} (h : agentOk n = true) : inR n = true := by
 have := agentOk_t h; simp [inR]; omega
def encT : Nat -> List Tree -> List UInt8
 | 0, l => uintB l.length
 | m + 1, l => uintB l.length ++ l.flatMap fun k => uintB (intCode k.Agent) ++ encT m k.Kids
/-- How many nodes a list of trees has. -/
def nT : Nat -> List Tree -> Nat
 | 0, _ => 0
 | m + 1, l => (l.map fun k => 1 + nT m k.Kids).sum
theorem own_encT : ∀ (m f : Nat) (b : List UInt8) (t : Tree), shal m t.Kids = true -> m + 12 <= f -> b.length + 9 + 18 * nT m t.Kids <= 1000000000 -> t.Kids.length <= 1000000000 ->
  (∀ k, wid 1000000000 k t.Kids) -> checkpoint_appendTree f b t = some (b ++ encT m t.Kids) /\ (encT m t.Kids).length <= 9 + 18 * nT m t.Kids := by
 intro m
 induction m with
 | zero =>
  intro f b t hs hf hb hk _
  obtain ⟨f, rfl⟩ : ∃ k, f = k + 1 := ⟨f - 1, by omega⟩
  simp only [shal, decide_eq_true_eq, List.length_eq_zero_iff] at hs
  refine ⟨?_, by rw [encT, hs]; exact uintB_le9 (by simp)⟩
  show checkpoint_appendTree_B (checkpoint_appendTree f) f b t = _
  unfold checkpoint_appendTree_B
  rw [own_appU (by omega) (by omega), hs]
  show some (appU b 0) = _
  rw [encT]; rfl
 | succ m ih =>
  intro f b t hs hf hb hk hw
  obtain ⟨f, rfl⟩ : ∃ k, f = k + 1 := ⟨f - 1, by omega⟩
  rw [shal, List.all_eq_true] at hs
  show checkpoint_appendTree_B (checkpoint_appendTree f) f b t = _ /\ _
  unfold checkpoint_appendTree_B
  have e0 : appU b ((t.Kids.length : Nat) : Int) = b ++ uintB t.Kids.length := by unfold appU; rw [if_neg (by omega)]; simp
  have h9 := uintB_le9 (n := t.Kids.length) (by omega)
  rw [own_appU (by omega) (by omega), Option.bind_some, e0]
  have hL : ∀ (l : List Tree) (c : List UInt8) (k : Nat), (∀ x ∈ l, agentOk x.Agent = true /\ shal m x.Kids = true /\ x.Kids.length <= 1000000000 /\ ∀ k, wid 1000000000 k x.Kids) -> c.length + 18 * (l.map fun k => 1 + nT m k.Kids).sum <= 1000000000 ->
    checkpoint_appendTree_L1 f (checkpoint_appendTree f) l c k = some (c ++ l.flatMap fun k => uintB (intCode k.Agent) ++ encT m k.Kids) /\ (l.flatMap fun k => uintB (intCode k.Agent) ++ encT m k.Kids).length <= 18 * (l.map fun k => 1 + nT m k.Kids).sum := by
   intro l
   induction l with
   | nil => intro c k _ _; simp [checkpoint_appendTree_L1]
   | cons x l il =>
    intro c k hx hc
    obtain ⟨h1, h2, h3, h4⟩ := hx x (by simp)
    rw [List.map_cons, List.sum_cons] at hc ⊢
    have hi := intCode_le (agent_inR h1)
    have h9 := uintB_le9 hi
    have ea : appI c x.Agent = c ++ uintB (intCode x.Agent) := by unfold appI; rw [if_pos (agent_inR h1)]
    obtain ⟨e1, e2⟩ := ih f (c ++ uintB (intCode x.Agent)) x h2 (by omega) (by simp; omega) h3 h4
    obtain ⟨g1, g2⟩ := il (c ++ uintB (intCode x.Agent) ++ encT m x.Kids) (k + 1) (fun y hy => hx y (by simp [hy])) (by simp; omega)
    rw [checkpoint_appendTree_L1, own_appI (by omega) (by omega), Option.bind_some, ea, e1, Option.bind_some, g1]
    refine ⟨by simp, ?_⟩
    rw [List.flatMap_cons]; simp only [List.length_append] at *; omega
  have hkids : ∀ x ∈ t.Kids, agentOk x.Agent = true /\ shal m x.Kids = true /\ x.Kids.length <= 1000000000 /\ ∀ k, wid 1000000000 k x.Kids := fun x hx => by
   have := hs x hx
   rw [Bool.and_eq_true] at this
   refine ⟨this.1, this.2, ((hw 2).2 x hx).1, fun k => (hw (k + 1)).2 x hx⟩
  rw [nT] at hb ⊢
  obtain ⟨g1, g2⟩ := hL t.Kids (b ++ uintB t.Kids.length) 0 hkids (by simp; omega)
  rw [g1, encT]
  refine ⟨by simp, ?_⟩
  simp only [List.length_append] at *; omega
def encInts : List Int -> List UInt8
 | [] => []
 | n :: l => uintB (intCode n) ++ encInts l
theorem encInts_length : ∀ l : List Int, l.all inR = true -> (encInts l).length <= 9 * l.length
 | [], _ => by simp [encInts]
 | n :: l, h => by
  simp only [List.all_cons, Bool.and_eq_true] at h
  have h1 := uintB_le9 (intCode_le h.1)
  have h2 := encInts_length l h.2
  simp [encInts]; omega
theorem own_appInts {f : Nat} {b : List UInt8} {l : List Int} (hf : 9 <= f) (h : l.all inR = true) (hb : b.length + 9 + 9 * l.length <= 1000000000) : frame_AppendInts f b l = some (b ++ uintB l.length ++ encInts l) := by
 have h9 := uintB_le9 (n := l.length) (by omega)
 have hL : ∀ (q : List Int) (c : List UInt8) (k : Nat), q.all inR = true -> c.length + 9 * q.length <= 1000000000 -> frame_AppendInts_L1 f b q c k = some (.inl (c ++ encInts q)) := by
  intro q
  induction q with
  | nil => intro c k _ _; simp [frame_AppendInts_L1, encInts]
  | cons x q ih =>
   intro c k hq hc
   simp only [List.all_cons, Bool.and_eq_true] at hq
   have h1 := uintB_le9 (intCode_le hq.1)
   simp only [List.length_cons] at hc
   rw [frame_AppendInts_L1, own_inR, Option.bind_some, hq.1, Bool.not_true, cond_false, own_intB hq.1 hf, Option.bind_some, lim1 (by omega), guardO_t, Option.bind_some, ih _ _ hq.2 (by simp; omega)]
   simp [encInts]
 rw [frame_AppendInts, own_uintB (by omega) hf]
 simp only [Option.bind_some]
 rw [own_join (by simp; omega)]
 simp only [Option.bind_some, List.flatten_cons, List.flatten_nil, List.append_nil]
 rw [hL l (b ++ uintB l.length) 0 h (by simp; omega)]; rfl
def encF (g : Frame) : List UInt8 := uintB (intCode g.Agent) ++ (uintB g.Sleep.length ++ encInts g.Sleep) ++ encT 512 g.Tree.Kids
def payB (d : Int) (s : Snapshot) : List UInt8 :=
 uintB d.toNat ++ uintB (if s.Done then 1 else 0) ++ uintB s.Count.toNat ++ uintB s.Blocked.toNat ++ uintB s.Frames.length ++ s.Frames.flatMap encF
/-- The size of a snapshot. -/
def nF (g : Frame) : Nat := 3 + g.Sleep.length + nT 512 g.Tree.Kids
def nS (s : Snapshot) : Nat := (s.Frames.map nF).sum
theorem validF_t {g : Frame} (h : validF g = true) : agentOk g.Agent = true /\ g.Sleep.length <= 2048 /\ g.Sleep.all inR = true /\ shal 512 g.Tree.Kids = true /\ wakeOk g.Tree = true := by
 unfold validF treeOk at h
 simp only [Bool.and_eq_true, decide_eq_true_eq, Bool.not_eq_true'] at h
 obtain ⟨h1, h2, h3, h4, h5, h6⟩ := h
 refine ⟨h1, h2, ?_, h4, h5⟩
 rw [List.all_eq_true]
 intro x hx
 obtain ⟨j, hj⟩ := List.getElem?_of_mem hx
 unfold sleepBad at h3
 have := (List.any_eq_false.1 h3) (x, j) (by
  rw [List.mem_zipIdx_iff_getElem?]; exact hj)
 simp only [badS, orB_d, Bool.or_eq_true, not_or, Bool.not_eq_true, Bool.not_eq_false'] at this
 exact agent_inR this.1.1
theorem own_frames {f : Nat} (hf : 600 <= f) : ∀ (l : List Frame) (b : List UInt8) (k : Nat), (∀ g ∈ l, validF g = true /\ g.Tree.Kids.length <= 1000000000 /\ ∀ k, wid 1000000000 k g.Tree.Kids) -> b.length + 18 * (l.map nF).sum <= 1000000000 ->
  checkpoint_Encode_L2 f l b k = some (b ++ l.flatMap encF) /\ (l.flatMap encF).length <= 18 * (l.map nF).sum := by
 intro l
 induction l with
 | nil => intro b k _ _; simp [checkpoint_Encode_L2]
 | cons x l ih =>
  intro b k hx hb
  obtain ⟨h1, h2, h3⟩ := hx x (by simp)
  obtain ⟨v1, v2, v3, v4, v5⟩ := validF_t h1
  rw [List.map_cons, List.sum_cons, nF] at hb
  have i9 := uintB_le9 (intCode_le (agent_inR v1))
  have s9 := uintB_le9 (n := x.Sleep.length) (by omega)
  have sl := encInts_length x.Sleep v3
  have ea : appI b x.Agent = b ++ uintB (intCode x.Agent) := by unfold appI; rw [if_pos (agent_inR v1)]
  have e2 := own_appInts (f := f) (b := b ++ uintB (intCode x.Agent)) (by omega) v3 (by simp; omega)
  obtain ⟨t1, t2⟩ := own_encT 512 f (b ++ uintB (intCode x.Agent) ++ uintB x.Sleep.length ++ encInts x.Sleep) x.Tree v4 (by omega) (by simp; omega) h2 h3
  have hF : (encF x).length <= 18 * nF x := by unfold encF nF; simp only [List.length_append]; omega
  have heq : b ++ uintB (intCode x.Agent) ++ uintB x.Sleep.length ++ encInts x.Sleep ++ encT 512 x.Tree.Kids = b ++ encF x := by unfold encF; simp
  obtain ⟨g1, g2⟩ := ih (b ++ encF x) (k + 1) (fun y hy => hx y (by simp [hy])) (by rw [List.length_append]; unfold nF at hF; omega)
  rw [checkpoint_Encode_L2, own_appI (by omega) (by omega), Option.bind_some, ea, e2, Option.bind_some, t1, Option.bind_some, heq, g1]
  refine ⟨by simp, ?_⟩
  rw [List.flatMap_cons, List.length_append, List.map_cons, List.sum_cons]; omega
def encodeB (dg : Int × Int) (s : Snapshot) : List UInt8 × Int := if dg.2 ≠ 0 then ([], dg.2) else if validS s = false then ([], 1) else (sealB (payB dg.1 s), 0)
theorem validS_t {s : Snapshot} (h : validS s = true) : 0 <= s.Count /\ s.Count <= 1048576 /\ 0 <= s.Blocked /\ s.Blocked <= 1048576 /\ s.Frames.length <= 512 /\ ∀ g ∈ s.Frames, validF g = true := by
 unfold validS at h
 simp only [Bool.and_eq_true, orB_d, ltI_d, Bool.not_eq_true', Bool.or_eq_false_iff, decide_eq_false_iff_not] at h
 exact ⟨by omega, by omega, by omega, by omega, by omega, List.all_eq_true.1 h.2.2⟩
theorem payB_len {d : Int} {s : Snapshot} (hd : 0 <= d /\ d < 4294967296) (hv : validS s = true) (hw : ∀ g ∈ s.Frames, g.Tree.Kids.length <= 1000000000 /\ ∀ k, wid 1000000000 k g.Tree.Kids) (hn : nS s <= 50000000) : (payB d s).length <= 45 + 18 * nS s := by
 obtain ⟨c1, c2, c3, c4, c5, c6⟩ := validS_t hv
 have a1 := uintB_le9 (n := d.toNat) (by omega)
 have a2 := uintB_le9 (n := if s.Done then 1 else 0) (by split <;> omega)
 have a3 := uintB_le9 (n := s.Count.toNat) (by omega)
 have a4 := uintB_le9 (n := s.Blocked.toNat) (by omega)
 have a5 := uintB_le9 (n := s.Frames.length) (by omega)
 have a6 := (own_frames (f := 600) (by omega) s.Frames [] 0 (fun g hg => ⟨c6 g hg, hw g hg⟩) (by unfold nS at hn; simp; omega)).2
 unfold payB nS; simp only [List.length_append]; omega
theorem own_encode {f B : Nat} {p : Program} {c : Config} {s : Snapshot} (hp : small p = true) (hB : B <= 1000000000) (hw : ∀ g ∈ s.Frames, g.Tree.Kids.length <= 1000000000 /\ (∀ k, wid 1000000000 k g.Tree.Kids) /\ wid B 512 g.Tree.Kids) (hn : nS s <= 3000000) (hf : 60000000 <= f) (hfB : B + 600 <= f) :
  checkpoint_Encode f p c s = some (encodeB (digest p c) s) := by
 have hr := digest_range p c
 rw [checkpoint_Encode, own_digest (by omega) c hp, Option.bind_some, eqI_d, encodeB]
 by_cases h1 : (digest p c).2 = 0
 ·rw [decide_eq_true h1, Bool.not_true, cond_false, if_neg (fun h : (digest p c).2 ≠ 0 => h h1), own_valid hB hfB (fun g hg => (hw g hg).2.2), Option.bind_some]
  cases hv : validS s with
  | false => rfl
  | true =>
   obtain ⟨c1, c2, c3, c4, c5, c6⟩ := validS_t hv
   have hpl := payB_len hr hv (fun g hg => ⟨(hw g hg).1, (hw g hg).2.1⟩) (by omega)
   rw [Bool.not_true, cond_false, if_neg (by simp)]
   have hk : (Option.bind (α := Nat) (cond s.Done (some 1) (some 0)) : (Nat -> Option (List UInt8 × Int)) -> _) = fun K => K (if s.Done then 1 else 0) := by cases s.Done <;> rfl
   rw [hk]
   simp only [Option.bind_some]
   have b1 := own_appU (f := f) (b := []) (n := (digest p c).1) (by omega) (by simp)
   have u : ∀ (b : List UInt8) (n : Int), 0 <= n -> n <= 4611686018427387904 -> appU b n = b ++ uintB n.toNat := fun b n h1 h2 => by unfold appU; rw [if_neg (by omega)]
   have hl : ∀ (l : List Int) (b : List UInt8) (k : Nat), (∀ x ∈ l, 0 <= x /\ x <= 4611686018427387904) -> b.length + 9 * l.length <= 1000 -> checkpoint_Encode_L1 f l b k = some (b ++ l.flatMap fun n => uintB n.toNat) := by
    intro l
    induction l with
    | nil => intro b k _ _; simp [checkpoint_Encode_L1]
    | cons x l ih =>
     intro b k hx hb
     have hx1 := hx x (by simp)
     have h9 := uintB_le9 (n := x.toNat) (by omega)
     rw [List.length_cons] at hb
     rw [checkpoint_Encode_L1, own_appU (by omega) (by omega), Option.bind_some, u b x hx1.1 hx1.2, ih _ _ (fun y hy => hx y (by simp [hy])) (by simp; omega)]
     simp
   have e1 := hl [(digest p c).1, (((if s.Done then 1 else 0 : Nat)) : Int), s.Count, s.Blocked, ((s.Frames.length : Nat) : Int)] [] 0 (by
    intro x hx
    simp only [List.mem_cons, List.not_mem_nil, or_false] at hx
    rcases hx with rfl | rfl | rfl | rfl | rfl
    ·omega
    ·split <;> omega
    ·omega
    ·omega
    ·omega) (by simp)
   rw [show lenB ([(digest p c).1, (((if s.Done then 1 else 0 : Nat)) : Int), s.Count, s.Blocked, ((s.Frames.length : Nat) : Int)]).length = true from rfl, guardO_t, e1]
   simp only [Option.bind_some, List.nil_append]
   have hhead : ([(digest p c).1, (((if s.Done then 1 else 0 : Nat)) : Int), s.Count, s.Blocked, ((s.Frames.length : Nat) : Int)].flatMap fun n => uintB n.toNat) = uintB (digest p c).1.toNat ++ uintB (if s.Done then 1 else 0) ++ uintB s.Count.toNat ++ uintB s.Blocked.toNat ++ uintB s.Frames.length := by
    simp
   rw [hhead]
   have a1 := uintB_le9 (n := (digest p c).1.toNat) (by omega)
   have a2 := uintB_le9 (n := if s.Done then 1 else 0) (by split <;> omega)
   have a3 := uintB_le9 (n := s.Count.toNat) (by omega)
   have a4 := uintB_le9 (n := s.Blocked.toNat) (by omega)
   have a5 := uintB_le9 (n := s.Frames.length) (by omega)
   have g := (own_frames (f := f) (by omega) s.Frames (uintB (digest p c).1.toNat ++ uintB (if s.Done then 1 else 0) ++ uintB s.Count.toNat ++ uintB s.Blocked.toNat ++ uintB s.Frames.length) 0 (fun g hg => ⟨c6 g hg, (hw g hg).1, (hw g hg).2.1⟩) (by unfold nS at hn; simp only [List.length_append]; omega)).1
   rw [g]
   simp only [Option.bind_some]
   show Option.bind (frame_Seal f (payB (digest p c).1 s)) _ = _
   rw [own_seal (by omega) (by omega)]; rfl
 ·rw [decide_eq_false h1, if_pos (show (digest p c).2 ≠ 0 from h1)]; rfl
end Go.Dc.Pl
end
section
set_option linter.all false
namespace Go.Dc
open Go Go.Hw Go.Proofs
set_option maxRecDepth 100000
def checkpoint_Decode (fuelN : Nat) (a0 : Program) (a1 : Config) (a2 : List UInt8) : Option (Snapshot × Int) :=
 Option.bind (checkpoint_Digest fuelN a0 a1) (fun y1 => cond (!(eqI y1.2 0)) (some (({ Frames := [], Done := false, Count := 0, Blocked := 0 } : Snapshot), y1.2)) (Option.bind (frame_Open fuelN a2) (fun y4 => cond (!(eqI y4.2.2 0)) (some (({ Frames := [], Done := false, Count := 0, Blocked := 0 } : Snapshot), y4.2.2)) (cond (ltI 0 ((y4.2.1.length : Nat) : Int)) (some (({ Frames := [], Done := false, Count := 0, Blocked := 0 } : Snapshot), 3)) (Option.bind (checkpoint_rest_uint_CheckpointDecoder fuelN ({ rest := ({ bytes := y4.1, err := 0 } : CheckpointRest), done := 0, out := ({ Frames := ([] : List Frame), Done := false, Count := 0, Blocked := 0 } : Snapshot) } : CheckpointDecoder)) (fun y8 => cond (!(eqI y8.2.rest.err 0)) (some (({ Frames := [], Done := false, Count := 0, Blocked := 0 } : Snapshot), y8.2.rest.err)) (cond (!(eqI y8.1 y1.1)) (some (({ Frames := [], Done := false, Count := 0, Blocked := 0 } : Snapshot), 30)) (Option.bind (checkpoint_decoder_snapshot fuelN y8.2) (fun y12 => cond (!(eqI y12.rest.err 0)) (some (({ Frames := [], Done := false, Count := 0, Blocked := 0 } : Snapshot), y12.rest.err)) (cond (!(orB (ltI 1 y12.done) (ltI 0 ((y12.rest.bytes.length : Nat) : Int)))) (Option.bind (checkpoint_Valid fuelN y12.out) (fun y16 => cond (!y16) (some (({ Frames := [], Done := false, Count := 0, Blocked := 0 } : Snapshot), 3)) (some (y12.out, 0)))) (some (({ Frames := [], Done := false, Count := 0, Blocked := 0 } : Snapshot), 3))))))))))))
set_option maxHeartbeats 2000000 in
theorem at_checkpoint_Decode {fuelN : Nat} {a0 : Program} {a1 : Config} {a2 : List UInt8} {r : Snapshot × Int} (hs : checkpoint_Decode fuelN a0 a1 a2 = some r) : At Tryd.prog 12 [.agg (eA a0), .agg (eA a1), .cell (sC a2)] (.tup [.agg (eA r.1), iV .i64 r.2]) := by
 refine at_bound (by kernel_rfl) fun hb => ?_
 have hb1 : LenOk (.sl a0.Vars.length (encL a0.Vars)) := lkc hb
 have hb2 : LenOk (.sl a0.Mutexes.length (encL a0.Mutexes)) := lkc hb
 have hb3 : LenOk (.sl a0.Conds.length (encL a0.Conds)) := lkc hb
 have hb4 : LenOk (.sl a0.Funcs.length (encL a0.Funcs)) := lkc hb
 have hb5 : LenOk (.sl a0.Threads.length (encL a0.Threads)) := lkc hb
 have hb6 : LenOk (.sl a2.length (encL a2)) := lkc hb
 refine at_code mixed Tryd.func12 (by kernel_rfl) rfl (by kernel_rfl) rfl fun Q hQ => ?_
 rw [checkpoint_Decode] at hs
 refine goR f0 ?_
 revert hs; refine bK fun y1 hx2 hs => ?_
 refine cP f0 (at_checkpoint_Digest hx2) ?_
 refine goR f0 ?_
 revert hs; refine cS f0 ?_ ?_ <;> intro h3 hs
 ·refine goR f0 ?_
  obtain rfl := sj hs
  exact hQ _ _ (rg f0 (Gh.unz _))
 ·refine goR f0 ?_
  revert hs; refine bK fun y4 hx5 hs => ?_
  refine cP f0 (at_frame_Open hx5) ?_
  refine goR f0 ?_
  revert hs; refine cS f0 ?_ ?_ <;> intro h6 hs
  ·refine goR f0 ?_
   obtain rfl := sj hs
   exact hQ _ _ (rg f0 (Gh.unz _))
  ·refine goR f0 ?_
   revert hs; refine cS f0 ?_ ?_ <;> intro h7 hs
   ·refine goR f0 ?_
    obtain rfl := sj hs
    exact hQ _ _ (rg f0 (Gh.unz _))
   ·refine goN f0 ?_
    refine awp_reg ?_
    refine goN f0 ?_
    refine awp_gh (by rfl) ((Gh.voidB _ (.l 1) (.o 7 3 0) 3 4 rfl (by simp; rfl) (by first | rfl | simp) (by simp)).trans (Gh.close _ (.o 7 3 0) 3)) ?_
    try simp only [St.frz, St.pur]
    refine goR f0 ?_
    revert hs; refine bK fun y8 hx9 hs => ?_
    refine cB f0 (at_checkpoint_rest_uint_CheckpointDecoder hx9) [.o 7 3 0] ?_
    refine goR f0 ?_
    revert hs; refine cS f0 ?_ ?_ <;> intro h10 hs
    ·refine goD f0 ?_
     obtain rfl := sj hs
     exact hQ _ _ (rg f0 (Gh.unz _))
    ·refine goR f0 ?_
     revert hs; refine cS f0 ?_ ?_ <;> intro h11 hs
     ·refine goR f0 ?_
      obtain rfl := sj hs
      exact hQ _ _ (rg f0 (Gh.unz _))
     ·refine goR f0 ?_
      revert hs; refine bK fun y12 hx13 hs => ?_
      refine cB f0 (at_checkpoint_decoder_snapshot hx13) [.o 7 3 0] ?_
      refine goR f0 ?_
      revert hs; refine cS f0 ?_ ?_ <;> intro h14 hs
      ·refine goD f0 ?_
       obtain rfl := sj hs
       exact hQ _ _ (rg f0 (Gh.unz _))
      ·refine goG f0 f0 ?_
       refine gsel_split (fun h15 => ?_) (fun h15 => ?_)
       ·replace hs := condT h15 hs
        simp only [Bool.not_eq_true', Bool.not_eq_false', Bool.not_not] at h15
        refine goG h15 h15 ?_
        revert hs; refine bK fun y16 hx17 hs => ?_
        refine cA h15 (at_checkpoint_Valid hx17) ?_
        refine goG h15 h15 ?_
        revert hs; refine cS h15 ?_ ?_ <;> intro h18 hs
        ·refine goG h15 h15 ?_
         obtain rfl := sj hs
         exact hQ _ _ (rg h15 (Gh.unz _))
        ·refine goG h15 h15 ?_
         obtain rfl := sj hs
         exact hQ _ _ (rg h15 (Gh.frz _ (.o 13 18 3)))
       ·replace hs := condF h15 hs
        simp only [Bool.not_eq_true', Bool.not_eq_false', Bool.not_not] at h15
        refine goG h15 h15 ?_
        obtain rfl := sj hs
        exact hQ _ _ (rg h15 (Gh.unz _))
end Go.Dc
end
section
set_option linter.all false
namespace Go.Dc.Pl
open Go Go.Hw Go.Dc
theorem trL_wid {F : Rd -> List Tree × Rd} {B m : Nat} (hF : ∀ r, meas (F r).2 <= meas r /\ (F r).2.1.length <= r.1.length) (hW : ∀ r, meas r <= B -> wid B m (F r).1) :
  ∀ (rem : Nat) (r : Rd) (acc : List Tree), meas r <= B -> (∀ k ∈ acc, wid B m k.Kids) -> (trL F rem r acc).1.length <= acc.length + meas r /\ ∀ k ∈ (trL F rem r acc).1, wid B m k.Kids
 | 0, r, acc, _, h => ⟨by simp [trL], h⟩
 | rem + 1, r, acc, hm, h => by
  rw [trL]; split
  ·rename_i h0
   have h1 := rdI_meas r
   have h1' := h1.2.2 h0
   have h2 := hF (rdI r).2
   have h3 := trL_wid hF hW rem (F (rdI r).2).2 (acc ++ [⟨(rdI r).1, (F (rdI r).2).1⟩]) (by omega) (fun k hk => by
    rcases List.mem_append.1 hk with hk | hk
    ·exact h k hk
    ·rw [List.mem_singleton.1 hk]; exact hW _ (by omega))
   refine ⟨?_, h3.2⟩
   have := h3.1
   rw [List.length_append, List.length_singleton] at this
   omega
  ·exact ⟨by simp, h⟩
theorem tr_wid {B : Nat} : ∀ (m : Nat) (r : Rd), meas r <= B -> wid B m (tr m r).1
 | 0, r, h => trivial
 | m + 1, r, h => by
  rw [tr]
  have h1 := rdU_meas r; have h2 := deep_meas (m + 1) (rdU r)
  have := trL_wid (tr_meas m) (tr_wid (B := B) m) (rdU r).1.toNat (deep (m + 1) (rdU r)) [] (by omega) (fun k hk => by cases hk)
  refine ⟨?_, this.2⟩
  have := this.1; simp at this; omega
theorem frL_wid {B : Nat} : ∀ (rem : Nat) (r : Rd) (acc : List Frame), meas r <= B -> (∀ f ∈ acc, wid B 512 f.Tree.Kids) -> ∀ f ∈ (frL rem r acc).1, wid B 512 f.Tree.Kids
 | 0, r, acc, _, h => h
 | rem + 1, r, acc, hm, h => by
  rw [frL]; split
  ·have h1 := rdI_meas r
   have h2 := rdL_meas (rdI r).2
   have h3 := tr_meas 512 (rdL (rdI r).2).2
   exact frL_wid rem _ _ (by omega) (fun k hk => by
    rcases List.mem_append.1 hk with hk | hk
    ·exact h k hk
    ·rw [List.mem_singleton.1 hk]; exact tr_wid 512 _ (by omega))
  ·exact h
theorem many_meas (x : Int × Rd) : meas (many x) <= meas x.2 := by
 unfold many; split
 ·simp [meas]
 ·exact Nat.le_refl _
theorem snapR_wid {B : Nat} {r : Rd} (h : meas r <= B) : ∀ f ∈ (snapR r).2.1.Frames, wid B 512 f.Tree.Kids := by
 have h1 := rdU_meas r
 have h2 := rdU_meas (rdU r).2
 have h3 := rdU_meas (rdU (rdU r).2).2
 have h4 := rdU_meas (rdU (rdU (rdU r).2).2).2
 have h5 := many_meas (rdU (rdU (rdU (rdU r).2).2).2)
 exact frL_wid _ _ [] (by omega) (fun f hf => by cases hf)
def snap0 : Snapshot := ⟨[], false, 0, 0⟩
/-- What Decode comes to, behind a digest. -/
def decodeB (dg : Int × Int) (b : List UInt8) : Snapshot × Int :=
 if dg.2 ≠ 0 then (snap0, dg.2)
 else if (openB b).2.2 ≠ 0 then (snap0, (openB b).2.2)
 else if 0 < (openB b).2.1.length then (snap0, 3)
 else if (rdU ((openB b).1, 0)).2.2 ≠ 0 then (snap0, (rdU ((openB b).1, 0)).2.2)
 else if (rdU ((openB b).1, 0)).1 ≠ dg.1 then (snap0, 30)
 else if (snapR (rdU ((openB b).1, 0)).2).2.2.2 ≠ 0 then (snap0, (snapR (rdU ((openB b).1, 0)).2).2.2.2)
 else if 1 < (snapR (rdU ((openB b).1, 0)).2).1 \/ 0 < (snapR (rdU ((openB b).1, 0)).2).2.2.1.length \/ validS (snapR (rdU ((openB b).1, 0)).2).2.1 = false then (snap0, 3)
 else ((snapR (rdU ((openB b).1, 0)).2).2.1, 0)
theorem openB_len (b : List UInt8) : (openB b).1.length <= b.length := by
 unfold openB; split
 ·simp
 ·split
  ·simp
  ·split
   ·simp; omega
   ·simp
theorem own_decode {f : Nat} {p : Program} {c : Config} {b : List UInt8} (hp : small p = true) (hb : b.length <= 100000000) (hf : b.length + 1100000 <= f) :
  checkpoint_Decode f p c b = some (decodeB (digest p c) b) := by
 unfold checkpoint_Decode decodeB
 rw [own_digest (by omega) c hp, Option.bind_some, eqI_d]
 by_cases h1 : (digest p c).2 = 0
 ·rw [decide_eq_true h1, Bool.not_true, cond_false, if_neg (fun h : (digest p c).2 ≠ 0 => h h1), own_open (by omega) (by omega), Option.bind_some, eqI_d]
  by_cases h2 : (openB b).2.2 = 0
  ·rw [decide_eq_true h2, Bool.not_true, cond_false, if_neg (fun h : (openB b).2.2 ≠ 0 => h h2), ltI_d]
   by_cases h3 : 0 < (openB b).2.1.length
   ·rw [if_pos h3, decide_eq_true (by omega)]; rfl
   ·have hl := openB_len b
    rw [if_neg h3, decide_eq_false (by omega), cond_false]
    have e1 := own_rdU (f := f) (d := mkD ((openB b).1, 0) 0 [] false 0 0) (by omega) (by show (openB b).1.length <= _; omega)
    rw [show rst (mkD ((openB b).1, 0) 0 [] false 0 0) = ((openB b).1, 0) from rfl] at e1
    have hm := rdU_meas ((openB b).1, 0)
    have hm0 : meas ((openB b).1, 0) = (openB b).1.length + 1 := meas_pos rfl
    refine (congrArg (fun o => Option.bind o _) e1).trans ?_
    generalize rdU ((openB b).1, 0) = x at hm ⊢
    simp only [Option.bind_some]
    show cond (!(eqI x.2.2 0)) (some (_, x.2.2)) (cond (!(eqI x.1 _)) _ _) = _
    rw [eqI_d, eqI_d]
    by_cases h4 : x.2.2 = 0
    ·rw [decide_eq_true h4, Bool.not_true, cond_false, if_neg (fun h : x.2.2 ≠ 0 => h h4)]
     by_cases h5 : x.1 = (digest p c).1
     ·rw [decide_eq_true h5, Bool.not_true, cond_false, if_neg (fun h : x.1 ≠ (digest p c).1 => h h5)]
      have hx : x.2.1.length <= b.length := Nat.le_trans hm.2.1 hl
      have e2 := own_snap (f := f) (r := x.2) (by omega) (by omega)
      refine (congrArg (fun o => Option.bind o _) e2).trans ?_
      have hw := snapR_wid (B := b.length + 1) (r := x.2) (by have := hm.1; omega)
      generalize hS : snapR x.2 = S at hw ⊢
      obtain ⟨dn, s, r⟩ := S
      simp only [Option.bind_some]
      have e3 := own_valid (B := b.length + 1) (n := f) (by omega) (s := s) (by omega) hw
      show cond (!(eqI r.2 0)) (some (_, r.2)) (cond (!(orB (ltI 1 dn) (ltI 0 ((r.1.length : Nat) : Int)))) (Option.bind (checkpoint_Valid f s) _) _) = _
      rw [e3, eqI_d, orB_d, ltI_d, ltI_d, <- Bool.decide_or]
      by_cases h6 : r.2 = 0
      ·rw [decide_eq_true h6, Bool.not_true, cond_false, if_neg (fun h : r.2 ≠ 0 => h h6)]
       by_cases h7 : 1 < dn \/ 0 < r.1.length
       ·rw [if_pos (by rcases h7 with h | h; exact .inl h; exact .inr (.inl h)), decide_eq_true (by omega)]; rfl
       ·rw [decide_eq_false (by omega), Bool.not_false, cond_true, Option.bind_some]
        cases hv : validS s with
        | false => rw [if_pos (.inr (.inr rfl))]; rfl
        | true => rw [if_neg (fun h => by rcases h with h | h | h; exact h7 (.inl h); exact h7 (.inr h); cases h)]; rfl
      ·rw [decide_eq_false h6, if_pos (show r.2 ≠ 0 from h6)]; rfl
     ·rw [decide_eq_false h5, if_pos (show x.1 ≠ (digest p c).1 from h5)]; rfl
    ·rw [decide_eq_false h4, if_pos (show x.2.2 ≠ 0 from h4)]; rfl
  ·rw [decide_eq_false h2, if_pos (show (openB b).2.2 ≠ 0 from h2)]; rfl
 ·rw [decide_eq_false h1, if_pos (show (digest p c).2 ≠ 0 from h1)]; rfl
end Go.Dc.Pl
end
section
set_option linter.all false
namespace Go.Dc.Pl
open Go Go.Hw Go.Dc
theorem valB_uintB (n : Nat) : valB (uintB n) = n := by
 induction n using Nat.strongRecOn with
 | _ n ih =>
  by_cases h : n < 128
  ·rw [uintB_lt h]; simp only [valB, byteN_toNat]; omega
  ·rw [uintB_ge (by omega)]; simp only [valB, byteN_toNat, ih (n / 128) (by omega)]; omega
/-- The shape of a number's encoding. -/
theorem uintB_shape (n : Nat) : ∃ init c, uintB n = init ++ [c] /\ (∀ b ∈ init, ¬ b.toNat < 128) /\ c.toNat < 128 /\ (c.toNat = 0 -> init = []) := by
 induction n using Nat.strongRecOn with
 | _ n ih =>
  by_cases h : n < 128
  ·exact ⟨[], byteN n, by rw [uintB_lt h]; rfl, by simp, by rw [byteN_toNat]; omega, fun _ => rfl⟩
  ·obtain ⟨init, c, e, h1, h2, h3⟩ := ih (n / 128) (by omega)
   refine ⟨byteN (n % 128 + 128) :: init, c, by rw [uintB_ge (by omega), e]; rfl, ?_, h2, fun hc => ?_⟩
   ·intro b hb
    rcases List.mem_cons.1 hb with rfl | hb
    ·rw [byteN_toNat]; omega
    ·exact h1 b hb
   ·have := valB_uintB (n / 128)
    rw [e, h3 hc] at this
    simp [valB, hc] at this
    omega
theorem lead_init : ∀ (init : List UInt8) (f : Nat) (c : UInt8) (r : List UInt8), (∀ b ∈ init, ¬ b.toNat < 128) -> c.toNat < 128 -> init.length < f -> lead f (init ++ c :: r) = init.length
 | [], f + 1, c, r, _, hc, _ => by simp [lead, hc]
 | b :: init, f + 1, c, r, h, hc, hf => by
  have hb := h b (by simp)
  rw [List.cons_append, lead, if_neg hb, lead_init init f c r (fun x hx => h x (by simp [hx])) hc (by simpa using hf)]; rfl
theorem dec_uintB {n : Nat} (hn : n <= 4611686018427387904) (r : List UInt8) : dec (uintB n ++ r) = (n, (uintB n).length, 0) := by
 obtain ⟨init, c, e, h1, h2, h3⟩ := uintB_shape n
 have hl := uintB_le9 hn
 have hv := valB_uintB n
 rw [e] at hl hv ⊢
 have hk : init.length <= 8 := by simp at hl; omega
 have hld : lead 9 (init ++ [c] ++ r) = init.length := by
  rw [List.append_assoc]; exact lead_init init 9 c r h1 h2 (by omega)
 unfold dec
 simp only [hld]
 have g1 : (init ++ [c] ++ r).getD init.length 0 = c := by simp
 have g2 : (init ++ [c] ++ r).take (init.length + 1) = init ++ [c] := by
  rw [List.take_append_of_le_length (by simp), List.take_of_length_le (by simp)]
 rw [if_neg (by omega), if_neg (by simp), g1, g2, hv, if_neg (by rintro ⟨hc, hp⟩; rw [h3 hc] at hp; simp at hp), if_neg (by omega)]
 simp
theorem uintB_valB : ∀ (init : List UInt8) (c : UInt8), (∀ b ∈ init, ¬ b.toNat < 128) -> c.toNat < 128 -> (c.toNat = 0 -> init = []) -> uintB (valB (init ++ [c])) = init ++ [c]
 | [], c, _, hc, _ => by
  have : valB ([] ++ [c]) = c.toNat := by simp [valB]; omega
  rw [this, uintB_lt hc]
  simp only [List.nil_append, List.cons.injEq, and_true]
  apply UInt8.toNat_inj.1
  rw [byteN_toNat]; omega
 | b :: init, c, h, hc, h0 => by
  have hb := h b (by simp)
  have hb2 := b.toNat_lt
  have hc0 : 0 < c.toNat := by
   rcases Nat.eq_zero_or_pos c.toNat with e | e
   ·have := h0 e; simp at this
   ·exact e
  have ih := uintB_valB init c (fun x hx => h x (by simp [hx])) hc (fun e => by omega)
  have hv : 0 < valB (init ++ [c]) := by
   rw [valB_snoc]
   have : 0 < 128 ^ init.length * (c.toNat % 128) := Nat.mul_pos (Nat.pow_pos (by omega)) (by omega)
   omega
  have e : valB (b :: init ++ [c]) = b.toNat % 128 + 128 * valB (init ++ [c]) := rfl
  rw [e, uintB_ge (by omega)]
  have e1 : (b.toNat % 128 + 128 * valB (init ++ [c])) / 128 = valB (init ++ [c]) := by omega
  have e2 : (b.toNat % 128 + 128 * valB (init ++ [c])) % 128 + 128 = b.toNat := by omega
  rw [e1, e2, ih]
  have : byteN b.toNat = b := by apply UInt8.toNat_inj.1; rw [byteN_toNat]; omega
  rw [this]; rfl
theorem lead_ge : ∀ (f : Nat) (l : List UInt8), ∀ b ∈ l.take (lead f l), ¬ b.toNat < 128
 | 0, l, b, hb => by simp [lead] at hb
 | f + 1, [], b, hb => by simp at hb
 | f + 1, x :: l, b, hb => by
  rw [lead] at hb
  split at hb
  ·simp at hb
  ·rename_i hx
   simp only [List.take_succ_cons, List.mem_cons] at hb
   rcases hb with rfl | hb
   ·exact hx
   ·exact lead_ge f l b hb
/-- What is decoded is encoded as the same bytes. -/
theorem uintB_dec {l : List UInt8} (h : (dec l).2.2 = 0) : uintB (dec l).1 ++ l.drop (dec l).2.1 = l := by
 have h1 := lead_ge 9 l
 have h2 := lead_lt 9 l
 have h3 := lead_len 9 l
 unfold dec at h ⊢
 simp only at h ⊢
 split at h
 ·simp at h
 ·rename_i e1
  split at h
  ·simp at h
  ·rename_i e2
   split at h
   ·simp at h
   ·rename_i e3
    split at h
    ·simp at h
    ·rename_i e4
     rw [if_neg e1, if_neg e2, if_neg e3, if_neg e4]
     simp only
     have hk : lead 9 l < l.length := by omega
     have h2 := h2 e1 e2
     generalize lead 9 l = k at *
     have ht : l.take (k + 1) = l.take k ++ [l[k]] := List.take_succ_eq_append_getElem hk
     have hg : l.getD k 0 = l[k] := by rw [List.getD_eq_getElem?_getD, List.getElem?_eq_getElem hk]; rfl
     rw [hg] at h2 e3
     rw [ht, uintB_valB _ _ h1 h2 (fun hc => ?_), <- ht, List.take_append_drop]
     have : k = 0 := by
      rcases Nat.eq_zero_or_pos k with e | e
      ·exact e
      ·exact absurd ⟨hc, e⟩ e3
     subst this; simp
theorem intCode_decInt {l : List UInt8} (h : (decInt l).2.2 = 0) : intCode (decInt l).1 = (dec l).1 /\ (dec l).2.2 = 0 /\ (decInt l).2.1 = (dec l).2.1 := by
 unfold decInt at h ⊢
 simp only at h ⊢
 split at h
 ·rename_i hc; exact (hc h).elim
 ·rename_i hc
  rw [if_neg hc]
  refine ⟨?_, by simpa using hc, ?_⟩
  ·split <;> (simp only [intCode]; split <;> omega)
  ·split <;> rfl
theorem uintB_decInt {l : List UInt8} (h : (decInt l).2.2 = 0) : uintB (intCode (decInt l).1) ++ l.drop (decInt l).2.1 = l := by
 obtain ⟨h1, h2, h3⟩ := intCode_decInt h
 rw [h1, h3, uintB_dec h2]
theorem encInts_dec : ∀ (n : Nat) {l : List UInt8}, (decInts n l).2.2 = 0 -> encInts (decInts n l).1 ++ (decInts n l).2.1 = l /\ (decInts n l).1.length = n /\ (decInts n l).1.all inR = true
 | 0, l, _ => by simp [decInts, encInts]
 | n + 1, l, h => by
  rw [decInts] at h ⊢
  simp only at h ⊢
  split at h
  ·rename_i hc; exact (hc h).elim
  ·rename_i hc
   rw [if_neg hc]
   have hc0 : (decInt l).2.2 = 0 := by simpa using hc
   split at h
   ·rename_i h2; exact (h2 h).elim
   ·rename_i h2
    rw [if_neg h2]
    obtain ⟨i1, i2, i3⟩ := encInts_dec n (l := l.drop (decInt l).2.1) (by simpa using h2)
    refine ⟨?_, by simp [i2], by rw [List.all_cons, decInt_bound hc0, i3]; rfl⟩
    show uintB _ ++ encInts _ ++ _ = _
    rw [List.append_assoc, i1, uintB_decInt hc0]
theorem decInt_uintB {n : Int} (hn : inR n = true) (r : List UInt8) : decInt (uintB (intCode n) ++ r) = (n, (uintB (intCode n)).length, 0) := by
 have hd := dec_uintB (intCode_le hn) r
 unfold decInt
 simp only [hd]
 rw [if_neg (by simp)]
 unfold intCode
 by_cases h0 : 0 <= n
 ·rw [if_pos h0, if_pos (by omega)]
  have : (((2 * n).toNat / 2 : Nat) : Int) = n := by omega
  rw [this]
 ·rw [if_neg h0, if_neg (by omega)]
  have : (-(((-2 * n - 1).toNat / 2 : Nat) + 1 : Int)) = n := by omega
  rw [this]
theorem decInts_encInts : ∀ (l : List Int) (r : List UInt8), l.all inR = true -> decInts l.length (encInts l ++ r) = (l, r, 0)
 | [], r, _ => rfl
 | n :: l, r, h => by
  simp only [List.all_cons, Bool.and_eq_true] at h
  have e : encInts (n :: l) ++ r = uintB (intCode n) ++ (encInts l ++ r) := by simp [encInts]
  rw [e, List.length_cons, decInts]
  simp only [decInt_uintB h.1]
  rw [if_neg (by simp), List.drop_left, decInts_encInts l r h.2]
  simp
theorem openB_app {p : List UInt8} (hp : p.length <= 100000000) (r : List UInt8) : openB (sealB p ++ r) = (p, r, 0) := by
 have hn : p.length <= 4611686018427387904 := by omega
 have e : sealB p ++ r = uintB p.length ++ (p ++ (sumB (crc (uintB p.length ++ p)) ++ r)) := by simp [sealB]
 have hd := dec_uintB hn (p ++ (sumB (crc (uintB p.length ++ p)) ++ r))
 rw [openB, e]
 simp only [hd]
 rw [if_neg (by simp), if_neg (by simp [sumB]; omega)]
 have e2 : uintB p.length ++ (p ++ (sumB (crc (uintB p.length ++ p)) ++ r)) = (uintB p.length ++ p) ++ (sumB (crc (uintB p.length ++ p)) ++ r) := by simp
 have e3 : (uintB p.length).length + p.length = (uintB p.length ++ p).length := by simp
 rw [e2, e3, List.drop_left, List.take_left]
 have e4 : (sumB (crc (uintB p.length ++ p)) ++ r).take 4 = sumB (crc (uintB p.length ++ p)) := by
  rw [List.take_append_of_le_length (by simp [sumB]), List.take_of_length_le (by simp [sumB])]
 have e6 : (uintB p.length ++ p ++ (sumB (crc (uintB p.length ++ p)) ++ r)).drop (uintB p.length).length = p ++ (sumB (crc (uintB p.length ++ p)) ++ r) := by rw [List.append_assoc, List.drop_left]
 rw [e4, if_pos rfl, e6, List.take_left]
 have e5 : ((uintB p.length ++ p) ++ (sumB (crc (uintB p.length ++ p)) ++ r)).drop ((uintB p.length ++ p).length + 4) = r := by
  rw [<- List.drop_drop, List.drop_left]; rfl
 rw [e5]
theorem app_openB {l : List UInt8} (h : (openB l).2.2 = 0) : sealB (openB l).1 ++ (openB l).2.1 = l := by
 unfold openB at h ⊢
 split at h
 ·rename_i hc; exact (hc h).elim
 ·rename_i hc
  rw [if_neg hc]
  have hd0 : (dec l).2.2 = 0 := by simpa using hc
  have hs := dec_size hd0
  have hu := uintB_dec hd0
  split at h
  ·simp at h
  ·rename_i h2
   rw [if_neg h2]
   split at h
   ·rename_i h3
    rw [if_pos h3]
    simp only
    generalize hk : (dec l).2.1 = k at *
    generalize hn : (dec l).1 = n at *
    have hkl : (uintB n).length = k := by
     have := congrArg List.length hu
     simp at this; omega
    have hp : ((l.drop k).take n).length = n := by simp; omega
    have ht : uintB n ++ (l.drop k).take n = l.take (k + n) := by
     have := congrArg (fun x => x.take (k + n)) hu
     simp only [List.take_append, hkl] at this
     rw [List.take_of_length_le (by omega), show k + n - k = n by omega] at this
     exact this
    rw [sealB, hp, ht, <- h3]
    have e9 : l.drop (k + n + 4) = (l.drop (k + n)).drop 4 := by rw [List.drop_drop]
    rw [e9, List.append_assoc, List.take_append_drop, List.take_append_drop]
   ·simp at h
/-! Readers. -/
theorem rdU_app {n : Nat} (h : n <= 4611686018427387904) (r : List UInt8) : rdU (uintB n ++ r, 0) = ((n : Int), (r, 0)) := by
 have hd := dec_uintB h r
 show uintR _ = _
 unfold uintR
 simp only [hd, List.drop_left]; rfl
theorem rdI_app {n : Int} (h : inR n = true) (r : List UInt8) : rdI (uintB (intCode n) ++ r, 0) = (n, (r, 0)) := by
 have hd := decInt_uintB h r
 show intR _ = _
 unfold intR
 simp only [hd, List.drop_left]; rfl
theorem rdL_app {l : List Int} (hl : l.length <= 2048) (h : l.all inR = true) (r : List UInt8) : rdL (uintB l.length ++ encInts l ++ r, 0) = (l, (r, 0)) := by
 have hd := dec_uintB (n := l.length) (by omega) (encInts l ++ r)
 show intsR 2048 _ = _
 unfold intsR
 rw [List.append_assoc, hd]
 simp only []
 rw [if_neg (by simp), if_neg (by simp; omega), List.drop_left, decInts_encInts l r h]
theorem rdU_inv {r : Rd} (h : (rdU r).2.2 = 0) : r.2 = 0 /\ r.1 = uintB (rdU r).1.toNat ++ (rdU r).2.1 := by
 unfold rdU at h ⊢
 by_cases h0 : r.2 = 0
 ·rw [if_pos h0] at h ⊢
  refine ⟨h0, ?_⟩
  unfold uintR at h ⊢
  by_cases e : (dec r.1).2.2 = 0
  ·rw [if_pos e]
   exact (uintB_dec e).symm
  ·rw [if_neg e] at h; exact (e h).elim
 ·rw [if_neg h0] at h; exact (h0 h).elim
theorem rdI_inv {r : Rd} (h : (rdI r).2.2 = 0) : r.2 = 0 /\ r.1 = uintB (intCode (rdI r).1) ++ (rdI r).2.1 := by
 unfold rdI at h ⊢
 by_cases h0 : r.2 = 0
 ·rw [if_pos h0] at h ⊢
  refine ⟨h0, ?_⟩
  unfold intR at h ⊢
  by_cases e : (decInt r.1).2.2 = 0
  ·rw [if_pos e]
   exact (uintB_decInt e).symm
  ·rw [if_neg e] at h; exact (e h).elim
 ·rw [if_neg h0] at h; exact (h0 h).elim
theorem rdL_inv {r : Rd} (h : (rdL r).2.2 = 0) : r.2 = 0 /\ r.1 = uintB (rdL r).1.length ++ encInts (rdL r).1 ++ (rdL r).2.1 := by
 unfold rdL at h ⊢
 by_cases h0 : r.2 = 0
 ·rw [if_pos h0] at h ⊢
  refine ⟨h0, ?_⟩
  unfold intsR at h ⊢
  by_cases e : (dec r.1).2.2 = 0
  ·rw [if_neg (fun x : (dec r.1).2.2 ≠ 0 => x e)] at h ⊢
   by_cases h2 : (if 0 > (2048 : Int) then 0 else (2048 : Int)) < ((dec r.1).1 : Int)
   ·rw [if_pos h2] at h; simp at h
   ·rw [if_neg h2] at h ⊢
    obtain ⟨i1, i2, i3⟩ := encInts_dec _ h
    rw [i2, List.append_assoc, i1, uintB_dec e]
  ·rw [if_pos (show (dec r.1).2.2 ≠ 0 from e)] at h; exact (e h).elim
 ·rw [if_neg h0] at h; exact (h0 h).elim
/-! Trees. -/
theorem trL_app {F : Rd -> List Tree × Rd} {m : Nat} (hF : ∀ (l : List Tree) (r : List UInt8), shal m l = true -> (∀ k, wid 1000000000 k l) -> F (encT m l ++ r, 0) = (l, (r, 0))) :
  ∀ (l : List Tree) (r : List UInt8) (acc : List Tree), (∀ k ∈ l, agentOk k.Agent = true /\ shal m k.Kids = true /\ ∀ j, wid 1000000000 j k.Kids) ->
   trL F l.length ((l.flatMap fun k => uintB (intCode k.Agent) ++ encT m k.Kids) ++ r, 0) acc = (acc ++ l, (r, 0))
 | [], r, acc, _ => by simp [trL]
 | x :: l, r, acc, h => by
  obtain ⟨h1, h2, h3⟩ := h x (by simp)
  rw [List.length_cons, trL, if_pos rfl, List.flatMap_cons, List.append_assoc, List.append_assoc, rdI_app (agent_inR h1)]
  simp only []
  rw [hF x.Kids _ h2 h3]
  simp only []
  rw [trL_app hF l r _ (fun k hk => h k (by simp [hk]))]
  have hx : (⟨x.Agent, x.Kids⟩ : Tree) = x := by cases x; rfl
  rw [hx]; simp
theorem tr_app : ∀ (m : Nat) (l : List Tree) (r : List UInt8), shal m l = true -> (∀ k, wid 1000000000 k l) -> tr m (encT m l ++ r, 0) = (l, (r, 0))
 | 0, l, r, hs, _ => by
  simp only [shal, decide_eq_true_eq, List.length_eq_zero_iff] at hs
  subst hs
  rw [tr, encT, rdU_app (by simp)]
  have : deep 0 (((([] : List Tree).length : Nat) : Int), (r, 0)) = (r, 0) := by unfold deep; rw [if_neg (fun h => by have := h.2.1; simp at this)]
  rw [this]; rfl
 | m + 1, l, r, hs, hw => by
  rw [shal, List.all_eq_true] at hs
  have hl : l.length <= 1000000000 := (hw 1).1
  rw [tr, encT, List.append_assoc, rdU_app (by omega)]
  have : deep (m + 1) (((l.length : Nat) : Int), ((l.flatMap fun k => uintB (intCode k.Agent) ++ encT m k.Kids) ++ r, 0)) = ((l.flatMap fun k => uintB (intCode k.Agent) ++ encT m k.Kids) ++ r, 0) := by unfold deep; rw [if_neg (fun h => by omega)]
  rw [this]
  simp only [Int.toNat_natCast]
  rw [trL_app (tr_app m) l r [] (fun k hk => by
   have := hs k hk
   rw [Bool.and_eq_true] at this
   exact ⟨this.1, this.2, fun j => (hw (j + 1)).2 k hk⟩)]
  simp
theorem trL_inv {F : Rd -> List Tree × Rd} {m : Nat} (hF : ∀ r, (F r).2.2 = 0 -> r.2 = 0 /\ r.1 = encT m (F r).1 ++ (F r).2.1) :
  ∀ (rem : Nat) (r : Rd) (acc : List Tree), (trL F rem r acc).2.2 = 0 -> r.2 = 0 /\ ∃ l, (trL F rem r acc).1 = acc ++ l /\ l.length = rem /\ r.1 = (l.flatMap fun k => uintB (intCode k.Agent) ++ encT m k.Kids) ++ (trL F rem r acc).2.1
 | 0, r, acc, h => ⟨h, [], by simp [trL]⟩
 | rem + 1, r, acc, h => by
  rw [trL] at h ⊢
  by_cases h0 : r.2 = 0
  ·rw [if_pos h0] at h ⊢
   obtain ⟨g1, l, g2, g3, g4⟩ := trL_inv hF rem _ _ h
   obtain ⟨f1, f2⟩ := hF _ g1
   obtain ⟨i1, i2⟩ := rdI_inv f1
   refine ⟨h0, ⟨(rdI r).1, (F (rdI r).2).1⟩ :: l, by rw [g2]; simp, by simp [g3], ?_⟩
   rw [i2, f2, g4, List.flatMap_cons]; simp
  ·rw [if_neg h0] at h; exact (h0 h).elim
theorem deep_inv {m : Nat} {x : Int × Rd} (h : (deep m x).2 = 0) : deep m x = x.2 /\ (m = 0 -> x.2.2 = 0 -> x.1 <= 0) := by
 unfold deep at h ⊢
 by_cases hc : x.2.2 = 0 /\ 0 < x.1 /\ m = 0
 ·rw [if_pos hc] at h; simp at h
 ·rw [if_neg hc]; exact ⟨rfl, fun hm he => by omega⟩
theorem tr_inv : ∀ (m : Nat) (r : Rd), (tr m r).2.2 = 0 -> r.2 = 0 /\ r.1 = encT m (tr m r).1 ++ (tr m r).2.1
 | 0, r, h => by
  rw [tr] at h ⊢
  have hn := rdU_nn r
  by_cases he : (deep 0 (rdU r)).2 = 0
  ·obtain ⟨d1, d2⟩ := deep_inv he
   rw [d1] at he h ⊢
   have := d2 rfl he
   have e0 : (rdU r).1.toNat = 0 := by omega
   obtain ⟨i1, i2⟩ := rdU_inv he
   rw [e0] at i2 ⊢
   exact ⟨i1, i2⟩
  ·exfalso
   cases hr : (rdU r).1.toNat with
   | zero => rw [hr] at h; exact he h
   | succ k => rw [hr, trL, if_neg he] at h; exact he h
 | m + 1, r, h => by
  rw [tr] at h ⊢
  obtain ⟨g1, l, g2, g3, g4⟩ := trL_inv (tr_inv m) _ _ _ h
  obtain ⟨d1, _⟩ := deep_inv g1
  rw [d1] at g1 g2 g4 h ⊢
  obtain ⟨i1, i2⟩ := rdU_inv g1
  refine ⟨i1, ?_⟩
  rw [i2, g4, g2, encT, List.nil_append, g3]; simp
/-! Frames. -/
theorem frL_app : ∀ (l : List Frame) (r : List UInt8) (acc : List Frame), (∀ g ∈ l, validF g = true /\ ∀ k, wid 1000000000 k g.Tree.Kids) -> frL l.length (l.flatMap encF ++ r, 0) acc = (acc ++ l, (r, 0))
 | [], r, acc, _ => by simp [frL]
 | x :: l, r, acc, h => by
  obtain ⟨h1, h2⟩ := h x (by simp)
  obtain ⟨v1, v2, v3, v4, v5⟩ := validF_t h1
  have e : (x :: l).flatMap encF ++ r = uintB (intCode x.Agent) ++ (uintB x.Sleep.length ++ encInts x.Sleep ++ (encT 512 x.Tree.Kids ++ (l.flatMap encF ++ r))) := by
   rw [List.flatMap_cons, encF]; simp
  rw [List.length_cons, frL, if_pos rfl, e, rdI_app (agent_inR v1)]
  simp only []
  rw [rdL_app v2 v3]
  simp only []
  rw [tr_app 512 _ _ v4 h2]
  simp only []
  rw [frL_app l r _ (fun g hg => h g (by simp [hg]))]
  have h0 : x.Tree.Agent = 0 := by
   unfold wakeOk at v5
   rw [Bool.and_eq_true, eqI_d, decide_eq_true_eq] at v5
   exact v5.1
  have : (⟨x.Agent, x.Sleep, ⟨0, x.Tree.Kids⟩⟩ : Frame) = x := by
   obtain ⟨a, s, ⟨t, k⟩⟩ := x
   simp only at h0; subst h0; rfl
  rw [this]; simp
theorem frL_inv : ∀ (rem : Nat) (r : Rd) (acc : List Frame), (frL rem r acc).2.2 = 0 -> r.2 = 0 /\ ∃ l, (frL rem r acc).1 = acc ++ l /\ l.length = rem /\ r.1 = l.flatMap encF ++ (frL rem r acc).2.1
 | 0, r, acc, h => ⟨h, [], by simp [frL]⟩
 | rem + 1, r, acc, h => by
  rw [frL] at h ⊢
  by_cases h0 : r.2 = 0
  ·rw [if_pos h0] at h ⊢
   obtain ⟨g1, l, g2, g3, g4⟩ := frL_inv rem _ _ h
   obtain ⟨f1, f2⟩ := tr_inv 512 _ g1
   obtain ⟨s1, s2⟩ := rdL_inv f1
   obtain ⟨i1, i2⟩ := rdI_inv s1
   refine ⟨h0, ⟨(rdI r).1, (rdL (rdI r).2).1, ⟨0, (tr 512 (rdL (rdI r).2).2).1⟩⟩ :: l, by rw [g2]; simp, by simp [g3], ?_⟩
   rw [i2, s2, f2, g4, List.flatMap_cons, encF]; simp
  ·rw [if_neg h0] at h; exact (h0 h).elim
/-! Snapshots. -/
theorem snapR_app {s : Snapshot} (hv : validS s = true) (hw : ∀ g ∈ s.Frames, ∀ k, wid 1000000000 k g.Tree.Kids) :
  snapR (uintB (if s.Done then 1 else 0) ++ uintB s.Count.toNat ++ uintB s.Blocked.toNat ++ uintB s.Frames.length ++ s.Frames.flatMap encF, 0) = ((if s.Done then 1 else 0), s, ([], 0)) := by
 obtain ⟨c1, c2, c3, c4, c5, c6⟩ := validS_t hv
 unfold snapR
 simp only [List.append_assoc]
 rw [rdU_app (by split <;> omega)]
 simp only []
 rw [rdU_app (by omega)]
 simp only []
 rw [rdU_app (by omega)]
 simp only []
 rw [rdU_app (by omega)]
 simp only [Int.toNat_natCast]
 have hm : many (((s.Frames.length : Nat) : Int), (s.Frames.flatMap encF, 0)) = (s.Frames.flatMap encF ++ [], 0) := by
  unfold many; rw [if_neg (fun h => by have := h.2; simp at this; omega)]; simp
 rw [hm, frL_app s.Frames [] [] (fun g hg => ⟨c6 g hg, hw g hg⟩)]
 have e1 : ((s.Count.toNat : Nat) : Int) = s.Count := by omega
 have e2 : ((s.Blocked.toNat : Nat) : Int) = s.Blocked := by omega
 rw [e1, e2]
 obtain ⟨fr, d, c, b⟩ := s
 cases d <;> rfl
theorem decode_encode {dg : Int × Int} {s : Snapshot} (hd : 0 <= dg.1 /\ dg.1 < 4294967296) (h0 : dg.2 = 0) (hv : validS s = true) (hw : ∀ g ∈ s.Frames, ∀ k, wid 1000000000 k g.Tree.Kids) (hl : (payB dg.1 s).length <= 100000000) :
  decodeB dg (sealB (payB dg.1 s)) = (s, 0) := by
 have ho := openB_app hl []
 rw [List.append_nil] at ho
 have hp : payB dg.1 s = uintB dg.1.toNat ++ (uintB (if s.Done then 1 else 0) ++ uintB s.Count.toNat ++ uintB s.Blocked.toNat ++ uintB s.Frames.length ++ s.Frames.flatMap encF) := by unfold payB; simp
 have hu := rdU_app (n := dg.1.toNat) (by omega) (uintB (if s.Done then 1 else 0) ++ uintB s.Count.toNat ++ uintB s.Blocked.toNat ++ uintB s.Frames.length ++ s.Frames.flatMap encF)
 rw [<- hp] at hu
 unfold decodeB
 rw [if_neg (fun h : dg.2 ≠ 0 => h h0), ho]
 simp only []
 rw [if_neg (by simp), if_neg (by simp), hu]
 simp only []
 rw [if_neg (by simp), if_neg (by omega), snapR_app hv hw]
 simp only []
 rw [if_neg (by simp), if_neg]
 rintro (h | h | h)
 ·split at h <;> omega
 ·simp at h
 ·rw [hv] at h; cases h
theorem encode_decode {dg : Int × Int} {b : List UInt8} (hd : 0 <= dg.1 /\ dg.1 < 4294967296) (h : (decodeB dg b).2 = 0) :
  dg.2 = 0 /\ validS (decodeB dg b).1 = true /\ sealB (payB dg.1 (decodeB dg b).1) = b := by
 unfold decodeB at h ⊢
 by_cases h0 : dg.2 = 0
 ·rw [if_neg (fun x : dg.2 ≠ 0 => x h0)] at h ⊢
  by_cases h1 : (openB b).2.2 = 0
  ·rw [if_neg (fun x : (openB b).2.2 ≠ 0 => x h1)] at h ⊢
   by_cases h2 : 0 < (openB b).2.1.length
   ·rw [if_pos h2] at h; simp at h
   ·rw [if_neg h2] at h ⊢
    by_cases h3 : (rdU ((openB b).1, 0)).2.2 = 0
    ·rw [if_neg (fun x : (rdU ((openB b).1, 0)).2.2 ≠ 0 => x h3)] at h ⊢
     by_cases h4 : (rdU ((openB b).1, 0)).1 = dg.1
     ·rw [if_neg (fun x : (rdU ((openB b).1, 0)).1 ≠ dg.1 => x h4)] at h ⊢
      by_cases h5 : (snapR (rdU ((openB b).1, 0)).2).2.2.2 = 0
      ·rw [if_neg (fun x : (snapR (rdU ((openB b).1, 0)).2).2.2.2 ≠ 0 => x h5)] at h ⊢
       by_cases h6 : 1 < (snapR (rdU ((openB b).1, 0)).2).1 \/ 0 < (snapR (rdU ((openB b).1, 0)).2).2.2.1.length \/ validS (snapR (rdU ((openB b).1, 0)).2).2.1 = false
       ·rw [if_pos h6] at h; simp at h
       ·rw [if_neg h6]
        have hv : validS (snapR (rdU ((openB b).1, 0)).2).2.1 = true := by
         cases hv : validS (snapR (rdU ((openB b).1, 0)).2).2.1 with
         | true => rfl
         | false => exact (h6 (.inr (.inr hv))).elim
        refine ⟨h0, hv, ?_⟩
        have hb := app_openB h1
        have hr : (openB b).2.1 = [] := List.length_eq_zero_iff.1 (by omega)
        rw [hr, List.append_nil] at hb
        conv => rhs; rw [<- hb]
        congr 1
        obtain ⟨u1, u2⟩ := rdU_inv h3
        simp only [] at u2
        rw [h4] at u2
        generalize hR : (rdU ((openB b).1, 0)).2 = R at u2 h3 h5 h6 hv ⊢
        rw [u2]
        -- the snapshot's own bytes
        have hsn : (snapR R).2.2.1 = [] := List.length_eq_zero_iff.1 (by omega)
        unfold snapR at h5 h6 hsn hv ⊢
        simp only [] at h5 h6 hsn hv ⊢
        obtain ⟨f1, l, f2, f3, f4⟩ := frL_inv _ _ _ h5
        have hmany : many (rdU (rdU (rdU (rdU R).2).2).2) = (rdU (rdU (rdU (rdU R).2).2).2).2 := by
         unfold many at f1 ⊢
         by_cases hc : (rdU (rdU (rdU (rdU R).2).2).2).2.2 = 0 /\ 512 < (rdU (rdU (rdU (rdU R).2).2).2).1
         ·rw [if_pos hc] at f1; simp at f1
         ·rw [if_neg hc]
        rw [hmany] at f1 f2 f4 hsn h5 hv ⊢
        obtain ⟨n1, n2⟩ := rdU_inv f1
        obtain ⟨b1, b2⟩ := rdU_inv n1
        obtain ⟨c1, c2⟩ := rdU_inv b1
        obtain ⟨d1, d2⟩ := rdU_inv c1
        have hdn := rdU_nn R
        have hdone : (if eqI (rdU R).1 1 = true then 1 else 0 : Nat) = (rdU R).1.toNat := by
         have : ¬ 1 < (rdU R).1 := fun x => h6 (.inl x)
         rw [eqI_d]
         by_cases e : (rdU R).1 = 1
         ·rw [decide_eq_true e, if_pos rfl, e]; rfl
         ·rw [decide_eq_false e, if_neg (by simp)]; omega
        unfold payB
        simp only []
        rw [hdone, f2, List.nil_append, f3, d2, c2, b2, n2, f4, hsn]
        simp
      ·rw [if_pos (show (snapR (rdU ((openB b).1, 0)).2).2.2.2 ≠ 0 from h5)] at h; exact (h5 h).elim
     ·rw [if_pos (show (rdU ((openB b).1, 0)).1 ≠ dg.1 from h4)] at h; simp at h
    ·rw [if_pos (show (rdU ((openB b).1, 0)).2.2 ≠ 0 from h3)] at h; exact (h3 h).elim
  ·rw [if_pos (show (openB b).2.2 ≠ 0 from h1)] at h; exact (h1 h).elim
 ·rw [if_pos (show dg.2 ≠ 0 from h0)] at h; exact (h0 h).elim
end Go.Dc.Pl
end
section
set_option linter.all false
namespace Go.Dc
open Go Go.Hw Go.Proofs
set_option maxRecDepth 100000
def r02_Ints_L1 (a1 : List Int) : List Int -> Nat -> Option (Unit ⊕ Bool)
 | [], k76 => some (.inl ())
 | x102 :: q98, k76 => Option.bind (a1[k76]?) (fun x109 => cond (!(eqI x102 x109)) (some (.inr false)) (r02_Ints_L1 a1 q98 (k76 + 1)))
def r02_Ints (a0 : List Int) (a1 : List Int) : Option Bool :=
 cond (!(eqI ((a0.length : Nat) : Int) ((a1.length : Nat) : Int))) (some false) (Option.bind (α := Unit ⊕ Bool) (Option.bind (r02_Ints_L1 a1 a0 0) (fun o => match o with | .inl _ => some (.inl ()) | .inr r113 => some (.inr r113))) (fun o => match o with | .inl _ => some true | .inr r114 => some r114))
set_option maxHeartbeats 2000000 in
theorem at_r02_Ints {a0 : List Int} {a1 : List Int} {r : Bool} (hs : r02_Ints a0 a1 = some r) : At Tryd.prog 38 [.cell (sC a0), .cell (sC a1)] (bV r) := by
 refine at_bound (by kernel_rfl) fun hb => ?_
 have hb1 : LenOk (.sl a0.length (encL a0)) := lkc hb
 have hb2 : LenOk (.sl a1.length (encL a1)) := lkc hb
 refine at_code mixed Tryd.func38 (by kernel_rfl) rfl (by kernel_rfl) rfl fun Q hQ => ?_
 rw [r02_Ints] at hs
 refine goR f0 ?_
 revert hs; refine cS f0 ?_ ?_ <;> intro h1 hs
 ·refine goR f0 ?_
  obtain rfl := sj hs
  exact hQ _ _ (rg f0 (Gh.refl _))
 ·refine goR2 f0 ?_
  revert hs; refine bK fun o57 e56 hs => ?_
  refine awp_cutK (fun (v : Unit) (σ : St) => some (.inl v) = some o57 /\ 3 <= σ.gen) (by rfl) (fun Q hK58 hX59 => ?_) (fun v σ3 hp => ?_)
  ·refine goR f0 ?_
   revert e56; refine bK fun o93 e92 e56 => ?_
   refine awp_loopW (fun (v : (List Int) × Nat) (σ : St) => r02_Ints_L1 a1 v.1 v.2 = some o93 /\ v.1 = a0.drop v.2 /\ σ.env 0 = .cell (sC a0) /\ σ.env 1 = .cell (sC a1) /\ σ.env 5 = iV .i64 ((v.2 : Nat) : Int) /\ 3 <= σ.gen) (fun v => v.1.length) _ (Gh.refl _) (a0, 0) ⟨e92, by simp, pv f0, pv f0, pv f0, pg⟩ fun v σ6 hp L94 hL95 => ?_
   obtain ⟨q97, k76⟩ := v
   dsimp only at hp hL95
   obtain ⟨e92, hd96, h5_0, h5_1, h5_5, n5_g⟩ := hp
   rcases q97 with _ | ⟨x102, q98⟩
   ·have hlt99 := drop_end hd96
    rw [r02_Ints_L1] at e92; try dsimp only at e92
    have F1 := an h5_0 (an h5_1 h5_5)
    refine goR F1 ?_
    refine condK_f (by simp [ltI]; omega) ?_
    obtain rfl := sj e92
    try dsimp only at e56
    exact hK58 () _ _ (Gh.refl _) ⟨e56, pg⟩
   ·obtain ⟨hx101, hlt99, hd103⟩ := drop_next hd96
    have ew100 := wrap_succ hlt99 (hb1).len
    rw [r02_Ints_L1] at e92; try dsimp only at e92
    have F2 := an h5_0 (an h5_1 (an h5_5 (an hlt99 ew100)))
    refine goR F2 ?_
    refine condK_t (by simp [ltI]; omega) ?_
    have f108 : partCV Tryd.prog 3 (encL a0) (k76) = some (iV .i64 x102) := partCV_enc1 hx101 (by simp)
    revert e92; refine bK fun x109 hx110 e92 => ?_
    have hx110b := getN_some hx110
    have f111 : partCV Tryd.prog 3 (encL a1) (k76) = some (iV .i64 x109) := partCV_enc1 hx110 (by simp)
    have F3 := an F2 (an f108 f111)
    refine goD F3 ?_
    revert e92; refine cS F3 ?_ ?_ <;> intro h112 e92
    ·refine goD F3 ?_
     obtain rfl := sj e92
     try dsimp only at e56
     obtain rfl := sj e56
     try dsimp only at hs
     refine hX59 _ _ (by simp) ?_
     refine goD F3 ?_
     obtain rfl := sj hs
     exact hQ _ _ (rg F3 (Gh.refl _))
    ·refine goD F3 ?_
     exact hL95 (q98, (k76 + 1)) _ _ (Gh.refl _) ⟨e92, hd103, pv F3, pv F3, pv F3, pg⟩ (by simp)
  ·obtain ⟨e56, n4_g⟩ := hp
   obtain rfl := sj e56
   try dsimp only at hs
   refine goR f0 ?_
   obtain rfl := sj hs
   exact hQ _ _ (rg f0 (Gh.refl _))
end Go.Dc
end
section
set_option linter.all false
namespace Go.Dc
open Go Go.Hw Go.Proofs
set_option maxRecDepth 100000
def r33_Equal_L1 (a1 : Tree) (rF39z : Tree -> Tree -> Option Bool) : List Tree -> Nat -> Option (Unit ⊕ Bool)
 | [], k92 => some (.inl ())
 | x122 :: q118, k92 => Option.bind (a1.Kids[k92]?) (fun x131 => Option.bind (rF39z x122 x131) (fun y134 => cond (!y134) (some (.inr false)) (r33_Equal_L1 a1 rF39z q118 (k92 + 1))))
def r33_Equal_B (rF39z : Tree -> Tree -> Option Bool) (a0 : Tree) (a1 : Tree) : Option Bool :=
 cond (orB (!(eqI a0.Agent a1.Agent)) (!(eqI ((a0.Kids.length : Nat) : Int) ((a1.Kids.length : Nat) : Int)))) (some false) (Option.bind (α := Unit ⊕ Bool) (Option.bind (r33_Equal_L1 a1 rF39z a0.Kids 0) (fun o => match o with | .inl _ => some (.inl ()) | .inr r137 => some (.inr r137))) (fun o => match o with | .inl _ => some true | .inr r138 => some r138))
def r33_Equal : Nat -> Tree -> Tree -> Option Bool
 | 0 => fun _ _ => none
 | fuelN + 1 => fun a0 a1 => r33_Equal_B (r33_Equal fuelN) a0 a1
set_option maxHeartbeats 2000000 in
theorem at_r33_Equal_B {rF39z : Tree -> Tree -> Option Bool} (ihrF39z : ∀ (a0 : Tree) (a1 : Tree) (r : Bool), rF39z a0 a1 = some r -> At Tryd.prog 39 [.agg (eA a0), .agg (eA a1)] (bV r)) {a0 : Tree} {a1 : Tree} {r : Bool} (hs : r33_Equal_B rF39z a0 a1 = some r) : At Tryd.prog 39 [.agg (eA a0), .agg (eA a1)] (bV r) := by
 refine at_bound (by kernel_rfl) fun hb => ?_
 have hb1 : LenOk (.sl a0.Kids.length (encL a0.Kids)) := lkc hb
 have hb2 : LenOk (.sl a1.Kids.length (encL a1.Kids)) := lkc hb
 refine at_code mixed Tryd.func39 (by kernel_rfl) rfl (by kernel_rfl) rfl fun Q hQ => ?_
 rw [r33_Equal_B] at hs
 refine goG f0 f0 ?_
 revert hs; refine cS f0 ?_ ?_ <;> intro h1 hs
 ·refine goG f0 f0 ?_
  obtain rfl := sj hs
  exact hQ _ _ (rg f0 (Gh.refl _))
 ·refine goG2 f0 f0 ?_
  revert hs; refine bK fun o69 e68 hs => ?_
  refine awp_cutK (fun (v : Unit) (σ : St) => some (.inl v) = some o69 /\ 3 <= σ.gen) (by rfl) (fun Q hK70 hX71 => ?_) (fun v σ3 hp => ?_)
  ·refine goG f0 f0 ?_
   revert e68; refine bK fun o113 e112 e68 => ?_
   refine awp_loopW (fun (v : (List Tree) × Nat) (σ : St) => r33_Equal_L1 a1 rF39z v.1 v.2 = some o113 /\ v.1 = a0.Kids.drop v.2 /\ σ.env 2 = .cell (.ref (.o 1 0 0) 0) /\ σ.env 3 = .cell (.ref (.o 1 1 0) 0) /\ σ.env 5 = iV .i64 ((v.2 : Nat) : Int) /\ σ.hp (.o 1 0 0) = some (.cells (eA a0)) /\ σ.hp (.o 1 1 0) = some (.cells (eA a1)) /\ 3 <= σ.gen) (fun v => v.1.length) _ (Gh.refl _) (a0.Kids, 0) ⟨e112, by simp, pv f0, pv f0, pv f0, pv f0, pv f0, pg⟩ fun v σ6 hp L114 hL115 => ?_
   obtain ⟨q117, k92⟩ := v
   dsimp only at hp hL115
   obtain ⟨e112, hd116, h5_2, h5_3, h5_5, g5_0, g5_1, n5_g⟩ := hp
   have n5_0 : ¬ (σ6.gen = 0) := by omega
   rcases q117 with _ | ⟨x122, q118⟩
   ·have hlt119 := drop_end hd116
    rw [r33_Equal_L1] at e112; try dsimp only at e112
    have F1 := an h5_2 (an h5_3 (an h5_5 (an g5_0 (an g5_1 n5_0))))
    refine goR F1 ?_
    refine condK_f (by simp [ltI]; omega) ?_
    obtain rfl := sj e112
    try dsimp only at e68
    exact hK70 () _ _ (Gh.refl _) ⟨e68, pg⟩
   ·obtain ⟨hx121, hlt119, hd123⟩ := drop_next hd116
    have ew120 := wrap_succ hlt119 (hb1).len
    rw [r33_Equal_L1] at e112; try dsimp only at e112
    have F2 := an h5_2 (an h5_3 (an h5_5 (an g5_0 (an g5_1 (an n5_0 (an hlt119 ew120))))))
    refine goR F2 ?_
    refine condK_t (by simp [ltI]; omega) ?_
    have f130 : partCV Tryd.prog 77 (encL a0.Kids) (k92 * 2) = some (.agg (eA x122)) := partCV_enc hx121 (f := 0) (by simp)
    revert e112; refine bK fun x131 hx132 e112 => ?_
    have hx132b := getN_some hx132
    have f133 : partCV Tryd.prog 77 (encL a1.Kids) (k92 * 2) = some (.agg (eA x131)) := partCV_enc hx132 (f := 0) (by simp)
    have F3 := an F2 (an f130 f133)
    refine goD F3 ?_
    revert e112; refine bK fun y134 hx135 e112 => ?_
    refine cP F3 (ihrF39z _ _ _ hx135) ?_
    refine goD F3 ?_
    revert e112; refine cS F3 ?_ ?_ <;> intro h136 e112
    ·refine goD F3 ?_
     obtain rfl := sj e112
     try dsimp only at e68
     obtain rfl := sj e68
     try dsimp only at hs
     refine hX71 _ _ (by simp) ?_
     refine goD F3 ?_
     obtain rfl := sj hs
     exact hQ _ _ (rg F3 (Gh.refl _))
    ·refine goD F3 ?_
     exact hL115 (q118, (k92 + 1)) _ _ (Gh.refl _) ⟨e112, hd123, pv F3, pv F3, pv F3, pv F3, pv F3, pg⟩ (by simp)
  ·obtain ⟨e68, n4_g⟩ := hp
   obtain rfl := sj e68
   try dsimp only at hs
   refine goG f0 f0 ?_
   obtain rfl := sj hs
   exact hQ _ _ (rg f0 (Gh.refl _))
theorem at_r33_Equal : ∀ {fuelN : Nat} {a0 : Tree} {a1 : Tree} {r : Bool} (hs : r33_Equal fuelN a0 a1 = some r), At Tryd.prog 39 [.agg (eA a0), .agg (eA a1)] (bV r)
 | 0, _, _, _, hs => by rw [r33_Equal] at hs; cases hs
 | n + 1, _, _, _, hs => by
  rw [r33_Equal] at hs
  exact at_r33_Equal_B (fun _ _ _ h => at_r33_Equal h) hs
end Go.Dc
end
section
set_option linter.all false
namespace Go.Dc
open Go Go.Hw Go.Proofs
set_option maxRecDepth 100000
def r49_Same_L1 (fuelN : Nat) (a1 : Snapshot) : List Frame -> Nat -> Option (Unit ⊕ Bool)
 | [], k124 => some (.inl ())
 | x162 :: q158, k124 => Option.bind (a1.Frames[k124]?) (fun x175 => guardO (orB (!(eqI x162.Agent x175.Agent)) ((r02_Ints x162.Sleep x175.Sleep).isSome)) (guardO (orB (!(!(orB (!(eqI x162.Agent x175.Agent)) (!((r02_Ints x162.Sleep x175.Sleep).getD default))))) ((r33_Equal fuelN x162.Tree x175.Tree).isSome)) (cond (orB (orB (!(eqI x162.Agent x175.Agent)) (!((r02_Ints x162.Sleep x175.Sleep).getD default))) (!((r33_Equal fuelN x162.Tree x175.Tree).getD default))) (some (.inr false)) (r49_Same_L1 fuelN a1 q158 (k124 + 1)))))
def r49_Same (fuelN : Nat) (a0 : Snapshot) (a1 : Snapshot) : Option Bool :=
 cond (orB (orB (orB (!(eqB a0.Done a1.Done)) (!(eqI a0.Count a1.Count))) (!(eqI a0.Blocked a1.Blocked))) (!(eqI ((a0.Frames.length : Nat) : Int) ((a1.Frames.length : Nat) : Int)))) (some false) (Option.bind (α := Unit ⊕ Bool) (Option.bind (r49_Same_L1 fuelN a1 a0.Frames 0) (fun o => match o with | .inl _ => some (.inl ()) | .inr r185 => some (.inr r185))) (fun o => match o with | .inl _ => some true | .inr r186 => some r186))
set_option maxHeartbeats 2000000 in
theorem at_r49_Same {fuelN : Nat} {a0 : Snapshot} {a1 : Snapshot} {r : Bool} (hs : r49_Same fuelN a0 a1 = some r) : At Tryd.prog 13 [.agg (eA a0), .agg (eA a1)] (bV r) := by
 refine at_bound (by kernel_rfl) fun hb => ?_
 have hb1 : LenOk (.sl a0.Frames.length (encL a0.Frames)) := lkc hb
 have hb2 : LenOk (.sl a1.Frames.length (encL a1.Frames)) := lkc hb
 refine at_code mixed Tryd.func13 (by kernel_rfl) rfl (by kernel_rfl) rfl fun Q hQ => ?_
 rw [r49_Same] at hs
 refine goG f0 f0 ?_
 revert hs; refine cS f0 ?_ ?_ <;> intro h1 hs
 ·refine goG f0 f0 ?_
  obtain rfl := sj hs
  exact hQ _ _ (rg f0 (Gh.refl _))
 ·refine goG2 f0 f0 ?_
  revert hs; refine bK fun o93 e92 hs => ?_
  refine awp_cutK (fun (v : Unit) (σ : St) => some (.inl v) = some o93 /\ 3 <= σ.gen) (by rfl) (fun Q hK94 hX95 => ?_) (fun v σ3 hp => ?_)
  ·refine goG f0 f0 ?_
   revert e92; refine bK fun o153 e152 e92 => ?_
   refine awp_loopW (fun (v : (List Frame) × Nat) (σ : St) => r49_Same_L1 fuelN a1 v.1 v.2 = some o153 /\ v.1 = a0.Frames.drop v.2 /\ σ.env 2 = .cell (.ref (.o 1 0 0) 0) /\ σ.env 3 = .cell (.ref (.o 1 1 0) 0) /\ σ.env 5 = iV .i64 ((v.2 : Nat) : Int) /\ σ.hp (.o 1 0 0) = some (.cells (eA a0)) /\ σ.hp (.o 1 1 0) = some (.cells (eA a1)) /\ 3 <= σ.gen) (fun v => v.1.length) _ (Gh.refl _) (a0.Frames, 0) ⟨e152, by simp, pv f0, pv f0, pv f0, pv f0, pv f0, pg⟩ fun v σ6 hp L154 hL155 => ?_
   obtain ⟨q157, k124⟩ := v
   dsimp only at hp hL155
   obtain ⟨e152, hd156, h5_2, h5_3, h5_5, g5_0, g5_1, n5_g⟩ := hp
   have n5_0 : ¬ (σ6.gen = 0) := by omega
   rcases q157 with _ | ⟨x162, q158⟩
   ·have hlt159 := drop_end hd156
    rw [r49_Same_L1] at e152; try dsimp only at e152
    have F1 := an h5_2 (an h5_3 (an h5_5 (an g5_0 (an g5_1 n5_0))))
    refine goR F1 ?_
    refine condK_f (by simp [ltI]; omega) ?_
    obtain rfl := sj e152
    try dsimp only at e92
    exact hK94 () _ _ (Gh.refl _) ⟨e92, pg⟩
   ·obtain ⟨hx161, hlt159, hd163⟩ := drop_next hd156
    have ew160 := wrap_succ hlt159 (hb1).len
    rw [r49_Same_L1] at e152; try dsimp only at e152
    have F2 := an h5_2 (an h5_3 (an h5_5 (an g5_0 (an g5_1 (an n5_0 (an hlt159 ew160))))))
    refine goR F2 ?_
    refine condK_t (by simp [ltI]; omega) ?_
    have f174 : partCV Tryd.prog 3 (encL a0.Frames) (k124 * 4) = some (iV .i64 x162.Agent) := partCV_enc hx161 (f := 0) (by simp)
    revert e152; refine bK fun x175 hx176 e152 => ?_
    have hx176b := getN_some hx176
    have f177 : partCV Tryd.prog 3 (encL a1.Frames) (k124 * 4) = some (iV .i64 x175.Agent) := partCV_enc hx176 (f := 0) (by simp)
    have f178 : partCV Tryd.prog 37 (encL a0.Frames) (k124 * 4 + 1) = some (.cell (sC x162.Sleep)) := partCV_enc hx161 (f := 1) (by simp)
    have f179 : partCV Tryd.prog 37 (encL a1.Frames) (k124 * 4 + 1) = some (.cell (sC x175.Sleep)) := partCV_enc hx176 (f := 1) (by simp)
    have F3 := an F2 (an f174 (an f177 (an f178 f179)))
    have F4 := an F3 hx176b
    refine goE F3 F4 ?_
    obtain ⟨g180, e152⟩ := guardO_some e152
    refine dsel_call (fun hg => at_r02_Ints (under_call g180 hg)) (fun hg => by (try simp at hg); (first | simp [hg, F3]); try rfl) (fun hg => by (try simp at hg); simp [hg, F3]) (by simp) ?_
    have f181 : partCV Tryd.prog 77 (encL a0.Frames) (k124 * 4 + 2) = some (.agg (eA x162.Tree)) := partCV_enc hx161 (f := 2) (by simp)
    have f182 : partCV Tryd.prog 77 (encL a1.Frames) (k124 * 4 + 2) = some (.agg (eA x175.Tree)) := partCV_enc hx176 (f := 2) (by simp)
    have F5 := an F3 (an f181 f182)
    have F6 := an F5 hx176b
    refine goE F5 F6 ?_
    obtain ⟨g183, e152⟩ := guardO_some e152
    refine dsel_call (fun hg => at_r33_Equal (under_call g183 hg)) (fun hg => by (try simp at hg); (first | simp [hg, F5]); try rfl) (fun hg => by (try simp at hg); simp [hg, F5]) (by simp) ?_
    refine goE F5 F6 ?_
    revert e152; refine cS F5 ?_ ?_ <;> intro h184 e152
    ·refine goE F5 F6 ?_
     obtain rfl := sj e152
     try dsimp only at e92
     obtain rfl := sj e92
     try dsimp only at hs
     refine hX95 _ _ (by simp) ?_
     refine goE F5 F6 ?_
     obtain rfl := sj hs
     exact hQ _ _ (rg F5 (Gh.refl _))
    ·refine goE F5 F6 ?_
     exact hL155 (q158, (k124 + 1)) _ _ (Gh.refl _) ⟨e152, hd163, pv F5, pv F5, pv F5, pv F5, pv F5, pg⟩ (by simp)
  ·obtain ⟨e92, n4_g⟩ := hp
   obtain rfl := sj e92
   try dsimp only at hs
   refine goG f0 f0 ?_
   obtain rfl := sj hs
   exact hQ _ _ (rg f0 (Gh.refl _))
end Go.Dc
end
section
set_option linter.all false
namespace Go.Dc.Pl
open Go Go.Hw Go.Dc
theorem ints_refl (l : List Int) : r02_Ints l l = some true := by
 have h := srch (L := r02_Ints_L1 l) (fun _ (_ : Int) => (none : Option Bool)) (fun _ => rfl) l 0 fun j x hx q => by
  rw [Nat.zero_add, r02_Ints_L1, hx, Option.bind_some, eqI_d, decide_eq_true rfl]; rfl
 have hn : ∀ (l : List Int) (k : Nat), first (fun _ (_ : Int) => (none : Option Bool)) l k = none := fun l => by
  induction l with
  | nil => intro k; rfl
  | cons x l ih => intro k; rw [first_cons]; exact ih _
 rw [r02_Ints, h, hn, eqI_d, decide_eq_true rfl]; rfl
theorem noneF {α β : Type} : ∀ (l : List α) (k : Nat), first (fun _ _ => (none : Option β)) l k = none
 | [], _ => rfl
 | x :: l, k => by rw [first_cons]; exact noneF l _
theorem tree_refl : ∀ (m f : Nat) (t : Tree), m + 1 <= f -> shal m t.Kids = true -> r33_Equal f t t = some true := by
 intro m
 induction m with
 | zero =>
  intro f t hf hs
  obtain ⟨f, rfl⟩ : ∃ k, f = k + 1 := ⟨f - 1, by omega⟩
  simp only [shal, decide_eq_true_eq, List.length_eq_zero_iff] at hs
  show r33_Equal_B (r33_Equal f) t t = _
  unfold r33_Equal_B
  rw [eqI_d, eqI_d, decide_eq_true rfl, decide_eq_true rfl, hs]; rfl
 | succ m ih =>
  intro f t hf hs
  obtain ⟨f, rfl⟩ : ∃ k, f = k + 1 := ⟨f - 1, by omega⟩
  rw [shal, List.all_eq_true] at hs
  show r33_Equal_B (r33_Equal f) t t = _
  unfold r33_Equal_B
  have h := srch (L := r33_Equal_L1 t (r33_Equal f)) (fun _ (_ : Tree) => (none : Option Bool)) (fun _ => rfl) t.Kids 0 fun j x hx q => by
   have h1 := hs x (List.mem_of_getElem? hx)
   rw [Bool.and_eq_true] at h1
   rw [Nat.zero_add, r33_Equal_L1, hx, Option.bind_some, ih f x (by omega) h1.2]; rfl
  rw [h, noneF, eqI_d, eqI_d, decide_eq_true rfl, decide_eq_true rfl]; rfl
theorem same_refl {f : Nat} {s : Snapshot} (hf : 600 <= f) (hs : ∀ x ∈ s.Frames, shal 512 x.Tree.Kids = true) : r49_Same f s s = some true := by
 have h := srch (L := r49_Same_L1 f s) (fun _ (_ : Frame) => (none : Option Bool)) (fun _ => rfl) s.Frames 0 fun j x hx q => by
  rw [Nat.zero_add, r49_Same_L1, hx, Option.bind_some, ints_refl, tree_refl 512 f x.Tree (by omega) (hs x (List.mem_of_getElem? hx)), eqI_d, decide_eq_true rfl]; rfl
 rw [r49_Same, h, noneF, eqI_d, eqI_d, eqI_d, decide_eq_true rfl, decide_eq_true rfl, decide_eq_true rfl]
 cases s.Done <;> rfl
theorem valid_shal {s : Snapshot} (h : validS s = true) : ∀ x ∈ s.Frames, validF x = true /\ shal 512 x.Tree.Kids = true := by
 unfold validS at h
 simp only [Bool.and_eq_true] at h
 intro x hx
 have hv := List.all_eq_true.1 h.2.2 x hx
 refine ⟨hv, ?_⟩
 unfold validF treeOk at hv
 simp only [Bool.and_eq_true] at hv
 exact hv.2.2.2.1
end Go.Dc.Pl
end
section
set_option linter.all false
namespace Go.Dc
open Go Go.Hw Go.Proofs
set_option maxRecDepth 100000
def r49_nodes_L1 (a1 : Int) (rF31z : Tree -> Int -> Option Int) : List Tree -> Int -> Nat -> Option Int
 | [], i68, k69 => some (i68)
 | x88 :: q84, i68, k69 => Option.bind (rF31z x88 (IntKind.i64.wrap (a1 - 1))) (fun y91 => r49_nodes_L1 a1 rF31z q84 (IntKind.i64.wrap (i68 + y91)) (k69 + 1))
def r49_nodes_B (rF31z : Tree -> Int -> Option Int) (a0 : Tree) (a1 : Int) : Option Int :=
 cond (andB (eqI a1 0) (ltI 0 ((a0.Kids.length : Nat) : Int))) (some 1000000) (Option.bind (α := Int) (Option.bind (r49_nodes_L1 a1 rF31z a0.Kids 1 0) (fun i77 => some (i77))) (fun i45 => some i45))
def r49_nodes : Nat -> Tree -> Int -> Option Int
 | 0 => fun _ _ => none
 | fuelN + 1 => fun a0 a1 => r49_nodes_B (r49_nodes fuelN) a0 a1
set_option maxHeartbeats 2000000 in
theorem at_r49_nodes_B {rF31z : Tree -> Int -> Option Int} (ihrF31z : ∀ (a0 : Tree) (a1 : Int) (r : Int), rF31z a0 a1 = some r -> At Tryd.prog 31 [.agg (eA a0), iV .i64 a1] (iV .i64 r)) {a0 : Tree} {a1 : Int} {r : Int} (hs : r49_nodes_B rF31z a0 a1 = some r) : At Tryd.prog 31 [.agg (eA a0), iV .i64 a1] (iV .i64 r) := by
 refine at_bound (by kernel_rfl) fun hb => ?_
 have hb1 : LenOk (.sl a0.Kids.length (encL a0.Kids)) := lkc hb
 refine at_code mixed Tryd.func31 (by kernel_rfl) rfl (by kernel_rfl) rfl fun Q hQ => ?_
 rw [r49_nodes_B] at hs
 refine goG f0 f0 ?_
 revert hs; refine cS f0 ?_ ?_ <;> intro h1 hs
 ·refine goG f0 f0 ?_
  obtain rfl := sj hs
  exact hQ _ _ (rg f0 (Gh.refl _))
 ·refine goG2 f0 f0 ?_
  revert hs; refine bK fun o47 e46 hs => ?_
  refine awp_cutK (fun (v : Int) (σ : St) => some (v) = some o47 /\ σ.env 5 = iV .i64 v /\ 4 <= σ.gen) (by rfl) (fun Q hK48 hX49 => ?_) (fun i45 σ3 hp => ?_)
  ·refine goG f0 f0 ?_
   revert e46; refine bK fun o79 e78 e46 => ?_
   refine awp_loopW (fun (v : (List Tree) × Int × Nat) (σ : St) => r49_nodes_L1 a1 rF31z v.1 v.2.1 v.2.2 = some o79 /\ v.1 = a0.Kids.drop v.2.2 /\ σ.env 1 = iV .i64 a1 /\ σ.env 2 = .cell (.ref (.o 1 0 0) 0) /\ σ.env 5 = iV .i64 v.2.1 /\ σ.env 6 = iV .i64 ((v.2.2 : Nat) : Int) /\ σ.hp (.o 1 0 0) = some (.cells (eA a0)) /\ 4 <= σ.gen) (fun v => v.1.length) _ (Gh.refl _) (a0.Kids, 1, 0) ⟨e78, by simp, pv f0, pv f0, pv f0, pv f0, pv f0, pg⟩ fun v σ6 hp L80 hL81 => ?_
   obtain ⟨q83, i68, k69⟩ := v
   dsimp only at hp hL81
   obtain ⟨e78, hd82, h5_1, h5_2, h5_5, h5_6, g5_0, n5_g⟩ := hp
   have n5_0 : ¬ (σ6.gen = 0) := by omega
   rcases q83 with _ | ⟨x88, q84⟩
   ·have hlt85 := drop_end hd82
    rw [r49_nodes_L1] at e78; try dsimp only at e78
    have F1 := an h5_1 (an h5_2 (an h5_5 (an h5_6 (an g5_0 n5_0))))
    refine goR F1 ?_
    refine condK_f (by simp [ltI]; omega) ?_
    obtain rfl := sj e78
    try dsimp only at e46
    exact hK48 i68 _ _ (Gh.refl _) ⟨e46, pv F1, pg⟩
   ·obtain ⟨hx87, hlt85, hd89⟩ := drop_next hd82
    have ew86 := wrap_succ hlt85 (hb1).len
    rw [r49_nodes_L1] at e78; try dsimp only at e78
    have F2 := an h5_1 (an h5_2 (an h5_5 (an h5_6 (an g5_0 (an n5_0 (an hlt85 ew86))))))
    refine goR F2 ?_
    refine condK_t (by simp [ltI]; omega) ?_
    have f90 : partCV Tryd.prog 77 (encL a0.Kids) (k69 * 2) = some (.agg (eA x88)) := partCV_enc hx87 (f := 0) (by simp)
    have F3 := an F2 f90
    refine goR F3 ?_
    revert e78; refine bK fun y91 hx92 e78 => ?_
    refine cP F3 (ihrF31z _ _ _ hx92) ?_
    refine goR F3 ?_
    exact hL81 (q84, IntKind.i64.wrap (i68 + y91), (k69 + 1)) _ _ (Gh.refl _) ⟨e78, hd89, pv F3, pv F3, pv F3, pv F3, pv F3, pg⟩ (by simp)
  ·obtain ⟨e46, h4_5, n4_g⟩ := hp
   obtain rfl := sj e46
   try dsimp only at hs
   refine goG h4_5 h4_5 ?_
   obtain rfl := sj hs
   exact hQ _ _ (rg h4_5 (Gh.refl _))
theorem at_r49_nodes : ∀ {fuelN : Nat} {a0 : Tree} {a1 : Int} {r : Int} (hs : r49_nodes fuelN a0 a1 = some r), At Tryd.prog 31 [.agg (eA a0), iV .i64 a1] (iV .i64 r)
 | 0, _, _, _, hs => by rw [r49_nodes] at hs; cases hs
 | n + 1, _, _, _, hs => by
  rw [r49_nodes] at hs
  exact at_r49_nodes_B (fun _ _ _ h => at_r49_nodes h) hs
end Go.Dc
end
section
set_option linter.all false
namespace Go.Dc
open Go Go.Hw Go.Proofs
set_option maxRecDepth 100000
def r49_Few_L1 (fuelN : Nat) (a0 : Snapshot) : Nat -> Int -> Int -> Option Int
 | 0, _, _ => none
 | q101 + 1, i78, i79 => cond (andB (ltI i79 ((a0.Frames.length : Nat) : Int)) (!(ltI 1000 i78))) (Option.bind (getI a0.Frames i79) (fun x112 => Option.bind (r49_nodes fuelN x112.Tree 600) (fun y116 => r49_Few_L1 fuelN a0 q101 (IntKind.i64.wrap (IntKind.i64.wrap (i78 + ((x112.Sleep.length : Nat) : Int)) + y116)) (IntKind.i64.wrap (i79 + 1))))) (some (i78))
def r49_Few (fuelN : Nat) (a0 : Snapshot) : Option Bool :=
 Option.bind (α := Int) (Option.bind (r49_Few_L1 fuelN a0 fuelN ((a0.Frames.length : Nat) : Int) 0) (fun i94 => some (i94))) (fun i57 => some (!(ltI 1000 i57)))
set_option maxHeartbeats 2000000 in
theorem at_r49_Few {fuelN : Nat} {a0 : Snapshot} {r : Bool} (hs : r49_Few fuelN a0 = some r) : At Tryd.prog 10 [.agg (eA a0)] (bV r) := by
 refine at_bound (by kernel_rfl) fun hb => ?_
 have hb1 : LenOk (.sl a0.Frames.length (encL a0.Frames)) := lkc hb
 refine at_code mixed Tryd.func10 (by kernel_rfl) rfl (by kernel_rfl) rfl fun Q hQ => ?_
 rw [r49_Few] at hs
 refine goR2 f0 ?_
 revert hs; refine bK fun o59 e58 hs => ?_
 refine awp_cutK (fun (v : Int) (σ : St) => some (v) = some o59 /\ σ.env 3 = iV .i64 v /\ 3 <= σ.gen) (by rfl) (fun Q hK60 hX61 => ?_) (fun i57 σ3 hp => ?_)
 ·refine goR f0 ?_
  revert e58; refine bK fun o96 e95 e58 => ?_
  refine awp_loopW (fun (v : Nat × Int × Int) (σ : St) => r49_Few_L1 fuelN a0 v.1 v.2.1 v.2.2 = some o96 /\ σ.env 1 = .cell (.ref (.o 1 0 0) 0) /\ σ.env 3 = iV .i64 v.2.1 /\ σ.env 4 = iV .i64 v.2.2 /\ σ.hp (.o 1 0 0) = some (.cells (eA a0)) /\ 3 <= σ.gen) (fun v => v.1) _ (Gh.refl _) (fuelN, ((a0.Frames.length : Nat) : Int), 0) ⟨e95, pv f0, pv f0, pv f0, pv f0, pg⟩ fun v σ6 hp L97 hL98 => ?_
  obtain ⟨q100, i78, i79⟩ := v
  dsimp only at hp hL98
  obtain ⟨e95, h5_1, h5_3, h5_4, g5_0, n5_g⟩ := hp
  have n5_0 : ¬ (σ6.gen = 0) := by omega
  rcases q100 with _ | q101
  ·rw [r49_Few_L1] at e95; cases e95
  ·rw [r49_Few_L1] at e95; try dsimp only at e95
   have F1 := an h5_1 (an h5_3 (an h5_4 (an g5_0 n5_0)))
   refine goG F1 F1 ?_
   revert e95; refine cS F1 ?_ ?_ <;> intro h105 e95
   ·revert e95; refine bK fun x112 hx113 e95 => ?_
    obtain ⟨hx113a, hx113b, hx113c, hx113d⟩ := getI_some hx113
    have f114 : partCV Tryd.prog 37 (encL a0.Frames) (((i79).toNat) * 4 + 1) = some (.cell (sC x112.Sleep)) := partCV_enc hx113d (f := 1) (by simp)
    have f115 : partCV Tryd.prog 77 (encL a0.Frames) (((i79).toNat) * 4 + 2) = some (.agg (eA x112.Tree)) := partCV_enc hx113d (f := 2) (by simp)
    have F2 := an F1 (an f114 f115)
    have F3 := an F2 (an hx113a hx113b)
    refine goE F2 F3 ?_
    revert e95; refine bK fun y116 hx117 e95 => ?_
    refine cP F2 (at_r49_nodes hx117) ?_
    refine goE F2 F3 ?_
    exact hL98 (q101, IntKind.i64.wrap (IntKind.i64.wrap (i78 + ((x112.Sleep.length : Nat) : Int)) + y116), IntKind.i64.wrap (i79 + 1)) _ _ (Gh.refl _) ⟨e95, pv F2, pv F2, pv F2, pv F2, pg⟩ (by omega)
   ·refine goG F1 F1 ?_
    obtain rfl := sj e95
    try dsimp only at e58
    exact hK60 i78 _ _ (Gh.refl _) ⟨e58, pv F1, pg⟩
 ·obtain ⟨e58, h4_3, n4_g⟩ := hp
  obtain rfl := sj e58
  try dsimp only at hs
  refine goR h4_3 ?_
  obtain rfl := sj hs
  exact hQ _ _ (rg h4_3 (Gh.refl _))
end Go.Dc
end
section
set_option linter.all false
namespace Go.Hw
variable [Globals]
section
variable {H : Type} {enc : TypeId × Value -> H} {P : Program} {w : World} {sp : Nat -> Bool} {held : Bool}
end
end Go.Hw
end
section
set_option linter.all false
namespace Go.Hw
variable [Globals]
def okT (P : Program) (S : List TypeId) (t : TypeId) : Bool := match P.underlying t with
 | some .bool => P.cellsOf t == 1
 | some (.int _) => P.cellsOf t == 1
 | some .string => P.cellsOf t == 1
 | some (.slice e) => S.contains e && P.cellsOf t == 1
 | some (.struct fs) => fs.toList.all (fun f => S.contains f.type) && contig P 0 fs.toList == some (P.cellsOf t)
 | some (.array k e) => S.contains e && P.cellsOf t == k * P.cellsOf e
 | _ => false
def okS (P : Program) (S : List TypeId) : Bool := S.all (okT P S)
section
variable {H : Type} {enc : TypeId × Value -> H} {P : Program} {w : World} {sp : Nat -> Bool} {held : Bool} {bad : Nat -> Prop} {S : List TypeId}
theorem trodW_fields {n : Nat} (ih : ∀ (t : TypeId) (cs : List Value) (x : DataW H × List MemPlace), t ∈ S -> DataW.trod enc P w 0 sp held n t cs = some x -> ∃ cvs, cvD P n t x.1 = some cvs /\ CReps w bad cs cvs) {cs : List Value} :
  ∀ (fl : List Field) (xs : List (DataW H × List MemPlace)) (off tot : Nat), (∀ f ∈ fl, f.type ∈ S) -> contig P off fl = some tot -> xs.length = fl.length ->
   (∀ (i : Nat) (f : Field), fl[i]? = some f -> DataW.trod enc P w 0 sp held n f.type ((cs.drop f.offset).take (P.cellsOf f.type)) = xs[i]?) ->
   ∃ cvs, concatM (List.zipWith (fun f d => cvD P n f.type d) fl (xs.map (·.1))) = some cvs /\ CReps w bad ((cs.drop off).take (tot - off)) cvs
 | [], xs, off, tot, _, hc, hl, _ => by
  simp [contig] at hc
  subst hc
  exact ⟨[], by simp [concatM], by simpa using CReps.nil⟩
 | f :: r, [], off, tot, _, _, hl, _ => by simp at hl
 | f :: r, x :: xs, off, tot, hp, hc, hl, ht => by
  rw [contig] at hc
  split at hc
  ·rename_i ho
   have h0 := ht 0 f rfl
   simp at h0
   rw [ho] at h0
   obtain ⟨c1, e1, r1⟩ := ih f.type _ x (hp f (by simp)) h0
   obtain ⟨c2, e2, r2⟩ := trodW_fields ih r xs (off + P.cellsOf f.type) tot (fun g hg => hp g (by simp [hg])) hc (by simpa using hl) (fun i g hg => by simpa using ht (i + 1) g (by simpa using hg))
   refine ⟨c1 ++ c2, ?_, ?_⟩
   ·simp only [List.map_cons, List.zipWith_cons_cons, e1, concatM, e2, Option.map_some]
   ·rw [drop_split cs (contig_le hc)]
    exact r1.append r2
  ·cases hc
theorem trodW_elems {n : Nat} {e : TypeId} (ih : ∀ (cs : List Value) (x : DataW H × List MemPlace), DataW.trod enc P w 0 sp held n e cs = some x -> ∃ cvs, cvD P n e x.1 = some cvs /\ CReps w bad cs cvs) {cs : List Value} :
  ∀ (xs : List (DataW H × List MemPlace)) (i0 : Nat), (∀ i, i < xs.length -> DataW.trod enc P w 0 sp held n e ((cs.drop ((i0 + i) * P.cellsOf e)).take (P.cellsOf e)) = xs[i]?) ->
   ∃ cvs, concatM ((xs.map (·.1)).map (cvD P n e)) = some cvs /\ CReps w bad ((cs.drop (i0 * P.cellsOf e)).take (xs.length * P.cellsOf e)) cvs
 | [], i0, _ => ⟨[], by simp [concatM], by simpa using CReps.nil⟩
 | x :: xs, i0, ht => by
  have h0 := ht 0 (by simp)
  simp at h0
  obtain ⟨c1, e1, r1⟩ := ih _ x h0
  obtain ⟨c2, e2, r2⟩ := trodW_elems ih xs (i0 + 1) (fun i hi => by
   have := ht (i + 1) (by simpa using hi)
   rw [show i0 + (i + 1) = i0 + 1 + i by omega] at this
   simpa using this)
  refine ⟨c1 ++ c2, by simp only [List.map_cons, e1, concatM, e2, Option.map_some], ?_⟩
  have h1 : (i0 + 1) * P.cellsOf e = i0 * P.cellsOf e + P.cellsOf e := by rw [Nat.succ_mul]
  rw [h1] at r2
  have h2 : (x :: xs).length * P.cellsOf e = P.cellsOf e + xs.length * P.cellsOf e := by rw [List.length_cons, Nat.succ_mul]; omega
  rw [h2, List.take_add, List.drop_drop]
  exact r1.append r2
theorem trodW_slots {n : Nat} {e : TypeId} {a : Addr} (ih : ∀ (cs : List Value) (x : DataW H × List MemPlace), DataW.trod enc P w 0 sp held n e cs = some x -> ∃ cvs, cvD P n e x.1 = some cvs /\ CReps w bad cs cvs) :
  ∀ (xs : List (DataW H × List MemPlace)) (i0 : Nat), (∀ i, i < xs.length -> (w.cells? 0 (a.add ((i0 + i) * P.cellsOf e)) (P.cellsOf e)).bind (DataW.trod enc P w 0 sp held n e) = xs[i]?) ->
   ∃ cvs raws, concatM ((xs.map (·.1)).map (cvD P n e)) = some cvs /\ CReps w bad raws cvs /\ raws.length = xs.length * P.cellsOf e /\ ∀ j u, raws[j]? = some u -> w.cell? (a.add (i0 * P.cellsOf e + j)) = some u
 | [], i0, _ => ⟨[], [], by simp [concatM], CReps.nil, by simp, by simp⟩
 | x :: xs, i0, ht => by
  have h0 := ht 0 (by simp)
  simp only [Nat.add_zero, List.getElem?_cons_zero, Option.bind_eq_some_iff] at h0
  obtain ⟨us, hu, h0⟩ := h0
  obtain ⟨c1, e1, r1⟩ := ih _ x h0
  obtain ⟨c2, raws, e2, r2, hl, hm⟩ := trodW_slots ih xs (i0 + 1) (fun i hi => by
   have := ht (i + 1) (by simpa using hi)
   rw [show i0 + (i + 1) = i0 + 1 + i by omega] at this
   simpa using this)
  obtain ⟨_, hul, huc⟩ := World.cells?_some hu
  refine ⟨c1 ++ c2, us ++ raws, by simp only [List.map_cons, e1, concatM, e2, Option.map_some], r1.append r2, ?_, fun j u hj => ?_⟩
  ·rw [List.length_append, hul, hl, List.length_cons, Nat.succ_mul]; omega
  ·rcases Nat.lt_or_ge j us.length with hj' | hj'
   ·rw [List.getElem?_append_left hj'] at hj
    have := huc j (by omega)
    rw [addr_add] at this
    rw [this, hj]
   ·rw [List.getElem?_append_right hj'] at hj
    have := hm _ u hj
    have h1 : (i0 + 1) * P.cellsOf e = i0 * P.cellsOf e + P.cellsOf e := by rw [Nat.succ_mul]
    rw [h1, Nat.add_assoc, show P.cellsOf e + (j - us.length) = j by omega] at this
    exact this
/-- What reads as_ a datum is its cells: types that may lead to themselves. -/
theorem trodW_cvs (hbad : ∀ b, ¬ bad b) (hS : okS P S = true) : ∀ (m : Nat) (t : TypeId) (cs : List Value) (x : DataW H × List MemPlace), t ∈ S -> DataW.trod enc P w 0 sp held m t cs = some x -> ∃ cvs, cvD P m t x.1 = some cvs /\ CReps w bad cs cvs
 | 0, t, cs, x, _, h => by simp [DataW.trod] at h
 | m + 1, t, cs, x, hp, h => by
  have ih := trodW_cvs hbad hS m
  have hp := List.all_eq_true.1 hS t hp
  rw [okT] at hp
  split at hp
  ·rename_i hu
   obtain ⟨b, rfl, rfl⟩ := DataW.trod_bool hu h
   exact ⟨[.c (.bool b)], by simp [cvD, hu], .single (.c _) rfl⟩
  ·rename_i k hu
   obtain ⟨n, rfl, rfl, hw⟩ := DataW.trod_int hu h
   exact ⟨[.c (.int k n)], by simp only [cvD, hu]; rw [if_pos (by simpa [Lit.wf] using hw)], .single (.c _) rfl⟩
  ·rename_i hu
   obtain ⟨s, rfl, rfl, _⟩ := DataW.trod_string hu h
   exact ⟨[.c (.string s)], by simp [cvD, hu], .single (.c _) rfl⟩
  ·rename_i e hu
   simp only [Bool.and_eq_true, List.contains_iff_mem] at hp
   rcases DataW.trod_slice hu h with ⟨rfl, rfl⟩ | ⟨a, len, cap, elems, rest, n, hn, rfl, rfl, _, hlc, hcm, hel, hE, _, _⟩
   ·exact ⟨[.sl 0 []], by simp [cvD, hu], .single (.sl none 0 0 [] [] (Nat.le_refl _) (Nat.zero_le _) rfl (by simp) (by simp) (by simp)) rfl⟩
   ·obtain rfl : n = m := by omega
    obtain ⟨cvs, raws, e1, r1, hl, hm⟩ := trodW_slots (fun cs x h => ih e cs x hp.1 h) elems 0 (fun i hi => by simpa using hE i (by omega))
    refine ⟨[.sl elems.length cvs], by simp only [cvD, hu, e1, Option.map_some, List.length_map], .single ?_ rfl⟩
    rw [<- hel]
    exact .sl (some a) _ cap raws cvs (by omega) hcm r1.len r1.one (fun j u hj => ⟨a, rfl, hbad _, by simpa using hm j u hj⟩) r1.rep
  ·rename_i fs hu
   simp only [Bool.and_eq_true, beq_iff_eq, List.all_eq_true, List.contains_iff_mem] at hp
   obtain ⟨xs, n, hn, rfl, hcl, hxl, hF⟩ := DataW.trod_struct hu h
   obtain rfl : n = m := by omega
   obtain ⟨cvs, e1, r1⟩ := trodW_fields ih (cs := cs) fs.toList xs 0 (P.cellsOf t) hp.1 hp.2 (by simpa using hxl) (fun i f hf => hF i f (by simpa using hf))
   refine ⟨cvs, by simp only [cvD, hu, e1, List.length_map, hxl, if_true], ?_⟩
   have : (cs.drop 0).take (P.cellsOf t - 0) = cs := by rw [<- hcl]; simp
   rwa [this] at r1
  ·rename_i k e hu
   simp only [Bool.and_eq_true, beq_iff_eq, List.contains_iff_mem] at hp
   obtain ⟨xs, n, hn, rfl, hcl, hxl, hE⟩ := DataW.trod_array hu h
   obtain rfl : n = m := by omega
   obtain ⟨cvs, e1, r1⟩ := trodW_elems (fun cs x h => ih e cs x hp.1 h) (cs := cs) xs 0 (fun i hi => by simpa using hE i (by omega))
   refine ⟨cvs, by simp only [cvD, hu, e1, List.length_map, hxl, if_true], ?_⟩
   have : (cs.drop (0 * P.cellsOf e)).take (xs.length * P.cellsOf e) = cs := by
    rw [hxl, <- hp.2, <- hcl]; simp
   rwa [this] at r1
  ·cases hp
open Go.WideShapes in
theorem repW_struct {t : TypeId} {fs : Array Field} {v : Value} {d : DataW H} {p : List MemPlace} {r : Go.Reach} {b0 : Nat} (hS : okS P S = true) (ht : t ∈ S) (hu : P.underlying t = some (.struct fs)) (hv : Value.okWide P w r b0 t v)
  (h : DataW.Trod enc P w 0 sp held t v d p) : ∃ m cvs, cvD P m t d = some cvs /\ AVRep w m0 (fun _ => False) v (.agg (cvs.map .p)) := by
 obtain ⟨cs, rfl, hsz⟩ := okWide_struct hu hv
 obtain ⟨fuel, hf⟩ := h
 obtain ⟨cvs, e, hr⟩ := trodW_cvs (bad := Bad m0 (fun _ => False)) (fun b hb => (bad_m0).1 hb) hS fuel t _ _ ht hf
 have hr : CReps w (Bad m0 (fun _ => False)) cs.toList cvs := hr
 refine ⟨fuel, cvs, e, .agg cs _ (by have := hr.len; simpa using this) hr.one fun j u x hj hx => ?_⟩
 rw [List.getElem?_map, Option.map_eq_some_iff] at hx
 obtain ⟨c, hc, rfl⟩ := hx
 exact hr.rep j u c (by simpa using hj) hc
open Go.WideShapes in
theorem repW_slice {t e : TypeId} {v : Value} {d : DataW H} {p : List MemPlace} {r : Go.Reach} {b0 : Nat} (hS : okS P S = true) (ht : t ∈ S) (hu : P.underlying t = some (.slice e)) (hv : Value.okWide P w r b0 t v)
  (h : DataW.Trod enc P w 0 sp held t v d p) : ∃ m c, cvD P m t d = some [c] /\ AVRep w m0 (fun _ => False) v (.cell (.p c)) := by
 obtain ⟨a, len, cap, rfl⟩ := okWide_slice hu hv
 obtain ⟨fuel, hf⟩ := h
 obtain ⟨cvs, e, hr⟩ := trodW_cvs (bad := Bad m0 (fun _ => False)) (fun b hb => (bad_m0).1 hb) hS fuel t _ _ ht hf
 have hl := hr.len
 match cvs, hl with
 | [c], _ => exact ⟨fuel, c, e, .cell _ _ (hr.rep 0 _ _ rfl rfl)⟩
end
/-! What a datum's cells are, part by part. -/
theorem cvD_sliceW {H : Type} {P : Program} {n t e : Nat} {d : DataW H} {c : List CV} {α : Type} [Enc α] (hu : P.underlying t = some (.slice e)) (hg : ∀ m, m < n -> ∀ (d : DataW H) c, cvD P m e d = some c -> ∃ x : α, c = Enc.enc x) (h : cvD P n t d = some c) : ∃ L : List α, c = Enc.enc L := by
 cases n with
 | zero => simp [cvD] at h
 | succ n =>
  simp only [cvD, hu] at h
  split at h
  ·cases h; exact ⟨[], rfl⟩
  ·rename_i l sp
   rw [Option.map_eq_some_iff] at h
   obtain ⟨c', h, rfl⟩ := h
   obtain ⟨L, hL, rfl⟩ := concatM_map (fun d _ c hc => hg n (Nat.lt_succ_self _) d c hc) h
   exact ⟨L, by rw [<- hL]; rfl⟩
  ·cases h
theorem cvD_structW {H : Type} {P : Program} {n t : Nat} {d : DataW H} {c : List CV} {fs : Array Field} (hu : P.underlying t = some (.struct fs)) (h : cvD P n t d = some c) : ∃ m l, m < n /\ d = .agg l /\ l.length = fs.size /\ concatM (List.zipWith (fun f d => cvD P m f.type d) fs.toList l) = some c := by
 cases n with
 | zero => simp [cvD] at h
 | succ n =>
  simp only [cvD, hu] at h
  split at h
  ·rename_i l
   split at h
   ·rename_i hl; exact ⟨n, l, Nat.lt_succ_self _, rfl, hl, h⟩
   ·cases h
  ·cases h
/-! Integers are within their kinds; how much a datum holds. -/
mutual
def okC : CV -> Prop
 | .c (.int k n) => k.min <= n /\ n <= k.max
 | .sl _ cs => okL cs
 | _ => True
def okL : List CV -> Prop
 | [] => True
 | x :: r => okC x /\ okL r
end
mutual
def bkC : CV -> Nat
 | .c (.string s) => s.size + 1
 | .sl _ cs => bkL cs + 1
 | _ => 1
def bkL : List CV -> Nat
 | [] => 0
 | x :: r => bkC x + bkL r
end
@[simp] theorem okL_nil : okL [] := by rw [okL]; trivial
@[simp] theorem okL_cons (x : CV) (r : List CV) : okL (x :: r) ↔ okC x /\ okL r := by rw [okL]
@[simp] theorem bkL_nil : bkL [] = 0 := by rw [bkL]
@[simp] theorem bkL_cons (x : CV) (r : List CV) : bkL (x :: r) = bkC x + bkL r := by rw [bkL]
@[simp] theorem okL_append (a b : List CV) : okL (a ++ b) ↔ okL a /\ okL b := by
 induction a with
 | nil => simp
 | cons x a ih => simp [ih, and_assoc]
@[simp] theorem bkL_append (a b : List CV) : bkL (a ++ b) = bkL a + bkL b := by
 induction a with
 | nil => simp
 | cons x a ih => simp [ih]; omega
@[simp] theorem bkC_sl (n : Nat) (cs : List CV) : bkC (.sl n cs) = bkL cs + 1 := by rw [bkC]
@[simp] theorem bkC_str (s : ByteArray) : bkC (.c (.string s)) = s.size + 1 := by rw [bkC]
@[simp] theorem bkC_int (k : IntKind) (n : Int) : bkC (.c (.int k n)) = 1 := by rw [bkC] <;> simp
@[simp] theorem bkC_bool (b : Bool) : bkC (.c (.bool b)) = 1 := by rw [bkC] <;> simp
@[simp] theorem okC_sl (n : Nat) (cs : List CV) : okC (.sl n cs) ↔ okL cs := by rw [okC]
@[simp] theorem okC_int (k : IntKind) (n : Int) : okC (.c (.int k n)) ↔ (k.min <= n /\ n <= k.max) := by rw [okC]
theorem bkC_pos (c : CV) : 1 <= bkC c := by
 cases c with
 | c v => cases v <;> simp [bkC]
 | sl n cs => simp
 | _ => simp [bkC]
theorem bkL_encL {α : Type} [Enc α] : ∀ {l : List α} {x : α}, x ∈ l -> bkL (Enc.enc x) <= bkL (encL l)
 | y :: r, x, hx => by
  rw [encL_cons, bkL_append]
  rcases List.mem_cons.1 hx with rfl | hx
  ·omega
  ·have := bkL_encL hx; omega
theorem bkL_len (l : List CV) : l.length <= bkL l := by
 induction l with
 | nil => simp
 | cons x l ih => have := bkC_pos x; simp; omega
theorem bkL_lenL {α : Type} [Enc α] (h : 1 <= Enc.sz α) (l : List α) : l.length <= bkL (encL l) := by
 have h1 := bkL_len (encL l)
 rw [encL_length] at h1
 exact Nat.le_trans (Nat.le_mul_of_pos_right _ h) h1
theorem concatM_ok : ∀ {l : List (Option (List CV))} {c : List CV}, (∀ o ∈ l, ∀ a, o = some a -> okL a) -> concatM l = some c -> okL c
 | [], c, _, h => by simp [concatM] at h; subst h; simp
 | o :: r, c, hf, h => by
  obtain ⟨a, b, rfl, hb, rfl⟩ := concatM_cons h
  rw [okL_append]
  exact ⟨hf _ (by simp) a rfl, concatM_ok (fun o ho => hf o (by simp [ho])) hb⟩
theorem cvD_okL {H : Type} {P : Program} : ∀ (n : Nat) (t : TypeId) (d : DataW H) (c : List CV), cvD P n t d = some c -> okL c
 | 0, t, d, c, h => by simp [cvD] at h
 | n + 1, t, d, c, h => by
  unfold cvD at h
  split at h
  ·split at h
   ·cases h; simp [okC]
   ·cases h
  ·split at h
   ·split at h
    ·rename_i hr; cases h; simpa using hr
    ·cases h
   ·cases h
  ·split at h
   ·cases h; simp [okC]
   ·cases h
  ·split at h
   ·cases h; simp
   ·rw [Option.map_eq_some_iff] at h
    obtain ⟨c', h, rfl⟩ := h
    simp only [okL_cons, okC_sl, okL_nil, and_true]
    refine concatM_ok (fun o ho a ha => ?_) h
    obtain ⟨d', _, rfl⟩ := List.mem_map.1 ho
    exact cvD_okL n _ d' a ha
   ·cases h
  ·split at h
   ·split at h
    ·refine concatM_ok (fun o ho a ha => ?_) h
     rw [List.mem_iff_getElem?] at ho
     obtain ⟨j, hj⟩ := ho
     rw [List.getElem?_zipWith] at hj
     split at hj
     ·cases hj; exact cvD_okL n _ _ a ha
     ·cases hj
    ·cases h
   ·cases h
  ·split at h
   ·split at h
    ·refine concatM_ok (fun o ho a ha => ?_) h
     obtain ⟨d', _, rfl⟩ := List.mem_map.1 ho
     exact cvD_okL n _ d' a ha
    ·cases h
   ·cases h
  ·cases h
section
variable {H : Type} (B : DataW H -> Nat) (Bs : List (DataW H) -> Nat) (hnil : Bs [] = 0) (hcons : ∀ d r, Bs (d :: r) = B d + Bs r)
include hnil hcons
theorem concatM_bk {f : DataW H -> Option (List CV)} : ∀ {l : List (DataW H)} {c : List CV}, (∀ d ∈ l, ∀ a, f d = some a -> bkL a <= B d) -> concatM (l.map f) = some c -> bkL c <= Bs l
 | [], c, _, h => by simp [concatM] at h; subst h; simp
 | d :: r, c, hf, h => by
  rw [List.map_cons] at h
  obtain ⟨a, b, ha, hb, rfl⟩ := concatM_cons h
  have h1 := hf d (by simp) a ha
  have h2 := concatM_bk (fun d hd => hf d (by simp [hd])) hb
  rw [bkL_append, hcons]; omega
theorem concatM_bkz {F : Field -> DataW H -> Option (List CV)} : ∀ {fl : List Field} {l : List (DataW H)} {c : List CV}, (∀ f ∈ fl, ∀ d ∈ l, ∀ a, F f d = some a -> bkL a <= B d) -> concatM (List.zipWith F fl l) = some c -> bkL c <= Bs l
 | [], l, c, _, h => by simp [concatM] at h; subst h; simp
 | f :: fl, [], c, _, h => by simp [concatM] at h; subst h; simp
 | f :: fl, d :: r, c, hf, h => by
  rw [List.zipWith_cons_cons] at h
  obtain ⟨a, b, ha, hb, rfl⟩ := concatM_cons h
  have h1 := hf f (by simp) d (by simp) a ha
  have h2 := concatM_bkz (fun g hg d hd => hf g (by simp [hg]) d (by simp [hd])) hb
  rw [bkL_append, hcons]; omega
/-- The cells of a datum hold no more than the datum, by whatever measure counts its parts. -/
theorem cvD_bk {P : Program} (hlit : ∀ l, 1 <= B (.lit l)) (hstr : ∀ l, l.length + 1 <= B (.lit (.string l))) (hn : 1 <= B .nil) (hsl : ∀ l s, Bs l + 1 <= B (.slice l s)) (hag : ∀ l, Bs l <= B (.agg l)) : ∀ (n : Nat) (t : TypeId) (d : DataW H) (c : List CV), cvD P n t d = some c -> bkL c <= B d
 | 0, t, d, c, h => by simp [cvD] at h
 | n + 1, t, d, c, h => by
  have ih := cvD_bk (P := P) hlit hstr hn hsl hag n
  unfold cvD at h
  split at h
  ·split at h
   ·cases h; simpa using hlit _
   ·cases h
  ·split at h
   ·split at h
    ·cases h; simpa using hlit _
    ·cases h
   ·cases h
  ·split at h
   ·rename_i l; cases h; have := hstr l; simpa [ByteArray.size] using this
   ·cases h
  ·split at h
   ·cases h; simpa using hn
   ·rename_i l s
    rw [Option.map_eq_some_iff] at h
    obtain ⟨c', h, rfl⟩ := h
    have h1 := concatM_bk B Bs hnil hcons (fun d' _ a ha => ih _ d' a ha) h
    have h2 := hsl l s
    simp; omega
   ·cases h
  ·split at h
   ·rename_i l
    split at h
    ·have h1 := concatM_bkz B Bs hnil hcons (F := fun f d => cvD P n f.type d) (fun f _ d' _ a ha => ih _ d' a ha) h
     have h2 := hag l
     omega
    ·cases h
   ·cases h
  ·split at h
   ·rename_i l
    split at h
    ·have h1 := concatM_bk B Bs hnil hcons (fun d' _ a ha => ih _ d' a ha) h
     have h2 := hag l
     omega
    ·cases h
   ·cases h
  ·cases h
end
end Go.Hw
end
section
set_option linter.all false
namespace Go.Dc.Pl
open Go Go.Hw Go.Dc
set_option maxRecDepth 100000
/-! What bounds a snapshot. -/
theorem nT_bk : ∀ (m : Nat) (l : List Tree), nT m l <= bkL (encL l)
 | 0, l => by rw [nT]; omega
 | m + 1, l => by
  rw [nT]
  induction l with
  | nil => simp
  | cons x l ih =>
   have h := nT_bk m x.Kids
   rw [List.map_cons, List.sum_cons, encL_cons, bkL_append, enc_Tree]
   simp; omega
theorem wid_bk {B : Nat} : ∀ (m : Nat) (l : List Tree), bkL (encL l) <= B -> wid B m l
 | 0, l, _ => trivial
 | m + 1, l, h => by
  refine ⟨Nat.le_trans (bkL_lenL (by simp) l) h, fun k hk => wid_bk m k.Kids ?_⟩
  have := bkL_encL hk
  rw [enc_Tree] at this
  simp at this; omega
theorem frame_bk (g : Frame) : nF g + bkL (encL g.Tree.Kids) <= 2 * bkL (Enc.enc g) /\ nF g <= bkL (Enc.enc g) /\ bkL (encL g.Tree.Kids) <= bkL (Enc.enc g) := by
 have h1 := nT_bk 512 g.Tree.Kids
 have h2 := bkL_lenL (α := Int) (by simp) g.Sleep
 rw [enc_Frame]; unfold nF; simp; omega
theorem nS_bk (s : Snapshot) : nS s <= bkL (Enc.enc s) /\ s.Frames.length <= bkL (Enc.enc s) /\ ∀ g ∈ s.Frames, bkL (encL g.Tree.Kids) <= bkL (Enc.enc s) := by
 have h : ∀ l : List Frame, (l.map nF).sum <= bkL (encL l) := fun l => by
  induction l with
  | nil => simp
  | cons x l ih => have := frame_bk x; rw [List.map_cons, List.sum_cons, encL_cons, bkL_append]; omega
 have h1 := h s.Frames
 have h2 := bkL_lenL (α := Frame) (by simp) s.Frames
 have e : bkL (Enc.enc s) = bkL (encL s.Frames) + 1 + 1 + 1 + 1 := by rw [enc_Snapshot]; simp
 refine ⟨by unfold nS; omega, by omega, fun g hg => ?_⟩
 have := bkL_encL hg; have := frame_bk g; omega
theorem wid_enc {B : Nat} : ∀ (m : Nat) (l : List Tree), shal m l = true -> (encT m l).length <= B -> ∀ k, wid B k l
 | 0, l, hs, _, k => by
  simp only [shal, decide_eq_true_eq, List.length_eq_zero_iff] at hs
  subst hs
  cases k with
  | zero => trivial
  | succ k => exact ⟨by simp, by simp⟩
 | m + 1, l, hs, hb, k => by
  cases k with
  | zero => trivial
  | succ k =>
   rw [shal, List.all_eq_true] at hs
   rw [encT, List.length_append] at hb
   have hfl : ∀ l : List Tree, l.length <= (l.flatMap fun k => uintB (intCode k.Agent) ++ encT m k.Kids).length /\ ∀ x ∈ l, (encT m x.Kids).length <= (l.flatMap fun k => uintB (intCode k.Agent) ++ encT m k.Kids).length := fun l => by
    induction l with
    | nil => simp
    | cons x l ih =>
     have := uintB_pos (intCode x.Agent)
     rw [List.flatMap_cons, List.length_append, List.length_append, List.length_cons]
     refine ⟨by omega, fun y hy => ?_⟩
     rcases List.mem_cons.1 hy with rfl | hy
     ·omega
     ·have := ih.2 y hy; omega
   have h := hfl l
   refine ⟨by omega, fun x hx => ?_⟩
   have h1 := hs x hx
   rw [Bool.and_eq_true] at h1
   exact wid_enc m x.Kids h1.2 (by have := h.2 x hx; omega) k
theorem nT_enc : ∀ (m : Nat) (l : List Tree), 1 + nT m l <= (encT m l).length
 | 0, l => by rw [nT, encT]; exact uintB_pos _
 | m + 1, l => by
  have hfl : ∀ l : List Tree, (l.map fun k => 1 + nT m k.Kids).sum <= (l.flatMap fun k => uintB (intCode k.Agent) ++ encT m k.Kids).length := fun l => by
   induction l with
   | nil => simp
   | cons x l ih =>
    have h1 := uintB_pos (intCode x.Agent)
    have h2 := nT_enc m x.Kids
    rw [List.flatMap_cons, List.length_append, List.length_append, List.map_cons, List.sum_cons]; omega
  have h1 := hfl l
  have h2 := uintB_pos l.length
  rw [nT, encT, List.length_append]; omega
theorem encInts_ge : ∀ l : List Int, l.length <= (encInts l).length
 | [] => by simp [encInts]
 | n :: l => by have := encInts_ge l; have := uintB_pos (intCode n); simp [encInts]; omega
theorem nF_enc (g : Frame) : nF g <= (encF g).length /\ (encT 512 g.Tree.Kids).length <= (encF g).length := by
 have h1 := uintB_pos (intCode g.Agent)
 have h2 := uintB_pos g.Sleep.length
 have h3 := encInts_ge g.Sleep
 have h4 := nT_enc 512 g.Tree.Kids
 unfold nF encF; simp only [List.length_append]; omega
theorem nS_enc (d : Int) (s : Snapshot) : nS s <= (sealB (payB d s)).length /\ ∀ g ∈ s.Frames, (encT 512 g.Tree.Kids).length <= (sealB (payB d s)).length := by
 have h : ∀ l : List Frame, (l.map nF).sum <= (l.flatMap encF).length /\ ∀ g ∈ l, (encT 512 g.Tree.Kids).length <= (l.flatMap encF).length := fun l => by
  induction l with
  | nil => simp
  | cons x l ih =>
   have h1 := nF_enc x
   rw [List.map_cons, List.sum_cons, List.flatMap_cons, List.length_append]
   refine ⟨by omega, fun y hy => ?_⟩
   rcases List.mem_cons.1 hy with rfl | hy
   ·omega
   ·have := ih.2 y hy; omega
 have h1 := h s.Frames
 have e : (s.Frames.flatMap encF).length <= (sealB (payB d s)).length := by unfold sealB payB; simp only [List.length_append]; omega
 exact ⟨by unfold nS; omega, fun g hg => by have := h1.2 g hg; omega⟩
/-! Whether a snapshot is small is answered. -/
theorem nodes_ex : ∀ (m f : Nat) (t : Tree), m <= 1000 -> m < f -> ∃ r, r49_nodes f t (m : Int) = some r := by
 intro m
 induction m with
 | zero =>
  intro f t _ hf
  obtain ⟨f, rfl⟩ : ∃ k, f = k + 1 := ⟨f - 1, by omega⟩
  show ∃ r, r49_nodes_B (r49_nodes f) t ((0 : Nat) : Int) = some r
  unfold r49_nodes_B
  cases hk : t.Kids with
  | nil => exact ⟨1, rfl⟩
  | cons x l => rw [show eqI ((0 : Nat) : Int) 0 = true from rfl, ltI_d, decide_eq_true (by simp)]; exact ⟨_, rfl⟩
 | succ m ih =>
  intro f t hm hf
  obtain ⟨f, rfl⟩ : ∃ k, f = k + 1 := ⟨f - 1, by omega⟩
  have hL : ∀ (l : List Tree) (n : Int) (k : Nat), ∃ r, r49_nodes_L1 ((m + 1 : Nat) : Int) (r49_nodes f) l n k = some r := by
   intro l
   induction l with
   | nil => intro n k; exact ⟨n, rfl⟩
   | cons x l il =>
    intro n k
    obtain ⟨y, hy⟩ := ih f x (by omega) (by omega)
    rw [r49_nodes_L1, show ((m + 1 : Nat) : Int) - 1 = (m : Int) by omega, wrapN (by omega), hy]
    exact il _ _
  obtain ⟨r, hr⟩ := hL t.Kids 1 0
  show ∃ r, r49_nodes_B (r49_nodes f) t ((m + 1 : Nat) : Int) = some r
  unfold r49_nodes_B
  rw [show eqI ((m + 1 : Nat) : Int) 0 = false by rw [eqI_d, decide_eq_false (by omega)], hr]
  exact ⟨_, rfl⟩
theorem few_ex {f : Nat} {s : Snapshot} (hf : s.Frames.length + 1000 <= f) (hl : s.Frames.length <= 1000000000) : ∃ b, r49_Few f s = some b := by
 have hL : ∀ (q k : Nat) (n : Int), k <= s.Frames.length -> s.Frames.length < k + q -> ∃ r, r49_Few_L1 f s q n (k : Int) = some r := by
  intro q
  induction q with
  | zero => intro k n h1 h2; omega
  | succ q ih =>
   intro k n h1 h2
   rw [r49_Few_L1]
   cases hc : andB (ltI (k : Int) ((s.Frames.length : Nat) : Int)) (!(ltI 1000 n)) with
   | false => exact ⟨_, rfl⟩
   | true =>
    rw [andB_d, ltI_d, Bool.and_eq_true, decide_eq_true_eq] at hc
    have hk : k < s.Frames.length := by omega
    obtain ⟨y, hy⟩ := nodes_ex 600 f (s.Frames[k]).Tree (by omega) (by omega)
    rw [cond_true, getI_nat, List.getElem?_eq_getElem hk, Option.bind_some, show (600 : Int) = ((600 : Nat) : Int) from rfl, hy, Option.bind_some, wrapS (by omega)]
    exact ih _ _ (by omega) (by omega)
 obtain ⟨r, hr⟩ := hL f 0 ((s.Frames.length : Nat) : Int) (by omega) (by omega)
 rw [r49_Few, show (0 : Int) = ((0 : Nat) : Int) from rfl, hr]
 exact ⟨_, rfl⟩
theorem snap_wid {s : Snapshot} (hb : bkL (Enc.enc s) <= 1048576) : ∀ g ∈ s.Frames, g.Tree.Kids.length <= 1000000000 /\ (∀ k, wid 1000000000 k g.Tree.Kids) /\ wid 1048576 512 g.Tree.Kids := fun g hg => by
 have h := (nS_bk s).2.2 g hg
 exact ⟨(wid_bk (B := 1000000000) 1 g.Tree.Kids (by omega)).1, fun k => wid_bk k _ (by omega), wid_bk 512 _ (by omega)⟩
theorem encode_own {p : Program} {c : Config} {s : Snapshot} (hp : small p = true) (hb : bkL (Enc.enc s) <= 1048576) : checkpoint_Encode 67108864 p c s = some (encodeB (digest p c) s) :=
 own_encode (B := 1048576) hp (by omega) (snap_wid hb) (by have := (nS_bk s).1; omega) (by omega) (by omega)
end Go.Dc.Pl
end
section
set_option linter.all false
namespace Go.Dc
open Go Go.Hw Go.Proofs
set_option maxRecDepth 100000
def law49_bytes (a0 : List UInt8) (a1 : List UInt8) : Option Bool :=
 some (eqS (⟨a0.toArray⟩ : ByteArray) (⟨a1.toArray⟩ : ByteArray))
set_option maxHeartbeats 2000000 in
theorem at_law49_bytes {a0 : List UInt8} {a1 : List UInt8} {r : Bool} (hs : law49_bytes a0 a1 = some r) : At Tryd.prog 14 [.cell (sC a0), .cell (sC a1)] (bV r) := by
 refine at_bound (by kernel_rfl) fun hb => ?_
 have hb1 : LenOk (.sl a0.length (encL a0)) := lkc hb
 have hb2 : LenOk (.sl a1.length (encL a1)) := lkc hb
 refine at_code mixed Tryd.func14 (by kernel_rfl) rfl (by kernel_rfl) rfl fun Q hQ => ?_
 rw [law49_bytes] at hs
 refine goR f0 ?_
 obtain rfl := sj hs
 exact hQ _ _ (rg f0 (Gh.refl _))
end Go.Dc
end
section
set_option linter.all false
namespace Go.Dc
open Go Go.Hw Go.Proofs
set_option maxRecDepth 100000
def r26_Standard (fuelN : Nat) (a0 : Program) (a1 : Config) : Option Int :=
 Option.bind (r08_Check fuelN a0) (fun y1 => cond (!(eqI y1.1 0)) (some y1.1) (Option.bind (r08_CheckConfig a1) (fun y4 => cond (!(eqI y4 0)) (some y4) (cond (eqI a1.Model 3) (some 18) (some 0)))))
set_option maxHeartbeats 2000000 in
theorem at_r26_Standard {fuelN : Nat} {a0 : Program} {a1 : Config} {r : Int} (hs : r26_Standard fuelN a0 a1 = some r) : At Tryd.prog 16 [.agg (eA a0), .agg (eA a1)] (iV .i64 r) := by
 refine at_bound (by kernel_rfl) fun hb => ?_
 have hb1 : LenOk (.sl a0.Vars.length (encL a0.Vars)) := lkc hb
 have hb2 : LenOk (.sl a0.Mutexes.length (encL a0.Mutexes)) := lkc hb
 have hb3 : LenOk (.sl a0.Conds.length (encL a0.Conds)) := lkc hb
 have hb4 : LenOk (.sl a0.Funcs.length (encL a0.Funcs)) := lkc hb
 have hb5 : LenOk (.sl a0.Threads.length (encL a0.Threads)) := lkc hb
 refine at_code mixed Tryd.func16 (by kernel_rfl) rfl (by kernel_rfl) rfl fun Q hQ => ?_
 rw [r26_Standard] at hs
 refine goR f0 ?_
 revert hs; refine bK fun y1 hx2 hs => ?_
 refine cP f0 (at_r08_Check hx2) ?_
 refine goR f0 ?_
 revert hs; refine cS f0 ?_ ?_ <;> intro h3 hs
 ·refine goR f0 ?_
  obtain rfl := sj hs
  exact hQ _ _ (rg f0 (Gh.refl _))
 ·refine goR f0 ?_
  revert hs; refine bK fun y4 hx5 hs => ?_
  refine cP f0 (at_r08_CheckConfig hx5) ?_
  refine goR f0 ?_
  revert hs; refine cS f0 ?_ ?_ <;> intro h6 hs
  ·refine goR f0 ?_
   obtain rfl := sj hs
   exact hQ _ _ (rg f0 (Gh.refl _))
  ·refine goR f0 ?_
   revert hs; refine cS f0 ?_ ?_ <;> intro h7 hs
   ·refine goR f0 ?_
    obtain rfl := sj hs
    exact hQ _ _ (rg f0 (Gh.refl _))
   ·refine goR f0 ?_
    obtain rfl := sj hs
    exact hQ _ _ (rg f0 (Gh.refl _))
end Go.Dc
end
section
set_option linter.all false
namespace Go.Dc
open Go Go.Hw Go.Proofs
set_option maxRecDepth 100000
def law49_one (a0 : Int) : Option Program :=
 Option.bind (some ([({ Name := (⟨#[120]⟩ : ByteArray), Init := 0 } : Var)])) (fun l1 => Option.bind (some ([({ Op := 9, A := 0, B := 0, C := 0, Obj := 0, N := 0, Fn := 0, Order := 0 } : Inst)])) (fun l3 => Option.bind (some ([({ Name := (⟨#[102]⟩ : ByteArray), Code := l3 } : Func)])) (fun l5 => Option.bind (some ([({ Func := 0, Arg := a0 } : Start)])) (fun l7 => some ({ Vars := l1, Mutexes := [], Conds := [], Funcs := l5, Threads := l7 } : Program)))))
set_option maxHeartbeats 2000000 in
theorem at_law49_one {a0 : Int} {r : Program} (hs : law49_one a0 = some r) : At Tryd.prog 18 [iV .i64 a0] (.agg (eA r)) := by
 refine at_bound (by kernel_rfl) fun hb => ?_
 refine at_code mixed Tryd.func18 (by kernel_rfl) rfl (by kernel_rfl) rfl fun Q hQ => ?_
 rw [law49_one] at hs
 revert hs; refine lK fun l1 hx2 hs => ?_
 have hx2n : l1.length = 1 := by rw [hx2]; rfl
 revert hs; refine lK fun l3 hx4 hs => ?_
 have hx4n : l3.length = 1 := by rw [hx4]; rfl
 revert hs; refine lK fun l5 hx6 hs => ?_
 have hx6n : l5.length = 1 := by rw [hx6]; rfl
 revert hs; refine lK fun l7 hx8 hs => ?_
 have hx8n : l7.length = 1 := by rw [hx8]; rfl
 have F1 := an hx2 (an hx4 (an hx6 hx8))
 refine goR F1 ?_
 obtain rfl := sj hs
 exact hQ _ _ (rg F1 ((Gh.frz _ (.o 2 3 0)).trans ((Gh.pur _ (.o 2 5 0)).trans ((Gh.frz _ (.o 2 1 0)).trans ((Gh.frz _ (.o 2 5 0)).trans ((Gh.frz _ (.o 2 8 0)).trans (Gh.unz _)))))))
end Go.Dc
end
section
set_option linter.all false
namespace Go.Dc
open Go Go.Hw Go.Proofs
set_option maxRecDepth 100000
def law49_awake (fuelN : Nat)  : Option Bool :=
 Option.bind (law49_one 1) (fun y5 => Option.bind (checkpoint_Digest fuelN y5 ({ Model := 1, Bound := 4 } : Config)) (fun y7 => Option.bind (law49_one 1) (fun y13 => Option.bind (checkpoint_Encode fuelN y13 ({ Model := 1, Bound := 4 } : Config) ({ Frames := [], Done := false, Count := 0, Blocked := 0 } : Snapshot)) (fun y15 => Option.bind (law49_one 1) (fun y21 => Option.bind (checkpoint_Decode fuelN y21 ({ Model := 1, Bound := 4 } : Config) y15.1) (fun y23 => Option.bind (law49_one 2) (fun y29 => Option.bind (checkpoint_Decode fuelN y29 ({ Model := 1, Bound := 4 } : Config) y15.1) (fun y31 => Option.bind (law49_one 1) (fun y37 => Option.bind (checkpoint_Encode fuelN y37 ({ Model := 1, Bound := 4 } : Config) ({ Frames := [], Done := false, Count := (-1), Blocked := 0 } : Snapshot)) (fun y39 => Option.bind (frame_AppendUint fuelN [] y7.1) (fun y41 => Option.bind (some ([0, 0, 0, 0])) (fun l43 => guardO (limB 1 (y41.length + l43.length)) (Option.bind (some (y41 ++ l43)) (fun l46 => cond (andB (andB (andB (andB (eqI y7.2 0) (eqI y15.2 0)) (eqI y23.2 0)) (eqI y31.2 30)) (eqI y39.2 1)) (Option.bind (frame_Seal fuelN l46) (fun y50 => Option.bind (law49_bytes y15.1 y50) (fun y52 => guardO (orB (!y52) ((r49_Same fuelN y23.1 ({ Frames := [], Done := false, Count := 0, Blocked := 0 } : Snapshot)).isSome)) (guardO (orB (!(andB y52 ((r49_Same fuelN y23.1 ({ Frames := [], Done := false, Count := 0, Blocked := 0 } : Snapshot)).getD default))) ((checkpoint_Valid fuelN y23.1).isSome)) (guardO (orB (!(andB (andB y52 ((r49_Same fuelN y23.1 ({ Frames := [], Done := false, Count := 0, Blocked := 0 } : Snapshot)).getD default)) ((checkpoint_Valid fuelN y23.1).getD default))) ((checkpoint_Valid fuelN ({ Frames := [], Done := false, Count := 0, Blocked := (-1) } : Snapshot)).isSome)) (some (andB (andB (andB y52 ((r49_Same fuelN y23.1 ({ Frames := [], Done := false, Count := 0, Blocked := 0 } : Snapshot)).getD default)) ((checkpoint_Valid fuelN y23.1).getD default)) (!((checkpoint_Valid fuelN ({ Frames := [], Done := false, Count := 0, Blocked := (-1) } : Snapshot)).getD default))))))))) (some false)))))))))))))))
set_option maxHeartbeats 2000000 in
theorem at_law49_awake {fuelN : Nat}  {r : Bool} (hs : law49_awake fuelN = some r) : At Tryd.prog 7 [] (bV r) := by
 refine at_bound (by kernel_rfl) fun hb => ?_
 refine at_code mixed Tryd.func7 (by kernel_rfl) rfl (by kernel_rfl) rfl fun Q hQ => ?_
 rw [law49_awake] at hs
 refine goD f0 ?_
 revert hs; refine bK fun y5 hx6 hs => ?_
 refine cP f0 (at_law49_one hx6) ?_
 refine goD f0 ?_
 revert hs; refine bK fun y7 hx8 hs => ?_
 refine cP f0 (at_checkpoint_Digest hx8) ?_
 refine goD f0 ?_
 revert hs; refine bK fun y13 hx14 hs => ?_
 refine cP f0 (at_law49_one hx14) ?_
 refine goD f0 ?_
 revert hs; refine bK fun y15 hx16 hs => ?_
 refine cP f0 (at_unz (args := [.agg (eA y13), .agg [nC 1, nC 4], .agg [.z, bC false, nC 0, nC 0]]) (by simp) (at_checkpoint_Encode hx16)) ?_
 refine goD f0 ?_
 revert hs; refine bK fun y21 hx22 hs => ?_
 refine cP f0 (at_law49_one hx22) ?_
 refine goD f0 ?_
 revert hs; refine bK fun y23 hx24 hs => ?_
 refine cP f0 (at_checkpoint_Decode hx24) ?_
 refine goD f0 ?_
 revert hs; refine bK fun y29 hx30 hs => ?_
 refine cP f0 (at_law49_one hx30) ?_
 refine goD f0 ?_
 revert hs; refine bK fun y31 hx32 hs => ?_
 refine cP f0 (at_checkpoint_Decode hx32) ?_
 refine goD f0 ?_
 revert hs; refine bK fun y37 hx38 hs => ?_
 refine cP f0 (at_law49_one hx38) ?_
 refine goD f0 ?_
 revert hs; refine bK fun y39 hx40 hs => ?_
 refine cP f0 (at_unz (args := [.agg (eA y37), .agg [nC 1, nC 4], .agg [.z, bC false, nC (-1), nC 0]]) (by simp) (at_checkpoint_Encode hx40)) ?_
 refine goD f0 ?_
 revert hs; refine bK fun y41 hx42 hs => ?_
 refine cA f0 (at_unz (args := [.cell (.z), iV .i64 y7.1]) (by simp) (at_frame_AppendUint hx42)) ?_
 revert hs; refine lK fun l43 hx44 hs => ?_
 have hx44n : l43.length = 4 := by rw [hx44]; rfl
 obtain ⟨g45, hs⟩ := guardO_some hs
 have g45 := limB_t g45
 obtain ⟨g45a, g45b⟩ := g45
 revert hs; refine lK fun l46 hx47 hs => ?_
 have hx47n : l46.length = (y41.length + l43.length) := by rw [hx47]; simp
 have hx47e : encL l46 = encL y41 ++ encL l43 := by rw [hx47]; simp
 have F1 := an hx44 (an hx47n hx47e)
 refine goE F1 F1 ?_
 refine gsel_split (fun h48 => ?_) (fun h48 => ?_)
 ·replace hs := condT h48 hs
  have f49 : (encL l46).take (l46.length) = encL l46 := encL_take1 _ (by simp)
  have F2 := an F1 h48
  try simp [F2] at f49
  have f49l : l46.length * 1 <= (encL l46).length := by rw [encL_length]; simp
  try simp [F2] at f49l
  have F3 := an F2 (an f49 f49l)
  refine goE F3 F3 ?_
  revert hs; refine bK fun y50 hx51 hs => ?_
  refine cA F3 (at_frame_Seal hx51) ?_
  refine goE F3 F3 ?_
  revert hs; refine bK fun y52 hx53 hs => ?_
  refine cP F3 (at_law49_bytes hx53) ?_
  refine goE F3 F3 ?_
  obtain ⟨g54, hs⟩ := guardO_some hs
  refine gsel_call (fun hg => at_unz (args := [.agg (eA y23.1), .agg [.z, bC false, nC 0, nC 0]]) (by simp) (at_r49_Same (under_call g54 hg))) (fun hg => by (try simp at hg); (first | simp [hg, F3]); try rfl) (fun hg => by (try simp at hg); simp [hg, F3]) (by simp) ?_
  refine goE F3 F3 ?_
  obtain ⟨g55, hs⟩ := guardO_some hs
  refine gsel_call (fun hg => at_checkpoint_Valid (under_call g55 hg)) (fun hg => by (try simp at hg); (first | simp [hg, F3]); try rfl) (fun hg => by (try simp at hg); simp [hg, F3]) (by simp) ?_
  refine goE F3 F3 ?_
  obtain ⟨g56, hs⟩ := guardO_some hs
  refine gsel_call (fun hg => at_unz (args := [.agg [.z, bC false, nC 0, nC (-1)]]) (by simp) (at_checkpoint_Valid (under_call g56 hg))) (fun hg => by (try simp at hg); (first | simp [hg, F3]); try rfl) (fun hg => by (try simp at hg); simp [hg, F3]) (by simp) ?_
  refine goE F3 F3 ?_
  obtain rfl := sj hs
  exact hQ _ _ (rg F3 (Gh.refl _))
 ·replace hs := condF h48 hs
  have F4 := an F1 h48
  refine goE F4 F4 ?_
  obtain rfl := sj hs
  exact hQ _ _ (rg F4 (Gh.refl _))
end Go.Dc
end
section
set_option linter.all false
namespace Go.Dc
open Go Go.Hw Go.Proofs
set_option maxRecDepth 100000
def law49_CheckpointRoundTrip (fuelN : Nat) (a0 : R26Job) (a1 : Snapshot) (a2 : List UInt8) : Option Bool :=
 Option.bind (r26_Small fuelN a0.Program a0.Config.Bound) (fun y1 => guardO (orB (!y1) ((r49_Few fuelN a1).isSome)) (cond (orB (orB (!y1) (!((r49_Few fuelN a1).getD default))) (ltI 3000 ((a2.length : Nat) : Int))) (Option.bind (law49_awake fuelN) (fun y5 => some y5)) (Option.bind (checkpoint_Encode fuelN a0.Program a0.Config a1) (fun y7 => Option.bind (α := Unit ⊕ Bool) (cond (eqI y7.2 0) (Option.bind (checkpoint_Decode fuelN a0.Program a0.Config y7.1) (fun y19 => guardO (orB (!(eqI y19.2 0)) ((r49_Same fuelN a1 y19.1).isSome)) (cond (orB (!(eqI y19.2 0)) (!((r49_Same fuelN a1 y19.1).getD default))) (some (.inr false)) (some (.inl ()))))) (some (.inl ()))) (fun o => match o with | .inl _ => Option.bind (checkpoint_Decode fuelN a0.Program a0.Config a2) (fun y23 => cond (eqI y23.2 0) (Option.bind (checkpoint_Encode fuelN a0.Program a0.Config y23.1) (fun y26 => guardO (orB (!(eqI y26.2 0)) ((law49_bytes y26.1 a2).isSome)) (cond (orB (!(eqI y26.2 0)) (!((law49_bytes y26.1 a2).getD default))) (some false) (Option.bind (law49_awake fuelN) (fun y30 => guardO (orB (!y30) ((checkpoint_Valid fuelN a1).isSome)) (guardO (orB (!(andB y30 ((checkpoint_Valid fuelN a1).getD default))) ((r26_Standard fuelN a0.Program a0.Config).isSome)) (some (andB y30 (eqB (eqI y7.2 0) (andB ((checkpoint_Valid fuelN a1).getD default) (eqI ((r26_Standard fuelN a0.Program a0.Config).getD default) 0))))))))))) (Option.bind (law49_awake fuelN) (fun y34 => guardO (orB (!y34) ((checkpoint_Valid fuelN a1).isSome)) (guardO (orB (!(andB y34 ((checkpoint_Valid fuelN a1).getD default))) ((r26_Standard fuelN a0.Program a0.Config).isSome)) (some (andB y34 (eqB (eqI y7.2 0) (andB ((checkpoint_Valid fuelN a1).getD default) (eqI ((r26_Standard fuelN a0.Program a0.Config).getD default) 0))))))))) | .inr r38 => some r38)))))
set_option maxHeartbeats 2000000 in
theorem at_law49_CheckpointRoundTrip {fuelN : Nat} {a0 : R26Job} {a1 : Snapshot} {a2 : List UInt8} {r : Bool} (hs : law49_CheckpointRoundTrip fuelN a0 a1 a2 = some r) : At Tryd.prog 4 [.agg (eA a0), .agg (eA a1), .cell (sC a2)] (bV r) := by
 refine at_bound (by kernel_rfl) fun hb => ?_
 have hb1 : LenOk (.sl a0.Program.Vars.length (encL a0.Program.Vars)) := lkc hb
 have hb2 : LenOk (.sl a0.Program.Mutexes.length (encL a0.Program.Mutexes)) := lkc hb
 have hb3 : LenOk (.sl a0.Program.Conds.length (encL a0.Program.Conds)) := lkc hb
 have hb4 : LenOk (.sl a0.Program.Funcs.length (encL a0.Program.Funcs)) := lkc hb
 have hb5 : LenOk (.sl a0.Program.Threads.length (encL a0.Program.Threads)) := lkc hb
 have hb6 : LenOk (.sl a0.Schedule.length (encL a0.Schedule)) := lkc hb
 have hb7 : LenOk (.sl a1.Frames.length (encL a1.Frames)) := lkc hb
 have hb8 : LenOk (.sl a2.length (encL a2)) := lkc hb
 refine at_code mixed Tryd.func4 (by kernel_rfl) rfl (by kernel_rfl) rfl fun Q hQ => ?_
 rw [law49_CheckpointRoundTrip] at hs
 refine goD f0 ?_
 revert hs; refine bK fun y1 hx2 hs => ?_
 refine cP f0 (at_r26_Small hx2) ?_
 refine goE f0 f0 ?_
 obtain ⟨g3, hs⟩ := guardO_some hs
 refine gsel_call (fun hg => at_r49_Few (under_call g3 hg)) (fun hg => by (try simp at hg); (first | simp [hg, id]); try rfl) (fun hg => by (try simp at hg); simp [hg, id]) (by simp) ?_
 refine goE f0 f0 ?_
 revert hs; refine cS f0 ?_ ?_ <;> intro h4 hs
 ·refine goE f0 f0 ?_
  revert hs; refine bK fun y5 hx6 hs => ?_
  refine cP f0 (at_law49_awake hx6) ?_
  refine goE f0 f0 ?_
  obtain rfl := sj hs
  exact hQ _ _ (rg f0 (Gh.refl _))
 ·refine goE f0 f0 ?_
  revert hs; refine bK fun y7 hx8 hs => ?_
  refine cP f0 (at_checkpoint_Encode hx8) ?_
  refine goE2 f0 f0 ?_
  revert hs; refine bK fun o15 e14 hs => ?_
  refine awp_cutK (fun (v : Unit) (σ : St) => some (.inl v) = some o15 /\ σ.env 2 = .cell (sC a2) /\ σ.env 4 = .cell (.ref (.o 1 1 0) 0) /\ σ.env 7 = .cell (.ref (.o 2 4 0) 0) /\ σ.env 8 = .cell (.ref (.o 2 5 0) 0) /\ σ.env 10 = iV .i64 y7.2 /\ σ.hp (.o 1 1 0) = some (.cells (eA a1)) /\ σ.hp (.o 2 4 0) = some (.cells (eA a0.Program)) /\ σ.hp (.o 2 5 0) = some (.cells (eA a0.Config)) /\ 5 <= σ.gen) (by rfl) (fun Q hK16 hX17 => ?_) (fun v σ1 hp => ?_)
  ·refine goE f0 f0 ?_
   revert e14; refine cS f0 ?_ ?_ <;> intro h18 e14
   ·refine goE f0 f0 ?_
    revert e14; refine bK fun y19 hx20 e14 => ?_
    refine cP f0 (at_checkpoint_Decode hx20) ?_
    refine goE f0 f0 ?_
    obtain ⟨g21, e14⟩ := guardO_some e14
    refine gsel_call (fun hg => at_r49_Same (under_call g21 hg)) (fun hg => by (try simp at hg); (first | simp [hg, id]); try rfl) (fun hg => by (try simp at hg); simp [hg, id]) (by simp) ?_
    refine goE f0 f0 ?_
    revert e14; refine cS f0 ?_ ?_ <;> intro h22 e14
    ·refine goE f0 f0 ?_
     obtain rfl := sj e14
     try dsimp only at hs
     refine hX17 _ _ (by simp) ?_
     refine goE f0 f0 ?_
     obtain rfl := sj hs
     exact hQ _ _ (rg f0 (Gh.refl _))
    ·refine goE f0 f0 ?_
     exact hK16 () _ _ (Gh.refl _) ⟨e14, pv f0, pv f0, pv f0, pv f0, pv f0, pv f0, pv f0, pv f0, pg⟩
   ·refine goE f0 f0 ?_
    exact hK16 () _ _ (Gh.refl _) ⟨e14, pv f0, pv f0, pv f0, pv f0, pv f0, pv f0, pv f0, pv f0, pg⟩
  ·obtain ⟨e14, h2_2, h2_4, h2_7, h2_8, h2_10, g2_0, g2_1, g2_2, n2_g⟩ := hp
   obtain rfl := sj e14
   try dsimp only at hs
   have n2_0 : ¬ (σ1.gen = 0) := by omega
   have n2_1 : ¬ (σ1.gen = 1) := by omega
   have F1 := an h2_2 (an h2_4 (an h2_7 (an h2_8 (an h2_10 (an g2_0 (an g2_1 (an g2_2 (an n2_0 n2_1))))))))
   refine goE F1 F1 ?_
   revert hs; refine bK fun y23 hx24 hs => ?_
   refine cP F1 (at_checkpoint_Decode hx24) ?_
   refine goE F1 F1 ?_
   revert hs; refine cS F1 ?_ ?_ <;> intro h25 hs
   ·refine goE F1 F1 ?_
    revert hs; refine bK fun y26 hx27 hs => ?_
    refine cP F1 (at_checkpoint_Encode hx27) ?_
    refine goE F1 F1 ?_
    obtain ⟨g28, hs⟩ := guardO_some hs
    refine gsel_call (fun hg => at_law49_bytes (under_call g28 hg)) (fun hg => by (try simp at hg); (first | simp [hg, F1]); try rfl) (fun hg => by (try simp at hg); simp [hg, F1]) (by simp) ?_
    refine goE F1 F1 ?_
    revert hs; refine cS F1 ?_ ?_ <;> intro h29 hs
    ·refine goE F1 F1 ?_
     obtain rfl := sj hs
     exact hQ _ _ (rg F1 (Gh.refl _))
    ·refine goE F1 F1 ?_
     revert hs; refine bK fun y30 hx31 hs => ?_
     refine cP F1 (at_law49_awake hx31) ?_
     refine goE F1 F1 ?_
     obtain ⟨g32, hs⟩ := guardO_some hs
     refine gsel_call (fun hg => at_checkpoint_Valid (under_call g32 hg)) (fun hg => by (try simp at hg); (first | simp [hg, F1]); try rfl) (fun hg => by (try simp at hg); simp [hg, F1]) (by simp) ?_
     refine goE F1 F1 ?_
     obtain ⟨g33, hs⟩ := guardO_some hs
     refine gsel_call (fun hg => at_r26_Standard (under_call g33 hg)) (fun hg => by (try simp at hg); (first | simp [hg, F1]); try rfl) (fun hg => by (try simp at hg); simp [hg, F1]) (by simp) ?_
     refine goE F1 F1 ?_
     obtain rfl := sj hs
     exact hQ _ _ (rg F1 (Gh.refl _))
   ·refine goE F1 F1 ?_
    revert hs; refine bK fun y34 hx35 hs => ?_
    refine cP F1 (at_law49_awake hx35) ?_
    refine goE F1 F1 ?_
    obtain ⟨g36, hs⟩ := guardO_some hs
    refine gsel_call (fun hg => at_checkpoint_Valid (under_call g36 hg)) (fun hg => by (try simp at hg); (first | simp [hg, F1]); try rfl) (fun hg => by (try simp at hg); simp [hg, F1]) (by simp) ?_
    refine goE F1 F1 ?_
    obtain ⟨g37, hs⟩ := guardO_some hs
    refine gsel_call (fun hg => at_r26_Standard (under_call g37 hg)) (fun hg => by (try simp at hg); (first | simp [hg, F1]); try rfl) (fun hg => by (try simp at hg); simp [hg, F1]) (by simp) ?_
    refine goE F1 F1 ?_
    obtain rfl := sj hs
    exact hQ _ _ (rg F1 (Gh.refl _))
end Go.Dc
end
section
set_option linter.all false
namespace Go.Dc.Pl
open Go Go.Hw Go.Dc
set_option maxRecDepth 100000
theorem awake_t : law49_awake 67108864 = some true := by kernel_rfl
theorem digest_std (p : Program) (c : Config) : (digest p c).2 = stdE p c := by
 unfold digest
 cases h : eqI (stdE p c) 0 with
 | false => rfl
 | true => rw [eqI_d, decide_eq_true_eq] at h; exact h.symm
theorem ref_standard {f : Nat} {p : Program} (c : Config) (h : small p = true) (hf : 21 <= f) : r26_Standard f p c = some (stdE p c) := by
 rw [r26_Standard, ref_check h hf, ref_cfg]
 simp only [Option.bind_some, stdE]
 cases eqI (chk p).1 0 <;> cases eqI (cfgE c) 0 <;> cases eqI c.Model 3 <;> rfl
theorem enc_back {p : Program} {c : Config} {b : List UInt8} (hp : small p = true) (hl : b.length <= 3000) (h : (decodeB (digest p c) b).2 = 0) : checkpoint_Encode 67108864 p c (decodeB (digest p c) b).1 = some (b, 0) := by
 obtain ⟨h1, h2, h3⟩ := encode_decode (digest_range p c) h
 have hn := nS_enc (digest p c).1 (decodeB (digest p c) b).1
 rw [h3] at hn
 have hw : ∀ g ∈ (decodeB (digest p c) b).1.Frames, g.Tree.Kids.length <= 1000000000 /\ (∀ k, wid 1000000000 k g.Tree.Kids) /\ wid 1048576 512 g.Tree.Kids := fun g hg => by
  have hs := (valid_shal h2 g hg).2
  have hk := hn.2 g hg
  have hw := wid_enc (B := 1000000000) 512 g.Tree.Kids hs (by omega)
  exact ⟨(hw 1).1, hw, wid_enc (B := 1048576) 512 g.Tree.Kids hs (by omega) 512⟩
 rw [own_encode (B := 1048576) hp (by omega) hw (by omega) (by omega) (by omega), encodeB, if_neg (fun x : (digest p c).2 ≠ 0 => x h1), if_neg (by rw [h2]; simp), h3]
theorem dec_forth {p : Program} {c : Config} {s : Snapshot} (hp : small p = true) (hb : bkL (Enc.enc s) <= 1048576) (h : (encodeB (digest p c) s).2 = 0) :
  (digest p c).2 = 0 /\ validS s = true /\ (encodeB (digest p c) s).1 = sealB (payB (digest p c).1 s) /\ (payB (digest p c).1 s).length <= 20000000 /\ decodeB (digest p c) (sealB (payB (digest p c).1 s)) = (s, 0) := by
 unfold encodeB at h ⊢
 by_cases h1 : (digest p c).2 = 0
 ·rw [if_neg (fun x : (digest p c).2 ≠ 0 => x h1)] at h ⊢
  cases hv : validS s with
  | false => rw [hv, if_pos rfl] at h; simp at h
  | true =>
   have hw := snap_wid hb
   have hl := payB_len (digest_range p c) hv (fun g hg => ⟨(hw g hg).1, (hw g hg).2.1⟩) (by have := (nS_bk s).1; omega)
   have hn := (nS_bk s).1
   rw [if_neg (by simp)]
   exact ⟨h1, rfl, rfl, by omega, decode_encode (digest_range p c) h1 hv (fun g hg => (hw g hg).2.1) (by omega)⟩
 ·rw [if_pos (show (digest p c).2 ≠ 0 from h1)] at h; exact (h1 h).elim
theorem sealB_len (p : List UInt8) (h : p.length <= 4611686018427387904) : (sealB p).length <= p.length + 13 := by
 have := uintB_le9 h
 unfold sealB sumB; simp only [List.length_append, List.length_cons, List.length_nil]; omega
theorem law_roundtrip (j : R26Job) (s : Snapshot) (b : List UInt8) (hb : bkL (Enc.enc s) <= 1048576) : law49_CheckpointRoundTrip 67108864 j s b = some true := by
 obtain ⟨b0, hb0, hs⟩ := small26 j.Program j.Config.Bound (f := 67108864) (by omega)
 have hfr := (nS_bk s).2.1
 obtain ⟨b1, hb1⟩ := few_ex (f := 67108864) (s := s) (by omega) (by omega)
 rw [law49_CheckpointRoundTrip, hb0, hb1, awake_t]
 simp only [Option.bind_some, Option.isSome_some, Option.getD_some, orB_t, guardO_t, ltI_d]
 cases b0 with
 | false => rfl
 | true =>
  have hp := hs rfl
  cases b1 with
  | false => rfl
  | true =>
   by_cases hl : 3000 < b.length
   ·rw [decide_eq_true (by omega)]; rfl
   ·rw [decide_eq_false (by omega), encode_own hp hb, own_decode hp (b := b) (by omega) (by omega), own_valid (B := 1048576) (by omega) (by omega) (fun g hg => (snap_wid hb g hg).2.2), ref_standard j.Config hp (by omega)]
    simp only [orB_d, Bool.not_true, Bool.or_false, cond_false, Option.bind_some, Option.isSome_some, Option.getD_some, Bool.or_true, guardO_t]
    have hfin : eqB (eqI (encodeB (digest j.Program j.Config) s).2 0) (andB (validS s) (eqI (stdE j.Program j.Config) 0)) = true := by
     rw [<- digest_std, encodeB]
     by_cases h1 : (digest j.Program j.Config).2 = 0
     ·rw [if_neg (fun x : (digest j.Program j.Config).2 ≠ 0 => x h1), h1]
      cases validS s <;> rfl
     ·rw [if_pos (show (digest j.Program j.Config).2 ≠ 0 from h1), show eqI (digest j.Program j.Config).2 0 = false by rw [eqI_d, decide_eq_false h1]]
      cases validS s <;> rfl
    have hrest : (cond (eqI (decodeB (digest j.Program j.Config) b).2 0) (Option.bind (checkpoint_Encode 67108864 j.Program j.Config (decodeB (digest j.Program j.Config) b).1) fun y26 => guardO (!(eqI y26.2 0) || ((law49_bytes y26.1 b).isSome)) (cond (!(eqI y26.2 0) || (!((law49_bytes y26.1 b).getD default))) (some false) (some (andB true (eqB (eqI (encodeB (digest j.Program j.Config) s).2 0) (andB (validS s) (eqI (stdE j.Program j.Config) 0))))))) (some (andB true (eqB (eqI (encodeB (digest j.Program j.Config) s).2 0) (andB (validS s) (eqI (stdE j.Program j.Config) 0)))))) = some true := by
     rw [hfin]
     by_cases hd : (decodeB (digest j.Program j.Config) b).2 = 0
     ·rw [eqI_d, decide_eq_true hd, cond_true, enc_back hp (by omega) hd]
      simp [law49_bytes, eqI_d, andB_d, eqS_data]
     ·rw [eqI_d, decide_eq_false hd]; rfl
    by_cases he : (encodeB (digest j.Program j.Config) s).2 = 0
    ·obtain ⟨d1, d2, d3, d4, d5⟩ := dec_forth hp hb he
     have hsl := sealB_len (payB (digest j.Program j.Config).1 s) (by omega)
     have hdec := own_decode (f := 67108864) (p := j.Program) (c := j.Config) (b := sealB (payB (digest j.Program j.Config).1 s)) hp (by omega) (by omega)
     rw [d5] at hdec
     rw [show eqI (encodeB (digest j.Program j.Config) s).2 0 = true by rw [eqI_d, decide_eq_true he]] at hrest ⊢
     rw [cond_true, d3, hdec]
     simp only [Option.bind_some, same_refl (f := 67108864) (by omega) (fun x hx => (valid_shal d2 x hx).2)]
     exact hrest
    ·rw [show eqI (encodeB (digest j.Program j.Config) s).2 0 = false by rw [eqI_d, decide_eq_false he]] at hrest ⊢
     exact hrest
end Go.Dc.Pl
end
section
set_option linter.all false
namespace Go.Dc
open Go Go.Hw Go.Proofs
set_option maxRecDepth 100000
theorem dec9 {H : Type} : ∀ (n : Nat) (d : DataW H) (c : List CV), cvD Tryd.prog n 9 d = some c -> ∃ x : ByteArray, c = Enc.enc x
 | n, d, c, h => by
  obtain ⟨m, rfl⟩ := cvD_string Tryd.underlying9 h
  exact ⟨m, rfl⟩
theorem dec3 {H : Type} : ∀ (n : Nat) (d : DataW H) (c : List CV), cvD Tryd.prog n 3 d = some c -> ∃ x : Int, c = Enc.enc x
 | n, d, c, h => by
  obtain ⟨m, hm, rfl⟩ := cvD_int Tryd.underlying3 h
  exact ⟨m, rfl⟩
theorem dec66 {H : Type} : ∀ (n : Nat) (d : DataW H) (c : List CV), cvD Tryd.prog n 66 d = some c -> ∃ x : Var, c = Enc.enc x
 | n, d, c, h => by
  obtain ⟨m, l, hm, rfl, hl, h⟩ := cvD_structW Tryd.underlying66 h
  have hl : l.length = 2 := hl
  match l, hl with
  | [d0, d1], _ =>
   simp only [List.zipWith] at h
   obtain ⟨a0, b0, h0, k1, rfl⟩ := concatM_cons h
   obtain ⟨a1, b1, h1, k2, rfl⟩ := concatM_cons k1
   obtain rfl := concatM_nil k2
   obtain ⟨x0, rfl⟩ := dec9 m _ _ h0
   obtain ⟨x1, rfl⟩ := dec3 m _ _ h1
   exact ⟨⟨x0, x1⟩, by rw [enc_Var]; first | rfl | simp⟩
theorem dec22 {H : Type} : ∀ (n : Nat) (d : DataW H) (c : List CV), cvD Tryd.prog n 22 d = some c -> ∃ x : List Var, c = Enc.enc x
 | n, d, c, h => cvD_sliceW Tryd.underlying22 (fun m hm d c h => dec66 m d c h) h
theorem dec23 {H : Type} : ∀ (n : Nat) (d : DataW H) (c : List CV), cvD Tryd.prog n 23 d = some c -> ∃ x : List ByteArray, c = Enc.enc x
 | n, d, c, h => cvD_sliceW Tryd.underlying23 (fun m hm d c h => dec9 m d c h) h
theorem dec68 {H : Type} : ∀ (n : Nat) (d : DataW H) (c : List CV), cvD Tryd.prog n 68 d = some c -> ∃ x : Int, c = Enc.enc x
 | n, d, c, h => by
  obtain ⟨m, hm, rfl⟩ := cvD_int Tryd.underlying68 h
  exact ⟨m, rfl⟩
theorem dec69 {H : Type} : ∀ (n : Nat) (d : DataW H) (c : List CV), cvD Tryd.prog n 69 d = some c -> ∃ x : Int, c = Enc.enc x
 | n, d, c, h => by
  obtain ⟨m, hm, rfl⟩ := cvD_int Tryd.underlying69 h
  exact ⟨m, rfl⟩
theorem dec70 {H : Type} : ∀ (n : Nat) (d : DataW H) (c : List CV), cvD Tryd.prog n 70 d = some c -> ∃ x : Int, c = Enc.enc x
 | n, d, c, h => by
  obtain ⟨m, hm, rfl⟩ := cvD_int Tryd.underlying70 h
  exact ⟨m, rfl⟩
theorem dec72 {H : Type} : ∀ (n : Nat) (d : DataW H) (c : List CV), cvD Tryd.prog n 72 d = some c -> ∃ x : Inst, c = Enc.enc x
 | n, d, c, h => by
  obtain ⟨m, l, hm, rfl, hl, h⟩ := cvD_structW Tryd.underlying72 h
  have hl : l.length = 8 := hl
  match l, hl with
  | [d0, d1, d2, d3, d4, d5, d6, d7], _ =>
   simp only [List.zipWith] at h
   obtain ⟨a0, b0, h0, k1, rfl⟩ := concatM_cons h
   obtain ⟨a1, b1, h1, k2, rfl⟩ := concatM_cons k1
   obtain ⟨a2, b2, h2, k3, rfl⟩ := concatM_cons k2
   obtain ⟨a3, b3, h3, k4, rfl⟩ := concatM_cons k3
   obtain ⟨a4, b4, h4, k5, rfl⟩ := concatM_cons k4
   obtain ⟨a5, b5, h5, k6, rfl⟩ := concatM_cons k5
   obtain ⟨a6, b6, h6, k7, rfl⟩ := concatM_cons k6
   obtain ⟨a7, b7, h7, k8, rfl⟩ := concatM_cons k7
   obtain rfl := concatM_nil k8
   obtain ⟨x0, rfl⟩ := dec68 m _ _ h0
   obtain ⟨x1, rfl⟩ := dec3 m _ _ h1
   obtain ⟨x2, rfl⟩ := dec3 m _ _ h2
   obtain ⟨x3, rfl⟩ := dec3 m _ _ h3
   obtain ⟨x4, rfl⟩ := dec3 m _ _ h4
   obtain ⟨x5, rfl⟩ := dec3 m _ _ h5
   obtain ⟨x6, rfl⟩ := dec69 m _ _ h6
   obtain ⟨x7, rfl⟩ := dec70 m _ _ h7
   exact ⟨⟨x0, x1, x2, x3, x4, x5, x6, x7⟩, by rw [enc_Inst]; first | rfl | simp⟩
theorem dec54 {H : Type} : ∀ (n : Nat) (d : DataW H) (c : List CV), cvD Tryd.prog n 54 d = some c -> ∃ x : List Inst, c = Enc.enc x
 | n, d, c, h => cvD_sliceW Tryd.underlying54 (fun m hm d c h => dec72 m d c h) h
theorem dec56 {H : Type} : ∀ (n : Nat) (d : DataW H) (c : List CV), cvD Tryd.prog n 56 d = some c -> ∃ x : Func, c = Enc.enc x
 | n, d, c, h => by
  obtain ⟨m, l, hm, rfl, hl, h⟩ := cvD_structW Tryd.underlying56 h
  have hl : l.length = 2 := hl
  match l, hl with
  | [d0, d1], _ =>
   simp only [List.zipWith] at h
   obtain ⟨a0, b0, h0, k1, rfl⟩ := concatM_cons h
   obtain ⟨a1, b1, h1, k2, rfl⟩ := concatM_cons k1
   obtain rfl := concatM_nil k2
   obtain ⟨x0, rfl⟩ := dec9 m _ _ h0
   obtain ⟨x1, rfl⟩ := dec54 m _ _ h1
   exact ⟨⟨x0, x1⟩, by rw [enc_Func]; first | rfl | simp⟩
theorem dec24 {H : Type} : ∀ (n : Nat) (d : DataW H) (c : List CV), cvD Tryd.prog n 24 d = some c -> ∃ x : List Func, c = Enc.enc x
 | n, d, c, h => cvD_sliceW Tryd.underlying24 (fun m hm d c h => dec56 m d c h) h
theorem dec74 {H : Type} : ∀ (n : Nat) (d : DataW H) (c : List CV), cvD Tryd.prog n 74 d = some c -> ∃ x : Start, c = Enc.enc x
 | n, d, c, h => by
  obtain ⟨m, l, hm, rfl, hl, h⟩ := cvD_structW Tryd.underlying74 h
  have hl : l.length = 2 := hl
  match l, hl with
  | [d0, d1], _ =>
   simp only [List.zipWith] at h
   obtain ⟨a0, b0, h0, k1, rfl⟩ := concatM_cons h
   obtain ⟨a1, b1, h1, k2, rfl⟩ := concatM_cons k1
   obtain rfl := concatM_nil k2
   obtain ⟨x0, rfl⟩ := dec3 m _ _ h0
   obtain ⟨x1, rfl⟩ := dec3 m _ _ h1
   exact ⟨⟨x0, x1⟩, by rw [enc_Start]; first | rfl | simp⟩
theorem dec25 {H : Type} : ∀ (n : Nat) (d : DataW H) (c : List CV), cvD Tryd.prog n 25 d = some c -> ∃ x : List Start, c = Enc.enc x
 | n, d, c, h => cvD_sliceW Tryd.underlying25 (fun m hm d c h => dec74 m d c h) h
theorem dec27 {H : Type} : ∀ (n : Nat) (d : DataW H) (c : List CV), cvD Tryd.prog n 27 d = some c -> ∃ x : Program, c = Enc.enc x
 | n, d, c, h => by
  obtain ⟨m, l, hm, rfl, hl, h⟩ := cvD_structW Tryd.underlying27 h
  have hl : l.length = 5 := hl
  match l, hl with
  | [d0, d1, d2, d3, d4], _ =>
   simp only [List.zipWith] at h
   obtain ⟨a0, b0, h0, k1, rfl⟩ := concatM_cons h
   obtain ⟨a1, b1, h1, k2, rfl⟩ := concatM_cons k1
   obtain ⟨a2, b2, h2, k3, rfl⟩ := concatM_cons k2
   obtain ⟨a3, b3, h3, k4, rfl⟩ := concatM_cons k3
   obtain ⟨a4, b4, h4, k5, rfl⟩ := concatM_cons k4
   obtain rfl := concatM_nil k5
   obtain ⟨x0, rfl⟩ := dec22 m _ _ h0
   obtain ⟨x1, rfl⟩ := dec23 m _ _ h1
   obtain ⟨x2, rfl⟩ := dec23 m _ _ h2
   obtain ⟨x3, rfl⟩ := dec24 m _ _ h3
   obtain ⟨x4, rfl⟩ := dec25 m _ _ h4
   exact ⟨⟨x0, x1, x2, x3, x4⟩, by rw [enc_Program]; first | rfl | simp⟩
theorem dec28 {H : Type} : ∀ (n : Nat) (d : DataW H) (c : List CV), cvD Tryd.prog n 28 d = some c -> ∃ x : Int, c = Enc.enc x
 | n, d, c, h => by
  obtain ⟨m, hm, rfl⟩ := cvD_int Tryd.underlying28 h
  exact ⟨m, rfl⟩
theorem dec30 {H : Type} : ∀ (n : Nat) (d : DataW H) (c : List CV), cvD Tryd.prog n 30 d = some c -> ∃ x : Config, c = Enc.enc x
 | n, d, c, h => by
  obtain ⟨m, l, hm, rfl, hl, h⟩ := cvD_structW Tryd.underlying30 h
  have hl : l.length = 2 := hl
  match l, hl with
  | [d0, d1], _ =>
   simp only [List.zipWith] at h
   obtain ⟨a0, b0, h0, k1, rfl⟩ := concatM_cons h
   obtain ⟨a1, b1, h1, k2, rfl⟩ := concatM_cons k1
   obtain rfl := concatM_nil k2
   obtain ⟨x0, rfl⟩ := dec28 m _ _ h0
   obtain ⟨x1, rfl⟩ := dec3 m _ _ h1
   exact ⟨⟨x0, x1⟩, by rw [enc_Config]; first | rfl | simp⟩
theorem dec37 {H : Type} : ∀ (n : Nat) (d : DataW H) (c : List CV), cvD Tryd.prog n 37 d = some c -> ∃ x : List Int, c = Enc.enc x
 | n, d, c, h => cvD_sliceW Tryd.underlying37 (fun m hm d c h => dec3 m d c h) h
theorem dec39 {H : Type} : ∀ (n : Nat) (d : DataW H) (c : List CV), cvD Tryd.prog n 39 d = some c -> ∃ x : R26Job, c = Enc.enc x
 | n, d, c, h => by
  obtain ⟨m, l, hm, rfl, hl, h⟩ := cvD_structW Tryd.underlying39 h
  have hl : l.length = 3 := hl
  match l, hl with
  | [d0, d1, d2], _ =>
   simp only [List.zipWith] at h
   obtain ⟨a0, b0, h0, k1, rfl⟩ := concatM_cons h
   obtain ⟨a1, b1, h1, k2, rfl⟩ := concatM_cons k1
   obtain ⟨a2, b2, h2, k3, rfl⟩ := concatM_cons k2
   obtain rfl := concatM_nil k3
   obtain ⟨x0, rfl⟩ := dec27 m _ _ h0
   obtain ⟨x1, rfl⟩ := dec30 m _ _ h1
   obtain ⟨x2, rfl⟩ := dec37 m _ _ h2
   exact ⟨⟨x0, x1, x2⟩, by rw [enc_R26Job]; first | rfl | simp⟩
mutual
theorem dec75 {H : Type} : ∀ (n : Nat) (d : DataW H) (c : List CV), cvD Tryd.prog n 75 d = some c -> ∃ x : List Tree, c = Enc.enc x
 | n, d, c, h => cvD_sliceW Tryd.underlying75 (fun m hm d c h => dec77 m d c h) h
 termination_by n => n
theorem dec77 {H : Type} : ∀ (n : Nat) (d : DataW H) (c : List CV), cvD Tryd.prog n 77 d = some c -> ∃ x : Tree, c = Enc.enc x
 | n, d, c, h => by
  obtain ⟨m, l, hm, rfl, hl, h⟩ := cvD_structW Tryd.underlying77 h
  have hl : l.length = 2 := hl
  match l, hl with
  | [d0, d1], _ =>
   simp only [List.zipWith] at h
   obtain ⟨a0, b0, h0, k1, rfl⟩ := concatM_cons h
   obtain ⟨a1, b1, h1, k2, rfl⟩ := concatM_cons k1
   obtain rfl := concatM_nil k2
   obtain ⟨x0, rfl⟩ := dec3 m _ _ h0
   obtain ⟨x1, rfl⟩ := dec75 m _ _ h1
   exact ⟨⟨x0, x1⟩, by rw [enc_Tree]; first | rfl | simp⟩
 termination_by n => n
end
theorem dec79 {H : Type} : ∀ (n : Nat) (d : DataW H) (c : List CV), cvD Tryd.prog n 79 d = some c -> ∃ x : Frame, c = Enc.enc x
 | n, d, c, h => by
  obtain ⟨m, l, hm, rfl, hl, h⟩ := cvD_structW Tryd.underlying79 h
  have hl : l.length = 3 := hl
  match l, hl with
  | [d0, d1, d2], _ =>
   simp only [List.zipWith] at h
   obtain ⟨a0, b0, h0, k1, rfl⟩ := concatM_cons h
   obtain ⟨a1, b1, h1, k2, rfl⟩ := concatM_cons k1
   obtain ⟨a2, b2, h2, k3, rfl⟩ := concatM_cons k2
   obtain rfl := concatM_nil k3
   obtain ⟨x0, rfl⟩ := dec3 m _ _ h0
   obtain ⟨x1, rfl⟩ := dec37 m _ _ h1
   obtain ⟨x2, rfl⟩ := dec77 m _ _ h2
   exact ⟨⟨x0, x1, x2⟩, by rw [enc_Frame]; first | rfl | simp⟩
theorem dec40 {H : Type} : ∀ (n : Nat) (d : DataW H) (c : List CV), cvD Tryd.prog n 40 d = some c -> ∃ x : List Frame, c = Enc.enc x
 | n, d, c, h => cvD_sliceW Tryd.underlying40 (fun m hm d c h => dec79 m d c h) h
theorem dec4 {H : Type} : ∀ (n : Nat) (d : DataW H) (c : List CV), cvD Tryd.prog n 4 d = some c -> ∃ x : Bool, c = Enc.enc x
 | n, d, c, h => by
  obtain ⟨m, rfl⟩ := cvD_bool Tryd.underlying4 h
  exact ⟨m, rfl⟩
theorem dec42 {H : Type} : ∀ (n : Nat) (d : DataW H) (c : List CV), cvD Tryd.prog n 42 d = some c -> ∃ x : Snapshot, c = Enc.enc x
 | n, d, c, h => by
  obtain ⟨m, l, hm, rfl, hl, h⟩ := cvD_structW Tryd.underlying42 h
  have hl : l.length = 4 := hl
  match l, hl with
  | [d0, d1, d2, d3], _ =>
   simp only [List.zipWith] at h
   obtain ⟨a0, b0, h0, k1, rfl⟩ := concatM_cons h
   obtain ⟨a1, b1, h1, k2, rfl⟩ := concatM_cons k1
   obtain ⟨a2, b2, h2, k3, rfl⟩ := concatM_cons k2
   obtain ⟨a3, b3, h3, k4, rfl⟩ := concatM_cons k3
   obtain rfl := concatM_nil k4
   obtain ⟨x0, rfl⟩ := dec40 m _ _ h0
   obtain ⟨x1, rfl⟩ := dec4 m _ _ h1
   obtain ⟨x2, rfl⟩ := dec3 m _ _ h2
   obtain ⟨x3, rfl⟩ := dec3 m _ _ h3
   exact ⟨⟨x0, x1, x2, x3⟩, by rw [enc_Snapshot]; first | rfl | simp⟩
theorem dec5 {H : Type} : ∀ (n : Nat) (d : DataW H) (c : List CV), cvD Tryd.prog n 5 d = some c -> ∃ x : UInt8, c = Enc.enc x
 | n, d, c, h => by
  obtain ⟨m, hm, rfl⟩ := cvD_int Tryd.underlying5 h
  have hm : 0 <= m /\ m <= 255 := by simpa [IntKind.min, IntKind.max, IntKind.signed, IntKind.bits] using hm
  exact ⟨UInt8.ofNat m.toNat, by rw [enc_u8]; congr 3; simp; omega⟩
theorem dec43 {H : Type} : ∀ (n : Nat) (d : DataW H) (c : List CV), cvD Tryd.prog n 43 d = some c -> ∃ x : List UInt8, c = Enc.enc x
 | n, d, c, h => cvD_sliceW Tryd.underlying43 (fun m hm d c h => dec5 m d c h) h
theorem closed : okS Tryd.prog [39, 27, 22, 66, 9, 3, 23, 24, 56, 54, 72, 68, 69, 70, 25, 74, 30, 28, 37, 42, 40, 79, 77, 75, 4, 43, 5] = true := by kernel_rfl
theorem bulk_of {H : Type} {n : Nat} {t : TypeId} {d : DataW H} {c : List CV} (h : cvD Tryd.prog n t d = some c) : bkL c <= Go.Proofs.YtjbebaachciedaaDoor.Rows.uptoBulk d :=
 cvD_bk Go.Proofs.YtjbebaachciedaaDoor.Rows.uptoBulk Go.Proofs.YtjbebaachciedaaDoor.Rows.uptoBulkAll (by simp [Go.Proofs.YtjbebaachciedaaDoor.Rows.uptoBulkAll]) (fun d r => by simp [Go.Proofs.YtjbebaachciedaaDoor.Rows.uptoBulkAll]) (fun l => by cases l <;> simp [Go.Proofs.YtjbebaachciedaaDoor.Rows.uptoBulk]) (fun l => by simp [Go.Proofs.YtjbebaachciedaaDoor.Rows.uptoBulk]) (by simp [Go.Proofs.YtjbebaachciedaaDoor.Rows.uptoBulk]) (fun l s => by simp only [Go.Proofs.YtjbebaachciedaaDoor.Rows.uptoBulk]; omega) (fun l => by simp only [Go.Proofs.YtjbebaachciedaaDoor.Rows.uptoBulk]; omega) n t d c h
theorem open39 {H : Type} {enc : TypeId × Value -> H} {W : World} {sp : Nat -> Bool} {held : Bool} {v : Value} {d : DataW H} {p : List MemPlace} {r : Go.Reach} {b0 : Nat} (hv : Value.okWide Tryd.prog W r b0 39 v) (h : DataW.Trod enc Tryd.prog W 0 sp held 39 v d p) :
  ∃ x : R26Job, (okL (Enc.enc x) /\ bkL (Enc.enc x) <= Go.Proofs.YtjbebaachciedaaDoor.Rows.uptoBulk d) /\ AVRep W m0 (fun _ => False) v (.agg ((Enc.enc x).map .p)) := by
 obtain ⟨m, cvs, e, hr⟩ := repW_struct closed (by decide) Tryd.underlying39 hv h
 obtain ⟨x, rfl⟩ := dec39 m d cvs e
 exact ⟨x, ⟨cvD_okL _ _ _ _ e, bulk_of e⟩, hr⟩
theorem open42 {H : Type} {enc : TypeId × Value -> H} {W : World} {sp : Nat -> Bool} {held : Bool} {v : Value} {d : DataW H} {p : List MemPlace} {r : Go.Reach} {b0 : Nat} (hv : Value.okWide Tryd.prog W r b0 42 v) (h : DataW.Trod enc Tryd.prog W 0 sp held 42 v d p) :
  ∃ x : Snapshot, (okL (Enc.enc x) /\ bkL (Enc.enc x) <= Go.Proofs.YtjbebaachciedaaDoor.Rows.uptoBulk d) /\ AVRep W m0 (fun _ => False) v (.agg ((Enc.enc x).map .p)) := by
 obtain ⟨m, cvs, e, hr⟩ := repW_struct closed (by decide) Tryd.underlying42 hv h
 obtain ⟨x, rfl⟩ := dec42 m d cvs e
 exact ⟨x, ⟨cvD_okL _ _ _ _ e, bulk_of e⟩, hr⟩
theorem open43 {H : Type} {enc : TypeId × Value -> H} {W : World} {sp : Nat -> Bool} {held : Bool} {v : Value} {d : DataW H} {p : List MemPlace} {r : Go.Reach} {b0 : Nat} (hv : Value.okWide Tryd.prog W r b0 43 v) (h : DataW.Trod enc Tryd.prog W 0 sp held 43 v d p) :
  ∃ x : List UInt8, (okL (Enc.enc x) /\ bkL (Enc.enc x) <= Go.Proofs.YtjbebaachciedaaDoor.Rows.uptoBulk d) /\ AVRep W m0 (fun _ => False) v (.cell (.p (.sl x.length (encL x)))) := by
 obtain ⟨m, c, e, hr⟩ := repW_slice closed (by decide) Tryd.underlying43 hv h
 obtain ⟨x, e2⟩ := dec43 m d _ e
 obtain rfl : c = .sl x.length (encL x) := by simpa using e2
 exact ⟨x, ⟨cvD_okL _ _ _ _ e, bulk_of e⟩, hr⟩
/-- The package variables as the rows lay them. -/
theorem gN1 : Tryd.prog.globalNamed "modelcheck/value.names" = some 1 := by kernel_rfl
theorem gN0 : Tryd.prog.globalNamed "modelcheck/inst.rows" = some 0 := by kernel_rfl
theorem gT1 : (Tryd.prog.globals[1]?).map (·.type) = some 158 := by kernel_rfl
set_option maxRecDepth 100000 in
theorem gC1 : cvD Tryd.prog 6 158 (Go.Proofs.YtjbebaachciedaaDoor.Rows.laid_modelcheck_value_names (H := Unit)) = some (encL namesTab) := by kernel_rfl
theorem gT0 : (Tryd.prog.globals[0]?).map (·.type) = some 154 := by kernel_rfl
set_option maxRecDepth 100000 in
theorem gC0 : cvD Tryd.prog 6 154 (Go.Proofs.YtjbebaachciedaaDoor.Rows.laid_modelcheck_inst_rows (H := Unit)) = some (encL rowsTab) := by kernel_rfl
set_option maxRecDepth 100000 in
theorem globs {W : World} (laid : List (String × DataW Unit)) (he : laid = [("modelcheck/value.names", Go.Proofs.YtjbebaachciedaaDoor.Rows.laid_modelcheck_value_names), ("modelcheck/inst.rows", Go.Proofs.YtjbebaachciedaaDoor.Rows.laid_modelcheck_inst_rows)])
  (h : laidMetH Tryd.prog laid W) : ∀ g cs, Globals.G g = some cs -> AVRep W m0 (fun _ => False) (.pointer (some ⟨g, 0, none⟩)) (.cell (.ep cs 0)) := by
 subst he
 rw [MakeChecks.laidMetH_plain _ _ _ (by kernel_rfl)] at h
 obtain ⟨ps, ⟨g0, t0, cs0, f0, p0, q0, hg0, ht0, hv0, hd0, ⟨g1, t1, cs1, f1, p1, q1, hg1, ht1, hv1, hd1, _, _⟩, _⟩, _, _⟩ := h
 obtain rfl := Option.some.inj (gN1.symm.trans hg0)
 obtain rfl := Option.some.inj (gT1.symm.trans ht0)
 obtain rfl := Option.some.inj (gN0.symm.trans hg1)
 obtain rfl := Option.some.inj (gT0.symm.trans ht1)
 intro g cs hgc
 have hgc : (if g = 0 then some (encL rowsTab) else if g = 1 then some (encL namesTab) else none) = some cs := hgc
 split at hgc
 ·rename_i e
  subst e
  cases hgc
  exact rep_global (m := 6) (t := 154) (by kernel_rfl) hd1 gC0 fun j => by simpa using World.var?_cell hg1 hv1 j
 ·split at hgc
  ·rename_i e
   subst e
   cases hgc
   exact rep_global (m := 6) (t := 158) (by kernel_rfl) hd0 gC1 fun j => by simpa using World.var?_cell hg0 hv0 j
  ·cases hgc
end Go.Dc
end
