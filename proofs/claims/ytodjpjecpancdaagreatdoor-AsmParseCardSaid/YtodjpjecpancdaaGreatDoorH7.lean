/- Contracts of functions, by their numbers, and the laws that walk them. Conditions: as each states. -/
import Derived.Test.YtodjpjecpancdaaGreatDoorH4
import Derived.Test.YtodjpjecpancdaaGreatDoorH6
import Derived.Test.YtodjpjecpancdaaGreatDoorH5
set_option linter.all false
set_option maxRecDepth 100000
set_option maxHeartbeats 4000000
section
namespace Go.Dc
open Go Go.Hw Go.Proofs
def zdX(fuelN:Nat)(a0:ByteArray):Option (Program × Fault):=
 Option.bind (zfA fuelN a0) (fun y1=>cond (!(eqI y1.2.Err 0)) (some (({ Vars:=[],Mutexes:=[],Conds:=[],Funcs:=[],Threads:=[] }:Program),y1.2)) (Option.bind (zlX fuelN ({ tokens:=y1.1,end_:=((a0.size:Nat):Int),p:=({ Vars:=([]:List Var),Mutexes:=([]:List ByteArray),Conds:=([]:List ByteArray),Funcs:=([]:List Func),Threads:=([]:List Start) }:Program),names:=([]:List ANm),funcs:=([]:List Int),insts:=([]:List (List Int)) }:APr)) (fun y4=>(match y4 with|.inl e6=>some (({ Vars:=[],Mutexes:=[],Conds:=[],Funcs:=[],Threads:=[] }:Program),e6)|.inr y7=>Option.bind (zlY y7.p.Vars y7.p.Mutexes y7.p.Conds y7.p.Funcs y7.p.Threads y7.names) (fun y8=>(match y8 with|.inl e10=>some (({ Vars:=[],Mutexes:=[],Conds:=[],Funcs:=[],Threads:=[] }:Program),e10)|.inr y11=>Option.bind (zjd fuelN y11.1 y11.2.1 y11.2.2.1 y11.2.2.2.1 y11.2.2.2.2 y7.funcs y7.insts) (fun y12=>(match y12 with|.inl e14=>some (({ Vars:=[],Mutexes:=[],Conds:=[],Funcs:=[],Threads:=[] }:Program),e14)|.inr y15=>some (({ Vars:=y11.1,Mutexes:=y11.2.1,Conds:=y11.2.2.1,Funcs:=y11.2.2.2.1,Threads:=y11.2.2.2.2 }:Program),({ Err:=0,At:=0 }:Fault))))))))))
theorem zfq{fuelN:Nat}{a0:ByteArray}{r:Program × Fault}(hs:zdX fuelN a0=some r):At Tryz.prog 6 [sV a0] (.tup [.agg (eA r.1),.agg (eA r.2)]):=by
 refine zab (by kernel_rfl) fun hb=>?_
 refine znI mixed Tryz.func6 (by kernel_rfl) rfl (by kernel_rfl) rfl rfl fun Q hQ=>?_
 rw[zdX]at hs
 refine goR f0 ?_
 refine zdV (by rfl) (by kernel_rfl) ?_
 refine goR f0 ?_
 refine zdV (by rfl) (by kernel_rfl) ?_
 refine goR f0 ?_
 revert hs;refine bK fun y1 hx2 hs=>?_
 refine cA f0 (zja hx2) ?_
 refine goR f0 ?_
 refine zdV (by rfl) (by kernel_rfl) ?_
 refine goR f0 ?_
 revert hs;refine cS f0 ?_ ?_<;>intro h3 hs
 ·refine goD f0 ?_
  obtain rfl:=sj hs
  exact hQ _ _ (rg f0 (Gh.unz _))
 ·refine goR f0 ?_
  refine zjT (by rfl) (by rfl) (by kernel_rfl) (by kernel_rfl) ?_
  refine goR f0 ?_
  refine zno (g:=13) (caps:=[.inl (.o 1 0 0),.inl (.o 1 1 0)]) (by simp<;>rfl) fun Q hQ=>?_
  refine goN f0 ?_
  refine za7 ?_
  refine goN f0 ?_
  refine zaX (by rfl) ((Gh.frz _ (.o 2 1 0)).trans ((Gh.own0 _ (.o 5 4 0) 2 (.sp 2 0 []) rfl).trans ((Gh.own0 _ (.o 5 4 0) 3 (.sp 1 0 []) rfl).trans ((Gh.own0 _ (.o 5 4 0) 4 (.sp 1 0 []) rfl).trans ((Gh.own0 _ (.o 5 4 0) 5 (.sl 2 0 []) rfl).trans ((Gh.own0 _ (.o 5 4 0) 6 (.sp 2 0 []) rfl).trans ((Gh.own0 _ (.o 5 4 0) 7 (.sp 7 0 []) rfl).trans ((Gh.own0 _ (.o 5 4 0) 8 (.sp 1 0 []) rfl).trans (Gh.own0 _ (.o 5 4 0) 9 (.sl 1 0 []) rfl))))))))) ?_
  try simp only[St.frz,St.pur]
  refine goR f0 ?_
  revert hs;refine bK fun y4 hx5 hs=>?_
  rcases y4 with e6|y7
  ·try dsimp only at hs
   refine cXd f0 (zlU hx5) [.o 5 4 0] ?_
   refine goR f0 ?_
   obtain rfl:=sj hs
   refine hQ _ _ (pD (Gh.refl _) [.inl (.o 1 0 0),.inl (.o 1 1 0)] [.o 1 0 0,.o 1 1 0] (zp5 e6 .z .z .z .z .z (nC y1.2.Err) (nC y1.2.At)) (Gh.unz _) (by simp[St.frz,St.pur]<;>rfl) (by simp[St.frz,St.pur]<;>rfl) (by simp[St.frz,St.pur]<;>rfl) (by simp) (by simp[St.frz,St.pur];rfl) (by simp[St.frz,St.pur];rfl) (by first|rfl |(simp[St.frz,St.pur];done) |(simp[St.frz,St.pur];rfl)) (pv f0))
  ·try dsimp only at hs
   refine cB f0 (zlU hx5) [.o 5 4 0] ?_
   refine goR f0 ?_
   revert hs;refine bK fun y8 hx9 hs=>?_
   rcases y8 with e10|y11
   ·try dsimp only at hs
    refine cXd f0 (zlV (c0_0:=⟨AC.toF [.o 5 4 0] (sC y7.tokens),by simp⟩) (c0_1:=⟨AC.toF [.o 5 4 0] (nC y7.end_),by simp⟩) (c0_8:=⟨AC.toF [.o 5 4 0] (.own (.sp 1 y7.funcs.length (encL y7.funcs))),by simp⟩) (c0_9:=⟨AC.toF [.o 5 4 0] (.own (.sl 1 y7.insts.length (otL y7.insts))),by simp⟩) hx9) [.o 5 4 0] ?_
    refine goR f0 ?_
    obtain rfl:=sj hs
    refine hQ _ _ (pD (Gh.refl _) [.inl (.o 1 0 0),.inl (.o 1 1 0)] [.o 1 0 0,.o 1 1 0] (zp5 e10 .z .z .z .z .z (nC y1.2.Err) (nC y1.2.At)) (Gh.unz _) (by simp[St.frz,St.pur]<;>rfl) (by simp[St.frz,St.pur]<;>rfl) (by simp[St.frz,St.pur]<;>rfl) (by simp) (by simp[St.frz,St.pur];rfl) (by simp[St.frz,St.pur];rfl) (by first|rfl |(simp[St.frz,St.pur];done) |(simp[St.frz,St.pur];rfl)) (pv f0))
   ·try dsimp only at hs
    refine cB f0 (zlV (c0_0:=⟨AC.toF [.o 5 4 0] (sC y7.tokens),by simp⟩) (c0_1:=⟨AC.toF [.o 5 4 0] (nC y7.end_),by simp⟩) (c0_8:=⟨AC.toF [.o 5 4 0] (.own (.sp 1 y7.funcs.length (encL y7.funcs))),by simp⟩) (c0_9:=⟨AC.toF [.o 5 4 0] (.own (.sl 1 y7.insts.length (otL y7.insts))),by simp⟩) hx9) [.o 5 4 0] ?_
    refine goR f0 ?_
    revert hs;refine bK fun y12 hx13 hs=>?_
    rcases y12 with e14|y15
    ·try dsimp only at hs
     refine cXd f0 (zjZ (c0_0:=⟨AC.toF [.o 5 4 0] (sC y7.tokens),by simp⟩) (c0_1:=⟨AC.toF [.o 5 4 0] (nC y7.end_),by simp⟩) (c0_7:=⟨AC.toF [.o 5 4 0] (.own (.sp 7 y7.names.length (encL y7.names))),by simp⟩) hx13) [.o 5 4 0] ?_
     refine goR f0 ?_
     obtain rfl:=sj hs
     refine hQ _ _ (pD (Gh.refl _) [.inl (.o 1 0 0),.inl (.o 1 1 0)] [.o 1 0 0,.o 1 1 0] (zp5 e14 .z .z .z .z .z (nC y1.2.Err) (nC y1.2.At)) (Gh.unz _) (by simp[St.frz,St.pur]<;>rfl) (by simp[St.frz,St.pur]<;>rfl) (by simp[St.frz,St.pur]<;>rfl) (by simp) (by simp[St.frz,St.pur];rfl) (by simp[St.frz,St.pur];rfl) (by first|rfl |(simp[St.frz,St.pur];done) |(simp[St.frz,St.pur];rfl)) (pv f0))
    ·try dsimp only at hs
     refine cB f0 (zjZ (c0_0:=⟨AC.toF [.o 5 4 0] (sC y7.tokens),by simp⟩) (c0_1:=⟨AC.toF [.o 5 4 0] (nC y7.end_),by simp⟩) (c0_7:=⟨AC.toF [.o 5 4 0] (.own (.sp 7 y7.names.length (encL y7.names))),by simp⟩) hx13) [.o 5 4 0] ?_
     refine goR f0 ?_
     obtain rfl:=sj hs
     refine hQ _ _ (rD ((Gh.frz _ (.o 9 3 2)).trans ((Gh.frz _ (.o 9 3 3)).trans ((Gh.frz _ (.o 9 3 4)).trans ((Gh.frz _ (.o 9 3 5)).trans (Gh.frz _ (.o 9 3 6)))))) [.inl (.o 1 0 0),.inl (.o 1 1 0)] [.o 1 0 0,.o 1 1 0] (zwX [sC y11.1,sC y11.2.1,sC y11.2.2.1,sC y11.2.2.2.1,sC y11.2.2.2.2] [nC 0,nC 0]) (Gh.refl _) (by simp[St.frz,St.pur]<;>rfl) (by simp[St.frz,St.pur]<;>rfl) (by simp[St.frz,St.pur]<;>rfl) (by simp) (by simp[St.frz,St.pur];rfl) (by simp[St.frz,St.pur];rfl) (by first|rfl |(simp[St.frz,St.pur];done) |(simp[St.frz,St.pur];rfl)) (pv f0))
end Go.Dc
end
section
namespace Go.Dc.Pa
open Go Go.Hw Go.Dc Go.Dc.Pl
def zkV(funcs:List Int)(insts:List (List Int))(f i:Int):Int:=
 if 0<=f then(if f < insts.length /\ 0<=i /\ i < (gd insts f.toNat).length then gd (gd insts f.toNat) i.toNat else if f < funcs.length then gd funcs f.toNat else 0) else 0
def zlA(p:Program)(funcs:List Int)(insts:List (List Int)):Option Fault:=if(chk p).1=0 then none else some ⟨(chk p).1,zkV funcs insts (chk p).2.1 (chk p).2.2⟩
theorem zdU{α:Type}[Inhabited α]{l:List α}{i:Int}(h:0<=i)(h2:i < l.length):getI l i=some (gd l i.toNat):=by
 rw[getI,if_pos h];exact zdp (by omega)
theorem zmZ{α:Type}[Inhabited α]{l:List α}{k:Nat}:l.set k (gd l k)=l:=by
 rcases Nat.lt_or_ge k l.length with h|h
 ·have:=zdp h
  apply List.ext_getElem?
  intro j
  rw[List.getElem?_set]
  split
  ·rename_i e;subst e;first|exact this.symm |(rw[if_pos h];exact this.symm)
  ·rfl
 ·exact List.set_eq_of_length_le h
theorem zn6{p:Program}(hp:Small p)(funcs:List Int)(insts:List (List Int)):zjd 67108864 p.Vars p.Mutexes p.Conds p.Funcs p.Threads funcs insts=some (match zlA p funcs insts with|some e=>.inl e|none=>.inr ()):=by
 rw[zjd,show({ Vars:=p.Vars,Mutexes:=p.Mutexes,Conds:=p.Conds,Funcs:=p.Funcs,Threads:=p.Threads }:Program)=p from rfl,own_check hp,Option.bind_some,zlA,zaL]
 generalize chk p=r
 obtain⟨e,f,i⟩:=r
 dsimp only
 by_cases he:e=0
 ·rw[if_pos he,decide_eq_true he];rfl
 ·rw[if_neg he,decide_eq_false he,cond_false,zkV]
  simp only[zaH,Option.bind_some,za2,zaV]
  by_cases hf:0<=f
  ·rw[if_pos hf,decide_eq_false (by omega),Bool.not_false,cond_true]
   by_cases h1:f < insts.length /\ 0<=i
   ·rw[decide_eq_true h1.1,decide_eq_false (show ¬ i < 0 by omega),Bool.not_false,Bool.and_true,cond_true,zdU hf h1.1,Option.bind_some,zmZ,zdU hf h1.1]
    by_cases h2:i < (gd insts f.toNat).length
    ·rw[if_pos ⟨h1.1,h1.2,h2⟩,decide_eq_true (by omega),cond_true,Option.bind_some,zdU h1.2 h2];rfl
    ·rw[if_neg (by omega),decide_eq_false (by omega),cond_false]
     by_cases h3:f < funcs.length
     ·rw[if_pos h3,decide_eq_true (by omega),cond_true,zdU hf h3];rfl
     ·rw[if_neg h3,decide_eq_false (by omega),cond_false]
   ·rw[if_neg (by omega),show(decide (f < (insts.length:Int)) && !(decide (i < 0)))=false by rw[Bool.and_eq_false_iff];simp only[decide_eq_false_iff_not,Bool.not_eq_false',decide_eq_true_eq];omega,cond_false]
    by_cases h3:f < funcs.length
    ·rw[if_pos h3,decide_eq_true (by omega),cond_true,zdU hf h3];rfl
    ·rw[if_neg h3,decide_eq_false (by omega),cond_false]
  ·rw[if_neg hf,decide_eq_true (by omega)];rfl
def zqy:Program:={ Vars:=[],Mutexes:=[],Conds:=[],Funcs:=[],Threads:=[] }
def x0 (ts:List Token)(e:Int):APr:={ tokens:=ts,end_:=e,p:=zqy,names:=[],funcs:=[],insts:=[] }
def runM (ts:List Token)(e:Int):Fault ⊕ Program:=match zl2 (x0 ts e) with
 |.inl f=>.inl f
 |.inr y=>match zhQ y.names y.p with
  |.inl f=>.inl f
  |.inr q=>match zlA q y.funcs y.insts with
   |some f=>.inl f
   |none=>.inr q
def zm8(s:ByteArray):Program × Fault:=if(zio s).2.Err=0 then(match runM (zio s).1 ((s.size:Nat):Int) with|.inl f=>(zqy,f)|.inr p=>(p,⟨0,0⟩)) else(zqy,(zio s).2)
theorem inv0{ts:List Token}(e:Int)(h:ts.length<=1048576):Inv false (x0 ts e):=by
 refine⟨?_,?_,?_,?_,?_,?_,rfl,rfl,(fun f h=>by cases h),(fun k h=>by cases h),(fun n h=>by cases h),(fun h=>by cases h)⟩
 all_goals simp only[x0,zqy,List.length_nil,capN];omega
theorem zm0(s:ByteArray):(zio s).1.length<=16384:=by
 rw[zio]
 split
 ·simp
 ·split
  ·rename_i ts h
   have:=zmy _ _ _ h
   rw[zbZ]at this;dsimp only;omega
  ·simp
theorem zph(s:ByteArray):zdX 67108864 s=some (zm8 s):=by
 rw[zdX,zq2 rfl,Option.bind_some,zm8,zaL]
 have hl:=zm0 s
 generalize zio s=r at hl
 by_cases he:r.2.Err=0
 ·rw[if_pos he,decide_eq_true he,Bool.not_true,cond_false,runM]
  have hi:=inv0 (ts:=r.1) ((s.size:Nat):Int) (by omega)
  rw[show({ tokens:=r.1,end_:=((s.size:Nat):Int),p:=({ Vars:=([]:List Var),Mutexes:=([]:List ByteArray),Conds:=([]:List ByteArray),Funcs:=([]:List Func),Threads:=([]:List Start) }:Program),names:=([]:List ANm),funcs:=([]:List Int),insts:=([]:List (List Int)) }:APr)=x0 r.1 ((s.size:Nat):Int) from rfl,zq1 hi,Option.bind_some]
  cases ht:zl2 (x0 r.1 ((s.size:Nat):Int)) with
  |inl f=>rfl
  |inr y=>
   have hy:=(zqH hi ht).1
   dsimp only
   rw[zq5 hy,Option.bind_some]
   cases hk:zhQ y.names y.p with
   |inl f=>rfl
   |inr q=>
    obtain⟨s1,s2,s3,s4,s5,s6⟩:=zhc _ _ _ hy.small hy.nok hk
    dsimp only
    rw[zn6 (zgc hy.small s1 s2 s3 s4 s5 s6),Option.bind_some]
    cases zlA q y.funcs y.insts<;>rfl
 ·rw[if_neg he,decide_eq_false he];rfl
end Go.Dc.Pa
end
section
namespace Go.Dc.Pa
open Go Go.Hw Go.Dc Go.Dc.Pl
inductive F2 {α β:Type} (R:α->β->Prop):List α->List β->Prop
 |nil:F2 R [] []
 |cons {a b l r}:R a b->F2 R l r->F2 R (a::l) (b::r)
theorem F2.len{α β:Type}{R:α->β->Prop}{l:List α}{r:List β}(h:F2 R l r):l.length=r.length:=by
 induction h with
 |nil=>rfl
 |cons _ _ ih=>simp[ih]
theorem F2.app{α β:Type}{R:α->β->Prop}{l:List α}{r:List β}{a:α}{b:β}(h:F2 R l r)(hab:R a b):F2 R (l++[a]) (r++[b]):=by
 induction h with
 |nil=>exact .cons hab .nil
 |cons h1 _ ih=>exact .cons h1 ih
theorem F2.gd{α β:Type}[Inhabited α][Inhabited β]{R:α->β->Prop}{l:List α}{r:List β}(h:F2 R l r):∀ {k:Nat},k < l.length->R (gd l k) (gd r k):=by
 induction h with
 |nil=>intro k hk;simp at hk
 |cons h1 _ ih=>
  intro k hk
  cases k with
  |zero=>exact h1
  |succ k=>exact ih (by simpa using hk)
theorem F2.set{α β:Type}{R:α->β->Prop}{l:List α}{r:List β}{a:α}{b:β}(h:F2 R l r)(hab:R a b):∀(k:Nat),F2 R (l.set k a) (r.set k b):=by
 induction h with
 |nil=>intro k;exact .nil
 |cons h1 h2 ih=>
  intro k
  cases k with
  |zero=>exact .cons hab h2
  |succ k=>exact .cons h1 (ih k)
section
variable (A:Int->Int->Prop) (e e':Int) (X:List Token)
def tokR (t t':Token):Prop:=t'.Kind=t.Kind /\ t'.Text=t.Text /\ t'.N=t.N /\ A t.At t'.At
def fltR (f f':Fault):Prop:=f'.Err=f.Err /\ A f.At f'.At /\ f.Err ≠ 0
def namR (n n':ANm):Prop:=tokR A n.token n'.token /\ n'.kind=n.kind /\ n'.fn=n.fn /\ n'.at_=n.at_
inductive Rel:List Token->List Token->Prop
 |nil:(X=[] /\ A e e') \/ (∃ l x,X=l::x /\ l.Kind=4 /\ A e l.At)->Rel [] X
 |tok {t t' r r'}:t.Kind ≠ 4->tokR A t t'->Rel r r'->Rel (t::r) (t'::r')
 |line {l l' ls r r'}:l.Kind=4->l'.Kind=4->A l.At l'.At->(∀ x ∈ ls,x.Kind=4)->Rel r r'->Rel (l::r) (l'::(ls++r'))
def LRel (ts ts':List Token):Prop:=(∃ ls r',ts'=ls++r' /\ (∀ x ∈ ls,x.Kind=4) /\ Rel A e e' X ts r') \/ (ts=[] /\ ∃ l,X=l::ts' /\ l.Kind=4)
def SR {α β:Type}(P:α->β->Prop):Fault ⊕ α->Fault ⊕ β->Prop
 |.inl f,.inl f'=>fltR A f f'
 |.inr a,.inr b=>P a b
 |_,_=>False
structure StR (x x':APr):Prop where
 p:x'.p=x.p
 names:F2 (namR A) x.names x'.names
 funcs:F2 A x.funcs x'.funcs
 insts:F2 (F2 A) x.insts x'.insts
 end1:x.end_=e
 end2:x'.end_=e'
variable {A e e' X}
theorem SR.cases{α β:Type}{P:α->β->Prop}{a:Fault ⊕ α}{b:Fault ⊕ β}(h:SR A P a b):(∃ f f',a=.inl f /\ b=.inl f' /\ fltR A f f') \/ (∃ x y,a=.inr x /\ b=.inr y /\ P x y):=by
 cases a<;>cases b
 ·exact .inl ⟨_,_,rfl,rfl,h⟩
 ·exact h.elim
 ·exact h.elim
 ·exact .inr ⟨_,_,rfl,rfl,h⟩
def psR (A:Int->Int->Prop)(e e':Int)(X:List Token)(a b:PS):Prop:=b.1=a.1 /\ Rel A e e' X a.2.1 b.2.1 /\ F2 (namR A) a.2.2 b.2.2
def lnR (A:Int->Int->Prop)(e e':Int)(X:List Token)(a b:Bool × APr):Prop:=b.1=a.1 /\ StR A e e' a.2 b.2 /\ LRel A e e' X a.2.tokens b.2.tokens
theorem zrr{b b':Bool}{x y:APr}{t:Token}{r:List Token}(h:zhR b x t r=.inr (b',y)):y.tokens.length<=r.length:=by
 cases b
 ·change zhT x t r=.inr (b',y) at h
  rw[zhT]at h
  split at h
  ·cases h
  split at h
  ·split at h
   ·cases h
   ·rename_i hn1
    split at h
    ·cases h
    ·rename_i hn2
     split at h
     ·cases h
     ·rename_i r3 hc
      injection h with h;injection h with e1 e2;subst e1 e2
      have hc:=zbC hc;have hn1:=congrArg List.length (zdR hn1).1;have hn2:=congrArg List.length (zdR hn2).1
      simp only[List.length_cons]at hn1 hn2
      dsimp only;omega
  split at h
  ·split at h
   ·cases h
   ·rename_i hn1
    split at h
    ·cases h
    ·rename_i r3 hc
     injection h with h;injection h with e1 e2;subst e1 e2
     have hc:=zbC hc;have hn1:=congrArg List.length (zdR hn1).1
     simp only[List.length_cons]at hn1
     dsimp only;omega
  split at h
  ·split at h
   ·cases h
   ·rename_i hn1
    split at h
    ·cases h
    ·rename_i r3 hc
     injection h with h;injection h with e1 e2;subst e1 e2
     have hc:=zbC hc;have hn1:=congrArg List.length (zdR hn1).1
     simp only[List.length_cons]at hn1
     dsimp only;omega
  split at h
  ·split at h
   ·cases h
   ·rename_i hn1
    split at h
    ·cases h
    ·rename_i r3 hc
     injection h with h;injection h with e1 e2;subst e1 e2
     have hc:=zbC hc;have hn1:=congrArg List.length (zdR hn1).1
     simp only[List.length_cons]at hn1
     dsimp only;omega
  split at h
  ·split at h
   ·cases h
   ·rename_i hn1
    split at h
    ·cases h
    ·rename_i hn2
     split at h
     ·cases h
     ·rename_i r3 hc
      injection h with h;injection h with e1 e2;subst e1 e2
      obtain⟨u,e1,e2⟩:=zmo hn1
      have hc:=zbC hc;have hn1:=congrArg List.length e1;have hn2:=congrArg List.length (zdR hn2).1
      simp only[List.length_cons]at hn1 hn2
      dsimp only;omega
  ·cases h
 ·change zhi x t r=.inr (b',y) at h
  rw[zhi]at h
  split at h
  ·split at h
   ·rename_i op hop
    dsimp only at h
    split at h
    ·cases h
    ·rename_i i r1 n1 hr
     split at h
     ·cases h
     ·rename_i r2 hc
      injection h with h;injection h with h1 h2;subst h1 h2
      have hc:=zbC hc
      obtain⟨a,b,c⟩:=zl7 (znd op) hr
      dsimp only;omega
   ·split at h
    ·split at h
     ·cases h
     ·rename_i r2 hc
      injection h with h;injection h with h1 h2;subst h1 h2
      exact zbC hc
    ·cases h
  ·cases h
end
end Go.Dc.Pa
end
section
namespace Go.Dc.Pa
open Go Go.Hw Go.Dc Go.Dc.Pl
def kindOf(c:UInt8):ByteArray:=if c=118 then kVar else if c=109 then zb0 else if c=77 then zdn else if c=99 then zdo else ze6
def zrt(c:UInt8):Opd:=if c=65 then .A else if c=66 then .B else if c=67 then .C else if c=78 then .N else if c=70 then .F else if c=82 then .R else .obj (kindOf c)
def zto(c:UInt8):Bool:=[65,66,67,78,70,82,118,109,77,99,102].contains c
def objC (c:UInt8):Prop:=c=118 \/ c=109 \/ c=77 \/ c=99 \/ c=102
def NR (n:ANm)(m:RNm):Prop:=m.Text=n.token.Text /\ m.At=n.token.At /\ ((objC m.Kind /\ n.kind=kindOf m.Kind /\ m.Func=n.fn /\ m.Inst=n.at_) \/ (n.kind=zbu /\ m.Kind=102 /\ m.Func=-1 /\ m.Inst=n.fn))
section
variable {T:List Token} {sg:Bool} {E:Int} {F:Nat} {a1 a2:Int}
theorem zfO{x:ByteArray}{e a:Int}(he:e ≠ 0):∀(q j k:Nat) (ns:List RNm) (A B C N Fn O:Int),j+q=x.size->∃(A' B' C' N' F' O':Int),zas F a1 a2 x T E sg q j (k:Int) e a ns A B C N Fn O=some ((k:Int),e,a,ns,A',B',C',N',F',O')
 |0,j,k,ns,A,B,C,N,Fn,O,h=>⟨_,_,_,_,_,_,rfl⟩
 |q+1,j,k,ns,A,B,C,N,Fn,O,h=>by
  rw[zas,zfo (show j < x.size by omega),Option.bind_some]
  generalize bget x j=c
  rw[zsX he,zmp he,zwH he,zpp he,zrk he]
  simp only[Option.bind_some]
  cases eqI (c.toNat:Int) 65
  ·cases eqI (c.toNat:Int) 66
   ·cases eqI (c.toNat:Int) 67
    ·cases eqI (c.toNat:Int) 78
     ·cases eqI (c.toNat:Int) 70
      ·cases eqI (c.toNat:Int) 82
       ·exact zfO he q (j+1) k _ _ _ _ _ _ _ (by omega)
       ·exact zfO he q (j+1) k _ _ _ _ _ _ _ (by omega)
      ·exact zfO he q (j+1) k _ _ _ _ _ _ _ (by omega)
     ·exact zfO he q (j+1) k _ _ _ _ _ _ _ (by omega)
    ·exact zfO he q (j+1) k _ _ _ _ _ _ _ (by omega)
   ·exact zfO he q (j+1) k _ _ _ _ _ _ _ (by omega)
  ·exact zfO he q (j+1) k _ _ _ _ _ _ _ (by omega)
def insR (S:List Token)(own:Fault ⊕ PS)(op:Int)(o:Option (Int × Int × Int × (List RNm) × Int × Int × Int × Int × Int × Int)):Prop:=
 (∃ f,own=.inl f /\ f.Err ≠ 0 /\ ∃(k':Nat) (ns:List RNm) (A B C N Fn O:Int),o=some ((k':Int),f.Err,f.At,ns,A,B,C,N,Fn,O)) \/
 (∃(k':Nat) (i:Inst) (ns:List ANm) (ms:List RNm),own=.inr (i,S.drop k',ns) /\ o=some ((k':Int),0,0,ms,i.A,i.B,i.C,i.N,i.Fn,i.Order) /\ F2 NR ns ms /\ i.Op=op /\ i.Obj=0)
theorem u8n{c:UInt8}{n:Nat}(hn:n < 256):eqI (c.toNat:Int) (n:Int)=decide (c=UInt8.ofNat n):=by
 rw[zaL]
 by_cases h:c=UInt8.ofNat n
 ·subst h;rw[decide_eq_true rfl,decide_eq_true];simp[Nat.mod_eq_of_lt hn]
 ·rw[decide_eq_false h,decide_eq_false]
  intro h2;apply h;apply UInt8.toNat_inj.1;simp[Nat.mod_eq_of_lt hn];omega
theorem zkF(hF:F=67108864)(hT:T.length<=1048576){x:ByteArray}(hx:(bl x).all zto=true):∀(q j k:Nat) (i:Inst) (ns:List ANm) (ms:List RNm),j+q=x.size->ns.length+q<=16777216->F2 NR ns ms->i.Obj=0 ->
  insR (seen sg T) (runO E a1 a2 (((bl x).drop j).map zrt) (i,(seen sg T).drop k,ns)) i.Op (zas F a1 a2 x T E sg q j (k:Int) 0 0 ms i.A i.B i.C i.N i.Fn i.Order)
 |0,j,k,i,ns,ms,h,hn,hr,hi=>by
  rw[List.drop_eq_nil_of_le (by rw[zbZ];omega)]
  exact .inr ⟨k,i,ns,ms,rfl,rfl,hr,rfl,hi⟩
 |q+1,j,k,i,ns,ms,h,hn,hr,hi=>by
  cases hd:(bl x).drop j with
  |nil=>have:=List.drop_eq_nil_iff.1 hd;rw[zbZ]at this;omega
  |cons c r=>
   obtain⟨e1,e2,e3⟩:=drop_cons hd
   have hc:=List.all_eq_true.1 hx c (List.mem_of_getElem? e1)
   rw[List.map_cons,zas,zhe,e1,Option.bind_some,<- e3]
   have q65:eqI (c.toNat:Int) 65=decide (c=65):=u8n (n:=65) (by omega)
   have q66:eqI (c.toNat:Int) 66=decide (c=66):=u8n (n:=66) (by omega)
   have q67:eqI (c.toNat:Int) 67=decide (c=67):=u8n (n:=67) (by omega)
   have q78:eqI (c.toNat:Int) 78=decide (c=78):=u8n (n:=78) (by omega)
   have q70:eqI (c.toNat:Int) 70=decide (c=70):=u8n (n:=70) (by omega)
   have q82:eqI (c.toNat:Int) 82=decide (c=82):=u8n (n:=82) (by omega)
   rw[q65,q66,q67,q78,q70,q82,zrt]
   have word:∀(g:ByteArray->Option Int) (cc:Int) (o:Option (Int × Int × Int × Int)) (put:Inst->Int->Inst) (K:Int × Int × Int × Int->Option (Int × Int × Int × (List RNm) × Int × Int × Int × Int × Int × Int)),zmG (seen sg T) E k g cc o ->
     (∀(v:Int) (k':Nat) (e a:Int),K (v,(k':Int),e,a)=zas F a1 a2 x T E sg q (j+1) (k':Int) e a ms (put i v).A (put i v).B (put i v).C (put i v).N (put i v).Fn (put i v).Order)->(∀ v,(put i v).Op=i.Op)->(∀ v,(put i v).Obj=i.Obj) ->
     ∀(own:Fault ⊕ PS),own=(match zcL g cc E ((seen sg T).drop k) with|.inl f=>.inl f|.inr (n,r)=>runO E a1 a2 (((bl x).drop (j+1)).map zrt) (put i n,r,ns))->insR (seen sg T) own i.Op (Option.bind o K):=fun g cc o put K hg hK hO hB own hown=>by
    rcases hg with⟨f,g1,g2,v,k',g3⟩ |⟨n,g1,g3⟩
    ·rw[g1]at hown;subst hown
     rw[g3,Option.bind_some,hK]
     obtain⟨A',B',C',N',F',O',e⟩:=zfO (F:=F) (T:=T) (sg:=sg) (E:=E) (a1:=a1) (a2:=a2) (a:=f.At) (x:=x) g2 q (j+1) k' ms (put i v).A (put i v).B (put i v).C (put i v).N (put i v).Fn (put i v).Order (by omega)
     rw[e];exact .inl ⟨f,rfl,g2,k',_,_,_,_,_,_,_,rfl⟩
    ·rw[g1]at hown;subst hown
     rw[g3,Option.bind_some,hK,<- hO n]
     exact zkF hF hT hx q (j+1) (k+1) (put i n) ns ms (by omega) (by omega) hr (by rw[hB];exact hi)
   by_cases c1:c=65
   ·rw[if_pos c1,decide_eq_true c1,cond_true]
    exact word regN 10 _ (fun i v=>{ i with A:=v }) _ (zj9 hT) (fun _ _ _ _=>rfl) (fun _=>rfl) (fun _=>rfl) _ (zoS _ _ _ _ _ _ _)
   rw[if_neg c1,decide_eq_false c1,cond_false]
   by_cases c2:c=66
   ·rw[if_pos c2,decide_eq_true c2,cond_true]
    exact word regN 10 _ (fun i v=>{ i with B:=v }) _ (zj9 hT) (fun _ _ _ _=>rfl) (fun _=>rfl) (fun _=>rfl) _ (zoR _ _ _ _ _ _ _)
   rw[if_neg c2,decide_eq_false c2,cond_false]
   by_cases c3:c=67
   ·rw[if_pos c3,decide_eq_true c3,cond_true]
    exact word regN 10 _ (fun i v=>{ i with C:=v }) _ (zj9 hT) (fun _ _ _ _=>rfl) (fun _=>rfl) (fun _=>rfl) _ (zoQ _ _ _ _ _ _ _)
   rw[if_neg c3,decide_eq_false c3,cond_false]
   by_cases c4:c=78
   ·rw[if_pos c4,decide_eq_true c4,cond_true,zoO]
    rcases zkd (T:=T) (sg:=sg) (E:=E) (k:=k) hT with⟨f,g1,g2,g3⟩ |⟨n,g1,g3⟩
    ·rw[g1,g3,Option.bind_some]
     obtain⟨A',B',C',N',F',O',e⟩:=zfO (F:=F) (T:=T) (sg:=sg) (E:=E) (a1:=a1) (a2:=a2) (a:=f.At) (x:=x) g2 q (j+1) k ms i.A i.B i.C 0 i.Fn i.Order (by omega)
     dsimp only
     rw[e];exact .inl ⟨f,rfl,g2,k,_,_,_,_,_,_,_,rfl⟩
    ·rw[g1,g3,Option.bind_some]
     exact zkF hF hT hx q (j+1) (k+1) { i with N:=n.N } ns ms (by omega) (by omega) hr hi
   rw[if_neg c4,decide_eq_false c4,cond_false]
   by_cases c5:c=70
   ·rw[if_pos c5,decide_eq_true c5,cond_true]
    exact word zgU 8 _ (fun i v=>{ i with Fn:=v }) _ (ztA hF hT) (fun _ _ _ _=>rfl) (fun _=>rfl) (fun _=>rfl) _ (zoP _ _ _ _ _ _ _)
   rw[if_neg c5,decide_eq_false c5,cond_false]
   by_cases c6:c=82
   ·rw[if_pos c6,decide_eq_true c6,cond_true]
    exact word zg7 13 _ (fun i v=>{ i with Order:=v }) _ (zn7 hF hT) (fun _ _ _ _=>rfl) (fun _=>rfl) (fun _=>rfl) _ (zoN _ _ _ _ _ _ _)
   rw[if_neg c6,decide_eq_false c6,cond_false,zj7,objM]
   have hobj:objC c:=by
    simp only[zto,List.contains_eq_mem,List.mem_cons,List.not_mem_nil,or_false,decide_eq_true_eq]at hc
    simp only[objC];rcases hc with h|h|h|h|h|h|h|h|h|h|h<;>simp_all
   rcases zle (T:=T) (sg:=sg) (E:=E) (k:=k) hT (ns:=ms) (by rw[<- hr.len];omega) (c:=c) (fn:=a1) (at_:=a2) with⟨f,g1,g2,g3⟩ |⟨t,g1,g3⟩
   ·rw[g1,g3,Option.bind_some]
    obtain⟨A',B',C',N',F',O',e⟩:=zfO (F:=F) (T:=T) (sg:=sg) (E:=E) (a1:=a1) (a2:=a2) (a:=f.At) (x:=x) g2 q (j+1) k ms i.A i.B i.C i.N i.Fn i.Order (by omega)
    dsimp only
    rw[e];exact .inl ⟨f,rfl,g2,k,_,_,_,_,_,_,_,rfl⟩
   ·rw[g1,g3,Option.bind_some]
    exact zkF hF hT hx q (j+1) (k+1) i (ns++[⟨t,kindOf c,a1,a2⟩]) _ (by omega) (by rw[List.length_append,List.length_singleton];omega) (hr.app (b:=(⟨c,t.Text,t.At,a1,a2⟩:RNm)) ⟨rfl,rfl,.inl ⟨hobj,rfl,rfl,rfl⟩⟩) hi
end
end Go.Dc.Pa
end
section
namespace Go.Dc
open Go Go.Hw Go.Proofs
def zjG(fuelN:Nat)(a0_0:List Token)(a0_1:Int)(a0_2:Int)(a0_3:Bool)(a0_4:Int)(a0_5:Int)(a0_9:List Func)(a0_11:List RNm)(a0_13:List (List Int))(a0_14:Bool):Option (Int × Int × Int × (List Func) × (List RNm) × (List (List Int)) × Bool):=
 Option.bind (getI a0_0 a0_1) (fun x4=>cond (andB (eqI x4.Kind 1) (eqS x4.Text (⟨#[101,110,100]⟩:ByteArray))) (some (IntKind.i64.wrap (a0_1+1),a0_4,a0_5,a0_9,a0_11,a0_13,false)) (Option.bind (getI a0_9 (IntKind.i64.wrap (((a0_9.length:Nat):Int) - 1))) (fun x8=>Option.bind (some (a0_9.set ((IntKind.i64.wrap (((a0_9.length:Nat):Int) - 1)).toNat) x8)) (fun l12=>Option.bind (zcM fuelN a0_0 a0_1 a0_2 a0_3 a0_4 a0_5 a0_11 (IntKind.i64.wrap (((a0_9.length:Nat):Int) - 1)) ((x8.Code.length:Nat):Int)) (fun y14=>Option.bind (getI l12 (IntKind.i64.wrap (((a0_9.length:Nat):Int) - 1))) (fun x16=>Option.bind (some ([y14.1])) (fun l26=>zai (limB 64 (x16.Code.length+l26.length)) (Option.bind (some (x16.Code++l26)) (fun l29=>Option.bind (some (l12.set ((IntKind.i64.wrap (((a0_9.length:Nat):Int) - 1)).toNat) ({ x16 with Code:=l29 }))) (fun l33=>Option.bind (getI a0_13 (IntKind.i64.wrap (((a0_9.length:Nat):Int) - 1))) (fun x35=>Option.bind (some ([x4.At])) (fun l45=>zai (limB 8 (x35.length+l45.length)) (Option.bind (some (x35++l45)) (fun l48=>Option.bind (some (a0_13.set ((IntKind.i64.wrap (((a0_9.length:Nat):Int) - 1)).toNat) l48)) (fun l52=>some (y14.2.1,y14.2.2.1,y14.2.2.2.1,l33,y14.2.2.2.2,l52,a0_14))))))))))))))))
theorem zqe{fuelN:Nat}{c0_6:FC}{c0_7:FC}{c0_8:FC}{c0_10:FC}{c0_12:FC}{c0_15:FC}{a0_0:List Token}{a0_1:Int}{a0_2:Int}{a0_3:Bool}{a0_4:Int}{a0_5:Int}{a0_9:List Func}{a0_11:List RNm}{a0_13:List (List Int)}{a0_14:Bool}{r:Int × Int × Int × (List Func) × (List RNm) × (List (List Int)) × Bool}(hs:zjG fuelN a0_0 a0_1 a0_2 a0_3 a0_4 a0_5 a0_9 a0_11 a0_13 a0_14=some r):CAt Tryz.prog 20 [.cell (.ref (.a 0) 0)] [.cells [sC a0_0,nC a0_1,nC a0_2,bC a0_3,nC a0_4,nC a0_5,c0_6.ac,c0_7.ac,c0_8.ac,.own (.sl 2 a0_9.length (otL a0_9)),c0_10.ac,.own (.sp 5 a0_11.length (encL a0_11)),c0_12.ac,.own (.sl 1 a0_13.length (otL a0_13)),bC a0_14,c0_15.ac]] (.ret (.tup [])) [(.a 0,.cells [sC a0_0,nC r.1,nC a0_2,bC a0_3,nC r.2.1,nC r.2.2.1,c0_6.ac,c0_7.ac,c0_8.ac,.own (.sl 2 r.2.2.2.1.length (otL r.2.2.2.1)),c0_10.ac,.own (.sp 5 r.2.2.2.2.1.length (encL r.2.2.2.2.1)),c0_12.ac,.own (.sl 1 r.2.2.2.2.2.1.length (otL r.2.2.2.2.2.1)),bC r.2.2.2.2.2.2,c0_15.ac])]:=by
 refine zab (by kernel_rfl) fun hb=>?_
 refine zac mixed Tryz.func20 (by kernel_rfl) rfl (by kernel_rfl) rfl fun Q hQ=>?_
 rw[zjG]at hs
 revert hs;refine bK fun x4 hx5 hs=>?_
 obtain⟨hx5a,hx5b,hx5c,hx5d⟩:=zao hx5
 have f6:zam Tryz.prog 81 (encL a0_0) (((a0_1).toNat) * 4)=some (.agg (eA x4)):=zae hx5d (f:=0) (by simp)
 have F1:=an f6 (an hx5a hx5b)
 refine goE f6 F1 ?_
 revert hs;refine cS f6 ?_ ?_<;>intro h7 hs
 ·refine goE f6 F1 ?_
  obtain rfl:=sj hs
  refine hQ _ _ (zaG _ (Gh.refl _) (by simp[St.frz,St.pur,f6];rfl) (by first|rfl |(simp[St.frz,St.pur,f6];done) |(rw[if_pos (by first|omega |(simp;omega))];simp[St.frz,St.pur,f6];first|omega|exact List.take_of_length_le (by simp;omega)|skip)) (pv f6))
 ·revert hs;refine bK fun x8 hx9 hs=>?_
  obtain⟨hx9a,hx9b,hx9c,hx9d⟩:=zao hx9
  have f10a:(zah a0_9)[((IntKind.i64.wrap (((a0_9.length:Nat):Int) - 1)).toNat) * 2+1]?=some (.own (.sp 8 x8.Code.length (encL x8.Code))):=zdQ hx9d (f:=1) (by first|rfl |(simp;done) |(simp;rfl))
  have f10b:((zah a0_9).drop (((IntKind.i64.wrap (((a0_9.length:Nat):Int) - 1)).toNat) * 2+1)).take 1=[.own (.sp 8 x8.Code.length (encL x8.Code))]:=zpu hx9d (f:=1) (by first|rfl |(simp;done) |(simp;rfl)) (by first|rfl |(simp;done) |(simp;rfl))
  have f10l:((IntKind.i64.wrap (((a0_9.length:Nat):Int) - 1)).toNat) * 2+1 < (zah a0_9).length:=(List.getElem?_eq_some_iff.1 f10a).1
  have f10c:=fun c=>(zbw f10l c).1
  have f10d:=fun c=>(zbw f10l c).2
  revert hs;refine lK fun l12 hx13 hs=>?_
  have f11:(zah a0_9).set (((IntKind.i64.wrap (((a0_9.length:Nat):Int) - 1)).toNat) * 2+1) (.own (.sp 8 x8.Code.length (encL x8.Code)))=zah l12:=by rw[hx13];exact zdP hx9d (f:=1) (by simp) (by first|rfl |(simp;done) |(simp;rfl))
  have f11n:l12.length=a0_9.length:=by rw[hx13];simp
  have f11t:(encL x8.Code).take (x8.Code.length * 8)=encL x8.Code:=zal _ (by simp)
  have f11u:x8.Code.length=x8.Code.length->(encL x8.Code).take (x8.Code.length * 8)=encL x8.Code:=fun h=>by rw[<- h];exact zal _ (by simp)
  have f11v:x8.Code.length=x8.Code.length->(zah a0_9).set (((IntKind.i64.wrap (((a0_9.length:Nat):Int) - 1)).toNat) * 2+1) (.own (.sp 8 x8.Code.length (encL x8.Code)))=zah l12:=fun h=>by rw[<- h];exact f11
  have f11w:∀ n:Nat,n=l12.length->(encL l12).take (n * 2)=encL l12:=fun n h=>by rw[h];exact zal _ (by simp)
  have f11x:∀ n:Nat,n=l12.length->(zah l12).take (n * 2)=zah l12:=fun n h=>by rw[h];exact zca _ (by simp)
  have F2:=an f6 (an f10a (an f10b (an f10c (an f10d (an f11 (an f11n (an f11t (an f11u (an f11v (an f11w f11x))))))))))
  have F3:=an F2 (an hx5a (an hx5b (an hx9a hx9b)))
  repeat (first|simp[F2]|with_reducible first|refine zk4 (by decide +kernel) ?_|refine zk5 (by decide +kernel) ?_|refine zk7 (by decide +kernel) ?_|refine zk6 (by decide +kernel) ?_|refine zhv (by decide +kernel) ?_|refine zhu (by decide +kernel) ?_|refine And.intro (by omega) ?_|refine zbe (by omega) ?_|refine za4 (by with_unfolding_all rfl) _ (fun hg=>by(try simp at hg);first |(simp[hg,F3];rfl) |(simp[F2];simp only[if_pos hg];simp[F2];rfl)) ?_|refine zeR ?_|refine zgH (by with_unfolding_all rfl) _ (fun hg=>by(try simp at hg);simp[hg,F3];rfl) ?_)
  refine za7 ?_
  repeat (first|simp[F2]|with_reducible first|refine zk4 (by decide +kernel) ?_|refine zk5 (by decide +kernel) ?_|refine zk7 (by decide +kernel) ?_|refine zk6 (by decide +kernel) ?_|refine zhv (by decide +kernel) ?_|refine zhu (by decide +kernel) ?_|refine And.intro (by omega) ?_|refine zbe (by omega) ?_|refine za4 (by with_unfolding_all rfl) _ (fun hg=>by(try simp at hg);first |(simp[hg,F3];rfl) |(simp[F2];simp only[if_pos hg];simp[F2];rfl)) ?_|refine zeR ?_|refine zgH (by with_unfolding_all rfl) _ (fun hg=>by(try simp at hg);simp[hg,F3];rfl) ?_)
  refine za7 ?_
  repeat (first|simp[F2]|with_reducible first|refine zk4 (by decide +kernel) ?_|refine zk5 (by decide +kernel) ?_|refine zk7 (by decide +kernel) ?_|refine zk6 (by decide +kernel) ?_|refine zhv (by decide +kernel) ?_|refine zhu (by decide +kernel) ?_|refine And.intro (by omega) ?_|refine zbe (by omega) ?_|refine za4 (by with_unfolding_all rfl) _ (fun hg=>by(try simp at hg);first |(simp[hg,F3];rfl) |(simp[F2];simp only[if_pos hg];simp[F2];rfl)) ?_|refine zeR ?_|refine zgH (by with_unfolding_all rfl) _ (fun hg=>by(try simp at hg);simp[hg,F3];rfl) ?_)
  refine zaX (by rfl) (Gh.close _ (.o 3 4 9) (((IntKind.i64.wrap (((a0_9.length:Nat):Int) - 1)).toNat) * 2+1)) ?_
  try simp only[St.frz,St.pur]
  refine goR F2 ?_
  revert hs;refine bK fun y14 hx15 hs=>?_
  refine cB F2 (zhW (c0_6:=(c0_6.toF [.a 0])) (c0_7:=(c0_7.toF [.a 0])) (c0_8:=(c0_8.toF [.a 0])) (c0_9:=⟨AC.toF [.a 0] (.sl (.o 3 4 9) 0 2 l12.length),by simp[F2]⟩) (c0_10:=(c0_10.toF [.a 0])) (c0_12:=(c0_12.toF [.a 0])) (c0_13:=⟨AC.toF [.a 0] (.own (.sl 1 a0_13.length (otL a0_13))),by simp[F2]⟩) (c0_14:=⟨AC.toF [.a 0] (bC a0_14),by simp[F2]⟩) (c0_15:=(c0_15.toF [.a 0])) hx15) [.a 0] ?_
  revert hs;refine bK fun x16 hx17 hs=>?_
  obtain⟨hx17a,hx17b,hx17c,hx17d⟩:=zao hx17
  refine goN F2 ?_
  have f18a:(zah l12)[((IntKind.i64.wrap (((a0_9.length:Nat):Int) - 1)).toNat) * 2+1]?=some (.own (.sp 8 x16.Code.length (encL x16.Code))):=zdQ hx17d (f:=1) (by first|rfl |(simp;done) |(simp;rfl))
  have f18l:((IntKind.i64.wrap (((a0_9.length:Nat):Int) - 1)).toNat) * 2+1 < (zah l12).length:=(List.getElem?_eq_some_iff.1 f18a).1
  have f18c:=fun c=>(zbw f18l c).1
  have f18d:=fun c=>(zbw f18l c).2
  refine zaX (by rfl) (Gh.opn _ (.o 3 4 9) (((IntKind.i64.wrap (((a0_9.length:Nat):Int) - 1)).toNat) * 2+1)) ?_
  revert hs;refine lK fun l26 hx27 hs=>?_
  have hx27n:l26.length=1:=by rw[hx27];rfl
  obtain⟨g28,hs⟩:=zaa hs
  have g28:=zbv g28
  obtain⟨g28a,g28b⟩:=g28
  revert hs;refine lK fun l29 hx30 hs=>?_
  have hx30n:l29.length=(x16.Code.length+l26.length):=by rw[hx30];simp
  have hx30e:encL l29=encL x16.Code++encL l26:=by rw[hx30];simp
  have f31:(encL l29).take (l29.length * 8)=encL l29:=zal _ (by simp)
  have F4:=an F2 (an f18a (an f18c (an f18d (an hx27 (an hx30n hx30e)))))
  try simp[F4]at f31
  have f31l:l29.length * 8<=(encL l29).length:=by rw[zaE];simp
  try simp[F4]at f31l
  revert hs;refine lK fun l33 hx34 hs=>?_
  have f32:(zah l12).set (((IntKind.i64.wrap (((a0_9.length:Nat):Int) - 1)).toNat) * 2+1) (.own (.sp 8 l29.length (encL l29)))=zah l33:=by rw[hx34];exact zdP hx17d (f:=1) (by simp) (by first|rfl |(simp;done) |(simp;rfl))
  have f32n:l33.length=l12.length:=by rw[hx34];simp
  have f32t:(encL l29).take (l29.length * 8)=encL l29:=zal _ (by simp)
  have f32u:l29.length=x16.Code.length->(encL l29).take (x16.Code.length * 8)=encL l29:=fun h=>by rw[<- h];exact zal _ (by simp)
  have f32v:l29.length=x16.Code.length->(zah l12).set (((IntKind.i64.wrap (((a0_9.length:Nat):Int) - 1)).toNat) * 2+1) (.own (.sp 8 x16.Code.length (encL l29)))=zah l33:=fun h=>by rw[<- h];exact f32
  have f32z:=f32
  have F5:=an F4 (an f31 f31l)
  try simp[F5]at f32z
  have f32w:∀ n:Nat,n=l33.length->(encL l33).take (n * 2)=encL l33:=fun n h=>by rw[h];exact zal _ (by simp)
  have f32x:∀ n:Nat,n=l33.length->(zah l33).take (n * 2)=zah l33:=fun n h=>by rw[h];exact zca _ (by simp)
  have F6:=an F5 (an f32z (an f32 (an f32n (an f32t (an f32u (an f32v (an f32w f32x)))))))
  refine goN F6 ?_
  refine zdc ?_
  refine goN F6 ?_
  refine zaX (by rfl) ((Gh.close _ (.o 3 4 9) (((IntKind.i64.wrap (((a0_9.length:Nat):Int) - 1)).toNat) * 2+1)).trans (Gh.opn _ (.a 0) 13)) ?_
  try simp only[St.frz,St.pur]
  revert hs;refine bK fun x35 hx36 hs=>?_
  obtain⟨hx36a,hx36b,hx36c,hx36d⟩:=zao hx36
  refine goN F6 ?_
  have f37a:(zah a0_13)[(IntKind.i64.wrap (((a0_9.length:Nat):Int) - 1)).toNat]?=some (.own (.sp 1 x35.length (encL x35))):=zdD hx36d (by first|rfl |(simp;done) |(simp;rfl))
  have f37l:(IntKind.i64.wrap (((a0_9.length:Nat):Int) - 1)).toNat < (zah a0_13).length:=(List.getElem?_eq_some_iff.1 f37a).1
  have f37c:=fun c=>(zbw f37l c).1
  have f37d:=fun c=>(zbw f37l c).2
  refine zaX (by rfl) (Gh.opn _ (.o 8 0 13) ((IntKind.i64.wrap (((a0_9.length:Nat):Int) - 1)).toNat)) ?_
  revert hs;refine lK fun l45 hx46 hs=>?_
  have hx46n:l45.length=1:=by rw[hx46];rfl
  obtain⟨g47,hs⟩:=zaa hs
  have g47:=zbv g47
  obtain⟨g47a,g47b⟩:=g47
  revert hs;refine lK fun l48 hx49 hs=>?_
  have hx49n:l48.length=(x35.length+l45.length):=by rw[hx49];simp
  have hx49e:encL l48=encL x35++encL l45:=by rw[hx49];simp
  have f50:(encL l48).take (l48.length)=encL l48:=zbr _ (by simp)
  have F7:=an F6 (an f37a (an f37c (an f37d (an hx46 (an hx49n hx49e)))))
  try simp[F7]at f50
  have f50l:l48.length * 1<=(encL l48).length:=by rw[zaE];simp
  try simp[F7]at f50l
  revert hs;refine lK fun l52 hx53 hs=>?_
  have f51:(zah a0_13).set ((IntKind.i64.wrap (((a0_9.length:Nat):Int) - 1)).toNat) (.own (.sp 1 l48.length (encL l48)))=zah l52:=by rw[hx53];exact zeq hx36d (by first|rfl |(simp;done) |(simp;rfl))
  have f51n:l52.length=a0_13.length:=by rw[hx53];simp
  have f51t:(encL l48).take (l48.length * 1)=encL l48:=zal _ (by simp)
  have f51u:l48.length=x35.length->(encL l48).take (x35.length * 1)=encL l48:=fun h=>by rw[<- h];exact zal _ (by simp)
  have f51v:l48.length=x35.length->(zah a0_13).set ((IntKind.i64.wrap (((a0_9.length:Nat):Int) - 1)).toNat) (.own (.sp 1 x35.length (encL l48)))=zah l52:=fun h=>by rw[<- h];exact f51
  have f51z:=f51
  have F8:=an F7 (an f50 f50l)
  try simp[F8]at f51z
  have f51w:∀ n:Nat,n=l52.length->(encL l52).take n=encL l52:=fun n h=>by rw[h];exact zbr _ (by simp)
  have f51x:∀ n:Nat,n=l52.length->(zah l52).take n=zah l52:=fun n h=>by rw[h];exact zcb _ (by simp)
  have F9:=an F8 (an f51z (an f51 (an f51n (an f51t (an f51u (an f51v (an f51w f51x)))))))
  refine goD F9 ?_
  have f54:(zah l52).take (l52.length)=zah l52:=zcb _ (by simp)
  try simp[F9]at f54
  have f54l:l52.length * 1<=(zah l52).length:=by rw[zbB];simp
  try simp[F9]at f54l
  obtain rfl:=sj hs
  have F10:=an F9 (an f54 f54l)
  refine hQ _ _ (zaG _ ((Gh.close _ (.o 8 0 13) ((IntKind.i64.wrap (((a0_9.length:Nat):Int) - 1)).toNat)).trans ((Gh.close _ (.a 0) 9).trans (Gh.close _ (.a 0) 13))) (by simp[St.frz,St.pur,F10];rfl) (by first|rfl |(simp[St.frz,St.pur,F10];done) |(rw[if_pos (by first|omega |(simp;omega))];simp[St.frz,St.pur,F10];first|omega|exact List.take_of_length_le (by simp;omega)|skip)) (pv F10))
def zcm(a0_0:List Token)(a0_1:Int)(a0_2:Int)(a0_3:Bool)(a0_4:Int)(a0_5:Int)(a0_6:List Var)(a0_7:List ByteArray)(a0_8:List ByteArray)(a0_9:List Func)(a0_10:List Start)(a0_11:List RNm)(a0_12:List Int)(a0_13:List (List Int))(a0_14:Bool):Option (Int × Int × Int × (List Var) × (List ByteArray) × (List ByteArray) × (List Func) × (List Start) × (List RNm) × (List Int) × (List (List Int)) × Bool):=
 Option.bind (getI a0_0 a0_1) (fun x4=>cond (!(eqI x4.Kind 1)) (Option.bind (zcq a0_4 a0_5 14 x4.At) (fun y8=>some (a0_1,y8.1,y8.2,a0_6,a0_7,a0_8,a0_9,a0_10,a0_11,a0_12,a0_13,a0_14))) (cond (eqS x4.Text (⟨#[118,97,114]⟩:ByteArray)) (Option.bind (zcX a0_0 (IntKind.i64.wrap (a0_1+1)) a0_2 a0_3 a0_4 a0_5 1) (fun y11=>Option.bind (zda a0_0 y11.2.2.1 a0_2 a0_3 y11.2.2.2.1 y11.2.2.2.2) (fun y20=>Option.bind (some ([({ Name:=y11.1.Text,Init:=y20.1 }:Var)])) (fun l22=>zai (limB 24 (a0_6.length+l22.length)) (Option.bind (some (a0_6++l22)) (fun l25=>some (y20.2.1,y20.2.2.1,y20.2.2.2,l25,a0_7,a0_8,a0_9,a0_10,a0_11,a0_12,a0_13,a0_14))))))) (cond (eqS x4.Text (⟨#[109,117,116,101,120]⟩:ByteArray)) (Option.bind (zcX a0_0 (IntKind.i64.wrap (a0_1+1)) a0_2 a0_3 a0_4 a0_5 1) (fun y29=>Option.bind (some ([y29.1.Text])) (fun l36=>zai (limB 16 (a0_7.length+l36.length)) (Option.bind (some (a0_7++l36)) (fun l39=>some (y29.2.2.1,y29.2.2.2.1,y29.2.2.2.2,a0_6,l39,a0_8,a0_9,a0_10,a0_11,a0_12,a0_13,a0_14)))))) (cond (eqS x4.Text (⟨#[99,111,110,100]⟩:ByteArray)) (Option.bind (zcX a0_0 (IntKind.i64.wrap (a0_1+1)) a0_2 a0_3 a0_4 a0_5 1) (fun y43=>Option.bind (some ([y43.1.Text])) (fun l50=>zai (limB 16 (a0_8.length+l50.length)) (Option.bind (some (a0_8++l50)) (fun l53=>some (y43.2.2.1,y43.2.2.2.1,y43.2.2.2.2,a0_6,a0_7,l53,a0_9,a0_10,a0_11,a0_12,a0_13,a0_14)))))) (cond (eqS x4.Text (⟨#[102,117,110,99]⟩:ByteArray)) (Option.bind (zcX a0_0 (IntKind.i64.wrap (a0_1+1)) a0_2 a0_3 a0_4 a0_5 1) (fun y57=>Option.bind (some ([({ Name:=y57.1.Text,Code:=[] }:Func)])) (fun l65=>zai (limB 40 (a0_9.length+l65.length)) (Option.bind (some (a0_9++l65)) (fun l68=>Option.bind (some ([x4.At])) (fun l76=>zai (limB 8 (a0_12.length+l76.length)) (Option.bind (some (a0_12++l76)) (fun l79=>Option.bind (some (([]:List Int))) (fun l81=>Option.bind (some ([l81])) (fun l83=>zai (limB 24 (a0_13.length+l83.length)) (Option.bind (some (a0_13++l83)) (fun l86=>some (y57.2.2.1,y57.2.2.2.1,y57.2.2.2.2,a0_6,a0_7,a0_8,l68,a0_10,a0_11,l79,l86,true))))))))))))) (cond (eqS x4.Text (⟨#[116,104,114,101,97,100]⟩:ByteArray)) (Option.bind (zgm a0_0 (IntKind.i64.wrap (a0_1+1)) a0_2 a0_3 a0_4 a0_5 a0_11 102 (-1) ((a0_10.length:Nat):Int)) (fun y93=>Option.bind (zda a0_0 y93.1 a0_2 a0_3 y93.2.1 y93.2.2.1) (fun y102=>Option.bind (some ([({ Func:=0,Arg:=y102.1 }:Start)])) (fun l104=>zai (limB 16 (a0_10.length+l104.length)) (Option.bind (some (a0_10++l104)) (fun l107=>some (y102.2.1,y102.2.2.1,y102.2.2.2,a0_6,a0_7,a0_8,a0_9,l107,y93.2.2.2,a0_12,a0_13,a0_14))))))) (Option.bind (zcq a0_4 a0_5 14 x4.At) (fun y110=>some (IntKind.i64.wrap (a0_1+1),y110.1,y110.2,a0_6,a0_7,a0_8,a0_9,a0_10,a0_11,a0_12,a0_13,a0_14)))))))))
theorem zhX{c0_15:FC}{a0_0:List Token}{a0_1:Int}{a0_2:Int}{a0_3:Bool}{a0_4:Int}{a0_5:Int}{a0_6:List Var}{a0_7:List ByteArray}{a0_8:List ByteArray}{a0_9:List Func}{a0_10:List Start}{a0_11:List RNm}{a0_12:List Int}{a0_13:List (List Int)}{a0_14:Bool}{r:Int × Int × Int × (List Var) × (List ByteArray) × (List ByteArray) × (List Func) × (List Start) × (List RNm) × (List Int) × (List (List Int)) × Bool}(hs:zcm a0_0 a0_1 a0_2 a0_3 a0_4 a0_5 a0_6 a0_7 a0_8 a0_9 a0_10 a0_11 a0_12 a0_13 a0_14=some r):CAt Tryz.prog 21 [.cell (.ref (.a 0) 0)] [.cells [sC a0_0,nC a0_1,nC a0_2,bC a0_3,nC a0_4,nC a0_5,.own (.sp 2 a0_6.length (encL a0_6)),.own (.sp 1 a0_7.length (encL a0_7)),.own (.sp 1 a0_8.length (encL a0_8)),.own (.sl 2 a0_9.length (otL a0_9)),.own (.sp 2 a0_10.length (encL a0_10)),.own (.sp 5 a0_11.length (encL a0_11)),.own (.sp 1 a0_12.length (encL a0_12)),.own (.sl 1 a0_13.length (otL a0_13)),bC a0_14,c0_15.ac]] (.ret (.tup [])) [(.a 0,.cells [sC a0_0,nC r.1,nC a0_2,bC a0_3,nC r.2.1,nC r.2.2.1,.own (.sp 2 r.2.2.2.1.length (encL r.2.2.2.1)),.own (.sp 1 r.2.2.2.2.1.length (encL r.2.2.2.2.1)),.own (.sp 1 r.2.2.2.2.2.1.length (encL r.2.2.2.2.2.1)),.own (.sl 2 r.2.2.2.2.2.2.1.length (otL r.2.2.2.2.2.2.1)),.own (.sp 2 r.2.2.2.2.2.2.2.1.length (encL r.2.2.2.2.2.2.2.1)),.own (.sp 5 r.2.2.2.2.2.2.2.2.1.length (encL r.2.2.2.2.2.2.2.2.1)),.own (.sp 1 r.2.2.2.2.2.2.2.2.2.1.length (encL r.2.2.2.2.2.2.2.2.2.1)),.own (.sl 1 r.2.2.2.2.2.2.2.2.2.2.1.length (otL r.2.2.2.2.2.2.2.2.2.2.1)),bC r.2.2.2.2.2.2.2.2.2.2.2,c0_15.ac])]:=by
 refine zab (by kernel_rfl) fun hb=>?_
 refine zac mixed Tryz.func21 (by kernel_rfl) rfl (by kernel_rfl) rfl fun Q hQ=>?_
 rw[zcm]at hs
 revert hs;refine bK fun x4 hx5 hs=>?_
 obtain⟨hx5a,hx5b,hx5c,hx5d⟩:=zao hx5
 have f6:zam Tryz.prog 81 (encL a0_0) (((a0_1).toNat) * 4)=some (.agg (eA x4)):=zae hx5d (f:=0) (by simp)
 refine goD f6 ?_
 revert hs;refine cS f6 ?_ ?_<;>intro h7 hs
 ·refine goD f6 ?_
  revert hs;refine bK fun y8 hx9 hs=>?_
  refine cB f6 (zbL (c0_0:=⟨AC.toF [.a 0] (sC a0_0),by simp[f6]⟩) (c0_1:=⟨AC.toF [.a 0] (nC a0_1),by simp[f6]⟩) (c0_2:=⟨AC.toF [.a 0] (nC a0_2),by simp[f6]⟩) (c0_3:=⟨AC.toF [.a 0] (bC a0_3),by simp[f6]⟩) (c0_6:=⟨AC.toF [.a 0] (.own (.sp 2 a0_6.length (encL a0_6))),by simp[f6]⟩) (c0_7:=⟨AC.toF [.a 0] (.own (.sp 1 a0_7.length (encL a0_7))),by simp[f6]⟩) (c0_8:=⟨AC.toF [.a 0] (.own (.sp 1 a0_8.length (encL a0_8))),by simp[f6]⟩) (c0_9:=⟨AC.toF [.a 0] (.own (.sl 2 a0_9.length (otL a0_9))),by simp[f6]⟩) (c0_10:=⟨AC.toF [.a 0] (.own (.sp 2 a0_10.length (encL a0_10))),by simp[f6]⟩) (c0_11:=⟨AC.toF [.a 0] (.own (.sp 5 a0_11.length (encL a0_11))),by simp[f6]⟩) (c0_12:=⟨AC.toF [.a 0] (.own (.sp 1 a0_12.length (encL a0_12))),by simp[f6]⟩) (c0_13:=⟨AC.toF [.a 0] (.own (.sl 1 a0_13.length (otL a0_13))),by simp[f6]⟩) (c0_14:=⟨AC.toF [.a 0] (bC a0_14),by simp[f6]⟩) (c0_15:=(c0_15.toF [.a 0])) hx9) [.a 0] ?_
  refine goD f6 ?_
  obtain rfl:=sj hs
  refine hQ _ _ (zaG _ (Gh.refl _) (by simp[St.frz,St.pur,f6];rfl) (by first|rfl |(simp[St.frz,St.pur,f6];done) |(rw[if_pos (by first|omega |(simp;omega))];simp[St.frz,St.pur,f6];first|omega|exact List.take_of_length_le (by simp;omega)|skip)) (pv f6))
 ·refine goD f6 ?_
  revert hs;refine cS f6 ?_ ?_<;>intro h10 hs
  ·refine goD f6 ?_
   revert hs;refine bK fun y11 hx12 hs=>?_
   refine cB f6 (zcv (c0_6:=⟨AC.toF [.a 0] (.own (.sp 2 a0_6.length (encL a0_6))),by simp[f6]⟩) (c0_7:=⟨AC.toF [.a 0] (.own (.sp 1 a0_7.length (encL a0_7))),by simp[f6]⟩) (c0_8:=⟨AC.toF [.a 0] (.own (.sp 1 a0_8.length (encL a0_8))),by simp[f6]⟩) (c0_9:=⟨AC.toF [.a 0] (.own (.sl 2 a0_9.length (otL a0_9))),by simp[f6]⟩) (c0_10:=⟨AC.toF [.a 0] (.own (.sp 2 a0_10.length (encL a0_10))),by simp[f6]⟩) (c0_11:=⟨AC.toF [.a 0] (.own (.sp 5 a0_11.length (encL a0_11))),by simp[f6]⟩) (c0_12:=⟨AC.toF [.a 0] (.own (.sp 1 a0_12.length (encL a0_12))),by simp[f6]⟩) (c0_13:=⟨AC.toF [.a 0] (.own (.sl 1 a0_13.length (otL a0_13))),by simp[f6]⟩) (c0_14:=⟨AC.toF [.a 0] (bC a0_14),by simp[f6]⟩) (c0_15:=(c0_15.toF [.a 0])) hx12) [.a 0] ?_
   refine goN f6 ?_
   refine zaX (by rfl) (Gh.opn _ (.a 0) 6) ?_
   try simp only[St.frz,St.pur]
   refine goD f6 ?_
   revert hs;refine bK fun y20 hx21 hs=>?_
   refine cB f6 (zf6 (c0_6:=⟨AC.toF [.a 0] (.sl (.o 7 0 6) 0 2 a0_6.length),by simp[f6]⟩) (c0_7:=⟨AC.toF [.a 0] (.own (.sp 1 a0_7.length (encL a0_7))),by simp[f6]⟩) (c0_8:=⟨AC.toF [.a 0] (.own (.sp 1 a0_8.length (encL a0_8))),by simp[f6]⟩) (c0_9:=⟨AC.toF [.a 0] (.own (.sl 2 a0_9.length (otL a0_9))),by simp[f6]⟩) (c0_10:=⟨AC.toF [.a 0] (.own (.sp 2 a0_10.length (encL a0_10))),by simp[f6]⟩) (c0_11:=⟨AC.toF [.a 0] (.own (.sp 5 a0_11.length (encL a0_11))),by simp[f6]⟩) (c0_12:=⟨AC.toF [.a 0] (.own (.sp 1 a0_12.length (encL a0_12))),by simp[f6]⟩) (c0_13:=⟨AC.toF [.a 0] (.own (.sl 1 a0_13.length (otL a0_13))),by simp[f6]⟩) (c0_14:=⟨AC.toF [.a 0] (bC a0_14),by simp[f6]⟩) (c0_15:=(c0_15.toF [.a 0])) hx21) [.a 0] ?_
   revert hs;refine lK fun l22 hx23 hs=>?_
   have hx23n:l22.length=1:=by rw[hx23];rfl
   obtain⟨g24,hs⟩:=zaa hs
   have g24:=zbv g24
   obtain⟨g24a,g24b⟩:=g24
   revert hs;refine lK fun l25 hx26 hs=>?_
   have hx26n:l25.length=(a0_6.length+l22.length):=by rw[hx26];simp
   have hx26e:encL l25=encL a0_6++encL l22:=by rw[hx26];simp
   have F1:=an f6 (an hx23 (an hx26n hx26e))
   refine goD F1 ?_
   have f27:(encL l25).take (l25.length * 2)=encL l25:=zal _ (by simp)
   try simp[F1]at f27
   have f27l:l25.length * 2<=(encL l25).length:=by rw[zaE];simp
   try simp[F1]at f27l
   obtain rfl:=sj hs
   have F2:=an F1 (an f27 f27l)
   refine hQ _ _ (zaG _ (Gh.close _ (.a 0) 6) (by simp[St.frz,St.pur,F2];rfl) (by first|rfl |(simp[St.frz,St.pur,F2];done) |(rw[if_pos (by first|omega |(simp;omega))];simp[St.frz,St.pur,F2];first|omega|exact List.take_of_length_le (by simp;omega)|skip)) (pv F2))
  ·refine goD f6 ?_
   revert hs;refine cS f6 ?_ ?_<;>intro h28 hs
   ·refine goD f6 ?_
    revert hs;refine bK fun y29 hx30 hs=>?_
    refine cB f6 (zcv (c0_6:=⟨AC.toF [.a 0] (.own (.sp 2 a0_6.length (encL a0_6))),by simp[f6]⟩) (c0_7:=⟨AC.toF [.a 0] (.own (.sp 1 a0_7.length (encL a0_7))),by simp[f6]⟩) (c0_8:=⟨AC.toF [.a 0] (.own (.sp 1 a0_8.length (encL a0_8))),by simp[f6]⟩) (c0_9:=⟨AC.toF [.a 0] (.own (.sl 2 a0_9.length (otL a0_9))),by simp[f6]⟩) (c0_10:=⟨AC.toF [.a 0] (.own (.sp 2 a0_10.length (encL a0_10))),by simp[f6]⟩) (c0_11:=⟨AC.toF [.a 0] (.own (.sp 5 a0_11.length (encL a0_11))),by simp[f6]⟩) (c0_12:=⟨AC.toF [.a 0] (.own (.sp 1 a0_12.length (encL a0_12))),by simp[f6]⟩) (c0_13:=⟨AC.toF [.a 0] (.own (.sl 1 a0_13.length (otL a0_13))),by simp[f6]⟩) (c0_14:=⟨AC.toF [.a 0] (bC a0_14),by simp[f6]⟩) (c0_15:=(c0_15.toF [.a 0])) hx30) [.a 0] ?_
    refine goN f6 ?_
    refine zaX (by rfl) (Gh.opn _ (.a 0) 7) ?_
    try simp only[St.frz,St.pur]
    revert hs;refine lK fun l36 hx37 hs=>?_
    have hx37n:l36.length=1:=by rw[hx37];rfl
    obtain⟨g38,hs⟩:=zaa hs
    have g38:=zbv g38
    obtain⟨g38a,g38b⟩:=g38
    revert hs;refine lK fun l39 hx40 hs=>?_
    have hx40n:l39.length=(a0_7.length+l36.length):=by rw[hx40];simp
    have hx40e:encL l39=encL a0_7++encL l36:=by rw[hx40];simp
    have F3:=an f6 (an hx37 (an hx40n hx40e))
    refine goD F3 ?_
    have f41:(encL l39).take (l39.length)=encL l39:=zbr _ (by simp)
    try simp[F3]at f41
    have f41l:l39.length * 1<=(encL l39).length:=by rw[zaE];simp
    try simp[F3]at f41l
    obtain rfl:=sj hs
    have F4:=an F3 (an f41 f41l)
    refine hQ _ _ (zaG _ (Gh.close _ (.a 0) 7) (by simp[St.frz,St.pur,F4];rfl) (by first|rfl |(simp[St.frz,St.pur,F4];done) |(rw[if_pos (by first|omega |(simp;omega))];simp[St.frz,St.pur,F4];first|omega|exact List.take_of_length_le (by simp;omega)|skip)) (pv F4))
   ·refine goD f6 ?_
    revert hs;refine cS f6 ?_ ?_<;>intro h42 hs
    ·refine goD f6 ?_
     revert hs;refine bK fun y43 hx44 hs=>?_
     refine cB f6 (zcv (c0_6:=⟨AC.toF [.a 0] (.own (.sp 2 a0_6.length (encL a0_6))),by simp[f6]⟩) (c0_7:=⟨AC.toF [.a 0] (.own (.sp 1 a0_7.length (encL a0_7))),by simp[f6]⟩) (c0_8:=⟨AC.toF [.a 0] (.own (.sp 1 a0_8.length (encL a0_8))),by simp[f6]⟩) (c0_9:=⟨AC.toF [.a 0] (.own (.sl 2 a0_9.length (otL a0_9))),by simp[f6]⟩) (c0_10:=⟨AC.toF [.a 0] (.own (.sp 2 a0_10.length (encL a0_10))),by simp[f6]⟩) (c0_11:=⟨AC.toF [.a 0] (.own (.sp 5 a0_11.length (encL a0_11))),by simp[f6]⟩) (c0_12:=⟨AC.toF [.a 0] (.own (.sp 1 a0_12.length (encL a0_12))),by simp[f6]⟩) (c0_13:=⟨AC.toF [.a 0] (.own (.sl 1 a0_13.length (otL a0_13))),by simp[f6]⟩) (c0_14:=⟨AC.toF [.a 0] (bC a0_14),by simp[f6]⟩) (c0_15:=(c0_15.toF [.a 0])) hx44) [.a 0] ?_
     refine goN f6 ?_
     refine zaX (by rfl) (Gh.opn _ (.a 0) 8) ?_
     try simp only[St.frz,St.pur]
     revert hs;refine lK fun l50 hx51 hs=>?_
     have hx51n:l50.length=1:=by rw[hx51];rfl
     obtain⟨g52,hs⟩:=zaa hs
     have g52:=zbv g52
     obtain⟨g52a,g52b⟩:=g52
     revert hs;refine lK fun l53 hx54 hs=>?_
     have hx54n:l53.length=(a0_8.length+l50.length):=by rw[hx54];simp
     have hx54e:encL l53=encL a0_8++encL l50:=by rw[hx54];simp
     have F5:=an f6 (an hx51 (an hx54n hx54e))
     refine goD F5 ?_
     have f55:(encL l53).take (l53.length)=encL l53:=zbr _ (by simp)
     try simp[F5]at f55
     have f55l:l53.length * 1<=(encL l53).length:=by rw[zaE];simp
     try simp[F5]at f55l
     obtain rfl:=sj hs
     have F6:=an F5 (an f55 f55l)
     refine hQ _ _ (zaG _ (Gh.close _ (.a 0) 8) (by simp[St.frz,St.pur,F6];rfl) (by first|rfl |(simp[St.frz,St.pur,F6];done) |(rw[if_pos (by first|omega |(simp;omega))];simp[St.frz,St.pur,F6];first|omega|exact List.take_of_length_le (by simp;omega)|skip)) (pv F6))
    ·refine goD f6 ?_
     revert hs;refine cS f6 ?_ ?_<;>intro h56 hs
     ·refine goD f6 ?_
      revert hs;refine bK fun y57 hx58 hs=>?_
      refine cB f6 (zcv (c0_6:=⟨AC.toF [.a 0] (.own (.sp 2 a0_6.length (encL a0_6))),by simp[f6]⟩) (c0_7:=⟨AC.toF [.a 0] (.own (.sp 1 a0_7.length (encL a0_7))),by simp[f6]⟩) (c0_8:=⟨AC.toF [.a 0] (.own (.sp 1 a0_8.length (encL a0_8))),by simp[f6]⟩) (c0_9:=⟨AC.toF [.a 0] (.own (.sl 2 a0_9.length (otL a0_9))),by simp[f6]⟩) (c0_10:=⟨AC.toF [.a 0] (.own (.sp 2 a0_10.length (encL a0_10))),by simp[f6]⟩) (c0_11:=⟨AC.toF [.a 0] (.own (.sp 5 a0_11.length (encL a0_11))),by simp[f6]⟩) (c0_12:=⟨AC.toF [.a 0] (.own (.sp 1 a0_12.length (encL a0_12))),by simp[f6]⟩) (c0_13:=⟨AC.toF [.a 0] (.own (.sl 1 a0_13.length (otL a0_13))),by simp[f6]⟩) (c0_14:=⟨AC.toF [.a 0] (bC a0_14),by simp[f6]⟩) (c0_15:=(c0_15.toF [.a 0])) hx58) [.a 0] ?_
      refine goN f6 ?_
      refine zaX (by rfl) (Gh.opn _ (.a 0) 9) ?_
      try simp only[St.frz,St.pur]
      revert hs;refine lK fun l65 hx66 hs=>?_
      have hx66n:l65.length=1:=by rw[hx66];rfl
      obtain⟨g67,hs⟩:=zaa hs
      have g67:=zbv g67
      obtain⟨g67a,g67b⟩:=g67
      revert hs;refine lK fun l68 hx69 hs=>?_
      have hx69n:l68.length=(a0_9.length+l65.length):=by rw[hx69];simp
      have hx69e:encL l68=encL a0_9++encL l65:=by rw[hx69];simp
      have f70b:zah l68=zah a0_9++([tC y57.1.Text,.own (.sp 8 0 [])]:List AC):=by rw[hx69,hx66];simp
      have f70o:otCs (zah a0_9++([tC y57.1.Text,.own (.sp 8 0 [])]:List AC))=some (otL l68):=by rw[<- f70b];exact zfx _
      have f70c1:∀ v w:AC,(zah a0_9++([tC y57.1.Text,v]:List AC)).set (a0_9.length * 2+1) w=zah a0_9++([tC y57.1.Text,w]:List AC):=fun v w=>by rw[List.set_append_right _ _ (by simp)];simp
      have f70c1g:∀ v:AC,(zah a0_9++([tC y57.1.Text,v]:List AC))[a0_9.length * 2+1]?=some v:=fun v=>by rw[List.getElem?_append_right (by simp)];simp
      have F7:=an f6 (an hx66 (an hx69n (an f70b (an f70o (an f70c1 f70c1g)))))
      refine goN F7 ?_
      refine zdc ?_
      refine goN F7 ?_
      have F8:=an f6 (an hx66 (an hx69n (an hx69e (an f70b (an f70o (an f70c1 f70c1g))))))
      refine zaX (by rfl) ((Gh.voidB _ (.l 2) (.o 11 10 0) (a0_9.length * 2+1) 8 rfl (by simp[F8];rfl) (by first|rfl|simp) (by simp)).trans ((Gh.close _ (.o 11 10 0) (a0_9.length * 2+1)).trans (Gh.opn _ (.a 0) 12))) ?_
      try simp only[St.frz,St.pur]
      revert hs;refine lK fun l76 hx77 hs=>?_
      have hx77n:l76.length=1:=by rw[hx77];rfl
      obtain⟨g78,hs⟩:=zaa hs
      have g78:=zbv g78
      obtain⟨g78a,g78b⟩:=g78
      revert hs;refine lK fun l79 hx80 hs=>?_
      have hx80n:l79.length=(a0_12.length+l76.length):=by rw[hx80];simp
      have hx80e:encL l79=encL a0_12++encL l76:=by rw[hx80];simp
      revert hs;refine lK fun l81 hx82 hs=>?_
      have hx82n:l81.length=0:=by rw[hx82];rfl
      revert hs;refine lK fun l83 hx84 hs=>?_
      have hx84n:l83.length=1:=by rw[hx84];rfl
      obtain⟨g85,hs⟩:=zaa hs
      have g85:=zbv g85
      obtain⟨g85a,g85b⟩:=g85
      revert hs;refine lK fun l86 hx87 hs=>?_
      have hx87n:l86.length=(a0_13.length+l83.length):=by rw[hx87];simp
      have hx87e:encL l86=encL a0_13++encL l83:=by rw[hx87];simp
      have f88a:(zah a0_13++([.sl (.o 14 5 0) 0 1 l81.length]:List AC))[a0_13.length * 1]?=some (.sl (.o 14 5 0) 0 1 l81.length):=by first|rfl |(rw[List.getElem?_append_right (by simp)];simp)
      have f88b:zah l86=zah a0_13++([.own (.sp 1 l81.length (encL l81))]:List AC):=by rw[hx87];simp[hx84]
      have f88o:otCs (zah a0_13++([.own (.sp 1 l81.length (encL l81))]:List AC))=some (otL l86):=by rw[<- f88b];exact zfx _
      have F9:=an F7 (an hx77 (an hx80n (an hx80e (an hx82 (an hx84 (an hx87n (an f88a f88b)))))))
      try simp[F9]at f88o
      have F10:=an F9 f88o
      refine goN F10 ?_
      refine zdc ?_
      refine goN F10 ?_
      refine za7 ?_
      refine goN F10 ?_
      refine zaX (by rfl) (Gh.close _ (.o 14 7 0) (a0_13.length * 1)) ?_
      try simp only[St.frz,St.pur]
      refine goR F10 ?_
      have f89:(zah l68).take (l68.length * 2)=zah l68:=zca _ (by simp)
      try simp[F10]at f89
      have f89l:l68.length * 2<=(zah l68).length:=by rw[zbB];simp
      try simp[F10]at f89l
      have f90:(encL l79).take (l79.length)=encL l79:=zbr _ (by simp)
      have F11:=an F10 (an f89 f89l)
      try simp[F11]at f90
      have f90l:l79.length * 1<=(encL l79).length:=by rw[zaE];simp
      try simp[F11]at f90l
      have f91:(zah l86).take (l86.length)=zah l86:=zcb _ (by simp)
      have F12:=an F11 (an f90 f90l)
      try simp[F12]at f91
      have f91l:l86.length * 1<=(zah l86).length:=by rw[zbB];simp
      try simp[F12]at f91l
      obtain rfl:=sj hs
      have F13:=an F12 (an f91 f91l)
      refine hQ _ _ (zaG _ ((Gh.close _ (.a 0) 9).trans ((Gh.close _ (.a 0) 12).trans (Gh.close _ (.a 0) 13))) (by simp[St.frz,St.pur,F13];rfl) (by first|rfl |(simp[St.frz,St.pur,F13];done) |(rw[if_pos (by first|omega |(simp;omega))];simp[St.frz,St.pur,F13];first|omega|exact List.take_of_length_le (by simp;omega)|skip)) (pv F13))
     ·refine goD f6 ?_
      revert hs;refine cS f6 ?_ ?_<;>intro h92 hs
      ·refine goD f6 ?_
       revert hs;refine bK fun y93 hx94 hs=>?_
       refine cB f6 (zlI (c0_6:=⟨AC.toF [.a 0] (.own (.sp 2 a0_6.length (encL a0_6))),by simp[f6]⟩) (c0_7:=⟨AC.toF [.a 0] (.own (.sp 1 a0_7.length (encL a0_7))),by simp[f6]⟩) (c0_8:=⟨AC.toF [.a 0] (.own (.sp 1 a0_8.length (encL a0_8))),by simp[f6]⟩) (c0_9:=⟨AC.toF [.a 0] (.own (.sl 2 a0_9.length (otL a0_9))),by simp[f6]⟩) (c0_10:=⟨AC.toF [.a 0] (.sl (.o 10 5 10) 0 2 a0_10.length),by simp[f6]⟩) (c0_12:=⟨AC.toF [.a 0] (.own (.sp 1 a0_12.length (encL a0_12))),by simp[f6]⟩) (c0_13:=⟨AC.toF [.a 0] (.own (.sl 1 a0_13.length (otL a0_13))),by simp[f6]⟩) (c0_14:=⟨AC.toF [.a 0] (bC a0_14),by simp[f6]⟩) (c0_15:=(c0_15.toF [.a 0])) hx94) [.a 0] ?_
       refine goD f6 ?_
       revert hs;refine bK fun y102 hx103 hs=>?_
       refine cB f6 (zf6 (c0_6:=⟨AC.toF [.a 0] (.own (.sp 2 a0_6.length (encL a0_6))),by simp[f6]⟩) (c0_7:=⟨AC.toF [.a 0] (.own (.sp 1 a0_7.length (encL a0_7))),by simp[f6]⟩) (c0_8:=⟨AC.toF [.a 0] (.own (.sp 1 a0_8.length (encL a0_8))),by simp[f6]⟩) (c0_9:=⟨AC.toF [.a 0] (.own (.sl 2 a0_9.length (otL a0_9))),by simp[f6]⟩) (c0_10:=⟨AC.toF [.a 0] (.sl (.o 10 5 10) 0 2 a0_10.length),by simp[f6]⟩) (c0_11:=⟨AC.toF [.a 0] (.own (.sp 5 y93.2.2.2.length (encL y93.2.2.2))),by simp[f6]⟩) (c0_12:=⟨AC.toF [.a 0] (.own (.sp 1 a0_12.length (encL a0_12))),by simp[f6]⟩) (c0_13:=⟨AC.toF [.a 0] (.own (.sl 1 a0_13.length (otL a0_13))),by simp[f6]⟩) (c0_14:=⟨AC.toF [.a 0] (bC a0_14),by simp[f6]⟩) (c0_15:=(c0_15.toF [.a 0])) hx103) [.a 0] ?_
       revert hs;refine lK fun l104 hx105 hs=>?_
       have hx105n:l104.length=1:=by rw[hx105];rfl
       obtain⟨g106,hs⟩:=zaa hs
       have g106:=zbv g106
       obtain⟨g106a,g106b⟩:=g106
       revert hs;refine lK fun l107 hx108 hs=>?_
       have hx108n:l107.length=(a0_10.length+l104.length):=by rw[hx108];simp
       have hx108e:encL l107=encL a0_10++encL l104:=by rw[hx108];simp
       have F14:=an f6 (an hx105 (an hx108n hx108e))
       refine goD F14 ?_
       have f109:(encL l107).take (l107.length * 2)=encL l107:=zal _ (by simp)
       try simp[F14]at f109
       have f109l:l107.length * 2<=(encL l107).length:=by rw[zaE];simp
       try simp[F14]at f109l
       obtain rfl:=sj hs
       have F15:=an F14 (an f109 f109l)
       refine hQ _ _ (zaG _ (Gh.close _ (.a 0) 10) (by simp[St.frz,St.pur,F15];rfl) (by first|rfl |(simp[St.frz,St.pur,F15];done) |(rw[if_pos (by first|omega |(simp;omega))];simp[St.frz,St.pur,F15];first|omega|exact List.take_of_length_le (by simp;omega)|skip)) (pv F15))
      ·refine goD f6 ?_
       revert hs;refine bK fun y110 hx111 hs=>?_
       refine cB f6 (zbL (c0_0:=⟨AC.toF [.a 0] (sC a0_0),by simp[f6]⟩) (c0_1:=⟨AC.toF [.a 0] (nC (IntKind.i64.wrap (a0_1+1))),by simp[f6]⟩) (c0_2:=⟨AC.toF [.a 0] (nC a0_2),by simp[f6]⟩) (c0_3:=⟨AC.toF [.a 0] (bC a0_3),by simp[f6]⟩) (c0_6:=⟨AC.toF [.a 0] (.own (.sp 2 a0_6.length (encL a0_6))),by simp[f6]⟩) (c0_7:=⟨AC.toF [.a 0] (.own (.sp 1 a0_7.length (encL a0_7))),by simp[f6]⟩) (c0_8:=⟨AC.toF [.a 0] (.own (.sp 1 a0_8.length (encL a0_8))),by simp[f6]⟩) (c0_9:=⟨AC.toF [.a 0] (.own (.sl 2 a0_9.length (otL a0_9))),by simp[f6]⟩) (c0_10:=⟨AC.toF [.a 0] (.own (.sp 2 a0_10.length (encL a0_10))),by simp[f6]⟩) (c0_11:=⟨AC.toF [.a 0] (.own (.sp 5 a0_11.length (encL a0_11))),by simp[f6]⟩) (c0_12:=⟨AC.toF [.a 0] (.own (.sp 1 a0_12.length (encL a0_12))),by simp[f6]⟩) (c0_13:=⟨AC.toF [.a 0] (.own (.sl 1 a0_13.length (otL a0_13))),by simp[f6]⟩) (c0_14:=⟨AC.toF [.a 0] (bC a0_14),by simp[f6]⟩) (c0_15:=(c0_15.toF [.a 0])) hx111) [.a 0] ?_
       refine goD f6 ?_
       obtain rfl:=sj hs
       refine hQ _ _ (zaG _ (Gh.refl _) (by simp[St.frz,St.pur,f6];rfl) (by first|rfl |(simp[St.frz,St.pur,f6];done) |(rw[if_pos (by first|omega |(simp;omega))];simp[St.frz,St.pur,f6];first|omega|exact List.take_of_length_le (by simp;omega)|skip)) (pv f6))
def zcN(a0_0:List Token)(a0_1:Int)(a0_3:Bool)(a0_4:Int)(a0_5:Int):Option (Int × Int):=
 cond (eqI a0_4 0) (Option.bind (zgl a0_0 a0_1 a0_3) (fun y2=>cond (!y2) (Option.bind (getI a0_0 a0_1) (fun x10=>Option.bind (zcq a0_4 a0_5 14 x10.At) (fun y13=>some (y13.1,y13.2)))) (some (a0_4,a0_5)))) (some (a0_4,a0_5))
theorem zi3{c0_2:FC}{c0_6:FC}{c0_7:FC}{c0_8:FC}{c0_9:FC}{c0_10:FC}{c0_11:FC}{c0_12:FC}{c0_13:FC}{c0_14:FC}{c0_15:FC}{a0_0:List Token}{a0_1:Int}{a0_3:Bool}{a0_4:Int}{a0_5:Int}{r:Int × Int}(hs:zcN a0_0 a0_1 a0_3 a0_4 a0_5=some r):CAt Tryz.prog 22 [.cell (.ref (.a 0) 0)] [.cells [sC a0_0,nC a0_1,c0_2.ac,bC a0_3,nC a0_4,nC a0_5,c0_6.ac,c0_7.ac,c0_8.ac,c0_9.ac,c0_10.ac,c0_11.ac,c0_12.ac,c0_13.ac,c0_14.ac,c0_15.ac]] (.ret (.tup [])) [(.a 0,.cells [sC a0_0,nC a0_1,c0_2.ac,bC a0_3,nC r.1,nC r.2,c0_6.ac,c0_7.ac,c0_8.ac,c0_9.ac,c0_10.ac,c0_11.ac,c0_12.ac,c0_13.ac,c0_14.ac,c0_15.ac])]:=by
 refine zab (by kernel_rfl) fun hb=>?_
 refine zac mixed Tryz.func22 (by kernel_rfl) rfl (by kernel_rfl) rfl fun Q hQ=>?_
 rw[zcN]at hs
 refine goG f0 f0 ?_
 refine zdG (fun h1=>?_) (fun h1=>?_)
 ·replace hs:=zoj h1 hs
  refine goG h1 h1 ?_
  revert hs;refine bK fun y2 hx3 hs=>?_
  refine cB h1 (zi2 (c0_2:=(c0_2.toF [.a 0])) (c0_4:=⟨AC.toF [.a 0] (nC a0_4),by simp[h1]⟩) (c0_5:=⟨AC.toF [.a 0] (nC a0_5),by simp[h1]⟩) (c0_6:=(c0_6.toF [.a 0])) (c0_7:=(c0_7.toF [.a 0])) (c0_8:=(c0_8.toF [.a 0])) (c0_9:=(c0_9.toF [.a 0])) (c0_10:=(c0_10.toF [.a 0])) (c0_11:=(c0_11.toF [.a 0])) (c0_12:=(c0_12.toF [.a 0])) (c0_13:=(c0_13.toF [.a 0])) (c0_14:=(c0_14.toF [.a 0])) (c0_15:=(c0_15.toF [.a 0])) hx3) [.a 0] ?_
  refine goG h1 h1 ?_
  revert hs;refine cS h1 ?_ ?_<;>intro h4 hs
  ·revert hs;refine bK fun x10 hx11 hs=>?_
   obtain⟨hx11a,hx11b,hx11c,hx11d⟩:=zao hx11
   have f12:zam Tryz.prog 3 (encL a0_0) (((a0_1).toNat) * 4+3)=some (iV .i64 x10.At):=zae hx11d (f:=3) (by simp)
   have F1:=an h1 f12
   have F2:=an F1 (an hx11a hx11b)
   refine goE F1 F2 ?_
   revert hs;refine bK fun y13 hx14 hs=>?_
   refine cB F1 (zbL (c0_0:=⟨AC.toF [.a 0] (sC a0_0),by simp[F1]⟩) (c0_1:=⟨AC.toF [.a 0] (nC a0_1),by simp[F1]⟩) (c0_2:=(c0_2.toF [.a 0])) (c0_3:=⟨AC.toF [.a 0] (bC a0_3),by simp[F1]⟩) (c0_6:=(c0_6.toF [.a 0])) (c0_7:=(c0_7.toF [.a 0])) (c0_8:=(c0_8.toF [.a 0])) (c0_9:=(c0_9.toF [.a 0])) (c0_10:=(c0_10.toF [.a 0])) (c0_11:=(c0_11.toF [.a 0])) (c0_12:=(c0_12.toF [.a 0])) (c0_13:=(c0_13.toF [.a 0])) (c0_14:=(c0_14.toF [.a 0])) (c0_15:=(c0_15.toF [.a 0])) hx14) [.a 0] ?_
   refine goE F1 F2 ?_
   obtain rfl:=sj hs
   refine hQ _ _ (zaG _ (Gh.refl _) (by simp[St.frz,St.pur,F1];rfl) (by first|rfl |(simp[St.frz,St.pur,F1];done) |(rw[if_pos (by first|omega |(simp;omega))];simp[St.frz,St.pur,F1];first|omega|exact List.take_of_length_le (by simp;omega)|skip)) (pv F1))
  ·refine goG h1 h1 ?_
   obtain rfl:=sj hs
   refine hQ _ _ (zaG _ (Gh.refl _) (by simp[St.frz,St.pur,h1];rfl) (by first|rfl |(simp[St.frz,St.pur,h1];done) |(rw[if_pos (by first|omega |(simp;omega))];simp[St.frz,St.pur,h1];first|omega|exact List.take_of_length_le (by simp;omega)|skip)) (pv h1))
 ·replace hs:=zol h1 hs
  refine goG h1 h1 ?_
  obtain rfl:=sj hs
  refine hQ _ _ (zaG _ (Gh.refl _) (by simp[St.frz,St.pur,h1];rfl) (by first|rfl |(simp[St.frz,St.pur,h1];done) |(rw[if_pos (by first|omega |(simp;omega))];simp[St.frz,St.pur,h1];first|omega|exact List.take_of_length_le (by simp;omega)|skip)) (pv h1))
def zcz(a1:ByteArray):List ByteArray->Nat->Option (Unit ⊕ Int)
 |[],k41=>some (.inl ())
 |x58::q54,k41=>cond (eqS x58 a1) (some (.inr ((k41:Nat):Int))) (zcz a1 q54 (k41+1))
def zfv(a0:List ByteArray)(a1:ByteArray):Option Int:=
 Option.bind (α:=Unit ⊕ Int) (Option.bind (zcz a1 a0 0) (fun o=>match o with|.inl _=>some (.inl ())|.inr r62=>some (.inr r62))) (fun o=>match o with|.inl _=>some (-1)|.inr r63=>some r63)
theorem zmO{a0:List ByteArray}{a1:ByteArray}{r:Int}(hs:zfv a0 a1=some r):At Tryz.prog 44 [.cell (sC a0),sV a1] (iV .i64 r):=by
 refine zab (by kernel_rfl) fun hb=>?_
 have hb1:LenOk (.sl a0.length (encL a0)):=lkc hb
 refine zac mixed Tryz.func44 (by kernel_rfl) rfl (by kernel_rfl) rfl fun Q hQ=>?_
 rw[zfv]at hs
 refine goR2 f0 ?_
 revert hs;refine bK fun o31 e30 hs=>?_
 refine zaj (fun(v:Unit) (σ:St)=>some (.inl v)=some o31 /\ 2<=σ.gen) (by rfl) (fun Q hK32 hX33=>?_) (fun v σ3 hp=>?_)
 ·refine goR f0 ?_
  revert e30;refine bK fun o49 e48 e30=>?_
  refine zaf (fun(v:(List ByteArray) × Nat) (σ:St)=>zcz a1 v.1 v.2=some o49 /\ v.1=a0.drop v.2 /\ σ.env 0=.cell (sC a0) /\ σ.env 1=sV a1 /\ σ.env 5=iV .i64 ((v.2:Nat):Int) /\ 2<=σ.gen) (fun v=>v.1.length) _ (Gh.refl _) (a0,0) ⟨e48,by simp,pv f0,pv f0,pv f0,pg⟩ fun v σ6 hp L50 hL51=>?_
  obtain⟨q53,k41⟩:=v
  dsimp only at hp hL51
  obtain⟨e48,hd52,h5_0,h5_1,h5_5,n5_g⟩:=hp
  rcases q53 with _ |⟨x58,q54⟩
  ·have hlt55:=drop_end hd52
   rw[zcz]at e48;try dsimp only at e48
   have F1:=an h5_0 (an h5_1 h5_5)
   refine goR F1 ?_
   refine zaF (by simp[ltI];omega) ?_
   obtain rfl:=sj e48
   try dsimp only at e30
   exact hK32 () _ _ (Gh.refl _) ⟨e30,pg⟩
  ·obtain⟨hx57,hlt55,hd59⟩:=zay hd52
   have ew56:=wrap_succ hlt55 (hb1).len
   rw[zcz]at e48;try dsimp only at e48
   have F2:=an h5_0 (an h5_1 (an h5_5 (an hlt55 ew56)))
   refine goR F2 ?_
   refine zaB (by simp[ltI];omega) ?_
   have f60:zam Tryz.prog 9 (encL a0) (k41)=some (sV x58):=zaz hx57 (by simp)
   have F3:=an F2 f60
   refine goR F3 ?_
   revert e48;refine cS F3 ?_ ?_<;>intro h61 e48
   ·refine goR F3 ?_
    obtain rfl:=sj e48
    try dsimp only at e30
    obtain rfl:=sj e30
    try dsimp only at hs
    refine hX33 _ _ (by simp) ?_
    refine goR F3 ?_
    obtain rfl:=sj hs
    exact hQ _ _ (rg F3 (Gh.refl _))
   ·refine goR F3 ?_
    exact hL51 (q54,(k41+1)) _ _ (Gh.refl _) ⟨e48,hd59,pv F3,pv F3,pv F3,pg⟩ (by simp)
 ·obtain⟨e30,n4_g⟩:=hp
  obtain rfl:=sj e30
  try dsimp only at hs
  refine goR f0 ?_
  obtain rfl:=sj hs
  exact hQ _ _ (rg f0 (Gh.refl _))
def ziu:List Var->(List ByteArray)->Nat->Option (List ByteArray)
 |[],l110,k111=>some (l110)
 |x133::q129,l110,k111=>Option.bind (some ([x133.Name])) (fun l136=>zai (limB 16 (l110.length+l136.length)) (Option.bind (some (l110++l136)) (fun l139=>ziu q129 l139 (k111+1))))
def zit:List Func->(List ByteArray)->Nat->Option (List ByteArray)
 |[],l154,k155=>some (l154)
 |x177::q173,l154,k155=>Option.bind (some ([x177.Name])) (fun l180=>zai (limB 16 (l154.length+l180.length)) (Option.bind (some (l154++l180)) (fun l183=>zit q173 l183 (k155+1))))
def rRs (a0:Program)(a1:RNm):Option Int:=
 Option.bind (some (([]:List ByteArray))) (fun l1=>Option.bind (α:=(List ByteArray)) (cond (eqI ((a1.Kind).toNat:Int) 118) (Option.bind (ziu a0.Vars l1 0) (fun l122=>some (l122))) (cond (eqI ((a1.Kind).toNat:Int) 102) (Option.bind (zit a0.Funcs l1 0) (fun l166=>some (l166))) (cond (eqI ((a1.Kind).toNat:Int) 99) (some (a0.Conds)) (some (a0.Mutexes))))) (fun l92=>Option.bind (zfv l92 a1.Text) (fun y186=>some y186)))
theorem zxb{a0:Program}{a1:RNm}{r:Int}(hs:rRs a0 a1=some r):At Tryz.prog 24 [.agg (eA a0),.agg [.p (.c (.int .u8 ((a1.Kind).toNat:Int))),tC a1.Text,nC a1.At,nC a1.Func,nC a1.Inst]] (iV .i64 r):=by
 refine zab (by kernel_rfl) fun hb=>?_
 have hb1:LenOk (.sl a0.Vars.length (encL a0.Vars)):=lkc hb
 have hb2:LenOk (.sl a0.Mutexes.length (encL a0.Mutexes)):=lkc hb
 have hb3:LenOk (.sl a0.Conds.length (encL a0.Conds)):=lkc hb
 have hb4:LenOk (.sl a0.Funcs.length (encL a0.Funcs)):=lkc hb
 have hb5:LenOk (.sl a0.Threads.length (encL a0.Threads)):=lkc hb
 refine zac mixed Tryz.func24 (by kernel_rfl) rfl (by kernel_rfl) rfl fun Q hQ=>?_
 rw[rRs]at hs
 revert hs;refine lK fun l1 hx2 hs=>?_
 have hx2n:l1.length=0:=by rw[hx2];rfl
 refine goR2 hx2 ?_
 revert hs;refine bK fun o94 e93 hs=>?_
 refine zaj (fun(v:(List ByteArray)) (σ:St)=>some (v)=some o94 /\ σ.env 3=.cell (.ref (.o 1 1 0) 0) /\ σ.env 5=.cell (sC v) /\ σ.hp (.o 1 1 0)=some (.cells [.p (.c (.int .u8 ((a1.Kind).toNat:Int))),tC a1.Text,nC a1.At,nC a1.Func,nC a1.Inst]) /\ 3<=σ.gen) (by rfl) (fun Q hK95 hX96=>?_) (fun l92 σ5 hp=>?_)
 ·refine goR hx2 ?_
  revert e93;refine cS hx2 ?_ ?_<;>intro h97 e93
  ·refine goR hx2 ?_
   revert e93;refine bK fun o124 e123 e93=>?_
   refine zaf (fun(v:(List Var) × (List ByteArray) × Nat) (σ:St)=>ziu v.1 v.2.1 v.2.2=some o124 /\ v.1=a0.Vars.drop v.2.2 /\ σ.env 2=.cell (.ref (.o 1 0 0) 0) /\ σ.env 3=.cell (.ref (.o 1 1 0) 0) /\ σ.env 5=.cell (.sl (.l 8) 0 1 v.2.1.length) /\ σ.env 6=iV .i64 ((v.2.2:Nat):Int) /\ σ.hp (.l 8)=some (.pure (encL v.2.1)) /\ σ.hp (.o 1 0 0)=some (.cells (eA a0)) /\ σ.hp (.o 1 1 0)=some (.cells [.p (.c (.int .u8 ((a1.Kind).toNat:Int))),tC a1.Text,nC a1.At,nC a1.Func,nC a1.Inst]) /\ 5<=σ.gen) (fun v=>v.1.length) _ (Gh.ren _ (.o 2 0 0) (.l 8) (by simp) rfl rfl) (a0.Vars,l1,0) ⟨e123,by simp,pv hx2,pv hx2,pv hx2,pv hx2,pv hx2,pv hx2,pv hx2,pg⟩ fun v σ8 hp L125 hL126=>?_
   obtain⟨q128,l110,k111⟩:=v
   dsimp only at hp hL126
   obtain⟨e123,hd127,h7_2,h7_3,h7_5,h7_6,g7_0,g7_1,g7_2,n7_g⟩:=hp
   have n7_0:¬ (σ8.gen=0):=by omega
   rcases q128 with _ |⟨x133,q129⟩
   ·have hlt130:=drop_end hd127
    rw[ziu]at e123;try dsimp only at e123
    have F1:=an h7_2 (an h7_3 (an h7_5 (an h7_6 (an g7_0 (an g7_1 (an g7_2 n7_0))))))
    refine goR F1 ?_
    refine zaF (by simp[ltI];omega) ?_
    obtain rfl:=sj e123
    try dsimp only at e93
    exact hK95 l110 _ _ (Gh.frz _ (.l 8)) ⟨e93,pv F1,pv F1,pv F1,pg⟩
   ·obtain⟨hx132,hlt130,hd134⟩:=zay hd127
    have ew131:=wrap_succ hlt130 (hb1).len
    rw[ziu]at e123;try dsimp only at e123
    have F2:=an h7_2 (an h7_3 (an h7_5 (an h7_6 (an g7_0 (an g7_1 (an g7_2 (an n7_0 (an hlt130 ew131))))))))
    refine goR F2 ?_
    refine zaB (by simp[ltI];omega) ?_
    have f135:zam Tryz.prog 9 (encL a0.Vars) (k111 * 2)=some (sV x133.Name):=zae hx132 (f:=0) (by simp)
    revert e123;refine lK fun l136 hx137 e123=>?_
    have hx137n:l136.length=1:=by rw[hx137];rfl
    obtain⟨g138,e123⟩:=zaa e123
    have g138:=zbv g138
    obtain⟨g138a,g138b⟩:=g138
    revert e123;refine lK fun l139 hx140 e123=>?_
    have hx140n:l139.length=(l110.length+l136.length):=by rw[hx140];simp
    have hx140e:encL l139=encL l110++encL l136:=by rw[hx140];simp
    have F3:=an F2 (an f135 (an hx137 (an hx140n hx140e)))
    refine goR F3 ?_
    exact hL126 (q129,l139,(k111+1)) _ _ (Gh.ren _ (.o (σ8.gen+2) 8 0) (.l 8) (by simp) rfl rfl) ⟨e123,hd134,pv F3,pv F3,pv F3,pv F3,pv F3,pv F3,pv F3,pg⟩ (by simp)
  ·refine goR hx2 ?_
   revert e93;refine cS hx2 ?_ ?_<;>intro h141 e93
   ·refine goR hx2 ?_
    revert e93;refine bK fun o168 e167 e93=>?_
    refine zaf (fun(v:(List Func) × (List ByteArray) × Nat) (σ:St)=>zit v.1 v.2.1 v.2.2=some o168 /\ v.1=a0.Funcs.drop v.2.2 /\ σ.env 2=.cell (.ref (.o 1 0 0) 0) /\ σ.env 3=.cell (.ref (.o 1 1 0) 0) /\ σ.env 5=.cell (.sl (.l 11) 0 1 v.2.1.length) /\ σ.env 7=iV .i64 ((v.2.2:Nat):Int) /\ σ.hp (.l 11)=some (.pure (encL v.2.1)) /\ σ.hp (.o 1 0 0)=some (.cells (eA a0)) /\ σ.hp (.o 1 1 0)=some (.cells [.p (.c (.int .u8 ((a1.Kind).toNat:Int))),tC a1.Text,nC a1.At,nC a1.Func,nC a1.Inst]) /\ 6<=σ.gen) (fun v=>v.1.length) _ (Gh.ren _ (.o 2 0 0) (.l 11) (by simp) rfl rfl) (a0.Funcs,l1,0) ⟨e167,by simp,pv hx2,pv hx2,pv hx2,pv hx2,pv hx2,pv hx2,pv hx2,pg⟩ fun v σ10 hp L169 hL170=>?_
    obtain⟨q172,l154,k155⟩:=v
    dsimp only at hp hL170
    obtain⟨e167,hd171,h9_2,h9_3,h9_5,h9_7,g9_0,g9_1,g9_2,n9_g⟩:=hp
    have n9_0:¬ (σ10.gen=0):=by omega
    rcases q172 with _ |⟨x177,q173⟩
    ·have hlt174:=drop_end hd171
     rw[zit]at e167;try dsimp only at e167
     have F4:=an h9_2 (an h9_3 (an h9_5 (an h9_7 (an g9_0 (an g9_1 (an g9_2 n9_0))))))
     refine goR F4 ?_
     refine zaF (by simp[ltI];omega) ?_
     obtain rfl:=sj e167
     try dsimp only at e93
     exact hK95 l154 _ _ (Gh.frz _ (.l 11)) ⟨e93,pv F4,pv F4,pv F4,pg⟩
    ·obtain⟨hx176,hlt174,hd178⟩:=zay hd171
     have ew175:=wrap_succ hlt174 (hb4).len
     rw[zit]at e167;try dsimp only at e167
     have F5:=an h9_2 (an h9_3 (an h9_5 (an h9_7 (an g9_0 (an g9_1 (an g9_2 (an n9_0 (an hlt174 ew175))))))))
     refine goR F5 ?_
     refine zaB (by simp[ltI];omega) ?_
     have f179:zam Tryz.prog 9 (encL a0.Funcs) (k155 * 2)=some (sV x177.Name):=zae hx176 (f:=0) (by simp)
     revert e167;refine lK fun l180 hx181 e167=>?_
     have hx181n:l180.length=1:=by rw[hx181];rfl
     obtain⟨g182,e167⟩:=zaa e167
     have g182:=zbv g182
     obtain⟨g182a,g182b⟩:=g182
     revert e167;refine lK fun l183 hx184 e167=>?_
     have hx184n:l183.length=(l154.length+l180.length):=by rw[hx184];simp
     have hx184e:encL l183=encL l154++encL l180:=by rw[hx184];simp
     have F6:=an F5 (an f179 (an hx181 (an hx184n hx184e)))
     refine goR F6 ?_
     exact hL170 (q173,l183,(k155+1)) _ _ (Gh.ren _ (.o (σ10.gen+2) 8 0) (.l 11) (by simp) rfl rfl) ⟨e167,hd178,pv F6,pv F6,pv F6,pv F6,pv F6,pv F6,pv F6,pg⟩ (by simp)
   ·refine goR hx2 ?_
    revert e93;refine cS hx2 ?_ ?_<;>intro h185 e93
    ·refine goR hx2 ?_
     exact hK95 a0.Conds _ _ (Gh.refl _) ⟨e93,pv hx2,pv hx2,pv hx2,pg⟩
    ·refine goR hx2 ?_
     exact hK95 a0.Mutexes _ _ (Gh.refl _) ⟨e93,pv hx2,pv hx2,pv hx2,pg⟩
 ·obtain⟨e93,h6_3,h6_5,g6_0,n6_g⟩:=hp
  obtain rfl:=sj e93
  try dsimp only at hs
  have n6_0:¬ (σ5.gen=0):=by omega
  have F7:=an h6_3 (an h6_5 (an g6_0 n6_0))
  refine goR F7 ?_
  revert hs;refine bK fun y186 hx187 hs=>?_
  refine cP F7 (zmO hx187) ?_
  refine goR F7 ?_
  obtain rfl:=sj hs
  exact hQ _ _ (rg F7 (Gh.refl _))
def ziv(a0:Inst)(a1:RNm)(a2:Int):Option Inst:=
 cond (eqI ((a1.Kind).toNat:Int) 77) (some ({ a0 with N:=a2 })) (some ({ a0 with Obj:=a2 }))
theorem zor{a0:Inst}{a1:RNm}{a2:Int}{r:Inst}(hs:ziv a0 a1 a2=some r):At Tryz.prog 25 [.agg (eA a0),.agg [.p (.c (.int .u8 ((a1.Kind).toNat:Int))),tC a1.Text,nC a1.At,nC a1.Func,nC a1.Inst],iV .i64 a2] (.agg (eA r)):=by
 refine zab (by kernel_rfl) fun hb=>?_
 refine zac mixed Tryz.func25 (by kernel_rfl) rfl (by kernel_rfl) rfl fun Q hQ=>?_
 rw[ziv]at hs
 refine goR f0 ?_
 revert hs;refine cS f0 ?_ ?_<;>intro h1 hs
 ·refine goR f0 ?_
  obtain rfl:=sj hs
  exact hQ _ _ (rg f0 (Gh.refl _))
 ·refine goR f0 ?_
  obtain rfl:=sj hs
  exact hQ _ _ (rg f0 (Gh.refl _))
def zb3:List Var->(List ByteArray)->Nat->Option (List ByteArray)
 |[],l61,k62=>some (l61)
 |x84::q80,l61,k62=>Option.bind (some ([x84.Name])) (fun l87=>zai (limB 16 (l61.length+l87.length)) (Option.bind (some (l61++l87)) (fun l90=>zb3 q80 l90 (k62+1))))
def zb2:List Func->(List ByteArray)->Nat->Option (List ByteArray)
 |[],l152,k153=>some (l152)
 |x175::q171,l152,k153=>Option.bind (some ([x175.Name])) (fun l178=>zai (limB 16 (l152.length+l178.length)) (Option.bind (some (l152++l178)) (fun l181=>zb2 q171 l181 (k153+1))))
def zfd(a0:Program):Option ((List ByteArray) × (List ByteArray)):=
 Option.bind (α:=(List ByteArray)) (Option.bind (zb3 a0.Vars [] 0) (fun l73=>some (l73))) (fun l44=>Option.bind (α:=(List ByteArray)) (Option.bind (zb2 a0.Funcs [] 0) (fun l164=>some (l164))) (fun l135=>some (l44,l135)))
theorem zlL{a0:Program}{r:(List ByteArray) × (List ByteArray)}(hs:zfd a0=some r):At Tryz.prog 45 [.agg (eA a0)] (.tup [.cell (sC r.1),.cell (sC r.2)]):=by
 refine zab (by kernel_rfl) fun hb=>?_
 have hb1:LenOk (.sl a0.Vars.length (encL a0.Vars)):=lkc hb
 have hb2:LenOk (.sl a0.Mutexes.length (encL a0.Mutexes)):=lkc hb
 have hb3:LenOk (.sl a0.Conds.length (encL a0.Conds)):=lkc hb
 have hb4:LenOk (.sl a0.Funcs.length (encL a0.Funcs)):=lkc hb
 have hb5:LenOk (.sl a0.Threads.length (encL a0.Threads)):=lkc hb
 refine zac mixed Tryz.func45 (by kernel_rfl) rfl (by kernel_rfl) rfl fun Q hQ=>?_
 rw[zfd]at hs
 refine goR2 f0 ?_
 revert hs;refine bK fun o46 e45 hs=>?_
 refine zaj (fun(v:(List ByteArray)) (σ:St)=>some (v)=some o46 /\ σ.env 1=.cell (.ref (.o 1 0 0) 0) /\ σ.env 4=.cell (.sl (.l 2) 0 1 v.length) /\ σ.env 5=.cell (.z) /\ σ.hp (.l 2)=some (.pure (encL v)) /\ σ.hp (.o 1 0 0)=some (.cells (eA a0)) /\ 3<=σ.gen) (by rfl) (fun Q hK47 hX48=>?_) (fun l44 σ3 hp=>?_)
 ·refine goR f0 ?_
  revert e45;refine bK fun o75 e74 e45=>?_
  refine zaf (fun(v:(List Var) × (List ByteArray) × Nat) (σ:St)=>zb3 v.1 v.2.1 v.2.2=some o75 /\ v.1=a0.Vars.drop v.2.2 /\ σ.env 1=.cell (.ref (.o 1 0 0) 0) /\ σ.env 4=.cell (.sl (.l 6) 0 1 v.2.1.length) /\ σ.env 5=.cell (.z) /\ σ.env 6=iV .i64 ((v.2.2:Nat):Int) /\ σ.hp (.l 6)=some (.pure (encL v.2.1)) /\ σ.hp (.o 1 0 0)=some (.cells (eA a0)) /\ 3<=σ.gen) (fun v=>v.1.length) _ (Gh.void _ (.l 6) 4 1 rfl (by simp)) (a0.Vars,[],0) ⟨e74,by simp,pv f0,pv f0,pv f0,pv f0,pv f0,pv f0,pg⟩ fun v σ6 hp L76 hL77=>?_
  obtain⟨q79,l61,k62⟩:=v
  dsimp only at hp hL77
  obtain⟨e74,hd78,h5_1,h5_4,h5_5,h5_6,g5_0,g5_1,n5_g⟩:=hp
  have n5_0:¬ (σ6.gen=0):=by omega
  rcases q79 with _ |⟨x84,q80⟩
  ·have hlt81:=drop_end hd78
   rw[zb3]at e74;try dsimp only at e74
   have F1:=an h5_1 (an h5_4 (an h5_5 (an h5_6 (an g5_0 (an g5_1 n5_0)))))
   refine goR F1 ?_
   refine zaF (by simp[ltI];omega) ?_
   obtain rfl:=sj e74
   try dsimp only at e45
   exact hK47 l61 _ _ (Gh.ren _ (.l 6) (.l 2) (by simp) rfl rfl) ⟨e45,pv F1,pv F1,pv F1,pv F1,pv F1,pg⟩
  ·obtain⟨hx83,hlt81,hd85⟩:=zay hd78
   have ew82:=wrap_succ hlt81 (hb1).len
   rw[zb3]at e74;try dsimp only at e74
   have F2:=an h5_1 (an h5_4 (an h5_5 (an h5_6 (an g5_0 (an g5_1 (an n5_0 (an hlt81 ew82)))))))
   refine goR F2 ?_
   refine zaB (by simp[ltI];omega) ?_
   have f86:zam Tryz.prog 9 (encL a0.Vars) (k62 * 2)=some (sV x84.Name):=zae hx83 (f:=0) (by simp)
   revert e74;refine lK fun l87 hx88 e74=>?_
   have hx88n:l87.length=1:=by rw[hx88];rfl
   obtain⟨g89,e74⟩:=zaa e74
   have g89:=zbv g89
   obtain⟨g89a,g89b⟩:=g89
   revert e74;refine lK fun l90 hx91 e74=>?_
   have hx91n:l90.length=(l61.length+l87.length):=by rw[hx91];simp
   have hx91e:encL l90=encL l61++encL l87:=by rw[hx91];simp
   have F3:=an F2 (an f86 (an hx88 (an hx91n hx91e)))
   refine goR F3 ?_
   exact hL77 (q80,l90,(k62+1)) _ _ (Gh.ren _ (.o (σ6.gen+2) 8 0) (.l 6) (by simp) rfl rfl) ⟨e74,hd85,pv F3,pv F3,pv F3,pv F3,pv F3,pv F3,pg⟩ (by simp)
 ·obtain⟨e45,h4_1,h4_4,h4_5,g4_0,g4_1,n4_g⟩:=hp
  obtain rfl:=sj e45
  try dsimp only at hs
  have n4_0:¬ (σ3.gen=0):=by omega
  have F4:=an h4_1 (an h4_4 (an h4_5 (an g4_0 (an g4_1 n4_0))))
  refine goR2 F4 ?_
  revert hs;refine bK fun o137 e136 hs=>?_
  refine zaj (fun(v:(List ByteArray)) (σ:St)=>some (v)=some o137 /\ σ.env 4=.cell (.sl (.l 2) 0 1 l44.length) /\ σ.env 5=.cell (.sl (.l 11) 0 1 v.length) /\ σ.hp (.l 11)=some (.pure (encL v)) /\ σ.hp (.l 2)=some (.pure (encL l44)) /\ (σ3.gen+1)<=σ.gen) (by rfl) (fun Q hK138 hX139=>?_) (fun l135 σ9 hp=>?_)
  ·refine goR F4 ?_
   revert e136;refine bK fun o166 e165 e136=>?_
   refine zaf (fun(v:(List Func) × (List ByteArray) × Nat) (σ:St)=>zb2 v.1 v.2.1 v.2.2=some o166 /\ v.1=a0.Funcs.drop v.2.2 /\ σ.env 1=.cell (.ref (.o 1 0 0) 0) /\ σ.env 4=.cell (.sl (.l 2) 0 1 l44.length) /\ σ.env 5=.cell (.sl (.l 19) 0 1 v.2.1.length) /\ σ.env 7=iV .i64 ((v.2.2:Nat):Int) /\ σ.hp (.l 19)=some (.pure (encL v.2.1)) /\ σ.hp (.l 2)=some (.pure (encL l44)) /\ σ.hp (.o 1 0 0)=some (.cells (eA a0)) /\ (σ3.gen+1)<=σ.gen) (fun v=>v.1.length) _ (Gh.void _ (.l 19) 5 1 rfl (by simp[F4])) (a0.Funcs,[],0) ⟨e165,by simp,pv F4,pv F4,pv F4,pv F4,pv F4,pv F4,pv F4,pg⟩ fun v σ12 hp L167 hL168=>?_
   obtain⟨q170,l152,k153⟩:=v
   dsimp only at hp hL168
   obtain⟨e165,hd169,h11_1,h11_4,h11_5,h11_7,g11_0,g11_1,g11_2,n11_g⟩:=hp
   have n11_0:¬ (σ12.gen=0):=by omega
   rcases q170 with _ |⟨x175,q171⟩
   ·have hlt172:=drop_end hd169
    rw[zb2]at e165;try dsimp only at e165
    have F5:=an h11_1 (an h11_4 (an h11_5 (an h11_7 (an g11_0 (an g11_1 (an g11_2 n11_0))))))
    refine goR F5 ?_
    refine zaF (by simp[ltI];omega) ?_
    obtain rfl:=sj e165
    try dsimp only at e136
    exact hK138 l152 _ _ (Gh.ren _ (.l 19) (.l 11) (by simp) rfl rfl) ⟨e136,pv F5,pv F5,pv F5,pv F5,pg⟩
   ·obtain⟨hx174,hlt172,hd176⟩:=zay hd169
    have ew173:=wrap_succ hlt172 (hb4).len
    rw[zb2]at e165;try dsimp only at e165
    have F6:=an h11_1 (an h11_4 (an h11_5 (an h11_7 (an g11_0 (an g11_1 (an g11_2 (an n11_0 (an hlt172 ew173))))))))
    refine goR F6 ?_
    refine zaB (by simp[ltI];omega) ?_
    have f177:zam Tryz.prog 9 (encL a0.Funcs) (k153 * 2)=some (sV x175.Name):=zae hx174 (f:=0) (by simp)
    revert e165;refine lK fun l178 hx179 e165=>?_
    have hx179n:l178.length=1:=by rw[hx179];rfl
    obtain⟨g180,e165⟩:=zaa e165
    have g180:=zbv g180
    obtain⟨g180a,g180b⟩:=g180
    revert e165;refine lK fun l181 hx182 e165=>?_
    have hx182n:l181.length=(l152.length+l178.length):=by rw[hx182];simp
    have hx182e:encL l181=encL l152++encL l178:=by rw[hx182];simp
    have F7:=an F6 (an f177 (an hx179 (an hx182n hx182e)))
    refine goR F7 ?_
    exact hL168 (q171,l181,(k153+1)) _ _ (Gh.ren _ (.o (σ12.gen+2) 8 0) (.l 19) (by simp) rfl rfl) ⟨e165,hd176,pv F7,pv F7,pv F7,pv F7,pv F7,pv F7,pv F7,pg⟩ (by simp)
  ·obtain⟨e136,h10_4,h10_5,g10_0,g10_1,n10_g⟩:=hp
   obtain rfl:=sj e136
   try dsimp only at hs
   have F8:=an h10_4 (an h10_5 (an g10_0 g10_1))
   refine goR F8 ?_
   obtain rfl:=sj hs
   exact hQ _ _ (rg F8 ((Gh.frz _ (.l 2)).trans (Gh.frz _ (.l 11))))
def zbi(a0:ByteArray):Nat->Nat->Option (Unit ⊕ Bool)
 |0,k39=>some (.inl ())
 |q51+1,k39=>Option.bind (a0[k39]?) (fun c56=>cond (andB (!(orB (andB (!(ltI (c56.toNat:Int) 97)) (!(ltI 122 (c56.toNat:Int)))) (andB (!(ltI (c56.toNat:Int) 65)) (!(ltI 90 (c56.toNat:Int)))))) (orB (eqI ((k39:Nat):Int) 0) (andB (!(eqI (c56.toNat:Int) 95)) (orB (ltI (c56.toNat:Int) 48) (ltI 57 (c56.toNat:Int)))))) (some (.inr false)) (zbi a0 q51 (k39+1)))
def zcP(a0:ByteArray):Option Bool:=
 cond (orB (ltI ((a0.size:Nat):Int) 1) (ltI 16 ((a0.size:Nat):Int))) (some false) (Option.bind (α:=Unit ⊕ Bool) (zai (lenB a0.size) (Option.bind (zbi a0 a0.size 0) (fun o=>match o with|.inl _=>some (.inl ())|.inr r59=>some (.inr r59)))) (fun o=>match o with|.inl _=>some true|.inr r60=>some r60))
theorem zhY{a0:ByteArray}{r:Bool}(hs:zcP a0=some r):At Tryz.prog 76 [sV a0] (bV r):=by
 refine zab (by kernel_rfl) fun hb=>?_
 refine zac mixed Tryz.func76 (by kernel_rfl) rfl (by kernel_rfl) rfl fun Q hQ=>?_
 rw[zcP]at hs
 refine goG f0 f0 ?_
 revert hs;refine cS f0 ?_ ?_<;>intro h1 hs
 ·refine goG f0 f0 ?_
  obtain rfl:=sj hs
  exact hQ _ _ (rg f0 (Gh.refl _))
 ·refine goG2 f0 f0 ?_
  revert hs;refine bK fun o30 e29 hs=>?_
  refine zaj (fun(v:Unit) (σ:St)=>some (.inl v)=some o30 /\ 3<=σ.gen) (by rfl) (fun Q hK31 hX32=>?_) (fun v σ3 hp=>?_)
  ·refine goG f0 f0 ?_
   obtain⟨hb55,e29⟩:=zaa e29
   revert e29;refine bK fun o46 e45 e29=>?_
   refine zaf (fun(v:Nat × Nat) (σ:St)=>zbi a0 v.1 v.2=some o46 /\ v.1+v.2=a0.size /\ σ.env 0=sV a0 /\ σ.env 3=iV .i64 ((v.2:Nat):Int) /\ 3<=σ.gen) (fun v=>v.1) _ (Gh.refl _) (a0.size,0) ⟨e45,by first|omega|simp |(simp;omega),pv f0,pv f0,pg⟩ fun v σ6 hp L47 hL48=>?_
   obtain⟨q50,k39⟩:=v
   dsimp only at hp hL48
   obtain⟨e45,hd49,h5_0,h5_3,n5_g⟩:=hp
   rcases q50 with _|q51
   ·have hlt52:¬ k39 < a0.size:=by omega
    rw[zbi]at e45;try dsimp only at e45
    have F1:=an h5_0 h5_3
    refine goR F1 ?_
    refine zaF (by simp[ltI];omega) ?_
    obtain rfl:=sj e45
    try dsimp only at e29
    exact hK31 () _ _ (Gh.refl _) ⟨e29,pg⟩
   ·have hlt52:k39 < a0.size:=by omega
    have ew53:=za1 hlt52 hb55
    rw[zbi]at e45;try dsimp only at e45
    have F2:=an h5_0 (an h5_3 (an hlt52 ew53))
    refine goR F2 ?_
    refine zaB (by simp[ltI];omega) ?_
    revert e45;refine bK fun c56 hx57 e45=>?_
    have hx57b:=zbf hx57
    have hx57g:=zcd hx57
    have F3:=an F2 (an hx57 hx57g)
    refine goG F3 F3 ?_
    revert e45;refine cS F3 ?_ ?_<;>intro h58 e45
    ·refine goG F3 F3 ?_
     obtain rfl:=sj e45
     try dsimp only at e29
     obtain rfl:=sj e29
     try dsimp only at hs
     refine hX32 _ _ (by simp) ?_
     refine goG F3 F3 ?_
     obtain rfl:=sj hs
     exact hQ _ _ (rg F3 (Gh.refl _))
    ·refine goG F3 F3 ?_
     exact hL48 (q51,(k39+1)) _ _ (Gh.refl _) ⟨e45,(by first|omega |(simp;omega)),pv F3,pv F3,pg⟩ (by omega)
  ·obtain⟨e29,n4_g⟩:=hp
   obtain rfl:=sj e29
   try dsimp only at hs
   refine goG f0 f0 ?_
   obtain rfl:=sj hs
   exact hQ _ _ (rg f0 (Gh.refl _))
def zbO(a0:List ByteArray)(i617:Int)(x778:ByteArray):Nat->Int->Option (Unit ⊕ (Int × Int))
 |0,_=>none
 |q810+1,i794=>cond (ltI i794 i617) (Option.bind (getI a0 i794) (fun x818=>cond (eqS x818 x778) (some (.inr (i617,7))) (zbO a0 i617 x778 q810 (IntKind.i64.wrap (i794+1))))) (some (.inl ()))
def zbP(fuelN:Nat)(a0:List ByteArray):Nat->Int->Option (Unit ⊕ (Int × Int))
 |0,_=>none
 |q724+1,i617=>cond (ltI i617 ((a0.length:Nat):Int)) (Option.bind (α:=Unit ⊕ (Int × Int)) (Option.bind (getI a0 i617) (fun x778=>Option.bind (zcP x778) (fun y781=>cond (!y781) (some (.inr (i617,6))) (Option.bind (zbO a0 i617 x778 fuelN 0) (fun o=>match o with|.inl _=>some (.inl ())|.inr r822=>some (.inr r822)))))) (fun o=>match o with|.inl _=>zbP fuelN a0 q724 (IntKind.i64.wrap (i617+1))|.inr r823=>some (.inr r823))) (some (.inl ()))
def zdh(fuelN:Nat)(a0:List ByteArray):Option (Int × Int):=
 Option.bind (α:=Unit ⊕ (Int × Int)) (Option.bind (zbP fuelN a0 fuelN 0) (fun o=>match o with|.inl _=>some (.inl ())|.inr r824=>some (.inr r824))) (fun o=>match o with|.inl _=>some (0,0)|.inr r825=>some r825)
theorem zea{fuelN:Nat}{a0:List ByteArray}{r:Int × Int}(hs:zdh fuelN a0=some r):At Tryz.prog 46 [.cell (sC a0)] (.tup [iV .i64 r.1,iV .i64 r.2]):=by
 refine zab (by kernel_rfl) fun hb=>?_
 have hb1:LenOk (.sl a0.length (encL a0)):=lkc hb
 refine zac mixed Tryz.func46 (by kernel_rfl) rfl (by kernel_rfl) rfl fun Q hQ=>?_
 rw[zdh]at hs
 refine goR2 f0 ?_
 revert hs;refine bK fun o412 e411 hs=>?_
 refine zaj (fun(v:Unit) (σ:St)=>some (.inl v)=some o412 /\ 2<=σ.gen) (by rfl) (fun Q hK413 hX414=>?_) (fun v σ27 hp=>?_)
 ·refine goR f0 ?_
  revert e411;refine bK fun o719 e718 e411=>?_
  refine zaf (fun(v:Nat × Int) (σ:St)=>zbP fuelN a0 v.1 v.2=some o719 /\ σ.env 0=.cell (sC a0) /\ σ.env 4=iV .i64 v.2 /\ 2<=σ.gen) (fun v=>v.1) _ (Gh.refl _) (fuelN,0) ⟨e718,pv f0,pv f0,pg⟩ fun v σ48 hp L720 hL721=>?_
  obtain⟨q723,i617⟩:=v
  dsimp only at hp hL721
  obtain⟨e718,h47_0,h47_4,n47_g⟩:=hp
  rcases q723 with _|q724
  ·rw[zbP]at e718;cases e718
  ·rw[zbP]at e718;try dsimp only at e718
   have F1:=an h47_0 h47_4
   refine goR F1 ?_
   revert e718;refine cS F1 ?_ ?_<;>intro h728 e718
   ·refine goR2 F1 ?_
    revert e718;refine bK fun o775 e774 e718=>?_
    refine zaj (fun(v:Unit) (σ:St)=>some (.inl v)=some o775 /\ σ.env 0=.cell (sC a0) /\ σ.env 4=iV .i64 i617 /\ (σ48.gen+1)<=σ.gen) (by rfl) (fun Q hK776 hX777=>?_) (fun v σ51 hp=>?_)
    ·revert e774;refine bK fun x778 hx779 e774=>?_
     obtain⟨hx779a,hx779b,hx779c,hx779d⟩:=zao hx779
     have f780:zam Tryz.prog 9 (encL a0) ((i617).toNat)=some (sV x778):=zaz hx779d (by simp)
     have F2:=an F1 f780
     refine goR F2 ?_
     revert e774;refine bK fun y781 hx782 e774=>?_
     refine cP F2 (zhY hx782) ?_
     refine goR F2 ?_
     revert e774;refine cS F2 ?_ ?_<;>intro h783 e774
     ·refine goR F2 ?_
      obtain rfl:=sj e774
      try dsimp only at e718
      refine hX777 _ _ (by simp) ?_
      refine goR F2 ?_
      obtain rfl:=sj e718
      try dsimp only at e411
      obtain rfl:=sj e411
      try dsimp only at hs
      refine hX414 _ _ (by simp) ?_
      refine goR F2 ?_
      obtain rfl:=sj hs
      exact hQ _ _ (rg F2 (Gh.refl _))
     ·refine goR F2 ?_
      revert e774;refine bK fun o805 e804 e774=>?_
      refine zaf (fun(v:Nat × Int) (σ:St)=>zbO a0 i617 x778 v.1 v.2=some o805 /\ σ.env 0=.cell (sC a0) /\ σ.env 4=iV .i64 i617 /\ σ.env 5=iV .i64 v.2 /\ (σ48.gen+3)<=σ.gen) (fun v=>v.1) _ (Gh.refl _) (fuelN,0) ⟨e804,pv F2,pv F2,pv F2,pg⟩ fun v σ54 hp L806 hL807=>?_
      obtain⟨q809,i794⟩:=v
      dsimp only at hp hL807
      obtain⟨e804,h53_0,h53_4,h53_5,n53_g⟩:=hp
      rcases q809 with _|q810
      ·rw[zbO]at e804;cases e804
      ·rw[zbO]at e804;try dsimp only at e804
       have F3:=an h53_0 (an h53_4 (an h53_5 f780))
       refine goR F3 ?_
       revert e804;refine cS F3 ?_ ?_<;>intro h814 e804
       ·revert e804;refine bK fun x818 hx819 e804=>?_
        obtain⟨hx819a,hx819b,hx819c,hx819d⟩:=zao hx819
        have f820:zam Tryz.prog 9 (encL a0) ((i794).toNat)=some (sV x818):=zaz hx819d (by simp)
        have F4:=an F3 f820
        refine goD F4 ?_
        revert e804;refine cS F4 ?_ ?_<;>intro h821 e804
        ·refine goD F4 ?_
         obtain rfl:=sj e804
         try dsimp only at e774
         obtain rfl:=sj e774
         try dsimp only at e718
         refine hX777 _ _ (by simp) ?_
         refine goD F4 ?_
         obtain rfl:=sj e718
         try dsimp only at e411
         obtain rfl:=sj e411
         try dsimp only at hs
         refine hX414 _ _ (by simp) ?_
         refine goD F4 ?_
         obtain rfl:=sj hs
         exact hQ _ _ (rg F4 (Gh.refl _))
        ·refine goD F4 ?_
         exact hL807 (q810,IntKind.i64.wrap (i794+1)) _ _ (Gh.refl _) ⟨e804,pv F4,pv F4,pv F4,pg⟩ (by omega)
       ·refine goR F3 ?_
        obtain rfl:=sj e804
        try dsimp only at e774
        exact hK776 () _ _ (Gh.refl _) ⟨e774,pv F3,pv F3,pg⟩
    ·obtain⟨e774,h52_0,h52_4,n52_g⟩:=hp
     obtain rfl:=sj e774
     try dsimp only at e718
     have F5:=an h52_0 h52_4
     refine goR F5 ?_
     exact hL721 (q724,IntKind.i64.wrap (i617+1)) _ _ (Gh.refl _) ⟨e718,pv F5,pv F5,pg⟩ (by omega)
   ·refine goR F1 ?_
    obtain rfl:=sj e718
    try dsimp only at e411
    exact hK413 () _ _ (Gh.refl _) ⟨e411,pg⟩
 ·obtain⟨e411,n28_g⟩:=hp
  obtain rfl:=sj e411
  try dsimp only at hs
  refine goR f0 ?_
  obtain rfl:=sj hs
  exact hQ _ _ (rg f0 (Gh.refl _))
def zel(a0:Int):Option Bool:=
 some (andB (!(ltI a0 (-2147483648))) (!(ltI 2147483647 a0)))
theorem zhI{a0:Int}{r:Bool}(hs:zel a0=some r):At Tryz.prog 47 [iV .i64 a0] (bV r):=by
 refine zab (by kernel_rfl) fun hb=>?_
 refine zac mixed Tryz.func47 (by kernel_rfl) rfl (by kernel_rfl) rfl fun Q hQ=>?_
 rw[zel]at hs
 refine goG f0 f0 ?_
 obtain rfl:=sj hs
 exact hQ _ _ (rg f0 (Gh.refl _))
def zg1 :Option (List ByteArray):=
 Option.bind (some ([(⟨#[65,78]⟩:ByteArray),(⟨#[65,66]⟩:ByteArray),(⟨#[70,65,66,67]⟩:ByteArray),(⟨#[78]⟩:ByteArray),(⟨#[66,78]⟩:ByteArray),(⟨#[66]⟩:ByteArray),(⟨#[]⟩:ByteArray),(⟨#[65,79,82]⟩:ByteArray),(⟨#[79,66,82]⟩:ByteArray),(⟨#[65,79,66,82]⟩:ByteArray),(⟨#[65,79,66,82]⟩:ByteArray),(⟨#[65,79,66,67,82]⟩:ByteArray),(⟨#[]⟩:ByteArray),(⟨#[65,79,70,66,82]⟩:ByteArray),(⟨#[79]⟩:ByteArray),(⟨#[79]⟩:ByteArray),(⟨#[65,79]⟩:ByteArray),(⟨#[79,78]⟩:ByteArray),(⟨#[79]⟩:ByteArray),(⟨#[79]⟩:ByteArray),(⟨#[65,79,66]⟩:ByteArray),(⟨#[66]⟩:ByteArray)])) (fun l1=>some l1)
theorem zks {r:(List ByteArray)}(hs:zg1=some r):At Tryz.prog 110 [] (.cell (sC r)):=by
 refine zab (by kernel_rfl) fun hb=>?_
 refine zac mixed Tryz.func110 (by kernel_rfl) rfl (by kernel_rfl) rfl fun Q hQ=>?_
 rw[zg1]at hs
 revert hs;refine lK fun l1 hx2 hs=>?_
 have hx2n:l1.length=22:=by rw[hx2];rfl
 refine goR hx2 ?_
 obtain rfl:=sj hs
 exact hQ _ _ (rg hx2 (Gh.frz _ (.o 2 0 0)))
def zem(a1:UInt8)(x4:ByteArray):Nat->Nat->Option (Unit ⊕ Bool)
 |0,k44=>some (.inl ())
 |q56+1,k44=>Option.bind (x4[k44]?) (fun c61=>cond (eqI (c61.toNat:Int) (a1.toNat:Int)) (some (.inr true)) (zem a1 x4 q56 (k44+1)))
def zax(a0:Int)(a1:UInt8):Option Bool:=
 cond (orB (ltI a0 1) (ltI 22 a0)) (some false) (Option.bind (zg1) (fun y2=>Option.bind (getI y2 (IntKind.i64.wrap (a0 - 1))) (fun x4=>Option.bind (α:=Unit ⊕ Bool) (zai (lenB x4.size) (Option.bind (zem a1 x4 x4.size 0) (fun o=>match o with|.inl _=>some (.inl ())|.inr r64=>some (.inr r64)))) (fun o=>match o with|.inl _=>some false|.inr r65=>some r65))))
theorem zcK{a0:Int}{a1:UInt8}{r:Bool}(hs:zax a0 a1=some r):At Tryz.prog 97 [iV .i64 a0,iV .u8 (a1.toNat:Int)] (bV r):=by
 refine zab (by kernel_rfl) fun hb=>?_
 refine zac mixed Tryz.func97 (by kernel_rfl) rfl (by kernel_rfl) rfl fun Q hQ=>?_
 rw[zax]at hs
 refine goG f0 f0 ?_
 revert hs;refine cS f0 ?_ ?_<;>intro h1 hs
 ·refine goG f0 f0 ?_
  obtain rfl:=sj hs
  exact hQ _ _ (rg f0 (Gh.refl _))
 ·refine goG f0 f0 ?_
  revert hs;refine bK fun y2 hx3 hs=>?_
  refine cP f0 (zks hx3) ?_
  revert hs;refine bK fun x4 hx5 hs=>?_
  obtain⟨hx5a,hx5b,hx5c,hx5d⟩:=zao hx5
  have f6:zam Tryz.prog 9 (encL y2) ((IntKind.i64.wrap (a0 - 1)).toNat)=some (sV x4):=zaz hx5d (by simp)
  have F1:=an f6 (an hx5a hx5b)
  refine goG2 f6 F1 ?_
  revert hs;refine bK fun o35 e34 hs=>?_
  refine zaj (fun(v:Unit) (σ:St)=>some (.inl v)=some o35 /\ 4<=σ.gen) (by rfl) (fun Q hK36 hX37=>?_) (fun v σ3 hp=>?_)
  ·refine goG f6 F1 ?_
   obtain⟨hb60,e34⟩:=zaa e34
   revert e34;refine bK fun o51 e50 e34=>?_
   refine zaf (fun(v:Nat × Nat) (σ:St)=>zem a1 x4 v.1 v.2=some o51 /\ v.1+v.2=x4.size /\ σ.env 1=iV .u8 (a1.toNat:Int) /\ σ.env 5=sV x4 /\ σ.env 6=iV .i64 ((v.2:Nat):Int) /\ 4<=σ.gen) (fun v=>v.1) _ (Gh.refl _) (x4.size,0) ⟨e50,by first|omega|simp |(simp;omega),pv f6,pv f6,pv f6,pg⟩ fun v σ6 hp L52 hL53=>?_
   obtain⟨q55,k44⟩:=v
   dsimp only at hp hL53
   obtain⟨e50,hd54,h5_1,h5_5,h5_6,n5_g⟩:=hp
   rcases q55 with _|q56
   ·have hlt57:¬ k44 < x4.size:=by omega
    rw[zem]at e50;try dsimp only at e50
    have F2:=an h5_1 (an h5_5 (an h5_6 f6))
    refine goR F2 ?_
    refine zaF (by simp[ltI];omega) ?_
    obtain rfl:=sj e50
    try dsimp only at e34
    exact hK36 () _ _ (Gh.refl _) ⟨e34,pg⟩
   ·have hlt57:k44 < x4.size:=by omega
    have ew58:=za1 hlt57 hb60
    rw[zem]at e50;try dsimp only at e50
    have F3:=an h5_1 (an h5_5 (an h5_6 (an f6 (an hlt57 ew58))))
    refine goR F3 ?_
    refine zaB (by simp[ltI];omega) ?_
    revert e50;refine bK fun c61 hx62 e50=>?_
    have hx62b:=zbf hx62
    have hx62g:=zcd hx62
    have F4:=an F3 (an hx62 hx62g)
    refine goR F4 ?_
    revert e50;refine cS F4 ?_ ?_<;>intro h63 e50
    ·refine goR F4 ?_
     obtain rfl:=sj e50
     try dsimp only at e34
     obtain rfl:=sj e34
     try dsimp only at hs
     refine hX37 _ _ (by simp) ?_
     refine goR F4 ?_
     obtain rfl:=sj hs
     exact hQ _ _ (rg F4 (Gh.refl _))
    ·refine goR F4 ?_
     exact hL53 (q56,(k44+1)) _ _ (Gh.refl _) ⟨e50,(by first|omega |(simp;omega)),pv F4,pv F4,pv F4,pg⟩ (by omega)
  ·obtain⟨e34,n4_g⟩:=hp
   obtain rfl:=sj e34
   try dsimp only at hs
   refine goG f6 F1 ?_
   obtain rfl:=sj hs
   exact hQ _ _ (rg f6 (Gh.refl _))
def zby(a0:Int):Option Bool:=
 some (andB (!(ltI a0 0)) (ltI a0 8))
theorem zdW{a0:Int}{r:Bool}(hs:zby a0=some r):At Tryz.prog 98 [iV .i64 a0] (bV r):=by
 refine zab (by kernel_rfl) fun hb=>?_
 refine zac mixed Tryz.func98 (by kernel_rfl) rfl (by kernel_rfl) rfl fun Q hQ=>?_
 rw[zby]at hs
 refine goG f0 f0 ?_
 obtain rfl:=sj hs
 exact hQ _ _ (rg f0 (Gh.refl _))
def zdj(a0:Inst):Option Int:=
 cond (orB (ltI a0.Op 1) (ltI 22 a0.Op)) (some 8) (Option.bind (zax a0.Op 65) (fun y2=>zai (orB (!(!(andB (!y2) (!(eqI a0.A 0))))) ((zax a0.Op 66).isSome)) (zai (orB (!(!(orB (andB (!y2) (!(eqI a0.A 0))) (andB (!((zax a0.Op 66).getD default)) (!(eqI a0.B 0)))))) ((zax a0.Op 67).isSome)) (zai (orB (!(!(orB (orB (andB (!y2) (!(eqI a0.A 0))) (andB (!((zax a0.Op 66).getD default)) (!(eqI a0.B 0)))) (andB (!((zax a0.Op 67).getD default)) (!(eqI a0.C 0)))))) ((zax a0.Op 79).isSome)) (zai (orB (!(!(orB (orB (orB (andB (!y2) (!(eqI a0.A 0))) (andB (!((zax a0.Op 66).getD default)) (!(eqI a0.B 0)))) (andB (!((zax a0.Op 67).getD default)) (!(eqI a0.C 0)))) (andB (!((zax a0.Op 79).getD default)) (!(eqI a0.Obj 0)))))) ((zax a0.Op 78).isSome)) (zai (orB (!(!(orB (orB (orB (orB (andB (!y2) (!(eqI a0.A 0))) (andB (!((zax a0.Op 66).getD default)) (!(eqI a0.B 0)))) (andB (!((zax a0.Op 67).getD default)) (!(eqI a0.C 0)))) (andB (!((zax a0.Op 79).getD default)) (!(eqI a0.Obj 0)))) (andB (!((zax a0.Op 78).getD default)) (!(eqI a0.N 0)))))) ((zax a0.Op 70).isSome)) (zai (orB (!(!(orB (orB (orB (orB (orB (andB (!y2) (!(eqI a0.A 0))) (andB (!((zax a0.Op 66).getD default)) (!(eqI a0.B 0)))) (andB (!((zax a0.Op 67).getD default)) (!(eqI a0.C 0)))) (andB (!((zax a0.Op 79).getD default)) (!(eqI a0.Obj 0)))) (andB (!((zax a0.Op 78).getD default)) (!(eqI a0.N 0)))) (andB (!((zax a0.Op 70).getD default)) (!(eqI a0.Fn 0)))))) ((zax a0.Op 82).isSome)) (cond (orB (orB (orB (orB (orB (orB (andB (!y2) (!(eqI a0.A 0))) (andB (!((zax a0.Op 66).getD default)) (!(eqI a0.B 0)))) (andB (!((zax a0.Op 67).getD default)) (!(eqI a0.C 0)))) (andB (!((zax a0.Op 79).getD default)) (!(eqI a0.Obj 0)))) (andB (!((zax a0.Op 78).getD default)) (!(eqI a0.N 0)))) (andB (!((zax a0.Op 70).getD default)) (!(eqI a0.Fn 0)))) (andB (!((zax a0.Op 82).getD default)) (!(eqI a0.Order 0)))) (some 9) (Option.bind (zby a0.A) (fun y11=>zai (orB (!y11) ((zby a0.B).isSome)) (zai (orB (!(!(orB (!y11) (!((zby a0.B).getD default))))) ((zby a0.C).isSome)) (cond (orB (orB (!y11) (!((zby a0.B).getD default))) (!((zby a0.C).getD default))) (some 10) (cond (orB (ltI a0.Order 0) (ltI 2 a0.Order)) (some 13) (Option.bind (zax a0.Op 70) (fun y17=>zai (orB (!y17) ((zcQ a0.Fn).isSome)) (cond (andB y17 (eqS ((zcQ a0.Fn).getD default) (⟨#[]⟩:ByteArray))) (some 8) (cond (andB (eqI a0.Op 1) (orB (ltI a0.N (-2147483648)) (ltI 2147483647 a0.N))) (some 2) (some 0))))))))))))))))))
theorem zlO{a0:Inst}{r:Int}(hs:zdj a0=some r):At Tryz.prog 77 [.agg (eA a0)] (iV .i64 r):=by
 refine zab (by kernel_rfl) fun hb=>?_
 refine zac mixed Tryz.func77 (by kernel_rfl) rfl (by kernel_rfl) rfl fun Q hQ=>?_
 rw[zdj]at hs
 refine goG f0 f0 ?_
 revert hs;refine cS f0 ?_ ?_<;>intro h1 hs
 ·refine goG f0 f0 ?_
  obtain rfl:=sj hs
  exact hQ _ _ (rg f0 (Gh.refl _))
 ·refine goG f0 f0 ?_
  revert hs;refine bK fun y2 hx3 hs=>?_
  refine cP f0 (zcK hx3) ?_
  refine goG f0 f0 ?_
  obtain⟨g4,hs⟩:=zaa hs
  refine zaZ (fun hg=>zcK (zaQ g4 hg)) (fun hg=>by(try simp at hg);(first|simp[hg,id]);try rfl) (fun hg=>by(try simp at hg);simp[hg,id]) (by simp) ?_
  refine goG f0 f0 ?_
  obtain⟨g5,hs⟩:=zaa hs
  refine zaZ (fun hg=>zcK (zaQ g5 hg)) (fun hg=>by(try simp at hg);(first|simp[hg,id]);try rfl) (fun hg=>by(try simp at hg);simp[hg,id]) (by simp) ?_
  refine goG f0 f0 ?_
  obtain⟨g6,hs⟩:=zaa hs
  refine zaZ (fun hg=>zcK (zaQ g6 hg)) (fun hg=>by(try simp at hg);(first|simp[hg,id]);try rfl) (fun hg=>by(try simp at hg);simp[hg,id]) (by simp) ?_
  refine goG f0 f0 ?_
  obtain⟨g7,hs⟩:=zaa hs
  refine zaZ (fun hg=>zcK (zaQ g7 hg)) (fun hg=>by(try simp at hg);(first|simp[hg,id]);try rfl) (fun hg=>by(try simp at hg);simp[hg,id]) (by simp) ?_
  refine goG f0 f0 ?_
  obtain⟨g8,hs⟩:=zaa hs
  refine zaZ (fun hg=>zcK (zaQ g8 hg)) (fun hg=>by(try simp at hg);(first|simp[hg,id]);try rfl) (fun hg=>by(try simp at hg);simp[hg,id]) (by simp) ?_
  refine goG f0 f0 ?_
  obtain⟨g9,hs⟩:=zaa hs
  refine zaZ (fun hg=>zcK (zaQ g9 hg)) (fun hg=>by(try simp at hg);(first|simp[hg,id]);try rfl) (fun hg=>by(try simp at hg);simp[hg,id]) (by simp) ?_
  refine goG f0 f0 ?_
  revert hs;refine cS f0 ?_ ?_<;>intro h10 hs
  ·refine goG f0 f0 ?_
   obtain rfl:=sj hs
   exact hQ _ _ (rg f0 (Gh.refl _))
  ·refine goG f0 f0 ?_
   revert hs;refine bK fun y11 hx12 hs=>?_
   refine cP f0 (zdW hx12) ?_
   refine goG f0 f0 ?_
   obtain⟨g13,hs⟩:=zaa hs
   refine zaZ (fun hg=>zdW (zaQ g13 hg)) (fun hg=>by(try simp at hg);(first|simp[hg,id]);try rfl) (fun hg=>by(try simp at hg);simp[hg,id]) (by simp) ?_
   refine goG f0 f0 ?_
   obtain⟨g14,hs⟩:=zaa hs
   refine zaZ (fun hg=>zdW (zaQ g14 hg)) (fun hg=>by(try simp at hg);(first|simp[hg,id]);try rfl) (fun hg=>by(try simp at hg);simp[hg,id]) (by simp) ?_
   refine goG f0 f0 ?_
   revert hs;refine cS f0 ?_ ?_<;>intro h15 hs
   ·refine goG f0 f0 ?_
    obtain rfl:=sj hs
    exact hQ _ _ (rg f0 (Gh.refl _))
   ·refine goG f0 f0 ?_
    revert hs;refine cS f0 ?_ ?_<;>intro h16 hs
    ·refine goG f0 f0 ?_
     obtain rfl:=sj hs
     exact hQ _ _ (rg f0 (Gh.refl _))
    ·refine goG f0 f0 ?_
     revert hs;refine bK fun y17 hx18 hs=>?_
     refine cP f0 (zcK hx18) ?_
     refine goG f0 f0 ?_
     obtain⟨g19,hs⟩:=zaa hs
     refine zaZ (fun hg=>zi8 (zaQ g19 hg)) (fun hg=>by(try simp at hg);(first|simp[hg,id]);try rfl) (fun hg=>by(try simp at hg);simp[hg,id]) (by simp) ?_
     refine goG f0 f0 ?_
     revert hs;refine cS f0 ?_ ?_<;>intro h20 hs
     ·refine goG f0 f0 ?_
      obtain rfl:=sj hs
      exact hQ _ _ (rg f0 (Gh.refl _))
     ·refine goG f0 f0 ?_
      revert hs;refine cS f0 ?_ ?_<;>intro h21 hs
      ·refine goG f0 f0 ?_
       obtain rfl:=sj hs
       exact hQ _ _ (rg f0 (Gh.refl _))
      ·refine goG f0 f0 ?_
       obtain rfl:=sj hs
       exact hQ _ _ (rg f0 (Gh.refl _))
def zdC(a0:Program)(a1:Inst):Option Bool:=
 Option.bind (α:=Nat ⊕ Bool) (Option.bind (α:=Bool) (cond (eqI a1.Op 8) (some (eqI a1.Op 8)) (cond (eqI a1.Op 9) (some (eqI a1.Op 9)) (cond (eqI a1.Op 10) (some (eqI a1.Op 10)) (cond (eqI a1.Op 11) (some (eqI a1.Op 11)) (cond (eqI a1.Op 12) (some (eqI a1.Op 12)) (some (eqI a1.Op 14))))))) (fun b42=>cond b42 (some (.inl a0.Vars.length)) (Option.bind (α:=Bool) (cond (eqI a1.Op 15) (some (eqI a1.Op 15)) (cond (eqI a1.Op 16) (some (eqI a1.Op 16)) (some (eqI a1.Op 17)))) (fun b55=>cond b55 (some (.inl a0.Mutexes.length)) (cond (eqI a1.Op 18) (cond (orB (ltI a1.N 0) (!(ltI a1.N ((a0.Mutexes.length:Nat):Int)))) (some (.inr false)) (some (.inl a0.Conds.length))) (cond (eqI a1.Op 19) (some (.inl a0.Conds.length)) (cond (eqI a1.Op 20) (some (.inl a0.Conds.length)) (cond (eqI a1.Op 21) (some (.inl a0.Funcs.length)) (some (.inr true)))))))))) (fun o=>match o with|.inl k32=>some (andB (!(ltI a1.Obj 0)) (ltI a1.Obj ((k32:Nat):Int)))|.inr r68=>some r68)
theorem zkr{a0:Program}{a1:Inst}{r:Bool}(hs:zdC a0 a1=some r):At Tryz.prog 78 [.agg (eA a0),.agg (eA a1)] (bV r):=by
 refine zab (by kernel_rfl) fun hb=>?_
 have hb1:LenOk (.sl a0.Vars.length (encL a0.Vars)):=lkc hb
 have hb2:LenOk (.sl a0.Mutexes.length (encL a0.Mutexes)):=lkc hb
 have hb3:LenOk (.sl a0.Conds.length (encL a0.Conds)):=lkc hb
 have hb4:LenOk (.sl a0.Funcs.length (encL a0.Funcs)):=lkc hb
 have hb5:LenOk (.sl a0.Threads.length (encL a0.Threads)):=lkc hb
 refine zac mixed Tryz.func78 (by kernel_rfl) rfl (by kernel_rfl) rfl fun Q hQ=>?_
 rw[zdC]at hs
 refine goR2 f0 ?_
 revert hs;refine bK fun o34 e33 hs=>?_
 refine zaj (fun(v:Nat) (σ:St)=>some (.inl v)=some o34 /\ σ.env 3=.cell (.ref (.o 1 1 0) 0) /\ σ.env 5=iV .i64 ((v:Nat):Int) /\ σ.hp (.o 1 1 0)=some (.cells (eA a1)) /\ 3<=σ.gen) (by rfl) (fun Q hK35 hX36=>?_) (fun k32 σ5 hp=>?_)
 ·refine goR2 f0 ?_
  refine zdr ?_
  refine goR2 f0 ?_
  revert e33;refine bK fun o44 e43 e33=>?_
  refine zdd (fun(v:Bool) (σ:St)=>some (v)=some o44 /\ σ.env 2=.cell (.ref (.o 1 0 0) 0) /\ σ.env 3=.cell (.ref (.o 1 1 0) 0) /\ σ.env 7=iV .i64 a1.Op /\ σ.env 8=bV v /\ σ.hp (.o 1 0 0)=some (.cells (eA a0)) /\ σ.hp (.o 1 1 0)=some (.cells (eA a1)) /\ 4<=σ.gen) (fun Q hK45 hX46=>?_) (fun b42 σ7 hp=>?_)
  ·refine goR f0 ?_
   revert e43;refine cS f0 ?_ ?_<;>intro h47 e43
   ·refine goR f0 ?_
    exact hK45 (eqI a1.Op 8) _ ⟨e43,pv f0,pv f0,pv f0,pv f0,pv f0,pv f0,pg⟩
   ·refine goR f0 ?_
    revert e43;refine cS f0 ?_ ?_<;>intro h48 e43
    ·refine goR f0 ?_
     exact hK45 (eqI a1.Op 9) _ ⟨e43,pv f0,pv f0,pv f0,pv f0,pv f0,pv f0,pg⟩
    ·refine goR f0 ?_
     revert e43;refine cS f0 ?_ ?_<;>intro h49 e43
     ·refine goR f0 ?_
      exact hK45 (eqI a1.Op 10) _ ⟨e43,pv f0,pv f0,pv f0,pv f0,pv f0,pv f0,pg⟩
     ·refine goR f0 ?_
      revert e43;refine cS f0 ?_ ?_<;>intro h50 e43
      ·refine goR f0 ?_
       exact hK45 (eqI a1.Op 11) _ ⟨e43,pv f0,pv f0,pv f0,pv f0,pv f0,pv f0,pg⟩
      ·refine goR f0 ?_
       revert e43;refine cS f0 ?_ ?_<;>intro h51 e43
       ·refine goR f0 ?_
        exact hK45 (eqI a1.Op 12) _ ⟨e43,pv f0,pv f0,pv f0,pv f0,pv f0,pv f0,pg⟩
       ·refine goR f0 ?_
        exact hK45 (eqI a1.Op 14) _ ⟨e43,pv f0,pv f0,pv f0,pv f0,pv f0,pv f0,pg⟩
  ·obtain⟨e43,h8_2,h8_3,h8_7,h8_8,g8_0,g8_1,n8_g⟩:=hp
   obtain rfl:=sj e43
   try dsimp only at e33
   have n8_0:¬ (σ7.gen=0):=by omega
   have F1:=an h8_2 (an h8_3 (an h8_7 (an h8_8 (an g8_0 (an g8_1 n8_0)))))
   refine goR F1 ?_
   revert e33;refine cS F1 ?_ ?_<;>intro h52 e33
   ·refine goR F1 ?_
    exact hK35 a0.Vars.length _ _ (Gh.refl _) ⟨e33,pv F1,pv F1,pv F1,pg⟩
   ·refine goR2 F1 ?_
    revert e33;refine bK fun o57 e56 e33=>?_
    refine zdd (fun(v:Bool) (σ:St)=>some (v)=some o57 /\ σ.env 2=.cell (.ref (.o 1 0 0) 0) /\ σ.env 3=.cell (.ref (.o 1 1 0) 0) /\ σ.env 7=iV .i64 a1.Op /\ σ.env 18=bV v /\ σ.hp (.o 1 0 0)=some (.cells (eA a0)) /\ σ.hp (.o 1 1 0)=some (.cells (eA a1)) /\ (σ7.gen+1)<=σ.gen) (fun Q hK58 hX59=>?_) (fun b55 σ9 hp=>?_)
    ·refine goR F1 ?_
     revert e56;refine cS F1 ?_ ?_<;>intro h60 e56
     ·refine goR F1 ?_
      exact hK58 (eqI a1.Op 15) _ ⟨e56,pv F1,pv F1,pv F1,pv F1,pv F1,pv F1,pg⟩
     ·refine goR F1 ?_
      revert e56;refine cS F1 ?_ ?_<;>intro h61 e56
      ·refine goR F1 ?_
       exact hK58 (eqI a1.Op 16) _ ⟨e56,pv F1,pv F1,pv F1,pv F1,pv F1,pv F1,pg⟩
      ·refine goR F1 ?_
       exact hK58 (eqI a1.Op 17) _ ⟨e56,pv F1,pv F1,pv F1,pv F1,pv F1,pv F1,pg⟩
    ·obtain⟨e56,h10_2,h10_3,h10_7,h10_18,g10_0,g10_1,n10_g⟩:=hp
     obtain rfl:=sj e56
     try dsimp only at e33
     have n10_0:¬ (σ9.gen=0):=by omega
     have F2:=an h10_2 (an h10_3 (an h10_7 (an h10_18 (an g10_0 (an g10_1 n10_0)))))
     refine goR F2 ?_
     revert e33;refine cS F2 ?_ ?_<;>intro h62 e33
     ·refine goR F2 ?_
      exact hK35 a0.Mutexes.length _ _ (Gh.refl _) ⟨e33,pv F2,pv F2,pv F2,pg⟩
     ·refine goR F2 ?_
      revert e33;refine cS F2 ?_ ?_<;>intro h63 e33
      ·refine goG F2 F2 ?_
       revert e33;refine cS F2 ?_ ?_<;>intro h64 e33
       ·refine goG F2 F2 ?_
        obtain rfl:=sj e33
        try dsimp only at hs
        refine hX36 _ _ (by simp) ?_
        refine goG F2 F2 ?_
        obtain rfl:=sj hs
        exact hQ _ _ (rg F2 (Gh.refl _))
       ·refine goG F2 F2 ?_
        exact hK35 a0.Conds.length _ _ (Gh.refl _) ⟨e33,pv F2,pv F2,pv F2,pg⟩
      ·refine goR F2 ?_
       revert e33;refine cS F2 ?_ ?_<;>intro h65 e33
       ·refine goR F2 ?_
        refine zaB (by first|exact h65|simpa using h65) ?_
        refine goR F2 ?_
        exact hK35 a0.Conds.length _ _ (Gh.refl _) ⟨e33,pv F2,pv F2,pv F2,pg⟩
       ·refine goR F2 ?_
        revert e33;refine cS F2 ?_ ?_<;>intro h66 e33
        ·refine goR F2 ?_
         exact hK35 a0.Conds.length _ _ (Gh.refl _) ⟨e33,pv F2,pv F2,pv F2,pg⟩
        ·refine goR F2 ?_
         revert e33;refine cS F2 ?_ ?_<;>intro h67 e33
         ·refine goR F2 ?_
          exact hK35 a0.Funcs.length _ _ (Gh.refl _) ⟨e33,pv F2,pv F2,pv F2,pg⟩
         ·refine goR F2 ?_
          obtain rfl:=sj e33
          try dsimp only at hs
          refine hX36 _ _ (by simp) ?_
          refine goR F2 ?_
          obtain rfl:=sj hs
          exact hQ _ _ (rg F2 (Gh.refl _))
 ·obtain⟨e33,h6_3,h6_5,g6_0,n6_g⟩:=hp
  obtain rfl:=sj e33
  try dsimp only at hs
  have n6_0:¬ (σ5.gen=0):=by omega
  have F3:=an h6_3 (an h6_5 (an g6_0 n6_0))
  refine goG F3 F3 ?_
  obtain rfl:=sj hs
  exact hQ _ _ (rg F3 (Gh.refl _))
def zcB(a0:Program)(a1:Func):List Inst->Nat->Option (Unit ⊕ (Int × Int))
 |[],k66=>some (.inl ())
 |x89::q85,k66=>Option.bind (zdj x89) (fun y92=>cond (!(eqI y92 0)) (some (.inr (y92,((k66:Nat):Int)))) (Option.bind (zdC a0 x89) (fun y95=>cond (!y95) (some (.inr (11,((k66:Nat):Int)))) (cond (andB (orB (eqI x89.Op 4) (eqI x89.Op 5)) (orB (ltI x89.N 0) (ltI ((a1.Code.length:Nat):Int) x89.N))) (some (.inr (12,((k66:Nat):Int)))) (zcB a0 a1 q85 (k66+1))))))
def zgo(a0:Program)(a1:Func):Option (Int × Int):=
 cond (ltI 64 ((a1.Code.length:Nat):Int)) (some (4,(-1))) (Option.bind (α:=Unit ⊕ (Int × Int)) (Option.bind (zcB a0 a1 a1.Code 0) (fun o=>match o with|.inl _=>some (.inl ())|.inr r99=>some (.inr r99))) (fun o=>match o with|.inl _=>some (0,(-1))|.inr r100=>some r100))
theorem zmQ{a0:Program}{a1:Func}{r:Int × Int}(hs:zgo a0 a1=some r):At Tryz.prog 48 [.agg (eA a0),.agg (eA a1)] (.tup [iV .i64 r.1,iV .i64 r.2]):=by
 refine zab (by kernel_rfl) fun hb=>?_
 have hb1:LenOk (.sl a0.Vars.length (encL a0.Vars)):=lkc hb
 have hb2:LenOk (.sl a0.Mutexes.length (encL a0.Mutexes)):=lkc hb
 have hb3:LenOk (.sl a0.Conds.length (encL a0.Conds)):=lkc hb
 have hb4:LenOk (.sl a0.Funcs.length (encL a0.Funcs)):=lkc hb
 have hb5:LenOk (.sl a0.Threads.length (encL a0.Threads)):=lkc hb
 have hb6:LenOk (.sl a1.Code.length (encL a1.Code)):=lkc hb
 refine zac mixed Tryz.func48 (by kernel_rfl) rfl (by kernel_rfl) rfl fun Q hQ=>?_
 rw[zgo]at hs
 refine goR f0 ?_
 revert hs;refine cS f0 ?_ ?_<;>intro h1 hs
 ·refine goR f0 ?_
  obtain rfl:=sj hs
  exact hQ _ _ (rg f0 (Gh.refl _))
 ·refine goR2 f0 ?_
  revert hs;refine bK fun o50 e49 hs=>?_
  refine zaj (fun(v:Unit) (σ:St)=>some (.inl v)=some o50 /\ 3<=σ.gen) (by rfl) (fun Q hK51 hX52=>?_) (fun v σ3 hp=>?_)
  ·refine goR f0 ?_
   revert e49;refine bK fun o80 e79 e49=>?_
   refine zaf (fun(v:(List Inst) × Nat) (σ:St)=>zcB a0 a1 v.1 v.2=some o80 /\ v.1=a1.Code.drop v.2 /\ σ.env 2=.cell (.ref (.o 1 0 0) 0) /\ σ.env 3=.cell (.ref (.o 1 1 0) 0) /\ σ.env 6=iV .i64 ((v.2:Nat):Int) /\ σ.hp (.o 1 0 0)=some (.cells (eA a0)) /\ σ.hp (.o 1 1 0)=some (.cells (eA a1)) /\ 3<=σ.gen) (fun v=>v.1.length) _ (Gh.refl _) (a1.Code,0) ⟨e79,by simp,pv f0,pv f0,pv f0,pv f0,pv f0,pg⟩ fun v σ6 hp L81 hL82=>?_
   obtain⟨q84,k66⟩:=v
   dsimp only at hp hL82
   obtain⟨e79,hd83,h5_2,h5_3,h5_6,g5_0,g5_1,n5_g⟩:=hp
   have n5_0:¬ (σ6.gen=0):=by omega
   rcases q84 with _ |⟨x89,q85⟩
   ·have hlt86:=drop_end hd83
    rw[zcB]at e79;try dsimp only at e79
    have F1:=an h5_2 (an h5_3 (an h5_6 (an g5_0 (an g5_1 n5_0))))
    refine goR F1 ?_
    refine zaF (by simp[ltI];omega) ?_
    obtain rfl:=sj e79
    try dsimp only at e49
    exact hK51 () _ _ (Gh.refl _) ⟨e49,pg⟩
   ·obtain⟨hx88,hlt86,hd90⟩:=zay hd83
    have ew87:=wrap_succ hlt86 (hb6).len
    rw[zcB]at e79;try dsimp only at e79
    have F2:=an h5_2 (an h5_3 (an h5_6 (an g5_0 (an g5_1 (an n5_0 (an hlt86 ew87))))))
    refine goR F2 ?_
    refine zaB (by simp[ltI];omega) ?_
    have f91:zam Tryz.prog 41 (encL a1.Code) (k66 * 8)=some (.agg (eA x89)):=zae hx88 (f:=0) (by simp)
    have F3:=an F2 f91
    refine goR F3 ?_
    revert e79;refine bK fun y92 hx93 e79=>?_
    refine cP F3 (zlO hx93) ?_
    refine goR F3 ?_
    revert e79;refine cS F3 ?_ ?_<;>intro h94 e79
    ·refine goR F3 ?_
     obtain rfl:=sj e79
     try dsimp only at e49
     obtain rfl:=sj e49
     try dsimp only at hs
     refine hX52 _ _ (by simp) ?_
     refine goR F3 ?_
     obtain rfl:=sj hs
     exact hQ _ _ (rg F3 (Gh.refl _))
    ·refine goR F3 ?_
     revert e79;refine bK fun y95 hx96 e79=>?_
     refine cP F3 (zkr hx96) ?_
     refine goR F3 ?_
     revert e79;refine cS F3 ?_ ?_<;>intro h97 e79
     ·refine goR F3 ?_
      obtain rfl:=sj e79
      try dsimp only at e49
      obtain rfl:=sj e49
      try dsimp only at hs
      refine hX52 _ _ (by simp) ?_
      refine goR F3 ?_
      obtain rfl:=sj hs
      exact hQ _ _ (rg F3 (Gh.refl _))
     ·refine goG F3 F3 ?_
      revert e79;refine cS F3 ?_ ?_<;>intro h98 e79
      ·refine goG F3 F3 ?_
       obtain rfl:=sj e79
       try dsimp only at e49
       obtain rfl:=sj e49
       try dsimp only at hs
       refine hX52 _ _ (by simp) ?_
       refine goG F3 F3 ?_
       obtain rfl:=sj hs
       exact hQ _ _ (rg F3 (Gh.refl _))
      ·refine goG F3 F3 ?_
       exact hL82 (q85,(k66+1)) _ _ (Gh.refl _) ⟨e79,hd90,pv F3,pv F3,pv F3,pv F3,pv F3,pg⟩ (by simp)
  ·obtain⟨e49,n4_g⟩:=hp
   obtain rfl:=sj e49
   try dsimp only at hs
   refine goR f0 ?_
   obtain rfl:=sj hs
   exact hQ _ _ (rg f0 (Gh.refl _))
def zbG(a0:Program):List Start->Nat->Option (Unit ⊕ Int)
 |[],k68=>some (.inl ())
 |x92::q88,k68=>cond (orB (ltI x92.Func 0) (!(ltI x92.Func ((a0.Funcs.length:Nat):Int)))) (some (.inr 11)) (Option.bind (zel x92.Arg) (fun y98=>cond (!y98) (some (.inr 2)) (zbG a0 q88 (k68+1))))
def zdM(a0:Program):Option Int:=
 cond (orB (ltI ((a0.Threads.length:Nat):Int) 1) (ltI 8 ((a0.Threads.length:Nat):Int))) (some 4) (Option.bind (α:=Unit ⊕ Int) (Option.bind (zbG a0 a0.Threads 0) (fun o=>match o with|.inl _=>some (.inl ())|.inr r101=>some (.inr r101))) (fun o=>match o with|.inl _=>some 0|.inr r102=>some r102))
theorem zjv{a0:Program}{r:Int}(hs:zdM a0=some r):At Tryz.prog 49 [.agg (eA a0)] (iV .i64 r):=by
 refine zab (by kernel_rfl) fun hb=>?_
 have hb1:LenOk (.sl a0.Vars.length (encL a0.Vars)):=lkc hb
 have hb2:LenOk (.sl a0.Mutexes.length (encL a0.Mutexes)):=lkc hb
 have hb3:LenOk (.sl a0.Conds.length (encL a0.Conds)):=lkc hb
 have hb4:LenOk (.sl a0.Funcs.length (encL a0.Funcs)):=lkc hb
 have hb5:LenOk (.sl a0.Threads.length (encL a0.Threads)):=lkc hb
 refine zac mixed Tryz.func49 (by kernel_rfl) rfl (by kernel_rfl) rfl fun Q hQ=>?_
 rw[zdM]at hs
 refine goG f0 f0 ?_
 revert hs;refine cS f0 ?_ ?_<;>intro h1 hs
 ·refine goG f0 f0 ?_
  obtain rfl:=sj hs
  exact hQ _ _ (rg f0 (Gh.refl _))
 ·refine goG2 f0 f0 ?_
  revert hs;refine bK fun o51 e50 hs=>?_
  refine zaj (fun(v:Unit) (σ:St)=>some (.inl v)=some o51 /\ 3<=σ.gen) (by rfl) (fun Q hK52 hX53=>?_) (fun v σ3 hp=>?_)
  ·refine goG f0 f0 ?_
   revert e50;refine bK fun o83 e82 e50=>?_
   refine zaf (fun(v:(List Start) × Nat) (σ:St)=>zbG a0 v.1 v.2=some o83 /\ v.1=a0.Threads.drop v.2 /\ σ.env 1=.cell (.ref (.o 1 0 0) 0) /\ σ.env 3=iV .i64 ((v.2:Nat):Int) /\ σ.hp (.o 1 0 0)=some (.cells (eA a0)) /\ 3<=σ.gen) (fun v=>v.1.length) _ (Gh.refl _) (a0.Threads,0) ⟨e82,by simp,pv f0,pv f0,pv f0,pg⟩ fun v σ6 hp L84 hL85=>?_
   obtain⟨q87,k68⟩:=v
   dsimp only at hp hL85
   obtain⟨e82,hd86,h5_1,h5_3,g5_0,n5_g⟩:=hp
   have n5_0:¬ (σ6.gen=0):=by omega
   rcases q87 with _ |⟨x92,q88⟩
   ·have hlt89:=drop_end hd86
    rw[zbG]at e82;try dsimp only at e82
    have F1:=an h5_1 (an h5_3 (an g5_0 n5_0))
    refine goR F1 ?_
    refine zaF (by simp[ltI];omega) ?_
    obtain rfl:=sj e82
    try dsimp only at e50
    exact hK52 () _ _ (Gh.refl _) ⟨e50,pg⟩
   ·obtain⟨hx91,hlt89,hd93⟩:=zay hd86
    have ew90:=wrap_succ hlt89 (hb5).len
    rw[zbG]at e82;try dsimp only at e82
    have F2:=an h5_1 (an h5_3 (an g5_0 (an n5_0 (an hlt89 ew90))))
    refine goR F2 ?_
    refine zaB (by simp[ltI];omega) ?_
    have f95:zam Tryz.prog 3 (encL a0.Threads) (k68 * 2)=some (iV .i64 x92.Func):=zae hx91 (f:=0) (by simp)
    have F3:=an F2 f95
    refine goE F3 F3 ?_
    revert e82;refine cS F3 ?_ ?_<;>intro h96 e82
    ·refine goE F3 F3 ?_
     obtain rfl:=sj e82
     try dsimp only at e50
     obtain rfl:=sj e50
     try dsimp only at hs
     refine hX53 _ _ (by simp) ?_
     refine goE F3 F3 ?_
     obtain rfl:=sj hs
     exact hQ _ _ (rg F3 (Gh.refl _))
    ·have f97:zam Tryz.prog 3 (encL a0.Threads) (k68 * 2+1)=some (iV .i64 x92.Arg):=zae hx91 (f:=1) (by simp)
     have F4:=an F3 f97
     refine goE F4 F4 ?_
     revert e82;refine bK fun y98 hx99 e82=>?_
     refine cP F4 (zhI hx99) ?_
     refine goE F4 F4 ?_
     revert e82;refine cS F4 ?_ ?_<;>intro h100 e82
     ·refine goE F4 F4 ?_
      obtain rfl:=sj e82
      try dsimp only at e50
      obtain rfl:=sj e50
      try dsimp only at hs
      refine hX53 _ _ (by simp) ?_
      refine goE F4 F4 ?_
      obtain rfl:=sj hs
      exact hQ _ _ (rg F4 (Gh.refl _))
     ·refine goE F4 F4 ?_
      exact hL85 (q88,(k68+1)) _ _ (Gh.refl _) ⟨e82,hd93,pv F4,pv F4,pv F4,pg⟩ (by simp)
  ·obtain⟨e50,n4_g⟩:=hp
   obtain rfl:=sj e50
   try dsimp only at hs
   refine goG f0 f0 ?_
   obtain rfl:=sj hs
   exact hQ _ _ (rg f0 (Gh.refl _))
def zb7:List Var->Nat->Option (Unit ⊕ (Int × Int × Int))
 |[],k64=>some (.inl ())
 |x83::q79,k64=>Option.bind (zel x83.Init) (fun y86=>cond (!y86) (some (.inr (2,(-1),(-1)))) (zb7 q79 (k64+1)))
def zbQ(a0:Program):List Func->Nat->Option (Unit ⊕ (Int × Int × Int))
 |[],k156=>some (.inl ())
 |x180::q176,k156=>Option.bind (zgo a0 x180) (fun y186=>cond (!(eqI y186.1 0)) (some (.inr (y186.1,((k156:Nat):Int),y186.2))) (zbQ a0 q176 (k156+1)))
def zfe(fuelN:Nat)(a0:Program):Option (Int × Int × Int):=
 Option.bind (zfd a0) (fun y1=>Option.bind (zdh fuelN y1.1) (fun y3=>cond (!(eqI y3.2 0)) (some (y3.2,(-1),(-1))) (Option.bind (zdh fuelN a0.Mutexes) (fun y6=>cond (!(eqI y6.2 0)) (some (y6.2,(-1),(-1))) (Option.bind (zdh fuelN a0.Conds) (fun y9=>cond (!(eqI y9.2 0)) (some (y9.2,(-1),(-1))) (Option.bind (zdh fuelN y1.2) (fun y12=>cond (!(eqI y12.2 0)) (some (y12.2,y12.1,(-1))) (cond (orB (orB (orB (ltI 8 ((a0.Vars.length:Nat):Int)) (ltI 4 ((a0.Mutexes.length:Nat):Int))) (ltI 4 ((a0.Conds.length:Nat):Int))) (ltI 8 ((a0.Funcs.length:Nat):Int))) (some (4,(-1),(-1))) (Option.bind (α:=Unit ⊕ (Int × Int × Int)) (Option.bind (zb7 a0.Vars 0) (fun o=>match o with|.inl _=>some (.inl ())|.inr r89=>some (.inr r89))) (fun o=>match o with|.inl _=>Option.bind (α:=Unit ⊕ (Int × Int × Int)) (Option.bind (zbQ a0 a0.Funcs 0) (fun o=>match o with|.inl _=>some (.inl ())|.inr r189=>some (.inr r189))) (fun o=>match o with|.inl _=>Option.bind (zdM a0) (fun y190=>some (y190,(-1),(-1)))|.inr r192=>some r192)|.inr r193=>some r193)))))))))))
theorem zlM{fuelN:Nat}{a0:Program}{r:Int × Int × Int}(hs:zfe fuelN a0=some r):At Tryz.prog 26 [.agg (eA a0)] (.tup [iV .i64 r.1,iV .i64 r.2.1,iV .i64 r.2.2]):=by
 refine zab (by kernel_rfl) fun hb=>?_
 have hb1:LenOk (.sl a0.Vars.length (encL a0.Vars)):=lkc hb
 have hb2:LenOk (.sl a0.Mutexes.length (encL a0.Mutexes)):=lkc hb
 have hb3:LenOk (.sl a0.Conds.length (encL a0.Conds)):=lkc hb
 have hb4:LenOk (.sl a0.Funcs.length (encL a0.Funcs)):=lkc hb
 have hb5:LenOk (.sl a0.Threads.length (encL a0.Threads)):=lkc hb
 refine zac mixed Tryz.func26 (by kernel_rfl) rfl (by kernel_rfl) rfl fun Q hQ=>?_
 rw[zfe]at hs
 refine goR f0 ?_
 revert hs;refine bK fun y1 hx2 hs=>?_
 refine cP f0 (zlL hx2) ?_
 refine goR f0 ?_
 revert hs;refine bK fun y3 hx4 hs=>?_
 refine cP f0 (zea hx4) ?_
 refine goR f0 ?_
 revert hs;refine cS f0 ?_ ?_<;>intro h5 hs
 ·refine goR f0 ?_
  obtain rfl:=sj hs
  exact hQ _ _ (rg f0 (Gh.refl _))
 ·refine goR f0 ?_
  revert hs;refine bK fun y6 hx7 hs=>?_
  refine cP f0 (zea hx7) ?_
  refine goR f0 ?_
  revert hs;refine cS f0 ?_ ?_<;>intro h8 hs
  ·refine goR f0 ?_
   obtain rfl:=sj hs
   exact hQ _ _ (rg f0 (Gh.refl _))
  ·refine goR f0 ?_
   revert hs;refine bK fun y9 hx10 hs=>?_
   refine cP f0 (zea hx10) ?_
   refine goR f0 ?_
   revert hs;refine cS f0 ?_ ?_<;>intro h11 hs
   ·refine goR f0 ?_
    obtain rfl:=sj hs
    exact hQ _ _ (rg f0 (Gh.refl _))
   ·refine goR f0 ?_
    revert hs;refine bK fun y12 hx13 hs=>?_
    refine cP f0 (zea hx13) ?_
    refine goR f0 ?_
    revert hs;refine cS f0 ?_ ?_<;>intro h14 hs
    ·refine goR f0 ?_
     obtain rfl:=sj hs
     exact hQ _ _ (rg f0 (Gh.refl _))
    ·refine goG f0 f0 ?_
     revert hs;refine cS f0 ?_ ?_<;>intro h15 hs
     ·refine goG f0 f0 ?_
      obtain rfl:=sj hs
      exact hQ _ _ (rg f0 (Gh.refl _))
     ·refine goG2 f0 f0 ?_
      revert hs;refine bK fun o52 e51 hs=>?_
      refine zaj (fun(v:Unit) (σ:St)=>some (.inl v)=some o52 /\ σ.env 1=.cell (.ref (.o 1 0 0) 0) /\ σ.hp (.o 1 0 0)=some (.cells (eA a0)) /\ 12<=σ.gen) (by rfl) (fun Q hK53 hX54=>?_) (fun v σ3 hp=>?_)
      ·refine goG f0 f0 ?_
       revert e51;refine bK fun o74 e73 e51=>?_
       refine zaf (fun(v:(List Var) × Nat) (σ:St)=>zb7 v.1 v.2=some o74 /\ v.1=a0.Vars.drop v.2 /\ σ.env 1=.cell (.ref (.o 1 0 0) 0) /\ σ.env 15=iV .i64 ((v.2:Nat):Int) /\ σ.hp (.o 1 0 0)=some (.cells (eA a0)) /\ 12<=σ.gen) (fun v=>v.1.length) _ (Gh.refl _) (a0.Vars,0) ⟨e73,by simp,pv f0,pv f0,pv f0,pg⟩ fun v σ6 hp L75 hL76=>?_
       obtain⟨q78,k64⟩:=v
       dsimp only at hp hL76
       obtain⟨e73,hd77,h5_1,h5_15,g5_0,n5_g⟩:=hp
       have n5_0:¬ (σ6.gen=0):=by omega
       rcases q78 with _ |⟨x83,q79⟩
       ·have hlt80:=drop_end hd77
        rw[zb7]at e73;try dsimp only at e73
        have F1:=an h5_1 (an h5_15 (an g5_0 n5_0))
        refine goR F1 ?_
        refine zaF (by simp[ltI];omega) ?_
        obtain rfl:=sj e73
        try dsimp only at e51
        exact hK53 () _ _ (Gh.refl _) ⟨e51,pv F1,pv F1,pg⟩
       ·obtain⟨hx82,hlt80,hd84⟩:=zay hd77
        have ew81:=wrap_succ hlt80 (hb1).len
        rw[zb7]at e73;try dsimp only at e73
        have F2:=an h5_1 (an h5_15 (an g5_0 (an n5_0 (an hlt80 ew81))))
        refine goR F2 ?_
        refine zaB (by simp[ltI];omega) ?_
        have f85:zam Tryz.prog 3 (encL a0.Vars) (k64 * 2+1)=some (iV .i64 x83.Init):=zae hx82 (f:=1) (by simp)
        have F3:=an F2 f85
        refine goR F3 ?_
        revert e73;refine bK fun y86 hx87 e73=>?_
        refine cP F3 (zhI hx87) ?_
        refine goR F3 ?_
        revert e73;refine cS F3 ?_ ?_<;>intro h88 e73
        ·refine goR F3 ?_
         obtain rfl:=sj e73
         try dsimp only at e51
         obtain rfl:=sj e51
         try dsimp only at hs
         refine hX54 _ _ (by simp) ?_
         refine goR F3 ?_
         obtain rfl:=sj hs
         exact hQ _ _ (rg F3 (Gh.refl _))
        ·refine goR F3 ?_
         exact hL76 (q79,(k64+1)) _ _ (Gh.refl _) ⟨e73,hd84,pv F3,pv F3,pv F3,pg⟩ (by simp)
      ·obtain⟨e51,h4_1,g4_0,n4_g⟩:=hp
       obtain rfl:=sj e51
       try dsimp only at hs
       have n4_0:¬ (σ3.gen=0):=by omega
       have F4:=an h4_1 (an g4_0 n4_0)
       refine goG2 F4 F4 ?_
       revert hs;refine bK fun o139 e138 hs=>?_
       refine zaj (fun(v:Unit) (σ:St)=>some (.inl v)=some o139 /\ σ.env 1=.cell (.ref (.o 1 0 0) 0) /\ σ.hp (.o 1 0 0)=some (.cells (eA a0)) /\ (σ3.gen+1)<=σ.gen) (by rfl) (fun Q hK140 hX141=>?_) (fun v σ9 hp=>?_)
       ·refine goG F4 F4 ?_
        revert e138;refine bK fun o171 e170 e138=>?_
        refine zaf (fun(v:(List Func) × Nat) (σ:St)=>zbQ a0 v.1 v.2=some o171 /\ v.1=a0.Funcs.drop v.2 /\ σ.env 1=.cell (.ref (.o 1 0 0) 0) /\ σ.env 16=iV .i64 ((v.2:Nat):Int) /\ σ.hp (.o 1 0 0)=some (.cells (eA a0)) /\ (σ3.gen+1)<=σ.gen) (fun v=>v.1.length) _ (Gh.refl _) (a0.Funcs,0) ⟨e170,by simp,pv F4,pv F4,pv F4,pg⟩ fun v σ12 hp L172 hL173=>?_
        obtain⟨q175,k156⟩:=v
        dsimp only at hp hL173
        obtain⟨e170,hd174,h11_1,h11_16,g11_0,n11_g⟩:=hp
        have n11_0:¬ (σ12.gen=0):=by omega
        rcases q175 with _ |⟨x180,q176⟩
        ·have hlt177:=drop_end hd174
         rw[zbQ]at e170;try dsimp only at e170
         have F5:=an h11_1 (an h11_16 (an g11_0 n11_0))
         refine goR F5 ?_
         refine zaF (by simp[ltI];omega) ?_
         obtain rfl:=sj e170
         try dsimp only at e138
         exact hK140 () _ _ (Gh.refl _) ⟨e138,pv F5,pv F5,pg⟩
        ·obtain⟨hx179,hlt177,hd181⟩:=zay hd174
         have ew178:=wrap_succ hlt177 (hb4).len
         rw[zbQ]at e170;try dsimp only at e170
         have F6:=an h11_1 (an h11_16 (an g11_0 (an n11_0 (an hlt177 ew178))))
         refine goR F6 ?_
         refine zaB (by simp[ltI];omega) ?_
         have f185:zam Tryz.prog 49 (encL a0.Funcs) (k156 * 2)=some (.agg (eA x180)):=zae hx179 (f:=0) (by simp)
         have F7:=an F6 f185
         refine goD F7 ?_
         revert e170;refine bK fun y186 hx187 e170=>?_
         refine cP F7 (zmQ hx187) ?_
         refine goD F7 ?_
         revert e170;refine cS F7 ?_ ?_<;>intro h188 e170
         ·refine goD F7 ?_
          obtain rfl:=sj e170
          try dsimp only at e138
          obtain rfl:=sj e138
          try dsimp only at hs
          refine hX141 _ _ (by simp) ?_
          refine goD F7 ?_
          obtain rfl:=sj hs
          exact hQ _ _ (rg F7 (Gh.refl _))
         ·refine goD F7 ?_
          exact hL173 (q176,(k156+1)) _ _ (Gh.refl _) ⟨e170,hd181,pv F7,pv F7,pv F7,pg⟩ (by simp)
       ·obtain⟨e138,h10_1,g10_0,n10_g⟩:=hp
        obtain rfl:=sj e138
        try dsimp only at hs
        have n10_0:¬ (σ9.gen=0):=by omega
        have F8:=an h10_1 (an g10_0 n10_0)
        refine goG F8 F8 ?_
        revert hs;refine bK fun y190 hx191 hs=>?_
        refine cP F8 (zjv hx191) ?_
        refine goG F8 F8 ?_
        obtain rfl:=sj hs
        exact hQ _ _ (rg F8 (Gh.refl _))
def zaJ(fuelN:Nat)(a0:ByteArray)(y1:(List Token) × Fault):Nat->Int->Int->Int->(List Var)->(List ByteArray)->(List ByteArray)->(List Func)->(List Start)->(List RNm)->(List Int)->(List (List Int))->Bool->(List ByteArray)->Option (Int × Int × Int × (List Var) × (List ByteArray) × (List ByteArray) × (List Func) × (List Start) × (List RNm) × (List Int) × (List (List Int)) × Bool × (List ByteArray))
 |0,_,_,_,_,_,_,_,_,_,_,_,_,_=>none
 |q202+1,i156,i157,i158,l159,l160,l161,l162,l163,l164,l165,l166,b167,l168=>cond (andB (ltI i156 ((y1.1.length:Nat):Int)) (eqI i157 0)) (Option.bind (zgl y1.1 i156 false) (fun y207=>cond y207 (zaJ fuelN a0 y1 q202 (IntKind.i64.wrap (i156+1)) i157 i158 l159 l160 l161 l162 l163 l164 l165 l166 b167 l168) (cond b167 (Option.bind (zjG fuelN y1.1 i156 ((a0.size:Nat):Int) false i157 i158 l162 l164 l166 b167) (fun y211=>Option.bind (zcN y1.1 y211.1 false y211.2.1 y211.2.2.1) (fun y213=>zaJ fuelN a0 y1 q202 y211.1 y213.1 y213.2 l159 l160 l161 y211.2.2.2.1 l163 y211.2.2.2.2.1 l165 y211.2.2.2.2.2.1 y211.2.2.2.2.2.2 l168))) (Option.bind (zcm y1.1 i156 ((a0.size:Nat):Int) false i157 i158 l159 l160 l161 l162 l163 l164 l165 l166 b167) (fun y215=>Option.bind (zcN y1.1 y215.1 false y215.2.1 y215.2.2.1) (fun y217=>zaJ fuelN a0 y1 q202 y215.1 y217.1 y217.2 y215.2.2.2.1 y215.2.2.2.2.1 y215.2.2.2.2.2.1 y215.2.2.2.2.2.2.1 y215.2.2.2.2.2.2.2.1 y215.2.2.2.2.2.2.2.2.1 y215.2.2.2.2.2.2.2.2.2.1 y215.2.2.2.2.2.2.2.2.2.2.1 y215.2.2.2.2.2.2.2.2.2.2.2 l168)))))) (some ((i156,i157,i158,l159,l160,l161,l162,l163,l164,l165,l166,b167,l168)))
def zaT:Nat->Int->Int->Int->(List Var)->(List ByteArray)->(List ByteArray)->(List Func)->(List Start)->(List RNm)->(List Int)->(List (List Int))->(List ByteArray)->Option (Int × Int × (List Var) × (List ByteArray) × (List ByteArray) × (List Func) × (List Start) × (List RNm) × (List Int) × (List (List Int)) × (List ByteArray))
 |0,_,_,_,_,_,_,_,_,_,_,_,_=>none
 |q699+1,i621,i622,i623,l624,l625,l626,l627,l628,l629,l630,l631,l632=>cond (andB (ltI i621 ((l629.length:Nat):Int)) (eqI i622 0)) (Option.bind (getI l629 i621) (fun x704=>Option.bind (rRs ({ Vars:=l624,Mutexes:=l625,Conds:=l626,Funcs:=l627,Threads:=l628 }:Program) x704) (fun y709=>cond (ltI y709 0) (Option.bind (zcq i622 i623 5 x704.At) (fun y712=>zaT q699 (IntKind.i64.wrap (i621+1)) y712.1 y712.2 l624 l625 l626 l627 l628 l629 l630 l631 l632)) (cond (ltI x704.Func 0) (Option.bind (getI l628 x704.Inst) (fun x720=>Option.bind (some (l628.set ((x704.Inst).toNat) ({ x720 with Func:=y709 }))) (fun l722=>zaT q699 (IntKind.i64.wrap (i621+1)) i622 i623 l624 l625 l626 l627 l722 l629 l630 l631 l632))) (Option.bind (getI l627 x704.Func) (fun x725=>Option.bind (getI x725.Code x704.Inst) (fun x740=>Option.bind (ziv x740 x704 y709) (fun y743=>Option.bind (some (x725.Code.set ((x704.Inst).toNat) y743)) (fun l745=>Option.bind (some (l627.set ((x704.Func).toNat) ({ x725 with Code:=l745 }))) (fun l749=>zaT q699 (IntKind.i64.wrap (i621+1)) i622 i623 l624 l625 l626 l749 l628 l629 l630 l631 l632)))))))))) (some ((i622,i623,l624,l625,l626,l627,l628,l629,l630,l631,l632)))
def zfb(fuelN:Nat)(a0:ByteArray):Option (Program × Fault):=
 Option.bind (zgn fuelN a0) (fun y1=>cond (!(eqI y1.2.Err 0)) (some (({ Vars:=[],Mutexes:=[],Conds:=[],Funcs:=[],Threads:=[] }:Program),y1.2)) (Option.bind (α:=Int × Int × Int × (List Var) × (List ByteArray) × (List ByteArray) × (List Func) × (List Start) × (List RNm) × (List Int) × (List (List Int)) × Bool × (List ByteArray)) (Option.bind (zaJ fuelN a0 y1 fuelN 0 0 0 [] [] [] [] [] [] [] [] false []) (fun o=>match o with |(i183,i184,i185,l186,l187,l188,l189,l190,l191,l192,l193,b194,l195)=>some ((i183,i184,i185,l186,l187,l188,l189,l190,l191,l192,l193,b194,l195)))) (fun o=>match o with |(i103,i104,i105,l106,l107,l108,l109,l110,l111,l112,l113,b114,l115)=>Option.bind (α:=Int × Int × (List Var) × (List ByteArray) × (List ByteArray) × (List Func) × (List Start) × (List RNm) × (List Int) × (List (List Int)) × (List ByteArray)) (cond b114 (Option.bind (zcq i104 i105 15 ((a0.size:Nat):Int)) (fun y238=>some ((y238.1,y238.2,l106,l107,l108,l109,l110,l111,l112,l113,l115)))) (some ((i104,i105,l106,l107,l108,l109,l110,l111,l112,l113,l115)))) (fun o=>match o with |(i222,i223,l224,l225,l226,l227,l228,l229,l230,l231,l232)=>Option.bind (α:=Int × Int × (List Var) × (List ByteArray) × (List ByteArray) × (List Func) × (List Start) × (List RNm) × (List Int) × (List (List Int)) × (List ByteArray)) (Option.bind (zaT fuelN 0 i222 i223 l224 l225 l226 l227 l228 l229 l230 l231 l232) (fun o=>match o with |(i682,i683,l684,l685,l686,l687,l688,l689,l690,l691,l692)=>some ((i682,i683,l684,l685,l686,l687,l688,l689,l690,l691,l692)))) (fun o=>match o with |(i488,i489,l490,l491,l492,l493,l494,l495,l496,l497,l498)=>Option.bind (α:=Int × Int × (List Var) × (List ByteArray) × (List ByteArray) × (List Func) × (List Start) × (List RNm) × (List Int) × (List (List Int)) × (List ByteArray)) (cond (eqI i488 0) (Option.bind (zfe fuelN ({ Vars:=l490,Mutexes:=l491,Conds:=l492,Funcs:=l493,Threads:=l494 }:Program)) (fun y808=>Option.bind (α:=Int × (List Var) × (List ByteArray) × (List ByteArray) × (List Func) × (List Start) × (List RNm) × (List Int) × (List (List Int)) × (List ByteArray)) (cond (!(ltI y808.2.1 0)) (Option.bind (getI l496 y808.2.1) (fun x829=>some ((x829,l490,l491,l492,l493,l494,l495,l496,l497,l498)))) (some ((0,l490,l491,l492,l493,l494,l495,l496,l497,l498)))) (fun o=>match o with |(i814,l815,l816,l817,l818,l819,l820,l821,l822,l823)=>cond (andB (!(ltI y808.2.1 0)) (!(ltI y808.2.2 0))) (Option.bind (getI l822 y808.2.1) (fun x833=>Option.bind (getI x833 y808.2.2) (fun x836=>Option.bind (some (l822.set ((y808.2.1).toNat) x833)) (fun l840=>cond (!(eqI y808.1 0)) (Option.bind (zcq i488 i489 y808.1 x836) (fun y843=>some ((y843.1,y843.2,l815,l816,l817,l818,l819,l820,l821,l840,l823)))) (some ((i488,i489,l815,l816,l817,l818,l819,l820,l821,l840,l823))))))) (cond (!(eqI y808.1 0)) (Option.bind (zcq i488 i489 y808.1 i814) (fun y846=>some ((y846.1,y846.2,l815,l816,l817,l818,l819,l820,l821,l822,l823)))) (some ((i488,i489,l815,l816,l817,l818,l819,l820,l821,l822,l823))))))) (some ((i488,i489,l490,l491,l492,l493,l494,l495,l496,l497,l498)))) (fun o=>match o with |(i792,i793,l794,l795,l796,l797,l798,l799,l800,l801,l802)=>cond (!(eqI i792 0)) (some (({ Vars:=[],Mutexes:=[],Conds:=[],Funcs:=[],Threads:=[] }:Program),({ Err:=i792,At:=i793 }:Fault))) (some (({ Vars:=l794,Mutexes:=l795,Conds:=l796,Funcs:=l797,Threads:=l798 }:Program),({ Err:=0,At:=0 }:Fault)))))))))
theorem zlJ{fuelN:Nat}{a0:ByteArray}{r:Program × Fault}(hs:zfb fuelN a0=some r):At Tryz.prog 7 [sV a0] (.tup [.agg (eA r.1),.agg (eA r.2)]):=by
 refine zab (by kernel_rfl) fun hb=>?_
 refine zac mixed Tryz.func7 (by kernel_rfl) rfl (by kernel_rfl) rfl fun Q hQ=>?_
 rw[zfb]at hs
 refine goR f0 ?_
 revert hs;refine bK fun y1 hx2 hs=>?_
 refine cP f0 (zmP hx2) ?_
 refine goR f0 ?_
 revert hs;refine cS f0 ?_ ?_<;>intro h3 hs
 ·refine goD f0 ?_
  obtain rfl:=sj hs
  exact hQ _ _ (rg f0 (Gh.unz _))
 ·refine goR2 f0 ?_
  revert hs;refine bK fun o117 e116 hs=>?_
  refine zaj (fun(v:Int × Int × Int × (List Var) × (List ByteArray) × (List ByteArray) × (List Func) × (List Start) × (List RNm) × (List Int) × (List (List Int)) × Bool × (List ByteArray)) (σ:St)=>some (v)=some o117 /\ σ.env 2=.cell (.ref (.o 1 0 0) 0) /\ σ.env 3=.cell (.ref (.o 1 1 0) 0) /\ σ.env 6=.cell (.ref (.o 4 4 0) 0) /\ σ.hp (.o 1 0 0)=some (.cells [.z,.z,.z,.z,.z]) /\ σ.hp (.o 1 1 0)=some (.cells [nC 0,nC 0]) /\ σ.hp (.o 4 4 0)=some (.cells [sC y1.1,nC v.1,nC ((a0.size:Nat):Int),bC false,nC v.2.1,nC v.2.2.1,.own (.sp 2 v.2.2.2.1.length (encL v.2.2.2.1)),.own (.sp 1 v.2.2.2.2.1.length (encL v.2.2.2.2.1)),.own (.sp 1 v.2.2.2.2.2.1.length (encL v.2.2.2.2.2.1)),.own (.sl 2 v.2.2.2.2.2.2.1.length (otL v.2.2.2.2.2.2.1)),.own (.sp 2 v.2.2.2.2.2.2.2.1.length (encL v.2.2.2.2.2.2.2.1)),.own (.sp 5 v.2.2.2.2.2.2.2.2.1.length (encL v.2.2.2.2.2.2.2.2.1)),.own (.sp 1 v.2.2.2.2.2.2.2.2.2.1.length (encL v.2.2.2.2.2.2.2.2.2.1)),.own (.sl 1 v.2.2.2.2.2.2.2.2.2.2.1.length (otL v.2.2.2.2.2.2.2.2.2.2.1)),bC v.2.2.2.2.2.2.2.2.2.2.2.1,.own (.sp 1 v.2.2.2.2.2.2.2.2.2.2.2.2.length (encL v.2.2.2.2.2.2.2.2.2.2.2.2))]) /\ 4<=σ.gen) (by rfl) (fun Q hK118 hX119=>?_) (fun v σ3 hp=>?_)
  ·refine goR f0 ?_
   revert e116;refine bK fun o197 e196 e116=>?_
   refine zaf (fun(v:Nat × Int × Int × Int × (List Var) × (List ByteArray) × (List ByteArray) × (List Func) × (List Start) × (List RNm) × (List Int) × (List (List Int)) × Bool × (List ByteArray)) (σ:St)=>zaJ fuelN a0 y1 v.1 v.2.1 v.2.2.1 v.2.2.2.1 v.2.2.2.2.1 v.2.2.2.2.2.1 v.2.2.2.2.2.2.1 v.2.2.2.2.2.2.2.1 v.2.2.2.2.2.2.2.2.1 v.2.2.2.2.2.2.2.2.2.1 v.2.2.2.2.2.2.2.2.2.2.1 v.2.2.2.2.2.2.2.2.2.2.2.1 v.2.2.2.2.2.2.2.2.2.2.2.2.1 v.2.2.2.2.2.2.2.2.2.2.2.2.2=some o197 /\ σ.env 2=.cell (.ref (.o 1 0 0) 0) /\ σ.env 3=.cell (.ref (.o 1 1 0) 0) /\ σ.env 6=.cell (.ref (.o 4 4 0) 0) /\ σ.hp (.o 1 0 0)=some (.cells [.z,.z,.z,.z,.z]) /\ σ.hp (.o 1 1 0)=some (.cells [nC 0,nC 0]) /\ σ.hp (.o 4 4 0)=some (.cells [sC y1.1,nC v.2.1,nC ((a0.size:Nat):Int),bC false,nC v.2.2.1,nC v.2.2.2.1,.own (.sp 2 v.2.2.2.2.1.length (encL v.2.2.2.2.1)),.own (.sp 1 v.2.2.2.2.2.1.length (encL v.2.2.2.2.2.1)),.own (.sp 1 v.2.2.2.2.2.2.1.length (encL v.2.2.2.2.2.2.1)),.own (.sl 2 v.2.2.2.2.2.2.2.1.length (otL v.2.2.2.2.2.2.2.1)),.own (.sp 2 v.2.2.2.2.2.2.2.2.1.length (encL v.2.2.2.2.2.2.2.2.1)),.own (.sp 5 v.2.2.2.2.2.2.2.2.2.1.length (encL v.2.2.2.2.2.2.2.2.2.1)),.own (.sp 1 v.2.2.2.2.2.2.2.2.2.2.1.length (encL v.2.2.2.2.2.2.2.2.2.2.1)),.own (.sl 1 v.2.2.2.2.2.2.2.2.2.2.2.1.length (otL v.2.2.2.2.2.2.2.2.2.2.2.1)),bC v.2.2.2.2.2.2.2.2.2.2.2.2.1,.own (.sp 1 v.2.2.2.2.2.2.2.2.2.2.2.2.2.length (encL v.2.2.2.2.2.2.2.2.2.2.2.2.2))]) /\ 4<=σ.gen) (fun v=>v.1) _ ((Gh.own0 _ (.o 4 4 0) 6 (.sp 2 0 []) rfl).trans ((Gh.own0 _ (.o 4 4 0) 7 (.sp 1 0 []) rfl).trans ((Gh.own0 _ (.o 4 4 0) 8 (.sp 1 0 []) rfl).trans ((Gh.own0 _ (.o 4 4 0) 9 (.sl 2 0 []) rfl).trans ((Gh.own0 _ (.o 4 4 0) 10 (.sp 2 0 []) rfl).trans ((Gh.own0 _ (.o 4 4 0) 11 (.sp 5 0 []) rfl).trans ((Gh.own0 _ (.o 4 4 0) 12 (.sp 1 0 []) rfl).trans ((Gh.own0 _ (.o 4 4 0) 13 (.sl 1 0 []) rfl).trans (Gh.own0 _ (.o 4 4 0) 15 (.sp 1 0 []) rfl))))))))) (fuelN,0,0,0,[],[],[],[],[],[],[],[],false,[]) ⟨e196,pv f0,pv f0,pv f0,pv f0,pv f0,pv f0,pg⟩ fun v σ6 hp L198 hL199=>?_
   obtain⟨q201,i156,i157,i158,l159,l160,l161,l162,l163,l164,l165,l166,b167,l168⟩:=v
   dsimp only at hp hL199
   obtain⟨e196,h5_2,h5_3,h5_6,g5_0,g5_1,g5_2,n5_g⟩:=hp
   have n5_0:¬ (σ6.gen=0):=by omega
   have n5_1:¬ (σ6.gen=1):=by omega
   have n5_2:¬ (σ6.gen=2):=by omega
   have n5_3:¬ (σ6.gen=3):=by omega
   rcases q201 with _|q202
   ·rw[zaJ]at e196;cases e196
   ·rw[zaJ]at e196;try dsimp only at e196
    have F1:=an h5_2 (an h5_3 (an h5_6 (an g5_0 (an g5_1 (an g5_2 (an n5_0 (an n5_1 (an n5_2 n5_3))))))))
    refine goE F1 F1 ?_
    revert e196;refine cS F1 ?_ ?_<;>intro h206 e196
    ·refine goE F1 F1 ?_
     revert e196;refine bK fun y207 hx208 e196=>?_
     refine cB F1 (zi2 (c0_2:=⟨AC.toF [.o 4 4 0] (nC ((a0.size:Nat):Int)),by simp[F1]⟩) (c0_4:=⟨AC.toF [.o 4 4 0] (nC i157),by simp[F1]⟩) (c0_5:=⟨AC.toF [.o 4 4 0] (nC i158),by simp[F1]⟩) (c0_6:=⟨AC.toF [.o 4 4 0] (.own (.sp 2 l159.length (encL l159))),by simp[F1]⟩) (c0_7:=⟨AC.toF [.o 4 4 0] (.own (.sp 1 l160.length (encL l160))),by simp[F1]⟩) (c0_8:=⟨AC.toF [.o 4 4 0] (.own (.sp 1 l161.length (encL l161))),by simp[F1]⟩) (c0_9:=⟨AC.toF [.o 4 4 0] (.own (.sl 2 l162.length (otL l162))),by simp[F1]⟩) (c0_10:=⟨AC.toF [.o 4 4 0] (.own (.sp 2 l163.length (encL l163))),by simp[F1]⟩) (c0_11:=⟨AC.toF [.o 4 4 0] (.own (.sp 5 l164.length (encL l164))),by simp[F1]⟩) (c0_12:=⟨AC.toF [.o 4 4 0] (.own (.sp 1 l165.length (encL l165))),by simp[F1]⟩) (c0_13:=⟨AC.toF [.o 4 4 0] (.own (.sl 1 l166.length (otL l166))),by simp[F1]⟩) (c0_14:=⟨AC.toF [.o 4 4 0] (bC b167),by simp[F1]⟩) (c0_15:=⟨AC.toF [.o 4 4 0] (.own (.sp 1 l168.length (encL l168))),by simp[F1]⟩) hx208) [.o 4 4 0] ?_
     refine goE F1 F1 ?_
     revert e196;refine cS F1 ?_ ?_<;>intro h209 e196
     ·refine goE F1 F1 ?_
      exact hL199 (q202,IntKind.i64.wrap (i156+1),i157,i158,l159,l160,l161,l162,l163,l164,l165,l166,b167,l168) _ _ (Gh.refl _) ⟨e196,pv F1,pv F1,pv F1,pv F1,pv F1,pv F1,pg⟩ (by omega)
     ·refine goE F1 F1 ?_
      revert e196;refine cS F1 ?_ ?_<;>intro h210 e196
      ·refine goE F1 F1 ?_
       revert e196;refine bK fun y211 hx212 e196=>?_
       refine cB F1 (zqe (c0_6:=⟨AC.toF [.o 4 4 0] (.own (.sp 2 l159.length (encL l159))),by simp[F1]⟩) (c0_7:=⟨AC.toF [.o 4 4 0] (.own (.sp 1 l160.length (encL l160))),by simp[F1]⟩) (c0_8:=⟨AC.toF [.o 4 4 0] (.own (.sp 1 l161.length (encL l161))),by simp[F1]⟩) (c0_10:=⟨AC.toF [.o 4 4 0] (.own (.sp 2 l163.length (encL l163))),by simp[F1]⟩) (c0_12:=⟨AC.toF [.o 4 4 0] (.own (.sp 1 l165.length (encL l165))),by simp[F1]⟩) (c0_15:=⟨AC.toF [.o 4 4 0] (.own (.sp 1 l168.length (encL l168))),by simp[F1]⟩) hx212) [.o 4 4 0] ?_
       refine goE F1 F1 ?_
       revert e196;refine bK fun y213 hx214 e196=>?_
       refine cB F1 (zi3 (c0_2:=⟨AC.toF [.o 4 4 0] (nC ((a0.size:Nat):Int)),by simp[F1]⟩) (c0_6:=⟨AC.toF [.o 4 4 0] (.own (.sp 2 l159.length (encL l159))),by simp[F1]⟩) (c0_7:=⟨AC.toF [.o 4 4 0] (.own (.sp 1 l160.length (encL l160))),by simp[F1]⟩) (c0_8:=⟨AC.toF [.o 4 4 0] (.own (.sp 1 l161.length (encL l161))),by simp[F1]⟩) (c0_9:=⟨AC.toF [.o 4 4 0] (.own (.sl 2 y211.2.2.2.1.length (otL y211.2.2.2.1))),by simp[F1]⟩) (c0_10:=⟨AC.toF [.o 4 4 0] (.own (.sp 2 l163.length (encL l163))),by simp[F1]⟩) (c0_11:=⟨AC.toF [.o 4 4 0] (.own (.sp 5 y211.2.2.2.2.1.length (encL y211.2.2.2.2.1))),by simp[F1]⟩) (c0_12:=⟨AC.toF [.o 4 4 0] (.own (.sp 1 l165.length (encL l165))),by simp[F1]⟩) (c0_13:=⟨AC.toF [.o 4 4 0] (.own (.sl 1 y211.2.2.2.2.2.1.length (otL y211.2.2.2.2.2.1))),by simp[F1]⟩) (c0_14:=⟨AC.toF [.o 4 4 0] (bC y211.2.2.2.2.2.2),by simp[F1]⟩) (c0_15:=⟨AC.toF [.o 4 4 0] (.own (.sp 1 l168.length (encL l168))),by simp[F1]⟩) hx214) [.o 4 4 0] ?_
       refine goE F1 F1 ?_
       exact hL199 (q202,y211.1,y213.1,y213.2,l159,l160,l161,y211.2.2.2.1,l163,y211.2.2.2.2.1,l165,y211.2.2.2.2.2.1,y211.2.2.2.2.2.2,l168) _ _ (Gh.refl _) ⟨e196,pv F1,pv F1,pv F1,pv F1,pv F1,pv F1,pg⟩ (by omega)
      ·refine goE F1 F1 ?_
       revert e196;refine bK fun y215 hx216 e196=>?_
       refine cB F1 (zhX (c0_15:=⟨AC.toF [.o 4 4 0] (.own (.sp 1 l168.length (encL l168))),by simp[F1]⟩) hx216) [.o 4 4 0] ?_
       refine goE F1 F1 ?_
       revert e196;refine bK fun y217 hx218 e196=>?_
       refine cB F1 (zi3 (c0_2:=⟨AC.toF [.o 4 4 0] (nC ((a0.size:Nat):Int)),by simp[F1]⟩) (c0_6:=⟨AC.toF [.o 4 4 0] (.own (.sp 2 y215.2.2.2.1.length (encL y215.2.2.2.1))),by simp[F1]⟩) (c0_7:=⟨AC.toF [.o 4 4 0] (.own (.sp 1 y215.2.2.2.2.1.length (encL y215.2.2.2.2.1))),by simp[F1]⟩) (c0_8:=⟨AC.toF [.o 4 4 0] (.own (.sp 1 y215.2.2.2.2.2.1.length (encL y215.2.2.2.2.2.1))),by simp[F1]⟩) (c0_9:=⟨AC.toF [.o 4 4 0] (.own (.sl 2 y215.2.2.2.2.2.2.1.length (otL y215.2.2.2.2.2.2.1))),by simp[F1]⟩) (c0_10:=⟨AC.toF [.o 4 4 0] (.own (.sp 2 y215.2.2.2.2.2.2.2.1.length (encL y215.2.2.2.2.2.2.2.1))),by simp[F1]⟩) (c0_11:=⟨AC.toF [.o 4 4 0] (.own (.sp 5 y215.2.2.2.2.2.2.2.2.1.length (encL y215.2.2.2.2.2.2.2.2.1))),by simp[F1]⟩) (c0_12:=⟨AC.toF [.o 4 4 0] (.own (.sp 1 y215.2.2.2.2.2.2.2.2.2.1.length (encL y215.2.2.2.2.2.2.2.2.2.1))),by simp[F1]⟩) (c0_13:=⟨AC.toF [.o 4 4 0] (.own (.sl 1 y215.2.2.2.2.2.2.2.2.2.2.1.length (otL y215.2.2.2.2.2.2.2.2.2.2.1))),by simp[F1]⟩) (c0_14:=⟨AC.toF [.o 4 4 0] (bC y215.2.2.2.2.2.2.2.2.2.2.2),by simp[F1]⟩) (c0_15:=⟨AC.toF [.o 4 4 0] (.own (.sp 1 l168.length (encL l168))),by simp[F1]⟩) hx218) [.o 4 4 0] ?_
       refine goE F1 F1 ?_
       exact hL199 (q202,y215.1,y217.1,y217.2,y215.2.2.2.1,y215.2.2.2.2.1,y215.2.2.2.2.2.1,y215.2.2.2.2.2.2.1,y215.2.2.2.2.2.2.2.1,y215.2.2.2.2.2.2.2.2.1,y215.2.2.2.2.2.2.2.2.2.1,y215.2.2.2.2.2.2.2.2.2.2.1,y215.2.2.2.2.2.2.2.2.2.2.2,l168) _ _ (Gh.refl _) ⟨e196,pv F1,pv F1,pv F1,pv F1,pv F1,pv F1,pg⟩ (by omega)
    ·refine goE F1 F1 ?_
     obtain rfl:=sj e196
     try dsimp only at e116
     exact hK118 (i156,i157,i158,l159,l160,l161,l162,l163,l164,l165,l166,b167,l168) _ _ (Gh.refl _) ⟨e116,pv F1,pv F1,pv F1,pv F1,pv F1,pv F1,pg⟩
  ·obtain⟨i103,i104,i105,l106,l107,l108,l109,l110,l111,l112,l113,b114,l115⟩:=v
   dsimp only at hp
   obtain⟨e116,h4_2,h4_3,h4_6,g4_0,g4_1,g4_2,n4_g⟩:=hp
   obtain rfl:=sj e116
   try dsimp only at hs
   have n4_0:¬ (σ3.gen=0):=by omega
   have n4_1:¬ (σ3.gen=1):=by omega
   have n4_2:¬ (σ3.gen=2):=by omega
   have n4_3:¬ (σ3.gen=3):=by omega
   have F2:=an h4_2 (an h4_3 (an h4_6 (an g4_0 (an g4_1 (an g4_2 (an n4_0 (an n4_1 (an n4_2 n4_3))))))))
   refine goR2 F2 ?_
   revert hs;refine bK fun o234 e233 hs=>?_
   refine zaj (fun(v:Int × Int × (List Var) × (List ByteArray) × (List ByteArray) × (List Func) × (List Start) × (List RNm) × (List Int) × (List (List Int)) × (List ByteArray)) (σ:St)=>some (v)=some o234 /\ σ.env 2=.cell (.ref (.o 1 0 0) 0) /\ σ.env 3=.cell (.ref (.o 1 1 0) 0) /\ σ.env 6=.cell (.ref (.o 4 4 0) 0) /\ σ.hp (.o 1 0 0)=some (.cells [.z,.z,.z,.z,.z]) /\ σ.hp (.o 1 1 0)=some (.cells [nC 0,nC 0]) /\ σ.hp (.o 4 4 0)=some (.cells [sC y1.1,nC i103,nC ((a0.size:Nat):Int),bC false,nC v.1,nC v.2.1,.own (.sp 2 v.2.2.1.length (encL v.2.2.1)),.own (.sp 1 v.2.2.2.1.length (encL v.2.2.2.1)),.own (.sp 1 v.2.2.2.2.1.length (encL v.2.2.2.2.1)),.own (.sl 2 v.2.2.2.2.2.1.length (otL v.2.2.2.2.2.1)),.own (.sp 2 v.2.2.2.2.2.2.1.length (encL v.2.2.2.2.2.2.1)),.own (.sp 5 v.2.2.2.2.2.2.2.1.length (encL v.2.2.2.2.2.2.2.1)),.own (.sp 1 v.2.2.2.2.2.2.2.2.1.length (encL v.2.2.2.2.2.2.2.2.1)),.own (.sl 1 v.2.2.2.2.2.2.2.2.2.1.length (otL v.2.2.2.2.2.2.2.2.2.1)),bC b114,.own (.sp 1 v.2.2.2.2.2.2.2.2.2.2.length (encL v.2.2.2.2.2.2.2.2.2.2))]) /\ (σ3.gen+1)<=σ.gen) (by rfl) (fun Q hK235 hX236=>?_) (fun v σ7 hp=>?_)
   ·refine goR F2 ?_
    revert e233;refine cS F2 ?_ ?_<;>intro h237 e233
    ·refine goR F2 ?_
     revert e233;refine bK fun y238 hx239 e233=>?_
     refine cB F2 (zbL (c0_0:=⟨AC.toF [.o 4 4 0] (sC y1.1),by simp[F2]⟩) (c0_1:=⟨AC.toF [.o 4 4 0] (nC i103),by simp[F2]⟩) (c0_2:=⟨AC.toF [.o 4 4 0] (nC ((a0.size:Nat):Int)),by simp[F2]⟩) (c0_3:=⟨AC.toF [.o 4 4 0] (bC false),by simp[F2]⟩) (c0_6:=⟨AC.toF [.o 4 4 0] (.own (.sp 2 l106.length (encL l106))),by simp[F2]⟩) (c0_7:=⟨AC.toF [.o 4 4 0] (.own (.sp 1 l107.length (encL l107))),by simp[F2]⟩) (c0_8:=⟨AC.toF [.o 4 4 0] (.own (.sp 1 l108.length (encL l108))),by simp[F2]⟩) (c0_9:=⟨AC.toF [.o 4 4 0] (.own (.sl 2 l109.length (otL l109))),by simp[F2]⟩) (c0_10:=⟨AC.toF [.o 4 4 0] (.own (.sp 2 l110.length (encL l110))),by simp[F2]⟩) (c0_11:=⟨AC.toF [.o 4 4 0] (.own (.sp 5 l111.length (encL l111))),by simp[F2]⟩) (c0_12:=⟨AC.toF [.o 4 4 0] (.own (.sp 1 l112.length (encL l112))),by simp[F2]⟩) (c0_13:=⟨AC.toF [.o 4 4 0] (.own (.sl 1 l113.length (otL l113))),by simp[F2]⟩) (c0_14:=⟨AC.toF [.o 4 4 0] (bC b114),by simp[F2]⟩) (c0_15:=⟨AC.toF [.o 4 4 0] (.own (.sp 1 l115.length (encL l115))),by simp[F2]⟩) hx239) [.o 4 4 0] ?_
     refine goR F2 ?_
     exact hK235 (y238.1,y238.2,l106,l107,l108,l109,l110,l111,l112,l113,l115) _ _ (Gh.refl _) ⟨e233,pv F2,pv F2,pv F2,pv F2,pv F2,pv F2,pg⟩
    ·refine goR F2 ?_
     exact hK235 (i104,i105,l106,l107,l108,l109,l110,l111,l112,l113,l115) _ _ (Gh.refl _) ⟨e233,pv F2,pv F2,pv F2,pv F2,pv F2,pv F2,pg⟩
   ·obtain⟨i222,i223,l224,l225,l226,l227,l228,l229,l230,l231,l232⟩:=v
    dsimp only at hp
    obtain⟨e233,h8_2,h8_3,h8_6,g8_0,g8_1,g8_2,n8_g⟩:=hp
    obtain rfl:=sj e233
    try dsimp only at hs
    have n8_0:¬ (σ7.gen=0):=by omega
    have n8_1:¬ (σ7.gen=1):=by omega
    have n8_2:¬ (σ7.gen=2):=by omega
    have n8_3:¬ (σ7.gen=3):=by omega
    have F3:=an h8_2 (an h8_3 (an h8_6 (an g8_0 (an g8_1 (an g8_2 (an n8_0 (an n8_1 (an n8_2 n8_3))))))))
    refine goR2 F3 ?_
    revert hs;refine bK fun o500 e499 hs=>?_
    refine zaj (fun(v:Int × Int × (List Var) × (List ByteArray) × (List ByteArray) × (List Func) × (List Start) × (List RNm) × (List Int) × (List (List Int)) × (List ByteArray)) (σ:St)=>some (v)=some o500 /\ σ.env 2=.cell (.ref (.o 1 0 0) 0) /\ σ.env 3=.cell (.ref (.o 1 1 0) 0) /\ σ.env 6=.cell (.ref (.o 4 4 0) 0) /\ σ.hp (.o 1 0 0)=some (.cells [.z,.z,.z,.z,.z]) /\ σ.hp (.o 1 1 0)=some (.cells [nC 0,nC 0]) /\ σ.hp (.o 4 4 0)=some (.cells [sC y1.1,nC i103,nC ((a0.size:Nat):Int),bC false,nC v.1,nC v.2.1,.own (.sp 2 v.2.2.1.length (encL v.2.2.1)),.own (.sp 1 v.2.2.2.1.length (encL v.2.2.2.1)),.own (.sp 1 v.2.2.2.2.1.length (encL v.2.2.2.2.1)),.own (.sl 2 v.2.2.2.2.2.1.length (otL v.2.2.2.2.2.1)),.own (.sp 2 v.2.2.2.2.2.2.1.length (encL v.2.2.2.2.2.2.1)),.own (.sp 5 v.2.2.2.2.2.2.2.1.length (encL v.2.2.2.2.2.2.2.1)),.own (.sp 1 v.2.2.2.2.2.2.2.2.1.length (encL v.2.2.2.2.2.2.2.2.1)),.own (.sl 1 v.2.2.2.2.2.2.2.2.2.1.length (otL v.2.2.2.2.2.2.2.2.2.1)),bC b114,.own (.sp 1 v.2.2.2.2.2.2.2.2.2.2.length (encL v.2.2.2.2.2.2.2.2.2.2))]) /\ (σ7.gen+1)<=σ.gen) (by rfl) (fun Q hK501 hX502=>?_) (fun v σ11 hp=>?_)
    ·refine goR F3 ?_
     revert e499;refine bK fun o694 e693 e499=>?_
     refine zaf (fun(v:Nat × Int × Int × Int × (List Var) × (List ByteArray) × (List ByteArray) × (List Func) × (List Start) × (List RNm) × (List Int) × (List (List Int)) × (List ByteArray)) (σ:St)=>zaT v.1 v.2.1 v.2.2.1 v.2.2.2.1 v.2.2.2.2.1 v.2.2.2.2.2.1 v.2.2.2.2.2.2.1 v.2.2.2.2.2.2.2.1 v.2.2.2.2.2.2.2.2.1 v.2.2.2.2.2.2.2.2.2.1 v.2.2.2.2.2.2.2.2.2.2.1 v.2.2.2.2.2.2.2.2.2.2.2.1 v.2.2.2.2.2.2.2.2.2.2.2.2=some o694 /\ σ.env 2=.cell (.ref (.o 1 0 0) 0) /\ σ.env 3=.cell (.ref (.o 1 1 0) 0) /\ σ.env 6=.cell (.ref (.o 4 4 0) 0) /\ σ.env 7=iV .i64 v.2.1 /\ σ.hp (.o 1 0 0)=some (.cells [.z,.z,.z,.z,.z]) /\ σ.hp (.o 1 1 0)=some (.cells [nC 0,nC 0]) /\ σ.hp (.o 4 4 0)=some (.cells [sC y1.1,nC i103,nC ((a0.size:Nat):Int),bC false,nC v.2.2.1,nC v.2.2.2.1,.own (.sp 2 v.2.2.2.2.1.length (encL v.2.2.2.2.1)),.own (.sp 1 v.2.2.2.2.2.1.length (encL v.2.2.2.2.2.1)),.own (.sp 1 v.2.2.2.2.2.2.1.length (encL v.2.2.2.2.2.2.1)),.own (.sl 2 v.2.2.2.2.2.2.2.1.length (otL v.2.2.2.2.2.2.2.1)),.own (.sp 2 v.2.2.2.2.2.2.2.2.1.length (encL v.2.2.2.2.2.2.2.2.1)),.own (.sp 5 v.2.2.2.2.2.2.2.2.2.1.length (encL v.2.2.2.2.2.2.2.2.2.1)),.own (.sp 1 v.2.2.2.2.2.2.2.2.2.2.1.length (encL v.2.2.2.2.2.2.2.2.2.2.1)),.own (.sl 1 v.2.2.2.2.2.2.2.2.2.2.2.1.length (otL v.2.2.2.2.2.2.2.2.2.2.2.1)),bC b114,.own (.sp 1 v.2.2.2.2.2.2.2.2.2.2.2.2.length (encL v.2.2.2.2.2.2.2.2.2.2.2.2))]) /\ (σ7.gen+1)<=σ.gen) (fun v=>v.1) _ (Gh.refl _) (fuelN,0,i222,i223,l224,l225,l226,l227,l228,l229,l230,l231,l232) ⟨e693,pv F3,pv F3,pv F3,pv F3,pv F3,pv F3,pv F3,pg⟩ fun v σ14 hp L695 hL696=>?_
     obtain⟨q698,i621,i622,i623,l624,l625,l626,l627,l628,l629,l630,l631,l632⟩:=v
     dsimp only at hp hL696
     obtain⟨e693,h13_2,h13_3,h13_6,h13_7,g13_0,g13_1,g13_2,n13_g⟩:=hp
     have n13_0:¬ (σ14.gen=0):=by omega
     have n13_1:¬ (σ14.gen=1):=by omega
     have n13_2:¬ (σ14.gen=2):=by omega
     have n13_3:¬ (σ14.gen=3):=by omega
     rcases q698 with _|q699
     ·rw[zaT]at e693;cases e693
     ·rw[zaT]at e693;try dsimp only at e693
      have F4:=an h13_2 (an h13_3 (an h13_6 (an h13_7 (an g13_0 (an g13_1 (an g13_2 (an n13_0 (an n13_1 (an n13_2 n13_3)))))))))
      refine goG F4 F4 ?_
      revert e693;refine cS F4 ?_ ?_<;>intro h703 e693
      ·revert e693;refine bK fun x704 hx705 e693=>?_
       obtain⟨hx705a,hx705b,hx705c,hx705d⟩:=zao hx705
       have f706:zam Tryz.prog 68 (encL l629) (((i621).toNat) * 5)=some (.agg [.p (.c (.int .u8 ((x704.Kind).toNat:Int))),tC x704.Text,nC x704.At,nC x704.Func,nC x704.Inst]):=zae hx705d (f:=0) (by simp)
       have F5:=an F4 f706
       have F6:=an F5 (an hx705a hx705b)
       repeat (first|simp[F5]|with_reducible first|refine And.intro (by omega) ?_|refine zbe (by omega) ?_|refine za4 (by with_unfolding_all rfl) _ (fun hg=>by(try simp at hg);first |(simp[hg,F6];rfl) |(simp[F5];simp only[if_pos hg];simp[F5];rfl)) ?_)
       refine za7 ?_
       repeat (first|simp[F5]|with_reducible first|refine And.intro (by omega) ?_|refine zbe (by omega) ?_|refine za4 (by with_unfolding_all rfl) _ (fun hg=>by(try simp at hg);first |(simp[hg,F6];rfl) |(simp[F5];simp only[if_pos hg];simp[F5];rfl)) ?_)
       refine zaX (by rfl) ((Gh.opn _ (.o 4 4 0) 6).trans ((Gh.opn _ (.o 4 4 0) 7).trans ((Gh.opn _ (.o 4 4 0) 8).trans ((Gh.opn _ (.o 4 4 0) 9).trans (Gh.opn _ (.o 4 4 0) 10))))) ?_
       try simp only[St.frz,St.pur]
       refine goD F5 ?_
       revert e693;refine bK fun y709 hx710 e693=>?_
       refine cA F5 (zxb hx710) ?_
       refine goD F5 ?_
       revert e693;refine cS F5 ?_ ?_<;>intro h711 e693
       ·refine goD F5 ?_
        revert e693;refine bK fun y712 hx713 e693=>?_
        refine cB F5 (zbL (c0_0:=⟨AC.toF [.o 4 4 0] (sC y1.1),by simp[F5]⟩) (c0_1:=⟨AC.toF [.o 4 4 0] (nC i103),by simp[F5]⟩) (c0_2:=⟨AC.toF [.o 4 4 0] (nC ((a0.size:Nat):Int)),by simp[F5]⟩) (c0_3:=⟨AC.toF [.o 4 4 0] (bC false),by simp[F5]⟩) (c0_6:=⟨AC.toF [.o 4 4 0] (.sl (.o (σ14.gen+3) 0 6) 0 2 l624.length),by simp[F5]⟩) (c0_7:=⟨AC.toF [.o 4 4 0] (.sl (.o (σ14.gen+4) 0 7) 0 1 l625.length),by simp[F5]⟩) (c0_8:=⟨AC.toF [.o 4 4 0] (.sl (.o (σ14.gen+5) 0 8) 0 1 l626.length),by simp[F5]⟩) (c0_9:=⟨AC.toF [.o 4 4 0] (.sl (.o (σ14.gen+6) 0 9) 0 2 l627.length),by simp[F5]⟩) (c0_10:=⟨AC.toF [.o 4 4 0] (.sl (.o (σ14.gen+7) 0 10) 0 2 l628.length),by simp[F5]⟩) (c0_11:=⟨AC.toF [.o 4 4 0] (.sl (.o (σ14.gen+1) 4 11) 0 5 l629.length),by simp[F5]⟩) (c0_12:=⟨AC.toF [.o 4 4 0] (.own (.sp 1 l630.length (encL l630))),by simp[F5]⟩) (c0_13:=⟨AC.toF [.o 4 4 0] (.own (.sl 1 l631.length (otL l631))),by simp[F5]⟩) (c0_14:=⟨AC.toF [.o 4 4 0] (bC b114),by simp[F5]⟩) (c0_15:=⟨AC.toF [.o 4 4 0] (.own (.sp 1 l632.length (encL l632))),by simp[F5]⟩) hx713) [.o 4 4 0] ?_
        refine goD F5 ?_
        exact hL696 (q699,IntKind.i64.wrap (i621+1),y712.1,y712.2,l624,l625,l626,l627,l628,l629,l630,l631,l632) _ _ ((Gh.close _ (.o 4 4 0) 6).trans ((Gh.close _ (.o 4 4 0) 7).trans ((Gh.close _ (.o 4 4 0) 8).trans ((Gh.close _ (.o 4 4 0) 9).trans ((Gh.close _ (.o 4 4 0) 10).trans (Gh.close _ (.o 4 4 0) 11)))))) ⟨e693,pv F5,pv F5,pv F5,pv F5,pv F5,pv F5,pv F5,pg⟩ (by omega)
       ·refine goD F5 ?_
        revert e693;refine cS F5 ?_ ?_<;>intro h714 e693
        ·revert e693;refine bK fun x720 hx721 e693=>?_
         obtain⟨hx721a,hx721b,hx721c,hx721d⟩:=zao hx721
         revert e693;refine lK fun l722 hx723 e693=>?_
         have f724:zaC (encL l628) (((x704.Inst).toNat) * 2) [.c (.int .i64 y709)]=encL l722:=hx723 ▸ zdy hx721d (f:=0) (by simp) (by simp[zaC])
         simp only[zaC]at f724
         have f724n:l722.length=l628.length:=by rw[hx723];simp
         have f724w:∀ n:Nat,n=l722.length->(encL l722).take (n * 2)=encL l722:=fun n h=>by rw[h];exact zal _ (by simp)
         have F7:=an F5 (an f724 (an f724n f724w))
         refine goD F7 ?_
         exact hL696 (q699,IntKind.i64.wrap (i621+1),i622,i623,l624,l625,l626,l627,l722,l629,l630,l631,l632) _ _ ((Gh.close _ (.o 4 4 0) 6).trans ((Gh.close _ (.o 4 4 0) 7).trans ((Gh.close _ (.o 4 4 0) 8).trans ((Gh.close _ (.o 4 4 0) 9).trans ((Gh.close _ (.o 4 4 0) 10).trans (Gh.close _ (.o 4 4 0) 11)))))) ⟨e693,pv F7,pv F7,pv F7,pv F7,pv F7,pv F7,pv F7,pg⟩ (by omega)
        ·revert e693;refine bK fun x725 hx726 e693=>?_
         obtain⟨hx726a,hx726b,hx726c,hx726d⟩:=zao hx726
         refine goN F5 ?_
         have f727a:(zah l627)[((x704.Func).toNat) * 2+1]?=some (.own (.sp 8 x725.Code.length (encL x725.Code))):=zdQ hx726d (f:=1) (by first|rfl |(simp;done) |(simp;rfl))
         have f727l:((x704.Func).toNat) * 2+1 < (zah l627).length:=(List.getElem?_eq_some_iff.1 f727a).1
         have f727c:=fun c=>(zbw f727l c).1
         have f727d:=fun c=>(zbw f727l c).2
         refine zaX (by rfl) (Gh.opn _ (.o (σ14.gen+6) 0 9) (((x704.Func).toNat) * 2+1)) ?_
         revert e693;refine bK fun x740 hx741 e693=>?_
         obtain⟨hx741a,hx741b,hx741c,hx741d⟩:=zao hx741
         have f742:zam Tryz.prog 41 (encL x725.Code) (((x704.Inst).toNat) * 8)=some (.agg (eA x740)):=zae hx741d (f:=0) (by simp)
         have F8:=an F5 (an f727a (an f727c (an f727d f742)))
         refine goD F8 ?_
         revert e693;refine bK fun y743 hx744 e693=>?_
         refine cP F8 (zor hx744) ?_
         revert e693;refine lK fun l745 hx746 e693=>?_
         have f747:zaC (encL x725.Code) (((x704.Inst).toNat) * 8) [.c (.int .i64 y743.Op),.c (.int .i64 y743.A),.c (.int .i64 y743.B),.c (.int .i64 y743.C),.c (.int .i64 y743.Obj),.c (.int .i64 y743.N),.c (.int .i64 y743.Fn),.c (.int .i64 y743.Order)]=encL l745:=hx746 ▸ zdy hx741d (f:=0) (by simp) (by simp[zaC])
         simp only[zaC]at f747
         have f747n:l745.length=x725.Code.length:=by rw[hx746];simp
         have f747w:∀ n:Nat,n=l745.length->(encL l745).take (n * 8)=encL l745:=fun n h=>by rw[h];exact zal _ (by simp)
         revert e693;refine lK fun l749 hx750 e693=>?_
         have f748:(zah l627).set (((x704.Func).toNat) * 2+1) (.own (.sp 8 l745.length (encL l745)))=zah l749:=by rw[hx750];exact zdP hx726d (f:=1) (by simp) (by first|rfl |(simp;done) |(simp;rfl))
         have f748n:l749.length=l627.length:=by rw[hx750];simp
         have f748t:(encL l745).take (l745.length * 8)=encL l745:=zal _ (by simp)
         have f748u:l745.length=x725.Code.length->(encL l745).take (x725.Code.length * 8)=encL l745:=fun h=>by rw[<- h];exact zal _ (by simp)
         have f748v:l745.length=x725.Code.length->(zah l627).set (((x704.Func).toNat) * 2+1) (.own (.sp 8 x725.Code.length (encL l745)))=zah l749:=fun h=>by rw[<- h];exact f748
         have f748w:∀ n:Nat,n=l749.length->(encL l749).take (n * 2)=encL l749:=fun n h=>by rw[h];exact zal _ (by simp)
         have f748x:∀ n:Nat,n=l749.length->(zah l749).take (n * 2)=zah l749:=fun n h=>by rw[h];exact zca _ (by simp)
         have F9:=an F8 (an f747 (an f747n (an f747w (an f748 (an f748n (an f748t (an f748u (an f748v (an f748w f748x)))))))))
         refine goN F9 ?_
         refine zaX (by rfl) (Gh.close _ (.o (σ14.gen+6) 0 9) (((x704.Func).toNat) * 2+1)) ?_
         try simp only[St.frz,St.pur]
         refine goR F9 ?_
         exact hL696 (q699,IntKind.i64.wrap (i621+1),i622,i623,l624,l625,l626,l749,l628,l629,l630,l631,l632) _ _ ((Gh.close _ (.o 4 4 0) 6).trans ((Gh.close _ (.o 4 4 0) 7).trans ((Gh.close _ (.o 4 4 0) 8).trans ((Gh.close _ (.o 4 4 0) 9).trans ((Gh.close _ (.o 4 4 0) 10).trans (Gh.close _ (.o 4 4 0) 11)))))) ⟨e693,pv F9,pv F9,pv F9,pv F9,pv F9,pv F9,pv F9,pg⟩ (by omega)
      ·refine goG F4 F4 ?_
       obtain rfl:=sj e693
       try dsimp only at e499
       exact hK501 (i622,i623,l624,l625,l626,l627,l628,l629,l630,l631,l632) _ _ (Gh.close _ (.o 4 4 0) 11) ⟨e499,pv F4,pv F4,pv F4,pv F4,pv F4,pv F4,pg⟩
    ·obtain⟨i488,i489,l490,l491,l492,l493,l494,l495,l496,l497,l498⟩:=v
     dsimp only at hp
     obtain⟨e499,h12_2,h12_3,h12_6,g12_0,g12_1,g12_2,n12_g⟩:=hp
     obtain rfl:=sj e499
     try dsimp only at hs
     have n12_0:¬ (σ11.gen=0):=by omega
     have n12_1:¬ (σ11.gen=1):=by omega
     have n12_2:¬ (σ11.gen=2):=by omega
     have n12_3:¬ (σ11.gen=3):=by omega
     have F10:=an h12_2 (an h12_3 (an h12_6 (an g12_0 (an g12_1 (an g12_2 (an n12_0 (an n12_1 (an n12_2 n12_3))))))))
     refine goR2 F10 ?_
     revert hs;refine bK fun o804 e803 hs=>?_
     refine zaj (fun(v:Int × Int × (List Var) × (List ByteArray) × (List ByteArray) × (List Func) × (List Start) × (List RNm) × (List Int) × (List (List Int)) × (List ByteArray)) (σ:St)=>some (v)=some o804 /\ σ.env 2=.cell (.ref (.o 1 0 0) 0) /\ σ.env 3=.cell (.ref (.o 1 1 0) 0) /\ σ.env 6=.cell (.ref (.o 4 4 0) 0) /\ σ.hp (.o 1 0 0)=some (.cells [.z,.z,.z,.z,.z]) /\ σ.hp (.o 1 1 0)=some (.cells [nC 0,nC 0]) /\ σ.hp (.o 4 4 0)=some (.cells [sC y1.1,nC i103,nC ((a0.size:Nat):Int),bC false,nC v.1,nC v.2.1,.own (.sp 2 v.2.2.1.length (encL v.2.2.1)),.own (.sp 1 v.2.2.2.1.length (encL v.2.2.2.1)),.own (.sp 1 v.2.2.2.2.1.length (encL v.2.2.2.2.1)),.own (.sl 2 v.2.2.2.2.2.1.length (otL v.2.2.2.2.2.1)),.own (.sp 2 v.2.2.2.2.2.2.1.length (encL v.2.2.2.2.2.2.1)),.own (.sp 5 v.2.2.2.2.2.2.2.1.length (encL v.2.2.2.2.2.2.2.1)),.own (.sp 1 v.2.2.2.2.2.2.2.2.1.length (encL v.2.2.2.2.2.2.2.2.1)),.own (.sl 1 v.2.2.2.2.2.2.2.2.2.1.length (otL v.2.2.2.2.2.2.2.2.2.1)),bC b114,.own (.sp 1 v.2.2.2.2.2.2.2.2.2.2.length (encL v.2.2.2.2.2.2.2.2.2.2))]) /\ (σ11.gen+1)<=σ.gen) (by rfl) (fun Q hK805 hX806=>?_) (fun v σ17 hp=>?_)
     ·refine goR F10 ?_
      revert e803;refine cS F10 ?_ ?_<;>intro h807 e803
      ·refine goR F10 ?_
       revert e803;refine bK fun y808 hx809 e803=>?_
       refine cA F10 (zlM hx809) ?_
       refine goR2 F10 ?_
       revert e803;refine bK fun o825 e824 e803=>?_
       refine zaj (fun(v:Int × (List Var) × (List ByteArray) × (List ByteArray) × (List Func) × (List Start) × (List RNm) × (List Int) × (List (List Int)) × (List ByteArray)) (σ:St)=>some (v)=some o825 /\ σ.env 2=.cell (.ref (.o 1 0 0) 0) /\ σ.env 3=.cell (.ref (.o 1 1 0) 0) /\ σ.env 6=.cell (.ref (.o 4 4 0) 0) /\ σ.env 10=iV .i64 y808.1 /\ σ.env 11=iV .i64 y808.2.1 /\ σ.env 12=iV .i64 y808.2.2 /\ σ.env 13=iV .i64 v.1 /\ σ.hp (.o 1 0 0)=some (.cells [.z,.z,.z,.z,.z]) /\ σ.hp (.o 1 1 0)=some (.cells [nC 0,nC 0]) /\ σ.hp (.o 4 4 0)=some (.cells [sC y1.1,nC i103,nC ((a0.size:Nat):Int),bC false,nC i488,nC i489,.own (.sp 2 v.2.1.length (encL v.2.1)),.own (.sp 1 v.2.2.1.length (encL v.2.2.1)),.own (.sp 1 v.2.2.2.1.length (encL v.2.2.2.1)),.own (.sl 2 v.2.2.2.2.1.length (otL v.2.2.2.2.1)),.own (.sp 2 v.2.2.2.2.2.1.length (encL v.2.2.2.2.2.1)),.own (.sp 5 v.2.2.2.2.2.2.1.length (encL v.2.2.2.2.2.2.1)),.own (.sp 1 v.2.2.2.2.2.2.2.1.length (encL v.2.2.2.2.2.2.2.1)),.own (.sl 1 v.2.2.2.2.2.2.2.2.1.length (otL v.2.2.2.2.2.2.2.2.1)),bC b114,.own (.sp 1 v.2.2.2.2.2.2.2.2.2.length (encL v.2.2.2.2.2.2.2.2.2))]) /\ (σ11.gen+4)<=σ.gen) (by rfl) (fun Q hK826 hX827=>?_) (fun v σ19 hp=>?_)
       ·refine goR F10 ?_
        revert e824;refine cS F10 ?_ ?_<;>intro h828 e824
        ·revert e824;refine bK fun x829 hx830 e824=>?_
         obtain⟨hx830a,hx830b,hx830c,hx830d⟩:=zao hx830
         have f831:zam Tryz.prog 3 (encL l496) ((y808.2.1).toNat)=some (iV .i64 x829):=zaz hx830d (by simp)
         have F11:=an F10 f831
         refine goR F11 ?_
         exact hK826 (x829,l490,l491,l492,l493,l494,l495,l496,l497,l498) _ _ ((Gh.close _ (.o 4 4 0) 6).trans ((Gh.close _ (.o 4 4 0) 7).trans ((Gh.close _ (.o 4 4 0) 8).trans ((Gh.close _ (.o 4 4 0) 9).trans ((Gh.close _ (.o 4 4 0) 10).trans (Gh.close _ (.o 4 4 0) 12)))))) ⟨e824,pv F11,pv F11,pv F11,pv F11,pv F11,pv F11,pv F11,pv F11,pv F11,pv F11,pg⟩
        ·refine goR F10 ?_
         exact hK826 (0,l490,l491,l492,l493,l494,l495,l496,l497,l498) _ _ ((Gh.close _ (.o 4 4 0) 6).trans ((Gh.close _ (.o 4 4 0) 7).trans ((Gh.close _ (.o 4 4 0) 8).trans ((Gh.close _ (.o 4 4 0) 9).trans (Gh.close _ (.o 4 4 0) 10))))) ⟨e824,pv F10,pv F10,pv F10,pv F10,pv F10,pv F10,pv F10,pv F10,pv F10,pv F10,pg⟩
       ·obtain⟨i814,l815,l816,l817,l818,l819,l820,l821,l822,l823⟩:=v
        dsimp only at hp
        obtain⟨e824,h20_2,h20_3,h20_6,h20_10,h20_11,h20_12,h20_13,g20_0,g20_1,g20_2,n20_g⟩:=hp
        obtain rfl:=sj e824
        try dsimp only at e803
        have n20_0:¬ (σ19.gen=0):=by omega
        have n20_1:¬ (σ19.gen=1):=by omega
        have n20_2:¬ (σ19.gen=2):=by omega
        have n20_3:¬ (σ19.gen=3):=by omega
        have F12:=an h20_2 (an h20_3 (an h20_6 (an h20_10 (an h20_11 (an h20_12 (an h20_13 (an g20_0 (an g20_1 (an g20_2 (an n20_0 (an n20_1 (an n20_2 n20_3))))))))))))
        refine goG F12 F12 ?_
        revert e803;refine cS F12 ?_ ?_<;>intro h832 e803
        ·revert e803;refine bK fun x833 hx834 e803=>?_
         obtain⟨hx834a,hx834b,hx834c,hx834d⟩:=zao hx834
         have f835a:(zah l822)[(y808.2.1).toNat]?=some (.own (.sp 1 x833.length (encL x833))):=zdD hx834d (by first|rfl |(simp;done) |(simp;rfl))
         have f835b:((zah l822).drop ((y808.2.1).toNat)).take 1=[.own (.sp 1 x833.length (encL x833))]:=zg5 hx834d (by first|rfl |(simp;done) |(simp;rfl))
         have f835l:(y808.2.1).toNat < (zah l822).length:=(List.getElem?_eq_some_iff.1 f835a).1
         have f835c:=fun c=>(zbw f835l c).1
         have f835d:=fun c=>(zbw f835l c).2
         revert e803;refine bK fun x836 hx837 e803=>?_
         obtain⟨hx837a,hx837b,hx837c,hx837d⟩:=zao hx837
         have f838:zam Tryz.prog 3 (encL x833) ((y808.2.2).toNat)=some (iV .i64 x836):=zaz hx837d (by simp)
         revert e803;refine lK fun l840 hx841 e803=>?_
         have f839:(zah l822).set ((y808.2.1).toNat) (.own (.sp 1 x833.length (encL x833)))=zah l840:=by rw[hx841];exact zeq hx834d (by first|rfl |(simp;done) |(simp;rfl))
         have f839n:l840.length=l822.length:=by rw[hx841];simp
         have f839t:(encL x833).take (x833.length * 1)=encL x833:=zal _ (by simp)
         have f839u:x833.length=x833.length->(encL x833).take (x833.length * 1)=encL x833:=fun h=>by rw[<- h];exact zal _ (by simp)
         have f839v:x833.length=x833.length->(zah l822).set ((y808.2.1).toNat) (.own (.sp 1 x833.length (encL x833)))=zah l840:=fun h=>by rw[<- h];exact f839
         have f839w:∀ n:Nat,n=l840.length->(encL l840).take n=encL l840:=fun n h=>by rw[h];exact zbr _ (by simp)
         have f839x:∀ n:Nat,n=l840.length->(zah l840).take n=zah l840:=fun n h=>by rw[h];exact zcb _ (by simp)
         have F13:=an F12 (an f835a (an f835b (an f835c (an f835d (an f838 (an f839 (an f839n (an f839t (an f839u (an f839v (an f839w f839x)))))))))))
         have F14:=an F13 (an hx834a (an hx834b (an hx837a hx837b)))
         repeat (first|simp[F13]|with_reducible first|refine And.intro (by omega) ?_|refine zbe (by omega) ?_|refine za4 (by with_unfolding_all rfl) _ (fun hg=>by(try simp at hg);first |(simp[hg,F14];rfl) |(simp[F13];simp only[if_pos hg];simp[F13];rfl)) ?_)
         refine za7 ?_
         repeat (first|simp[F13]|with_reducible first|refine And.intro (by omega) ?_|refine zbe (by omega) ?_|refine za4 (by with_unfolding_all rfl) _ (fun hg=>by(try simp at hg);first |(simp[hg,F14];rfl) |(simp[F13];simp only[if_pos hg];simp[F13];rfl)) ?_)
         refine zaX (by rfl) (Gh.close _ (.o (σ19.gen+2) 3 13) ((y808.2.1).toNat)) ?_
         try simp only[St.frz,St.pur]
         refine goR F13 ?_
         revert e803;refine cS F13 ?_ ?_<;>intro h842 e803
         ·refine goR F13 ?_
          revert e803;refine bK fun y843 hx844 e803=>?_
          refine cB F13 (zbL (c0_0:=⟨AC.toF [.o 4 4 0] (sC y1.1),by simp[F13]⟩) (c0_1:=⟨AC.toF [.o 4 4 0] (nC i103),by simp[F13]⟩) (c0_2:=⟨AC.toF [.o 4 4 0] (nC ((a0.size:Nat):Int)),by simp[F13]⟩) (c0_3:=⟨AC.toF [.o 4 4 0] (bC false),by simp[F13]⟩) (c0_6:=⟨AC.toF [.o 4 4 0] (.own (.sp 2 l815.length (encL l815))),by simp[F13]⟩) (c0_7:=⟨AC.toF [.o 4 4 0] (.own (.sp 1 l816.length (encL l816))),by simp[F13]⟩) (c0_8:=⟨AC.toF [.o 4 4 0] (.own (.sp 1 l817.length (encL l817))),by simp[F13]⟩) (c0_9:=⟨AC.toF [.o 4 4 0] (.own (.sl 2 l818.length (otL l818))),by simp[F13]⟩) (c0_10:=⟨AC.toF [.o 4 4 0] (.own (.sp 2 l819.length (encL l819))),by simp[F13]⟩) (c0_11:=⟨AC.toF [.o 4 4 0] (.own (.sp 5 l820.length (encL l820))),by simp[F13]⟩) (c0_12:=⟨AC.toF [.o 4 4 0] (.own (.sp 1 l821.length (encL l821))),by simp[F13]⟩) (c0_13:=⟨AC.toF [.o 4 4 0] (.sl (.o (σ19.gen+2) 3 13) 0 1 l840.length),by simp[F13]⟩) (c0_14:=⟨AC.toF [.o 4 4 0] (bC b114),by simp[F13]⟩) (c0_15:=⟨AC.toF [.o 4 4 0] (.own (.sp 1 l823.length (encL l823))),by simp[F13]⟩) hx844) [.o 4 4 0] ?_
          refine goR F13 ?_
          exact hK805 (y843.1,y843.2,l815,l816,l817,l818,l819,l820,l821,l840,l823) _ _ (Gh.close _ (.o 4 4 0) 13) ⟨e803,pv F13,pv F13,pv F13,pv F13,pv F13,pv F13,pg⟩
         ·refine goR F13 ?_
          exact hK805 (i488,i489,l815,l816,l817,l818,l819,l820,l821,l840,l823) _ _ (Gh.close _ (.o 4 4 0) 13) ⟨e803,pv F13,pv F13,pv F13,pv F13,pv F13,pv F13,pg⟩
        ·refine goG F12 F12 ?_
         revert e803;refine cS F12 ?_ ?_<;>intro h845 e803
         ·refine goG F12 F12 ?_
          revert e803;refine bK fun y846 hx847 e803=>?_
          refine cB F12 (zbL (c0_0:=⟨AC.toF [.o 4 4 0] (sC y1.1),by simp[F12]⟩) (c0_1:=⟨AC.toF [.o 4 4 0] (nC i103),by simp[F12]⟩) (c0_2:=⟨AC.toF [.o 4 4 0] (nC ((a0.size:Nat):Int)),by simp[F12]⟩) (c0_3:=⟨AC.toF [.o 4 4 0] (bC false),by simp[F12]⟩) (c0_6:=⟨AC.toF [.o 4 4 0] (.own (.sp 2 l815.length (encL l815))),by simp[F12]⟩) (c0_7:=⟨AC.toF [.o 4 4 0] (.own (.sp 1 l816.length (encL l816))),by simp[F12]⟩) (c0_8:=⟨AC.toF [.o 4 4 0] (.own (.sp 1 l817.length (encL l817))),by simp[F12]⟩) (c0_9:=⟨AC.toF [.o 4 4 0] (.own (.sl 2 l818.length (otL l818))),by simp[F12]⟩) (c0_10:=⟨AC.toF [.o 4 4 0] (.own (.sp 2 l819.length (encL l819))),by simp[F12]⟩) (c0_11:=⟨AC.toF [.o 4 4 0] (.own (.sp 5 l820.length (encL l820))),by simp[F12]⟩) (c0_12:=⟨AC.toF [.o 4 4 0] (.own (.sp 1 l821.length (encL l821))),by simp[F12]⟩) (c0_13:=⟨AC.toF [.o 4 4 0] (.own (.sl 1 l822.length (otL l822))),by simp[F12]⟩) (c0_14:=⟨AC.toF [.o 4 4 0] (bC b114),by simp[F12]⟩) (c0_15:=⟨AC.toF [.o 4 4 0] (.own (.sp 1 l823.length (encL l823))),by simp[F12]⟩) hx847) [.o 4 4 0] ?_
          refine goG F12 F12 ?_
          exact hK805 (y846.1,y846.2,l815,l816,l817,l818,l819,l820,l821,l822,l823) _ _ (Gh.refl _) ⟨e803,pv F12,pv F12,pv F12,pv F12,pv F12,pv F12,pg⟩
         ·refine goG F12 F12 ?_
          exact hK805 (i488,i489,l815,l816,l817,l818,l819,l820,l821,l822,l823) _ _ (Gh.refl _) ⟨e803,pv F12,pv F12,pv F12,pv F12,pv F12,pv F12,pg⟩
      ·refine goR F10 ?_
       exact hK805 (i488,i489,l490,l491,l492,l493,l494,l495,l496,l497,l498) _ _ (Gh.refl _) ⟨e803,pv F10,pv F10,pv F10,pv F10,pv F10,pv F10,pg⟩
     ·obtain⟨i792,i793,l794,l795,l796,l797,l798,l799,l800,l801,l802⟩:=v
      dsimp only at hp
      obtain⟨e803,h18_2,h18_3,h18_6,g18_0,g18_1,g18_2,n18_g⟩:=hp
      obtain rfl:=sj e803
      try dsimp only at hs
      have n18_0:¬ (σ17.gen=0):=by omega
      have n18_1:¬ (σ17.gen=1):=by omega
      have n18_2:¬ (σ17.gen=2):=by omega
      have n18_3:¬ (σ17.gen=3):=by omega
      have F15:=an h18_2 (an h18_3 (an h18_6 (an g18_0 (an g18_1 (an g18_2 (an n18_0 (an n18_1 (an n18_2 n18_3))))))))
      refine goR F15 ?_
      revert hs;refine cS F15 ?_ ?_<;>intro h848 hs
      ·refine goD F15 ?_
       obtain rfl:=sj hs
       exact hQ _ _ (rg F15 (Gh.unz _))
      ·refine goR F15 ?_
       obtain rfl:=sj hs
       exact hQ _ _ (rg F15 ((Gh.frz _ (.o (σ17.gen+2) 3 6)).trans ((Gh.frz _ (.o (σ17.gen+2) 3 7)).trans ((Gh.frz _ (.o (σ17.gen+2) 3 8)).trans ((Gh.frz _ (.o (σ17.gen+2) 3 9)).trans (Gh.frz _ (.o (σ17.gen+2) 3 10)))))))
end Go.Dc
end
section
namespace Go.Dc.Pa
open Go Go.Hw Go.Dc Go.Dc.Pl
theorem zsZ{op:Int}(h1:1<=op)(h2:op<=22):∃ l x,zd3=some l /\ getI l (IntKind.i64.wrap (op - 1))=some x /\ (bl x).map zrt=opsOf op /\ (bl x).all zto=true /\ x.size<=8:=by
 rcases zre h1 h2 with h|h|h|h|h|h|h|h|h|h|h|h|h|h|h|h|h|h|h|h|h|h<;>subst h<;>exact⟨_,_,rfl,rfl,rfl,rfl,by decide⟩
theorem zpD{s:ByteArray}{op:Int}(h:zfX s=some op):1<=op /\ op<=22:=by
 rw[zfX]at h
 obtain⟨j,y,hy,e⟩:=first_some h
 have hj:j < 22:=zau hy
 cases hq:eqS y.name s
 ·rw[hq]at e;cases e
 ·rw[hq]at e;injection e with e;omega
section
variable {T:List Token} {sg:Bool} {E:Int} {F:Nat}
def insW (E fn at_:Int)(ns:List ANm)(ts:List Token):Fault ⊕ PS:=match nxt E 1 ts with
 |.inl f=>.inl f
 |.inr (t,r)=>match zfX t.Text with|none=>.inl ⟨8,t.At⟩|some op=>zlk E op fn at_ r ns
def insO (S:List Token)(own:Fault ⊕ PS)(o:Option (Inst × Int × Int × Int × List RNm)):Prop:=
 (∃ f,own=.inl f /\ f.Err ≠ 0 /\ ∃(i:Inst) (k':Nat) (ms:List RNm),o=some (i,(k':Int),f.Err,f.At,ms)) \/
 (∃(k':Nat) (i:Inst) (ns:List ANm) (ms:List RNm),own=.inr (i,S.drop k',ns) /\ o=some (i,(k':Int),0,0,ms) /\ F2 NR ns ms)
theorem zs3(hF:F=67108864)(hT:T.length<=1048576){k:Nat}{ns:List ANm}{ms:List RNm}(hn:ns.length+16<=16777216)(hr:F2 NR ns ms)(a1 a2:Int) :
  insO (seen sg T) (insW E a1 a2 ns ((seen sg T).drop k)) (zcM F T (k:Int) E sg 0 0 ms a1 a2):=by
 rw[insW,zcM]
 rcases zdJ (T:=T) (sg:=sg) (E:=E) (kind:=1) (.inl rfl) (k:=k) hT with⟨f,h1,h2,h3⟩ |⟨t,h1,h3⟩
 ·rw[h1,h3];exact .inl ⟨f,rfl,h2,_,k,_,rfl⟩
 ·rw[h1,h3,Option.bind_some,Bool.not_true,cond_false,zo1,Option.bind_some]
  dsimp only
  cases hm:zfX t.Text with
  |none=>exact .inl ⟨_,rfl,by dsimp only;decide,_,k+1,_,rfl⟩
  |some op=>
   obtain⟨o1,o2⟩:=zpD hm
   obtain⟨l,x,x1,x2,x3,x4,x5⟩:=zsZ o1 o2
   dsimp only
   rw[Bool.not_true,cond_false,x1,Option.bind_some,x2,Option.bind_some,za3 _ (by rw[zdt,decide_eq_true_eq];omega),zlk,<- x3]
   have h:=zkF (a1:=a1) (a2:=a2) (sg:=sg) (E:=E) hF hT x4 x.size 0 (k+1) ⟨op,0,0,0,0,0,0,0⟩ ns ms (by omega) (by omega) hr rfl
   rw[List.drop_zero]at h
   dsimp only at h
   rcases h with⟨f,g1,g2,k',ns',A,B,C,N,Fn,O,g3⟩ |⟨k',i,ns',ms',g1,g2,g3,g4,g5⟩
   ·rw[g1,g3];exact .inl ⟨f,rfl,g2,_,k',_,rfl⟩
   ·rw[g1,g2]
    refine .inr ⟨k',i,ns',ms',rfl,?_,g3⟩
    obtain⟨Op,A,B,C,Obj,N,Fn,O⟩:=i
    dsimp only at g4 g5
    subst g4 g5;rfl
theorem zpW{k:Nat}{e a:Int}(he:e ≠ 0):zcN T (k:Int) sg e a=some (e,a):=by
 rw[zcN,zaL,decide_eq_false he];rfl
theorem zrG{k:Nat}:(∃ f,zce ((seen sg T).drop k)=.inl f /\ f.Err ≠ 0 /\ zcN T (k:Int) sg 0 0=some (f.Err,f.At)) \/ (∃ r,zce ((seen sg T).drop k)=.inr r /\ zcN T (k:Int) sg 0 0=some (0,0)):=by
 rw[zcN]
 cases hd:(seen sg T).drop k with
 |nil=>rw[zm9 hd];exact .inr ⟨[],rfl,rfl⟩
 |cons t r=>
  obtain⟨u,h1,h2,h3,h4⟩:=zns hd
  rw[zh3 hd,zce]
  by_cases h:t.Kind=4
  ·rw[if_pos h,decide_eq_true h];exact .inr ⟨r,rfl,rfl⟩
  ·rw[if_neg h,decide_eq_false h,h1,h3];exact .inl ⟨_,rfl,by dsimp only;decide,rfl⟩
end
theorem zjE(T:List Token):seen false T=T:=rfl
def finL (T:List Token)(k:Nat)(b:Bool)(y:APr):Fault ⊕ (Bool × APr):=match zce (T.drop k) with|.inl e=>.inl e|.inr r=>.inr (b,{ y with tokens:=r })
theorem end_none:zfX kEnd=none:=by
 have h:(zfX kEnd).isNone=true:=by kernel_rfl
 exact Option.isNone_iff_eq_none.1 h
theorem zqV{F:Nat}(hF:F=67108864){T:List Token}(hT:T.length<=1048576){x:APr}{k:Nat}{t:Token}{r:List Token}{ms:List RNm}(hx:Inv true x)(ht:T.drop k=t::r)(h4:t.Kind ≠ 4)(hr:F2 NR x.names ms) :
  (∃ f,zhi x t r=.inl f /\ f.Err ≠ 0 /\ ∃(k':Nat) (fs:List Func) (ns:List RNm) (is_:List (List Int)) (b:Bool),zjG F T (k:Int) x.end_ false 0 0 x.p.Funcs ms x.insts true=some ((k':Int),f.Err,f.At,fs,ns,is_,b)) \/
  (∃(k':Nat) (y:APr) (ms':List RNm) (b:Bool),zhi x t r=finL T k' b y /\ zjG F T (k:Int) x.end_ false 0 0 x.p.Funcs ms x.insts true=some ((k':Int),0,0,y.p.Funcs,ms',y.insts,b) /\ F2 NR y.names ms' /\
   y.p.Vars=x.p.Vars /\ y.p.Mutexes=x.p.Mutexes /\ y.p.Conds=x.p.Conds /\ y.p.Threads=x.p.Threads /\ y.funcs=x.funcs):=by
 obtain⟨e1,e2,e3⟩:=drop_cons ht
 have hlen:x.names.length<=1048576:=Nat.le_trans (Nat.le_add_right _ _) hx.names
 have hf:=hx.inside rfl
 have hfs:=hx.funs
 have hfs:x.p.Funcs.length<=1048576:=Nat.le_trans (Nat.le_add_right _ _) hx.funs
 have hk1:x.p.Funcs.length - 1 < x.p.Funcs.length:=by omega
 have hk2:x.p.Funcs.length - 1 < x.insts.length:=by rw[hx.insts];omega
 have hc:(gd x.p.Funcs (x.p.Funcs.length - 1)).Code.length<=1048576:=Nat.le_trans (Nat.le_add_right _ _) (hx.codes _ (znu hk1))
 have hi:=hx.inst _ hk1
 have hw:IntKind.i64.wrap (((x.p.Funcs.length:Nat):Int) - 1)=((x.p.Funcs.length - 1:Nat):Int):=by
  rw[wrap_i64 (by omega) (by omega)];omega
 rw[zhi,zjG,zbp,e1,Option.bind_some,hw,zbp,zdp hk1,Option.bind_some,Option.bind_some,Int.toNat_natCast,zmZ,zbp,zdp hk1]
 have hins:=zs3 (T:=T) (sg:=false) (E:=x.end_) hF hT (k:=k) (ns:=x.names) (ms:=ms) (by omega) hr ((x.p.Funcs.length - 1:Nat):Int) (((gd x.p.Funcs (x.p.Funcs.length - 1)).Code.length:Nat):Int)
 rw[zjE,ht,insW,nxt,if_neg h4]at hins
 by_cases hk:t.Kind=1
 ·rw[if_pos hk]at hins ⊢
  dsimp only at hins
  rw[show eqI t.Kind 1=true by rw[zaL];exact decide_eq_true hk,show(⟨#[101,110,100]⟩:ByteArray)=kEnd from rfl,zaV,Bool.true_and]
  cases he:eqS t.Text kEnd
  ·rw[cond_false]
   cases hm:zfX t.Text with
   |none=>
    rw[hm]at hins
    dsimp only at hins ⊢
    rw[if_neg (by simp)]
    rcases hins with⟨f,g1,g2,i,k',ms',g3⟩ |⟨k',i,ns,ms',g1,g2,g3⟩
    ·injection g1 with g1
     subst g1
     rw[g3,Option.bind_some,Option.bind_some,Option.bind_some,List.length_singleton,zaK (by omega) (by omega),zad,Option.bind_some,Option.bind_some,zbp,zdp hk2,Option.bind_some,Option.bind_some,List.length_singleton,zaK (by omega) (by omega),zad]
     exact .inl ⟨_,rfl,g2,k',_,_,_,_,rfl⟩
    ·cases g1
   |some op=>
    rw[hm]at hins
    dsimp only at hins ⊢
    rcases hins with⟨f,g1,g2,i,k',ms',g3⟩ |⟨k',i,ns,ms',g1,g2,g3⟩
    ·rw[g1,g3,Option.bind_some,Option.bind_some,Option.bind_some,List.length_singleton,zaK (by omega) (by omega),zad,Option.bind_some,Option.bind_some,zbp,zdp hk2,Option.bind_some,Option.bind_some,List.length_singleton,zaK (by omega) (by omega),zad]
     exact .inl ⟨_,rfl,g2,k',_,_,_,_,rfl⟩
    ·rw[g1,g2,Option.bind_some,Option.bind_some,Option.bind_some,List.length_singleton,zaK (by omega) (by omega),zad,Option.bind_some,Option.bind_some,zbp,zdp hk2,Option.bind_some,Option.bind_some,List.length_singleton,zaK (by omega) (by omega),zad]
     refine .inr ⟨k',{ x with p:={ x.p with Funcs:=x.p.Funcs.set (x.p.Funcs.length - 1) { gd x.p.Funcs (x.p.Funcs.length - 1) with Code:=(gd x.p.Funcs (x.p.Funcs.length - 1)).Code++[i] } },names:=ns,insts:=x.insts.set (x.p.Funcs.length - 1) (gd x.insts (x.p.Funcs.length - 1)++[t.At]) },ms',true,?_,?_,g3,rfl,rfl,rfl,rfl,rfl⟩
     ·dsimp only;rw[finL]<;>rfl
     ·rfl
  ·have hm:zfX t.Text=none:=by rw[zhf.1 he];exact end_none
   rw[hm,cond_true,wrapN (by omega) (by omega)]
   dsimp only
   rw[if_pos rfl]
   refine .inr ⟨k+1,x,ms,false,?_,rfl,hr,rfl,rfl,rfl,rfl,rfl⟩
   rw[finL,e3]<;>rfl
 ·rw[if_neg hk]at hins ⊢
  rw[show eqI t.Kind 1=false by rw[zaL];exact decide_eq_false hk,zaV,Bool.false_and,cond_false]
  rcases hins with⟨f,g1,g2,i,k',ms',g3⟩ |⟨k',i,ns,ms',g1,g2,g3⟩
  ·injection g1 with g1
   subst g1
   rw[g3,Option.bind_some,Option.bind_some,Option.bind_some,List.length_singleton,zaK (by omega) (by omega),zad,Option.bind_some,Option.bind_some,zbp,zdp hk2,Option.bind_some,Option.bind_some,List.length_singleton,zaK (by omega) (by omega),zad]
   exact .inl ⟨_,rfl,g2,k',_,_,_,_,rfl⟩
  ·cases g1
end Go.Dc.Pa
end
section
namespace Go.Dc.Pa
open Go Go.Hw Go.Dc Go.Dc.Pl
theorem zqT{T:List Token}(hT:T.length<=1048576){x:APr}{k:Nat}{t:Token}{r:List Token}{ms:List RNm}(hx:Inv false x)(ht:T.drop k=t::r)(h4:t.Kind ≠ 4)(hr:F2 NR x.names ms) :
  (∃ f,zhT x t r=.inl f /\ f.Err ≠ 0 /\ ∃(k':Nat) (vs:List Var) (mu cs:List ByteArray) (fs:List Func) (th:List Start) (ns:List RNm) (fu:List Int) (is_:List (List Int)) (b:Bool),zcm T (k:Int) x.end_ false 0 0 x.p.Vars x.p.Mutexes x.p.Conds x.p.Funcs x.p.Threads ms x.funcs x.insts false=some ((k':Int),f.Err,f.At,vs,mu,cs,fs,th,ns,fu,is_,b)) \/
  (∃(k':Nat) (y:APr) (ms':List RNm) (b:Bool),zhT x t r=finL T k' b y /\ zcm T (k:Int) x.end_ false 0 0 x.p.Vars x.p.Mutexes x.p.Conds x.p.Funcs x.p.Threads ms x.funcs x.insts false=some ((k':Int),0,0,y.p.Vars,y.p.Mutexes,y.p.Conds,y.p.Funcs,y.p.Threads,ms',y.funcs,y.insts,b) /\ F2 NR y.names ms'):=by
 obtain⟨e1,e2,e3⟩:=drop_cons ht
 have b1:x.p.Vars.length<=1048576:=Nat.le_trans (Nat.le_add_right _ _) hx.vars
 have b2:x.p.Mutexes.length<=1048576:=Nat.le_trans (Nat.le_add_right _ _) hx.mutexes
 have b3:x.p.Conds.length<=1048576:=Nat.le_trans (Nat.le_add_right _ _) hx.conds
 have b4:x.p.Funcs.length<=1048576:=Nat.le_trans (Nat.le_add_right _ _) hx.funs
 have b5:x.p.Threads.length<=1048576:=Nat.le_trans (Nat.le_add_right _ _) hx.threads
 have b6:x.names.length<=1048576:=Nat.le_trans (Nat.le_add_right _ _) hx.names
 have b7:=hx.funcs
 have b8:=hx.insts
 rw[zhT,zcm,zbp,e1,Option.bind_some]
 simp only[show(⟨#[118,97,114]⟩:ByteArray)=kVar from rfl,show(⟨#[109,117,116,101,120]⟩:ByteArray)=zb0 from rfl,show(⟨#[99,111,110,100]⟩:ByteArray)=zdo from rfl,show(⟨#[102,117,110,99]⟩:ByteArray)=ze6 from rfl,show(⟨#[116,104,114,101,97,100]⟩:ByteArray)=zbu from rfl]
 rw[wrapN (n:=(k:Int)+1) (by omega) (by omega),show(k:Int)+1=((k+1:Nat):Int) from rfl]
 have tk:=zdJ (T:=T) (sg:=false) (E:=x.end_) (kind:=1) (.inl rfl) (k:=k+1) hT
 rw[zjE,e3]at tk
 by_cases hk:t.Kind=1
 ·have hk':¬ (t.Kind ≠ 1):=fun h=>h hk
  rw[if_neg hk',show eqI t.Kind 1=true by rw[zaL];exact decide_eq_true hk,Bool.not_true,cond_false]
  cases hv:eqS t.Text kVar
  ·rw[cond_false,if_neg (by simp)]
   cases hm:eqS t.Text zb0
   ·rw[cond_false,if_neg (by simp)]
    cases hc:eqS t.Text zdo
    ·rw[cond_false,if_neg (by simp)]
     cases hf:eqS t.Text ze6
     ·rw[cond_false,if_neg (by simp)]
      cases hh:eqS t.Text zbu
      ·rw[cond_false,if_neg (by simp)]
       exact .inl ⟨_,rfl,by dsimp only;decide,k+1,_,_,_,_,_,_,_,_,_,rfl⟩
      ·rw[cond_true,if_pos rfl,objM]
       have nm:=zle (T:=T) (sg:=false) (E:=x.end_) (k:=k+1) hT (ns:=ms) (by rw[<- hr.len];omega) (c:=102) (fn:=-1) (at_:=((x.p.Threads.length:Nat):Int))
       rw[zjE,e3]at nm
       rcases nm with⟨f,g1,g2,g3⟩ |⟨n,g1,g3⟩
       ·rw[g1,g3,Option.bind_some]
        dsimp only
        rw[zmp g2,Option.bind_some,Option.bind_some,List.length_singleton,zaK (by omega) (by omega),zad]
        exact .inl ⟨f,rfl,g2,k+1,_,_,_,_,_,_,_,_,_,rfl⟩
       ·rw[g1,g3,Option.bind_some]
        dsimp only
        have nu:=zkd (T:=T) (sg:=false) (E:=x.end_) (k:=k+1+1) hT
        rw[zjE]at nu
        rcases nu with⟨f,g4,g5,g6⟩ |⟨v,g4,g6⟩
        ·rw[g4,g6,Option.bind_some,Option.bind_some,List.length_singleton,zaK (by omega) (by omega),zad]
         exact .inl ⟨f,rfl,g5,k+1+1,_,_,_,_,_,_,_,_,_,rfl⟩
        ·rw[g4,g6,Option.bind_some,Option.bind_some,List.length_singleton,zaK (by omega) (by omega),zad]
         refine .inr ⟨k+1+1+1,{ x with p:={ x.p with Threads:=x.p.Threads++[⟨0,v.N⟩] },names:=x.names++[⟨n,zbu,((x.p.Threads.length:Nat):Int),0⟩] },_,false,?_,rfl,hr.app ⟨rfl,rfl,.inr ⟨rfl,rfl,rfl,rfl⟩⟩⟩
         rw[finL]<;>rfl
     ·rw[cond_true,if_pos rfl]
      rcases tk with⟨f,g1,g2,g3⟩ |⟨n,g1,g3⟩
      ·rw[g1,g3,Option.bind_some,Option.bind_some,List.length_singleton,zaK (by omega) (by omega),zad,Option.bind_some,Option.bind_some,List.length_singleton,zaK (by omega) (by omega),zad,Option.bind_some,Option.bind_some,Option.bind_some,List.length_singleton,zaK (by omega) (by omega),zad]
       exact .inl ⟨f,rfl,g2,k+1,_,_,_,_,_,_,_,_,_,rfl⟩
      ·rw[g1,g3,Option.bind_some,Option.bind_some,List.length_singleton,zaK (by omega) (by omega),zad,Option.bind_some,Option.bind_some,List.length_singleton,zaK (by omega) (by omega),zad,Option.bind_some,Option.bind_some,Option.bind_some,List.length_singleton,zaK (by omega) (by omega),zad]
       refine .inr ⟨k+1+1,{ x with p:={ x.p with Funcs:=x.p.Funcs++[⟨n.Text,[]⟩] },funcs:=x.funcs++[t.At],insts:=x.insts++[[]] },ms,true,?_,rfl,hr⟩
       rw[finL]<;>rfl
    ·rw[cond_true,if_pos rfl]
     rcases tk with⟨f,g1,g2,g3⟩ |⟨n,g1,g3⟩
     ·rw[g1,g3,Option.bind_some,Option.bind_some,List.length_singleton,zaK (by omega) (by omega),zad]
      exact .inl ⟨f,rfl,g2,k+1,_,_,_,_,_,_,_,_,_,rfl⟩
     ·rw[g1,g3,Option.bind_some,Option.bind_some,List.length_singleton,zaK (by omega) (by omega),zad]
      refine .inr ⟨k+1+1,{ x with p:={ x.p with Conds:=x.p.Conds++[n.Text] } },ms,false,?_,rfl,hr⟩
      rw[finL]<;>rfl
   ·rw[cond_true,if_pos rfl]
    rcases tk with⟨f,g1,g2,g3⟩ |⟨n,g1,g3⟩
    ·rw[g1,g3,Option.bind_some,Option.bind_some,List.length_singleton,zaK (by omega) (by omega),zad]
     exact .inl ⟨f,rfl,g2,k+1,_,_,_,_,_,_,_,_,_,rfl⟩
    ·rw[g1,g3,Option.bind_some,Option.bind_some,List.length_singleton,zaK (by omega) (by omega),zad]
     refine .inr ⟨k+1+1,{ x with p:={ x.p with Mutexes:=x.p.Mutexes++[n.Text] } },ms,false,?_,rfl,hr⟩
     rw[finL]<;>rfl
  ·rw[cond_true,if_pos rfl]
   rcases tk with⟨f,g1,g2,g3⟩ |⟨n,g1,g3⟩
   ·rw[g1,g3,Option.bind_some]
    dsimp only
    rw[zmp g2,Option.bind_some,Option.bind_some,List.length_singleton,zaK (by omega) (by omega),zad]
    exact .inl ⟨f,rfl,g2,k+1,_,_,_,_,_,_,_,_,_,rfl⟩
   ·rw[g1,g3,Option.bind_some]
    dsimp only
    have nu:=zkd (T:=T) (sg:=false) (E:=x.end_) (k:=k+1+1) hT
    rw[zjE]at nu
    rcases nu with⟨f,g4,g5,g6⟩ |⟨v,g4,g6⟩
    ·rw[g4,g6,Option.bind_some,Option.bind_some,List.length_singleton,zaK (by omega) (by omega),zad]
     exact .inl ⟨f,rfl,g5,k+1+1,_,_,_,_,_,_,_,_,_,rfl⟩
    ·rw[g4,g6,Option.bind_some,Option.bind_some,List.length_singleton,zaK (by omega) (by omega),zad]
     refine .inr ⟨k+1+1+1,{ x with p:={ x.p with Vars:=x.p.Vars++[⟨n.Text,v.N⟩] } },ms,false,?_,rfl,hr⟩
     rw[finL]<;>rfl
 ·rw[if_pos hk,show eqI t.Kind 1=false by rw[zaL];exact decide_eq_false hk,Bool.not_false,cond_true]
  exact .inl ⟨_,rfl,by dsimp only;decide,k,_,_,_,_,_,_,_,_,_,rfl⟩
end Go.Dc.Pa
end
section
namespace Go.Dc.Pl
open Go Go.Hw Go.Dc
theorem zaL(a b:Int):eqI a b=decide (a=b):=by simp[eqI,Bool.beq_eq_decide_eq]
theorem za2(a b:Int):ltI a b=decide (a < b):=rfl
theorem zaV(a b:Bool):andB a b=(a && b):=rfl
theorem zbY(a b:Bool):orB a b=(a || b):=rfl
theorem zrJ(a b:ByteArray):eqS a b=eqS b a:=by simp[eqS,Bool.beq_comm]
theorem zev(i:Int)(n:Nat):inB i n=decide (0<=i /\ i < n):=rfl
theorem zdt(n:Nat):lenB n=decide (n<=1099511627776):=rfl
theorem znq{α:Type}(c:Bool)(k:Option α):zai c k=if c=true then k else none:=by cases c<;>rfl
def small(p:Program):Bool:=decide (p.Vars.length<=20 /\ p.Mutexes.length<=20 /\ p.Conds.length<=20 /\ p.Funcs.length<=20 /\ p.Threads.length<=20) && !p.Funcs.any fun f=>decide (100 < f.Code.length)
def badC (k:Nat)(c:UInt8):Bool:=andB (!(orB (andB (!(ltI (c.toNat:Int) 97)) (!(ltI 122 (c.toNat:Int)))) (andB (!(ltI (c.toNat:Int) 65)) (!(ltI 90 (c.toNat:Int)))))) (orB (eqI ((k:Nat):Int) 0) (andB (!(eqI (c.toNat:Int) 95)) (orB (ltI (c.toNat:Int) 48) (ltI 57 (c.toNat:Int)))))
def ziC(s:ByteArray):Bool:=decide (1<=s.size /\ s.size<=16) && !(((List.replicate s.size ()).zipIdx 0).any fun x=>badC x.2 (bget s x.2))
theorem zfo{s:ByteArray}{k:Nat}(h:k < s.size):s[k]?=some (bget s k):=by
 simp[bget,h]
theorem zqS(s:ByteArray):zcP s=some (ziC s):=by
 simp only[zcP,ziC,zbY,za2,cond_eq_ite]
 by_cases e:1<=s.size /\ s.size<=16
 ·rw[if_neg (by simp;omega),show lenB s.size=true by rw[zdt];simp;omega]
  have h:=zqK (L:=zbi s) (fun k=>zaw (badC k (bget s k)) false) (fun _=>rfl) s.size 0 fun q j hj=>by
   rw[Nat.zero_add,zbi,zfo hj,Option.bind_some]
   exact zaO _ _ _
  rw[zad,h,zey (fun k (_:Unit)=>badC k (bget s k))]
  cases((List.replicate s.size ()).zipIdx 0).any fun x=>badC x.2 (bget s x.2)<;>simp[e]
 ·rw[if_pos (by simp;omega)];simp[e]
theorem zmT{α:Type}{p q:α->Bool}:∀ {l:List α},(∀ x ∈ l,p x=q x)->l.any p=l.any q
 |[],_=>rfl
 |x::l,h=>by rw[List.any_cons,List.any_cons,h x (by simp),zmT fun y hy=>h y (by simp[hy])]
def badP (c:UInt8):Bool:=andB (andB (!(orB (andB (!(ltI (c.toNat:Int) 97)) (!(ltI 122 (c.toNat:Int)))) (andB (!(ltI (c.toNat:Int) 65)) (!(ltI 90 (c.toNat:Int)))))) (!(eqI (c.toNat:Int) 95))) (orB (ltI (c.toNat:Int) 48) (ltI 57 (c.toNat:Int)))
def letr (c:UInt8):Bool:=orB (andB (!(ltI (c.toNat:Int) 97)) (!(ltI 122 (c.toNat:Int)))) (andB (!(ltI (c.toNat:Int) 65)) (!(ltI 90 (c.toNat:Int))))
theorem zq4(s:ByteArray):zcD s=some (ziC s):=by
 simp only[zcD,ziC]
 rw[show zdv (bget s 0)=some (letr (bget s 0)) from rfl]
 by_cases e:1<=s.size /\ s.size<=16
 ·have h:=zqK (L:=zba s) (fun k=>zaw (badP (bget s k)) false) (fun _=>rfl) s.size 0 fun q j hj=>by
   rw[Nat.zero_add,zba,zfo hj,Option.bind_some,zdv,Option.bind_some]
   exact zaO _ _ _
  rw[zey (fun k (_:Unit)=>badP (bget s k))]at h
  rw[show(orB (ltI ((s.size:Nat):Int) 1) (ltI 16 ((s.size:Nat):Int)))=false by simp[zbY,za2];omega]
  rw[show inB ((0:Nat):Int) s.size=true by simp[zev];omega,show lenB s.size=true by rw[zdt];simp;omega,h]
  have hl:badC 0 (bget s 0)=!letr (bget s 0):=by simp[badC,letr,zbY,zaV,zaL]
  have hk:∀ k,k ≠ 0->badC k (bget s k)=badP (bget s k):=fun k hk=>by
   simp only[badC,badP,zbY,zaV,zaL,Bool.and_assoc]
   simp[hk]
  obtain⟨n,hn⟩:∃ n,s.size=n+1:=⟨s.size - 1,by omega⟩
  rw[hn,List.replicate_succ,List.zipIdx_cons,List.any_cons,List.any_cons]
  have hr:(((List.replicate n ()).zipIdx (0+1)).any fun x=>badC x.2 (bget s x.2))=(((List.replicate n ()).zipIdx (0+1)).any fun x=>badP (bget s x.2)):=by
   refine zmT fun x hx=>?_
   have:=List.mem_zipIdx hx
   exact hk _ (by omega)
  rw[hr]
  simp only[hl]
  cases hlt:letr (bget s 0)
  ·simp[orB]
  ·have:badP (bget s 0)=false:=by simp only[letr]at hlt;simp only[badP,zaV]at hlt ⊢;rw[hlt];rfl
   rw[this]
   cases((List.replicate n ()).zipIdx (0+1)).any fun x=>badP (bget s x.2)<;>simp[orB]<;>omega
 ·rw[show(orB (ltI ((s.size:Nat):Int) 1) (ltI 16 ((s.size:Nat):Int)))=true by simp[zbY,za2];omega]
  simp[orB,e]
theorem zry(l:List ByteArray)(s:ByteArray):sIs l s=some (((first (fun k x=>zaw (eqS s x) (k:Int)) l 0).getD (-1))):=by
 have h:=srch (L:=zge s) (fun k x=>zaw (eqS s x) (k:Int)) (fun _=>rfl) l 0 fun j x hx q=>by rw[zge];exact zaO _ _ _
 rw[sIs,h]
 cases first (fun k x=>zaw (eqS s x) (k:Int)) l 0<;>rfl
theorem zhB{α:Type}(p:α->Bool):∀(l:List α) (k:Nat) (r:Int),first (fun k x=>zaw (p x) (k:Int)) l k=some r->0<=r
 |[],_,_,h=>by cases h
 |x::q,k,r,h=>by
  rw[zaM]at h
  cases hp:p x
  ·simp[hp]at h;exact zhB p q _ r h
  ·simp[hp]at h;omega
theorem zmL(l:List ByteArray)(s:ByteArray):sCs l s=some (l.any (eqS s)):=by
 rw[sCs,zry,<- zhC (eqS s) (fun k _=>(k:Int)) l 0,Option.bind_some]
 have:=zhB (eqS s) l 0
 cases h:first (fun k x=>zaw (eqS s x) (k:Int)) l 0 with
 |none=>rfl
 |some r=>have:=this r h;simp[za2];omega
def nmF (l:List ByteArray)(k:Nat)(x:ByteArray):Option (Int × Int):=if ziC x=false then some (6,(k:Int)) else zaw ((l.take k).any (eqS x)) (7,(k:Int))
def zcg(l:List ByteArray):Option (Int × Int):=first (nmF l) l 0
theorem zpl(l:List ByteArray):zfi l=some ((zcg l).getD (0,-1)):=by
 have h:=srch (L:=zco l) (nmF l) (fun _=>rfl) l 0 fun j x hx q=>by
  have hj:=zau hx
  rw[Nat.zero_add,zco,zq4,Option.bind_some,nmF]
  cases ziC x
  ·rfl
  ·rw[show slB 0 ((j:Nat):Int) l.length=true by simp[slB];omega,zad,Option.bind_some,zmL,Option.bind_some,show subL l 0 (j:Int)=l.take j by simp[subL],if_neg (by simp),Bool.not_true,cond_false]
   exact zaO _ _ _
 rw[zfi,h]
 show _=some ((first (nmF l) l 0).getD _)
 cases first (nmF l) l 0<;>rfl
theorem zgi{l:List ByteArray}{fuel:Nat}(hl:l.length < fuel)(hl2:l.length<=1099511627776):zdh fuel l=some (match zcg l with|some r=>(r.2,r.1)|none=>(0,0)):=by
 have h:=zhM (L:=zbP fuel l) l (fun k x=>(nmF l k x).map fun r=>(r.2,r.1)) (fun q=>by rw[zbP];simp[za2]) (fun q k x hx=>by
  have hk:=zau hx
  have h2:=zhM (L:=zbO l (k:Int) x) (l.take k) (fun _ y=>zaw (eqS y x) ((k:Int),(7:Int))) (fun q=>by
   rw[zbO,List.length_take,Nat.min_eq_left (by omega)];simp[za2]) (fun q j y hy=>by
   have hj:=zau hy
   rw[List.length_take,Nat.min_eq_left (by omega)]at hj
   rw[List.getElem?_take_of_lt hj]at hy
   rw[zbO,za2,show decide ((j:Int) < k)=true by simp;omega,cond_true,zbp,hy,Option.bind_some,zqD (by omega)]
   exact zaO _ _ _) fuel 0 (by omega) (by rw[List.length_take];omega)
  rw[List.drop_zero,zeN]at h2
  rw[zbP,za2,show decide ((k:Int) < (l.length:Nat))=true by simp;omega,cond_true,zbp,hx,Option.bind_some,zqS,Option.bind_some,zqD (by omega),nmF]
  rw[Int.natCast_zero]at h2
  rw[h2,show((l.take k).any fun y=>eqS y x)=(l.take k).any (eqS x) from zmT fun y _=>zrJ _ _]
  cases ziC x
  ·rfl
  ·cases(l.take k).any (eqS x)<;>rfl) fuel 0 (by omega) (by omega)
 rw[List.drop_zero,zct (h:=nmF l) (g:=fun r=>(r.2,r.1)) l 0 (fun _ _=>rfl),Int.natCast_zero]at h
 rw[zdh,h,zcg]
 cases first (nmF l) l 0<;>rfl
def hasB (op:Int)(c:UInt8):Bool:=(zax op c).getD false
theorem zre{op:Int}(h1:1<=op)(h2:op<=22):op ∈ (List.range 22).map fun n=>((n+1:Nat):Int):=by
 simp only[List.mem_map,List.mem_range];exact⟨(op - 1).toNat,by omega,by omega⟩
def rowB (op:Int):Bool:=match getI zbs (IntKind.i64.wrap (op - 1)) with
 |none=>false
 |some r=>decide (zax op 65=some (r.uses.f 0)) && decide (zax op 66=some (r.uses.f 1)) && decide (zax op 67=some (r.uses.f 2)) && decide (zax op 79=some (r.uses.f 3)) && decide (zax op 78=some (r.uses.f 4)) && decide (zax op 70=some (r.uses.f 5)) && decide (zax op 82=some (r.uses.f 6))
theorem zAv:(((List.range 22).map fun n=>((n+1:Nat):Int)).all rowB)=true:=by kernel_rfl
theorem zvL{op:Int}(h1:1<=op)(h2:op<=22):∃ r:InstRow,getI zbs (IntKind.i64.wrap (op - 1))=some r /\ zax op 65=some (r.uses.f 0) /\ zax op 66=some (r.uses.f 1) /\ zax op 67=some (r.uses.f 2) /\
  zax op 79=some (r.uses.f 3) /\ zax op 78=some (r.uses.f 4) /\ zax op 70=some (r.uses.f 5) /\ zax op 82=some (r.uses.f 6):=by
 have h:=List.all_eq_true.1 zAv op (zre h1 h2)
 rw[rowB]at h
 split at h
 ·cases h
 ·rename_i r hr;simp only[Bool.and_eq_true,decide_eq_true_eq]at h;obtain⟨⟨⟨⟨⟨⟨a,b⟩,c⟩,d⟩,e⟩,f⟩,g⟩:=h;exact⟨r,hr,a,b,c,d,e,f,g⟩
def ziE(n:Int):Bool:=orB (ltI n 1) (ltI 10 n)
theorem zAM{op:Int}(h1:1<=op)(h2:op<=10):op ∈ (List.range 10).map fun n=>((n+1:Nat):Int):=by
 simp only[List.mem_map,List.mem_range];exact⟨(op - 1).toNat,by omega,by omega⟩
theorem zn9:(((List.range 10).map fun n=>((n+1:Nat):Int)).all fun n=>match zcj n,zcQ n with|some a,some b=>a.size != 0 && b.size != 0|_,_=>false)=true:=by kernel_rfl
theorem zrI(a b:ByteArray):eqS a b=(a.data.toList == b.data.toList):=by unfold eqS;rw[ByteArray.toList_eq,ByteArray.toList_eq]
theorem zsL(s:ByteArray):s.size=s.data.toList.length:=by rw[Array.length_toList];rfl
theorem zlp(a:ByteArray):eqS a ⟨#[]⟩=decide (a.size=0):=by
 rw[zrI,zsL]
 cases h:a.data.toList with
 |nil=>rfl
 |cons x l=>rfl
theorem zgD(a:ByteArray):eqS a a=true:=by simp[eqS]
theorem zri(n:Int):∃ a b,zcj n=some a /\ zcQ n=some b /\ eqS a ⟨#[]⟩=ziE n /\ eqS b ⟨#[]⟩=ziE n:=by
 by_cases h:1<=n /\ n<=10
 ·have h2:=List.all_eq_true.1 zn9 n (zAM h.1 h.2)
  have h3:ziE n=false:=by simp[ziE,zbY,za2];omega
  split at h2
  ·rename_i a b ha hb
   simp at h2
   exact⟨a,b,ha,hb,by rw[zlp,h3];simpa using h2.1,by rw[zlp,h3];simpa using h2.2⟩
  ·cases h2
 ·have h3:ziE n=true:=by simp[ziE,zbY,za2];omega
  refine⟨⟨#[]⟩,⟨#[]⟩,?_,?_,by rw[h3,zgD],by rw[h3,zgD]⟩
  ·rw[zcj,show orB (ltI n 1) (ltI 10 n)=true from h3];rfl
  ·simp only[zcQ,zaL]
   have h4:n < 1 \/ 10 < n:=by omega
   simp[show n ≠ 1 by omega,show n ≠ 2 by omega,show n ≠ 3 by omega,show n ≠ 4 by omega,show n ≠ 5 by omega,show n ≠ 6 by omega,show n ≠ 7 by omega,show n ≠ 8 by omega,show n ≠ 9 by omega,show n ≠ 10 by omega]
theorem zmC(r:InstRow)(y:Arr 7 Int)(fuel:Nat):zex r y (fuel+8) 0=some (toS (zaw (((List.range 7).zipIdx 0).any fun x=>andB (!(r.uses.f x.2)) (!(eqI (y.f x.2) 0))) 9)):=by
 have h:=zhM (L:=zex r y) (List.range 7) (fun k _=>zaw (andB (!(r.uses.f k)) (!(eqI (y.f k) 0))) 9) (fun q=>by rw[zex];rfl) (fun q k x hx=>by
  have hk:=zau hx
  rw[List.length_range]at hk
  rw[zex,za2,show decide ((k:Int) < 7)=true by simp;omega,cond_true,show inB (k:Int) 7=true by simp[zev];omega,zad,zad,Int.toNat_natCast,zqD (by omega)]
  exact zaO _ _ _) (fuel+8) 0 (by simp) (by simp)
 rw[List.drop_zero,zey (fun k (_:Nat)=>andB (!(r.uses.f k)) (!(eqI (y.f k) 0)))]at h
 exact h
theorem zmB(a:Inst)(r:InstRow)(fuel:Nat):zew a r (fuel+8) 0=some (toS (zaw (((List.range 3).zipIdx 0).any fun x=>andB (r.uses.f x.2) (orB (ltI ((Arr.of 3 [a.A,a.B,a.C]:Arr 3 Int).f x.2) 0) (!(ltI ((Arr.of 3 [a.A,a.B,a.C]:Arr 3 Int).f x.2) 8)))) 10)):=by
 have h:=zhM (L:=zew a r) (List.range 3) (fun k _=>zaw (andB (r.uses.f k) (orB (ltI ((Arr.of 3 [a.A,a.B,a.C]:Arr 3 Int).f k) 0) (!(ltI ((Arr.of 3 [a.A,a.B,a.C]:Arr 3 Int).f k) 8)))) 10) (fun q=>by rw[zew];rfl) (fun q k x hx=>by
  have hk:=zau hx
  rw[List.length_range]at hk
  rw[zew,za2,show decide ((k:Int) < 3)=true by simp;omega,cond_true,show inB (k:Int) 3=true by simp[zev];omega,show inB (k:Int) 7=true by simp[zev];omega,zad,zad,Int.toNat_natCast,zqD (by omega)]
  exact zaO _ _ _) (fuel+8) 0 (by simp) (by simp)
 rw[List.drop_zero,zey (fun k (_:Nat)=>andB (r.uses.f k) (orB (ltI ((Arr.of 3 [a.A,a.B,a.C]:Arr 3 Int).f k) 0) (!(ltI ((Arr.of 3 [a.A,a.B,a.C]:Arr 3 Int).f k) 8)))) ]at h
 exact h
theorem zep(b:Bool):orB b true=true:=by cases b<;>rfl
theorem zoU{u:Bool}{n:Int}(h:andB (!u) (!eqI n 0)=false):andB u (orB (ltI n 0) (!ltI n 8))=!andB (!ltI n 0) (ltI n 8):=by
 cases u
 ·have:n=0:=by simpa [zaV,zaL]using h
  subst this;decide
 ·simp[zaV,zbY]
theorem zvW{u:Bool}{n:Int}(h:andB (!u) (!eqI n 0)=false):andB u (orB (ltI n 0) (ltI 2 n))=orB (ltI n 0) (ltI 2 n):=by
 cases u
 ·have:n=0:=by simpa [zaV,zaL]using h
  subst this;decide
 ·simp[zaV,zbY]
def zmE(x:Inst):Int:=(zdj x).getD 0
theorem znC(fuel:Nat)(x:Inst):iCk (fuel+8) x=some (zmE x) /\ zdj x=some (zmE x):=by
 suffices h:∃ r,iCk (fuel+8) x=some r /\ zdj x=some r by obtain⟨r,a,b⟩:=h;rw[zmE,b];exact⟨a,rfl⟩
 by_cases hop:1<=x.Op /\ x.Op<=22
 ·obtain⟨r,hr,h0,h1,h2,h3,h4,h5,h6⟩:=zvL hop.1 hop.2
  obtain⟨na,nb,hna,hnb,hea,heb⟩:=zri x.Fn
  simp only[iCk,zdF,zdj,Option.bind_some,hr,h0,h1,h2,h3,h4,h5,h6,hna,hnb,Option.getD_some,Option.isSome_some,hea,heb,zby]
  rw[show(andB (!(ltI x.Op 1)) (!(ltI 22 x.Op)))=true by simp[zaV,za2];omega,show orB (ltI x.Op 1) (ltI 22 x.Op)=false by simp[zbY,za2];omega]
  simp only[zdT,Option.bind_some,Bool.not_true,cond_false,zmC,zmB]
  simp only[show(List.range 7).zipIdx 0=[(0,0),(1,1),(2,2),(3,3),(4,4),(5,5),(6,6)] from rfl,show(List.range 3).zipIdx 0=[(0,0),(1,1),(2,2)] from rfl,List.any_cons,List.any_nil,zrZ,List.getD_cons_zero,List.getD_cons_succ,Bool.or_false]
  generalize r.uses.f 0=u0,r.uses.f 1=u1,r.uses.f 2=u2,r.uses.f 3=u3,r.uses.f 4=u4,r.uses.f 5=u5,r.uses.f 6=u6
  simp only[zep,zad]
  have p1:∀ a b c d e f g:Bool,(a ||(b ||(c ||(d ||(e ||(f || g))))))=orB (orB (orB (orB (orB (orB a b) c) d) e) f) g:=by decide
  have p2:∀ a b c:Bool,(a ||(b || c))=orB (orB a b) c:=by decide
  rw[p1,p2]
  cases ha:orB (orB (orB (orB (orB (orB (andB (!u0) (!eqI x.A 0)) (andB (!u1) (!eqI x.B 0))) (andB (!u2) (!eqI x.C 0))) (andB (!u3) (!eqI x.Obj 0))) (andB (!u4) (!eqI x.N 0))) (andB (!u5) (!eqI x.Fn 0))) (andB (!u6) (!eqI x.Order 0))
  ·simp only[zbY,Bool.or_eq_false_iff]at ha
   obtain⟨⟨⟨⟨⟨⟨a0,a1⟩,a2⟩,_⟩,_⟩,_⟩,a6⟩:=ha
   rw[zoU a0,zoU a1,zoU a2,zvW a6]
   cases orB (orB (!andB (!ltI x.A 0) (ltI x.A 8)) (!andB (!ltI x.B 0) (ltI x.B 8))) (!andB (!ltI x.C 0) (ltI x.C 8))
   ·cases orB (ltI x.Order 0) (ltI 2 x.Order)
    ·cases andB u5 (ziE x.Fn)
     ·cases andB (eqI x.Op 1) (orB (ltI x.N (-2147483648)) (ltI 2147483647 x.N))
      ·exact⟨_,rfl,rfl⟩
      ·exact⟨_,rfl,rfl⟩
     ·exact⟨_,rfl,rfl⟩
    ·exact⟨_,rfl,rfl⟩
   ·exact⟨_,rfl,rfl⟩
  ·exact⟨_,rfl,rfl⟩
 ·refine⟨8,?_,?_⟩
  ·rw[iCk,zdF,show(andB (!(ltI x.Op 1)) (!(ltI 22 x.Op)))=false by simp[zaV,za2];omega];rfl
  ·rw[zdj,show orB (ltI x.Op 1) (ltI 22 x.Op)=true by simp[zbY,za2];omega];rfl
theorem zse(p:Program)(x:Inst):∃ y e,zdO p x.Op=some y /\ zdC p x=some e /\ (!e)=orB (andB (!(ltI y 0)) (orB (ltI x.Obj 0) (!(ltI x.Obj y)))) (andB (eqI x.Op 18) (orB (ltI x.N 0) (!(ltI x.N ((p.Mutexes.length:Nat):Int))))):=by
 simp only[zdO,zdC]
 generalize x.Op=op
 have hn:∀ n:Nat,(!andB (!ltI x.Obj 0) (ltI x.Obj (n:Int)))=andB (!ltI (n:Int) 0) (orB (ltI x.Obj 0) (!ltI x.Obj (n:Int))):=fun n=>by simp[zaV,zbY,za2]
 have hz:∀ n:Nat,ltI (n:Int) 0=false:=fun n=>by simp[za2]
 by_cases h8:op=8;· subst h8;exact⟨_,_,rfl,rfl,by simp[hn,hz,zaV,zbY,zaL]⟩
 by_cases h9:op=9;· subst h9;exact⟨_,_,rfl,rfl,by simp[hn,hz,zaV,zbY,zaL]⟩
 by_cases h10:op=10;· subst h10;exact⟨_,_,rfl,rfl,by simp[hn,hz,zaV,zbY,zaL]⟩
 by_cases h11:op=11;· subst h11;exact⟨_,_,rfl,rfl,by simp[hn,hz,zaV,zbY,zaL]⟩
 by_cases h12:op=12;· subst h12;exact⟨_,_,rfl,rfl,by simp[hn,hz,zaV,zbY,zaL]⟩
 by_cases h14:op=14;· subst h14;exact⟨_,_,rfl,rfl,by simp[hn,hz,zaV,zbY,zaL]⟩
 by_cases h15:op=15;· subst h15;exact⟨_,_,rfl,rfl,by simp[hn,hz,zaV,zbY,zaL]⟩
 by_cases h16:op=16;· subst h16;exact⟨_,_,rfl,rfl,by simp[hn,hz,zaV,zbY,zaL]⟩
 by_cases h17:op=17;· subst h17;exact⟨_,_,rfl,rfl,by simp[hn,hz,zaV,zbY,zaL]⟩
 by_cases h18:op=18
 ·subst h18
  cases h:orB (ltI x.N 0) (!(ltI x.N ((p.Mutexes.length:Nat):Int)))
  ·exact⟨_,_,rfl,rfl,by simp[hn,hz,zaV,zbY,zaL]⟩
  ·exact⟨_,_,rfl,rfl,by simp[hn,hz,zaV,zbY,zaL]⟩
 by_cases h19:op=19;· subst h19;exact⟨_,_,rfl,rfl,by simp[hn,hz,zaV,zbY,zaL]⟩
 by_cases h20:op=20;· subst h20;exact⟨_,_,rfl,rfl,by simp[hn,hz,zaV,zbY,zaL]⟩
 by_cases h21:op=21;· subst h21;exact⟨_,_,rfl,rfl,by simp[hn,hz,zaV,zbY,zaL]⟩
 simp only[zaL,h8,h9,h10,h11,h12,h14,h15,h16,h17,h18,h19,h20,h21,decide_false,cond_false,Option.bind_some]
 exact⟨_,_,rfl,rfl,by simp[zaV,zbY,za2]⟩
def exs (p:Program)(x:Inst):Bool:=(zdC p x).getD false
def ci (p:Program)(x:Inst)(n:Nat):Int:=cond (!(eqI (zmE x) 0)) (zmE x) (cond (!(exs p x)) 11 (cond (andB (orB (eqI x.Op 4) (eqI x.Op 5)) (orB (ltI x.N 0) (ltI (n:Int) x.N))) 12 0))
theorem zq6(fuel:Nat)(p:Program)(x:Inst)(n:Nat):zfU (fuel+8) p x (n:Int)=some (ci p x n):=by
 obtain⟨y,e,h1,h2,h3⟩:=zse p x
 rw[zfU,(znC fuel x).1,Option.bind_some,h1,Option.bind_some,ci,exs,h2]
 cases !(eqI (zmE x) 0)
 ·simp only[cond_false,Option.getD_some,h3]
  cases andB (!(ltI y 0)) (orB (ltI x.Obj 0) (!(ltI x.Obj y)))
  ·cases andB (eqI x.Op 18) (orB (ltI x.N 0) (!(ltI x.N ((p.Mutexes.length:Nat):Int))))
   ·cases andB (orB (eqI x.Op 4) (eqI x.Op 5)) (orB (ltI x.N 0) (ltI (n:Int) x.N))<;>rfl
   ·rfl
  ·rfl
 ·rfl
def cI (p:Program)(n j:Nat)(x:Inst):Option (Int × Int):=zaw (!(eqI (ci p x n) 0)) (ci p x n,(j:Int))
def cF (p:Program)(k:Nat)(f:Func):Option (Int × Int × Int):=cond (ltI 64 ((f.Code.length:Nat):Int)) (some (4,(k:Int),-1)) ((first (cI p f.Code.length) f.Code 0).map fun r=>(r.1,(k:Int),r.2))
theorem zqU(p:Program)(f:Func):zgo p f=some (cond (ltI 64 ((f.Code.length:Nat):Int)) (4,-1) ((first (cI p f.Code.length) f.Code 0).getD (0,-1))):=by
 rw[zgo]
 cases ltI 64 ((f.Code.length:Nat):Int)
 ·have h:=srch (L:=zcB p f) (cI p f.Code.length) (fun _=>rfl) f.Code 0 fun j x hx q=>by
   obtain⟨y,e,h1,h2,h3⟩:=zse p x
   rw[Nat.zero_add,zcB,(znC 0 x).2,Option.bind_some,h2,Option.bind_some,cI,ci,exs,h2]
   cases hc:!(eqI (zmE x) 0)
   ·simp only[cond_false,Option.getD_some]
    cases e
    ·rfl
    ·cases andB (orB (eqI x.Op 4) (eqI x.Op 5)) (orB (ltI x.N 0) (ltI ((f.Code.length:Nat):Int) x.N))<;>rfl
   ·simp[hc]
  rw[cond_false,h]
  cases first (cI p f.Code.length) f.Code 0<;>rfl
 ·rfl
theorem ztT{p:Program}{n:Nat}:∀(l:List Inst) (k:Nat) {r:Int × Int},first (cI p n) l k=some r->eqI r.1 0=false
 |[],_,_,h=>by cases h
 |x::q,k,r,h=>by
  rw[zaM,cI]at h
  cases hc:!(eqI (ci p x n) 0)
  ·rw[hc]at h;exact ztT q _ h
  ·rw[hc]at h;obtain rfl:=Option.some.inj h;simpa using hc
theorem zBn{p:Program}{k:Nat}{f:Func}{r:Int × Int × Int}(h:cF p k f=some r):eqI r.1 0=false:=by
 rw[cF]at h
 cases hb:ltI 64 ((f.Code.length:Nat):Int)
 ·rw[hb,cond_false,Option.map_eq_some_iff]at h
  obtain⟨y,hy,rfl⟩:=h
  exact ztT _ _ hy
 ·rw[hb]at h;obtain rfl:=Option.some.inj h;rfl
theorem znw{α:Type}{f:Nat->α->Option (Int × Int × Int)}(hf:∀ k x r,f k x=some r->eqI r.1 0=false):∀(l:List α) (k:Nat) {r},first f l k=some r->eqI r.1 0=false
 |[],_,_,h=>by cases h
 |x::q,k,r,h=>by
  rw[zaM]at h
  cases hc:f k x with
  |none=>rw[hc]at h;exact znw hf q _ h
  |some y=>rw[hc]at h;obtain rfl:=Option.some.inj h;exact hf _ _ _ hc
theorem zo6(p:Program)(l:List Func):zbQ p l 0=some (toS (first (cF p) l 0)):=by
 refine srch (L:=zbQ p) (cF p) (fun _=>rfl) l 0 fun j x hx q=>?_
 rw[Nat.zero_add,zbQ,zqU,Option.bind_some,cF]
 cases ltI 64 ((x.Code.length:Nat):Int)
 ·simp only[cond_false]
  cases h:first (cI p x.Code.length) x.Code 0 with
  |none=>rfl
  |some r=>have:=ztT _ _ h;simp[this]
 ·rfl
end Go.Dc.Pl
end
