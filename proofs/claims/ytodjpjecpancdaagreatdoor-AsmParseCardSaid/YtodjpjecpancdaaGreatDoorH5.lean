/- Contracts of functions, by their numbers, and the laws that walk them. Conditions: as each states. -/
import Derived.Test.YtodjpjecpancdaaGreatDoorH4
import Derived.KernelRfl
set_option linter.all false
set_option maxRecDepth 100000
set_option maxHeartbeats 4000000
section
namespace Go.Dc
open Go Go.Hw Go.Proofs
def zbE(fuelN:Nat)(a0_0:List Token)(a0_1:Int)(a0_7:List ANm)(a1:Int)(a2:Int)(a3:Int):Option (Fault ⊕ (Inst × (List Token) × (List ANm))):=
 Option.bind (α:=Bool × (List ANm)) (cond (eqI a1 8) (some ((eqI a1 8,a0_7))) (cond (eqI a1 9) (some ((eqI a1 9,a0_7))) (cond (eqI a1 10) (some ((eqI a1 10,a0_7))) (cond (eqI a1 11) (some ((eqI a1 11,a0_7))) (cond (eqI a1 12) (some ((eqI a1 12,a0_7))) (some ((eqI a1 14,a0_7)))))))) (fun o=>match o with |(b6,l7)=>cond b6 (Option.bind (zii fuelN a0_0 a0_1 l7 ({ Op:=a1,A:=0,B:=0,C:=0,Obj:=0,N:=0,Fn:=0,Order:=0 }:Inst) a2 a3) (fun y18=>(match y18 with|.inl e20=>some (.inl e20)|.inr y21=>some (.inr (y21.2.2,y21.1,y21.2.1))))) (Option.bind (zhm fuelN a0_0 a0_1 ({ Op:=a1,A:=0,B:=0,C:=0,Obj:=0,N:=0,Fn:=0,Order:=0 }:Inst)) (fun y22=>(match y22 with|.inl e24=>some (.inl e24)|.inr y25=>Option.bind (zf7 y25.1 a0_1 l7 y25.2 a2 a3) (fun y26=>(match y26 with|.inl e28=>some (.inl e28)|.inr y29=>some (.inr (y29.2.2,y29.1,y29.2.1))))))))
theorem zcx{fuelN:Nat}{c0_2:FC}{c0_3:FC}{c0_4:FC}{c0_5:FC}{c0_6:FC}{c0_8:FC}{c0_9:FC}{a0_0:List Token}{a0_1:Int}{a0_7:List ANm}{a1:Int}{a2:Int}{a3:Int}{r:Fault ⊕ (Inst × (List Token) × (List ANm))}(hs:zbE fuelN a0_0 a0_1 a0_7 a1 a2 a3=some r):CAt Tryz.prog 55 [.cell (.ref (.a 0) 0),iV .i64 a1,iV .i64 a2,iV .i64 a3] [.cells [sC a0_0,nC a0_1,c0_2.ac,c0_3.ac,c0_4.ac,c0_5.ac,c0_6.ac,.own (.sp 7 a0_7.length (encL a0_7)),c0_8.ac,c0_9.ac]] (panO panV (fun(r:Inst × (List Token) × (List ANm))=>.agg (eA r.1)) r) (panP (fun(r:Inst × (List Token) × (List ANm))=>[(.a 0,.cells [sC r.2.1,nC a0_1,c0_2.ac,c0_3.ac,c0_4.ac,c0_5.ac,c0_6.ac,.own (.sp 7 r.2.2.length (encL r.2.2)),c0_8.ac,c0_9.ac])]) r):=by
 refine zab (by kernel_rfl) fun hb=>?_
 refine zac mixed Tryz.func55 (by kernel_rfl) rfl (by kernel_rfl) rfl fun Q hQ=>?_
 rw[zbE]at hs
 refine goR2 f0 ?_
 refine zdr ?_
 refine goR2 f0 ?_
 revert hs;refine bK fun o9 e8 hs=>?_
 refine zdd (fun(v:Bool × (List ANm)) (σ:St)=>some (v)=some o9 /\ σ.env 0=.cell (.ref (.a 0) 0) /\ σ.env 2=iV .i64 a2 /\ σ.env 3=iV .i64 a3 /\ σ.env 8=.cell (.ref (.o 1 0 0) 0) /\ σ.env 9=.cell (.ref (.o 2 2 0) 0) /\ σ.env 19=bV v.1 /\ σ.hp (.a 0)=some (.cells [sC a0_0,nC a0_1,c0_2.ac,c0_3.ac,c0_4.ac,c0_5.ac,c0_6.ac,.own (.sp 7 v.2.length (encL v.2)),c0_8.ac,c0_9.ac]) /\ σ.hp (.o 1 0 0)=some (.cells [nC 0,nC 0,nC 0,nC 0,nC 0,nC 0,nC 0,nC 0]) /\ σ.hp (.o 2 2 0)=some (.cells [nC a1,nC 0,nC 0,nC 0,nC 0,nC 0,nC 0,nC 0]) /\ 4<=σ.gen) (fun Q hK10 hX11=>?_) (fun v σ1 hp=>?_)
 ·refine goR f0 ?_
  revert e8;refine cS f0 ?_ ?_<;>intro h12 e8
  ·refine goR f0 ?_
   exact hK10 (eqI a1 8,a0_7) _ ⟨e8,pv f0,pv f0,pv f0,pv f0,pv f0,pv f0,pv f0,pv f0,pv f0,pg⟩
  ·refine goR f0 ?_
   revert e8;refine cS f0 ?_ ?_<;>intro h13 e8
   ·refine goR f0 ?_
    exact hK10 (eqI a1 9,a0_7) _ ⟨e8,pv f0,pv f0,pv f0,pv f0,pv f0,pv f0,pv f0,pv f0,pv f0,pg⟩
   ·refine goR f0 ?_
    revert e8;refine cS f0 ?_ ?_<;>intro h14 e8
    ·refine goR f0 ?_
     exact hK10 (eqI a1 10,a0_7) _ ⟨e8,pv f0,pv f0,pv f0,pv f0,pv f0,pv f0,pv f0,pv f0,pv f0,pg⟩
    ·refine goR f0 ?_
     revert e8;refine cS f0 ?_ ?_<;>intro h15 e8
     ·refine goR f0 ?_
      exact hK10 (eqI a1 11,a0_7) _ ⟨e8,pv f0,pv f0,pv f0,pv f0,pv f0,pv f0,pv f0,pv f0,pv f0,pg⟩
     ·refine goR f0 ?_
      revert e8;refine cS f0 ?_ ?_<;>intro h16 e8
      ·refine goR f0 ?_
       exact hK10 (eqI a1 12,a0_7) _ ⟨e8,pv f0,pv f0,pv f0,pv f0,pv f0,pv f0,pv f0,pv f0,pv f0,pg⟩
      ·refine goR f0 ?_
       exact hK10 (eqI a1 14,a0_7) _ ⟨e8,pv f0,pv f0,pv f0,pv f0,pv f0,pv f0,pv f0,pv f0,pv f0,pg⟩
 ·obtain⟨b6,l7⟩:=v
  dsimp only at hp
  obtain⟨e8,h2_0,h2_2,h2_3,h2_8,h2_9,h2_19,g2_0,g2_1,g2_2,n2_g⟩:=hp
  obtain rfl:=sj e8
  try dsimp only at hs
  have n2_0:¬ (σ1.gen=0):=by omega
  have n2_1:¬ (σ1.gen=1):=by omega
  have F1:=an h2_0 (an h2_2 (an h2_3 (an h2_8 (an h2_9 (an h2_19 (an g2_0 (an g2_1 (an g2_2 (an n2_0 n2_1)))))))))
  refine goR F1 ?_
  revert hs;refine cS F1 ?_ ?_<;>intro h17 hs
  ·refine goR F1 ?_
   revert hs;refine bK fun y18 hx19 hs=>?_
   rcases y18 with e20|y21
   ·try dsimp only at hs
    refine cX F1 (zjc (c0_2:=(c0_2.toF [.a 0,.o 2 2 0])) (c0_3:=(c0_3.toF [.a 0,.o 2 2 0])) (c0_4:=(c0_4.toF [.a 0,.o 2 2 0])) (c0_5:=(c0_5.toF [.a 0,.o 2 2 0])) (c0_6:=(c0_6.toF [.a 0,.o 2 2 0])) (c0_8:=(c0_8.toF [.a 0,.o 2 2 0])) (c0_9:=(c0_9.toF [.a 0,.o 2 2 0])) hx19) [.a 0,.o 2 2 0] (fun v=>?_)
    obtain rfl:=sj hs
    exact hQ _ _ zan
   ·try dsimp only at hs
    refine cB F1 (zjc (c0_2:=(c0_2.toF [.a 0,.o 2 2 0])) (c0_3:=(c0_3.toF [.a 0,.o 2 2 0])) (c0_4:=(c0_4.toF [.a 0,.o 2 2 0])) (c0_5:=(c0_5.toF [.a 0,.o 2 2 0])) (c0_6:=(c0_6.toF [.a 0,.o 2 2 0])) (c0_8:=(c0_8.toF [.a 0,.o 2 2 0])) (c0_9:=(c0_9.toF [.a 0,.o 2 2 0])) hx19) [.a 0,.o 2 2 0] ?_
    refine goR F1 ?_
    obtain rfl:=sj hs
    refine hQ _ _ (zaG _ (Gh.refl _) (by simp[St.frz,St.pur,F1];rfl) (by first|rfl |(simp[St.frz,St.pur,F1];done) |(rw[if_pos (by first|omega |(simp;omega))];simp[St.frz,St.pur,F1];first|omega|exact List.take_of_length_le (by simp;omega)|skip)) (pv F1))
  ·refine goR F1 ?_
   revert hs;refine bK fun y22 hx23 hs=>?_
   rcases y22 with e24|y25
   ·try dsimp only at hs
    refine cX F1 (zjY (c0_2:=(c0_2.toF [.a 0,.o 2 2 0])) (c0_3:=(c0_3.toF [.a 0,.o 2 2 0])) (c0_4:=(c0_4.toF [.a 0,.o 2 2 0])) (c0_5:=(c0_5.toF [.a 0,.o 2 2 0])) (c0_6:=(c0_6.toF [.a 0,.o 2 2 0])) (c0_7:=⟨AC.toF [.a 0,.o 2 2 0] (.own (.sp 7 l7.length (encL l7))),by simp[F1]⟩) (c0_8:=(c0_8.toF [.a 0,.o 2 2 0])) (c0_9:=(c0_9.toF [.a 0,.o 2 2 0])) hx23) [.a 0,.o 2 2 0] (fun v=>?_)
    obtain rfl:=sj hs
    exact hQ _ _ zan
   ·try dsimp only at hs
    refine cB F1 (zjY (c0_2:=(c0_2.toF [.a 0,.o 2 2 0])) (c0_3:=(c0_3.toF [.a 0,.o 2 2 0])) (c0_4:=(c0_4.toF [.a 0,.o 2 2 0])) (c0_5:=(c0_5.toF [.a 0,.o 2 2 0])) (c0_6:=(c0_6.toF [.a 0,.o 2 2 0])) (c0_7:=⟨AC.toF [.a 0,.o 2 2 0] (.own (.sp 7 l7.length (encL l7))),by simp[F1]⟩) (c0_8:=(c0_8.toF [.a 0,.o 2 2 0])) (c0_9:=(c0_9.toF [.a 0,.o 2 2 0])) hx23) [.a 0,.o 2 2 0] ?_
    refine goR F1 ?_
    revert hs;refine bK fun y26 hx27 hs=>?_
    rcases y26 with e28|y29
    ·try dsimp only at hs
     refine cX F1 (zjX (c0_2:=(c0_2.toF [.a 0,.o 2 2 0])) (c0_3:=(c0_3.toF [.a 0,.o 2 2 0])) (c0_4:=(c0_4.toF [.a 0,.o 2 2 0])) (c0_5:=(c0_5.toF [.a 0,.o 2 2 0])) (c0_6:=(c0_6.toF [.a 0,.o 2 2 0])) (c0_8:=(c0_8.toF [.a 0,.o 2 2 0])) (c0_9:=(c0_9.toF [.a 0,.o 2 2 0])) hx27) [.a 0,.o 2 2 0] (fun v=>?_)
     obtain rfl:=sj hs
     exact hQ _ _ zan
    ·try dsimp only at hs
     refine cB F1 (zjX (c0_2:=(c0_2.toF [.a 0,.o 2 2 0])) (c0_3:=(c0_3.toF [.a 0,.o 2 2 0])) (c0_4:=(c0_4.toF [.a 0,.o 2 2 0])) (c0_5:=(c0_5.toF [.a 0,.o 2 2 0])) (c0_6:=(c0_6.toF [.a 0,.o 2 2 0])) (c0_8:=(c0_8.toF [.a 0,.o 2 2 0])) (c0_9:=(c0_9.toF [.a 0,.o 2 2 0])) hx27) [.a 0,.o 2 2 0] ?_
     refine goR F1 ?_
     obtain rfl:=sj hs
     refine hQ _ _ (zaG _ (Gh.refl _) (by simp[St.frz,St.pur,F1];rfl) (by first|rfl |(simp[St.frz,St.pur,F1];done) |(rw[if_pos (by first|omega |(simp;omega))];simp[St.frz,St.pur,F1];first|omega|exact List.take_of_length_le (by simp;omega)|skip)) (pv F1))
def zhA(a0:ByteArray):Nat->Int->Option (Unit ⊕ (Int × Bool))
 |0,_=>none
 |q60+1,i46=>cond (ltI i46 22) (Option.bind (getI zbs i46) (fun x65=>cond (eqS x65.name a0) (some (.inr (IntKind.i64.wrap (1+i46),true))) (zhA a0 q60 (IntKind.i64.wrap (i46+1))))) (some (.inl ()))
def iBM (fuelN:Nat)(a0:ByteArray):Option (Int × Bool):=
 Option.bind (α:=Unit ⊕ (Int × Bool)) (Option.bind (zhA a0 fuelN 0) (fun o=>match o with|.inl _=>some (.inl ())|.inr r70=>some (.inr r70))) (fun o=>match o with|.inl _=>some (0,false)|.inr r71=>some r71)
theorem zsy{fuelN:Nat}{a0:ByteArray}{r:Int × Bool}(hs:iBM fuelN a0=some r):At Tryz.prog 54 [sV a0] (.tup [iV .i64 r.1,bV r.2]):=by
 refine zab (by kernel_rfl) fun hb=>?_
 refine zac mixed Tryz.func54 (by kernel_rfl) rfl (by kernel_rfl) rfl fun Q hQ=>?_
 rw[iBM]at hs
 refine goR2 f0 ?_
 revert hs;refine bK fun o35 e34 hs=>?_
 refine zaj (fun(v:Unit) (σ:St)=>some (.inl v)=some o35 /\ 2<=σ.gen) (by rfl) (fun Q hK36 hX37=>?_) (fun v σ3 hp=>?_)
 ·refine goR f0 ?_
  revert e34;refine bK fun o55 e54 e34=>?_
  refine zaf (fun(v:Nat × Int) (σ:St)=>zhA a0 v.1 v.2=some o55 /\ σ.env 0=sV a0 /\ σ.env 5=iV .i64 v.2 /\ 2<=σ.gen) (fun v=>v.1) _ (Gh.refl _) (fuelN,0) ⟨e54,pv f0,pv f0,pg⟩ fun v σ6 hp L56 hL57=>?_
  obtain⟨q59,i46⟩:=v
  dsimp only at hp hL57
  obtain⟨e54,h5_0,h5_5,n5_g⟩:=hp
  rcases q59 with _|q60
  ·rw[zhA]at e54;cases e54
  ·rw[zhA]at e54;try dsimp only at e54
   have F1:=an h5_0 h5_5
   refine goR F1 ?_
   revert e54;refine cS F1 ?_ ?_<;>intro h64 e54
   ·revert e54;refine bK fun x65 hx66 e54=>?_
    obtain⟨hx66a,hx66b,hx66c,hx66d⟩:=zao hx66
    have t67L:zbs.length=22:=rfl
    have f68:zam Tryz.prog 9 (encL zbs) (((i46).toNat) * 8)=some (sV x65.name):=zae hx66d (f:=0) (by simp)
    have F2:=an F1 f68
    refine goR F2 ?_
    revert e54;refine cS F2 ?_ ?_<;>intro h69 e54
    ·refine goR F2 ?_
     obtain rfl:=sj e54
     try dsimp only at e34
     obtain rfl:=sj e34
     try dsimp only at hs
     refine hX37 _ _ (by simp) ?_
     refine goR F2 ?_
     obtain rfl:=sj hs
     exact hQ _ _ (rg F2 (Gh.refl _))
    ·refine goR F2 ?_
     exact hL57 (q60,IntKind.i64.wrap (i46+1)) _ _ (Gh.refl _) ⟨e54,pv F2,pv F2,pg⟩ (by omega)
   ·refine goR F1 ?_
    obtain rfl:=sj e54
    try dsimp only at e34
    exact hK36 () _ _ (Gh.refl _) ⟨e34,pg⟩
 ·obtain⟨e34,n4_g⟩:=hp
  obtain rfl:=sj e34
  try dsimp only at hs
  refine goR f0 ?_
  obtain rfl:=sj hs
  exact hQ _ _ (rg f0 (Gh.refl _))
end Go.Dc
end
section
namespace Go.Dc.Pa
open Go Go.Hw Go.Dc Go.Dc.Pl
theorem zaL(a b:Int):eqI a b=decide (a=b):=by simp[eqI,Bool.beq_eq_decide_eq]
theorem za2(a b:Int):ltI a b=decide (a < b):=rfl
theorem zaV(a b:Bool):andB a b=(a && b):=rfl
theorem zbY(a b:Bool):orB a b=(a || b):=rfl
theorem zev(i:Int)(n:Nat):inB i n=decide (0<=i /\ i < n):=rfl
theorem zdt(n:Nat):lenB n=decide (n<=1099511627776):=rfl
theorem zhN(l h n:Int):slB l h n=decide (0<=l /\ l<=h /\ h<=n):=rfl
theorem znq{α:Type}(c:Bool)(k:Option α):zai c k=if c=true then k else none:=by cases c<;>rfl
theorem za3{α:Type}{c:Bool}(k:Option α)(h:c=true):zai c k=k:=by subst h;rfl
theorem zaK{b n:Nat}(h:n<=16777216)(hb:b<=128):limB b n=true:=by
 simp only[limB,decide_eq_true_eq]
 exact⟨by omega,Nat.le_trans (Nat.mul_le_mul h hb) (by omega)⟩
theorem ze8{α:Type}(x:α)(l:List α):subL (x::l) (1:Int) ((x::l).length:Int)=l:=by
 have h:(((x::l).length:Int) - 1).toNat=l.length:=by simp only[List.length_cons];omega
 rw[subL,h];exact List.take_length
theorem zgd{α:Type}(x:α)(l:List α):slB (1:Int) ((x::l).length:Int) (x::l).length=true:=by
 rw[zhN,decide_eq_true_eq];simp only[List.length_cons];omega
theorem zsi{α:Type}(x:α)(l:List α):eqI (((x::l).length:Nat):Int) 0=false:=by
 rw[zaL,decide_eq_false_iff_not];simp only[List.length_cons];omega
def nxt (e k:Int):List Token->Fault ⊕ (Token × List Token)
 |[]=>.inl ⟨15,e⟩
 |t::r=>if t.Kind=4 then .inl ⟨15,t.At⟩ else if t.Kind=k then .inr (t,r) else .inl ⟨14,t.At⟩
theorem zd5(ts:List Token)(e k:Int):zds ts e k=some (nxt e k ts):=by
 cases ts with
 |nil=>rfl
 |cons t r=>
  rw[zds,apat,zsi,zgd,ze8,show inB (0:Int) (t::r).length=true by rw[zev,decide_eq_true_eq];simp only[List.length_cons];omega]
  simp only[nxt,orB,cond_false,cond_true,show gd (t::r) 0=t from rfl,zaL,zaH,List.getElem?_cons_zero,Option.bind_some,znq]
  by_cases h4:t.Kind=4
  ·simp[h4]
  ·by_cases hk:t.Kind=k
   ·subst hk;simp[h4]
   ·simp[h4,hk]
def regN (s:ByteArray):Option Int:=if s.size=2 /\ (bget s 0).toNat=114 /\ 48<=(bget s 1).toNat /\ (bget s 1).toNat<=55 then some (((bget s 1).toNat:Int) - 48) else none
def regM (e:Int)(ts:List Token):Fault ⊕ (Int × List Token):=match nxt e 1 ts with
 |.inl f=>.inl f
 |.inr (t,r)=>match regN t.Text with|some n=>.inr (n,r)|none=>.inl ⟨10,t.At⟩
theorem zkX(ts:List Token)(e:Int):zaN ts e=some (regM e ts):=by
 rw[zaN,zd5,Option.bind_some,regM]
 rcases nxt e 1 ts with f |⟨t,r⟩
 ·rfl
 ·simp only[regN]
  by_cases h2:t.Text.size=2
  ·have e1:t.Text[1]?=some (bget t.Text 1):=by simp[bget,h2]
   simp only[h2,e1,Option.bind_some,show inB ((0:Nat):Int) 2=true from rfl,show inB ((1:Nat):Int) 2=true from rfl,zaH]
   generalize bget t.Text 0=a
   have hb:=(bget t.Text 1).toNat_lt
   generalize (bget t.Text 1).toNat=b at hb
   have o:∀ c,orB c true=true:=fun c=>by cases c<;>rfl
   simp only[o,zad]
   by_cases ha:a.toNat=114
   ·by_cases h3:48<=b
    ·by_cases h4:b<=55
     ·have w:IntKind.i64.wrap (IntKind.u8.wrap ((b:Int) - 48))=(b:Int) - 48:=by
       rw[zgT (by omega) (by omega),wrap_i64 (by omega) (by omega)]
      simp only[w,ha]
      rw[if_pos ⟨trivial,trivial,h3,h4⟩]
      simp[orB,zaL,za2,show ¬ ((b:Int) < 48) by omega,show ¬ ((55:Int) < b) by omega]
     ·rw[if_neg (by omega)];simp[orB,zaL,za2,ha,show ¬ ((b:Int) < 48) by omega,show((55:Int) < b) by omega]
    ·rw[if_neg (by omega)];simp[orB,zaL,za2,ha,show((b:Int) < 48) by omega]
   ·rw[if_neg (by omega)];simp[orB,zaL,za2,show ¬ ((a.toNat:Int)=114) by omega]
  ·rw[if_neg (by omega)]
   simp[orB,zaL,show ¬ ((t.Text.size:Int)=2) by omega,zaH]
def zgU(s:ByteArray):Option Int:=first (fun k x=>zaw (eqS x s) ((k:Int)+1)) zbb 0
def zfX(s:ByteArray):Option Int:=first (fun k x=>zaw (eqS x.name s) ((k:Int)+1)) zbs 0
def zg7(s:ByteArray):Option Int:=first (fun k x=>zaw (eqS x s) (k:Int)) zbk 0
theorem zbp{α:Type}(l:List α)(n:Nat):getI l (n:Int)=l[n]?:=by simp[getI]
theorem wrapN{n:Int}(h0:0<=n)(h:n<=4611686018427387904):IntKind.i64.wrap n=n:=wrap_i64 (by omega) (by omega)
theorem zpe(fuel:Nat)(s:ByteArray):zdf (fuel+11) s=some (match zgU s with|some n=>(n,true)|none=>(0,false)):=by
 have h:=zhM (L:=zbc s) zbb (fun k x=>zaw (eqS x s) ((k:Int)+1,true)) (fun q=>by rw[zbc];rfl) (fun q k x hx=>by
  have hk:k < 10:=zau hx
  rw[zbc,za2,show decide ((k:Int) < 10)=true by simp;omega,cond_true,zbp,hx,Option.bind_some,wrapN (by omega) (by omega),wrapN (by omega) (by omega),Int.add_comm 1]
  exact zaO _ _ _) (fuel+11) 0 (by simp) (by simp[zbb])
 rw[List.drop_zero,zct (h:=fun k x=>zaw (eqS x s) ((k:Int)+1)) (g:=fun n=>(n,true)) _ _ (fun k x=>by cases eqS x s<;>rfl),Int.natCast_zero]at h
 rw[zdf,h,zgU]
 cases first (fun k x=>zaw (eqS x s) ((k:Int)+1)) zbb 0<;>rfl
theorem zpm(fuel:Nat)(s:ByteArray):iBM (fuel+23) s=some (match zfX s with|some n=>(n,true)|none=>(0,false)):=by
 have h:=zhM (L:=zhA s) zbs (fun k x=>zaw (eqS x.name s) ((k:Int)+1,true)) (fun q=>by rw[zhA];rfl) (fun q k x hx=>by
  have hk:k < 22:=zau hx
  rw[zhA,za2,show decide ((k:Int) < 22)=true by simp;omega,cond_true,zbp,hx,Option.bind_some,wrapN (by omega) (by omega),wrapN (by omega) (by omega),Int.add_comm 1]
  exact zaO _ _ _) (fuel+23) 0 (by simp) (by simp[zbs])
 rw[List.drop_zero,zct (h:=fun k x=>zaw (eqS x.name s) ((k:Int)+1)) (g:=fun n=>(n,true)) _ _ (fun k x=>by cases eqS x.name s<;>rfl),Int.natCast_zero]at h
 rw[iBM,h,zfX]
 cases first (fun k x=>zaw (eqS x.name s) ((k:Int)+1)) zbs 0<;>rfl
theorem zpj(fuel:Nat)(s:ByteArray):iBO (fuel+4) s=some (match zg7 s with|some n=>(n,true)|none=>(0,false)):=by
 have h:=zhM (L:=zhz s) zbk (fun k x=>zaw (eqS x s) ((k:Int),true)) (fun q=>by rw[zhz];rfl) (fun q k x hx=>by
  have hk:k < 3:=zau hx
  rw[zhz,za2,show decide ((k:Int) < 3)=true by simp;omega,cond_true,zbp,hx,Option.bind_some,wrapN (by omega) (by omega)]
  exact zaO _ _ _) (fuel+4) 0 (by simp) (by simp[zbk])
 rw[List.drop_zero,zct (h:=fun k x=>zaw (eqS x s) (k:Int)) (g:=fun n=>(n,true)) _ _ (fun k x=>by cases eqS x s<;>rfl),Int.natCast_zero]at h
 rw[iBO,h,zg7]
 cases first (fun k x=>zaw (eqS x s) (k:Int)) zbk 0<;>rfl
def zcL(g:ByteArray->Option Int)(c:Int)(e:Int)(ts:List Token):Fault ⊕ (Int × List Token):=match nxt e 1 ts with
 |.inl f=>.inl f
 |.inr (t,r)=>match g t.Text with|some n=>.inr (n,r)|none=>.inl ⟨c,t.At⟩
theorem zkZ(fuel:Nat)(ts:List Token)(e:Int):zc9 (fuel+11) ts e=some (zcL zgU 8 e ts):=by
 rw[zc9,zd5,Option.bind_some,zcL]
 rcases nxt e 1 ts with f |⟨t,r⟩
 ·rfl
 ·simp only[zpe,Option.bind_some]
  cases zgU t.Text<;>rfl
theorem zpi(fuel:Nat)(ts:List Token)(e:Int):zf8 (fuel+4) ts e=some (zcL zg7 13 e ts):=by
 rw[zf8,zd5,Option.bind_some,zcL]
 rcases nxt e 1 ts with f |⟨t,r⟩
 ·rfl
 ·simp only[zpj,Option.bind_some]
  cases zg7 t.Text<;>rfl
def objM (e:Int)(kind:ByteArray)(fn at_:Int)(ts:List Token)(ns:List ANm):Fault ⊕ (List Token × List ANm):=match nxt e 1 ts with
 |.inl f=>.inl f
 |.inr (t,r)=>.inr (r,ns++[⟨t,kind,fn,at_⟩])
theorem zg3{ts:List Token}{e:Int}{ns:List ANm}{kind:ByteArray}{fn at_:Int}(h:ns.length+1<=16777216):zcp ts e ns kind fn at_=some (objM e kind fn at_ ts ns):=by
 rw[zcp,zd5,Option.bind_some,objM]
 rcases nxt e 1 ts with f |⟨t,r⟩
 ·rfl
 ·simp only[Option.bind_some,List.length_singleton,zaK h (by omega:72<=128),zad]
inductive Opd|A|B|C|N|F|R|obj (kind:ByteArray)
abbrev PS:=Inst × List Token × List ANm
def zgV(e fn at_:Int):Opd->PS->Fault ⊕ PS
 |.A,(i,ts,ns)=>match zcL regN 10 e ts with|.inl f=>.inl f|.inr (n,r)=>.inr ({ i with A:=n },r,ns)
 |.B,(i,ts,ns)=>match zcL regN 10 e ts with|.inl f=>.inl f|.inr (n,r)=>.inr ({ i with B:=n },r,ns)
 |.C,(i,ts,ns)=>match zcL regN 10 e ts with|.inl f=>.inl f|.inr (n,r)=>.inr ({ i with C:=n },r,ns)
 |.N,(i,ts,ns)=>match nxt e 2 ts with|.inl f=>.inl f|.inr (t,r)=>.inr ({ i with N:=t.N },r,ns)
 |.F,(i,ts,ns)=>match zcL zgU 8 e ts with|.inl f=>.inl f|.inr (n,r)=>.inr ({ i with Fn:=n },r,ns)
 |.R,(i,ts,ns)=>match zcL zg7 13 e ts with|.inl f=>.inl f|.inr (n,r)=>.inr ({ i with Order:=n },r,ns)
 |.obj kind,(i,ts,ns)=>match objM e kind fn at_ ts ns with|.inl f=>.inl f|.inr (r,ns')=>.inr (i,r,ns')
def runO (e fn at_:Int):List Opd->PS->Fault ⊕ PS
 |[],s=>.inr s
 |o::l,s=>match zgV e fn at_ o s with|.inl f=>.inl f|.inr s'=>runO e fn at_ l s'
def kVar:ByteArray:=⟨#[118,97,114]⟩
def zb0:ByteArray:=⟨#[109,117,116,101,120]⟩
def zdo:ByteArray:=⟨#[99,111,110,100]⟩
def zdn:ByteArray:=⟨#[111,102,32,119,97,105,116]⟩
def ze6:ByteArray:=⟨#[102,117,110,99]⟩
def zbu:ByteArray:=⟨#[116,104,114,101,97,100]⟩
def zjK:List (List Opd):=[[.A,.N],[.A,.B],[.F,.A,.B,.C],[.N],[.B,.N],[.B],[],[.A,.obj kVar,.R],[.obj kVar,.B,.R],[.A,.obj kVar,.B,.R],[.A,.obj kVar,.B,.R],[.A,.obj kVar,.B,.C,.R],[],[.A,.obj kVar,.F,.B,.R],
 [.obj zb0],[.obj zb0],[.A,.obj zb0],[.obj zdo,.obj zdn],[.obj zdo],[.obj zdo],[.A,.obj ze6,.B],[.B]]
def opsOf(op:Int):List Opd:=zjK.getD (op - 1).toNat []
def zlk(e:Int)(op fn at_:Int)(ts:List Token)(ns:List ANm):Fault ⊕ PS:=runO e fn at_ (opsOf op) (⟨op,0,0,0,0,0,0,0⟩,ts,ns)
theorem zre{op:Int}(h1:1<=op)(h2:op<=22):op=1 \/ op=2 \/ op=3 \/ op=4 \/ op=5 \/ op=6 \/ op=7 \/ op=8 \/ op=9 \/ op=10 \/ op=11 \/ op=12 \/ op=13 \/ op=14 \/ op=15 \/ op=16 \/ op=17 \/ op=18 \/ op=19 \/ op=20 \/ op=21 \/ op=22:=by omega
theorem zeI(ts:List Token)(e:Int):zaN ts e=some (zcL regN 10 e ts):=zkX ts e
theorem zrf{e:Int}{kind:ByteArray}{fn at_:Int}{ts r:List Token}{ns n':List ANm}(h:objM e kind fn at_ ts ns=.inr (r,n')):n'.length=ns.length+1:=by
 rw[objM]at h
 split at h
 ·cases h
 ·injection h with h;injection h with h1 h2;subst h2;simp
theorem zoS(e fn at_:Int)(l:List Opd)(i:Inst)(ts:List Token)(ns:List ANm):runO e fn at_ (.A::l) (i,ts,ns)=match zcL regN 10 e ts with|.inl f=>.inl f|.inr (n,r)=>runO e fn at_ l ({ i with A:=n },r,ns):=by
 simp only[runO,zgV];rcases zcL regN 10 e ts with f |⟨n,r⟩<;>rfl
theorem zoR(e fn at_:Int)(l:List Opd)(i:Inst)(ts:List Token)(ns:List ANm):runO e fn at_ (.B::l) (i,ts,ns)=match zcL regN 10 e ts with|.inl f=>.inl f|.inr (n,r)=>runO e fn at_ l ({ i with B:=n },r,ns):=by
 simp only[runO,zgV];rcases zcL regN 10 e ts with f |⟨n,r⟩<;>rfl
theorem zoQ(e fn at_:Int)(l:List Opd)(i:Inst)(ts:List Token)(ns:List ANm):runO e fn at_ (.C::l) (i,ts,ns)=match zcL regN 10 e ts with|.inl f=>.inl f|.inr (n,r)=>runO e fn at_ l ({ i with C:=n },r,ns):=by
 simp only[runO,zgV];rcases zcL regN 10 e ts with f |⟨n,r⟩<;>rfl
theorem zoP(e fn at_:Int)(l:List Opd)(i:Inst)(ts:List Token)(ns:List ANm):runO e fn at_ (.F::l) (i,ts,ns)=match zcL zgU 8 e ts with|.inl f=>.inl f|.inr (n,r)=>runO e fn at_ l ({ i with Fn:=n },r,ns):=by
 simp only[runO,zgV];rcases zcL zgU 8 e ts with f |⟨n,r⟩<;>rfl
theorem zoN(e fn at_:Int)(l:List Opd)(i:Inst)(ts:List Token)(ns:List ANm):runO e fn at_ (.R::l) (i,ts,ns)=match zcL zg7 13 e ts with|.inl f=>.inl f|.inr (n,r)=>runO e fn at_ l ({ i with Order:=n },r,ns):=by
 simp only[runO,zgV];rcases zcL zg7 13 e ts with f |⟨n,r⟩<;>rfl
theorem zoO(e fn at_:Int)(l:List Opd)(i:Inst)(ts:List Token)(ns:List ANm):runO e fn at_ (.N::l) (i,ts,ns)=match nxt e 2 ts with|.inl f=>.inl f|.inr (n,r)=>runO e fn at_ l ({ i with N:=n.N },r,ns):=by
 simp only[runO,zgV];rcases nxt e 2 ts with f |⟨n,r⟩<;>rfl
theorem zj7(e fn at_:Int)(l:List Opd)(k:ByteArray)(i:Inst)(ts:List Token)(ns:List ANm):runO e fn at_ (.obj k::l) (i,ts,ns)=match objM e k fn at_ ts ns with|.inl f=>.inl f|.inr (r,n')=>runO e fn at_ l (i,r,n'):=by
 simp only[runO,zgV];rcases objM e k fn at_ ts ns with f |⟨n,r⟩<;>rfl
theorem zm2(e fn at_:Int)(s:PS):runO e fn at_ [] s=.inr s:=rfl
theorem oth(ts:List Token)(e:Int)(op a b c ob n f o:Int)(ns:List ANm)(fn at_:Int)(h:decide (op<=6)=true):zf7 ts e ns ⟨op,a,b,c,ob,n,f,o⟩ fn at_=some (.inr (ts,ns,⟨op,a,b,c,ob,n,f,o⟩)):=by
 have h:=of_decide_eq_true h
 simp[zf7,zaL,show op ≠ 15 by omega,show op ≠ 16 by omega,show op ≠ 17 by omega,show op ≠ 18 by omega,show op ≠ 19 by omega,show op ≠ 20 by omega,show op ≠ 21 by omega,show op ≠ 22 by omega]
theorem ziA{fuel:Nat}{op:Int}(h1:1<=op)(h2:op<=22)(ts:List Token)(e:Int){ns:List ANm}(hn:ns.length+2<=16777216)(fn at_:Int) :
  zbE (fuel+23) ts e ns op fn at_=some (zlk e op fn at_ ts ns):=by
 have ob:∀ ts kind,zcp ts e ns kind fn at_=some (objM e kind fn at_ ts ns):=fun ts kind=>zg3 (by omega)
 have fu:∀ ts e,zc9 (fuel+23) ts e=some (zcL zgU 8 e ts):=fun ts e=>zkZ (fuel+12) ts e
 have od:∀ ts e,zf8 (fuel+23) ts e=some (zcL zg7 13 e ts):=fun ts e=>zpi (fuel+19) ts e
 rcases zre h1 h2 with h|h|h|h|h|h|h|h|h|h|h|h|h|h|h|h|h|h|h|h|h|h<;>subst h
 case inr.inr.inr.inr.inr.inr.inr.inr.inr.inr.inr.inr.inr.inr.inr.inr.inr.inl=>
  simp only[zbE,zhm,zf7,zaL,Int.reduceEq,decide_true,decide_false,cond_true,cond_false,Bool.not_true,Bool.not_false,Option.bind_some,zd5,zeI,ob]
  simp only[zlk,opsOf,zjK,Int.reduceSub,Int.reduceToNat,List.getD_cons_zero,List.getD_cons_succ,runO,zgV]
  rw[show(⟨#[99,111,110,100]⟩:ByteArray)=zdo from rfl,show(⟨#[111,102,32,119,97,105,116]⟩:ByteArray)=zdn from rfl]
  rcases hx:objM e zdo fn at_ ts ns with f |⟨r,n'⟩
  ·rfl
  ·dsimp only
   rw[zg3 (by have:=zrf hx;omega)]
   simp only[Option.bind_some]
   rcases objM e zdn fn at_ r n' with f |⟨r2,n2⟩<;>rfl
 case inl|inr.inl|inr.inr.inl|inr.inr.inr.inl|inr.inr.inr.inr.inl|inr.inr.inr.inr.inr.inl=>
  simp only[zbE,zhm,zaL,Int.reduceEq,decide_true,decide_false,cond_true,cond_false,Bool.not_true,Bool.not_false,Option.bind_some,zd5,zeI,fu]
  simp only[zlk,opsOf,zjK,Int.reduceSub,Int.reduceToNat,List.getD_cons_zero,List.getD_cons_succ,zoS,zoR,zoQ,zoO,zoP,zoN,zj7,zm2]
  repeat' (first|rfl |(split<;>simp only[*,Option.bind_some,oth,Int.reduceLE,decide_true]))
 all_goals
  simp only[zbE,zii,zhm,zf7,zaL,Int.reduceEq,decide_true,decide_false,cond_true,cond_false,Bool.not_true,Bool.not_false,Option.bind_some,zd5,zeI,ob,fu,od]
  simp only[zlk,opsOf,zjK,Int.reduceSub,Int.reduceToNat,List.getD_cons_zero,List.getD_cons_succ,zoS,zoR,zoQ,zoO,zoP,zoN,zj7,zm2,kVar,zb0,zdo,ze6]
  repeat' (first|rfl |(split<;>simp only[*,Option.bind_some]))
end Go.Dc.Pa
end
section
namespace Go.Dc
open Go Go.Hw Go.Proofs
def zdY(a0_0:List Token):Option (Fault ⊕ (List Token)):=
 cond (eqI ((a0_0.length:Nat):Int) 0) (some (.inr a0_0)) (Option.bind (a0_0[0]?) (fun x2=>cond (!(eqI x2.Kind 4)) (Option.bind (zaH 14 x2.At) (fun y7=>some (.inl y7))) (zai (slB (1:Int) (a0_0.length:Int) a0_0.length) (Option.bind (some (subL a0_0 (1:Int) (a0_0.length:Int))) (fun l10=>some (.inr l10))))))
theorem zbh{c0_1:FC}{c0_2:FC}{c0_3:FC}{c0_4:FC}{c0_5:FC}{c0_6:FC}{c0_7:FC}{c0_8:FC}{c0_9:FC}{a0_0:List Token}{r:Fault ⊕ (List Token)}(hs:zdY a0_0=some r):CAt Tryz.prog 66 [.cell (.ref (.a 0) 0)] [.cells [sC a0_0,c0_1.ac,c0_2.ac,c0_3.ac,c0_4.ac,c0_5.ac,c0_6.ac,c0_7.ac,c0_8.ac,c0_9.ac]] (panO panV (fun(r:(List Token))=>.tup []) r) (panP (fun(r:(List Token))=>[(.a 0,.cells [sC r,c0_1.ac,c0_2.ac,c0_3.ac,c0_4.ac,c0_5.ac,c0_6.ac,c0_7.ac,c0_8.ac,c0_9.ac])]) r):=by
 refine zab (by kernel_rfl) fun hb=>?_
 refine zac mixed Tryz.func66 (by kernel_rfl) rfl (by kernel_rfl) rfl fun Q hQ=>?_
 rw[zdY]at hs
 refine goR f0 ?_
 revert hs;refine cS f0 ?_ ?_<;>intro h1 hs
 ·refine goR f0 ?_
  obtain rfl:=sj hs
  refine hQ _ _ (zaG _ (Gh.refl _) (by simp[St.frz,St.pur];rfl) (by first|rfl |(simp[St.frz,St.pur];done) |(rw[if_pos (by first|omega |(simp;omega))];simp[St.frz,St.pur];first|omega|exact List.take_of_length_le (by simp;omega)|skip)) (pv f0))
 ·revert hs;refine bK fun x2 hx3 hs=>?_
  have hx3b:=zau hx3
  have f4:zam Tryz.prog 79 (encL a0_0) (0 * 4)=some (iV .i64 x2.Kind):=zae hx3 (f:=0) (by simp)
  refine goR f4 ?_
  revert hs;refine cS f4 ?_ ?_<;>intro h5 hs
  ·have f6:zam Tryz.prog 3 (encL a0_0) (0 * 4+3)=some (iV .i64 x2.At):=zae hx3 (f:=3) (by simp)
   have F1:=an f4 f6
   refine goR F1 ?_
   revert hs;refine bK fun y7 hx8 hs=>?_
   refine cX F1 (zaA hx8) [] (fun v=>?_)
   obtain rfl:=sj hs
   exact hQ _ _ zan
  ·obtain⟨g9,hs⟩:=zaa hs
   obtain⟨g9a,g9b,g9c⟩:=ze0 g9
   revert hs;refine lK fun l10 hx11 hs=>?_
   have f12n:l10.length=((a0_0.length:Int) - (1:Int)).toNat:=by rw[hx11];exact zeC ⟨g9a,g9b,g9c⟩
   have f12e:((encL a0_0).drop (((1:Int):Int).toNat * 4)).take (((a0_0.length:Int) - (1:Int)).toNat * 4)=encL l10:=by rw[hx11];exact zd2 (α:=Token)
   try simp at f12n
   try simp at f12e
   have F2:=an f4 (an g9a (an g9b (an g9c (an f12n f12e))))
   refine goR F2 ?_
   obtain rfl:=sj hs
   refine hQ _ _ (zaG _ (Gh.refl _) (by simp[St.frz,St.pur,F2];rfl) (by first|rfl |(simp[St.frz,St.pur,F2];done) |(rw[if_pos (by first|omega |(simp;omega))];simp[St.frz,St.pur,F2];first|omega|exact List.take_of_length_le (by simp;omega)|skip)) (pv F2))
def zlZ(fuelN:Nat)(a0_0:List Token)(a0_1:Int)(a0_5:List Func)(a0_7:List ANm)(a0_9:List (List Int)):Option (Fault ⊕ (Bool × (List Token) × (List Func) × (List ANm) × (List (List Int)))):=
 Option.bind (a0_0[0]?) (fun x1=>cond (!(eqI x1.Kind 1)) (Option.bind (zaH 14 x1.At) (fun y5=>some (.inl y5))) (Option.bind (iBM fuelN x1.Text) (fun y7=>cond (andB (!y7.2) (!(eqS x1.Text (⟨#[101,110,100]⟩:ByteArray)))) (Option.bind (zaH 8 x1.At) (fun y10=>some (.inl y10))) (zai (slB (1:Int) (a0_0.length:Int) a0_0.length) (Option.bind (some (subL a0_0 (1:Int) (a0_0.length:Int))) (fun l13=>cond y7.2 (Option.bind (getI a0_5 (IntKind.i64.wrap (((a0_5.length:Nat):Int) - 1))) (fun x17=>Option.bind (getI a0_9 (IntKind.i64.wrap (((a0_5.length:Nat):Int) - 1))) (fun x19=>Option.bind (some ([x1.At])) (fun l29=>zai (limB 8 (x19.length+l29.length)) (Option.bind (some (x19++l29)) (fun l32=>Option.bind (some (a0_9.set ((IntKind.i64.wrap (((a0_5.length:Nat):Int) - 1)).toNat) l32)) (fun l36=>Option.bind (zbE fuelN l13 a0_1 a0_7 y7.1 (IntKind.i64.wrap (((a0_5.length:Nat):Int) - 1)) ((x17.Code.length:Nat):Int)) (fun y52=>(match y52 with|.inl e54=>some (.inl e54)|.inr y55=>Option.bind (some ([y55.1])) (fun l56=>zai (limB 64 (x17.Code.length+l56.length)) (Option.bind (some (x17.Code++l56)) (fun l59=>Option.bind (some (a0_5.set ((IntKind.i64.wrap (((a0_5.length:Nat):Int) - 1)).toNat) ({ x17 with Code:=l59 }))) (fun l63=>Option.bind (zdY y55.2.1) (fun y65=>(match y65 with|.inl e67=>some (.inl e67)|.inr y68=>some (.inr (y7.2,y68,l63,y55.2.2,l36))))))))))))))))) (Option.bind (zdY l13) (fun y69=>(match y69 with|.inl e71=>some (.inl e71)|.inr y72=>some (.inr (y7.2,y72,a0_5,a0_7,a0_9)))))))))))
theorem zlW{fuelN:Nat}{c0_2:FC}{c0_3:FC}{c0_4:FC}{c0_6:FC}{c0_8:FC}{a0_0:List Token}{a0_1:Int}{a0_5:List Func}{a0_7:List ANm}{a0_9:List (List Int)}{r:Fault ⊕ (Bool × (List Token) × (List Func) × (List ANm) × (List (List Int)))}(hs:zlZ fuelN a0_0 a0_1 a0_5 a0_7 a0_9=some r):CAt Tryz.prog 36 [.cell (.ref (.a 0) 0)] [.cells [sC a0_0,nC a0_1,c0_2.ac,c0_3.ac,c0_4.ac,.own (.sl 2 a0_5.length (otL a0_5)),c0_6.ac,.own (.sp 7 a0_7.length (encL a0_7)),c0_8.ac,.own (.sl 1 a0_9.length (otL a0_9))]] (panO panV (fun(r:Bool × (List Token) × (List Func) × (List ANm) × (List (List Int)))=>bV r.1) r) (panP (fun(r:Bool × (List Token) × (List Func) × (List ANm) × (List (List Int)))=>[(.a 0,.cells [sC r.2.1,nC a0_1,c0_2.ac,c0_3.ac,c0_4.ac,.own (.sl 2 r.2.2.1.length (otL r.2.2.1)),c0_6.ac,.own (.sp 7 r.2.2.2.1.length (encL r.2.2.2.1)),c0_8.ac,.own (.sl 1 r.2.2.2.2.length (otL r.2.2.2.2))])]) r):=by
 refine zab (by kernel_rfl) fun hb=>?_
 refine zac mixed Tryz.func36 (by kernel_rfl) rfl (by kernel_rfl) rfl fun Q hQ=>?_
 rw[zlZ]at hs
 revert hs;refine bK fun x1 hx2 hs=>?_
 have hx2b:=zau hx2
 have f3:zam Tryz.prog 81 (encL a0_0) (0 * 4)=some (.agg (eA x1)):=zae hx2 (f:=0) (by simp)
 refine goR f3 ?_
 revert hs;refine cS f3 ?_ ?_<;>intro h4 hs
 ·refine goR f3 ?_
  revert hs;refine bK fun y5 hx6 hs=>?_
  refine cX f3 (zaA hx6) [] (fun v=>?_)
  obtain rfl:=sj hs
  exact hQ _ _ zan
 ·refine goR f3 ?_
  revert hs;refine bK fun y7 hx8 hs=>?_
  refine cP f3 (zsy hx8) ?_
  have F1:=an f3 hx2b
  refine goG f3 F1 ?_
  revert hs;refine cS f3 ?_ ?_<;>intro h9 hs
  ·refine goG f3 F1 ?_
   revert hs;refine bK fun y10 hx11 hs=>?_
   refine cX f3 (zaA hx11) [] (fun v=>?_)
   obtain rfl:=sj hs
   exact hQ _ _ zan
  ·obtain⟨g12,hs⟩:=zaa hs
   obtain⟨g12a,g12b,g12c⟩:=ze0 g12
   revert hs;refine lK fun l13 hx14 hs=>?_
   have f15n:l13.length=((a0_0.length:Int) - (1:Int)).toNat:=by rw[hx14];exact zeC ⟨g12a,g12b,g12c⟩
   have f15e:((encL a0_0).drop (((1:Int):Int).toNat * 4)).take (((a0_0.length:Int) - (1:Int)).toNat * 4)=encL l13:=by rw[hx14];exact zd2 (α:=Token)
   try simp at f15n
   try simp at f15e
   have F2:=an f3 (an g12a (an g12b (an g12c (an f15n f15e))))
   have F3:=an F2 hx2b
   refine goG F2 F3 ?_
   revert hs;refine cS F2 ?_ ?_<;>intro h16 hs
   ·revert hs;refine bK fun x17 hx18 hs=>?_
    obtain⟨hx18a,hx18b,hx18c,hx18d⟩:=zao hx18
    have F4:=an F3 (an hx18a hx18b)
    repeat (first|simp[F2]|with_reducible first|refine And.intro (by omega) ?_|refine zbe (by omega) ?_|refine za4 (by with_unfolding_all rfl) _ (fun hg=>by(try simp at hg);first |(simp[hg,F4];rfl) |(simp[F2];simp only[if_pos hg];simp[F2];rfl)) ?_)
    refine za7 ?_
    repeat (first|simp[F2]|with_reducible first|refine And.intro (by omega) ?_|refine zbe (by omega) ?_|refine za4 (by with_unfolding_all rfl) _ (fun hg=>by(try simp at hg);first |(simp[hg,F4];rfl) |(simp[F2];simp only[if_pos hg];simp[F2];rfl)) ?_)
    refine zaX (by rfl) (Gh.opn _ (.a 0) 9) ?_
    try simp only[St.frz,St.pur]
    revert hs;refine bK fun x19 hx20 hs=>?_
    obtain⟨hx20a,hx20b,hx20c,hx20d⟩:=zao hx20
    refine goN F2 ?_
    have f21a:(zah a0_9)[(IntKind.i64.wrap (((a0_5.length:Nat):Int) - 1)).toNat]?=some (.own (.sp 1 x19.length (encL x19))):=zdD hx20d (by first|rfl |(simp;done) |(simp;rfl))
    have f21l:(IntKind.i64.wrap (((a0_5.length:Nat):Int) - 1)).toNat < (zah a0_9).length:=(List.getElem?_eq_some_iff.1 f21a).1
    have f21c:=fun c=>(zbw f21l c).1
    have f21d:=fun c=>(zbw f21l c).2
    refine zaX (by rfl) (Gh.opn _ (.o 10 0 9) ((IntKind.i64.wrap (((a0_5.length:Nat):Int) - 1)).toNat)) ?_
    revert hs;refine lK fun l29 hx30 hs=>?_
    have hx30n:l29.length=1:=by rw[hx30];rfl
    obtain⟨g31,hs⟩:=zaa hs
    have g31:=zbv g31
    obtain⟨g31a,g31b⟩:=g31
    revert hs;refine lK fun l32 hx33 hs=>?_
    have hx33n:l32.length=(x19.length+l29.length):=by rw[hx33];simp
    have hx33e:encL l32=encL x19++encL l29:=by rw[hx33];simp
    have f34:(encL l32).take (l32.length)=encL l32:=zbr _ (by simp)
    have F5:=an F2 (an f21a (an f21c (an f21d (an hx30 (an hx33n hx33e)))))
    try simp[F5]at f34
    have f34l:l32.length * 1<=(encL l32).length:=by rw[zaE];simp
    try simp[F5]at f34l
    revert hs;refine lK fun l36 hx37 hs=>?_
    have f35:(zah a0_9).set ((IntKind.i64.wrap (((a0_5.length:Nat):Int) - 1)).toNat) (.own (.sp 1 l32.length (encL l32)))=zah l36:=by rw[hx37];exact zeq hx20d (by first|rfl |(simp;done) |(simp;rfl))
    have f35n:l36.length=a0_9.length:=by rw[hx37];simp
    have f35t:(encL l32).take (l32.length * 1)=encL l32:=zal _ (by simp)
    have f35u:l32.length=x19.length->(encL l32).take (x19.length * 1)=encL l32:=fun h=>by rw[<- h];exact zal _ (by simp)
    have f35v:l32.length=x19.length->(zah a0_9).set ((IntKind.i64.wrap (((a0_5.length:Nat):Int) - 1)).toNat) (.own (.sp 1 x19.length (encL l32)))=zah l36:=fun h=>by rw[<- h];exact f35
    have f35z:=f35
    have F6:=an F5 (an f34 f34l)
    try simp[F6]at f35z
    have f35w:∀ n:Nat,n=l36.length->(encL l36).take n=encL l36:=fun n h=>by rw[h];exact zbr _ (by simp)
    have f35x:∀ n:Nat,n=l36.length->(zah l36).take n=zah l36:=fun n h=>by rw[h];exact zcb _ (by simp)
    have F7:=an F6 (an f35z (an f35 (an f35n (an f35t (an f35u (an f35v (an f35w f35x)))))))
    refine goN F7 ?_
    refine zdc ?_
    refine goN F7 ?_
    refine zaX (by rfl) (Gh.close _ (.o 10 0 9) ((IntKind.i64.wrap (((a0_5.length:Nat):Int) - 1)).toNat)) ?_
    try simp only[St.frz,St.pur]
    refine goN F7 ?_
    have f38a:(zah a0_5)[((IntKind.i64.wrap (((a0_5.length:Nat):Int) - 1)).toNat) * 2+1]?=some (.own (.sp 8 x17.Code.length (encL x17.Code))):=zdQ hx18d (f:=1) (by first|rfl |(simp;done) |(simp;rfl))
    have f38l:((IntKind.i64.wrap (((a0_5.length:Nat):Int) - 1)).toNat) * 2+1 < (zah a0_5).length:=(List.getElem?_eq_some_iff.1 f38a).1
    have f38c:=fun c=>(zbw f38l c).1
    have f38d:=fun c=>(zbw f38l c).2
    refine zaX (by rfl) (Gh.opn _ (.o 7 4 5) (((IntKind.i64.wrap (((a0_5.length:Nat):Int) - 1)).toNat) * 2+1)) ?_
    have F8:=an F7 (an f38a (an f38c f38d))
    refine goD F8 ?_
    revert hs;refine bK fun y52 hx53 hs=>?_
    rcases y52 with e54|y55
    ·try dsimp only at hs
     refine cXd F8 (zcx (c0_2:=(c0_2.toF [.a 0])) (c0_3:=(c0_3.toF [.a 0])) (c0_4:=(c0_4.toF [.a 0])) (c0_5:=⟨AC.toF [.a 0] (.sl (.o 7 4 5) 0 2 a0_5.length),by simp[F8]⟩) (c0_6:=(c0_6.toF [.a 0])) (c0_8:=(c0_8.toF [.a 0])) (c0_9:=⟨AC.toF [.a 0] (.sl (.o 10 0 9) 0 1 l36.length),by simp[F8]⟩) hx53) [.a 0] ?_
     refine zdq (fun s=>?_) ?_
     ·obtain rfl:=sj hs
      exact hQ _ _ zan
     ·exact goP F8
    ·try dsimp only at hs
     refine cB F8 (zcx (c0_2:=(c0_2.toF [.a 0])) (c0_3:=(c0_3.toF [.a 0])) (c0_4:=(c0_4.toF [.a 0])) (c0_5:=⟨AC.toF [.a 0] (.sl (.o 7 4 5) 0 2 a0_5.length),by simp[F8]⟩) (c0_6:=(c0_6.toF [.a 0])) (c0_8:=(c0_8.toF [.a 0])) (c0_9:=⟨AC.toF [.a 0] (.sl (.o 10 0 9) 0 1 l36.length),by simp[F8]⟩) hx53) [.a 0] ?_
     revert hs;refine lK fun l56 hx57 hs=>?_
     have hx57n:l56.length=1:=by rw[hx57];rfl
     obtain⟨g58,hs⟩:=zaa hs
     have g58:=zbv g58
     obtain⟨g58a,g58b⟩:=g58
     revert hs;refine lK fun l59 hx60 hs=>?_
     have hx60n:l59.length=(x17.Code.length+l56.length):=by rw[hx60];simp
     have hx60e:encL l59=encL x17.Code++encL l56:=by rw[hx60];simp
     have f61:(encL l59).take (l59.length * 8)=encL l59:=zal _ (by simp)
     have F9:=an F8 (an hx57 (an hx60n hx60e))
     try simp[F9]at f61
     have f61l:l59.length * 8<=(encL l59).length:=by rw[zaE];simp
     try simp[F9]at f61l
     revert hs;refine lK fun l63 hx64 hs=>?_
     have f62:(zah a0_5).set (((IntKind.i64.wrap (((a0_5.length:Nat):Int) - 1)).toNat) * 2+1) (.own (.sp 8 l59.length (encL l59)))=zah l63:=by rw[hx64];exact zdP hx18d (f:=1) (by simp) (by first|rfl |(simp;done) |(simp;rfl))
     have f62n:l63.length=a0_5.length:=by rw[hx64];simp
     have f62t:(encL l59).take (l59.length * 8)=encL l59:=zal _ (by simp)
     have f62u:l59.length=x17.Code.length->(encL l59).take (x17.Code.length * 8)=encL l59:=fun h=>by rw[<- h];exact zal _ (by simp)
     have f62v:l59.length=x17.Code.length->(zah a0_5).set (((IntKind.i64.wrap (((a0_5.length:Nat):Int) - 1)).toNat) * 2+1) (.own (.sp 8 x17.Code.length (encL l59)))=zah l63:=fun h=>by rw[<- h];exact f62
     have f62z:=f62
     have F10:=an F9 (an f61 f61l)
     try simp[F10]at f62z
     have f62w:∀ n:Nat,n=l63.length->(encL l63).take (n * 2)=encL l63:=fun n h=>by rw[h];exact zal _ (by simp)
     have f62x:∀ n:Nat,n=l63.length->(zah l63).take (n * 2)=zah l63:=fun n h=>by rw[h];exact zca _ (by simp)
     have F11:=an F10 (an f62z (an f62 (an f62n (an f62t (an f62u (an f62v (an f62w f62x)))))))
     refine goN F11 ?_
     refine zaX (by rfl) (Gh.close _ (.o 7 4 5) (((IntKind.i64.wrap (((a0_5.length:Nat):Int) - 1)).toNat) * 2+1)) ?_
     try simp only[St.frz,St.pur]
     refine goR F11 ?_
     revert hs;refine bK fun y65 hx66 hs=>?_
     rcases y65 with e67|y68
     ·try dsimp only at hs
      refine cX F11 (zbh (c0_1:=⟨AC.toF [.a 0] (nC a0_1),by simp[F11]⟩) (c0_2:=(c0_2.toF [.a 0])) (c0_3:=(c0_3.toF [.a 0])) (c0_4:=(c0_4.toF [.a 0])) (c0_5:=⟨AC.toF [.a 0] (.sl (.o 7 4 5) 0 2 l63.length),by simp[F11]⟩) (c0_6:=(c0_6.toF [.a 0])) (c0_7:=⟨AC.toF [.a 0] (.own (.sp 7 y55.2.2.length (encL y55.2.2))),by simp[F11]⟩) (c0_8:=(c0_8.toF [.a 0])) (c0_9:=⟨AC.toF [.a 0] (.sl (.o 10 0 9) 0 1 l36.length),by simp[F11]⟩) hx66) [.a 0] (fun v=>?_)
      obtain rfl:=sj hs
      exact hQ _ _ zan
     ·try dsimp only at hs
      refine cB F11 (zbh (c0_1:=⟨AC.toF [.a 0] (nC a0_1),by simp[F11]⟩) (c0_2:=(c0_2.toF [.a 0])) (c0_3:=(c0_3.toF [.a 0])) (c0_4:=(c0_4.toF [.a 0])) (c0_5:=⟨AC.toF [.a 0] (.sl (.o 7 4 5) 0 2 l63.length),by simp[F11]⟩) (c0_6:=(c0_6.toF [.a 0])) (c0_7:=⟨AC.toF [.a 0] (.own (.sp 7 y55.2.2.length (encL y55.2.2))),by simp[F11]⟩) (c0_8:=(c0_8.toF [.a 0])) (c0_9:=⟨AC.toF [.a 0] (.sl (.o 10 0 9) 0 1 l36.length),by simp[F11]⟩) hx66) [.a 0] ?_
      refine goR F11 ?_
      obtain rfl:=sj hs
      refine hQ _ _ (zaG _ ((Gh.close _ (.a 0) 5).trans (Gh.close _ (.a 0) 9)) (by simp[St.frz,St.pur,F11];rfl) (by first|rfl |(simp[St.frz,St.pur,F11];done) |(rw[if_pos (by first|omega |(simp;omega))];simp[St.frz,St.pur,F11];first|omega|exact List.take_of_length_le (by simp;omega)|skip)) (pv F11))
   ·refine goG F2 F3 ?_
    revert hs;refine bK fun y69 hx70 hs=>?_
    rcases y69 with e71|y72
    ·try dsimp only at hs
     refine cX F2 (zbh (c0_1:=⟨AC.toF [.a 0] (nC a0_1),by simp[F2]⟩) (c0_2:=(c0_2.toF [.a 0])) (c0_3:=(c0_3.toF [.a 0])) (c0_4:=(c0_4.toF [.a 0])) (c0_5:=⟨AC.toF [.a 0] (.sl (.o 7 4 5) 0 2 a0_5.length),by simp[F2]⟩) (c0_6:=(c0_6.toF [.a 0])) (c0_7:=⟨AC.toF [.a 0] (.own (.sp 7 a0_7.length (encL a0_7))),by simp[F2]⟩) (c0_8:=(c0_8.toF [.a 0])) (c0_9:=⟨AC.toF [.a 0] (.own (.sl 1 a0_9.length (otL a0_9))),by simp[F2]⟩) hx70) [.a 0] (fun v=>?_)
     obtain rfl:=sj hs
     exact hQ _ _ zan
    ·try dsimp only at hs
     refine cB F2 (zbh (c0_1:=⟨AC.toF [.a 0] (nC a0_1),by simp[F2]⟩) (c0_2:=(c0_2.toF [.a 0])) (c0_3:=(c0_3.toF [.a 0])) (c0_4:=(c0_4.toF [.a 0])) (c0_5:=⟨AC.toF [.a 0] (.sl (.o 7 4 5) 0 2 a0_5.length),by simp[F2]⟩) (c0_6:=(c0_6.toF [.a 0])) (c0_7:=⟨AC.toF [.a 0] (.own (.sp 7 a0_7.length (encL a0_7))),by simp[F2]⟩) (c0_8:=(c0_8.toF [.a 0])) (c0_9:=⟨AC.toF [.a 0] (.own (.sl 1 a0_9.length (otL a0_9))),by simp[F2]⟩) hx70) [.a 0] ?_
     refine goG F2 F3 ?_
     obtain rfl:=sj hs
     refine hQ _ _ (zaG _ (Gh.close _ (.a 0) 5) (by simp[St.frz,St.pur,F2];rfl) (by first|rfl |(simp[St.frz,St.pur,F2];done) |(rw[if_pos (by first|omega |(simp;omega))];simp[St.frz,St.pur,F2];first|omega|exact List.take_of_length_le (by simp;omega)|skip)) (pv F2))
def zcW(a0:APr):Option (Fault ⊕ (Bool × APr)):=
 Option.bind (a0.tokens[0]?) (fun x1=>cond (orB (!(eqI x1.Kind 1)) (andB (andB (andB (andB (!(eqS x1.Text (⟨#[118,97,114]⟩:ByteArray))) (!(eqS x1.Text (⟨#[109,117,116,101,120]⟩:ByteArray)))) (!(eqS x1.Text (⟨#[99,111,110,100]⟩:ByteArray)))) (!(eqS x1.Text (⟨#[102,117,110,99]⟩:ByteArray)))) (!(eqS x1.Text (⟨#[116,104,114,101,97,100]⟩:ByteArray))))) (Option.bind (zaH 14 x1.At) (fun y5=>some (.inl y5))) (zai (slB (1:Int) (a0.tokens.length:Int) a0.tokens.length) (Option.bind (some (subL a0.tokens (1:Int) (a0.tokens.length:Int))) (fun l8=>cond (eqS x1.Text (⟨#[118,97,114]⟩:ByteArray)) (Option.bind (zds l8 a0.end_ 1) (fun y12=>(match y12 with|.inl e14=>some (.inl e14)|.inr y15=>Option.bind (zds y15.2 a0.end_ 2) (fun y25=>(match y25 with|.inl e27=>some (.inl e27)|.inr y28=>Option.bind (some ([({ Name:=y15.1.Text,Init:=y28.1.N }:Var)])) (fun l29=>zai (limB 24 (a0.p.Vars.length+l29.length)) (Option.bind (some (a0.p.Vars++l29)) (fun l32=>Option.bind (zdY y28.2) (fun y34=>(match y34 with|.inl e36=>some (.inl e36)|.inr y37=>some (.inr (eqS x1.Text (⟨#[102,117,110,99]⟩:ByteArray),{ a0 with tokens:=y37,p:=({ Vars:=l32,Mutexes:=a0.p.Mutexes,Conds:=a0.p.Conds,Funcs:=a0.p.Funcs,Threads:=a0.p.Threads }:Program) })))))))))))) (cond (eqS x1.Text (⟨#[109,117,116,101,120]⟩:ByteArray)) (Option.bind (zds l8 a0.end_ 1) (fun y49=>(match y49 with|.inl e51=>some (.inl e51)|.inr y52=>Option.bind (some ([y52.1.Text])) (fun l53=>zai (limB 16 (a0.p.Mutexes.length+l53.length)) (Option.bind (some (a0.p.Mutexes++l53)) (fun l56=>Option.bind (zdY y52.2) (fun y58=>(match y58 with|.inl e60=>some (.inl e60)|.inr y61=>some (.inr (eqS x1.Text (⟨#[102,117,110,99]⟩:ByteArray),{ a0 with tokens:=y61,p:=({ Vars:=a0.p.Vars,Mutexes:=l56,Conds:=a0.p.Conds,Funcs:=a0.p.Funcs,Threads:=a0.p.Threads }:Program) })))))))))) (cond (eqS x1.Text (⟨#[99,111,110,100]⟩:ByteArray)) (Option.bind (zds l8 a0.end_ 1) (fun y73=>(match y73 with|.inl e75=>some (.inl e75)|.inr y76=>Option.bind (some ([y76.1.Text])) (fun l77=>zai (limB 16 (a0.p.Conds.length+l77.length)) (Option.bind (some (a0.p.Conds++l77)) (fun l80=>Option.bind (zdY y76.2) (fun y82=>(match y82 with|.inl e84=>some (.inl e84)|.inr y85=>some (.inr (eqS x1.Text (⟨#[102,117,110,99]⟩:ByteArray),{ a0 with tokens:=y85,p:=({ Vars:=a0.p.Vars,Mutexes:=a0.p.Mutexes,Conds:=l80,Funcs:=a0.p.Funcs,Threads:=a0.p.Threads }:Program) })))))))))) (cond (eqS x1.Text (⟨#[102,117,110,99]⟩:ByteArray)) (Option.bind (zds l8 a0.end_ 1) (fun y98=>(match y98 with|.inl e100=>some (.inl e100)|.inr y101=>Option.bind (some ([({ Name:=y101.1.Text,Code:=[] }:Func)])) (fun l102=>zai (limB 40 (a0.p.Funcs.length+l102.length)) (Option.bind (some (a0.p.Funcs++l102)) (fun l105=>Option.bind (some ([x1.At])) (fun l113=>zai (limB 8 (a0.funcs.length+l113.length)) (Option.bind (some (a0.funcs++l113)) (fun l116=>Option.bind (some ([[]])) (fun l118=>zai (limB 24 (a0.insts.length+l118.length)) (Option.bind (some (a0.insts++l118)) (fun l121=>Option.bind (zdY y101.2) (fun y124=>(match y124 with|.inl e126=>some (.inl e126)|.inr y127=>some (.inr (eqS x1.Text (⟨#[102,117,110,99]⟩:ByteArray),({ tokens:=y127,end_:=a0.end_,p:=({ Vars:=a0.p.Vars,Mutexes:=a0.p.Mutexes,Conds:=a0.p.Conds,Funcs:=l105,Threads:=a0.p.Threads }:Program),names:=a0.names,funcs:=l116,insts:=l121 }:APr))))))))))))))))) (Option.bind (zcp l8 a0.end_ a0.names (⟨#[116,104,114,101,97,100]⟩:ByteArray) ((a0.p.Threads.length:Nat):Int) 0) (fun y131=>(match y131 with|.inl e133=>some (.inl e133)|.inr y134=>Option.bind (zds y134.1 a0.end_ 2) (fun y144=>(match y144 with|.inl e146=>some (.inl e146)|.inr y147=>Option.bind (some ([({ Func:=0,Arg:=y147.1.N }:Start)])) (fun l148=>zai (limB 16 (a0.p.Threads.length+l148.length)) (Option.bind (some (a0.p.Threads++l148)) (fun l151=>Option.bind (zdY y147.2) (fun y153=>(match y153 with|.inl e155=>some (.inl e155)|.inr y156=>some (.inr (eqS x1.Text (⟨#[102,117,110,99]⟩:ByteArray),{ a0 with tokens:=y156,p:=({ Vars:=a0.p.Vars,Mutexes:=a0.p.Mutexes,Conds:=a0.p.Conds,Funcs:=a0.p.Funcs,Threads:=l151 }:Program),names:=y134.2 })))))))))))))))))))
theorem zeZ{a0:APr}{r:Fault ⊕ (Bool × APr)}(hs:zcW a0=some r):CAt Tryz.prog 37 [.cell (.ref (.a 0) 0)] [.cells [sC a0.tokens,nC a0.end_,.own (.sp 2 a0.p.Vars.length (encL a0.p.Vars)),.own (.sp 1 a0.p.Mutexes.length (encL a0.p.Mutexes)),.own (.sp 1 a0.p.Conds.length (encL a0.p.Conds)),.own (.sl 2 a0.p.Funcs.length (otL a0.p.Funcs)),.own (.sp 2 a0.p.Threads.length (encL a0.p.Threads)),.own (.sp 7 a0.names.length (encL a0.names)),.own (.sp 1 a0.funcs.length (encL a0.funcs)),.own (.sl 1 a0.insts.length (otL a0.insts))]] (panO panV (fun(r:Bool × APr)=>bV r.1) r) (panP (fun(r:Bool × APr)=>[(.a 0,.cells [sC r.2.tokens,nC r.2.end_,.own (.sp 2 r.2.p.Vars.length (encL r.2.p.Vars)),.own (.sp 1 r.2.p.Mutexes.length (encL r.2.p.Mutexes)),.own (.sp 1 r.2.p.Conds.length (encL r.2.p.Conds)),.own (.sl 2 r.2.p.Funcs.length (otL r.2.p.Funcs)),.own (.sp 2 r.2.p.Threads.length (encL r.2.p.Threads)),.own (.sp 7 r.2.names.length (encL r.2.names)),.own (.sp 1 r.2.funcs.length (encL r.2.funcs)),.own (.sl 1 r.2.insts.length (otL r.2.insts))])]) r):=by
 refine zab (by kernel_rfl) fun hb=>?_
 refine zac mixed Tryz.func37 (by kernel_rfl) rfl (by kernel_rfl) rfl fun Q hQ=>?_
 rw[zcW]at hs
 revert hs;refine bK fun x1 hx2 hs=>?_
 have hx2b:=zau hx2
 have f3:zam Tryz.prog 81 (encL a0.tokens) (0 * 4)=some (.agg (eA x1)):=zae hx2 (f:=0) (by simp)
 have F1:=an f3 hx2b
 refine goG f3 F1 ?_
 revert hs;refine cS f3 ?_ ?_<;>intro h4 hs
 ·refine goG f3 F1 ?_
  revert hs;refine bK fun y5 hx6 hs=>?_
  refine cX f3 (zaA hx6) [] (fun v=>?_)
  obtain rfl:=sj hs
  exact hQ _ _ zan
 ·obtain⟨g7,hs⟩:=zaa hs
  obtain⟨g7a,g7b,g7c⟩:=ze0 g7
  revert hs;refine lK fun l8 hx9 hs=>?_
  have f10n:l8.length=((a0.tokens.length:Int) - (1:Int)).toNat:=by rw[hx9];exact zeC ⟨g7a,g7b,g7c⟩
  have f10e:((encL a0.tokens).drop (((1:Int):Int).toNat * 4)).take (((a0.tokens.length:Int) - (1:Int)).toNat * 4)=encL l8:=by rw[hx9];exact zd2 (α:=Token)
  try simp at f10n
  try simp at f10e
  have F2:=an f3 (an g7a (an g7b (an g7c (an f10n f10e))))
  have F3:=an F2 hx2b
  refine goG F2 F3 ?_
  revert hs;refine cS F2 ?_ ?_<;>intro h11 hs
  ·refine goG F2 F3 ?_
   revert hs;refine bK fun y12 hx13 hs=>?_
   rcases y12 with e14|y15
   ·try dsimp only at hs
    refine cX F2 (zaD (c0_2:=⟨AC.toF [.a 0] (.own (.sp 2 a0.p.Vars.length (encL a0.p.Vars))),by simp[F2]⟩) (c0_3:=⟨AC.toF [.a 0] (.own (.sp 1 a0.p.Mutexes.length (encL a0.p.Mutexes))),by simp[F2]⟩) (c0_4:=⟨AC.toF [.a 0] (.own (.sp 1 a0.p.Conds.length (encL a0.p.Conds))),by simp[F2]⟩) (c0_5:=⟨AC.toF [.a 0] (.own (.sl 2 a0.p.Funcs.length (otL a0.p.Funcs))),by simp[F2]⟩) (c0_6:=⟨AC.toF [.a 0] (.own (.sp 2 a0.p.Threads.length (encL a0.p.Threads))),by simp[F2]⟩) (c0_7:=⟨AC.toF [.a 0] (.own (.sp 7 a0.names.length (encL a0.names))),by simp[F2]⟩) (c0_8:=⟨AC.toF [.a 0] (.own (.sp 1 a0.funcs.length (encL a0.funcs))),by simp[F2]⟩) (c0_9:=⟨AC.toF [.a 0] (.own (.sl 1 a0.insts.length (otL a0.insts))),by simp[F2]⟩) hx13) [.a 0] (fun v=>?_)
    obtain rfl:=sj hs
    exact hQ _ _ zan
   ·try dsimp only at hs
    refine cB F2 (zaD (c0_2:=⟨AC.toF [.a 0] (.own (.sp 2 a0.p.Vars.length (encL a0.p.Vars))),by simp[F2]⟩) (c0_3:=⟨AC.toF [.a 0] (.own (.sp 1 a0.p.Mutexes.length (encL a0.p.Mutexes))),by simp[F2]⟩) (c0_4:=⟨AC.toF [.a 0] (.own (.sp 1 a0.p.Conds.length (encL a0.p.Conds))),by simp[F2]⟩) (c0_5:=⟨AC.toF [.a 0] (.own (.sl 2 a0.p.Funcs.length (otL a0.p.Funcs))),by simp[F2]⟩) (c0_6:=⟨AC.toF [.a 0] (.own (.sp 2 a0.p.Threads.length (encL a0.p.Threads))),by simp[F2]⟩) (c0_7:=⟨AC.toF [.a 0] (.own (.sp 7 a0.names.length (encL a0.names))),by simp[F2]⟩) (c0_8:=⟨AC.toF [.a 0] (.own (.sp 1 a0.funcs.length (encL a0.funcs))),by simp[F2]⟩) (c0_9:=⟨AC.toF [.a 0] (.own (.sl 1 a0.insts.length (otL a0.insts))),by simp[F2]⟩) hx13) [.a 0] ?_
    repeat (first|simp[F2]|with_reducible first|refine And.intro (by omega) ?_|refine zbe (by omega) ?_|refine za4 (by with_unfolding_all rfl) _ (fun hg=>by(try simp at hg);first |(simp[hg,F3];rfl) |(simp[F2];simp only[if_pos hg];simp[F2];rfl)) ?_)
    refine zaX (by rfl) (Gh.opn _ (.a 0) 2) ?_
    try simp only[St.frz,St.pur]
    refine goD F2 ?_
    revert hs;refine bK fun y25 hx26 hs=>?_
    rcases y25 with e27|y28
    ·try dsimp only at hs
     refine cXd F2 (zaD (c0_2:=⟨AC.toF [.a 0] (.sl (.o 9 0 2) 0 2 a0.p.Vars.length),by simp[F2]⟩) (c0_3:=⟨AC.toF [.a 0] (.own (.sp 1 a0.p.Mutexes.length (encL a0.p.Mutexes))),by simp[F2]⟩) (c0_4:=⟨AC.toF [.a 0] (.own (.sp 1 a0.p.Conds.length (encL a0.p.Conds))),by simp[F2]⟩) (c0_5:=⟨AC.toF [.a 0] (.own (.sl 2 a0.p.Funcs.length (otL a0.p.Funcs))),by simp[F2]⟩) (c0_6:=⟨AC.toF [.a 0] (.own (.sp 2 a0.p.Threads.length (encL a0.p.Threads))),by simp[F2]⟩) (c0_7:=⟨AC.toF [.a 0] (.own (.sp 7 a0.names.length (encL a0.names))),by simp[F2]⟩) (c0_8:=⟨AC.toF [.a 0] (.own (.sp 1 a0.funcs.length (encL a0.funcs))),by simp[F2]⟩) (c0_9:=⟨AC.toF [.a 0] (.own (.sl 1 a0.insts.length (otL a0.insts))),by simp[F2]⟩) hx26) [.a 0] ?_
     refine zdq (fun s=>?_) ?_
     ·obtain rfl:=sj hs
      exact hQ _ _ zan
     ·exact goP F2
    ·try dsimp only at hs
     refine cB F2 (zaD (c0_2:=⟨AC.toF [.a 0] (.sl (.o 9 0 2) 0 2 a0.p.Vars.length),by simp[F2]⟩) (c0_3:=⟨AC.toF [.a 0] (.own (.sp 1 a0.p.Mutexes.length (encL a0.p.Mutexes))),by simp[F2]⟩) (c0_4:=⟨AC.toF [.a 0] (.own (.sp 1 a0.p.Conds.length (encL a0.p.Conds))),by simp[F2]⟩) (c0_5:=⟨AC.toF [.a 0] (.own (.sl 2 a0.p.Funcs.length (otL a0.p.Funcs))),by simp[F2]⟩) (c0_6:=⟨AC.toF [.a 0] (.own (.sp 2 a0.p.Threads.length (encL a0.p.Threads))),by simp[F2]⟩) (c0_7:=⟨AC.toF [.a 0] (.own (.sp 7 a0.names.length (encL a0.names))),by simp[F2]⟩) (c0_8:=⟨AC.toF [.a 0] (.own (.sp 1 a0.funcs.length (encL a0.funcs))),by simp[F2]⟩) (c0_9:=⟨AC.toF [.a 0] (.own (.sl 1 a0.insts.length (otL a0.insts))),by simp[F2]⟩) hx26) [.a 0] ?_
     revert hs;refine lK fun l29 hx30 hs=>?_
     have hx30n:l29.length=1:=by rw[hx30];rfl
     obtain⟨g31,hs⟩:=zaa hs
     have g31:=zbv g31
     obtain⟨g31a,g31b⟩:=g31
     revert hs;refine lK fun l32 hx33 hs=>?_
     have hx33n:l32.length=(a0.p.Vars.length+l29.length):=by rw[hx33];simp
     have hx33e:encL l32=encL a0.p.Vars++encL l29:=by rw[hx33];simp
     have F4:=an F2 (an hx30 (an hx33n hx33e))
     refine goD F4 ?_
     revert hs;refine bK fun y34 hx35 hs=>?_
     rcases y34 with e36|y37
     ·try dsimp only at hs
      refine cX F4 (zbh (c0_1:=⟨AC.toF [.a 0] (nC a0.end_),by simp[F4]⟩) (c0_2:=⟨AC.toF [.a 0] (.sl (.o 10 12 0) 0 2 l32.length),by simp[F4]⟩) (c0_3:=⟨AC.toF [.a 0] (.own (.sp 1 a0.p.Mutexes.length (encL a0.p.Mutexes))),by simp[F4]⟩) (c0_4:=⟨AC.toF [.a 0] (.own (.sp 1 a0.p.Conds.length (encL a0.p.Conds))),by simp[F4]⟩) (c0_5:=⟨AC.toF [.a 0] (.own (.sl 2 a0.p.Funcs.length (otL a0.p.Funcs))),by simp[F4]⟩) (c0_6:=⟨AC.toF [.a 0] (.own (.sp 2 a0.p.Threads.length (encL a0.p.Threads))),by simp[F4]⟩) (c0_7:=⟨AC.toF [.a 0] (.own (.sp 7 a0.names.length (encL a0.names))),by simp[F4]⟩) (c0_8:=⟨AC.toF [.a 0] (.own (.sp 1 a0.funcs.length (encL a0.funcs))),by simp[F4]⟩) (c0_9:=⟨AC.toF [.a 0] (.own (.sl 1 a0.insts.length (otL a0.insts))),by simp[F4]⟩) hx35) [.a 0] (fun v=>?_)
      obtain rfl:=sj hs
      exact hQ _ _ zan
     ·try dsimp only at hs
      refine cB F4 (zbh (c0_1:=⟨AC.toF [.a 0] (nC a0.end_),by simp[F4]⟩) (c0_2:=⟨AC.toF [.a 0] (.sl (.o 10 12 0) 0 2 l32.length),by simp[F4]⟩) (c0_3:=⟨AC.toF [.a 0] (.own (.sp 1 a0.p.Mutexes.length (encL a0.p.Mutexes))),by simp[F4]⟩) (c0_4:=⟨AC.toF [.a 0] (.own (.sp 1 a0.p.Conds.length (encL a0.p.Conds))),by simp[F4]⟩) (c0_5:=⟨AC.toF [.a 0] (.own (.sl 2 a0.p.Funcs.length (otL a0.p.Funcs))),by simp[F4]⟩) (c0_6:=⟨AC.toF [.a 0] (.own (.sp 2 a0.p.Threads.length (encL a0.p.Threads))),by simp[F4]⟩) (c0_7:=⟨AC.toF [.a 0] (.own (.sp 7 a0.names.length (encL a0.names))),by simp[F4]⟩) (c0_8:=⟨AC.toF [.a 0] (.own (.sp 1 a0.funcs.length (encL a0.funcs))),by simp[F4]⟩) (c0_9:=⟨AC.toF [.a 0] (.own (.sl 1 a0.insts.length (otL a0.insts))),by simp[F4]⟩) hx35) [.a 0] ?_
      refine goD F4 ?_
      have f38:(encL l32).take (l32.length * 2)=encL l32:=zal _ (by simp)
      try simp[F4]at f38
      have f38l:l32.length * 2<=(encL l32).length:=by rw[zaE];simp
      try simp[F4]at f38l
      obtain rfl:=sj hs
      have F5:=an F4 (an f38 f38l)
      refine hQ _ _ (zaG _ (Gh.close _ (.a 0) 2) (by simp[St.frz,St.pur,F5];rfl) (by first|rfl |(simp[St.frz,St.pur,F5];done) |(rw[if_pos (by first|omega |(simp;omega))];simp[St.frz,St.pur,F5];first|omega|exact List.take_of_length_le (by simp;omega)|skip)) (pv F5))
  ·refine goG F2 F3 ?_
   revert hs;refine cS F2 ?_ ?_<;>intro h39 hs
   ·repeat (first|simp[F2]|with_reducible first|refine And.intro (by omega) ?_|refine zbe (by omega) ?_|refine za4 (by with_unfolding_all rfl) _ (fun hg=>by(try simp at hg);first |(simp[hg,F3];rfl) |(simp[F2];simp only[if_pos hg];simp[F2];rfl)) ?_)
    refine zaX (by rfl) (Gh.opn _ (.a 0) 3) ?_
    try simp only[St.frz,St.pur]
    refine goD F2 ?_
    revert hs;refine bK fun y49 hx50 hs=>?_
    rcases y49 with e51|y52
    ·try dsimp only at hs
     refine cXd F2 (zaD (c0_2:=⟨AC.toF [.a 0] (.own (.sp 2 a0.p.Vars.length (encL a0.p.Vars))),by simp[F2]⟩) (c0_3:=⟨AC.toF [.a 0] (.sl (.o 9 0 3) 0 1 a0.p.Mutexes.length),by simp[F2]⟩) (c0_4:=⟨AC.toF [.a 0] (.own (.sp 1 a0.p.Conds.length (encL a0.p.Conds))),by simp[F2]⟩) (c0_5:=⟨AC.toF [.a 0] (.own (.sl 2 a0.p.Funcs.length (otL a0.p.Funcs))),by simp[F2]⟩) (c0_6:=⟨AC.toF [.a 0] (.own (.sp 2 a0.p.Threads.length (encL a0.p.Threads))),by simp[F2]⟩) (c0_7:=⟨AC.toF [.a 0] (.own (.sp 7 a0.names.length (encL a0.names))),by simp[F2]⟩) (c0_8:=⟨AC.toF [.a 0] (.own (.sp 1 a0.funcs.length (encL a0.funcs))),by simp[F2]⟩) (c0_9:=⟨AC.toF [.a 0] (.own (.sl 1 a0.insts.length (otL a0.insts))),by simp[F2]⟩) hx50) [.a 0] ?_
     refine zdq (fun s=>?_) ?_
     ·obtain rfl:=sj hs
      exact hQ _ _ zan
     ·exact goP F2
    ·try dsimp only at hs
     refine cB F2 (zaD (c0_2:=⟨AC.toF [.a 0] (.own (.sp 2 a0.p.Vars.length (encL a0.p.Vars))),by simp[F2]⟩) (c0_3:=⟨AC.toF [.a 0] (.sl (.o 9 0 3) 0 1 a0.p.Mutexes.length),by simp[F2]⟩) (c0_4:=⟨AC.toF [.a 0] (.own (.sp 1 a0.p.Conds.length (encL a0.p.Conds))),by simp[F2]⟩) (c0_5:=⟨AC.toF [.a 0] (.own (.sl 2 a0.p.Funcs.length (otL a0.p.Funcs))),by simp[F2]⟩) (c0_6:=⟨AC.toF [.a 0] (.own (.sp 2 a0.p.Threads.length (encL a0.p.Threads))),by simp[F2]⟩) (c0_7:=⟨AC.toF [.a 0] (.own (.sp 7 a0.names.length (encL a0.names))),by simp[F2]⟩) (c0_8:=⟨AC.toF [.a 0] (.own (.sp 1 a0.funcs.length (encL a0.funcs))),by simp[F2]⟩) (c0_9:=⟨AC.toF [.a 0] (.own (.sl 1 a0.insts.length (otL a0.insts))),by simp[F2]⟩) hx50) [.a 0] ?_
     revert hs;refine lK fun l53 hx54 hs=>?_
     have hx54n:l53.length=1:=by rw[hx54];rfl
     obtain⟨g55,hs⟩:=zaa hs
     have g55:=zbv g55
     obtain⟨g55a,g55b⟩:=g55
     revert hs;refine lK fun l56 hx57 hs=>?_
     have hx57n:l56.length=(a0.p.Mutexes.length+l53.length):=by rw[hx57];simp
     have hx57e:encL l56=encL a0.p.Mutexes++encL l53:=by rw[hx57];simp
     have F6:=an F2 (an hx54 (an hx57n hx57e))
     refine goD F6 ?_
     revert hs;refine bK fun y58 hx59 hs=>?_
     rcases y58 with e60|y61
     ·try dsimp only at hs
      refine cX F6 (zbh (c0_1:=⟨AC.toF [.a 0] (nC a0.end_),by simp[F6]⟩) (c0_2:=⟨AC.toF [.a 0] (.own (.sp 2 a0.p.Vars.length (encL a0.p.Vars))),by simp[F6]⟩) (c0_3:=⟨AC.toF [.a 0] (.sl (.o 10 10 0) 0 1 l56.length),by simp[F6]⟩) (c0_4:=⟨AC.toF [.a 0] (.own (.sp 1 a0.p.Conds.length (encL a0.p.Conds))),by simp[F6]⟩) (c0_5:=⟨AC.toF [.a 0] (.own (.sl 2 a0.p.Funcs.length (otL a0.p.Funcs))),by simp[F6]⟩) (c0_6:=⟨AC.toF [.a 0] (.own (.sp 2 a0.p.Threads.length (encL a0.p.Threads))),by simp[F6]⟩) (c0_7:=⟨AC.toF [.a 0] (.own (.sp 7 a0.names.length (encL a0.names))),by simp[F6]⟩) (c0_8:=⟨AC.toF [.a 0] (.own (.sp 1 a0.funcs.length (encL a0.funcs))),by simp[F6]⟩) (c0_9:=⟨AC.toF [.a 0] (.own (.sl 1 a0.insts.length (otL a0.insts))),by simp[F6]⟩) hx59) [.a 0] (fun v=>?_)
      obtain rfl:=sj hs
      exact hQ _ _ zan
     ·try dsimp only at hs
      refine cB F6 (zbh (c0_1:=⟨AC.toF [.a 0] (nC a0.end_),by simp[F6]⟩) (c0_2:=⟨AC.toF [.a 0] (.own (.sp 2 a0.p.Vars.length (encL a0.p.Vars))),by simp[F6]⟩) (c0_3:=⟨AC.toF [.a 0] (.sl (.o 10 10 0) 0 1 l56.length),by simp[F6]⟩) (c0_4:=⟨AC.toF [.a 0] (.own (.sp 1 a0.p.Conds.length (encL a0.p.Conds))),by simp[F6]⟩) (c0_5:=⟨AC.toF [.a 0] (.own (.sl 2 a0.p.Funcs.length (otL a0.p.Funcs))),by simp[F6]⟩) (c0_6:=⟨AC.toF [.a 0] (.own (.sp 2 a0.p.Threads.length (encL a0.p.Threads))),by simp[F6]⟩) (c0_7:=⟨AC.toF [.a 0] (.own (.sp 7 a0.names.length (encL a0.names))),by simp[F6]⟩) (c0_8:=⟨AC.toF [.a 0] (.own (.sp 1 a0.funcs.length (encL a0.funcs))),by simp[F6]⟩) (c0_9:=⟨AC.toF [.a 0] (.own (.sl 1 a0.insts.length (otL a0.insts))),by simp[F6]⟩) hx59) [.a 0] ?_
      refine goD F6 ?_
      have f62:(encL l56).take (l56.length)=encL l56:=zbr _ (by simp)
      try simp[F6]at f62
      have f62l:l56.length * 1<=(encL l56).length:=by rw[zaE];simp
      try simp[F6]at f62l
      obtain rfl:=sj hs
      have F7:=an F6 (an f62 f62l)
      refine hQ _ _ (zaG _ (Gh.close _ (.a 0) 3) (by simp[St.frz,St.pur,F7];rfl) (by first|rfl |(simp[St.frz,St.pur,F7];done) |(rw[if_pos (by first|omega |(simp;omega))];simp[St.frz,St.pur,F7];first|omega|exact List.take_of_length_le (by simp;omega)|skip)) (pv F7))
   ·refine goG F2 F3 ?_
    revert hs;refine cS F2 ?_ ?_<;>intro h63 hs
    ·repeat (first|simp[F2]|with_reducible first|refine And.intro (by omega) ?_|refine zbe (by omega) ?_|refine za4 (by with_unfolding_all rfl) _ (fun hg=>by(try simp at hg);first |(simp[hg,F3];rfl) |(simp[F2];simp only[if_pos hg];simp[F2];rfl)) ?_)
     refine zaX (by rfl) (Gh.opn _ (.a 0) 4) ?_
     try simp only[St.frz,St.pur]
     refine goD F2 ?_
     revert hs;refine bK fun y73 hx74 hs=>?_
     rcases y73 with e75|y76
     ·try dsimp only at hs
      refine cXd F2 (zaD (c0_2:=⟨AC.toF [.a 0] (.own (.sp 2 a0.p.Vars.length (encL a0.p.Vars))),by simp[F2]⟩) (c0_3:=⟨AC.toF [.a 0] (.own (.sp 1 a0.p.Mutexes.length (encL a0.p.Mutexes))),by simp[F2]⟩) (c0_4:=⟨AC.toF [.a 0] (.sl (.o 10 0 4) 0 1 a0.p.Conds.length),by simp[F2]⟩) (c0_5:=⟨AC.toF [.a 0] (.own (.sl 2 a0.p.Funcs.length (otL a0.p.Funcs))),by simp[F2]⟩) (c0_6:=⟨AC.toF [.a 0] (.own (.sp 2 a0.p.Threads.length (encL a0.p.Threads))),by simp[F2]⟩) (c0_7:=⟨AC.toF [.a 0] (.own (.sp 7 a0.names.length (encL a0.names))),by simp[F2]⟩) (c0_8:=⟨AC.toF [.a 0] (.own (.sp 1 a0.funcs.length (encL a0.funcs))),by simp[F2]⟩) (c0_9:=⟨AC.toF [.a 0] (.own (.sl 1 a0.insts.length (otL a0.insts))),by simp[F2]⟩) hx74) [.a 0] ?_
      refine zdq (fun s=>?_) ?_
      ·obtain rfl:=sj hs
       exact hQ _ _ zan
      ·exact goP F2
     ·try dsimp only at hs
      refine cB F2 (zaD (c0_2:=⟨AC.toF [.a 0] (.own (.sp 2 a0.p.Vars.length (encL a0.p.Vars))),by simp[F2]⟩) (c0_3:=⟨AC.toF [.a 0] (.own (.sp 1 a0.p.Mutexes.length (encL a0.p.Mutexes))),by simp[F2]⟩) (c0_4:=⟨AC.toF [.a 0] (.sl (.o 10 0 4) 0 1 a0.p.Conds.length),by simp[F2]⟩) (c0_5:=⟨AC.toF [.a 0] (.own (.sl 2 a0.p.Funcs.length (otL a0.p.Funcs))),by simp[F2]⟩) (c0_6:=⟨AC.toF [.a 0] (.own (.sp 2 a0.p.Threads.length (encL a0.p.Threads))),by simp[F2]⟩) (c0_7:=⟨AC.toF [.a 0] (.own (.sp 7 a0.names.length (encL a0.names))),by simp[F2]⟩) (c0_8:=⟨AC.toF [.a 0] (.own (.sp 1 a0.funcs.length (encL a0.funcs))),by simp[F2]⟩) (c0_9:=⟨AC.toF [.a 0] (.own (.sl 1 a0.insts.length (otL a0.insts))),by simp[F2]⟩) hx74) [.a 0] ?_
      revert hs;refine lK fun l77 hx78 hs=>?_
      have hx78n:l77.length=1:=by rw[hx78];rfl
      obtain⟨g79,hs⟩:=zaa hs
      have g79:=zbv g79
      obtain⟨g79a,g79b⟩:=g79
      revert hs;refine lK fun l80 hx81 hs=>?_
      have hx81n:l80.length=(a0.p.Conds.length+l77.length):=by rw[hx81];simp
      have hx81e:encL l80=encL a0.p.Conds++encL l77:=by rw[hx81];simp
      have F8:=an F2 (an hx78 (an hx81n hx81e))
      refine goD F8 ?_
      revert hs;refine bK fun y82 hx83 hs=>?_
      rcases y82 with e84|y85
      ·try dsimp only at hs
       refine cX F8 (zbh (c0_1:=⟨AC.toF [.a 0] (nC a0.end_),by simp[F8]⟩) (c0_2:=⟨AC.toF [.a 0] (.own (.sp 2 a0.p.Vars.length (encL a0.p.Vars))),by simp[F8]⟩) (c0_3:=⟨AC.toF [.a 0] (.own (.sp 1 a0.p.Mutexes.length (encL a0.p.Mutexes))),by simp[F8]⟩) (c0_4:=⟨AC.toF [.a 0] (.sl (.o 11 10 0) 0 1 l80.length),by simp[F8]⟩) (c0_5:=⟨AC.toF [.a 0] (.own (.sl 2 a0.p.Funcs.length (otL a0.p.Funcs))),by simp[F8]⟩) (c0_6:=⟨AC.toF [.a 0] (.own (.sp 2 a0.p.Threads.length (encL a0.p.Threads))),by simp[F8]⟩) (c0_7:=⟨AC.toF [.a 0] (.own (.sp 7 a0.names.length (encL a0.names))),by simp[F8]⟩) (c0_8:=⟨AC.toF [.a 0] (.own (.sp 1 a0.funcs.length (encL a0.funcs))),by simp[F8]⟩) (c0_9:=⟨AC.toF [.a 0] (.own (.sl 1 a0.insts.length (otL a0.insts))),by simp[F8]⟩) hx83) [.a 0] (fun v=>?_)
       obtain rfl:=sj hs
       exact hQ _ _ zan
      ·try dsimp only at hs
       refine cB F8 (zbh (c0_1:=⟨AC.toF [.a 0] (nC a0.end_),by simp[F8]⟩) (c0_2:=⟨AC.toF [.a 0] (.own (.sp 2 a0.p.Vars.length (encL a0.p.Vars))),by simp[F8]⟩) (c0_3:=⟨AC.toF [.a 0] (.own (.sp 1 a0.p.Mutexes.length (encL a0.p.Mutexes))),by simp[F8]⟩) (c0_4:=⟨AC.toF [.a 0] (.sl (.o 11 10 0) 0 1 l80.length),by simp[F8]⟩) (c0_5:=⟨AC.toF [.a 0] (.own (.sl 2 a0.p.Funcs.length (otL a0.p.Funcs))),by simp[F8]⟩) (c0_6:=⟨AC.toF [.a 0] (.own (.sp 2 a0.p.Threads.length (encL a0.p.Threads))),by simp[F8]⟩) (c0_7:=⟨AC.toF [.a 0] (.own (.sp 7 a0.names.length (encL a0.names))),by simp[F8]⟩) (c0_8:=⟨AC.toF [.a 0] (.own (.sp 1 a0.funcs.length (encL a0.funcs))),by simp[F8]⟩) (c0_9:=⟨AC.toF [.a 0] (.own (.sl 1 a0.insts.length (otL a0.insts))),by simp[F8]⟩) hx83) [.a 0] ?_
       refine goD F8 ?_
       have f86:(encL l80).take (l80.length)=encL l80:=zbr _ (by simp)
       try simp[F8]at f86
       have f86l:l80.length * 1<=(encL l80).length:=by rw[zaE];simp
       try simp[F8]at f86l
       obtain rfl:=sj hs
       have F9:=an F8 (an f86 f86l)
       refine hQ _ _ (zaG _ (Gh.close _ (.a 0) 4) (by simp[St.frz,St.pur,F9];rfl) (by first|rfl |(simp[St.frz,St.pur,F9];done) |(rw[if_pos (by first|omega |(simp;omega))];simp[St.frz,St.pur,F9];first|omega|exact List.take_of_length_le (by simp;omega)|skip)) (pv F9))
    ·refine goG F2 F3 ?_
     revert hs;refine cS F2 ?_ ?_<;>intro h87 hs
     ·repeat (first|simp[F2]|with_reducible first|refine And.intro (by omega) ?_|refine zbe (by omega) ?_|refine za4 (by with_unfolding_all rfl) _ (fun hg=>by(try simp at hg);first |(simp[hg,F3];rfl) |(simp[F2];simp only[if_pos hg];simp[F2];rfl)) ?_)
      refine zaX (by rfl) (Gh.opn _ (.a 0) 5) ?_
      try simp only[St.frz,St.pur]
      refine goD F2 ?_
      revert hs;refine bK fun y98 hx99 hs=>?_
      rcases y98 with e100|y101
      ·try dsimp only at hs
       refine cXd F2 (zaD (c0_2:=⟨AC.toF [.a 0] (.own (.sp 2 a0.p.Vars.length (encL a0.p.Vars))),by simp[F2]⟩) (c0_3:=⟨AC.toF [.a 0] (.own (.sp 1 a0.p.Mutexes.length (encL a0.p.Mutexes))),by simp[F2]⟩) (c0_4:=⟨AC.toF [.a 0] (.own (.sp 1 a0.p.Conds.length (encL a0.p.Conds))),by simp[F2]⟩) (c0_5:=⟨AC.toF [.a 0] (.sl (.o 11 0 5) 0 2 a0.p.Funcs.length),by simp[F2]⟩) (c0_6:=⟨AC.toF [.a 0] (.own (.sp 2 a0.p.Threads.length (encL a0.p.Threads))),by simp[F2]⟩) (c0_7:=⟨AC.toF [.a 0] (.own (.sp 7 a0.names.length (encL a0.names))),by simp[F2]⟩) (c0_8:=⟨AC.toF [.a 0] (.own (.sp 1 a0.funcs.length (encL a0.funcs))),by simp[F2]⟩) (c0_9:=⟨AC.toF [.a 0] (.own (.sl 1 a0.insts.length (otL a0.insts))),by simp[F2]⟩) hx99) [.a 0] ?_
       refine zdq (fun s=>?_) ?_
       ·obtain rfl:=sj hs
        exact hQ _ _ zan
       ·exact goP F2
      ·try dsimp only at hs
       refine cB F2 (zaD (c0_2:=⟨AC.toF [.a 0] (.own (.sp 2 a0.p.Vars.length (encL a0.p.Vars))),by simp[F2]⟩) (c0_3:=⟨AC.toF [.a 0] (.own (.sp 1 a0.p.Mutexes.length (encL a0.p.Mutexes))),by simp[F2]⟩) (c0_4:=⟨AC.toF [.a 0] (.own (.sp 1 a0.p.Conds.length (encL a0.p.Conds))),by simp[F2]⟩) (c0_5:=⟨AC.toF [.a 0] (.sl (.o 11 0 5) 0 2 a0.p.Funcs.length),by simp[F2]⟩) (c0_6:=⟨AC.toF [.a 0] (.own (.sp 2 a0.p.Threads.length (encL a0.p.Threads))),by simp[F2]⟩) (c0_7:=⟨AC.toF [.a 0] (.own (.sp 7 a0.names.length (encL a0.names))),by simp[F2]⟩) (c0_8:=⟨AC.toF [.a 0] (.own (.sp 1 a0.funcs.length (encL a0.funcs))),by simp[F2]⟩) (c0_9:=⟨AC.toF [.a 0] (.own (.sl 1 a0.insts.length (otL a0.insts))),by simp[F2]⟩) hx99) [.a 0] ?_
       revert hs;refine lK fun l102 hx103 hs=>?_
       have hx103n:l102.length=1:=by rw[hx103];rfl
       obtain⟨g104,hs⟩:=zaa hs
       have g104:=zbv g104
       obtain⟨g104a,g104b⟩:=g104
       revert hs;refine lK fun l105 hx106 hs=>?_
       have hx106n:l105.length=(a0.p.Funcs.length+l102.length):=by rw[hx106];simp
       have hx106e:encL l105=encL a0.p.Funcs++encL l102:=by rw[hx106];simp
       have f107b:zah l105=zah a0.p.Funcs++([tC y101.1.Text,.own (.sp 8 0 [])]:List AC):=by rw[hx106,hx103];simp
       have f107o:otCs (zah a0.p.Funcs++([tC y101.1.Text,.own (.sp 8 0 [])]:List AC))=some (otL l105):=by rw[<- f107b];exact zfx _
       have f107c1:∀ v w:AC,(zah a0.p.Funcs++([tC y101.1.Text,v]:List AC)).set (a0.p.Funcs.length * 2+1) w=zah a0.p.Funcs++([tC y101.1.Text,w]:List AC):=fun v w=>by rw[List.set_append_right _ _ (by simp)];simp
       have f107c1g:∀ v:AC,(zah a0.p.Funcs++([tC y101.1.Text,v]:List AC))[a0.p.Funcs.length * 2+1]?=some v:=fun v=>by rw[List.getElem?_append_right (by simp)];simp
       have F10:=an F2 (an hx103 (an hx106n (an f107b (an f107o (an f107c1 f107c1g)))))
       refine goN F10 ?_
       have F11:=an F2 (an hx103 (an hx106n (an hx106e (an f107b (an f107o (an f107c1 f107c1g))))))
       refine zaX (by rfl) ((Gh.voidB _ (.l 2) (.o 12 11 0) (a0.p.Funcs.length * 2+1) 8 rfl (by simp[F11];rfl) (by first|rfl|simp) (by simp)).trans ((Gh.close _ (.o 12 11 0) (a0.p.Funcs.length * 2+1)).trans (Gh.opn _ (.a 0) 8))) ?_
       try simp only[St.frz,St.pur]
       revert hs;refine lK fun l113 hx114 hs=>?_
       have hx114n:l113.length=1:=by rw[hx114];rfl
       obtain⟨g115,hs⟩:=zaa hs
       have g115:=zbv g115
       obtain⟨g115a,g115b⟩:=g115
       revert hs;refine lK fun l116 hx117 hs=>?_
       have hx117n:l116.length=(a0.funcs.length+l113.length):=by rw[hx117];simp
       have hx117e:encL l116=encL a0.funcs++encL l113:=by rw[hx117];simp
       revert hs;refine lK fun l118 hx119 hs=>?_
       have hx119n:l118.length=1:=by rw[hx119];rfl
       obtain⟨g120,hs⟩:=zaa hs
       have g120:=zbv g120
       obtain⟨g120a,g120b⟩:=g120
       revert hs;refine lK fun l121 hx122 hs=>?_
       have hx122n:l121.length=(a0.insts.length+l118.length):=by rw[hx122];simp
       have hx122e:encL l121=encL a0.insts++encL l118:=by rw[hx122];simp
       have f123b:zah l121=zah a0.insts++([.own (.sp 1 0 [])]:List AC):=by rw[hx122,hx119];simp
       have f123o:otCs (zah a0.insts++([.own (.sp 1 0 [])]:List AC))=some (otL l121):=by rw[<- f123b];exact zfx _
       have f123c0:∀ v w:AC,(zah a0.insts++([v]:List AC)).set (a0.insts.length) w=zah a0.insts++([w]:List AC):=fun v w=>by rw[List.set_append_right _ _ (by simp)];simp
       have f123c0g:∀ v:AC,(zah a0.insts++([v]:List AC))[a0.insts.length]?=some v:=fun v=>by rw[List.getElem?_append_right (by simp)];simp
       have F12:=an F10 (an hx114 (an hx117n (an hx117e (an hx119 (an hx122n (an f123b (an f123o (an f123c0 f123c0g))))))))
       refine goN F12 ?_
       refine zdc ?_
       refine goN F12 ?_
       refine za7 ?_
       refine goN F12 ?_
       have F13:=an F10 (an hx114 (an hx117n (an hx117e (an hx119 (an hx122n (an hx122e (an f123b (an f123o (an f123c0 f123c0g)))))))))
       refine zaX (by rfl) ((Gh.voidB _ (.l 3) (.o 15 6 0) (a0.insts.length) 1 rfl (by simp[F13];rfl) (by first|rfl|simp) (by simp)).trans (Gh.close _ (.o 15 6 0) (a0.insts.length))) ?_
       try simp only[St.frz,St.pur]
       refine goR F12 ?_
       revert hs;refine bK fun y124 hx125 hs=>?_
       rcases y124 with e126|y127
       ·try dsimp only at hs
        refine cX F12 (zbh (c0_1:=⟨AC.toF [.a 0] (nC a0.end_),by simp[F12]⟩) (c0_2:=⟨AC.toF [.a 0] (.own (.sp 2 a0.p.Vars.length (encL a0.p.Vars))),by simp[F12]⟩) (c0_3:=⟨AC.toF [.a 0] (.own (.sp 1 a0.p.Mutexes.length (encL a0.p.Mutexes))),by simp[F12]⟩) (c0_4:=⟨AC.toF [.a 0] (.own (.sp 1 a0.p.Conds.length (encL a0.p.Conds))),by simp[F12]⟩) (c0_5:=⟨AC.toF [.a 0] (.sl (.o 12 11 0) 0 2 l105.length),by simp[F12]⟩) (c0_6:=⟨AC.toF [.a 0] (.own (.sp 2 a0.p.Threads.length (encL a0.p.Threads))),by simp[F12]⟩) (c0_7:=⟨AC.toF [.a 0] (.own (.sp 7 a0.names.length (encL a0.names))),by simp[F12]⟩) (c0_8:=⟨AC.toF [.a 0] (.sl (.o 14 8 0) 0 1 l116.length),by simp[F12]⟩) (c0_9:=⟨AC.toF [.a 0] (.sl (.o 15 6 0) 0 1 l121.length),by simp[F12]⟩) hx125) [.a 0] (fun v=>?_)
        obtain rfl:=sj hs
        exact hQ _ _ zan
       ·try dsimp only at hs
        refine cB F12 (zbh (c0_1:=⟨AC.toF [.a 0] (nC a0.end_),by simp[F12]⟩) (c0_2:=⟨AC.toF [.a 0] (.own (.sp 2 a0.p.Vars.length (encL a0.p.Vars))),by simp[F12]⟩) (c0_3:=⟨AC.toF [.a 0] (.own (.sp 1 a0.p.Mutexes.length (encL a0.p.Mutexes))),by simp[F12]⟩) (c0_4:=⟨AC.toF [.a 0] (.own (.sp 1 a0.p.Conds.length (encL a0.p.Conds))),by simp[F12]⟩) (c0_5:=⟨AC.toF [.a 0] (.sl (.o 12 11 0) 0 2 l105.length),by simp[F12]⟩) (c0_6:=⟨AC.toF [.a 0] (.own (.sp 2 a0.p.Threads.length (encL a0.p.Threads))),by simp[F12]⟩) (c0_7:=⟨AC.toF [.a 0] (.own (.sp 7 a0.names.length (encL a0.names))),by simp[F12]⟩) (c0_8:=⟨AC.toF [.a 0] (.sl (.o 14 8 0) 0 1 l116.length),by simp[F12]⟩) (c0_9:=⟨AC.toF [.a 0] (.sl (.o 15 6 0) 0 1 l121.length),by simp[F12]⟩) hx125) [.a 0] ?_
        refine goR F12 ?_
        have f128:(zah l105).take (l105.length * 2)=zah l105:=zca _ (by simp)
        try simp[F12]at f128
        have f128l:l105.length * 2<=(zah l105).length:=by rw[zbB];simp
        try simp[F12]at f128l
        have f129:(encL l116).take (l116.length)=encL l116:=zbr _ (by simp)
        have F14:=an F12 (an f128 f128l)
        try simp[F14]at f129
        have f129l:l116.length * 1<=(encL l116).length:=by rw[zaE];simp
        try simp[F14]at f129l
        have f130:(zah l121).take (l121.length)=zah l121:=zcb _ (by simp)
        have F15:=an F14 (an f129 f129l)
        try simp[F15]at f130
        have f130l:l121.length * 1<=(zah l121).length:=by rw[zbB];simp
        try simp[F15]at f130l
        obtain rfl:=sj hs
        have F16:=an F15 (an f130 f130l)
        refine hQ _ _ (zaG _ ((Gh.close _ (.a 0) 5).trans ((Gh.close _ (.a 0) 8).trans (Gh.close _ (.a 0) 9))) (by simp[St.frz,St.pur,F16];rfl) (by first|rfl |(simp[St.frz,St.pur,F16];done) |(rw[if_pos (by first|omega |(simp;omega))];simp[St.frz,St.pur,F16];first|omega|exact List.take_of_length_le (by simp;omega)|skip)) (pv F16))
     ·refine goG F2 F3 ?_
      revert hs;refine bK fun y131 hx132 hs=>?_
      rcases y131 with e133|y134
      ·try dsimp only at hs
       refine cX F2 (zaS (c0_2:=⟨AC.toF [.a 0] (.own (.sp 2 a0.p.Vars.length (encL a0.p.Vars))),by simp[F2]⟩) (c0_3:=⟨AC.toF [.a 0] (.own (.sp 1 a0.p.Mutexes.length (encL a0.p.Mutexes))),by simp[F2]⟩) (c0_4:=⟨AC.toF [.a 0] (.own (.sp 1 a0.p.Conds.length (encL a0.p.Conds))),by simp[F2]⟩) (c0_5:=⟨AC.toF [.a 0] (.own (.sl 2 a0.p.Funcs.length (otL a0.p.Funcs))),by simp[F2]⟩) (c0_6:=⟨AC.toF [.a 0] (.sl (.o 11 5 6) 0 2 a0.p.Threads.length),by simp[F2]⟩) (c0_8:=⟨AC.toF [.a 0] (.own (.sp 1 a0.funcs.length (encL a0.funcs))),by simp[F2]⟩) (c0_9:=⟨AC.toF [.a 0] (.own (.sl 1 a0.insts.length (otL a0.insts))),by simp[F2]⟩) hx132) [.a 0] (fun v=>?_)
       obtain rfl:=sj hs
       exact hQ _ _ zan
      ·try dsimp only at hs
       refine cB F2 (zaS (c0_2:=⟨AC.toF [.a 0] (.own (.sp 2 a0.p.Vars.length (encL a0.p.Vars))),by simp[F2]⟩) (c0_3:=⟨AC.toF [.a 0] (.own (.sp 1 a0.p.Mutexes.length (encL a0.p.Mutexes))),by simp[F2]⟩) (c0_4:=⟨AC.toF [.a 0] (.own (.sp 1 a0.p.Conds.length (encL a0.p.Conds))),by simp[F2]⟩) (c0_5:=⟨AC.toF [.a 0] (.own (.sl 2 a0.p.Funcs.length (otL a0.p.Funcs))),by simp[F2]⟩) (c0_6:=⟨AC.toF [.a 0] (.sl (.o 11 5 6) 0 2 a0.p.Threads.length),by simp[F2]⟩) (c0_8:=⟨AC.toF [.a 0] (.own (.sp 1 a0.funcs.length (encL a0.funcs))),by simp[F2]⟩) (c0_9:=⟨AC.toF [.a 0] (.own (.sl 1 a0.insts.length (otL a0.insts))),by simp[F2]⟩) hx132) [.a 0] ?_
       refine goE F2 F3 ?_
       revert hs;refine bK fun y144 hx145 hs=>?_
       rcases y144 with e146|y147
       ·try dsimp only at hs
        refine cXd F2 (zaD (c0_2:=⟨AC.toF [.a 0] (.own (.sp 2 a0.p.Vars.length (encL a0.p.Vars))),by simp[F2]⟩) (c0_3:=⟨AC.toF [.a 0] (.own (.sp 1 a0.p.Mutexes.length (encL a0.p.Mutexes))),by simp[F2]⟩) (c0_4:=⟨AC.toF [.a 0] (.own (.sp 1 a0.p.Conds.length (encL a0.p.Conds))),by simp[F2]⟩) (c0_5:=⟨AC.toF [.a 0] (.own (.sl 2 a0.p.Funcs.length (otL a0.p.Funcs))),by simp[F2]⟩) (c0_6:=⟨AC.toF [.a 0] (.sl (.o 11 5 6) 0 2 a0.p.Threads.length),by simp[F2]⟩) (c0_7:=⟨AC.toF [.a 0] (.own (.sp 7 y134.2.length (encL y134.2))),by simp[F2]⟩) (c0_8:=⟨AC.toF [.a 0] (.own (.sp 1 a0.funcs.length (encL a0.funcs))),by simp[F2]⟩) (c0_9:=⟨AC.toF [.a 0] (.own (.sl 1 a0.insts.length (otL a0.insts))),by simp[F2]⟩) hx145) [.a 0] ?_
        refine zdq (fun s=>?_) ?_
        ·obtain rfl:=sj hs
         exact hQ _ _ zan
        ·exact goP F2
       ·try dsimp only at hs
        refine cB F2 (zaD (c0_2:=⟨AC.toF [.a 0] (.own (.sp 2 a0.p.Vars.length (encL a0.p.Vars))),by simp[F2]⟩) (c0_3:=⟨AC.toF [.a 0] (.own (.sp 1 a0.p.Mutexes.length (encL a0.p.Mutexes))),by simp[F2]⟩) (c0_4:=⟨AC.toF [.a 0] (.own (.sp 1 a0.p.Conds.length (encL a0.p.Conds))),by simp[F2]⟩) (c0_5:=⟨AC.toF [.a 0] (.own (.sl 2 a0.p.Funcs.length (otL a0.p.Funcs))),by simp[F2]⟩) (c0_6:=⟨AC.toF [.a 0] (.sl (.o 11 5 6) 0 2 a0.p.Threads.length),by simp[F2]⟩) (c0_7:=⟨AC.toF [.a 0] (.own (.sp 7 y134.2.length (encL y134.2))),by simp[F2]⟩) (c0_8:=⟨AC.toF [.a 0] (.own (.sp 1 a0.funcs.length (encL a0.funcs))),by simp[F2]⟩) (c0_9:=⟨AC.toF [.a 0] (.own (.sl 1 a0.insts.length (otL a0.insts))),by simp[F2]⟩) hx145) [.a 0] ?_
        revert hs;refine lK fun l148 hx149 hs=>?_
        have hx149n:l148.length=1:=by rw[hx149];rfl
        obtain⟨g150,hs⟩:=zaa hs
        have g150:=zbv g150
        obtain⟨g150a,g150b⟩:=g150
        revert hs;refine lK fun l151 hx152 hs=>?_
        have hx152n:l151.length=(a0.p.Threads.length+l148.length):=by rw[hx152];simp
        have hx152e:encL l151=encL a0.p.Threads++encL l148:=by rw[hx152];simp
        have F17:=an F2 (an hx149 (an hx152n hx152e))
        have F18:=an F17 hx2b
        refine goE F17 F18 ?_
        revert hs;refine bK fun y153 hx154 hs=>?_
        rcases y153 with e155|y156
        ·try dsimp only at hs
         refine cX F17 (zbh (c0_1:=⟨AC.toF [.a 0] (nC a0.end_),by simp[F17]⟩) (c0_2:=⟨AC.toF [.a 0] (.own (.sp 2 a0.p.Vars.length (encL a0.p.Vars))),by simp[F17]⟩) (c0_3:=⟨AC.toF [.a 0] (.own (.sp 1 a0.p.Mutexes.length (encL a0.p.Mutexes))),by simp[F17]⟩) (c0_4:=⟨AC.toF [.a 0] (.own (.sp 1 a0.p.Conds.length (encL a0.p.Conds))),by simp[F17]⟩) (c0_5:=⟨AC.toF [.a 0] (.own (.sl 2 a0.p.Funcs.length (otL a0.p.Funcs))),by simp[F17]⟩) (c0_6:=⟨AC.toF [.a 0] (.sl (.o 12 11 0) 0 2 l151.length),by simp[F17]⟩) (c0_7:=⟨AC.toF [.a 0] (.own (.sp 7 y134.2.length (encL y134.2))),by simp[F17]⟩) (c0_8:=⟨AC.toF [.a 0] (.own (.sp 1 a0.funcs.length (encL a0.funcs))),by simp[F17]⟩) (c0_9:=⟨AC.toF [.a 0] (.own (.sl 1 a0.insts.length (otL a0.insts))),by simp[F17]⟩) hx154) [.a 0] (fun v=>?_)
         obtain rfl:=sj hs
         exact hQ _ _ zan
        ·try dsimp only at hs
         refine cB F17 (zbh (c0_1:=⟨AC.toF [.a 0] (nC a0.end_),by simp[F17]⟩) (c0_2:=⟨AC.toF [.a 0] (.own (.sp 2 a0.p.Vars.length (encL a0.p.Vars))),by simp[F17]⟩) (c0_3:=⟨AC.toF [.a 0] (.own (.sp 1 a0.p.Mutexes.length (encL a0.p.Mutexes))),by simp[F17]⟩) (c0_4:=⟨AC.toF [.a 0] (.own (.sp 1 a0.p.Conds.length (encL a0.p.Conds))),by simp[F17]⟩) (c0_5:=⟨AC.toF [.a 0] (.own (.sl 2 a0.p.Funcs.length (otL a0.p.Funcs))),by simp[F17]⟩) (c0_6:=⟨AC.toF [.a 0] (.sl (.o 12 11 0) 0 2 l151.length),by simp[F17]⟩) (c0_7:=⟨AC.toF [.a 0] (.own (.sp 7 y134.2.length (encL y134.2))),by simp[F17]⟩) (c0_8:=⟨AC.toF [.a 0] (.own (.sp 1 a0.funcs.length (encL a0.funcs))),by simp[F17]⟩) (c0_9:=⟨AC.toF [.a 0] (.own (.sl 1 a0.insts.length (otL a0.insts))),by simp[F17]⟩) hx154) [.a 0] ?_
         refine goE F17 F18 ?_
         have f157:(encL l151).take (l151.length * 2)=encL l151:=zal _ (by simp)
         try simp[F17]at f157
         have f157l:l151.length * 2<=(encL l151).length:=by rw[zaE];simp
         try simp[F17]at f157l
         obtain rfl:=sj hs
         have F19:=an F17 (an f157 f157l)
         refine hQ _ _ (zaG _ (Gh.close _ (.a 0) 6) (by simp[St.frz,St.pur,F19];rfl) (by first|rfl |(simp[St.frz,St.pur,F19];done) |(rw[if_pos (by first|omega |(simp;omega))];simp[St.frz,St.pur,F19];first|omega|exact List.take_of_length_le (by simp;omega)|skip)) (pv F19))
def zci(fuelN:Nat):Nat->Bool->(List Token)->Int->(List Var)->(List ByteArray)->(List ByteArray)->(List Func)->(List Start)->(List ANm)->(List Int)->(List (List Int))->Option ((Bool × (List Token) × Int × (List Var) × (List ByteArray) × (List ByteArray) × (List Func) × (List Start) × (List ANm) × (List Int) × (List (List Int))) ⊕ Fault)
 |0,_,_,_,_,_,_,_,_,_,_,_=>none
 |q189+1,b142,l143,i144,l145,l146,l147,l148,l149,l150,l151,l152=>cond (ltI 0 ((l143.length:Nat):Int)) (Option.bind (l143[0]?) (fun x194=>cond (eqI x194.Kind 4) (zai (slB (1:Int) (l143.length:Int) l143.length) (Option.bind (some (subL l143 (1:Int) (l143.length:Int))) (fun l199=>zci fuelN q189 b142 l199 i144 l145 l146 l147 l148 l149 l150 l151 l152))) (cond b142 (Option.bind (zlZ fuelN l143 i144 l148 l150 l152) (fun y203=>(match y203 with|.inl e205=>some (.inr e205)|.inr y206=>zci fuelN q189 y206.1 y206.2.1 i144 l145 l146 l147 y206.2.2.1 l149 y206.2.2.2.1 l151 y206.2.2.2.2))) (Option.bind (zcW ({ tokens:=l143,end_:=i144,p:=({ Vars:=l145,Mutexes:=l146,Conds:=l147,Funcs:=l148,Threads:=l149 }:Program),names:=l150,funcs:=l151,insts:=l152 }:APr)) (fun y207=>(match y207 with|.inl e209=>some (.inr e209)|.inr y210=>zci fuelN q189 y210.1 y210.2.tokens y210.2.end_ y210.2.p.Vars y210.2.p.Mutexes y210.2.p.Conds y210.2.p.Funcs y210.2.p.Threads y210.2.names y210.2.funcs y210.2.insts)))))) (some (.inl (b142,l143,i144,l145,l146,l147,l148,l149,l150,l151,l152)))
def zlX(fuelN:Nat)(a0:APr):Option (Fault ⊕ APr):=
 Option.bind (α:=(Bool × (List Token) × Int × (List Var) × (List ByteArray) × (List ByteArray) × (List Func) × (List Start) × (List ANm) × (List Int) × (List (List Int))) ⊕ Fault) (Option.bind (zci fuelN fuelN false a0.tokens a0.end_ a0.p.Vars a0.p.Mutexes a0.p.Conds a0.p.Funcs a0.p.Threads a0.names a0.funcs a0.insts) (fun o=>match o with|.inl (b172,l173,i174,l175,l176,l177,l178,l179,l180,l181,l182)=>some (.inl (b172,l173,i174,l175,l176,l177,l178,l179,l180,l181,l182))|.inr e211=>some (.inr e211))) (fun o=>match o with|.inl (b99,l100,i101,l102,l103,l104,l105,l106,l107,l108,l109)=>cond b99 (Option.bind (zaH 15 i101) (fun y213=>some (.inl y213))) (some (.inr ({ tokens:=l100,end_:=i101,p:=({ Vars:=l102,Mutexes:=l103,Conds:=l104,Funcs:=l105,Threads:=l106 }:Program),names:=l107,funcs:=l108,insts:=l109 }:APr)))|.inr e215=>some (.inl e215))
theorem zlU{fuelN:Nat}{a0:APr}{r:Fault ⊕ APr}(hs:zlX fuelN a0=some r):CAt Tryz.prog 15 [.cell (.ref (.a 0) 0)] [.cells [sC a0.tokens,nC a0.end_,.own (.sp 2 a0.p.Vars.length (encL a0.p.Vars)),.own (.sp 1 a0.p.Mutexes.length (encL a0.p.Mutexes)),.own (.sp 1 a0.p.Conds.length (encL a0.p.Conds)),.own (.sl 2 a0.p.Funcs.length (otL a0.p.Funcs)),.own (.sp 2 a0.p.Threads.length (encL a0.p.Threads)),.own (.sp 7 a0.names.length (encL a0.names)),.own (.sp 1 a0.funcs.length (encL a0.funcs)),.own (.sl 1 a0.insts.length (otL a0.insts))]] (panO panV (fun(r:APr)=>.tup []) r) (panP (fun(r:APr)=>[(.a 0,.cells [sC r.tokens,nC r.end_,.own (.sp 2 r.p.Vars.length (encL r.p.Vars)),.own (.sp 1 r.p.Mutexes.length (encL r.p.Mutexes)),.own (.sp 1 r.p.Conds.length (encL r.p.Conds)),.own (.sl 2 r.p.Funcs.length (otL r.p.Funcs)),.own (.sp 2 r.p.Threads.length (encL r.p.Threads)),.own (.sp 7 r.names.length (encL r.names)),.own (.sp 1 r.funcs.length (encL r.funcs)),.own (.sl 1 r.insts.length (otL r.insts))])]) r):=by
 refine zab (by kernel_rfl) fun hb=>?_
 refine zac mixed Tryz.func15 (by kernel_rfl) rfl (by kernel_rfl) rfl fun Q hQ=>?_
 rw[zlX]at hs
 refine goR2 f0 ?_
 revert hs;refine bK fun o111 e110 hs=>?_
 refine zaj (fun(v:Bool × (List Token) × Int × (List Var) × (List ByteArray) × (List ByteArray) × (List Func) × (List Start) × (List ANm) × (List Int) × (List (List Int))) (σ:St)=>some (.inl v)=some o111 /\ σ.env 0=.cell (.ref (.a 0) 0) /\ σ.env 2=bV v.1 /\ σ.hp (.a 0)=some (.cells [sC v.2.1,nC v.2.2.1,.own (.sp 2 v.2.2.2.1.length (encL v.2.2.2.1)),.own (.sp 1 v.2.2.2.2.1.length (encL v.2.2.2.2.1)),.own (.sp 1 v.2.2.2.2.2.1.length (encL v.2.2.2.2.2.1)),.own (.sl 2 v.2.2.2.2.2.2.1.length (otL v.2.2.2.2.2.2.1)),.own (.sp 2 v.2.2.2.2.2.2.2.1.length (encL v.2.2.2.2.2.2.2.1)),.own (.sp 7 v.2.2.2.2.2.2.2.2.1.length (encL v.2.2.2.2.2.2.2.2.1)),.own (.sp 1 v.2.2.2.2.2.2.2.2.2.1.length (encL v.2.2.2.2.2.2.2.2.2.1)),.own (.sl 1 v.2.2.2.2.2.2.2.2.2.2.length (otL v.2.2.2.2.2.2.2.2.2.2))]) /\ 1<=σ.gen) (by rfl) (fun Q hK112 hX113=>?_) (fun v σ3 hp=>?_)
 ·refine goR f0 ?_
  revert e110;refine bK fun o184 e183 e110=>?_
  refine zaf (fun(v:Nat × Bool × (List Token) × Int × (List Var) × (List ByteArray) × (List ByteArray) × (List Func) × (List Start) × (List ANm) × (List Int) × (List (List Int))) (σ:St)=>zci fuelN v.1 v.2.1 v.2.2.1 v.2.2.2.1 v.2.2.2.2.1 v.2.2.2.2.2.1 v.2.2.2.2.2.2.1 v.2.2.2.2.2.2.2.1 v.2.2.2.2.2.2.2.2.1 v.2.2.2.2.2.2.2.2.2.1 v.2.2.2.2.2.2.2.2.2.2.1 v.2.2.2.2.2.2.2.2.2.2.2=some o184 /\ σ.env 0=.cell (.ref (.a 0) 0) /\ σ.env 2=bV v.2.1 /\ σ.hp (.a 0)=some (.cells [sC v.2.2.1,nC v.2.2.2.1,.own (.sp 2 v.2.2.2.2.1.length (encL v.2.2.2.2.1)),.own (.sp 1 v.2.2.2.2.2.1.length (encL v.2.2.2.2.2.1)),.own (.sp 1 v.2.2.2.2.2.2.1.length (encL v.2.2.2.2.2.2.1)),.own (.sl 2 v.2.2.2.2.2.2.2.1.length (otL v.2.2.2.2.2.2.2.1)),.own (.sp 2 v.2.2.2.2.2.2.2.2.1.length (encL v.2.2.2.2.2.2.2.2.1)),.own (.sp 7 v.2.2.2.2.2.2.2.2.2.1.length (encL v.2.2.2.2.2.2.2.2.2.1)),.own (.sp 1 v.2.2.2.2.2.2.2.2.2.2.1.length (encL v.2.2.2.2.2.2.2.2.2.2.1)),.own (.sl 1 v.2.2.2.2.2.2.2.2.2.2.2.length (otL v.2.2.2.2.2.2.2.2.2.2.2))]) /\ 1<=σ.gen) (fun v=>v.1) _ (Gh.refl _) (fuelN,false,a0.tokens,a0.end_,a0.p.Vars,a0.p.Mutexes,a0.p.Conds,a0.p.Funcs,a0.p.Threads,a0.names,a0.funcs,a0.insts) ⟨e183,pv f0,pv f0,pv f0,pg⟩ fun v σ6 hp L185 hL186=>?_
  obtain⟨q188,b142,l143,i144,l145,l146,l147,l148,l149,l150,l151,l152⟩:=v
  dsimp only at hp hL186
  obtain⟨e183,h5_0,h5_2,g5_0,n5_g⟩:=hp
  rcases q188 with _|q189
  ·rw[zci]at e183;cases e183
  ·rw[zci]at e183;try dsimp only at e183
   have F1:=an h5_0 (an h5_2 g5_0)
   refine goR F1 ?_
   revert e183;refine cS F1 ?_ ?_<;>intro h193 e183
   ·revert e183;refine bK fun x194 hx195 e183=>?_
    have hx195b:=zau hx195
    have f196:zam Tryz.prog 79 (encL l143) (0 * 4)=some (iV .i64 x194.Kind):=zae hx195 (f:=0) (by simp)
    have F2:=an F1 f196
    refine goR F2 ?_
    revert e183;refine cS F2 ?_ ?_<;>intro h197 e183
    ·obtain⟨g198,e183⟩:=zaa e183
     obtain⟨g198a,g198b,g198c⟩:=ze0 g198
     revert e183;refine lK fun l199 hx200 e183=>?_
     have f201n:l199.length=((l143.length:Int) - (1:Int)).toNat:=by rw[hx200];exact zeC ⟨g198a,g198b,g198c⟩
     have f201e:((encL l143).drop (((1:Int):Int).toNat * 4)).take (((l143.length:Int) - (1:Int)).toNat * 4)=encL l199:=by rw[hx200];exact zd2 (α:=Token)
     try simp at f201n
     try simp at f201e
     have F3:=an F2 (an g198a (an g198b (an g198c (an f201n f201e))))
     refine goR F3 ?_
     exact hL186 (q189,b142,l199,i144,l145,l146,l147,l148,l149,l150,l151,l152) _ _ (Gh.refl _) ⟨e183,pv F3,pv F3,pv F3,pg⟩ (by omega)
    ·refine goR F2 ?_
     revert e183;refine cS F2 ?_ ?_<;>intro h202 e183
     ·refine goR F2 ?_
      revert e183;refine bK fun y203 hx204 e183=>?_
      rcases y203 with e205|y206
      ·try dsimp only at e183
       refine cX F2 (zlW (c0_2:=⟨AC.toF [.a 0] (.own (.sp 2 l145.length (encL l145))),by simp[F2]⟩) (c0_3:=⟨AC.toF [.a 0] (.own (.sp 1 l146.length (encL l146))),by simp[F2]⟩) (c0_4:=⟨AC.toF [.a 0] (.own (.sp 1 l147.length (encL l147))),by simp[F2]⟩) (c0_6:=⟨AC.toF [.a 0] (.own (.sp 2 l149.length (encL l149))),by simp[F2]⟩) (c0_8:=⟨AC.toF [.a 0] (.own (.sp 1 l151.length (encL l151))),by simp[F2]⟩) hx204) [.a 0] (fun v=>?_)
       obtain rfl:=sj e183
       try dsimp only at e110
       obtain rfl:=sj e110
       try dsimp only at hs
       refine hX113 _ _ (by simp) ?_
       obtain rfl:=sj hs
       exact hQ _ _ zan
      ·try dsimp only at e183
       refine cB F2 (zlW (c0_2:=⟨AC.toF [.a 0] (.own (.sp 2 l145.length (encL l145))),by simp[F2]⟩) (c0_3:=⟨AC.toF [.a 0] (.own (.sp 1 l146.length (encL l146))),by simp[F2]⟩) (c0_4:=⟨AC.toF [.a 0] (.own (.sp 1 l147.length (encL l147))),by simp[F2]⟩) (c0_6:=⟨AC.toF [.a 0] (.own (.sp 2 l149.length (encL l149))),by simp[F2]⟩) (c0_8:=⟨AC.toF [.a 0] (.own (.sp 1 l151.length (encL l151))),by simp[F2]⟩) hx204) [.a 0] ?_
       refine goR F2 ?_
       exact hL186 (q189,y206.1,y206.2.1,i144,l145,l146,l147,y206.2.2.1,l149,y206.2.2.2.1,l151,y206.2.2.2.2) _ _ (Gh.refl _) ⟨e183,pv F2,pv F2,pv F2,pg⟩ (by omega)
     ·refine goR F2 ?_
      revert e183;refine bK fun y207 hx208 e183=>?_
      rcases y207 with e209|y210
      ·try dsimp only at e183
       refine cX F2 (zeZ hx208) [.a 0] (fun v=>?_)
       obtain rfl:=sj e183
       try dsimp only at e110
       obtain rfl:=sj e110
       try dsimp only at hs
       refine hX113 _ _ (by simp) ?_
       obtain rfl:=sj hs
       exact hQ _ _ zan
      ·try dsimp only at e183
       refine cB F2 (zeZ hx208) [.a 0] ?_
       refine goR F2 ?_
       exact hL186 (q189,y210.1,y210.2.tokens,y210.2.end_,y210.2.p.Vars,y210.2.p.Mutexes,y210.2.p.Conds,y210.2.p.Funcs,y210.2.p.Threads,y210.2.names,y210.2.funcs,y210.2.insts) _ _ (Gh.refl _) ⟨e183,pv F2,pv F2,pv F2,pg⟩ (by omega)
   ·refine goR F1 ?_
    obtain rfl:=sj e183
    try dsimp only at e110
    exact hK112 (b142,l143,i144,l145,l146,l147,l148,l149,l150,l151,l152) _ _ (Gh.refl _) ⟨e110,pv F1,pv F1,pv F1,pg⟩
 ·obtain⟨b99,l100,i101,l102,l103,l104,l105,l106,l107,l108,l109⟩:=v
  dsimp only at hp
  obtain⟨e110,h4_0,h4_2,g4_0,n4_g⟩:=hp
  obtain rfl:=sj e110
  try dsimp only at hs
  have F4:=an h4_0 (an h4_2 g4_0)
  refine goR F4 ?_
  revert hs;refine cS F4 ?_ ?_<;>intro h212 hs
  ·refine goR F4 ?_
   revert hs;refine bK fun y213 hx214 hs=>?_
   refine cX F4 (zaA hx214) [] (fun v=>?_)
   obtain rfl:=sj hs
   exact hQ _ _ zan
  ·refine goR F4 ?_
   obtain rfl:=sj hs
   refine hQ _ _ (zaG _ (Gh.refl _) (by simp[St.frz,St.pur,F4];rfl) (by first|rfl |(simp[St.frz,St.pur,F4];done) |(rw[if_pos (by first|omega |(simp;omega))];simp[St.frz,St.pur,F4];first|omega|exact List.take_of_length_le (by simp;omega)|skip)) (pv F4))
end Go.Dc
end
section
namespace Go.Dc.Pa
open Go Go.Hw Go.Dc Go.Dc.Pl
def zce:List Token->Fault ⊕ List Token
 |[]=>.inr []
 |t::r=>if t.Kind=4 then .inr r else .inl ⟨14,t.At⟩
theorem zk2(ts:List Token):zdY ts=some (zce ts):=by
 cases ts with
 |nil=>rfl
 |cons t r=>
  rw[zdY,zsi,zgd,ze8,zce]
  simp only[cond_false,List.getElem?_cons_zero,Option.bind_some,zad,zaL,zaH]
  by_cases h:t.Kind=4<;>simp[h]
def kEnd:ByteArray:=⟨#[101,110,100]⟩
def zhi(x:APr)(t:Token)(r:List Token):Fault ⊕ (Bool × APr):=
 if t.Kind=1 then
  match zfX t.Text with
  |some op=>
   let f:=gd x.p.Funcs (x.p.Funcs.length - 1)
   match zlk x.end_ op ((x.p.Funcs.length - 1:Nat):Int) ((f.Code.length:Nat):Int) r x.names with
   |.inl e=>.inl e
   |.inr (i,r1,n1)=>match zce r1 with
    |.inl e=>.inl e
    |.inr r2=>.inr (true,{ x with tokens:=r2,p:={ x.p with Funcs:=x.p.Funcs.set (x.p.Funcs.length - 1) { f with Code:=f.Code++[i] } },names:=n1,insts:=x.insts.set (x.p.Funcs.length - 1) (gd x.insts (x.p.Funcs.length - 1)++[t.At]) })
  |none=>if eqS t.Text kEnd=true then(match zce r with|.inl e=>.inl e|.inr r2=>.inr (false,{ x with tokens:=r2 })) else .inl ⟨8,t.At⟩
 else .inl ⟨14,t.At⟩
def zhT(x:APr)(t:Token)(r:List Token):Fault ⊕ (Bool × APr):=
 if t.Kind ≠ 1 then .inl ⟨14,t.At⟩
 else if eqS t.Text kVar=true then(match nxt x.end_ 1 r with
  |.inl e=>.inl e
  |.inr (n,r1)=>match nxt x.end_ 2 r1 with
   |.inl e=>.inl e
   |.inr (v,r2)=>match zce r2 with
    |.inl e=>.inl e
    |.inr r3=>.inr (false,{ x with tokens:=r3,p:={ x.p with Vars:=x.p.Vars++[⟨n.Text,v.N⟩] } }))
 else if eqS t.Text zb0=true then(match nxt x.end_ 1 r with
  |.inl e=>.inl e
  |.inr (n,r1)=>match zce r1 with
   |.inl e=>.inl e
   |.inr r2=>.inr (false,{ x with tokens:=r2,p:={ x.p with Mutexes:=x.p.Mutexes++[n.Text] } }))
 else if eqS t.Text zdo=true then(match nxt x.end_ 1 r with
  |.inl e=>.inl e
  |.inr (n,r1)=>match zce r1 with
   |.inl e=>.inl e
   |.inr r2=>.inr (false,{ x with tokens:=r2,p:={ x.p with Conds:=x.p.Conds++[n.Text] } }))
 else if eqS t.Text ze6=true then(match nxt x.end_ 1 r with
  |.inl e=>.inl e
  |.inr (n,r1)=>match zce r1 with
   |.inl e=>.inl e
   |.inr r2=>.inr (true,{ x with tokens:=r2,p:={ x.p with Funcs:=x.p.Funcs++[⟨n.Text,[]⟩] },funcs:=x.funcs++[t.At],insts:=x.insts++[[]] }))
 else if eqS t.Text zbu=true then(match objM x.end_ zbu ((x.p.Threads.length:Nat):Int) 0 r x.names with
  |.inl e=>.inl e
  |.inr (r1,n1)=>match nxt x.end_ 2 r1 with
   |.inl e=>.inl e
   |.inr (v,r2)=>match zce r2 with
    |.inl e=>.inl e
    |.inr r3=>.inr (false,{ x with tokens:=r3,p:={ x.p with Threads:=x.p.Threads++[⟨0,v.N⟩] },names:=n1 }))
 else .inl ⟨14,t.At⟩
def zhR(b:Bool)(x:APr)(t:Token)(r:List Token):Fault ⊕ (Bool × APr):=if b=true then zhi x t r else zhT x t r
def zfZ:Nat->Bool->APr->Fault ⊕ (Bool × APr)
 |0,b,x=>.inr (b,x)
 |n+1,b,x=>match x.tokens with
  |[]=>.inr (b,x)
  |t::r=>if t.Kind=4 then zfZ n b { x with tokens:=r } else match zhR b x t r with|.inl e=>.inl e|.inr (b',x')=>zfZ n b' x'
def capN:Nat:=1048576
theorem zpX{a b c:ByteArray}(h:eqS a b=true)(h2:eqS b c=false):eqS a c=false:=by
 rw[eqS,beq_iff_eq]at h
 rw[eqS,h];exact h2
def zdl(p:Program)(n:ANm):Prop:=if eqS n.kind zbu=true then(0<=n.fn /\ n.fn < p.Threads.length) else(0<=n.fn /\ n.fn < p.Funcs.length /\ 0<=n.at_ /\ n.at_ < (gd p.Funcs n.fn.toNat).Code.length)
structure Inv (b:Bool) (x:APr):Prop where
 vars:x.p.Vars.length+x.tokens.length<=capN
 mutexes:x.p.Mutexes.length+x.tokens.length<=capN
 conds:x.p.Conds.length+x.tokens.length<=capN
 funs:x.p.Funcs.length+x.tokens.length<=capN
 threads:x.p.Threads.length+x.tokens.length<=capN
 names:x.names.length+x.tokens.length<=capN
 funcs:x.funcs.length=x.p.Funcs.length
 insts:x.insts.length=x.p.Funcs.length
 codes:∀ f ∈ x.p.Funcs,f.Code.length+x.tokens.length<=capN
 inst:∀ k,k < x.p.Funcs.length->(gd x.insts k).length=(gd x.p.Funcs k).Code.length
 nok:∀ n ∈ x.names,zdl x.p n
 inside:b=true->0 < x.p.Funcs.length
theorem zdp{α:Type}[Inhabited α]{l:List α}{k:Nat}(h:k < l.length):l[k]?=some (gd l k):=by
 rw[gd,List.getD_eq_getElem?_getD,List.getElem?_eq_getElem h];rfl
theorem znu{α:Type}[Inhabited α]{l:List α}{k:Nat}(h:k < l.length):gd l k ∈ l:=List.mem_of_getElem? (zdp h)
theorem zra{fuel:Nat}{x:APr}{t:Token}{r:List Token}(hx:Inv true x)(ht:x.tokens=t::r) :
  zlZ (fuel+23) x.tokens x.end_ x.p.Funcs x.names x.insts=some (match zhi x t r with|.inl e=>.inl e|.inr (b,y)=>.inr (b,y.tokens,y.p.Funcs,y.names,y.insts)):=by
 have hf:=hx.inside rfl
 have hl:x.tokens.length=r.length+1:=by rw[ht];rfl
 have hfs:=hx.funs
 rw[ht,zlZ,zgd,ze8,zhi]
 simp only[List.getElem?_cons_zero,Option.bind_some,zpm,zad,zk2]
 by_cases hk:t.Kind=1
 ·simp only[zaL,hk,decide_true,Bool.not_true,cond_false,if_true]
  cases hm:zfX t.Text with
  |none=>
   simp only[zaV,Bool.not_false,Bool.true_and,cond_false,Option.bind_some]
   show cond (!eqS t.Text kEnd) _ _=_
   cases eqS t.Text kEnd
   ·rfl
   ·simp only[Bool.not_true,cond_false,if_true]
    cases zce r<;>rfl
  |some op=>
   obtain⟨o1,o2⟩:1<=op /\ op<=22:=by
    rw[zfX]at hm
    obtain⟨j,y,hy,e⟩:=first_some hm
    have hj:j < 22:=zau hy
    cases hq:eqS y.name t.Text
    ·rw[hq]at e;cases e
    ·rw[hq]at e;injection e with e;omega
   have hw:IntKind.i64.wrap (((x.p.Funcs.length:Nat):Int) - 1)=((x.p.Funcs.length - 1:Nat):Int):=by
    rw[wrap_i64 (by omega) (by simp[capN]at hfs;omega)];omega
   have hk1:x.p.Funcs.length - 1 < x.p.Funcs.length:=by omega
   have hk2:x.p.Funcs.length - 1 < x.insts.length:=by rw[hx.insts];omega
   have hc:=hx.codes _ (znu hk1)
   have hi:=hx.inst _ hk1
   have hn:=hx.names
   simp only[zaV,Bool.not_true,Bool.false_and,cond_false,cond_true,hw,zbp,zdp hk1,zdp hk2,Option.bind_some,Int.toNat_natCast,List.length_singleton]
   generalize gd x.p.Funcs (x.p.Funcs.length - 1)=f at *
   generalize gd x.insts (x.p.Funcs.length - 1)=l at *
   rw[zaK (by simp[capN]at *;omega) (by omega),zad,ziA o1 o2 _ _ (by simp[capN]at *;omega),Option.bind_some]
   rcases zlk x.end_ op ((x.p.Funcs.length - 1:Nat):Int) ((f.Code.length:Nat):Int) r x.names with e |⟨i,r1,n1⟩
   ·rfl
   ·dsimp only
    rw[zaK (by simp[capN]at *;omega) (by omega),zad]
    cases zce r1<;>rfl
 ·simp[zaL,hk,zaH]
theorem zq8{x:APr}{t:Token}{r:List Token}(hx:Inv false x)(ht:x.tokens=t::r) :
  zcW x=some (zhT x t r):=by
 have hl:x.tokens.length=r.length+1:=by rw[ht];rfl
 have h1:=hx.vars;have h2:=hx.mutexes;have h3:=hx.conds;have h4:=hx.funs;have h5:=hx.threads;have h6:=hx.names;have h7:=hx.funcs;have h8:=hx.insts
 rw[zcW,ht,zgd,ze8,zhT]
 simp only[List.getElem?_cons_zero,Option.bind_some,zd5,zk2,zad,zaH,List.length_singleton]
 simp only[show(⟨#[118,97,114]⟩:ByteArray)=kVar from rfl,show(⟨#[109,117,116,101,120]⟩:ByteArray)=zb0 from rfl,show(⟨#[99,111,110,100]⟩:ByteArray)=zdo from rfl,show(⟨#[102,117,110,99]⟩:ByteArray)=ze6 from rfl,show(⟨#[116,104,114,101,97,100]⟩:ByteArray)=zbu from rfl]
 simp only[capN]at *
 rw[zg3 (by omega),zaK (n:=x.p.Vars.length+1) (by omega) (by omega),zaK (n:=x.p.Mutexes.length+1) (by omega) (by omega),zaK (n:=x.p.Conds.length+1) (by omega) (by omega),zaK (n:=x.p.Funcs.length+1) (by omega) (by omega),
  zaK (n:=x.p.Threads.length+1) (by omega) (by omega),zaK (n:=x.funcs.length+1) (by omega) (by omega),zaK (n:=x.insts.length+1) (by omega) (by omega)]
 simp only[zad,Option.bind_some]
 by_cases hk:t.Kind=1
 ·simp only[zaL,hk,decide_true,Bool.not_true,orB,andB,cond_false]
  cases hv:eqS t.Text kVar
  ·cases hm:eqS t.Text zb0
   ·cases hc:eqS t.Text zdo
    ·cases hf:eqS t.Text ze6
     ·cases hh:eqS t.Text zbu
      ·rfl
      ·simp only[Bool.not_true,Bool.not_false,Bool.and_false,Bool.and_true,Bool.or_false,cond_false,cond_true,reduceIte,not_true_eq_false,reduceCtorEq,Bool.false_eq_true]
       rcases objM x.end_ zbu ((x.p.Threads.length:Nat):Int) 0 r x.names with e |⟨r1,n1⟩
       ·rfl
       ·dsimp only;rcases nxt x.end_ 2 r1 with e |⟨v,r2⟩
        ·rfl
        ·dsimp only;cases zce r2<;>rfl
     ·simp only[Bool.not_true,Bool.not_false,Bool.and_false,Bool.and_true,Bool.or_false,Bool.false_and,cond_false,cond_true,reduceIte,not_true_eq_false,reduceCtorEq,Bool.false_eq_true]
      rcases nxt x.end_ 1 r with e |⟨n,r1⟩
      ·rfl
      ·dsimp only;cases zce r1<;>rfl
    ·simp only[Bool.not_true,Bool.not_false,Bool.and_false,Bool.and_true,Bool.or_false,Bool.false_and,cond_false,cond_true,reduceIte,not_true_eq_false,reduceCtorEq,Bool.false_eq_true]
     rw[zpX hc (show eqS zdo ze6=false by kernel_rfl)]
     rcases nxt x.end_ 1 r with e |⟨n,r1⟩
     ·rfl
     ·dsimp only;cases zce r1<;>rfl
   ·simp only[Bool.not_true,Bool.not_false,Bool.and_false,Bool.and_true,Bool.or_false,Bool.false_and,cond_false,cond_true,reduceIte,not_true_eq_false,reduceCtorEq,Bool.false_eq_true]
    rw[zpX hm (show eqS zb0 ze6=false by kernel_rfl)]
    rcases nxt x.end_ 1 r with e |⟨n,r1⟩
    ·rfl
    ·dsimp only;cases zce r1<;>rfl
  ·simp only[Bool.not_true,Bool.not_false,Bool.and_false,Bool.and_true,Bool.or_false,Bool.false_and,cond_false,cond_true,reduceIte,not_true_eq_false,reduceCtorEq,Bool.false_eq_true]
   rw[zpX hv (show eqS kVar ze6=false by kernel_rfl)]
   rcases nxt x.end_ 1 r with e |⟨n,r1⟩
   ·rfl
   ·dsimp only;rcases nxt x.end_ 2 r1 with e |⟨v,r2⟩
    ·rfl
    ·dsimp only;cases zce r2<;>rfl
 ·simp[zaL,hk,orB]
theorem zdR{e k:Int}{ts r:List Token}{t:Token}(h:nxt e k ts=.inr (t,r)):ts=t::r /\ t.Kind=k /\ t.Kind ≠ 4:=by
 cases ts with
 |nil=>cases h
 |cons a q=>
  rw[nxt]at h
  split at h
  ·cases h
  ·split at h
   ·injection h with h;injection h with h1 h2;subst h1 h2;exact⟨rfl,by assumption,by assumption⟩
   ·cases h
theorem zbC{ts r:List Token}(h:zce ts=.inr r):r.length<=ts.length:=by
 cases ts with
 |nil=>injection h with h;subst h;exact Nat.le_refl _
 |cons a q=>
  rw[zce]at h
  split at h
  ·injection h with h;subst h;simp
  ·cases h
theorem zqE{g:ByteArray->Option Int}{c e n:Int}{ts r:List Token}(h:zcL g c e ts=.inr (n,r)):∃ t,ts=t::r /\ g t.Text=some n:=by
 rw[zcL]at h
 split at h
 ·cases h
 ·rename_i t q hq
  split at h
  ·injection h with h;injection h with h1 h2;subst h1 h2;exact⟨t,(zdR hq).1,by assumption⟩
  ·cases h
theorem zmo{e:Int}{kind:ByteArray}{fn at_:Int}{ts r:List Token}{ns n':List ANm}(h:objM e kind fn at_ ts ns=.inr (r,n')):∃ t,ts=t::r /\ n'=ns++[⟨t,kind,fn,at_⟩]:=by
 rw[objM]at h
 split at h
 ·cases h
 ·rename_i t q hq;injection h with h;injection h with h1 h2;subst h1 h2;exact⟨t,(zdR hq).1,rfl⟩
def Opd.ok:Opd->Bool
 |.obj k=>!eqS k zbu
 |_=>true
theorem zqJ{e fn at_:Int}{o:Opd}{i i':Inst}{ts r:List Token}{ns n':List ANm}(h:zgV e fn at_ o (i,ts,ns)=.inr (i',r,n')) :
  ∃ t,ts=t::r /\ (n'=ns \/ ∃ k,o=.obj k /\ n'=ns++[⟨t,k,fn,at_⟩]):=by
 cases o with
 |N=>
  rw[zgV]at h
  split at h
  ·cases h
  ·rename_i hq;injection h with h;injection h with h1 h2;injection h2 with h2 h3;subst h2 h3;exact⟨_,(zdR hq).1,.inl rfl⟩
 |obj k=>
  rw[zgV]at h
  split at h
  ·cases h
  ·rename_i hq;injection h with h;injection h with h1 h2;injection h2 with h2 h3;subst h2 h3;obtain⟨t,a,b⟩:=zmo hq;exact⟨t,a,.inr ⟨k,rfl,b⟩⟩
 |_=>
  rw[zgV]at h
  split at h
  ·cases h
  ·rename_i hq;injection h with h;injection h with h1 h2;injection h2 with h2 h3;subst h2 h3;obtain⟨t,a,b⟩:=zqE hq;exact⟨t,a,.inl rfl⟩
theorem zl7{e fn at_:Int}:∀ {l:List Opd} {i i':Inst} {ts r:List Token} {ns n':List ANm},(l.all Opd.ok)=true->runO e fn at_ l (i,ts,ns)=.inr (i',r,n') ->
  r.length<=ts.length /\ n'.length+r.length<=ns.length+ts.length /\ ∀ n ∈ n',n ∈ ns \/ (n.fn=fn /\ n.at_=at_ /\ eqS n.kind zbu=false)
 |[],i,i',ts,r,ns,n',_,h=>by injection h with h;injection h with h1 h2;injection h2 with h2 h3;subst h2 h3;exact⟨Nat.le_refl _,Nat.le_refl _,fun n h=>.inl h⟩
 |o::l,i,i',ts,r,ns,n',ho,h=>by
  rw[runO]at h
  rw[List.all_cons,Bool.and_eq_true]at ho
  split at h
  ·cases h
  ·rename_i s' hs
   obtain⟨i1,r1,n1⟩:=s'
   obtain⟨t,e1,e2⟩:=zqJ hs
   obtain⟨a,b,c⟩:=zl7 ho.2 h
   subst e1
   rcases e2 with rfl |⟨k,rfl,rfl⟩
   ·simp only[List.length_cons];exact⟨by omega,by omega,c⟩
   ·simp only[List.length_cons,List.length_append,List.length_nil]at b ⊢
    refine⟨by omega,by omega,fun n hn=>?_⟩
    rcases c n hn with h|h
    ·rcases List.mem_append.1 h with h|h
     ·exact .inl h
     ·rw[List.mem_singleton]at h;subst h;exact .inr ⟨rfl,rfl,by simpa [Opd.ok]using ho.1⟩
    ·exact .inr h
theorem zpr:(zjK.all fun l=>l.all Opd.ok)=true:=by kernel_rfl
theorem znd(op:Int):(opsOf op).all Opd.ok=true:=by
 rw[opsOf,List.getD_eq_getElem?_getD]
 cases h:zjK[(op - 1).toNat]? with
 |none=>rfl
 |some l=>exact List.all_eq_true.1 zpr l (List.mem_of_getElem? h)
theorem zpM{α:Type}[Inhabited α]{l:List α}{k j:Nat}{x:α}(h:k < l.length):gd (l.set k x) j=if j=k then x else gd l j:=by
 simp only[gd,List.getD_eq_getElem?_getD,List.getElem?_set]
 by_cases e:k=j
 ·subst e;simp[h]
 ·simp[e,Ne.symm e]
theorem zpN{α:Type}[Inhabited α]{l r:List α}{j:Nat}(h:j < l.length):gd (l++r) j=gd l j:=by
 simp only[gd,List.getD_eq_getElem?_getD,List.getElem?_append_left h]
theorem Inv.less{b:Bool}{x:APr}(h:Inv b x){ts:List Token}(hl:ts.length<=x.tokens.length):Inv b { x with tokens:=ts }:=by
 obtain⟨h1,h2,h3,h4,h5,h6,h7,h8,h9,h10,h11,h12⟩:=h
 exact⟨by dsimp only;omega,by dsimp only;omega,by dsimp only;omega,by dsimp only;omega,by dsimp only;omega,by dsimp only;omega,h7,h8,fun f hf=>by have:=h9 f hf;dsimp only;omega,h10,h11,h12⟩
theorem znG{x y:APr}{t:Token}{r:List Token}{b:Bool}(hx:Inv true x)(ht:x.tokens=t::r)(h:zhi x t r=.inr (b,y)):Inv b y /\ y.tokens.length<=r.length /\ y.end_=x.end_:=by
 rw[zhi]at h
 have hl:x.tokens.length=r.length+1:=by rw[ht];rfl
 split at h
 ·split at h
  ·rename_i op hop
   dsimp only at h
   split at h
   ·cases h
   ·rename_i i r1 n1 hr
    split at h
    ·cases h
    ·rename_i r2 hc
     injection h with h;injection h with h1 h2;subst h1 h2
     have hc:=zbC hc
     obtain⟨a,b,c⟩:=zl7 (znd op) hr
     obtain⟨h1,h2,h3,h4,h5,h6,h7,h8,h9,h10,h11,h12⟩:=hx
     have hk:x.p.Funcs.length - 1 < x.p.Funcs.length:=by have:=h12 rfl;omega
     have hk2:x.p.Funcs.length - 1 < x.insts.length:=by omega
     have hf:=h9 _ (znu hk)
     have hg:=h10 _ hk
     have hset:∀ j,(gd (x.p.Funcs.set (x.p.Funcs.length - 1) { gd x.p.Funcs (x.p.Funcs.length - 1) with Code:=(gd x.p.Funcs (x.p.Funcs.length - 1)).Code++[i] }) j).Code.length=if j=x.p.Funcs.length - 1 then(gd x.p.Funcs j).Code.length+1 else(gd x.p.Funcs j).Code.length:=fun j=>by
      rw[zpM hk];split
      ·rename_i e;subst e;simp
      ·rfl
     refine⟨⟨by dsimp only;omega,by dsimp only;omega,by dsimp only;omega,by dsimp only;rw[List.length_set];omega,by dsimp only;omega,by dsimp only;omega,by dsimp only;rw[List.length_set];omega,by dsimp only;rw[List.length_set,List.length_set];omega,fun f hf'=>?_,fun k hk'=>?_,fun n hn=>?_,fun _=>by dsimp only;rw[List.length_set];omega⟩,by dsimp only;omega,rfl⟩
     ·dsimp only at hf' ⊢
      rcases List.mem_or_eq_of_mem_set hf' with h|h
      ·have:=h9 f h;omega
      ·subst h;simp only[List.length_append,List.length_singleton];omega
     ·dsimp only at hk' ⊢
      rw[List.length_set]at hk'
      rw[hset,zpM hk2]
      split
      ·rename_i e;subst e;simp only[List.length_append,List.length_singleton];omega
      ·exact h10 k hk'
     ·dsimp only at hn ⊢
      rcases c n hn with h |⟨e1,e2,e3⟩
      ·have:=h11 n h
       rw[zdl]at this ⊢
       split at this
       ·rw[if_pos (by assumption)];exact this
       ·rw[if_neg (by assumption),hset,List.length_set]
        refine⟨this.1,this.2.1,this.2.2.1,?_⟩
        have:=this.2.2.2
        split<;>omega
      ·rw[zdl,e3,if_neg (by simp),hset,List.length_set,e1,e2]
       refine⟨by omega,by omega,by omega,?_⟩
       rw[if_pos (by omega)]
       simp only[Int.toNat_natCast];omega
  ·split at h
   ·split at h
    ·cases h
    ·rename_i r2 hc
     injection h with h;injection h with h1 h2;subst h1 h2
     have hc:=zbC hc
     have h:=Inv.less hx (ts:=r2) (by omega)
     exact⟨⟨h.vars,h.mutexes,h.conds,h.funs,h.threads,h.names,h.funcs,h.insts,h.codes,h.inst,h.nok,fun h=>by cases h⟩,hc,rfl⟩
   ·cases h
 ·cases h
theorem znA{x y:APr}{t:Token}{r:List Token}{b:Bool}(hx:Inv false x)(ht:x.tokens=t::r)(h:zhT x t r=.inr (b,y)):Inv b y /\ y.tokens.length<=r.length /\ y.end_=x.end_:=by
 have hl:x.tokens.length=r.length+1:=by rw[ht];rfl
 obtain⟨h1,h2,h3,h4,h5,h6,h7,h8,h9,h10,h11,h12⟩:=hx
 rw[zhT]at h
 split at h
 ·cases h
 split at h
 ·split at h
  ·cases h
  ·rename_i hn1
   split at h
   ·cases h
   ·rename_i hn2
    split at h
    ·cases h
    ·rename_i r3 hc
     injection h with h;injection h with e1 e2;subst e1 e2
     have hc:=zbC hc;have hn1:=congrArg List.length (zdR hn1).1;have hn2:=congrArg List.length (zdR hn2).1
     simp only[List.length_cons]at hn1 hn2
     exact⟨⟨by dsimp only;rw[List.length_append,List.length_singleton];omega,by dsimp only;omega,by dsimp only;omega,by dsimp only;omega,by dsimp only;omega,by dsimp only;omega,h7,h8,fun f hf=>by have:=h9 f hf;dsimp only;omega,h10,h11,fun h=>by cases h⟩,by dsimp only;omega,rfl⟩
 split at h
 ·split at h
  ·cases h
  ·rename_i hn1
   split at h
   ·cases h
   ·rename_i r3 hc
    injection h with h;injection h with e1 e2;subst e1 e2
    have hc:=zbC hc;have hn1:=congrArg List.length (zdR hn1).1
    simp only[List.length_cons]at hn1
    exact⟨⟨by dsimp only;omega,by dsimp only;rw[List.length_append,List.length_singleton];omega,by dsimp only;omega,by dsimp only;omega,by dsimp only;omega,by dsimp only;omega,h7,h8,fun f hf=>by have:=h9 f hf;dsimp only;omega,h10,h11,fun h=>by cases h⟩,by dsimp only;omega,rfl⟩
 split at h
 ·split at h
  ·cases h
  ·rename_i hn1
   split at h
   ·cases h
   ·rename_i r3 hc
    injection h with h;injection h with e1 e2;subst e1 e2
    have hc:=zbC hc;have hn1:=congrArg List.length (zdR hn1).1
    simp only[List.length_cons]at hn1
    exact⟨⟨by dsimp only;omega,by dsimp only;omega,by dsimp only;rw[List.length_append,List.length_singleton];omega,by dsimp only;omega,by dsimp only;omega,by dsimp only;omega,h7,h8,fun f hf=>by have:=h9 f hf;dsimp only;omega,h10,h11,fun h=>by cases h⟩,by dsimp only;omega,rfl⟩
 split at h
 ·split at h
  ·cases h
  ·rename_i n _ hn1
   split at h
   ·cases h
   ·rename_i r3 hc
    injection h with h;injection h with e1 e2;subst e1 e2
    have hc:=zbC hc;have hn1:=congrArg List.length (zdR hn1).1
    simp only[List.length_cons]at hn1
    refine⟨⟨by dsimp only;omega,by dsimp only;omega,by dsimp only;omega,by dsimp only;rw[List.length_append,List.length_singleton];omega,by dsimp only;omega,by dsimp only;omega,by dsimp only;simp only[List.length_append,List.length_singleton];omega,by dsimp only;simp only[List.length_append,List.length_singleton];omega,fun f hf=>?_,fun k hk=>?_,fun n hn=>?_,fun _=>by dsimp only;rw[List.length_append,List.length_singleton];omega⟩,by dsimp only;omega,rfl⟩
    ·dsimp only at hf ⊢
     rcases List.mem_append.1 hf with h|h
     ·have:=h9 f h;omega
     ·rw[List.mem_singleton]at h;subst h;simp only[List.length_nil];omega
    ·dsimp only at hk ⊢
     rw[List.length_append,List.length_singleton]at hk
     rcases Nat.lt_or_ge k x.p.Funcs.length with h|h
     ·rw[zpN h,zpN (by omega)];exact h10 k h
     ·have:k=x.p.Funcs.length:=by omega
      subst this
      rw[show gd (x.p.Funcs++[(⟨n.Text,[]⟩:Func)]) x.p.Funcs.length=⟨n.Text,[]⟩ by simp[gd],show gd (x.insts++[[]]) x.p.Funcs.length=[] by rw[<- h8];simp[gd]];rfl
    ·have:=h11 n hn
     rw[zdl]at this ⊢
     split at this
     ·rw[if_pos (by assumption)];exact this
     ·rw[if_neg (by assumption)]
      dsimp only
      rw[zpN (by omega),List.length_append]
      exact⟨this.1,by omega,this.2.2⟩
 split at h
 ·split at h
  ·cases h
  ·rename_i hn1
   split at h
   ·cases h
   ·rename_i hn2
    split at h
    ·cases h
    ·rename_i r3 hc
     injection h with h;injection h with e1 e2;subst e1 e2
     obtain⟨u,e1,e2⟩:=zmo hn1
     subst e2
     have hc:=zbC hc;have hn1:=congrArg List.length e1;have hn2:=congrArg List.length (zdR hn2).1
     simp only[List.length_cons]at hn1 hn2
     refine⟨⟨by dsimp only;omega,by dsimp only;omega,by dsimp only;omega,by dsimp only;omega,by dsimp only;rw[List.length_append,List.length_singleton];omega,by dsimp only;rw[List.length_append,List.length_singleton];omega,h7,h8,fun f hf=>by have:=h9 f hf;dsimp only;omega,h10,fun n hn=>?_,fun h=>by cases h⟩,by dsimp only;omega,rfl⟩
     dsimp only at hn ⊢
     rcases List.mem_append.1 hn with h|h
     ·have:=h11 n h
      rw[zdl]at this ⊢
      split at this
      ·rw[if_pos (by assumption)];dsimp only;rw[List.length_append];exact⟨this.1,by omega⟩
      ·rw[if_neg (by assumption)];exact this
     ·rw[List.mem_singleton]at h;subst h
      rw[zdl,if_pos (by exact(show eqS zbu zbu=true by kernel_rfl))]
      dsimp only;rw[List.length_append,List.length_singleton];omega
 ·cases h
theorem zkf{x y:APr}{t:Token}{r:List Token}{b b':Bool}(hx:Inv b x)(ht:x.tokens=t::r)(h:zhR b x t r=.inr (b',y)):Inv b' y /\ y.tokens.length<=r.length /\ y.end_=x.end_:=by
 cases b
 ·exact znA hx ht h
 ·exact znG hx ht h
def outL (o:Fault ⊕ (Bool × APr)):(Bool × (List Token) × Int × (List Var) × (List ByteArray) × (List ByteArray) × (List Func) × (List Start) × (List ANm) × (List Int) × (List (List Int))) ⊕ Fault:=match o with
 |.inl e=>.inr e
 |.inr (b,x)=>.inl (b,x.tokens,x.end_,x.p.Vars,x.p.Mutexes,x.p.Conds,x.p.Funcs,x.p.Threads,x.names,x.funcs,x.insts)
theorem zh2{fuel:Nat}:∀(q n:Nat) (b:Bool) (x:APr),Inv b x->x.tokens.length<=n->x.tokens.length < q ->
  zci (fuel+23) q b x.tokens x.end_ x.p.Vars x.p.Mutexes x.p.Conds x.p.Funcs x.p.Threads x.names x.funcs x.insts=some (outL (zfZ n b x))
 |0,n,b,x,_,_,h=>absurd h (by omega)
 |q+1,0,b,x,hx,h0,h=>by
  have e:x.tokens=[]:=List.length_eq_zero_iff.1 (by omega)
  rw[zci,e,zfZ]
  simp only[outL,e];rfl
 |q+1,n+1,b,x,hx,h0,h=>by
  cases ht:x.tokens with
  |nil=>rw[zci,zfZ];simp only[outL,ht];rfl
  |cons t r=>
   have hl:x.tokens.length=r.length+1:=by rw[ht];rfl
   rw[zci,zfZ,ht,zgd,ze8,show ltI 0 (((t::r).length:Nat):Int)=true by rw[za2,decide_eq_true_eq];simp only[List.length_cons];omega]
   simp only[cond_true,List.getElem?_cons_zero,Option.bind_some,zad,zaL]
   by_cases h4:t.Kind=4
   ·rw[if_pos h4,decide_eq_true h4,cond_true]
    exact zh2 q n b { x with tokens:=r } (hx.less (by omega)) (by dsimp only;omega) (by dsimp only;omega)
   ·rw[if_neg h4,decide_eq_false h4,cond_false]
    cases b
    ·have hd:=zq8 hx ht
     rw[show({ tokens:=t::r,end_:=x.end_,p:={ Vars:=x.p.Vars,Mutexes:=x.p.Mutexes,Conds:=x.p.Conds,Funcs:=x.p.Funcs,Threads:=x.p.Threads },names:=x.names,funcs:=x.funcs,insts:=x.insts }:APr)=x by rw[<- ht],hd]
     simp only[cond_false,Option.bind_some,zhR,reduceIte,Bool.false_eq_true]
     rcases hm:zhT x t r with e |⟨b',y⟩
     ·rfl
     ·obtain⟨i1,i2,i3⟩:=znA hx ht hm
      exact zh2 q n b' y i1 (by omega) (by omega)
    ·have hd:=zra (fuel:=fuel) hx ht
     rw[ht]at hd
     rw[cond_true,hd]
     simp only[Option.bind_some,zhR,reduceIte]
     rcases hm:zhi x t r with e |⟨b',y⟩
     ·rfl
     ·obtain⟨i1,i2,i3⟩:=znG hx ht hm
      have hy:y.p.Vars=x.p.Vars /\ y.p.Mutexes=x.p.Mutexes /\ y.p.Conds=x.p.Conds /\ y.p.Threads=x.p.Threads /\ y.funcs=x.funcs:=by
       rw[zhi]at hm
       split at hm
       ·split at hm
        ·dsimp only at hm
         split at hm
         ·cases hm
         ·split at hm
          ·cases hm
          ·injection hm with hm;injection hm with e1 e2;subst e2;exact⟨rfl,rfl,rfl,rfl,rfl⟩
        ·split at hm
         ·split at hm
          ·cases hm
          ·injection hm with hm;injection hm with e1 e2;subst e2;exact⟨rfl,rfl,rfl,rfl,rfl⟩
         ·cases hm
       ·cases hm
      obtain⟨v1,v2,v3,v4,v5⟩:=hy
      have:=zh2 (fuel:=fuel) q n b' y i1 (by omega) (by omega)
      rw[v1,v2,v3,v4,v5,i3]at this
      exact this
end Go.Dc.Pa
end
section
namespace Go.Dc
open Go Go.Hw Go.Proofs
def zcF:List Var->(List ByteArray)->Nat->Option (List ByteArray)
 |[],l115,k116=>some (l115)
 |x138::q134,l115,k116=>Option.bind (some ([x138.Name])) (fun l141=>zai (limB 16 (l115.length+l141.length)) (Option.bind (some (l115++l141)) (fun l144=>zcF q134 l144 (k116+1))))
def zcE:List Func->(List ByteArray)->Nat->Option (List ByteArray)
 |[],l167,k168=>some (l167)
 |x190::q186,l167,k168=>Option.bind (some ([x190.Name])) (fun l193=>zai (limB 16 (l167.length+l193.length)) (Option.bind (some (l167++l193)) (fun l196=>zcE q186 l196 (k168+1))))
def zch(a2:ByteArray):List ByteArray->Nat->Option (Unit ⊕ (Int × Bool))
 |[],k239=>some (.inl ())
 |x256::q252,k239=>cond (eqS x256 a2) (some (.inr (((k239:Nat):Int),true))) (zch a2 q252 (k239+1))
def zgS(a0:Program)(a1:ByteArray)(a2:ByteArray):Option (Int × Bool):=
 Option.bind (α:=(List ByteArray)) (cond (eqS a1 (⟨#[118,97,114]⟩:ByteArray)) (Option.bind (zcF a0.Vars [] 0) (fun l127=>some (l127))) (Option.bind (α:=Bool) (cond (eqS a1 (⟨#[109,117,116,101,120]⟩:ByteArray)) (some (eqS a1 (⟨#[109,117,116,101,120]⟩:ByteArray))) (some (eqS a1 (⟨#[111,102,32,119,97,105,116]⟩:ByteArray)))) (fun b147=>cond b147 (some (a0.Mutexes)) (cond (eqS a1 (⟨#[99,111,110,100]⟩:ByteArray)) (some (a0.Conds)) (Option.bind (zcE a0.Funcs [] 0) (fun l179=>some (l179))))))) (fun l97=>Option.bind (α:=Unit ⊕ (Int × Bool)) (zai (lenB l97.length) (Option.bind (zch a2 l97 0) (fun o=>match o with|.inl _=>some (.inl ())|.inr r261=>some (.inr r261)))) (fun o=>match o with|.inl _=>some (0,false)|.inr r262=>some r262))
theorem zmS{a0:Program}{a1:ByteArray}{a2:ByteArray}{r:Int × Bool}(hs:zgS a0 a1 a2=some r):At Tryz.prog 69 [.agg (eA a0),sV a1,sV a2] (.tup [iV .i64 r.1,bV r.2]):=by
 refine zab (by kernel_rfl) fun hb=>?_
 have hb1:LenOk (.sl a0.Vars.length (encL a0.Vars)):=lkc hb
 have hb2:LenOk (.sl a0.Mutexes.length (encL a0.Mutexes)):=lkc hb
 have hb3:LenOk (.sl a0.Conds.length (encL a0.Conds)):=lkc hb
 have hb4:LenOk (.sl a0.Funcs.length (encL a0.Funcs)):=lkc hb
 have hb5:LenOk (.sl a0.Threads.length (encL a0.Threads)):=lkc hb
 refine zac mixed Tryz.func69 (by kernel_rfl) rfl (by kernel_rfl) rfl fun Q hQ=>?_
 rw[zgS]at hs
 refine goR2 f0 ?_
 revert hs;refine bK fun o99 e98 hs=>?_
 refine zaj (fun(v:(List ByteArray)) (σ:St)=>some (v)=some o99 /\ σ.env 2=sV a2 /\ σ.env 8=.cell (sC v) /\ 3<=σ.gen) (by rfl) (fun Q hK100 hX101=>?_) (fun l97 σ7 hp=>?_)
 ·refine goR2 f0 ?_
  refine zdr ?_
  refine goR f0 ?_
  revert e98;refine cS f0 ?_ ?_<;>intro h102 e98
  ·refine goR f0 ?_
   revert e98;refine bK fun o129 e128 e98=>?_
   refine zaf (fun(v:(List Var) × (List ByteArray) × Nat) (σ:St)=>zcF v.1 v.2.1 v.2.2=some o129 /\ v.1=a0.Vars.drop v.2.2 /\ σ.env 2=sV a2 /\ σ.env 8=.cell (.sl (.l 8) 0 1 v.2.1.length) /\ σ.env 32=.cell (sC a0.Vars) /\ σ.env 33=iV .i64 ((a0.Vars.length:Nat):Int) /\ σ.env 34=iV .i64 ((v.2.2:Nat):Int) /\ σ.hp (.l 8)=some (.pure (encL v.2.1)) /\ 5<=σ.gen) (fun v=>v.1.length) _ (Gh.void _ (.l 8) 8 1 rfl (by simp)) (a0.Vars,[],0) ⟨e128,by simp,pv f0,pv f0,pv f0,pv f0,pv f0,pv f0,pg⟩ fun v σ10 hp L130 hL131=>?_
   obtain⟨q133,l115,k116⟩:=v
   dsimp only at hp hL131
   obtain⟨e128,hd132,h9_2,h9_8,h9_32,h9_33,h9_34,g9_0,n9_g⟩:=hp
   rcases q133 with _ |⟨x138,q134⟩
   ·have hlt135:=drop_end hd132
    rw[zcF]at e128;try dsimp only at e128
    have F1:=an h9_2 (an h9_8 (an h9_32 (an h9_33 (an h9_34 g9_0))))
    refine goR F1 ?_
    refine zaF (by simp[ltI];omega) ?_
    obtain rfl:=sj e128
    try dsimp only at e98
    exact hK100 l115 _ _ (Gh.frz _ (.l 8)) ⟨e98,pv F1,pv F1,pg⟩
   ·obtain⟨hx137,hlt135,hd139⟩:=zay hd132
    have ew136:=wrap_succ hlt135 (hb1).len
    rw[zcF]at e128;try dsimp only at e128
    have F2:=an h9_2 (an h9_8 (an h9_32 (an h9_33 (an h9_34 (an g9_0 (an hlt135 ew136))))))
    refine goR F2 ?_
    refine zaB (by simp[ltI];omega) ?_
    have f140:zam Tryz.prog 46 (encL a0.Vars) (k116 * 2)=some (.agg (eA x138)):=zae hx137 (f:=0) (by simp)
    revert e128;refine lK fun l141 hx142 e128=>?_
    have hx142n:l141.length=1:=by rw[hx142];rfl
    obtain⟨g143,e128⟩:=zaa e128
    have g143:=zbv g143
    obtain⟨g143a,g143b⟩:=g143
    revert e128;refine lK fun l144 hx145 e128=>?_
    have hx145n:l144.length=(l115.length+l141.length):=by rw[hx145];simp
    have hx145e:encL l144=encL l115++encL l141:=by rw[hx145];simp
    have F3:=an F2 (an f140 (an hx142 (an hx145n hx145e)))
    refine goR F3 ?_
    exact hL131 (q134,l144,(k116+1)) _ _ (Gh.ren _ (.o (σ10.gen+3) 4 0) (.l 8) (by simp) rfl rfl) ⟨e128,hd139,pv F3,pv F3,pv F3,pv F3,pv F3,pv F3,pg⟩ (by simp)
  ·refine goR2 f0 ?_
   revert e98;refine bK fun o149 e148 e98=>?_
   refine zdd (fun(v:Bool) (σ:St)=>some (v)=some o149 /\ σ.env 2=sV a2 /\ σ.env 3=.cell (.ref (.o 1 0 0) 0) /\ σ.env 8=.cell (.z) /\ σ.env 15=sV a1 /\ σ.env 44=bV v /\ σ.hp (.o 1 0 0)=some (.cells (eA a0)) /\ 5<=σ.gen) (fun Q hK150 hX151=>?_) (fun b147 σ11 hp=>?_)
   ·refine goR f0 ?_
    revert e148;refine cS f0 ?_ ?_<;>intro h152 e148
    ·refine goR f0 ?_
     exact hK150 (eqS a1 (⟨#[109,117,116,101,120]⟩:ByteArray)) _ ⟨e148,pv f0,pv f0,pv f0,pv f0,pv f0,pv f0,pg⟩
    ·refine goR f0 ?_
     exact hK150 (eqS a1 (⟨#[111,102,32,119,97,105,116]⟩:ByteArray)) _ ⟨e148,pv f0,pv f0,pv f0,pv f0,pv f0,pv f0,pg⟩
   ·obtain⟨e148,h12_2,h12_3,h12_8,h12_15,h12_44,g12_0,n12_g⟩:=hp
    obtain rfl:=sj e148
    try dsimp only at e98
    have n12_0:¬ (σ11.gen=0):=by omega
    have F4:=an h12_2 (an h12_3 (an h12_8 (an h12_15 (an h12_44 (an g12_0 n12_0)))))
    refine goR F4 ?_
    revert e98;refine cS F4 ?_ ?_<;>intro h153 e98
    ·refine goR F4 ?_
     exact hK100 a0.Mutexes _ _ (Gh.refl _) ⟨e98,pv F4,pv F4,pg⟩
    ·refine goR F4 ?_
     revert e98;refine cS F4 ?_ ?_<;>intro h154 e98
     ·refine goR F4 ?_
      exact hK100 a0.Conds _ _ (Gh.refl _) ⟨e98,pv F4,pv F4,pg⟩
     ·refine goR F4 ?_
      revert e98;refine bK fun o181 e180 e98=>?_
      refine zaf (fun(v:(List Func) × (List ByteArray) × Nat) (σ:St)=>zcE v.1 v.2.1 v.2.2=some o181 /\ v.1=a0.Funcs.drop v.2.2 /\ σ.env 2=sV a2 /\ σ.env 8=.cell (.sl (.l 11) 0 1 v.2.1.length) /\ σ.env 17=.cell (sC a0.Funcs) /\ σ.env 18=iV .i64 ((a0.Funcs.length:Nat):Int) /\ σ.env 19=iV .i64 ((v.2.2:Nat):Int) /\ σ.hp (.l 11)=some (.pure (encL v.2.1)) /\ (σ11.gen+2)<=σ.gen) (fun v=>v.1.length) _ (Gh.void _ (.l 11) 8 1 rfl (by simp[F4])) (a0.Funcs,[],0) ⟨e180,by simp,pv F4,pv F4,pv F4,pv F4,pv F4,pv F4,pg⟩ fun v σ14 hp L182 hL183=>?_
      obtain⟨q185,l167,k168⟩:=v
      dsimp only at hp hL183
      obtain⟨e180,hd184,h13_2,h13_8,h13_17,h13_18,h13_19,g13_0,n13_g⟩:=hp
      rcases q185 with _ |⟨x190,q186⟩
      ·have hlt187:=drop_end hd184
       rw[zcE]at e180;try dsimp only at e180
       have F5:=an h13_2 (an h13_8 (an h13_17 (an h13_18 (an h13_19 g13_0))))
       refine goR F5 ?_
       refine zaF (by simp[ltI];omega) ?_
       obtain rfl:=sj e180
       try dsimp only at e98
       exact hK100 l167 _ _ (Gh.frz _ (.l 11)) ⟨e98,pv F5,pv F5,pg⟩
      ·obtain⟨hx189,hlt187,hd191⟩:=zay hd184
       have ew188:=wrap_succ hlt187 (hb4).len
       rw[zcE]at e180;try dsimp only at e180
       have F6:=an h13_2 (an h13_8 (an h13_17 (an h13_18 (an h13_19 (an g13_0 (an hlt187 ew188))))))
       refine goR F6 ?_
       refine zaB (by simp[ltI];omega) ?_
       have f192:zam Tryz.prog 49 (encL a0.Funcs) (k168 * 2)=some (.agg (eA x190)):=zae hx189 (f:=0) (by simp)
       revert e180;refine lK fun l193 hx194 e180=>?_
       have hx194n:l193.length=1:=by rw[hx194];rfl
       obtain⟨g195,e180⟩:=zaa e180
       have g195:=zbv g195
       obtain⟨g195a,g195b⟩:=g195
       revert e180;refine lK fun l196 hx197 e180=>?_
       have hx197n:l196.length=(l167.length+l193.length):=by rw[hx197];simp
       have hx197e:encL l196=encL l167++encL l193:=by rw[hx197];simp
       have F7:=an F6 (an f192 (an hx194 (an hx197n hx197e)))
       refine goR F7 ?_
       exact hL183 (q186,l196,(k168+1)) _ _ (Gh.ren _ (.o (σ14.gen+3) 4 0) (.l 11) (by simp) rfl rfl) ⟨e180,hd191,pv F7,pv F7,pv F7,pv F7,pv F7,pv F7,pg⟩ (by simp)
 ·obtain⟨e98,h8_2,h8_8,n8_g⟩:=hp
  obtain rfl:=sj e98
  try dsimp only at hs
  have F8:=an h8_2 h8_8
  refine goR2 F8 ?_
  revert hs;refine bK fun o229 e228 hs=>?_
  refine zaj (fun(v:Unit) (σ:St)=>some (.inl v)=some o229 /\ (σ7.gen+1)<=σ.gen) (by rfl) (fun Q hK230 hX231=>?_) (fun v σ17 hp=>?_)
  ·refine goR F8 ?_
   obtain⟨hb257,e228⟩:=zaa e228
   revert e228;refine bK fun o247 e246 e228=>?_
   refine zaf (fun(v:(List ByteArray) × Nat) (σ:St)=>zch a2 v.1 v.2=some o247 /\ v.1=l97.drop v.2 /\ σ.env 2=sV a2 /\ σ.env 53=.cell (sC l97) /\ σ.env 54=iV .i64 ((l97.length:Nat):Int) /\ σ.env 55=iV .i64 ((v.2:Nat):Int) /\ (σ7.gen+1)<=σ.gen) (fun v=>v.1.length) _ (Gh.refl _) (l97,0) ⟨e246,by simp,pv F8,pv F8,pv F8,pv F8,pg⟩ fun v σ20 hp L248 hL249=>?_
   obtain⟨q251,k239⟩:=v
   dsimp only at hp hL249
   obtain⟨e246,hd250,h19_2,h19_53,h19_54,h19_55,n19_g⟩:=hp
   rcases q251 with _ |⟨x256,q252⟩
   ·have hlt253:=drop_end hd250
    rw[zch]at e246;try dsimp only at e246
    have F9:=an h19_2 (an h19_53 (an h19_54 h19_55))
    refine goR F9 ?_
    refine zaF (by simp[ltI];omega) ?_
    obtain rfl:=sj e246
    try dsimp only at e228
    exact hK230 () _ _ (Gh.refl _) ⟨e228,pg⟩
   ·obtain⟨hx255,hlt253,hd258⟩:=zay hd250
    have ew254:=za1 hlt253 hb257
    rw[zch]at e246;try dsimp only at e246
    have F10:=an h19_2 (an h19_53 (an h19_54 (an h19_55 (an hlt253 ew254))))
    refine goR F10 ?_
    refine zaB (by simp[ltI];omega) ?_
    have f259:zam Tryz.prog 9 (encL l97) (k239)=some (sV x256):=zaz hx255 (by simp)
    have F11:=an F10 f259
    refine goR F11 ?_
    revert e246;refine cS F11 ?_ ?_<;>intro h260 e246
    ·refine goR F11 ?_
     obtain rfl:=sj e246
     try dsimp only at e228
     obtain rfl:=sj e228
     try dsimp only at hs
     refine hX231 _ _ (by simp) ?_
     refine goR F11 ?_
     obtain rfl:=sj hs
     exact hQ _ _ (rg F11 (Gh.refl _))
    ·refine goR F11 ?_
     exact hL249 (q252,(k239+1)) _ _ (Gh.refl _) ⟨e246,hd258,pv F11,pv F11,pv F11,pv F11,pg⟩ (by simp)
  ·obtain⟨e228,n18_g⟩:=hp
   obtain rfl:=sj e228
   try dsimp only at hs
   refine goR f0 ?_
   obtain rfl:=sj hs
   exact hQ _ _ (rg f0 (Gh.refl _))
def zbx(a0:ANm)(a1:Program):Option (Fault ⊕ Int):=
 Option.bind (zgS a1 a0.kind a0.token.Text) (fun y1=>cond (!y1.2) (Option.bind (zaH 5 a0.token.At) (fun y4=>some (.inl y4))) (some (.inr y1.1)))
theorem zbW{a0:ANm}{a1:Program}{r:Fault ⊕ Int}(hs:zbx a0 a1=some r):CAt Tryz.prog 39 [.agg (eA a0),.agg (eA a1)] [] (panO panV (fun(r:Int)=>iV .i64 r) r) (panP (fun(r:Int)=>[]) r):=by
 refine zab (by kernel_rfl) fun hb=>?_
 have hb1:LenOk (.sl a1.Vars.length (encL a1.Vars)):=lkc hb
 have hb2:LenOk (.sl a1.Mutexes.length (encL a1.Mutexes)):=lkc hb
 have hb3:LenOk (.sl a1.Conds.length (encL a1.Conds)):=lkc hb
 have hb4:LenOk (.sl a1.Funcs.length (encL a1.Funcs)):=lkc hb
 have hb5:LenOk (.sl a1.Threads.length (encL a1.Threads)):=lkc hb
 refine zac mixed Tryz.func39 (by kernel_rfl) rfl (by kernel_rfl) rfl fun Q hQ=>?_
 rw[zbx]at hs
 refine goR f0 ?_
 revert hs;refine bK fun y1 hx2 hs=>?_
 refine cP f0 (zmS hx2) ?_
 refine goR f0 ?_
 revert hs;refine cS f0 ?_ ?_<;>intro h3 hs
 ·refine goR f0 ?_
  revert hs;refine bK fun y4 hx5 hs=>?_
  refine cX f0 (zaA hx5) [] (fun v=>?_)
  obtain rfl:=sj hs
  exact hQ _ _ zan
 ·refine goR f0 ?_
  obtain rfl:=sj hs
  exact hQ _ _ (rg f0 (Gh.refl _))
def zcV:List ANm->Nat->(List Var)->(List ByteArray)->(List ByteArray)->(List Func)->(List Start)->Option (((List Var) × (List ByteArray) × (List ByteArray) × (List Func) × (List Start)) ⊕ Fault)
 |[],k68,l69,l70,l71,l72,l73=>some (.inl (l69,l70,l71,l72,l73))
 |x150::q146,k68,l69,l70,l71,l72,l73=>Option.bind (zbx x150 ({ Vars:=l69,Mutexes:=l70,Conds:=l71,Funcs:=l72,Threads:=l73 }:Program)) (fun y158=>(match y158 with|.inl e160=>some (.inr e160)|.inr y161=>cond (eqS x150.kind (⟨#[116,104,114,101,97,100]⟩:ByteArray)) (Option.bind (getI l73 x150.fn) (fun x168=>Option.bind (some (l73.set ((x150.fn).toNat) ({ x168 with Func:=y161 }))) (fun l170=>zcV q146 (k68+1) l69 l70 l71 l72 l170))) (cond (eqS x150.kind (⟨#[111,102,32,119,97,105,116]⟩:ByteArray)) (Option.bind (getI l72 x150.fn) (fun x174=>Option.bind (getI x174.Code x150.at_) (fun x184=>Option.bind (some (x174.Code.set ((x150.at_).toNat) ({ x184 with N:=y161 }))) (fun l186=>Option.bind (some (l72.set ((x150.fn).toNat) ({ x174 with Code:=l186 }))) (fun l190=>zcV q146 (k68+1) l69 l70 l71 l190 l73))))) (Option.bind (getI l72 x150.fn) (fun x192=>Option.bind (getI x192.Code x150.at_) (fun x202=>Option.bind (some (x192.Code.set ((x150.at_).toNat) ({ x202 with Obj:=y161 }))) (fun l204=>Option.bind (some (l72.set ((x150.fn).toNat) ({ x192 with Code:=l204 }))) (fun l208=>zcV q146 (k68+1) l69 l70 l71 l208 l73))))))))
def zlY(a0_2:List Var)(a0_3:List ByteArray)(a0_4:List ByteArray)(a0_5:List Func)(a0_6:List Start)(a0_7:List ANm):Option (Fault ⊕ ((List Var) × (List ByteArray) × (List ByteArray) × (List Func) × (List Start))):=
 zai (lenB a0_7.length) (Option.bind (zcV a0_7 0 a0_2 a0_3 a0_4 a0_5 a0_6) (fun o=>match o with|.inl (l135,l136,l137,l138,l139)=>some (.inr (l135,l136,l137,l138,l139))|.inr e210=>some (.inl e210)))
theorem zlV{c0_0:FC}{c0_1:FC}{c0_8:FC}{c0_9:FC}{a0_2:List Var}{a0_3:List ByteArray}{a0_4:List ByteArray}{a0_5:List Func}{a0_6:List Start}{a0_7:List ANm}{r:Fault ⊕ ((List Var) × (List ByteArray) × (List ByteArray) × (List Func) × (List Start))}(hs:zlY a0_2 a0_3 a0_4 a0_5 a0_6 a0_7=some r):CAt Tryz.prog 16 [.cell (.ref (.a 0) 0)] [.cells [c0_0.ac,c0_1.ac,.own (.sp 2 a0_2.length (encL a0_2)),.own (.sp 1 a0_3.length (encL a0_3)),.own (.sp 1 a0_4.length (encL a0_4)),.own (.sl 2 a0_5.length (otL a0_5)),.own (.sp 2 a0_6.length (encL a0_6)),.own (.sp 7 a0_7.length (encL a0_7)),c0_8.ac,c0_9.ac]] (panO panV (fun(r:(List Var) × (List ByteArray) × (List ByteArray) × (List Func) × (List Start))=>.tup []) r) (panP (fun(r:(List Var) × (List ByteArray) × (List ByteArray) × (List Func) × (List Start))=>[(.a 0,.cells [c0_0.ac,c0_1.ac,.own (.sp 2 r.1.length (encL r.1)),.own (.sp 1 r.2.1.length (encL r.2.1)),.own (.sp 1 r.2.2.1.length (encL r.2.2.1)),.own (.sl 2 r.2.2.2.1.length (otL r.2.2.2.1)),.own (.sp 2 r.2.2.2.2.length (encL r.2.2.2.2)),.own (.sp 7 a0_7.length (encL a0_7)),c0_8.ac,c0_9.ac])]) r):=by
 refine zab (by kernel_rfl) fun hb=>?_
 refine zac mixed Tryz.func16 (by kernel_rfl) rfl (by kernel_rfl) rfl fun Q hQ=>?_
 rw[zlY]at hs
 refine goR f0 ?_
 obtain⟨hb151,hs⟩:=zaa hs
 revert hs;refine bK fun o141 e140 hs=>?_
 refine zaf (fun(v:(List ANm) × Nat × (List Var) × (List ByteArray) × (List ByteArray) × (List Func) × (List Start)) (σ:St)=>zcV v.1 v.2.1 v.2.2.1 v.2.2.2.1 v.2.2.2.2.1 v.2.2.2.2.2.1 v.2.2.2.2.2.2=some o141 /\ v.1=a0_7.drop v.2.1 /\ σ.env 0=.cell (.ref (.a 0) 0) /\ σ.env 8=.cell (.sl (.o 1 3 7) 0 7 a0_7.length) /\ σ.env 9=iV .i64 ((a0_7.length:Nat):Int) /\ σ.env 10=iV .i64 ((v.2.1:Nat):Int) /\ σ.hp (.o 1 3 7)=some (.pure (encL a0_7)) /\ σ.hp (.a 0)=some (.cells [c0_0.ac,c0_1.ac,.own (.sp 2 v.2.2.1.length (encL v.2.2.1)),.own (.sp 1 v.2.2.2.1.length (encL v.2.2.2.1)),.own (.sp 1 v.2.2.2.2.1.length (encL v.2.2.2.2.1)),.own (.sl 2 v.2.2.2.2.2.1.length (otL v.2.2.2.2.2.1)),.own (.sp 2 v.2.2.2.2.2.2.length (encL v.2.2.2.2.2.2)),.sl (.o 1 3 7) 0 7 a0_7.length,c0_8.ac,c0_9.ac]) /\ 1<=σ.gen) (fun v=>v.1.length) _ (Gh.refl _) (a0_7,0,a0_2,a0_3,a0_4,a0_5,a0_6) ⟨e140,by simp,pv f0,pv f0,pv f0,pv f0,pv f0,pv f0,pg⟩ fun v σ2 hp L142 hL143=>?_
 obtain⟨q145,k68,l69,l70,l71,l72,l73⟩:=v
 dsimp only at hp hL143
 obtain⟨e140,hd144,h1_0,h1_8,h1_9,h1_10,g1_0,g1_1,n1_g⟩:=hp
 have n1_0:¬ (σ2.gen=0):=by omega
 rcases q145 with _ |⟨x150,q146⟩
 ·have hlt147:=drop_end hd144
  rw[zcV]at e140;try dsimp only at e140
  have F1:=an h1_0 (an h1_8 (an h1_9 (an h1_10 (an g1_0 (an g1_1 n1_0)))))
  refine goR F1 ?_
  refine zaF (by simp[ltI];omega) ?_
  obtain rfl:=sj e140
  try dsimp only at hs
  obtain rfl:=sj hs
  refine hQ _ _ (zaG _ (Gh.close _ (.a 0) 7) (by simp[St.frz,St.pur,F1];rfl) (by first|rfl |(simp[St.frz,St.pur,F1];done) |(rw[if_pos (by first|omega |(simp;omega))];simp[St.frz,St.pur,F1];first|omega|exact List.take_of_length_le (by simp;omega)|skip)) (pv F1))
 ·obtain⟨hx149,hlt147,hd152⟩:=zay hd144
  have ew148:=za1 hlt147 hb151
  rw[zcV]at e140;try dsimp only at e140
  have F2:=an h1_0 (an h1_8 (an h1_9 (an h1_10 (an g1_0 (an g1_1 (an n1_0 (an hlt147 ew148)))))))
  refine goR F2 ?_
  refine zaB (by simp[ltI];omega) ?_
  have f153:zam Tryz.prog 86 (encL a0_7) (k68 * 7)=some (.agg (eA x150)):=zae hx149 (f:=0) (by simp)
  have F3:=an F2 f153
  refine goN F3 ?_
  refine za7 ?_
  refine goN F3 ?_
  refine zaX (by rfl) ((Gh.opn _ (.a 0) 2).trans ((Gh.opn _ (.a 0) 3).trans ((Gh.opn _ (.a 0) 4).trans ((Gh.opn _ (.a 0) 5).trans (Gh.opn _ (.a 0) 6))))) ?_
  try simp only[St.frz,St.pur]
  refine goD F3 ?_
  revert e140;refine bK fun y158 hx159 e140=>?_
  rcases y158 with e160|y161
  ·try dsimp only at e140
   refine cXd F3 (zbW hx159) [] ?_
   refine zdq (fun s=>?_) ?_
   ·obtain rfl:=sj e140
    try dsimp only at hs
    obtain rfl:=sj hs
    exact hQ _ _ zan
   ·exact goP F3
  ·try dsimp only at e140
   refine cA F3 (zbW hx159) ?_
   refine goD F3 ?_
   revert e140;refine cS F3 ?_ ?_<;>intro h162 e140
   ·revert e140;refine bK fun x168 hx169 e140=>?_
    obtain⟨hx169a,hx169b,hx169c,hx169d⟩:=zao hx169
    revert e140;refine lK fun l170 hx171 e140=>?_
    have f172:zaC (encL l73) (((x150.fn).toNat) * 2) [.c (.int .i64 y161)]=encL l170:=hx171 ▸ zdy hx169d (f:=0) (by simp) (by simp[zaC])
    simp only[zaC]at f172
    have f172n:l170.length=l73.length:=by rw[hx171];simp
    have f172w:∀ n:Nat,n=l170.length->(encL l170).take (n * 2)=encL l170:=fun n h=>by rw[h];exact zal _ (by simp)
    have F4:=an F3 (an f172 (an f172n f172w))
    refine goD F4 ?_
    exact hL143 (q146,(k68+1),l69,l70,l71,l72,l170) _ _ ((Gh.close _ (.a 0) 2).trans ((Gh.close _ (.a 0) 3).trans ((Gh.close _ (.a 0) 4).trans ((Gh.close _ (.a 0) 5).trans (Gh.close _ (.a 0) 6))))) ⟨e140,hd152,pv F4,pv F4,pv F4,pv F4,pv F4,pv F4,pg⟩ (by simp)
   ·refine goD F3 ?_
    revert e140;refine cS F3 ?_ ?_<;>intro h173 e140
    ·revert e140;refine bK fun x174 hx175 e140=>?_
     obtain⟨hx175a,hx175b,hx175c,hx175d⟩:=zao hx175
     refine goN F3 ?_
     have f176a:(zah l72)[((x150.fn).toNat) * 2+1]?=some (.own (.sp 8 x174.Code.length (encL x174.Code))):=zdQ hx175d (f:=1) (by first|rfl |(simp;done) |(simp;rfl))
     have f176l:((x150.fn).toNat) * 2+1 < (zah l72).length:=(List.getElem?_eq_some_iff.1 f176a).1
     have f176c:=fun c=>(zbw f176l c).1
     have f176d:=fun c=>(zbw f176l c).2
     refine zaX (by rfl) (Gh.opn _ (.o (σ2.gen+6) 0 5) (((x150.fn).toNat) * 2+1)) ?_
     revert e140;refine bK fun x184 hx185 e140=>?_
     obtain⟨hx185a,hx185b,hx185c,hx185d⟩:=zao hx185
     revert e140;refine lK fun l186 hx187 e140=>?_
     have f188:zaC (encL x174.Code) (((x150.at_).toNat) * 8+5) [.c (.int .i64 y161)]=encL l186:=hx187 ▸ zdy hx185d (f:=5) (by simp) (by simp[zaC])
     simp only[zaC]at f188
     have f188n:l186.length=x174.Code.length:=by rw[hx187];simp
     have f188w:∀ n:Nat,n=l186.length->(encL l186).take (n * 8)=encL l186:=fun n h=>by rw[h];exact zal _ (by simp)
     revert e140;refine lK fun l190 hx191 e140=>?_
     have f189:(zah l72).set (((x150.fn).toNat) * 2+1) (.own (.sp 8 l186.length (encL l186)))=zah l190:=by rw[hx191];exact zdP hx175d (f:=1) (by simp) (by first|rfl |(simp;done) |(simp;rfl))
     have f189n:l190.length=l72.length:=by rw[hx191];simp
     have f189t:(encL l186).take (l186.length * 8)=encL l186:=zal _ (by simp)
     have f189u:l186.length=x174.Code.length->(encL l186).take (x174.Code.length * 8)=encL l186:=fun h=>by rw[<- h];exact zal _ (by simp)
     have f189v:l186.length=x174.Code.length->(zah l72).set (((x150.fn).toNat) * 2+1) (.own (.sp 8 x174.Code.length (encL l186)))=zah l190:=fun h=>by rw[<- h];exact f189
     have f189w:∀ n:Nat,n=l190.length->(encL l190).take (n * 2)=encL l190:=fun n h=>by rw[h];exact zal _ (by simp)
     have f189x:∀ n:Nat,n=l190.length->(zah l190).take (n * 2)=zah l190:=fun n h=>by rw[h];exact zca _ (by simp)
     have F5:=an F3 (an f176a (an f176c (an f176d (an f188 (an f188n (an f188w (an f189 (an f189n (an f189t (an f189u (an f189v (an f189w f189x))))))))))))
     refine goN F5 ?_
     refine zdc ?_
     refine goN F5 ?_
     refine zaX (by rfl) (Gh.close _ (.o (σ2.gen+6) 0 5) (((x150.fn).toNat) * 2+1)) ?_
     try simp only[St.frz,St.pur]
     refine goR F5 ?_
     exact hL143 (q146,(k68+1),l69,l70,l71,l190,l73) _ _ ((Gh.close _ (.a 0) 2).trans ((Gh.close _ (.a 0) 3).trans ((Gh.close _ (.a 0) 4).trans ((Gh.close _ (.a 0) 5).trans (Gh.close _ (.a 0) 6))))) ⟨e140,hd152,pv F5,pv F5,pv F5,pv F5,pv F5,pv F5,pg⟩ (by simp)
    ·revert e140;refine bK fun x192 hx193 e140=>?_
     obtain⟨hx193a,hx193b,hx193c,hx193d⟩:=zao hx193
     refine goN F3 ?_
     have f194a:(zah l72)[((x150.fn).toNat) * 2+1]?=some (.own (.sp 8 x192.Code.length (encL x192.Code))):=zdQ hx193d (f:=1) (by first|rfl |(simp;done) |(simp;rfl))
     have f194l:((x150.fn).toNat) * 2+1 < (zah l72).length:=(List.getElem?_eq_some_iff.1 f194a).1
     have f194c:=fun c=>(zbw f194l c).1
     have f194d:=fun c=>(zbw f194l c).2
     refine zaX (by rfl) (Gh.opn _ (.o (σ2.gen+6) 0 5) (((x150.fn).toNat) * 2+1)) ?_
     revert e140;refine bK fun x202 hx203 e140=>?_
     obtain⟨hx203a,hx203b,hx203c,hx203d⟩:=zao hx203
     revert e140;refine lK fun l204 hx205 e140=>?_
     have f206:zaC (encL x192.Code) (((x150.at_).toNat) * 8+4) [.c (.int .i64 y161)]=encL l204:=hx205 ▸ zdy hx203d (f:=4) (by simp) (by simp[zaC])
     simp only[zaC]at f206
     have f206n:l204.length=x192.Code.length:=by rw[hx205];simp
     have f206w:∀ n:Nat,n=l204.length->(encL l204).take (n * 8)=encL l204:=fun n h=>by rw[h];exact zal _ (by simp)
     revert e140;refine lK fun l208 hx209 e140=>?_
     have f207:(zah l72).set (((x150.fn).toNat) * 2+1) (.own (.sp 8 l204.length (encL l204)))=zah l208:=by rw[hx209];exact zdP hx193d (f:=1) (by simp) (by first|rfl |(simp;done) |(simp;rfl))
     have f207n:l208.length=l72.length:=by rw[hx209];simp
     have f207t:(encL l204).take (l204.length * 8)=encL l204:=zal _ (by simp)
     have f207u:l204.length=x192.Code.length->(encL l204).take (x192.Code.length * 8)=encL l204:=fun h=>by rw[<- h];exact zal _ (by simp)
     have f207v:l204.length=x192.Code.length->(zah l72).set (((x150.fn).toNat) * 2+1) (.own (.sp 8 x192.Code.length (encL l204)))=zah l208:=fun h=>by rw[<- h];exact f207
     have f207w:∀ n:Nat,n=l208.length->(encL l208).take (n * 2)=encL l208:=fun n h=>by rw[h];exact zal _ (by simp)
     have f207x:∀ n:Nat,n=l208.length->(zah l208).take (n * 2)=zah l208:=fun n h=>by rw[h];exact zca _ (by simp)
     have F6:=an F3 (an f194a (an f194c (an f194d (an f206 (an f206n (an f206w (an f207 (an f207n (an f207t (an f207u (an f207v (an f207w f207x))))))))))))
     refine goN F6 ?_
     refine zdc ?_
     refine goN F6 ?_
     refine zaX (by rfl) (Gh.close _ (.o (σ2.gen+6) 0 5) (((x150.fn).toNat) * 2+1)) ?_
     try simp only[St.frz,St.pur]
     refine goR F6 ?_
     exact hL143 (q146,(k68+1),l69,l70,l71,l208,l73) _ _ ((Gh.close _ (.a 0) 2).trans ((Gh.close _ (.a 0) 3).trans ((Gh.close _ (.a 0) 4).trans ((Gh.close _ (.a 0) 5).trans (Gh.close _ (.a 0) 6))))) ⟨e140,hd152,pv F6,pv F6,pv F6,pv F6,pv F6,pv F6,pg⟩ (by simp)
end Go.Dc
end
section
namespace Go.Dc.Pa
open Go Go.Hw Go.Dc Go.Dc.Pl
def zl2(x:APr):Fault ⊕ APr:=match zfZ x.tokens.length false x with
 |.inl e=>.inl e
 |.inr (b,y)=>if b=true then .inl ⟨15,y.end_⟩ else .inr y
theorem zh8:∀(n:Nat) (b:Bool) (x:APr) {b':Bool} {y:APr},Inv b x->zfZ n b x=.inr (b',y)->Inv b' y /\ y.end_=x.end_
 |0,b,x,b',y,hx,h=>by injection h with h;injection h with e1 e2;subst e1 e2;exact⟨hx,rfl⟩
 |n+1,b,x,b',y,hx,h=>by
  rw[zfZ]at h
  split at h
  ·injection h with h;injection h with e1 e2;subst e1 e2;exact⟨hx,rfl⟩
  ·rename_i t r ht
   have hl:x.tokens.length=r.length+1:=by rw[ht];rfl
   split at h
   ·exact zh8 n b { x with tokens:=r } (hx.less (by omega)) h
   ·split at h
    ·cases h
    ·rename_i b1 x1 h1
     obtain⟨i1,i2,i3⟩:=zkf hx ht h1
     obtain⟨j1,j2⟩:=zh8 n b1 x1 i1 h
     exact⟨j1,j2.trans i3⟩
theorem zqH{x y:APr}(hx:Inv false x)(h:zl2 x=.inr y):Inv false y /\ y.end_=x.end_:=by
 rw[zl2]at h
 split at h
 ·cases h
 ·rename_i b z hz
  split at h
  ·cases h
  ·rename_i hb
   obtain rfl:b=false:=by simpa using hb
   injection h with h;subst h
   exact zh8 _ _ _ hx hz
theorem zq1{x:APr}(hx:Inv false x):zlX 67108864 x=some (zl2 x):=by
 have hl:x.tokens.length<=1048576:=Nat.le_trans (Nat.le_add_left _ _) hx.vars
 rw[zlX,show(67108864:Nat)=67108841+23 from rfl,zh2 _ x.tokens.length false x hx (Nat.le_refl _) (by omega),Option.bind_some,zl2]
 rcases zfZ x.tokens.length false x with e |⟨b,y⟩
 ·rfl
 ·cases b<;>rfl
def zeL(p:Program)(kind:ByteArray):List ByteArray:=
 if eqS kind kVar=true then p.Vars.map Var.Name else if eqS kind zb0=true then p.Mutexes else if eqS kind zdn=true then p.Mutexes else if eqS kind zdo=true then p.Conds else p.Funcs.map Func.Name
def ziP(p:Program)(kind s:ByteArray):Option Int:=first (fun k x=>zaw (eqS x s) (k:Int)) (zeL p kind) 0
structure Small (p:Program):Prop where
 vars:p.Vars.length<=1048576
 mutexes:p.Mutexes.length<=1048576
 conds:p.Conds.length<=1048576
 funs:p.Funcs.length<=1048576
 threads:p.Threads.length<=1048576
 codes:∀ f ∈ p.Funcs,f.Code.length<=1048576
theorem Inv.small{b:Bool}{x:APr}(h:Inv b x):Small x.p:=
 ⟨by have:=h.vars;simp only[capN]at this;omega,by have:=h.mutexes;simp only[capN]at this;omega,by have:=h.conds;simp only[capN]at this;omega,by have:=h.funs;simp only[capN]at this;omega,by have:=h.threads;simp only[capN]at this;omega,fun f hf=>by have:=h.codes f hf;simp only[capN]at this;omega⟩
theorem zq7{p:Program}(hp:Small p)(kind s:ByteArray):zgS p kind s=some (match ziP p kind s with|some k=>(k,true)|none=>(0,false)):=by
 have e1:=appM (L:=zcF) (b:=16) (m:=1048576) Var.Name (by decide) (fun _ _=>rfl) (fun x q a k=>by rw[zcF];rfl) p.Vars [] 0 (by have:=hp.vars;simp only[List.length_nil];omega)
 have e2:=appM (L:=zcE) (b:=16) (m:=1048576) Func.Name (by decide) (fun _ _=>rfl) (fun x q a k=>by rw[zcE];rfl) p.Funcs [] 0 (by have:=hp.funs;simp only[List.length_nil];omega)
 have e3:∀ l,l.length<=1048576->(Option.bind (α:=Unit ⊕ (Int × Bool)) (zai (lenB l.length) (Option.bind (zch s l 0) (fun o=>match o with|.inl _=>some (.inl ())|.inr r261=>some (.inr r261)))) (fun o=>match o with|.inl _=>some (0,false)|.inr r262=>some r262))=some (match first (fun k x=>zaw (eqS x s) (k:Int)) l 0 with|some k=>(k,true)|none=>(0,false)):=fun l hl=>by
  have h:=srch (L:=zch s) (fun k x=>zaw (eqS x s) ((k:Int),true)) (fun _=>rfl) l 0 fun j x hx q=>by rw[zch];exact zaO _ _ _
  rw[zct (h:=fun k x=>zaw (eqS x s) (k:Int)) (g:=fun n=>(n,true)) _ _ (fun k x=>by cases eqS x s<;>rfl)]at h
  rw[h,za3 _ (by rw[zdt,decide_eq_true_eq];omega)]
  cases first (fun k x=>zaw (eqS x s) (k:Int)) l 0<;>rfl
 rw[zgS,ziP,zeL,<- e3 _ (by
  have h1:=hp.vars;have h2:=hp.mutexes;have h3:=hp.conds;have h4:=hp.funs
  split
  ·rw[List.length_map];exact h1
  ·split
   ·exact h2
   ·split
    ·exact h2
    ·split
     ·exact h3
     ·rw[List.length_map];exact h4)]
 simp only[show(⟨#[118,97,114]⟩:ByteArray)=kVar from rfl,show(⟨#[109,117,116,101,120]⟩:ByteArray)=zb0 from rfl,show(⟨#[99,111,110,100]⟩:ByteArray)=zdo from rfl,show(⟨#[111,102,32,119,97,105,116]⟩:ByteArray)=zdn from rfl,e1,e2]
 cases eqS kind kVar
 ·cases eqS kind zb0
  ·cases eqS kind zdn
   ·cases eqS kind zdo<;>rfl
   ·rfl
  ·rfl
 ·rfl
theorem zmk{p:Program}(hp:Small p)(n:ANm):zbx n p=some (match ziP p n.kind n.token.Text with|some k=>.inr k|none=>.inl ⟨5,n.token.At⟩):=by
 rw[zbx,zq7 hp,Option.bind_some]
 cases ziP p n.kind n.token.Text<;>rfl
def putM (p:Program)(n:ANm)(k:Int):Program:=
 if eqS n.kind zbu=true then { p with Threads:=p.Threads.set n.fn.toNat { gd p.Threads n.fn.toNat with Func:=k } }
 else
  let f:=gd p.Funcs n.fn.toNat
  let i:=gd f.Code n.at_.toNat
  { p with Funcs:=p.Funcs.set n.fn.toNat { f with Code:=f.Code.set n.at_.toNat (if eqS n.kind zdn=true then { i with N:=k } else { i with Obj:=k }) } }
def zhQ:List ANm->Program->Fault ⊕ Program
 |[],p=>.inr p
 |n::l,p=>match ziP p n.kind n.token.Text with|none=>.inl ⟨5,n.token.At⟩|some k=>zhQ l (putM p n k)
theorem zfw{p:Program}{n:ANm}(k:Int)(h:zdl p n):(putM p n k).Vars=p.Vars /\ (putM p n k).Mutexes=p.Mutexes /\ (putM p n k).Conds=p.Conds /\ (putM p n k).Funcs.length=p.Funcs.length /\ (putM p n k).Threads.length=p.Threads.length /\
  ∀ j,(gd (putM p n k).Funcs j).Code.length=(gd p.Funcs j).Code.length /\ (gd (putM p n k).Funcs j).Name=(gd p.Funcs j).Name:=by
 rw[zdl]at h
 rw[putM]
 split
 ·refine⟨rfl,rfl,rfl,rfl,by rw[List.length_set],fun j=>⟨rfl,rfl⟩⟩
 ·rename_i hk
  rw[if_neg hk]at h
  refine⟨rfl,rfl,rfl,by dsimp only;rw[List.length_set],rfl,fun j=>?_⟩
  dsimp only
  rw[zpM (by omega)]
  split
  ·rename_i e;subst e;simp
  ·exact⟨rfl,rfl⟩
theorem zg9{p:Program}{n m:ANm}(k:Int)(h:zdl p n)(h2:zdl p m):zdl (putM p n k) m:=by
 obtain⟨_,_,_,e4,e5,e6⟩:=zfw k h
 rw[zdl]at h2 ⊢
 rw[e4,e5,(e6 _).1];exact h2
theorem zgc{p q:Program}(hp:Small p)(e1:q.Vars=p.Vars)(e2:q.Mutexes=p.Mutexes)(e3:q.Conds=p.Conds)(e4:q.Funcs.length=p.Funcs.length)(e5:q.Threads.length=p.Threads.length)(e6:∀ j,(gd q.Funcs j).Code.length=(gd p.Funcs j).Code.length /\ (gd q.Funcs j).Name=(gd p.Funcs j).Name):Small q:=by
 refine⟨by rw[e1];exact hp.vars,by rw[e2];exact hp.mutexes,by rw[e3];exact hp.conds,by rw[e4];exact hp.funs,by rw[e5];exact hp.threads,fun f hf=>?_⟩
 obtain⟨j,hj⟩:=List.mem_iff_getElem?.1 hf
 have hl:=zau hj
 have:f=gd q.Funcs j:=by have:=zdp hl;rw[hj]at this;exact Option.some.inj this
 rw[this,(e6 j).1]
 exact hp.codes _ (znu (by omega))
theorem zkY:∀(l:List ANm) (k:Nat) (p:Program),Small p->(∀ n ∈ l,zdl p n)->zcV l k p.Vars p.Mutexes p.Conds p.Funcs p.Threads=some (match zhQ l p with|.inl e=>.inr e|.inr q=>.inl (q.Vars,q.Mutexes,q.Conds,q.Funcs,q.Threads))
 |[],k,p,_,_=>rfl
 |n::l,k,p,hp,hn=>by
  rw[zcV,zhQ,show({ Vars:=p.Vars,Mutexes:=p.Mutexes,Conds:=p.Conds,Funcs:=p.Funcs,Threads:=p.Threads }:Program)=p from rfl,zmk hp,Option.bind_some]
  have h:=hn n (by simp)
  cases hf:ziP p n.kind n.token.Text with
  |none=>rfl
  |some v=>
   dsimp only
   obtain⟨s1,s2,s3,s4,s5,s6⟩:=zfw v h
   have ih:=zkY l (k+1) (putM p n v) (zgc hp s1 s2 s3 s4 s5 s6) fun m hm=>zg9 v h (hn m (by simp[hm]))
   rw[<- ih,putM]
   simp only[show(⟨#[116,104,114,101,97,100]⟩:ByteArray)=zbu from rfl,show(⟨#[111,102,32,119,97,105,116]⟩:ByteArray)=zdn from rfl]
   rw[zdl]at h
   cases ht:eqS n.kind zbu
   ·rw[ht,if_neg (by simp)]at h
    obtain⟨a1,a2,a3,a4⟩:=h
    have g1:getI p.Funcs n.fn=some (gd p.Funcs n.fn.toNat):=by rw[getI,if_pos a1];exact zdp (by omega)
    have g2:getI (gd p.Funcs n.fn.toNat).Code n.at_=some (gd (gd p.Funcs n.fn.toNat).Code n.at_.toNat):=by rw[getI,if_pos a3];exact zdp (by omega)
    simp only[g1,Option.bind_some,g2]
    cases eqS n.kind zdn<;>rfl
   ·rw[ht,if_pos rfl]at h
    have g1:getI p.Threads n.fn=some (gd p.Threads n.fn.toNat):=by rw[getI,if_pos h.1];exact zdp (by omega)
    rw[g1];rfl
theorem zhc:∀(l:List ANm) (p q:Program),Small p->(∀ n ∈ l,zdl p n)->zhQ l p=.inr q->q.Vars=p.Vars /\ q.Mutexes=p.Mutexes /\ q.Conds=p.Conds /\ q.Funcs.length=p.Funcs.length /\ q.Threads.length=p.Threads.length /\
  ∀ j,(gd q.Funcs j).Code.length=(gd p.Funcs j).Code.length /\ (gd q.Funcs j).Name=(gd p.Funcs j).Name
 |[],p,q,_,_,h=>by injection h with h;subst h;exact⟨rfl,rfl,rfl,rfl,rfl,fun j=>⟨rfl,rfl⟩⟩
 |n::l,p,q,hp,hn,h=>by
  rw[zhQ]at h
  split at h
  ·cases h
  ·rename_i v _
   have h0:=hn n (by simp)
   obtain⟨s1,s2,s3,s4,s5,s6⟩:=zfw v h0
   obtain⟨t1,t2,t3,t4,t5,t6⟩:=zhc l (putM p n v) q (zgc hp s1 s2 s3 s4 s5 s6) (fun m hm=>zg9 v h0 (hn m (by simp[hm]))) h
   exact⟨t1.trans s1,t2.trans s2,t3.trans s3,t4.trans s4,t5.trans s5,fun j=>⟨(t6 j).1.trans (s6 j).1,(t6 j).2.trans (s6 j).2⟩⟩
theorem zq5{b:Bool}{x:APr}(hx:Inv b x):zlY x.p.Vars x.p.Mutexes x.p.Conds x.p.Funcs x.p.Threads x.names=some (match zhQ x.names x.p with|.inl e=>.inl e|.inr q=>.inr (q.Vars,q.Mutexes,q.Conds,q.Funcs,q.Threads)):=by
 have hl:x.names.length<=1048576:=Nat.le_trans (Nat.le_add_right _ _) hx.names
 rw[zlY,za3 _ (by rw[zdt,decide_eq_true_eq];omega),zkY _ _ _ hx.small hx.nok,Option.bind_some]
 cases zhQ x.names x.p<;>rfl
end Go.Dc.Pa
end
section
namespace Go.Dc
open Go Go.Hw Go.Proofs
def zbm:List Var->(List ByteArray)->Nat->Option (List ByteArray)
 |[],l61,k62=>some (l61)
 |x84::q80,l61,k62=>Option.bind (some ([x84.Name])) (fun l87=>zai (limB 16 (l61.length+l87.length)) (Option.bind (some (l61++l87)) (fun l90=>zbm q80 l90 (k62+1))))
def zc0(a0:Program):Option (List ByteArray):=
 Option.bind (α:=(List ByteArray)) (Option.bind (zbm a0.Vars [] 0) (fun l73=>some (l73))) (fun l44=>some l44)
theorem zku{a0:Program}{r:(List ByteArray)}(hs:zc0 a0=some r):At Tryz.prog 79 [.agg (eA a0)] (.cell (sC r)):=by
 refine zab (by kernel_rfl) fun hb=>?_
 have hb1:LenOk (.sl a0.Vars.length (encL a0.Vars)):=lkc hb
 have hb2:LenOk (.sl a0.Mutexes.length (encL a0.Mutexes)):=lkc hb
 have hb3:LenOk (.sl a0.Conds.length (encL a0.Conds)):=lkc hb
 have hb4:LenOk (.sl a0.Funcs.length (encL a0.Funcs)):=lkc hb
 have hb5:LenOk (.sl a0.Threads.length (encL a0.Threads)):=lkc hb
 refine zac mixed Tryz.func79 (by kernel_rfl) rfl (by kernel_rfl) rfl fun Q hQ=>?_
 rw[zc0]at hs
 refine goR2 f0 ?_
 revert hs;refine bK fun o46 e45 hs=>?_
 refine zaj (fun(v:(List ByteArray)) (σ:St)=>some (v)=some o46 /\ σ.env 3=.cell (.sl (.l 2) 0 1 v.length) /\ σ.hp (.l 2)=some (.pure (encL v)) /\ 3<=σ.gen) (by rfl) (fun Q hK47 hX48=>?_) (fun l44 σ3 hp=>?_)
 ·refine goR f0 ?_
  revert e45;refine bK fun o75 e74 e45=>?_
  refine zaf (fun(v:(List Var) × (List ByteArray) × Nat) (σ:St)=>zbm v.1 v.2.1 v.2.2=some o75 /\ v.1=a0.Vars.drop v.2.2 /\ σ.env 3=.cell (.sl (.l 6) 0 1 v.2.1.length) /\ σ.env 7=.cell (sC a0.Vars) /\ σ.env 8=iV .i64 ((a0.Vars.length:Nat):Int) /\ σ.env 9=iV .i64 ((v.2.2:Nat):Int) /\ σ.hp (.l 6)=some (.pure (encL v.2.1)) /\ 3<=σ.gen) (fun v=>v.1.length) _ (Gh.void _ (.l 6) 3 1 rfl (by simp)) (a0.Vars,[],0) ⟨e74,by simp,pv f0,pv f0,pv f0,pv f0,pv f0,pg⟩ fun v σ6 hp L76 hL77=>?_
  obtain⟨q79,l61,k62⟩:=v
  dsimp only at hp hL77
  obtain⟨e74,hd78,h5_3,h5_7,h5_8,h5_9,g5_0,n5_g⟩:=hp
  rcases q79 with _ |⟨x84,q80⟩
  ·have hlt81:=drop_end hd78
   rw[zbm]at e74;try dsimp only at e74
   have F1:=an h5_3 (an h5_7 (an h5_8 (an h5_9 g5_0)))
   refine goR F1 ?_
   refine zaF (by simp[ltI];omega) ?_
   obtain rfl:=sj e74
   try dsimp only at e45
   exact hK47 l61 _ _ (Gh.ren _ (.l 6) (.l 2) (by simp) rfl rfl) ⟨e45,pv F1,pv F1,pg⟩
  ·obtain⟨hx83,hlt81,hd85⟩:=zay hd78
   have ew82:=wrap_succ hlt81 (hb1).len
   rw[zbm]at e74;try dsimp only at e74
   have F2:=an h5_3 (an h5_7 (an h5_8 (an h5_9 (an g5_0 (an hlt81 ew82)))))
   refine goR F2 ?_
   refine zaB (by simp[ltI];omega) ?_
   have f86:zam Tryz.prog 46 (encL a0.Vars) (k62 * 2)=some (.agg (eA x84)):=zae hx83 (f:=0) (by simp)
   revert e74;refine lK fun l87 hx88 e74=>?_
   have hx88n:l87.length=1:=by rw[hx88];rfl
   obtain⟨g89,e74⟩:=zaa e74
   have g89:=zbv g89
   obtain⟨g89a,g89b⟩:=g89
   revert e74;refine lK fun l90 hx91 e74=>?_
   have hx91n:l90.length=(l61.length+l87.length):=by rw[hx91];simp
   have hx91e:encL l90=encL l61++encL l87:=by rw[hx91];simp
   have F3:=an F2 (an f86 (an hx88 (an hx91n hx91e)))
   refine goR F3 ?_
   exact hL77 (q80,l90,(k62+1)) _ _ (Gh.ren _ (.o (σ6.gen+3) 4 0) (.l 6) (by simp) rfl rfl) ⟨e74,hd85,pv F3,pv F3,pv F3,pv F3,pv F3,pg⟩ (by simp)
 ·obtain⟨e45,h4_3,g4_0,n4_g⟩:=hp
  obtain rfl:=sj e45
  try dsimp only at hs
  have F4:=an h4_3 g4_0
  refine goR F4 ?_
  obtain rfl:=sj hs
  exact hQ _ _ (rg F4 (Gh.frz _ (.l 2)))
def zdv(a0:UInt8):Option Bool:=
 some (orB (andB (!(ltI (a0.toNat:Int) 97)) (!(ltI 122 (a0.toNat:Int)))) (andB (!(ltI (a0.toNat:Int) 65)) (!(ltI 90 (a0.toNat:Int)))))
theorem zi9{a0:UInt8}{r:Bool}(hs:zdv a0=some r):At Tryz.prog 111 [iV .u8 (a0.toNat:Int)] (bV r):=by
 refine zab (by kernel_rfl) fun hb=>?_
 refine zac mixed Tryz.func111 (by kernel_rfl) rfl (by kernel_rfl) rfl fun Q hQ=>?_
 rw[zdv]at hs
 refine goG f0 f0 ?_
 obtain rfl:=sj hs
 exact hQ _ _ (rg f0 (Gh.refl _))
def zba(a0:ByteArray):Nat->Nat->Option (Unit ⊕ Bool)
 |0,k49=>some (.inl ())
 |q63+1,k49=>Option.bind (a0[k49]?) (fun c68=>Option.bind (zdv c68) (fun y70=>cond (andB (andB (!y70) (!(eqI (c68.toNat:Int) 95))) (orB (ltI (c68.toNat:Int) 48) (ltI 57 (c68.toNat:Int)))) (some (.inr false)) (zba a0 q63 (k49+1))))
def zcD(a0:ByteArray):Option Bool:=
 zai (orB (!(!(orB (ltI ((a0.size:Nat):Int) 1) (ltI 16 ((a0.size:Nat):Int))))) (inB ((0:Nat):Int) a0.size)) (zai (orB (!(!(orB (ltI ((a0.size:Nat):Int) 1) (ltI 16 ((a0.size:Nat):Int))))) ((zdv (bget a0 0)).isSome)) (cond (orB (orB (ltI ((a0.size:Nat):Int) 1) (ltI 16 ((a0.size:Nat):Int))) (!((zdv (bget a0 0)).getD default))) (some false) (Option.bind (α:=Unit ⊕ Bool) (zai (lenB a0.size) (Option.bind (zba a0 a0.size 0) (fun o=>match o with|.inl _=>some (.inl ())|.inr r73=>some (.inr r73)))) (fun o=>match o with|.inl _=>some true|.inr r74=>some r74))))
theorem zjx{a0:ByteArray}{r:Bool}(hs:zcD a0=some r):At Tryz.prog 100 [sV a0] (bV r):=by
 refine zab (by kernel_rfl) fun hb=>?_
 refine zac mixed Tryz.func100 (by kernel_rfl) rfl (by kernel_rfl) rfl fun Q hQ=>?_
 rw[zcD]at hs
 obtain⟨g1,hs⟩:=zaa hs
 have g1a:(!(orB (ltI ((a0.size:Nat):Int) 1) (ltI 16 ((a0.size:Nat):Int))))=true->0<=((0:Nat):Int):=fun hg=>(zat g1 hg).1
 have g1c:(!(orB (ltI ((a0.size:Nat):Int) 1) (ltI 16 ((a0.size:Nat):Int))))=true->a0[0]?=some (bget a0 0):=fun hg=>by simpa using (zat g1 hg).2.2
 have F1:=an g1a g1c
 refine goG F1 F1 ?_
 obtain⟨g2,hs⟩:=zaa hs
 refine zaZ (fun hg=>zi9 (zaQ g2 hg)) (fun hg=>by(try simp at hg);(first|simp[hg,F1]);try rfl) (fun hg=>by(try simp at hg);simp[hg,F1]) (by simp) ?_
 refine goG F1 F1 ?_
 revert hs;refine cS F1 ?_ ?_<;>intro h3 hs
 ·refine goG F1 F1 ?_
  obtain rfl:=sj hs
  exact hQ _ _ (rg F1 (Gh.refl _))
 ·refine goG2 F1 F1 ?_
  revert hs;refine bK fun o38 e37 hs=>?_
  refine zaj (fun(v:Unit) (σ:St)=>some (.inl v)=some o38 /\ 3<=σ.gen) (by rfl) (fun Q hK39 hX40=>?_) (fun v σ3 hp=>?_)
  ·refine goG F1 F1 ?_
   obtain⟨hb67,e37⟩:=zaa e37
   revert e37;refine bK fun o58 e57 e37=>?_
   refine zaf (fun(v:Nat × Nat) (σ:St)=>zba a0 v.1 v.2=some o58 /\ v.1+v.2=a0.size /\ σ.env 0=sV a0 /\ σ.env 19=iV .i64 ((a0.size:Nat):Int) /\ σ.env 20=iV .i64 ((v.2:Nat):Int) /\ 3<=σ.gen) (fun v=>v.1) _ (Gh.refl _) (a0.size,0) ⟨e57,by first|omega|simp |(simp;omega),pv F1,pv F1,pv F1,pg⟩ fun v σ6 hp L59 hL60=>?_
   obtain⟨q62,k49⟩:=v
   dsimp only at hp hL60
   obtain⟨e57,hd61,h5_0,h5_19,h5_20,n5_g⟩:=hp
   rcases q62 with _|q63
   ·have hlt64:¬ k49 < a0.size:=by omega
    rw[zba]at e57;try dsimp only at e57
    have F2:=an h5_0 (an h5_19 (an h5_20 (an g1a g1c)))
    refine goR F2 ?_
    refine zaF (by simp[ltI];omega) ?_
    obtain rfl:=sj e57
    try dsimp only at e37
    exact hK39 () _ _ (Gh.refl _) ⟨e37,pg⟩
   ·have hlt64:k49 < a0.size:=by omega
    have ew65:=za1 hlt64 hb67
    rw[zba]at e57;try dsimp only at e57
    have F3:=an h5_0 (an h5_19 (an h5_20 (an g1a (an g1c (an hlt64 ew65)))))
    refine goR F3 ?_
    refine zaB (by simp[ltI];omega) ?_
    revert e57;refine bK fun c68 hx69 e57=>?_
    have hx69b:=zbf hx69
    have hx69g:=zcd hx69
    have F4:=an F3 (an hx69 hx69g)
    refine goR F4 ?_
    revert e57;refine bK fun y70 hx71 e57=>?_
    refine cP F4 (zi9 hx71) ?_
    refine goG F4 F4 ?_
    revert e57;refine cS F4 ?_ ?_<;>intro h72 e57
    ·refine goG F4 F4 ?_
     obtain rfl:=sj e57
     try dsimp only at e37
     obtain rfl:=sj e37
     try dsimp only at hs
     refine hX40 _ _ (by simp) ?_
     refine goG F4 F4 ?_
     obtain rfl:=sj hs
     exact hQ _ _ (rg F4 (Gh.refl _))
    ·refine goG F4 F4 ?_
     exact hL60 (q63,(k49+1)) _ _ (Gh.refl _) ⟨e57,(by first|omega |(simp;omega)),pv F4,pv F4,pv F4,pg⟩ (by omega)
  ·obtain⟨e37,n4_g⟩:=hp
   obtain rfl:=sj e37
   try dsimp only at hs
   refine goG F1 F1 ?_
   obtain rfl:=sj hs
   exact hQ _ _ (rg F1 (Gh.refl _))
def zge(a1:ByteArray):List ByteArray->Nat->Option (Unit ⊕ Int)
 |[],k41=>some (.inl ())
 |x58::q54,k41=>cond (eqS a1 x58) (some (.inr ((k41:Nat):Int))) (zge a1 q54 (k41+1))
def sIs (a0:List ByteArray)(a1:ByteArray):Option Int:=
 Option.bind (α:=Unit ⊕ Int) (Option.bind (zge a1 a0 0) (fun o=>match o with|.inl _=>some (.inl ())|.inr r62=>some (.inr r62))) (fun o=>match o with|.inl _=>some (-1)|.inr r63=>some r63)
theorem zw8{a0:List ByteArray}{a1:ByteArray}{r:Int}(hs:sIs a0 a1=some r):At Tryz.prog 112 [.cell (sC a0),sV a1] (iV .i64 r):=by
 refine zab (by kernel_rfl) fun hb=>?_
 have hb1:LenOk (.sl a0.length (encL a0)):=lkc hb
 refine zac mixed Tryz.func112 (by kernel_rfl) rfl (by kernel_rfl) rfl fun Q hQ=>?_
 rw[sIs]at hs
 refine goR2 f0 ?_
 revert hs;refine bK fun o31 e30 hs=>?_
 refine zaj (fun(v:Unit) (σ:St)=>some (.inl v)=some o31 /\ 2<=σ.gen) (by rfl) (fun Q hK32 hX33=>?_) (fun v σ3 hp=>?_)
 ·refine goR f0 ?_
  revert e30;refine bK fun o49 e48 e30=>?_
  refine zaf (fun(v:(List ByteArray) × Nat) (σ:St)=>zge a1 v.1 v.2=some o49 /\ v.1=a0.drop v.2 /\ σ.env 0=.cell (sC a0) /\ σ.env 1=sV a1 /\ σ.env 7=iV .i64 ((a0.length:Nat):Int) /\ σ.env 8=iV .i64 ((v.2:Nat):Int) /\ 2<=σ.gen) (fun v=>v.1.length) _ (Gh.refl _) (a0,0) ⟨e48,by simp,pv f0,pv f0,pv f0,pv f0,pg⟩ fun v σ6 hp L50 hL51=>?_
  obtain⟨q53,k41⟩:=v
  dsimp only at hp hL51
  obtain⟨e48,hd52,h5_0,h5_1,h5_7,h5_8,n5_g⟩:=hp
  rcases q53 with _ |⟨x58,q54⟩
  ·have hlt55:=drop_end hd52
   rw[zge]at e48;try dsimp only at e48
   have F1:=an h5_0 (an h5_1 (an h5_7 h5_8))
   refine goR F1 ?_
   refine zaF (by simp[ltI];omega) ?_
   obtain rfl:=sj e48
   try dsimp only at e30
   exact hK32 () _ _ (Gh.refl _) ⟨e30,pg⟩
  ·obtain⟨hx57,hlt55,hd59⟩:=zay hd52
   have ew56:=wrap_succ hlt55 (hb1).len
   rw[zge]at e48;try dsimp only at e48
   have F2:=an h5_0 (an h5_1 (an h5_7 (an h5_8 (an hlt55 ew56))))
   refine goR F2 ?_
   refine zaB (by simp[ltI];omega) ?_
   have f60:zam Tryz.prog 9 (encL a0) (k41)=some (sV x58):=zaz hx57 (by simp)
   have F3:=an F2 f60
   refine goR F3 ?_
   revert e48;refine cS F3 ?_ ?_<;>intro h61 e48
   ·refine goR F3 ?_
    obtain rfl:=sj e48
    try dsimp only at e30
    obtain rfl:=sj e30
    try dsimp only at hs
    refine hX33 _ _ (by simp) ?_
    refine goR F3 ?_
    obtain rfl:=sj hs
    exact hQ _ _ (rg F3 (Gh.refl _))
   ·refine goR F3 ?_
    exact hL51 (q54,(k41+1)) _ _ (Gh.refl _) ⟨e48,hd59,pv F3,pv F3,pv F3,pv F3,pg⟩ (by simp)
 ·obtain⟨e30,n4_g⟩:=hp
  obtain rfl:=sj e30
  try dsimp only at hs
  refine goR f0 ?_
  obtain rfl:=sj hs
  exact hQ _ _ (rg f0 (Gh.refl _))
def sCs (a0:List ByteArray)(a1:ByteArray):Option Bool:=
 Option.bind (sIs a0 a1) (fun y1=>some (!(ltI y1 0)))
theorem zxa{a0:List ByteArray}{a1:ByteArray}{r:Bool}(hs:sCs a0 a1=some r):At Tryz.prog 101 [.cell (sC a0),sV a1] (bV r):=by
 refine zab (by kernel_rfl) fun hb=>?_
 have hb1:LenOk (.sl a0.length (encL a0)):=lkc hb
 refine zac mixed Tryz.func101 (by kernel_rfl) rfl (by kernel_rfl) rfl fun Q hQ=>?_
 rw[sCs]at hs
 refine goR f0 ?_
 revert hs;refine bK fun y1 hx2 hs=>?_
 refine cP f0 (zw8 hx2) ?_
 refine goR f0 ?_
 obtain rfl:=sj hs
 exact hQ _ _ (rg f0 (Gh.refl _))
def zco(a0:List ByteArray):List ByteArray->Nat->Option (Unit ⊕ (Int × Int))
 |[],k77=>some (.inl ())
 |x103::q99,k77=>Option.bind (zcD x103) (fun y106=>cond (!y106) (some (.inr (6,((k77:Nat):Int)))) (zai (slB 0 ((k77:Nat):Int) a0.length) (Option.bind (some (subL a0 0 ((k77:Nat):Int))) (fun l110=>Option.bind (sCs l110 x103) (fun y113=>cond y113 (some (.inr (7,((k77:Nat):Int)))) (zco a0 q99 (k77+1)))))))
def zfi(a0:List ByteArray):Option (Int × Int):=
 Option.bind (α:=Unit ⊕ (Int × Int)) (Option.bind (zco a0 a0 0) (fun o=>match o with|.inl _=>some (.inl ())|.inr r116=>some (.inr r116))) (fun o=>match o with|.inl _=>some (0,(-1))|.inr r117=>some r117)
theorem zjV{a0:List ByteArray}{r:Int × Int}(hs:zfi a0=some r):At Tryz.prog 80 [.cell (sC a0)] (.tup [iV .i64 r.1,iV .i64 r.2]):=by
 refine zab (by kernel_rfl) fun hb=>?_
 have hb1:LenOk (.sl a0.length (encL a0)):=lkc hb
 refine zac mixed Tryz.func80 (by kernel_rfl) rfl (by kernel_rfl) rfl fun Q hQ=>?_
 rw[zfi]at hs
 refine goR2 f0 ?_
 revert hs;refine bK fun o58 e57 hs=>?_
 refine zaj (fun(v:Unit) (σ:St)=>some (.inl v)=some o58 /\ 2<=σ.gen) (by rfl) (fun Q hK59 hX60=>?_) (fun v σ3 hp=>?_)
 ·refine goR f0 ?_
  revert e57;refine bK fun o94 e93 e57=>?_
  refine zaf (fun(v:(List ByteArray) × Nat) (σ:St)=>zco a0 v.1 v.2=some o94 /\ v.1=a0.drop v.2 /\ σ.env 0=.cell (sC a0) /\ σ.env 6=.cell (sC a0) /\ σ.env 7=iV .i64 ((a0.length:Nat):Int) /\ σ.env 8=iV .i64 ((v.2:Nat):Int) /\ 2<=σ.gen) (fun v=>v.1.length) _ (Gh.refl _) (a0,0) ⟨e93,by simp,pv f0,pv f0,pv f0,pv f0,pg⟩ fun v σ6 hp L95 hL96=>?_
  obtain⟨q98,k77⟩:=v
  dsimp only at hp hL96
  obtain⟨e93,hd97,h5_0,h5_6,h5_7,h5_8,n5_g⟩:=hp
  rcases q98 with _ |⟨x103,q99⟩
  ·have hlt100:=drop_end hd97
   rw[zco]at e93;try dsimp only at e93
   have F1:=an h5_0 (an h5_6 (an h5_7 h5_8))
   refine goR F1 ?_
   refine zaF (by simp[ltI];omega) ?_
   obtain rfl:=sj e93
   try dsimp only at e57
   exact hK59 () _ _ (Gh.refl _) ⟨e57,pg⟩
  ·obtain⟨hx102,hlt100,hd104⟩:=zay hd97
   have ew101:=wrap_succ hlt100 (hb1).len
   rw[zco]at e93;try dsimp only at e93
   have F2:=an h5_0 (an h5_6 (an h5_7 (an h5_8 (an hlt100 ew101))))
   refine goR F2 ?_
   refine zaB (by simp[ltI];omega) ?_
   have f105:zam Tryz.prog 9 (encL a0) (k77)=some (sV x103):=zaz hx102 (by simp)
   have F3:=an F2 f105
   refine goR F3 ?_
   revert e93;refine bK fun y106 hx107 e93=>?_
   refine cP F3 (zjx hx107) ?_
   refine goR F3 ?_
   revert e93;refine cS F3 ?_ ?_<;>intro h108 e93
   ·refine goR F3 ?_
    obtain rfl:=sj e93
    try dsimp only at e57
    obtain rfl:=sj e57
    try dsimp only at hs
    refine hX60 _ _ (by simp) ?_
    refine goR F3 ?_
    obtain rfl:=sj hs
    exact hQ _ _ (rg F3 (Gh.refl _))
   ·obtain⟨g109,e93⟩:=zaa e93
    obtain⟨g109a,g109b,g109c⟩:=ze0 g109
    revert e93;refine lK fun l110 hx111 e93=>?_
    have f112n:l110.length=(((k77:Nat):Int) - 0).toNat:=by rw[hx111];exact zeC ⟨g109a,g109b,g109c⟩
    have f112e:((encL a0).drop ((0:Int).toNat * 1)).take ((((k77:Nat):Int) - 0).toNat * 1)=encL l110:=by rw[hx111];exact zd2 (α:=ByteArray)
    try simp at f112n
    try simp at f112e
    have f112o:LenOk (.sl l110.length (encL l110)):=by rw[hx111];exact zsK hb1
    have F4:=an F3 (an g109a (an g109b (an g109c (an f112n f112e))))
    refine goR F4 ?_
    revert e93;refine bK fun y113 hx114 e93=>?_
    refine cP F4 (zxa hx114) ?_
    refine goR F4 ?_
    revert e93;refine cS F4 ?_ ?_<;>intro h115 e93
    ·refine goR F4 ?_
     obtain rfl:=sj e93
     try dsimp only at e57
     obtain rfl:=sj e57
     try dsimp only at hs
     refine hX60 _ _ (by simp) ?_
     refine goR F4 ?_
     obtain rfl:=sj hs
     exact hQ _ _ (rg F4 (Gh.refl _))
    ·refine goR F4 ?_
     exact hL96 (q99,(k77+1)) _ _ (Gh.refl _) ⟨e93,hd104,pv F4,pv F4,pv F4,pv F4,pg⟩ (by simp)
 ·obtain⟨e57,n4_g⟩:=hp
  obtain rfl:=sj e57
  try dsimp only at hs
  refine goR f0 ?_
  obtain rfl:=sj hs
  exact hQ _ _ (rg f0 (Gh.refl _))
def za9:List Func->(List ByteArray)->Nat->Option (List ByteArray)
 |[],l61,k62=>some (l61)
 |x84::q80,l61,k62=>Option.bind (some ([x84.Name])) (fun l87=>zai (limB 16 (l61.length+l87.length)) (Option.bind (some (l61++l87)) (fun l90=>za9 q80 l90 (k62+1))))
def zcC(a0:Program):Option (List ByteArray):=
 Option.bind (α:=(List ByteArray)) (Option.bind (za9 a0.Funcs [] 0) (fun l73=>some (l73))) (fun l44=>some l44)
theorem zjw{a0:Program}{r:(List ByteArray)}(hs:zcC a0=some r):At Tryz.prog 81 [.agg (eA a0)] (.cell (sC r)):=by
 refine zab (by kernel_rfl) fun hb=>?_
 have hb1:LenOk (.sl a0.Vars.length (encL a0.Vars)):=lkc hb
 have hb2:LenOk (.sl a0.Mutexes.length (encL a0.Mutexes)):=lkc hb
 have hb3:LenOk (.sl a0.Conds.length (encL a0.Conds)):=lkc hb
 have hb4:LenOk (.sl a0.Funcs.length (encL a0.Funcs)):=lkc hb
 have hb5:LenOk (.sl a0.Threads.length (encL a0.Threads)):=lkc hb
 refine zac mixed Tryz.func81 (by kernel_rfl) rfl (by kernel_rfl) rfl fun Q hQ=>?_
 rw[zcC]at hs
 refine goR2 f0 ?_
 revert hs;refine bK fun o46 e45 hs=>?_
 refine zaj (fun(v:(List ByteArray)) (σ:St)=>some (v)=some o46 /\ σ.env 3=.cell (.sl (.l 2) 0 1 v.length) /\ σ.hp (.l 2)=some (.pure (encL v)) /\ 3<=σ.gen) (by rfl) (fun Q hK47 hX48=>?_) (fun l44 σ3 hp=>?_)
 ·refine goR f0 ?_
  revert e45;refine bK fun o75 e74 e45=>?_
  refine zaf (fun(v:(List Func) × (List ByteArray) × Nat) (σ:St)=>za9 v.1 v.2.1 v.2.2=some o75 /\ v.1=a0.Funcs.drop v.2.2 /\ σ.env 3=.cell (.sl (.l 6) 0 1 v.2.1.length) /\ σ.env 7=.cell (sC a0.Funcs) /\ σ.env 8=iV .i64 ((a0.Funcs.length:Nat):Int) /\ σ.env 9=iV .i64 ((v.2.2:Nat):Int) /\ σ.hp (.l 6)=some (.pure (encL v.2.1)) /\ 3<=σ.gen) (fun v=>v.1.length) _ (Gh.void _ (.l 6) 3 1 rfl (by simp)) (a0.Funcs,[],0) ⟨e74,by simp,pv f0,pv f0,pv f0,pv f0,pv f0,pg⟩ fun v σ6 hp L76 hL77=>?_
  obtain⟨q79,l61,k62⟩:=v
  dsimp only at hp hL77
  obtain⟨e74,hd78,h5_3,h5_7,h5_8,h5_9,g5_0,n5_g⟩:=hp
  rcases q79 with _ |⟨x84,q80⟩
  ·have hlt81:=drop_end hd78
   rw[za9]at e74;try dsimp only at e74
   have F1:=an h5_3 (an h5_7 (an h5_8 (an h5_9 g5_0)))
   refine goR F1 ?_
   refine zaF (by simp[ltI];omega) ?_
   obtain rfl:=sj e74
   try dsimp only at e45
   exact hK47 l61 _ _ (Gh.ren _ (.l 6) (.l 2) (by simp) rfl rfl) ⟨e45,pv F1,pv F1,pg⟩
  ·obtain⟨hx83,hlt81,hd85⟩:=zay hd78
   have ew82:=wrap_succ hlt81 (hb4).len
   rw[za9]at e74;try dsimp only at e74
   have F2:=an h5_3 (an h5_7 (an h5_8 (an h5_9 (an g5_0 (an hlt81 ew82)))))
   refine goR F2 ?_
   refine zaB (by simp[ltI];omega) ?_
   have f86:zam Tryz.prog 49 (encL a0.Funcs) (k62 * 2)=some (.agg (eA x84)):=zae hx83 (f:=0) (by simp)
   revert e74;refine lK fun l87 hx88 e74=>?_
   have hx88n:l87.length=1:=by rw[hx88];rfl
   obtain⟨g89,e74⟩:=zaa e74
   have g89:=zbv g89
   obtain⟨g89a,g89b⟩:=g89
   revert e74;refine lK fun l90 hx91 e74=>?_
   have hx91n:l90.length=(l61.length+l87.length):=by rw[hx91];simp
   have hx91e:encL l90=encL l61++encL l87:=by rw[hx91];simp
   have F3:=an F2 (an f86 (an hx88 (an hx91n hx91e)))
   refine goR F3 ?_
   exact hL77 (q80,l90,(k62+1)) _ _ (Gh.ren _ (.o (σ6.gen+3) 4 0) (.l 6) (by simp) rfl rfl) ⟨e74,hd85,pv F3,pv F3,pv F3,pv F3,pv F3,pg⟩ (by simp)
 ·obtain⟨e45,h4_3,g4_0,n4_g⟩:=hp
  obtain rfl:=sj e45
  try dsimp only at hs
  have F4:=an h4_3 g4_0
  refine goR F4 ?_
  obtain rfl:=sj hs
  exact hQ _ _ (rg F4 (Gh.frz _ (.l 2)))
def zb9:List (List ByteArray)->Nat->Option (Unit ⊕ (Int × PPl))
 |[],k58=>some (.inl ())
 |x77::q73,k58=>Option.bind (zfi x77) (fun y81=>cond (!(eqI y81.1 0)) (some (.inr (y81.1,({ fn:=(-1),inst:=(-1) }:PPl)))) (zb9 q73 (k58+1)))
def zeH(a0:Program):Option (Int × PPl):=
 Option.bind (zc0 a0) (fun y5=>Option.bind (some ([y5,a0.Mutexes,a0.Conds])) (fun l7=>Option.bind (α:=Unit ⊕ (Int × PPl)) (zai (lenB l7.length) (Option.bind (zb9 l7 0) (fun o=>match o with|.inl _=>some (.inl ())|.inr r84=>some (.inr r84)))) (fun o=>match o with|.inl _=>Option.bind (zcC a0) (fun y85=>Option.bind (zfi y85) (fun y87=>some (y87.1,({ fn:=y87.2,inst:=(-1) }:PPl))))|.inr r89=>some r89)))
theorem zmR{a0:Program}{r:Int × PPl}(hs:zeH a0=some r):At Tryz.prog 50 [.agg (eA a0)] (.tup [iV .i64 r.1,.agg (eA r.2)]):=by
 refine zab (by kernel_rfl) fun hb=>?_
 have hb1:LenOk (.sl a0.Vars.length (encL a0.Vars)):=lkc hb
 have hb2:LenOk (.sl a0.Mutexes.length (encL a0.Mutexes)):=lkc hb
 have hb3:LenOk (.sl a0.Conds.length (encL a0.Conds)):=lkc hb
 have hb4:LenOk (.sl a0.Funcs.length (encL a0.Funcs)):=lkc hb
 have hb5:LenOk (.sl a0.Threads.length (encL a0.Threads)):=lkc hb
 refine zac mixed Tryz.func50 (by kernel_rfl) rfl (by kernel_rfl) rfl fun Q hQ=>?_
 rw[zeH]at hs
 refine goD f0 ?_
 revert hs;refine bK fun y5 hx6 hs=>?_
 refine cP f0 (zku hx6) ?_
 revert hs;refine lK fun l7 hx8 hs=>?_
 have hx8n:l7.length=3:=by rw[hx8];rfl
 refine goD2 hx8 ?_
 revert hs;refine bK fun o46 e45 hs=>?_
 refine zaj (fun(v:Unit) (σ:St)=>some (.inl v)=some o46 /\ σ.env 1=.cell (.ref (.o 1 0 0) 0) /\ σ.env 3=.cell (.ref (.o 1 2 0) 0) /\ σ.hp (.o 1 0 0)=some (.cells (eA a0)) /\ σ.hp (.o 1 2 0)=some (.cells [nC 0,nC 0]) /\ 2<=σ.gen) (by rfl) (fun Q hK47 hX48=>?_) (fun v σ3 hp=>?_)
 ·refine goD hx8 ?_
  obtain⟨hb78,e45⟩:=zaa e45
  revert e45;refine bK fun o68 e67 e45=>?_
  refine zaf (fun(v:(List (List ByteArray)) × Nat) (σ:St)=>zb9 v.1 v.2=some o68 /\ v.1=l7.drop v.2 /\ σ.env 1=.cell (.ref (.o 1 0 0) 0) /\ σ.env 3=.cell (.ref (.o 1 2 0) 0) /\ σ.env 16=.cell (.sl (.o 2 6 0) 0 1 l7.length) /\ σ.env 17=iV .i64 ((l7.length:Nat):Int) /\ σ.env 18=iV .i64 ((v.2:Nat):Int) /\ σ.hp (.o 2 6 0)=some (.pure (encL l7)) /\ σ.hp (.o 1 0 0)=some (.cells (eA a0)) /\ σ.hp (.o 1 2 0)=some (.cells [nC 0,nC 0]) /\ 2<=σ.gen) (fun v=>v.1.length) _ (Gh.refl _) (l7,0) ⟨e67,by simp,pv hx8,pv hx8,pv hx8,pv hx8,pv hx8,pv hx8,pv hx8,pv hx8,pg⟩ fun v σ6 hp L69 hL70=>?_
  obtain⟨q72,k58⟩:=v
  dsimp only at hp hL70
  obtain⟨e67,hd71,h5_1,h5_3,h5_16,h5_17,h5_18,g5_0,g5_1,g5_2,n5_g⟩:=hp
  have n5_0:¬ (σ6.gen=0):=by omega
  have n5_1:¬ (σ6.gen=1):=by omega
  rcases q72 with _ |⟨x77,q73⟩
  ·have hlt74:=drop_end hd71
   rw[zb9]at e67;try dsimp only at e67
   have F1:=an h5_1 (an h5_3 (an h5_16 (an h5_17 (an h5_18 (an g5_0 (an g5_1 (an g5_2 (an n5_0 n5_1))))))))
   refine goR F1 ?_
   refine zaF (by simp[ltI];omega) ?_
   obtain rfl:=sj e67
   try dsimp only at e45
   exact hK47 () _ _ (Gh.refl _) ⟨e45,pv F1,pv F1,pv F1,pv F1,pg⟩
  ·obtain⟨hx76,hlt74,hd79⟩:=zay hd71
   have ew75:=za1 hlt74 hb78
   rw[zb9]at e67;try dsimp only at e67
   have F2:=an h5_1 (an h5_3 (an h5_16 (an h5_17 (an h5_18 (an g5_0 (an g5_1 (an g5_2 (an n5_0 (an n5_1 (an hlt74 ew75))))))))))
   refine goR F2 ?_
   refine zaB (by simp[ltI];omega) ?_
   have f80:zam Tryz.prog 24 (encL l7) (k58)=some (.cell (sC x77)):=zaz hx76 (by simp)
   have F3:=an F2 f80
   refine goR F3 ?_
   revert e67;refine bK fun y81 hx82 e67=>?_
   refine cP F3 (zjV hx82) ?_
   refine goR F3 ?_
   revert e67;refine cS F3 ?_ ?_<;>intro h83 e67
   ·refine goR F3 ?_
    obtain rfl:=sj e67
    try dsimp only at e45
    obtain rfl:=sj e45
    try dsimp only at hs
    refine hX48 _ _ (by simp) ?_
    refine goR F3 ?_
    obtain rfl:=sj hs
    exact hQ _ _ (rg F3 (Gh.refl _))
   ·refine goR F3 ?_
    exact hL70 (q73,(k58+1)) _ _ (Gh.refl _) ⟨e67,hd79,pv F3,pv F3,pv F3,pv F3,pv F3,pv F3,pv F3,pv F3,pg⟩ (by simp)
 ·obtain⟨e45,h4_1,h4_3,g4_0,g4_1,n4_g⟩:=hp
  obtain rfl:=sj e45
  try dsimp only at hs
  have n4_0:¬ (σ3.gen=0):=by omega
  have F4:=an h4_1 (an h4_3 (an g4_0 (an g4_1 n4_0)))
  refine goD F4 ?_
  revert hs;refine bK fun y85 hx86 hs=>?_
  refine cP F4 (zjw hx86) ?_
  refine goD F4 ?_
  revert hs;refine bK fun y87 hx88 hs=>?_
  refine cP F4 (zjV hx88) ?_
  refine goD F4 ?_
  obtain rfl:=sj hs
  exact hQ _ _ (rg F4 (Gh.refl _))
def zfh(a0:Int):Option Bool:=
 some (andB (!(ltI a0 (-2147483648))) (!(ltI 2147483647 a0)))
theorem zjU{a0:Int}{r:Bool}(hs:zfh a0=some r):At Tryz.prog 82 [iV .i64 a0] (bV r):=by
 refine zab (by kernel_rfl) fun hb=>?_
 refine zac mixed Tryz.func82 (by kernel_rfl) rfl (by kernel_rfl) rfl fun Q hQ=>?_
 rw[zfh]at hs
 refine goG f0 f0 ?_
 obtain rfl:=sj hs
 exact hQ _ _ (rg f0 (Gh.refl _))
def zbo:List Var->Nat->Option (Unit ⊕ (Int × PPl))
 |[],k50=>some (.inl ())
 |x69::q65,k50=>Option.bind (zfh x69.Init) (fun y72=>cond (!y72) (some (.inr (2,({ fn:=(-1),inst:=(-1) }:PPl)))) (zbo q65 (k50+1)))
def zc2(a0:Program):Option (Int × PPl):=
 cond (orB (orB (orB (ltI 8 ((a0.Vars.length:Nat):Int)) (ltI 4 ((a0.Mutexes.length:Nat):Int))) (ltI 4 ((a0.Conds.length:Nat):Int))) (ltI 8 ((a0.Funcs.length:Nat):Int))) (some (4,({ fn:=(-1),inst:=(-1) }:PPl))) (Option.bind (α:=Unit ⊕ (Int × PPl)) (Option.bind (zbo a0.Vars 0) (fun o=>match o with|.inl _=>some (.inl ())|.inr r75=>some (.inr r75))) (fun o=>match o with|.inl _=>some (0,({ fn:=(-1),inst:=(-1) }:PPl))|.inr r76=>some r76))
theorem zkw{a0:Program}{r:Int × PPl}(hs:zc2 a0=some r):At Tryz.prog 51 [.agg (eA a0)] (.tup [iV .i64 r.1,.agg (eA r.2)]):=by
 refine zab (by kernel_rfl) fun hb=>?_
 have hb1:LenOk (.sl a0.Vars.length (encL a0.Vars)):=lkc hb
 have hb2:LenOk (.sl a0.Mutexes.length (encL a0.Mutexes)):=lkc hb
 have hb3:LenOk (.sl a0.Conds.length (encL a0.Conds)):=lkc hb
 have hb4:LenOk (.sl a0.Funcs.length (encL a0.Funcs)):=lkc hb
 have hb5:LenOk (.sl a0.Threads.length (encL a0.Threads)):=lkc hb
 refine zac mixed Tryz.func51 (by kernel_rfl) rfl (by kernel_rfl) rfl fun Q hQ=>?_
 rw[zc2]at hs
 refine goG f0 f0 ?_
 revert hs;refine cS f0 ?_ ?_<;>intro h1 hs
 ·refine goE f0 f0 ?_
  obtain rfl:=sj hs
  exact hQ _ _ (rg f0 (Gh.refl _))
 ·refine goG2 f0 f0 ?_
  revert hs;refine bK fun o38 e37 hs=>?_
  refine zaj (fun(v:Unit) (σ:St)=>some (.inl v)=some o38 /\ σ.env 3=.cell (.ref (.o 1 2 0) 0) /\ σ.env 4=.cell (.ref (.o 2 1 0) 0) /\ σ.hp (.o 1 2 0)=some (.cells [nC 0,nC 0]) /\ σ.hp (.o 2 1 0)=some (.cells [nC (-1),nC (-1)]) /\ 4<=σ.gen) (by rfl) (fun Q hK39 hX40=>?_) (fun v σ3 hp=>?_)
  ·refine goG f0 f0 ?_
   revert e37;refine bK fun o60 e59 e37=>?_
   refine zaf (fun(v:(List Var) × Nat) (σ:St)=>zbo v.1 v.2=some o60 /\ v.1=a0.Vars.drop v.2 /\ σ.env 3=.cell (.ref (.o 1 2 0) 0) /\ σ.env 4=.cell (.ref (.o 2 1 0) 0) /\ σ.env 32=.cell (sC a0.Vars) /\ σ.env 33=iV .i64 ((a0.Vars.length:Nat):Int) /\ σ.env 34=iV .i64 ((v.2:Nat):Int) /\ σ.hp (.o 1 2 0)=some (.cells [nC 0,nC 0]) /\ σ.hp (.o 2 1 0)=some (.cells [nC (-1),nC (-1)]) /\ 4<=σ.gen) (fun v=>v.1.length) _ (Gh.refl _) (a0.Vars,0) ⟨e59,by simp,pv f0,pv f0,pv f0,pv f0,pv f0,pv f0,pv f0,pg⟩ fun v σ6 hp L61 hL62=>?_
   obtain⟨q64,k50⟩:=v
   dsimp only at hp hL62
   obtain⟨e59,hd63,h5_3,h5_4,h5_32,h5_33,h5_34,g5_0,g5_1,n5_g⟩:=hp
   have n5_0:¬ (σ6.gen=0):=by omega
   have n5_1:¬ (σ6.gen=1):=by omega
   rcases q64 with _ |⟨x69,q65⟩
   ·have hlt66:=drop_end hd63
    rw[zbo]at e59;try dsimp only at e59
    have F1:=an h5_3 (an h5_4 (an h5_32 (an h5_33 (an h5_34 (an g5_0 (an g5_1 (an n5_0 n5_1)))))))
    refine goR F1 ?_
    refine zaF (by simp[ltI];omega) ?_
    obtain rfl:=sj e59
    try dsimp only at e37
    exact hK39 () _ _ (Gh.refl _) ⟨e37,pv F1,pv F1,pv F1,pv F1,pg⟩
   ·obtain⟨hx68,hlt66,hd70⟩:=zay hd63
    have ew67:=wrap_succ hlt66 (hb1).len
    rw[zbo]at e59;try dsimp only at e59
    have F2:=an h5_3 (an h5_4 (an h5_32 (an h5_33 (an h5_34 (an g5_0 (an g5_1 (an n5_0 (an n5_1 (an hlt66 ew67)))))))))
    refine goR F2 ?_
    refine zaB (by simp[ltI];omega) ?_
    have f71:zam Tryz.prog 46 (encL a0.Vars) (k50 * 2)=some (.agg (eA x69)):=zae hx68 (f:=0) (by simp)
    have F3:=an F2 f71
    refine goR F3 ?_
    revert e59;refine bK fun y72 hx73 e59=>?_
    refine cP F3 (zjU hx73) ?_
    refine goR F3 ?_
    revert e59;refine cS F3 ?_ ?_<;>intro h74 e59
    ·refine goD F3 ?_
     obtain rfl:=sj e59
     try dsimp only at e37
     obtain rfl:=sj e37
     try dsimp only at hs
     refine hX40 _ _ (by simp) ?_
     refine goD F3 ?_
     obtain rfl:=sj hs
     exact hQ _ _ (rg F3 (Gh.refl _))
    ·refine goR F3 ?_
     exact hL62 (q65,(k50+1)) _ _ (Gh.refl _) ⟨e59,hd70,pv F3,pv F3,pv F3,pv F3,pv F3,pv F3,pv F3,pg⟩ (by simp)
  ·obtain⟨e37,h4_3,h4_4,g4_0,g4_1,n4_g⟩:=hp
   obtain rfl:=sj e37
   try dsimp only at hs
   have n4_0:¬ (σ3.gen=0):=by omega
   have n4_1:¬ (σ3.gen=1):=by omega
   have F4:=an h4_3 (an h4_4 (an g4_0 (an g4_1 (an n4_0 n4_1))))
   refine goE F4 F4 ?_
   obtain rfl:=sj hs
   exact hQ _ _ (rg F4 (Gh.refl _))
def ziz(a0:Func):Option Bool:=
 some (ltI 64 ((a0.Code.length:Nat):Int))
theorem zlR{a0:Func}{r:Bool}(hs:ziz a0=some r):At Tryz.prog 84 [.agg (eA a0)] (bV r):=by
 refine zab (by kernel_rfl) fun hb=>?_
 have hb1:LenOk (.sl a0.Code.length (encL a0.Code)):=lkc hb
 refine zac mixed Tryz.func84 (by kernel_rfl) rfl (by kernel_rfl) rfl fun Q hQ=>?_
 rw[ziz]at hs
 refine goR f0 ?_
 obtain rfl:=sj hs
 exact hQ _ _ (rg f0 (Gh.refl _))
def zeE:List Func->Nat->Option (Unit ⊕ Int)
 |[],k49=>some (.inl ())
 |x68::q64,k49=>Option.bind (ziz x68) (fun y71=>cond y71 (some (.inr ((k49:Nat):Int))) (zeE q64 (k49+1)))
def sIFp (a0:List Func):Option Int:=
 Option.bind (α:=Unit ⊕ Int) (Option.bind (zeE a0 0) (fun o=>match o with|.inl _=>some (.inl ())|.inr r74=>some (.inr r74))) (fun o=>match o with|.inl _=>some (-1)|.inr r75=>some r75)
theorem ztY{a0:List Func}{r:Int}(hs:sIFp a0=some r):At Tryz.prog 83 [.cell (sC a0),.cell (.p (.c (.func (.func 84) #[] #[])))] (iV .i64 r):=by
 refine zab (by kernel_rfl) fun hb=>?_
 have hb1:LenOk (.sl a0.length (encL a0)):=lkc hb
 refine zac mixed Tryz.func83 (by kernel_rfl) rfl (by kernel_rfl) rfl fun Q hQ=>?_
 rw[sIFp]at hs
 refine goR2 f0 ?_
 revert hs;refine bK fun o37 e36 hs=>?_
 refine zaj (fun(v:Unit) (σ:St)=>some (.inl v)=some o37 /\ 2<=σ.gen) (by rfl) (fun Q hK38 hX39=>?_) (fun v σ3 hp=>?_)
 ·refine goR f0 ?_
  revert e36;refine bK fun o59 e58 e36=>?_
  refine zaf (fun(v:(List Func) × Nat) (σ:St)=>zeE v.1 v.2=some o59 /\ v.1=a0.drop v.2 /\ σ.env 0=.cell (sC a0) /\ σ.env 1=.cell (.p (.c (.func (.func 84) #[] #[]))) /\ σ.env 7=iV .i64 ((a0.length:Nat):Int) /\ σ.env 8=iV .i64 ((v.2:Nat):Int) /\ 2<=σ.gen) (fun v=>v.1.length) _ (Gh.refl _) (a0,0) ⟨e58,by simp,pv f0,pv f0,pv f0,pv f0,pg⟩ fun v σ6 hp L60 hL61=>?_
  obtain⟨q63,k49⟩:=v
  dsimp only at hp hL61
  obtain⟨e58,hd62,h5_0,h5_1,h5_7,h5_8,n5_g⟩:=hp
  rcases q63 with _ |⟨x68,q64⟩
  ·have hlt65:=drop_end hd62
   rw[zeE]at e58;try dsimp only at e58
   have F1:=an h5_0 (an h5_1 (an h5_7 h5_8))
   refine goR F1 ?_
   refine zaF (by simp[ltI];omega) ?_
   obtain rfl:=sj e58
   try dsimp only at e36
   exact hK38 () _ _ (Gh.refl _) ⟨e36,pg⟩
  ·obtain⟨hx67,hlt65,hd69⟩:=zay hd62
   have ew66:=wrap_succ hlt65 (hb1).len
   rw[zeE]at e58;try dsimp only at e58
   have F2:=an h5_0 (an h5_1 (an h5_7 (an h5_8 (an hlt65 ew66))))
   refine goR F2 ?_
   refine zaB (by simp[ltI];omega) ?_
   have f70:zam Tryz.prog 49 (encL a0) (k49 * 2)=some (.agg (eA x68)):=zae hx67 (f:=0) (by simp)
   have F3:=an F2 f70
   refine goR F3 ?_
   revert e58;refine bK fun y71 hx72 e58=>?_
   refine cP F3 (zlR hx72) ?_
   refine goR F3 ?_
   revert e58;refine cS F3 ?_ ?_<;>intro h73 e58
   ·refine goR F3 ?_
    obtain rfl:=sj e58
    try dsimp only at e36
    obtain rfl:=sj e36
    try dsimp only at hs
    refine hX39 _ _ (by simp) ?_
    refine goR F3 ?_
    obtain rfl:=sj hs
    exact hQ _ _ (rg F3 (Gh.refl _))
   ·refine goR F3 ?_
    exact hL61 (q64,(k49+1)) _ _ (Gh.refl _) ⟨e58,hd69,pv F3,pv F3,pv F3,pv F3,pg⟩ (by simp)
 ·obtain⟨e36,n4_g⟩:=hp
  obtain rfl:=sj e36
  try dsimp only at hs
  refine goR f0 ?_
  obtain rfl:=sj hs
  exact hQ _ _ (rg f0 (Gh.refl _))
def zcs(a0:Program):Option Program:=
 some a0
theorem zhl{a0:Program}{r:Program}(hs:zcs a0=some r):At Tryz.prog 85 [.agg (eA a0)] (.cell (.fn 102 [.inr (.bx [.sl r.Vars.length (encL r.Vars),.sl r.Mutexes.length (encL r.Mutexes),.sl r.Conds.length (encL r.Conds),.sl r.Funcs.length (encL r.Funcs),.sl r.Threads.length (encL r.Threads)])])):=by
 refine zab (by kernel_rfl) fun hb=>?_
 have hb1:LenOk (.sl a0.Vars.length (encL a0.Vars)):=lkc hb
 have hb2:LenOk (.sl a0.Mutexes.length (encL a0.Mutexes)):=lkc hb
 have hb3:LenOk (.sl a0.Conds.length (encL a0.Conds)):=lkc hb
 have hb4:LenOk (.sl a0.Funcs.length (encL a0.Funcs)):=lkc hb
 have hb5:LenOk (.sl a0.Threads.length (encL a0.Threads)):=lkc hb
 refine zac mixed Tryz.func85 (by kernel_rfl) rfl (by kernel_rfl) rfl fun Q hQ=>?_
 rw[zcs]at hs
 refine goR f0 ?_
 obtain rfl:=sj hs
 exact hQ _ _ (rg f0 (Gh.frz _ (.o 1 0 0)))
def zdF(a0:Int):Option Bool:=
 some (andB (!(ltI a0 1)) (!(ltI 22 a0)))
theorem zkA{a0:Int}{r:Bool}(hs:zdF a0=some r):At Tryz.prog 113 [iV .i64 a0] (bV r):=by
 refine zab (by kernel_rfl) fun hb=>?_
 refine zac mixed Tryz.func113 (by kernel_rfl) rfl (by kernel_rfl) rfl fun Q hQ=>?_
 rw[zdF]at hs
 refine goG f0 f0 ?_
 obtain rfl:=sj hs
 exact hQ _ _ (rg f0 (Gh.refl _))
def zdT(a0:Inst):Option (Arr 7 Int):=
 some (Arr.of 7 [a0.A,a0.B,a0.C,a0.Obj,a0.N,a0.Fn,a0.Order])
theorem zjy{a0:Inst}{r:(Arr 7 Int)}(hs:zdT a0=some r):At Tryz.prog 114 [.agg (eA a0)] (.agg [nC (r.f 0),nC (r.f 1),nC (r.f 2),nC (r.f 3),nC (r.f 4),nC (r.f 5),nC (r.f 6)]):=by
 refine zab (by kernel_rfl) fun hb=>?_
 refine zac mixed Tryz.func114 (by kernel_rfl) rfl (by kernel_rfl) rfl fun Q hQ=>?_
 rw[zdT]at hs
 refine goR f0 ?_
 obtain rfl:=sj hs
 exact hQ _ _ (rg f0 (Gh.refl _))
def zcj(a0:Int):Option ByteArray:=
 cond (orB (ltI a0 1) (ltI 10 a0)) (some (⟨#[]⟩:ByteArray)) (Option.bind (getI zbb (IntKind.i64.wrap (a0 - 1))) (fun x2=>some x2))
theorem zko{a0:Int}{r:ByteArray}(hs:zcj a0=some r):At Tryz.prog 115 [iV .i64 a0] (sV r):=by
 refine zab (by kernel_rfl) fun hb=>?_
 refine zac mixed Tryz.func115 (by kernel_rfl) rfl (by kernel_rfl) rfl fun Q hQ=>?_
 rw[zcj]at hs
 refine goG f0 f0 ?_
 revert hs;refine cS f0 ?_ ?_<;>intro h1 hs
 ·refine goG f0 f0 ?_
  obtain rfl:=sj hs
  exact hQ _ _ (rg f0 (Gh.refl _))
 ·revert hs;refine bK fun x2 hx3 hs=>?_
  obtain⟨hx3a,hx3b,hx3c,hx3d⟩:=zao hx3
  have t4L:zbb.length=10:=rfl
  have f5:zam Tryz.prog 9 (encL zbb) ((IntKind.i64.wrap (a0 - 1)).toNat)=some (sV x2):=zaz hx3d (by simp)
  have F1:=an f5 (an hx3a hx3b)
  refine goG f5 F1 ?_
  obtain rfl:=sj hs
  exact hQ _ _ (rg f5 (Gh.refl _))
def zex(x4:InstRow)(y8:(Arr 7 Int)):Nat->Int->Option (Unit ⊕ Int)
 |0,_=>none
 |q69+1,i55=>cond (ltI i55 7) (zai (inB i55 7) (zai (inB i55 7) (cond (andB (!(x4.uses.f ((i55).toNat))) (!(eqI (y8.f ((i55).toNat)) 0))) (some (.inr 9)) (zex x4 y8 q69 (IntKind.i64.wrap (i55+1)))))) (some (.inl ()))
def zew(a0:Inst)(x4:InstRow):Nat->Int->Option (Unit ⊕ Int)
 |0,_=>none
 |q139+1,i125=>cond (ltI i125 3) (zai (inB i125 3) (zai (inB i125 7) (cond (andB (x4.uses.f ((i125).toNat)) (orB (ltI ((Arr.of 3 [a0.A,a0.B,a0.C]:Arr 3 Int).f ((i125).toNat)) 0) (!(ltI ((Arr.of 3 [a0.A,a0.B,a0.C]:Arr 3 Int).f ((i125).toNat)) 8)))) (some (.inr 10)) (zew a0 x4 q139 (IntKind.i64.wrap (i125+1)))))) (some (.inl ()))
def iCk (fuelN:Nat)(a0:Inst):Option Int:=
 Option.bind (zdF a0.Op) (fun y1=>cond (!y1) (some 8) (Option.bind (getI zbs (IntKind.i64.wrap (a0.Op - 1))) (fun x4=>Option.bind (zdT a0) (fun y8=>Option.bind (α:=Unit ⊕ Int) (Option.bind (zex x4 y8 fuelN 0) (fun o=>match o with|.inl _=>some (.inl ())|.inr r79=>some (.inr r79))) (fun o=>match o with|.inl _=>Option.bind (α:=Unit ⊕ Int) (Option.bind (zew a0 x4 fuelN 0) (fun o=>match o with|.inl _=>some (.inl ())|.inr r149=>some (.inr r149))) (fun o=>match o with|.inl _=>cond (andB (x4.uses.f 6) (orB (ltI a0.Order 0) (ltI 2 a0.Order))) (some 13) (zai (orB (!(x4.uses.f 5)) ((zcj a0.Fn).isSome)) (cond (andB (x4.uses.f 5) (eqS ((zcj a0.Fn).getD default) (⟨#[]⟩:ByteArray))) (some 8) (cond (andB (eqI a0.Op 1) (orB (ltI a0.N (-2147483648)) (ltI 2147483647 a0.N))) (some 2) (some 0))))|.inr r154=>some r154)|.inr r155=>some r155)))))
theorem zxd{fuelN:Nat}{a0:Inst}{r:Int}(hs:iCk fuelN a0=some r):At Tryz.prog 103 [.agg (eA a0)] (iV .i64 r):=by
 refine zab (by kernel_rfl) fun hb=>?_
 refine zac mixed Tryz.func103 (by kernel_rfl) rfl (by kernel_rfl) rfl fun Q hQ=>?_
 rw[iCk]at hs
 refine goR f0 ?_
 revert hs;refine bK fun y1 hx2 hs=>?_
 refine cP f0 (zkA hx2) ?_
 refine goR f0 ?_
 revert hs;refine cS f0 ?_ ?_<;>intro h3 hs
 ·refine goR f0 ?_
  obtain rfl:=sj hs
  exact hQ _ _ (rg f0 (Gh.refl _))
 ·revert hs;refine bK fun x4 hx5 hs=>?_
  obtain⟨hx5a,hx5b,hx5c,hx5d⟩:=zao hx5
  have t6L:zbs.length=22:=rfl
  have f7:zam Tryz.prog 129 (encL zbs) (((IntKind.i64.wrap (a0.Op - 1)).toNat) * 8+1)=some (.agg [bC (x4.uses.f 0),bC (x4.uses.f 1),bC (x4.uses.f 2),bC (x4.uses.f 3),bC (x4.uses.f 4),bC (x4.uses.f 5),bC (x4.uses.f 6)]):=zae hx5d (f:=1) (by simp)
  refine goR f7 ?_
  revert hs;refine bK fun y8 hx9 hs=>?_
  refine cP f7 (zjy hx9) ?_
  refine goR2 f7 ?_
  revert hs;refine bK fun o44 e43 hs=>?_
  refine zaj (fun(v:Unit) (σ:St)=>some (.inl v)=some o44 /\ σ.env 1=.cell (.ref (.o 1 0 0) 0) /\ σ.env 3=.cell (.ref (.o 3 6 0) 0) /\ σ.hp (.o 1 0 0)=some (.cells (eA a0)) /\ σ.hp (.o 3 6 0)=some (.cells [bC (x4.uses.f 0),bC (x4.uses.f 1),bC (x4.uses.f 2),bC (x4.uses.f 3),bC (x4.uses.f 4),bC (x4.uses.f 5),bC (x4.uses.f 6)]) /\ 4<=σ.gen) (by rfl) (fun Q hK45 hX46=>?_) (fun v σ3 hp=>?_)
  ·refine goR f7 ?_
   revert e43;refine bK fun o64 e63 e43=>?_
   refine zaf (fun(v:Nat × Int) (σ:St)=>zex x4 y8 v.1 v.2=some o64 /\ σ.env 1=.cell (.ref (.o 1 0 0) 0) /\ σ.env 3=.cell (.ref (.o 3 6 0) 0) /\ σ.env 19=.agg [nC (y8.f 0),nC (y8.f 1),nC (y8.f 2),nC (y8.f 3),nC (y8.f 4),nC (y8.f 5),nC (y8.f 6)] /\ σ.env 20=iV .i64 v.2 /\ σ.hp (.o 1 0 0)=some (.cells (eA a0)) /\ σ.hp (.o 3 6 0)=some (.cells [bC (x4.uses.f 0),bC (x4.uses.f 1),bC (x4.uses.f 2),bC (x4.uses.f 3),bC (x4.uses.f 4),bC (x4.uses.f 5),bC (x4.uses.f 6)]) /\ 4<=σ.gen) (fun v=>v.1) _ (Gh.refl _) (fuelN,0) ⟨e63,pv f7,pv f7,pv f7,pv f7,pv f7,pv f7,pg⟩ fun v σ6 hp L65 hL66=>?_
   obtain⟨q68,i55⟩:=v
   dsimp only at hp hL66
   obtain⟨e63,h5_1,h5_3,h5_19,h5_20,g5_0,g5_1,n5_g⟩:=hp
   have n5_0:¬ (σ6.gen=0):=by omega
   have n5_1:¬ (σ6.gen=1):=by omega
   have n5_2:¬ (σ6.gen=2):=by omega
   rcases q68 with _|q69
   ·rw[zex]at e63;cases e63
   ·rw[zex]at e63;try dsimp only at e63
    have F1:=an h5_1 (an h5_3 (an h5_19 (an h5_20 (an g5_0 (an g5_1 (an n5_0 (an n5_1 (an n5_2 f7))))))))
    refine goR F1 ?_
    revert e63;refine cS F1 ?_ ?_<;>intro h73 e63
    ·obtain⟨g74,e63⟩:=zaa e63
     have g74a:0<=i55:=(zhS g74).1
     have g74b:i55 < 7:=(zhS g74).2.1
     have g74n:(i55).toNat < 7:= by simpa using (zhS g74).2.2
     have f75:([nC (y8.f 0),nC (y8.f 1),nC (y8.f 2),nC (y8.f 3),nC (y8.f 4),nC (y8.f 5),nC (y8.f 6)]:List AC)[(i55).toNat]?=some (nC (y8.f ((i55).toNat))):=zkB (n:=7) (fun j=>(nC (y8.f j):AC)) g74n
     have f75t:=zft f75
     have f75g:=znr f75
     obtain⟨g76,e63⟩:=zaa e63
     have g76a:0<=i55:=(zhS g76).1
     have g76b:i55 < 7:=(zhS g76).2.1
     have g76n:(i55).toNat < 7:= by simpa using (zhS g76).2.2
     have f77:([bC (x4.uses.f 0),bC (x4.uses.f 1),bC (x4.uses.f 2),bC (x4.uses.f 3),bC (x4.uses.f 4),bC (x4.uses.f 5),bC (x4.uses.f 6)]:List AC)[(i55).toNat]?=some (bC (x4.uses.f ((i55).toNat))):=zkB (n:=7) (fun j=>(bC (x4.uses.f j):AC)) g76n
     have f77t:=zft f77
     have f77g:=znr f77
     have F2:=an F1 (an g74a (an g74b (an g74n (an f75 (an f75t (an f75g (an g76a (an g76b (an g76n (an f77 (an f77t f77g)))))))))))
     have F3:=an F2 (an hx5a hx5b)
     refine goG F2 F3 ?_
     revert e63;refine cS F2 ?_ ?_<;>intro h78 e63
     ·refine goG F2 F3 ?_
      obtain rfl:=sj e63
      try dsimp only at e43
      obtain rfl:=sj e43
      try dsimp only at hs
      refine hX46 _ _ (by simp) ?_
      refine goG F2 F3 ?_
      obtain rfl:=sj hs
      exact hQ _ _ (rg F2 (Gh.refl _))
     ·refine goG F2 F3 ?_
      exact hL66 (q69,IntKind.i64.wrap (i55+1)) _ _ (Gh.refl _) ⟨e63,pv F2,pv F2,pv F2,pv F2,pv F2,pv F2,pg⟩ (by omega)
    ·refine goR F1 ?_
     obtain rfl:=sj e63
     try dsimp only at e43
     exact hK45 () _ _ (Gh.refl _) ⟨e43,pv F1,pv F1,pv F1,pv F1,pg⟩
  ·obtain⟨e43,h4_1,h4_3,g4_0,g4_1,n4_g⟩:=hp
   obtain rfl:=sj e43
   try dsimp only at hs
   have n4_0:¬ (σ3.gen=0):=by omega
   have n4_1:¬ (σ3.gen=1):=by omega
   have n4_2:¬ (σ3.gen=2):=by omega
   have F4:=an h4_1 (an h4_3 (an g4_0 (an g4_1 (an n4_0 (an n4_1 (an n4_2 f7))))))
   refine goR2 F4 ?_
   revert hs;refine bK fun o114 e113 hs=>?_
   refine zaj (fun(v:Unit) (σ:St)=>some (.inl v)=some o114 /\ σ.env 1=.cell (.ref (.o 1 0 0) 0) /\ σ.env 3=.cell (.ref (.o 3 6 0) 0) /\ σ.hp (.o 1 0 0)=some (.cells (eA a0)) /\ σ.hp (.o 3 6 0)=some (.cells [bC (x4.uses.f 0),bC (x4.uses.f 1),bC (x4.uses.f 2),bC (x4.uses.f 3),bC (x4.uses.f 4),bC (x4.uses.f 5),bC (x4.uses.f 6)]) /\ (σ3.gen+1)<=σ.gen) (by rfl) (fun Q hK115 hX116=>?_) (fun v σ9 hp=>?_)
   ·refine goR F4 ?_
    revert e113;refine bK fun o134 e133 e113=>?_
    refine zaf (fun(v:Nat × Int) (σ:St)=>zew a0 x4 v.1 v.2=some o134 /\ σ.env 1=.cell (.ref (.o 1 0 0) 0) /\ σ.env 3=.cell (.ref (.o 3 6 0) 0) /\ σ.env 39=.agg [nC a0.A,nC a0.B,nC a0.C] /\ σ.env 40=iV .i64 v.2 /\ σ.hp (.o 1 0 0)=some (.cells (eA a0)) /\ σ.hp (.o 3 6 0)=some (.cells [bC (x4.uses.f 0),bC (x4.uses.f 1),bC (x4.uses.f 2),bC (x4.uses.f 3),bC (x4.uses.f 4),bC (x4.uses.f 5),bC (x4.uses.f 6)]) /\ (σ3.gen+1)<=σ.gen) (fun v=>v.1) _ (Gh.refl _) (fuelN,0) ⟨e133,pv F4,pv F4,pv F4,pv F4,pv F4,pv F4,pg⟩ fun v σ12 hp L135 hL136=>?_
    obtain⟨q138,i125⟩:=v
    dsimp only at hp hL136
    obtain⟨e133,h11_1,h11_3,h11_39,h11_40,g11_0,g11_1,n11_g⟩:=hp
    have n11_0:¬ (σ12.gen=0):=by omega
    have n11_1:¬ (σ12.gen=1):=by omega
    have n11_2:¬ (σ12.gen=2):=by omega
    rcases q138 with _|q139
    ·rw[zew]at e133;cases e133
    ·rw[zew]at e133;try dsimp only at e133
     have F5:=an h11_1 (an h11_3 (an h11_39 (an h11_40 (an g11_0 (an g11_1 (an n11_0 (an n11_1 (an n11_2 f7))))))))
     refine goR F5 ?_
     revert e133;refine cS F5 ?_ ?_<;>intro h143 e133
     ·obtain⟨g144,e133⟩:=zaa e133
      have g144a:0<=i125:=(zhS g144).1
      have g144b:i125 < 3:=(zhS g144).2.1
      have g144n:(i125).toNat < 3:= by simpa using (zhS g144).2.2
      have f145:([nC a0.A,nC a0.B,nC a0.C]:List AC)[(i125).toNat]?=some (nC ((Arr.of 3 [a0.A,a0.B,a0.C]:Arr 3 Int).f ((i125).toNat))):=zqh (n:=3) ([a0.A,a0.B,a0.C]:List Int) (fun y=>(nC y:AC)) g144n
      have f145t:=zft f145
      have f145g:=znr f145
      obtain⟨g146,e133⟩:=zaa e133
      have g146a:0<=i125:=(zhS g146).1
      have g146b:i125 < 7:=(zhS g146).2.1
      have g146n:(i125).toNat < 7:= by simpa using (zhS g146).2.2
      have f147:([bC (x4.uses.f 0),bC (x4.uses.f 1),bC (x4.uses.f 2),bC (x4.uses.f 3),bC (x4.uses.f 4),bC (x4.uses.f 5),bC (x4.uses.f 6)]:List AC)[(i125).toNat]?=some (bC (x4.uses.f ((i125).toNat))):=zkB (n:=7) (fun j=>(bC (x4.uses.f j):AC)) g146n
      have f147t:=zft f147
      have f147g:=znr f147
      have F6:=an F5 (an g144a (an g144b (an g144n (an f145 (an f145t (an f145g (an g146a (an g146b (an g146n (an f147 (an f147t f147g)))))))))))
      have F7:=an F6 (an hx5a hx5b)
      refine goG F6 F7 ?_
      revert e133;refine cS F6 ?_ ?_<;>intro h148 e133
      ·refine goG F6 F7 ?_
       obtain rfl:=sj e133
       try dsimp only at e113
       obtain rfl:=sj e113
       try dsimp only at hs
       refine hX116 _ _ (by simp) ?_
       refine goG F6 F7 ?_
       obtain rfl:=sj hs
       exact hQ _ _ (rg F6 (Gh.refl _))
      ·refine goG F6 F7 ?_
       exact hL136 (q139,IntKind.i64.wrap (i125+1)) _ _ (Gh.refl _) ⟨e133,pv F6,pv F6,pv F6,pv F6,pv F6,pv F6,pg⟩ (by omega)
     ·refine goR F5 ?_
      obtain rfl:=sj e133
      try dsimp only at e113
      exact hK115 () _ _ (Gh.refl _) ⟨e113,pv F5,pv F5,pv F5,pv F5,pg⟩
   ·obtain⟨e113,h10_1,h10_3,g10_0,g10_1,n10_g⟩:=hp
    obtain rfl:=sj e113
    try dsimp only at hs
    have n10_0:¬ (σ9.gen=0):=by omega
    have n10_1:¬ (σ9.gen=1):=by omega
    have n10_2:¬ (σ9.gen=2):=by omega
    have F8:=an h10_1 (an h10_3 (an g10_0 (an g10_1 (an n10_0 (an n10_1 (an n10_2 f7))))))
    have F9:=an F8 (an hx5a hx5b)
    refine goG F8 F9 ?_
    revert hs;refine cS F8 ?_ ?_<;>intro h150 hs
    ·refine goG F8 F9 ?_
     obtain rfl:=sj hs
     exact hQ _ _ (rg F8 (Gh.refl _))
    ·refine goG F8 F9 ?_
     obtain⟨g151,hs⟩:=zaa hs
     refine zaZ (fun hg=>zko (zaQ g151 hg)) (fun hg=>by(try simp at hg);(first|simp[hg,F8]);try rfl) (fun hg=>by(try simp at hg);simp[hg,F8]) (by simp) ?_
     refine goG F8 F9 ?_
     revert hs;refine cS F8 ?_ ?_<;>intro h152 hs
     ·refine goG F8 F9 ?_
      obtain rfl:=sj hs
      exact hQ _ _ (rg F8 (Gh.refl _))
     ·refine goG F8 F9 ?_
      revert hs;refine cS F8 ?_ ?_<;>intro h153 hs
      ·refine goG F8 F9 ?_
       obtain rfl:=sj hs
       exact hQ _ _ (rg F8 (Gh.refl _))
      ·refine goG F8 F9 ?_
       obtain rfl:=sj hs
       exact hQ _ _ (rg F8 (Gh.refl _))
def zdO(a0:Program)(a1:Int):Option Int:=
 Option.bind (α:=Unit ⊕ Int) (Option.bind (α:=Bool) (cond (eqI a1 8) (some (eqI a1 8)) (cond (eqI a1 9) (some (eqI a1 9)) (cond (eqI a1 10) (some (eqI a1 10)) (cond (eqI a1 11) (some (eqI a1 11)) (cond (eqI a1 12) (some (eqI a1 12)) (some (eqI a1 14))))))) (fun b40=>cond b40 (some (.inr ((a0.Vars.length:Nat):Int))) (Option.bind (α:=Bool) (cond (eqI a1 15) (some (eqI a1 15)) (cond (eqI a1 16) (some (eqI a1 16)) (some (eqI a1 17)))) (fun b53=>cond b53 (some (.inr ((a0.Mutexes.length:Nat):Int))) (cond (eqI a1 18) (some (.inr ((a0.Conds.length:Nat):Int))) (cond (eqI a1 19) (some (.inr ((a0.Conds.length:Nat):Int))) (cond (eqI a1 20) (some (.inr ((a0.Conds.length:Nat):Int))) (cond (eqI a1 21) (some (.inr ((a0.Funcs.length:Nat):Int))) (some (.inl ())))))))))) (fun o=>match o with|.inl _=>some (-1)|.inr r65=>some r65)
theorem zlQ{a0:Program}{a1:Int}{r:Int}(hs:zdO a0 a1=some r):At Tryz.prog 104 [.agg (eA a0),iV .i64 a1] (iV .i64 r):=by
 refine zab (by kernel_rfl) fun hb=>?_
 have hb1:LenOk (.sl a0.Vars.length (encL a0.Vars)):=lkc hb
 have hb2:LenOk (.sl a0.Mutexes.length (encL a0.Mutexes)):=lkc hb
 have hb3:LenOk (.sl a0.Conds.length (encL a0.Conds)):=lkc hb
 have hb4:LenOk (.sl a0.Funcs.length (encL a0.Funcs)):=lkc hb
 have hb5:LenOk (.sl a0.Threads.length (encL a0.Threads)):=lkc hb
 refine zac mixed Tryz.func104 (by kernel_rfl) rfl (by kernel_rfl) rfl fun Q hQ=>?_
 rw[zdO]at hs
 refine goR2 f0 ?_
 revert hs;refine bK fun o32 e31 hs=>?_
 refine zaj (fun(v:Unit) (σ:St)=>some (.inl v)=some o32 /\ 2<=σ.gen) (by rfl) (fun Q hK33 hX34=>?_) (fun v σ5 hp=>?_)
 ·refine goR2 f0 ?_
  refine zdr ?_
  refine goR2 f0 ?_
  revert e31;refine bK fun o42 e41 e31=>?_
  refine zdd (fun(v:Bool) (σ:St)=>some (v)=some o42 /\ σ.env 2=.cell (.ref (.o 1 0 0) 0) /\ σ.env 5=iV .i64 a1 /\ σ.env 6=bV v /\ σ.hp (.o 1 0 0)=some (.cells (eA a0)) /\ 3<=σ.gen) (fun Q hK43 hX44=>?_) (fun b40 σ7 hp=>?_)
  ·refine goR f0 ?_
   revert e41;refine cS f0 ?_ ?_<;>intro h45 e41
   ·refine goR f0 ?_
    exact hK43 (eqI a1 8) _ ⟨e41,pv f0,pv f0,pv f0,pv f0,pg⟩
   ·refine goR f0 ?_
    revert e41;refine cS f0 ?_ ?_<;>intro h46 e41
    ·refine goR f0 ?_
     exact hK43 (eqI a1 9) _ ⟨e41,pv f0,pv f0,pv f0,pv f0,pg⟩
    ·refine goR f0 ?_
     revert e41;refine cS f0 ?_ ?_<;>intro h47 e41
     ·refine goR f0 ?_
      exact hK43 (eqI a1 10) _ ⟨e41,pv f0,pv f0,pv f0,pv f0,pg⟩
     ·refine goR f0 ?_
      revert e41;refine cS f0 ?_ ?_<;>intro h48 e41
      ·refine goR f0 ?_
       exact hK43 (eqI a1 11) _ ⟨e41,pv f0,pv f0,pv f0,pv f0,pg⟩
      ·refine goR f0 ?_
       revert e41;refine cS f0 ?_ ?_<;>intro h49 e41
       ·refine goR f0 ?_
        exact hK43 (eqI a1 12) _ ⟨e41,pv f0,pv f0,pv f0,pv f0,pg⟩
       ·refine goR f0 ?_
        exact hK43 (eqI a1 14) _ ⟨e41,pv f0,pv f0,pv f0,pv f0,pg⟩
  ·obtain⟨e41,h8_2,h8_5,h8_6,g8_0,n8_g⟩:=hp
   obtain rfl:=sj e41
   try dsimp only at e31
   have n8_0:¬ (σ7.gen=0):=by omega
   have F1:=an h8_2 (an h8_5 (an h8_6 (an g8_0 n8_0)))
   refine goR F1 ?_
   revert e31;refine cS F1 ?_ ?_<;>intro h50 e31
   ·refine goR F1 ?_
    obtain rfl:=sj e31
    try dsimp only at hs
    refine hX34 _ _ (by simp) ?_
    refine goR F1 ?_
    obtain rfl:=sj hs
    exact hQ _ _ (rg F1 (Gh.refl _))
   ·refine goR2 F1 ?_
    revert e31;refine bK fun o55 e54 e31=>?_
    refine zdd (fun(v:Bool) (σ:St)=>some (v)=some o55 /\ σ.env 2=.cell (.ref (.o 1 0 0) 0) /\ σ.env 5=iV .i64 a1 /\ σ.env 16=bV v /\ σ.hp (.o 1 0 0)=some (.cells (eA a0)) /\ (σ7.gen+1)<=σ.gen) (fun Q hK56 hX57=>?_) (fun b53 σ9 hp=>?_)
    ·refine goR F1 ?_
     revert e54;refine cS F1 ?_ ?_<;>intro h58 e54
     ·refine goR F1 ?_
      exact hK56 (eqI a1 15) _ ⟨e54,pv F1,pv F1,pv F1,pv F1,pg⟩
     ·refine goR F1 ?_
      revert e54;refine cS F1 ?_ ?_<;>intro h59 e54
      ·refine goR F1 ?_
       exact hK56 (eqI a1 16) _ ⟨e54,pv F1,pv F1,pv F1,pv F1,pg⟩
      ·refine goR F1 ?_
       exact hK56 (eqI a1 17) _ ⟨e54,pv F1,pv F1,pv F1,pv F1,pg⟩
    ·obtain⟨e54,h10_2,h10_5,h10_16,g10_0,n10_g⟩:=hp
     obtain rfl:=sj e54
     try dsimp only at e31
     have n10_0:¬ (σ9.gen=0):=by omega
     have F2:=an h10_2 (an h10_5 (an h10_16 (an g10_0 n10_0)))
     refine goR F2 ?_
     revert e31;refine cS F2 ?_ ?_<;>intro h60 e31
     ·refine goR F2 ?_
      obtain rfl:=sj e31
      try dsimp only at hs
      refine hX34 _ _ (by simp) ?_
      refine goR F2 ?_
      obtain rfl:=sj hs
      exact hQ _ _ (rg F2 (Gh.refl _))
     ·refine goR F2 ?_
      revert e31;refine cS F2 ?_ ?_<;>intro h61 e31
      ·refine goR F2 ?_
       refine zaB (by first|exact h61|simpa using h61) ?_
       refine goR F2 ?_
       obtain rfl:=sj e31
       try dsimp only at hs
       refine hX34 _ _ (by simp) ?_
       refine goR F2 ?_
       obtain rfl:=sj hs
       exact hQ _ _ (rg F2 (Gh.refl _))
      ·refine goR F2 ?_
       revert e31;refine cS F2 ?_ ?_<;>intro h62 e31
       ·refine goR F2 ?_
        refine zaB (by first|exact h62|simpa using h62) ?_
        refine goR F2 ?_
        obtain rfl:=sj e31
        try dsimp only at hs
        refine hX34 _ _ (by simp) ?_
        refine goR F2 ?_
        obtain rfl:=sj hs
        exact hQ _ _ (rg F2 (Gh.refl _))
       ·refine goR F2 ?_
        revert e31;refine cS F2 ?_ ?_<;>intro h63 e31
        ·refine goR F2 ?_
         obtain rfl:=sj e31
         try dsimp only at hs
         refine hX34 _ _ (by simp) ?_
         refine goR F2 ?_
         obtain rfl:=sj hs
         exact hQ _ _ (rg F2 (Gh.refl _))
        ·refine goR F2 ?_
         revert e31;refine cS F2 ?_ ?_<;>intro h64 e31
         ·refine goR F2 ?_
          obtain rfl:=sj e31
          try dsimp only at hs
          refine hX34 _ _ (by simp) ?_
          refine goR F2 ?_
          obtain rfl:=sj hs
          exact hQ _ _ (rg F2 (Gh.refl _))
         ·refine goR F2 ?_
          exact hK33 () _ _ (Gh.refl _) ⟨e31,pg⟩
 ·obtain⟨e31,n6_g⟩:=hp
  obtain rfl:=sj e31
  try dsimp only at hs
  refine goR f0 ?_
  obtain rfl:=sj hs
  exact hQ _ _ (rg f0 (Gh.refl _))
def zfU(fuelN:Nat)(a0:Program)(a1:Inst)(a2:Int):Option Int:=
 Option.bind (iCk fuelN a1) (fun y1=>cond (!(eqI y1 0)) (some y1) (Option.bind (zdO a0 a1.Op) (fun y4=>cond (andB (!(ltI y4 0)) (orB (ltI a1.Obj 0) (!(ltI a1.Obj y4)))) (some 11) (cond (andB (eqI a1.Op 18) (orB (ltI a1.N 0) (!(ltI a1.N ((a0.Mutexes.length:Nat):Int))))) (some 11) (cond (andB (orB (eqI a1.Op 4) (eqI a1.Op 5)) (orB (ltI a1.N 0) (ltI a2 a1.N))) (some 12) (some 0))))))
theorem zos{fuelN:Nat}{a0:Program}{a1:Inst}{a2:Int}{r:Int}(hs:zfU fuelN a0 a1 a2=some r):At Tryz.prog 86 [.agg (eA a0),.agg (eA a1),iV .i64 a2] (iV .i64 r):=by
 refine zab (by kernel_rfl) fun hb=>?_
 have hb1:LenOk (.sl a0.Vars.length (encL a0.Vars)):=lkc hb
 have hb2:LenOk (.sl a0.Mutexes.length (encL a0.Mutexes)):=lkc hb
 have hb3:LenOk (.sl a0.Conds.length (encL a0.Conds)):=lkc hb
 have hb4:LenOk (.sl a0.Funcs.length (encL a0.Funcs)):=lkc hb
 have hb5:LenOk (.sl a0.Threads.length (encL a0.Threads)):=lkc hb
 refine zac mixed Tryz.func86 (by kernel_rfl) rfl (by kernel_rfl) rfl fun Q hQ=>?_
 rw[zfU]at hs
 refine goR f0 ?_
 revert hs;refine bK fun y1 hx2 hs=>?_
 refine cP f0 (zxd hx2) ?_
 refine goR f0 ?_
 revert hs;refine cS f0 ?_ ?_<;>intro h3 hs
 ·refine goR f0 ?_
  obtain rfl:=sj hs
  exact hQ _ _ (rg f0 (Gh.refl _))
 ·refine goR f0 ?_
  revert hs;refine bK fun y4 hx5 hs=>?_
  refine cP f0 (zlQ hx5) ?_
  refine goG f0 f0 ?_
  revert hs;refine cS f0 ?_ ?_<;>intro h6 hs
  ·refine goG f0 f0 ?_
   obtain rfl:=sj hs
   exact hQ _ _ (rg f0 (Gh.refl _))
  ·refine goG f0 f0 ?_
   revert hs;refine cS f0 ?_ ?_<;>intro h7 hs
   ·refine goG f0 f0 ?_
    obtain rfl:=sj hs
    exact hQ _ _ (rg f0 (Gh.refl _))
   ·refine goG f0 f0 ?_
    revert hs;refine cS f0 ?_ ?_<;>intro h8 hs
    ·refine goG f0 f0 ?_
     obtain rfl:=sj hs
     exact hQ _ _ (rg f0 (Gh.refl _))
    ·refine goG f0 f0 ?_
     obtain rfl:=sj hs
     exact hQ _ _ (rg f0 (Gh.refl _))
def insC (a:Nat):Nat->List Inst->List (PPl × Inst)
 |_,[]=>[]
 |b,i::r=>(⟨(a:Int),(b:Int)⟩,i)::insC a (b+1) r
def insF:Nat->List Func->List (PPl × Inst)
 |_,[]=>[]
 |a,f::r=>insC a 0 f.Code++insF (a+1) r
def zcT(p:Program):Option (List (PPl × Inst)):=
 zai (lenB p.Funcs.length && p.Funcs.all fun f=>lenB f.Code.length) (some (insF 0 p.Funcs))
abbrev zmD:PPl × Inst->List EV:=fun y=>([.agg [.c (.int .i64 y.1.fn),.c (.int .i64 y.1.inst)],.agg [.c (.int .i64 y.2.Op),.c (.int .i64 y.2.A),.c (.int .i64 y.2.B),.c (.int .i64 y.2.C),.c (.int .i64 y.2.Obj),.c (.int .i64 y.2.N),.c (.int .i64 y.2.Fn),.c (.int .i64 y.2.Order)]]:List EV)
theorem zhO{p:Program}{xs:List (PPl × Inst)}(h:zcT p=some xs):zl0 Tryz.prog 102 [.cell (.p (.bx [.sl p.Vars.length (encL p.Vars),.sl p.Mutexes.length (encL p.Mutexes),.sl p.Conds.length (encL p.Conds),.sl p.Funcs.length (encL p.Funcs),.sl p.Threads.length (encL p.Threads)]))] (xs.map zmD):=by
 obtain⟨g,h⟩:=zaa h
 obtain rfl:=Option.some.inj h
 simp only[Bool.and_eq_true,List.all_eq_true]at g
 obtain⟨g1,g2⟩:=g
 refine zqL (by simp;rfl) ?_
 refine zqM mixed Tryz.func102 (by kernel_rfl) rfl (by kernel_rfl) rfl fun ℓ Q hQ=>?_
 repeat (first|simp|with_reducible refine za7 ?_)
 refine zaf (fun(v:Nat × Nat) (σ:St)=>v.1<=p.Funcs.length /\ (insF 0 p.Funcs).drop v.2=insF v.1 (p.Funcs.drop v.1) /\ v.2<=(insF 0 p.Funcs).length /\ σ.env 10=iV .i64 (v.1:Nat) /\ σ.env 8=.cell (.p (.sl p.Funcs.length (encL p.Funcs))) /\ σ.env 9=iV .i64 p.Funcs.length /\ σ.env 0=.cell (.yl ℓ) /\ σ.acc=some ⟨ℓ,(insF 0 p.Funcs).map zmD,v.2,true⟩) (fun v=>p.Funcs.length - v.1) _ (Gh.refl _) (0,0) ⟨by simp,by simp,by simp,by simp,by simp,by simp,by simp,by simp⟩ fun v σ hp L hL=>?_
 obtain⟨a,n⟩:=v
 dsimp only at hp hL
 obtain⟨ha,hn,hnl,h10,h8,h9,h0,hacc⟩:=hp
 repeat (first|simp[h10,h8,h9,h0,hacc]|with_reducible refine za7 ?_)
 by_cases hlt:a < p.Funcs.length
 ·refine zaB (by simp[ltI];omega) ?_
  have hx:=List.getElem?_eq_getElem hlt
  have ew:=za1 hlt g1
  have hcl:=g2 _ (List.getElem_mem hlt)
  rw[List.drop_eq_getElem_cons hlt]at hn
  generalize p.Funcs[a]=f at *
  have f1:zam Tryz.prog 49 (encL p.Funcs) (a * 2)=some (.agg [.p (.c (.string f.Name)),.p (.sl f.Code.length (encL f.Code))]):=zae hx (f:=0) (by simp)
  repeat (first|simp[h10,h8,h9,h0,hacc,f1,hlt]|with_reducible refine za7 ?_|with_reducible refine zbe (by omega) ?_)
  refine zaf (fun(v:Nat × Nat) (σ2:St)=>v.1<=f.Code.length /\ (insF 0 p.Funcs).drop v.2=insC a v.1 (f.Code.drop v.1)++insF (a+1) (p.Funcs.drop (a+1)) /\ v.2<=(insF 0 p.Funcs).length /\ σ2.env 18=iV .i64 (v.1:Nat) /\ σ2.env 16=.cell (.p (.sl f.Code.length (encL f.Code))) /\ σ2.env 17=iV .i64 f.Code.length /\ σ2.env 3=iV .i64 a /\ σ2.env 10=iV .i64 a /\ σ2.env 8=.cell (.p (.sl p.Funcs.length (encL p.Funcs))) /\ σ2.env 9=iV .i64 p.Funcs.length /\ σ2.env 0=.cell (.yl ℓ) /\ σ2.acc=some ⟨ℓ,(insF 0 p.Funcs).map zmD,v.2,true⟩) (fun v=>f.Code.length - v.1) _ (Gh.refl _) (0,n) ⟨by simp,by simpa [insF]using hn,hnl,by simp[h10,h8,h9,h0,hacc],by simp[h10,h8,h9,h0,hacc],by simp[h10,h8,h9,h0,hacc],by simp[h10,h8,h9,h0,hacc],by simp[h10,h8,h9,h0,hacc],by simp[h10,h8,h9,h0,hacc],by simp[h10,h8,h9,h0,hacc],by simp[h10,h8,h9,h0,hacc],by simp[h10,h8,h9,h0,hacc]⟩ fun v σ2 hp L2 hL2=>?_
  obtain⟨b,m⟩:=v
  dsimp only at hp hL2
  obtain⟨hb,hm,hml,k18,k16,k17,k3,k10,k8,k9,k0,kacc⟩:=hp
  repeat (first|simp[k18,k16,k17,k3,k10,k8,k9,k0,kacc]|with_reducible refine za7 ?_)
  by_cases hltb:b < f.Code.length
  ·refine zaB (by simp[ltI];omega) ?_
   have hxb:=List.getElem?_eq_getElem hltb
   have ewb:=za1 hltb hcl
   rw[List.drop_eq_getElem_cons hltb]at hm
   generalize f.Code[b]=i at *
   have hy:(insF 0 p.Funcs)[m]?=some (⟨(a:Int),(b:Int)⟩,i):=by
    have:((insF 0 p.Funcs).drop m)[0]?=some (⟨(a:Int),(b:Int)⟩,i):=by rw[hm];rfl
    simpa using this
   have hm1:(insF 0 p.Funcs).drop (m+1)=insC a (b+1) (f.Code.drop (b+1))++insF (a+1) (p.Funcs.drop (a+1)):=by
    rw[<- List.drop_drop,hm];rfl
   have hm2:m+1<=(insF 0 p.Funcs).length:=(List.getElem?_eq_some_iff.1 hy).1
   have hye:((insF 0 p.Funcs).map zmD)[m]?=some (zmD (⟨(a:Int),(b:Int)⟩,i)):=by rw[List.getElem?_map,hy];rfl
   have hye':Option.map zmD (insF 0 p.Funcs)[m]?=some (zmD (⟨(a:Int),(b:Int)⟩,i)):=by rw[hy];rfl
   have f2:zam Tryz.prog 41 (encL f.Code) (b * 8)=some (.agg [.p (.c (.int .i64 i.Op)),.p (.c (.int .i64 i.A)),.p (.c (.int .i64 i.B)),.p (.c (.int .i64 i.C)),.p (.c (.int .i64 i.Obj)),.p (.c (.int .i64 i.N)),.p (.c (.int .i64 i.Fn)),.p (.c (.int .i64 i.Order))]):=zae hxb (f:=0) (by simp)
   repeat (first|simp[k18,k16,k17,k3,k10,k8,k9,k0,kacc,f2,hltb,hy]|with_reducible refine za7 ?_|with_reducible refine zbe (by omega) ?_)
   refine⟨?_,?_⟩
   ·repeat (first|simp[k18,k16,k17,k3,k10,k8,k9,k0,kacc,ewb]|with_reducible refine za7 ?_)
    exact hL2 (b+1,m+1) _ _ (Gh.refl _) ⟨hltb,hm1,hm2,by simp[k18,ewb],by simp[k16],by simp[k17],by simp[k3],by simp[k10],by simp[k8],by simp[k9],by simp[k0],by simp⟩ (by simp;omega)
   ·repeat (first|simp[k18,k16,k17,k3,k10,k8,k9,k0,kacc]|with_reducible refine za7 ?_)
    refine hQ _ _ (zim (.inr rfl) (by simp;rfl) (by simp;first|exact⟨rfl,rfl⟩|exact⟨rfl,rfl,rfl⟩|rfl) ?_)
    simp
  ·refine zaF (by simp[ltI];omega) ?_
   have:b=f.Code.length:=by omega
   subst this
   have hn':(insF 0 p.Funcs).drop m=insF (a+1) (p.Funcs.drop (a+1)):=by rw[hm];simp[insC]
   repeat (first|simp[k18,k16,k17,k3,k10,k8,k9,k0,kacc,ew]|with_reducible refine za7 ?_)
   exact hL (a+1,m) _ _ (Gh.refl _) ⟨hlt,hn',hml,by simp[k10,ew],by simp[k8],by simp[k9],by simp[k0],by simp[kacc]⟩ (by simp;omega)
 ·refine zaF (by simp[ltI];omega) ?_
  have:a=p.Funcs.length:=by omega
  subst this
  repeat (first|simp[h10,h8,h9,h0,hacc]|with_reducible refine za7 ?_)
  refine hQ _ _ (zim (.inl rfl) (by simp;rfl) (by simp[hacc];first|exact⟨rfl,rfl⟩|exact⟨rfl,rfl,rfl⟩|rfl) ?_)
  intro _
  have:=congrArg List.length hn
  simp[insF]at this
  simp
  omega
end Go.Dc
end
