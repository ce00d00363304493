/- Contracts of functions, by their numbers, and the laws that walk them. Conditions: as each states. -/
import Derived.Test.YtodjpjecpancdaaGreatDoorH4
import Derived.Test.YtodjpjecpancdaaGreatDoorH5
import Derived.Lib.Bytealg
import Derived.KernelRfl
set_option linter.all false
set_option maxRecDepth 100000
set_option maxHeartbeats 4000000
section
namespace Go.Dc
open Go Go.Hw Go.Proofs
def zbg(fuelN:Nat)(a0:Program)(y1:Int):List (PPl × Inst)->Option (Unit ⊕ (Unit ⊕ (Int × PPl)))
 |[]=>some (.inl ())
 |y7::q28=>cond (eqI y7.1.fn y1) (some (.inr (.inl ()))) (Option.bind (getI a0.Funcs y7.1.fn) (fun x36=>Option.bind (zfU fuelN a0 y7.2 ((x36.Code.length:Nat):Int)) (fun y39=>cond (!(eqI y39 0)) (some (.inr (.inr (y39,y7.1)))) (zbg fuelN a0 y1 q28))))
def zfV(fuelN:Nat)(a0:Program):Option (Int × PPl):=
 Option.bind (sIFp a0.Funcs) (fun y1=>Option.bind (zcs a0) (fun y3=>Option.bind (zcT y3) (fun xs5=>Option.bind (zbg fuelN a0 y1 xs5) (fun o=>match o with|.inl _=>cond (!(ltI y1 0)) (some (4,({ fn:=y1,inst:=(-1) }:PPl))) (some (0,({ fn:=(-1),inst:=(-1) }:PPl)))|.inr (.inl _)=>cond (!(ltI y1 0)) (some (4,({ fn:=y1,inst:=(-1) }:PPl))) (some (0,({ fn:=(-1),inst:=(-1) }:PPl)))|.inr (.inr r45)=>some r45))))
theorem zot{fuelN:Nat}{a0:Program}{r:Int × PPl}(hs:zfV fuelN a0=some r):At Tryz.prog 52 [.agg (eA a0)] (.tup [iV .i64 r.1,.agg (eA r.2)]):=by
 refine zab (by kernel_rfl) fun hb=>?_
 have hb1:LenOk (.sl a0.Vars.length (encL a0.Vars)):=lkc hb
 have hb2:LenOk (.sl a0.Mutexes.length (encL a0.Mutexes)):=lkc hb
 have hb3:LenOk (.sl a0.Conds.length (encL a0.Conds)):=lkc hb
 have hb4:LenOk (.sl a0.Funcs.length (encL a0.Funcs)):=lkc hb
 have hb5:LenOk (.sl a0.Threads.length (encL a0.Threads)):=lkc hb
 refine zac mixed Tryz.func52 (by kernel_rfl) rfl (by kernel_rfl) rfl fun Q hQ=>?_
 rw[zfV]at hs
 refine goR f0 ?_
 revert hs;refine bK fun y1 hx2 hs=>?_
 refine cP f0 (ztY hx2) ?_
 refine goR f0 ?_
 revert hs;refine bK fun y3 hx4 hs=>?_
 refine cP f0 (zhl hx4) ?_
 refine goR f0 ?_
 revert hs;refine bK fun xs5 hx6 hs=>?_
 revert hs;refine bK fun o22 e21 hs=>?_
 refine zqc (gf:=102) (cs:=[.bx [.sl y3.Vars.length (encL y3.Vars),.sl y3.Mutexes.length (encL y3.Mutexes),.sl y3.Conds.length (encL y3.Conds),.sl y3.Funcs.length (encL y3.Funcs),.sl y3.Threads.length (encL y3.Threads)]]) (xs5.map (fun(y:PPl × Inst)=>([.agg [.c (.int .i64 y.1.fn),.c (.int .i64 y.1.inst)],.agg [.c (.int .i64 y.2.Op),.c (.int .i64 y.2.A),.c (.int .i64 y.2.B),.c (.int .i64 y.2.C),.c (.int .i64 y.2.Obj),.c (.int .i64 y.2.N),.c (.int .i64 y.2.Fn),.c (.int .i64 y.2.Order)]]:List EV))) (fun(k23:Nat) (hp24:Go.Hw.Id->Option Blk) (gen25:Nat)=>zbg fuelN a0 y1 (xs5.drop k23)=some o22 /\ hp24 (.o 1 0 0)=some (.cells (eA a0)) /\ hp24 (.o 1 1 0)=some (.cells [nC 0]) /\ hp24 (.o 1 2 0)=some (.cells [nC 0,nC 0]) /\ hp24 (.o 2 3 0)=some (.cells [nC y1]) /\ 3<=gen25) _ (Gh.refl _) (pv f0) (zhO hx6) (fun x hx=>by obtain⟨y,_,rfl⟩:=List.mem_map.1 hx;rfl) ⟨e21,pv f0,pv f0,pv f0,pv f0,pg⟩ (fun k23 x hp24 gen25 hx hI=>?_) (fun hp24 gen25 hI=>?_)
 ·obtain⟨e21,g1_0,g1_1,g1_2,g1_3,n1_g⟩:=hI
  try dsimp only at e21 g1_0 g1_1 g1_2 g1_3 n1_g
  obtain⟨y7,hy26,rfl⟩:=ztl hx
  rw[drop_at hy26,zbg]at e21;try dsimp only at e21
  have n1_0:¬ (gen25=0):=by omega
  have n1_1:¬ (gen25=1):=by omega
  have F1:=an g1_0 (an g1_1 (an g1_2 (an g1_3 (an n1_0 n1_1))))
  refine goR F1 ?_
  revert e21;refine cS F1 ?_ ?_<;>intro h29 e21
  ·refine goR F1 ?_
   obtain rfl:=sj e21
   try dsimp only at hs
   refine znX ?_
   refine goR F1 ?_
   revert hs;refine cS F1 ?_ ?_<;>intro h30 hs
   ·refine goD F1 ?_
    obtain rfl:=sj hs
    exact hQ _ _ (rg F1 (Gh.refl _))
   ·refine goR F1 ?_
    obtain rfl:=sj hs
    exact hQ _ _ (rg F1 (Gh.refl _))
  ·revert e21;refine bK fun x36 hx37 e21=>?_
   obtain⟨hx37a,hx37b,hx37c,hx37d⟩:=zao hx37
   have f38:zam Tryz.prog 47 (encL a0.Funcs) (((y7.1.fn).toNat) * 2+1)=some (.cell (sC x36.Code)):=zae hx37d (f:=1) (by simp)
   have F2:=an F1 f38
   refine goD F2 ?_
   revert e21;refine bK fun y39 hx40 e21=>?_
   refine cP F2 (zos hx40) ?_
   refine goD F2 ?_
   revert e21;refine cS F2 ?_ ?_<;>intro h41 e21
   ·refine goD F2 ?_
    obtain rfl:=sj e21
    try dsimp only at hs
    refine zo8 ?_
    refine goD F2 ?_
    obtain rfl:=sj hs
    exact hQ _ _ (rg F2 (Gh.refl _))
   ·refine goD F2 ?_
    refine zqW (Gh.refl _) ⟨e21,pv F2,pv F2,pv F2,pv F2,pg⟩
 ·obtain⟨e21,g1_0,g1_1,g1_2,g1_3,n1_g⟩:=hI
  try dsimp only at e21 g1_0 g1_1 g1_2 g1_3 n1_g
  rw[show xs5.drop (xs5.map (fun(y:PPl × Inst)=>([.agg [.c (.int .i64 y.1.fn),.c (.int .i64 y.1.inst)],.agg [.c (.int .i64 y.2.Op),.c (.int .i64 y.2.A),.c (.int .i64 y.2.B),.c (.int .i64 y.2.C),.c (.int .i64 y.2.Obj),.c (.int .i64 y.2.N),.c (.int .i64 y.2.Fn),.c (.int .i64 y.2.Order)]]:List EV))).length=[] by simp,zbg]at e21;try dsimp only at e21
  have n1_0:¬ (gen25=0):=by omega
  have n1_1:¬ (gen25=1):=by omega
  obtain rfl:=sj e21
  try dsimp only at hs
  have F3:=an g1_0 (an g1_1 (an g1_2 (an g1_3 (an n1_0 n1_1))))
  refine goR F3 ?_
  revert hs;refine cS F3 ?_ ?_<;>intro h42 hs
  ·refine goD F3 ?_
   obtain rfl:=sj hs
   exact hQ _ _ (rg F3 (Gh.refl _))
  ·refine goR F3 ?_
   obtain rfl:=sj hs
   exact hQ _ _ (rg F3 (Gh.refl _))
def zbn(a0:Program):List Start->Nat->Option (Unit ⊕ (Int × PPl))
 |[],k54=>some (.inl ())
 |x74::q70,k54=>cond (orB (ltI x74.Func 0) (!(ltI x74.Func ((a0.Funcs.length:Nat):Int)))) (some (.inr (11,({ fn:=(-1),inst:=(-1) }:PPl)))) (Option.bind (zfh x74.Arg) (fun y78=>cond (!y78) (some (.inr (2,({ fn:=(-1),inst:=(-1) }:PPl)))) (zbn a0 q70 (k54+1))))
def zc1(a0:Program):Option (Int × PPl):=
 cond (orB (ltI ((a0.Threads.length:Nat):Int) 1) (ltI 8 ((a0.Threads.length:Nat):Int))) (some (4,({ fn:=(-1),inst:=(-1) }:PPl))) (Option.bind (α:=Unit ⊕ (Int × PPl)) (Option.bind (zbn a0 a0.Threads 0) (fun o=>match o with|.inl _=>some (.inl ())|.inr r81=>some (.inr r81))) (fun o=>match o with|.inl _=>some (0,({ fn:=(-1),inst:=(-1) }:PPl))|.inr r82=>some r82))
theorem zkv{a0:Program}{r:Int × PPl}(hs:zc1 a0=some r):At Tryz.prog 53 [.agg (eA a0)] (.tup [iV .i64 r.1,.agg (eA r.2)]):=by
 refine zab (by kernel_rfl) fun hb=>?_
 have hb1:LenOk (.sl a0.Vars.length (encL a0.Vars)):=lkc hb
 have hb2:LenOk (.sl a0.Mutexes.length (encL a0.Mutexes)):=lkc hb
 have hb3:LenOk (.sl a0.Conds.length (encL a0.Conds)):=lkc hb
 have hb4:LenOk (.sl a0.Funcs.length (encL a0.Funcs)):=lkc hb
 have hb5:LenOk (.sl a0.Threads.length (encL a0.Threads)):=lkc hb
 refine zac mixed Tryz.func53 (by kernel_rfl) rfl (by kernel_rfl) rfl fun Q hQ=>?_
 rw[zc1]at hs
 refine goG f0 f0 ?_
 revert hs;refine cS f0 ?_ ?_<;>intro h1 hs
 ·refine goE f0 f0 ?_
  obtain rfl:=sj hs
  exact hQ _ _ (rg f0 (Gh.refl _))
 ·refine goG2 f0 f0 ?_
  revert hs;refine bK fun o41 e40 hs=>?_
  refine zaj (fun(v:Unit) (σ:St)=>some (.inl v)=some o41 /\ σ.env 3=.cell (.ref (.o 1 2 0) 0) /\ σ.env 4=.cell (.ref (.o 2 1 0) 0) /\ σ.hp (.o 1 2 0)=some (.cells [nC 0,nC 0]) /\ σ.hp (.o 2 1 0)=some (.cells [nC (-1),nC (-1)]) /\ 4<=σ.gen) (by rfl) (fun Q hK42 hX43=>?_) (fun v σ3 hp=>?_)
  ·refine goG f0 f0 ?_
   revert e40;refine bK fun o65 e64 e40=>?_
   refine zaf (fun(v:(List Start) × Nat) (σ:St)=>zbn a0 v.1 v.2=some o65 /\ v.1=a0.Threads.drop v.2 /\ σ.env 1=.cell (.ref (.o 1 0 0) 0) /\ σ.env 3=.cell (.ref (.o 1 2 0) 0) /\ σ.env 4=.cell (.ref (.o 2 1 0) 0) /\ σ.env 20=.cell (sC a0.Threads) /\ σ.env 21=iV .i64 ((a0.Threads.length:Nat):Int) /\ σ.env 22=iV .i64 ((v.2:Nat):Int) /\ σ.hp (.o 1 0 0)=some (.cells (eA a0)) /\ σ.hp (.o 1 2 0)=some (.cells [nC 0,nC 0]) /\ σ.hp (.o 2 1 0)=some (.cells [nC (-1),nC (-1)]) /\ 4<=σ.gen) (fun v=>v.1.length) _ (Gh.refl _) (a0.Threads,0) ⟨e64,by simp,pv f0,pv f0,pv f0,pv f0,pv f0,pv f0,pv f0,pv f0,pv f0,pg⟩ fun v σ6 hp L66 hL67=>?_
   obtain⟨q69,k54⟩:=v
   dsimp only at hp hL67
   obtain⟨e64,hd68,h5_1,h5_3,h5_4,h5_20,h5_21,h5_22,g5_0,g5_1,g5_2,n5_g⟩:=hp
   have n5_0:¬ (σ6.gen=0):=by omega
   have n5_1:¬ (σ6.gen=1):=by omega
   rcases q69 with _ |⟨x74,q70⟩
   ·have hlt71:=drop_end hd68
    rw[zbn]at e64;try dsimp only at e64
    have F1:=an h5_1 (an h5_3 (an h5_4 (an h5_20 (an h5_21 (an h5_22 (an g5_0 (an g5_1 (an g5_2 (an n5_0 n5_1)))))))))
    refine goR F1 ?_
    refine zaF (by simp[ltI];omega) ?_
    obtain rfl:=sj e64
    try dsimp only at e40
    exact hK42 () _ _ (Gh.refl _) ⟨e40,pv F1,pv F1,pv F1,pv F1,pg⟩
   ·obtain⟨hx73,hlt71,hd75⟩:=zay hd68
    have ew72:=wrap_succ hlt71 (hb5).len
    rw[zbn]at e64;try dsimp only at e64
    have F2:=an h5_1 (an h5_3 (an h5_4 (an h5_20 (an h5_21 (an h5_22 (an g5_0 (an g5_1 (an g5_2 (an n5_0 (an n5_1 (an hlt71 ew72)))))))))))
    refine goR F2 ?_
    refine zaB (by simp[ltI];omega) ?_
    have f76:zam Tryz.prog 51 (encL a0.Threads) (k54 * 2)=some (.agg (eA x74)):=zae hx73 (f:=0) (by simp)
    have F3:=an F2 f76
    refine goG F3 F3 ?_
    revert e64;refine cS F3 ?_ ?_<;>intro h77 e64
    ·refine goE F3 F3 ?_
     obtain rfl:=sj e64
     try dsimp only at e40
     obtain rfl:=sj e40
     try dsimp only at hs
     refine hX43 _ _ (by simp) ?_
     refine goE F3 F3 ?_
     obtain rfl:=sj hs
     exact hQ _ _ (rg F3 (Gh.refl _))
    ·refine goG F3 F3 ?_
     revert e64;refine bK fun y78 hx79 e64=>?_
     refine cP F3 (zjU hx79) ?_
     refine goG F3 F3 ?_
     revert e64;refine cS F3 ?_ ?_<;>intro h80 e64
     ·refine goE F3 F3 ?_
      obtain rfl:=sj e64
      try dsimp only at e40
      obtain rfl:=sj e40
      try dsimp only at hs
      refine hX43 _ _ (by simp) ?_
      refine goE F3 F3 ?_
      obtain rfl:=sj hs
      exact hQ _ _ (rg F3 (Gh.refl _))
     ·refine goG F3 F3 ?_
      exact hL67 (q70,(k54+1)) _ _ (Gh.refl _) ⟨e64,hd75,pv F3,pv F3,pv F3,pv F3,pv F3,pv F3,pv F3,pv F3,pv F3,pg⟩ (by simp)
  ·obtain⟨e40,h4_3,h4_4,g4_0,g4_1,n4_g⟩:=hp
   obtain rfl:=sj e40
   try dsimp only at hs
   have n4_0:¬ (σ3.gen=0):=by omega
   have n4_1:¬ (σ3.gen=1):=by omega
   have F4:=an h4_3 (an h4_4 (an g4_0 (an g4_1 (an n4_0 n4_1))))
   refine goE F4 F4 ?_
   obtain rfl:=sj hs
   exact hQ _ _ (rg F4 (Gh.refl _))
def zef(fuelN:Nat)(a0:Program):Option (Int × Int × Int):=
 Option.bind (zeH a0) (fun y1=>Option.bind (α:=Int × Int × Int) (cond (eqI y1.1 0) (Option.bind (zc2 a0) (fun y15=>some ((y15.1,y15.2.fn,y15.2.inst)))) (some ((y1.1,y1.2.fn,y1.2.inst)))) (fun o=>match o with |(i6,i7,i9)=>Option.bind (α:=Int × Int × Int) (cond (eqI i6 0) (Option.bind (zfV fuelN a0) (fun y28=>some ((y28.1,y28.2.fn,y28.2.inst)))) (some ((i6,i7,i9)))) (fun o=>match o with |(i20,i21,i22)=>cond (eqI i20 0) (Option.bind (zc1 a0) (fun y31=>cond (!(eqI y31.1 0)) (some (y31.1,y31.2.fn,y31.2.inst)) (some (0,(-1),(-1))))) (cond (!(eqI i20 0)) (some (i20,i21,i22)) (some (0,(-1),(-1)))))))
theorem zjW{fuelN:Nat}{a0:Program}{r:Int × Int × Int}(hs:zef fuelN a0=some r):At Tryz.prog 29 [.agg (eA a0)] (.tup [iV .i64 r.1,iV .i64 r.2.1,iV .i64 r.2.2]):=by
 refine zab (by kernel_rfl) fun hb=>?_
 have hb1:LenOk (.sl a0.Vars.length (encL a0.Vars)):=lkc hb
 have hb2:LenOk (.sl a0.Mutexes.length (encL a0.Mutexes)):=lkc hb
 have hb3:LenOk (.sl a0.Conds.length (encL a0.Conds)):=lkc hb
 have hb4:LenOk (.sl a0.Funcs.length (encL a0.Funcs)):=lkc hb
 have hb5:LenOk (.sl a0.Threads.length (encL a0.Threads)):=lkc hb
 refine zac mixed Tryz.func29 (by kernel_rfl) rfl (by kernel_rfl) rfl fun Q hQ=>?_
 rw[zef]at hs
 refine goR f0 ?_
 revert hs;refine bK fun y1 hx2 hs=>?_
 refine cP f0 (zmR hx2) ?_
 refine goR2 f0 ?_
 revert hs;refine bK fun o11 e10 hs=>?_
 refine zaj (fun(v:Int × Int × Int) (σ:St)=>some (v)=some o11 /\ σ.env 1=.cell (.ref (.o 1 0 0) 0) /\ σ.env 5=iV .i64 v.1 /\ σ.env 6=.cell (.ref (.o 2 5 0) 0) /\ σ.hp (.o 1 0 0)=some (.cells (eA a0)) /\ σ.hp (.o 2 5 0)=some (.cells [nC v.2.1,nC v.2.2]) /\ 3<=σ.gen) (by rfl) (fun Q hK12 hX13=>?_) (fun v σ1 hp=>?_)
 ·refine goR f0 ?_
  revert e10;refine cS f0 ?_ ?_<;>intro h14 e10
  ·refine goR f0 ?_
   revert e10;refine bK fun y15 hx16 e10=>?_
   refine cP f0 (zkw hx16) ?_
   refine goR f0 ?_
   exact hK12 (y15.1,y15.2.fn,y15.2.inst) _ _ (Gh.refl _) ⟨e10,pv f0,pv f0,pv f0,pv f0,pv f0,pg⟩
  ·refine goR f0 ?_
   exact hK12 (y1.1,y1.2.fn,y1.2.inst) _ _ (Gh.refl _) ⟨e10,pv f0,pv f0,pv f0,pv f0,pv f0,pg⟩
 ·obtain⟨i6,i7,i9⟩:=v
  dsimp only at hp
  obtain⟨e10,h2_1,h2_5,h2_6,g2_0,g2_1,n2_g⟩:=hp
  obtain rfl:=sj e10
  try dsimp only at hs
  have n2_0:¬ (σ1.gen=0):=by omega
  have n2_1:¬ (σ1.gen=1):=by omega
  have F1:=an h2_1 (an h2_5 (an h2_6 (an g2_0 (an g2_1 (an n2_0 n2_1)))))
  refine goR2 F1 ?_
  revert hs;refine bK fun o24 e23 hs=>?_
  refine zaj (fun(v:Int × Int × Int) (σ:St)=>some (v)=some o24 /\ σ.env 1=.cell (.ref (.o 1 0 0) 0) /\ σ.env 5=iV .i64 v.1 /\ σ.env 6=.cell (.ref (.o 2 5 0) 0) /\ σ.hp (.o 1 0 0)=some (.cells (eA a0)) /\ σ.hp (.o 2 5 0)=some (.cells [nC v.2.1,nC v.2.2]) /\ (σ1.gen+1)<=σ.gen) (by rfl) (fun Q hK25 hX26=>?_) (fun v σ3 hp=>?_)
  ·refine goR F1 ?_
   revert e23;refine cS F1 ?_ ?_<;>intro h27 e23
   ·refine goR F1 ?_
    revert e23;refine bK fun y28 hx29 e23=>?_
    refine cP F1 (zot hx29) ?_
    refine goR F1 ?_
    exact hK25 (y28.1,y28.2.fn,y28.2.inst) _ _ (Gh.refl _) ⟨e23,pv F1,pv F1,pv F1,pv F1,pv F1,pg⟩
   ·refine goR F1 ?_
    exact hK25 (i6,i7,i9) _ _ (Gh.refl _) ⟨e23,pv F1,pv F1,pv F1,pv F1,pv F1,pg⟩
  ·obtain⟨i20,i21,i22⟩:=v
   dsimp only at hp
   obtain⟨e23,h4_1,h4_5,h4_6,g4_0,g4_1,n4_g⟩:=hp
   obtain rfl:=sj e23
   try dsimp only at hs
   have n4_0:¬ (σ3.gen=0):=by omega
   have n4_1:¬ (σ3.gen=1):=by omega
   have F2:=an h4_1 (an h4_5 (an h4_6 (an g4_0 (an g4_1 (an n4_0 n4_1)))))
   refine goR F2 ?_
   revert hs;refine cS F2 ?_ ?_<;>intro h30 hs
   ·refine goR F2 ?_
    revert hs;refine bK fun y31 hx32 hs=>?_
    refine cP F2 (zkv hx32) ?_
    refine goR F2 ?_
    revert hs;refine cS F2 ?_ ?_<;>intro h33 hs
    ·refine goD F2 ?_
     obtain rfl:=sj hs
     exact hQ _ _ (rg F2 (Gh.refl _))
    ·refine goR F2 ?_
     obtain rfl:=sj hs
     exact hQ _ _ (rg F2 (Gh.refl _))
   ·refine goR F2 ?_
    revert hs;refine cS F2 ?_ ?_<;>intro h34 hs
    ·refine goD F2 ?_
     obtain rfl:=sj hs
     exact hQ _ _ (rg F2 (Gh.refl _))
    ·refine goR F2 ?_
     obtain rfl:=sj hs
     exact hQ _ _ (rg F2 (Gh.refl _))
end Go.Dc
end
section
namespace Go.Dc.Pa
open Go Go.Hw Go.Dc Go.Dc.Pl
theorem za0{α:Type}(c:Bool)(a b:α):cond c (some a) (some b)=some (cond c a b):=by cases c<;>rfl
theorem zfo{s:ByteArray}{k:Nat}(h:k < s.size):s[k]?=some (bget s k):=by simp[bget,h]
def badP (c:UInt8):Bool:=andB (andB (!(orB (andB (!(ltI (c.toNat:Int) 97)) (!(ltI 122 (c.toNat:Int)))) (andB (!(ltI (c.toNat:Int) 65)) (!(ltI 90 (c.toNat:Int)))))) (!(eqI (c.toNat:Int) 95))) (orB (ltI (c.toNat:Int) 48) (ltI 57 (c.toNat:Int)))
theorem zrj(s:ByteArray):∃ b,zcD s=some b:=by
 rw[zcD]
 simp only[zdv,Option.isSome_some,Option.getD_some]
 by_cases e:1<=s.size /\ s.size<=16
 ·have h:=zqK (L:=zba s) (fun k=>zaw (badP (bget s k)) false) (fun _=>rfl) s.size 0 fun q j hj=>by
   rw[Nat.zero_add,zba,zfo hj,Option.bind_some,zdv,Option.bind_some]
   exact zaO _ _ _
  rw[show(orB (ltI ((s.size:Nat):Int) 1) (ltI 16 ((s.size:Nat):Int)))=false by simp[zbY,za2];omega,h]
  rw[show inB ((0:Nat):Int) s.size=true by simp[zev];omega,show lenB s.size=true by rw[zdt];simp;omega]
  generalize first (fun k (_:Unit)=>zaw (badP (bget s k)) false) (List.replicate s.size ()) 0=o
  simp only[Bool.not_false,Bool.not_true,show orB false true=true from rfl,zad,Option.bind_some]
  cases orB false (!orB (andB (!ltI (↑(bget s 0).toNat) 97) (!ltI 122 ↑(bget s 0).toNat)) (andB (!ltI (↑(bget s 0).toNat) 65) (!ltI 90 ↑(bget s 0).toNat)))
  ·cases o with
   |none=>exact⟨_,rfl⟩
   |some b=>exact⟨_,rfl⟩
  ·exact⟨_,rfl⟩
 ·rw[show(orB (ltI ((s.size:Nat):Int) 1) (ltI 16 ((s.size:Nat):Int)))=true by simp[zbY,za2];omega]
  exact⟨_,rfl⟩
theorem zlw(l:List ByteArray)(s:ByteArray):∃ b,sCs l s=some b:=by
 have h:=srch (L:=zge s) (fun k x=>zaw (eqS s x) (k:Int)) (fun _=>rfl) l 0 fun j x hx q=>by rw[zge];exact zaO _ _ _
 rw[sCs,sIs,h]
 cases first (fun k x=>zaw (eqS s x) (k:Int)) l 0<;>exact⟨_,rfl⟩
theorem zjL(a:List ByteArray):∀(l:List ByteArray) (k:Nat),k+l.length<=a.length->∃ r,zco a l k=some r
 |[],k,_=>⟨_,rfl⟩
 |x::q,k,h=>by
  simp only[List.length_cons]at h
  obtain⟨b,hb⟩:=zrj x
  obtain⟨c,hc⟩:=zlw (subL a 0 (k:Int)) x
  obtain⟨r,hr⟩:=zjL a q (k+1) (by omega)
  rw[zco,hb,Option.bind_some,za3 _ (by rw[zhN,decide_eq_true_eq];omega),Option.bind_some,hc,Option.bind_some,hr]
  cases b
  ·exact⟨_,rfl⟩
  ·cases c<;>exact⟨_,rfl⟩
theorem zld(l:List ByteArray):∃ r,zfi l=some r:=by
 obtain⟨r,hr⟩:=zjL l l 0 (by omega)
 rw[zfi,hr]
 cases r<;>exact⟨_,rfl⟩
theorem zfk{p:Program}(h:p.Vars.length<=1048576):zc0 p=some (p.Vars.map Var.Name):=by
 rw[zc0,appM (L:=zbm) (b:=16) (m:=1048576) Var.Name (by decide) (fun _ _=>rfl) (fun x q a k=>by rw[zbm];rfl) p.Vars [] 0 (by simp only[List.length_nil];omega)];rfl
theorem zeJ{p:Program}(h:p.Funcs.length<=1048576):zcC p=some (p.Funcs.map Func.Name):=by
 rw[zcC,appM (L:=za9) (b:=16) (m:=1048576) Func.Name (by decide) (fun _ _=>rfl) (fun x q a k=>by rw[za9];rfl) p.Funcs [] 0 (by simp only[List.length_nil];omega)];rfl
theorem zfm:∀(l:List (List ByteArray)) (k:Nat),∃ r,zb9 l k=some r
 |[],k=>⟨_,rfl⟩
 |x::q,k=>by
  obtain⟨b,hb⟩:=zld x
  obtain⟨r,hr⟩:=zfm q (k+1)
  rw[zb9,hb,Option.bind_some,hr,za0];exact⟨_,rfl⟩
theorem zjo{p:Program}(hp:Small p):∃ r,zeH p=some r:=by
 rw[zeH,zfk hp.vars,Option.bind_some,Option.bind_some,show lenB [p.Vars.map Var.Name,p.Mutexes,p.Conds].length=true from rfl,zad]
 obtain⟨r,hr⟩:=zfm [p.Vars.map Var.Name,p.Mutexes,p.Conds] 0
 obtain⟨s,hs⟩:=zld (p.Funcs.map Func.Name)
 rw[hr,zeJ hp.funs]
 simp only[Option.bind_some,hs]
 cases r<;>exact⟨_,rfl⟩
theorem zeA:∀(l:List Var) (k:Nat),∃ r,zbo l k=some r
 |[],k=>⟨_,rfl⟩
 |x::q,k=>by
  obtain⟨r,hr⟩:=zeA q (k+1)
  rw[zbo,zfh,Option.bind_some,hr,za0];exact⟨_,rfl⟩
theorem zhV(p:Program):∃ r,zc2 p=some r:=by
 obtain⟨r,hr⟩:=zeA p.Vars 0
 rw[zc2,hr]
 cases r<;>simp only[Option.bind_some,za0]<;>exact⟨_,rfl⟩
theorem zez(p:Program):∀(l:List Start) (k:Nat),∃ r,zbn p l k=some r
 |[],k=>⟨_,rfl⟩
 |x::q,k=>by
  obtain⟨r,hr⟩:=zez p q (k+1)
  rw[zbn,zfh,Option.bind_some,hr,za0,za0];exact⟨_,rfl⟩
theorem zhU(p:Program):∃ r,zc1 p=some r:=by
 obtain⟨r,hr⟩:=zez p p.Threads 0
 rw[zc1,hr]
 cases r<;>simp only[Option.bind_some,za0]<;>exact⟨_,rfl⟩
theorem zep(b:Bool):orB b true=true:=by cases b<;>rfl
theorem zmC(r:InstRow)(y:Arr 7 Int)(fuel:Nat):∃ o,zex r y (fuel+8) 0=some o:=by
 have h:=zhM (L:=zex r y) (List.range 7) (fun k _=>zaw (andB (!(r.uses.f k)) (!(eqI (y.f k) 0))) 9) (fun q=>by rw[zex];rfl) (fun q k x hx=>by
  have hk:=zau hx
  rw[List.length_range]at hk
  rw[zex,za2,show decide ((k:Int) < 7)=true by simp;omega,cond_true,show inB (k:Int) 7=true by simp[zev];omega,zad,zad,Int.toNat_natCast,wrapN (by omega) (by omega)]
  exact zaO _ _ _) (fuel+8) 0 (by simp) (by simp)
 exact⟨_,h⟩
theorem zmB(a:Inst)(r:InstRow)(fuel:Nat):∃ o,zew a r (fuel+8) 0=some o:=by
 have h:=zhM (L:=zew a r) (List.range 3) (fun k _=>zaw (andB (r.uses.f k) (orB (ltI ((Arr.of 3 [a.A,a.B,a.C]:Arr 3 Int).f k) 0) (!(ltI ((Arr.of 3 [a.A,a.B,a.C]:Arr 3 Int).f k) 8)))) 10) (fun q=>by rw[zew];rfl) (fun q k x hx=>by
  have hk:=zau hx
  rw[List.length_range]at hk
  rw[zew,za2,show decide ((k:Int) < 3)=true by simp;omega,cond_true,show inB (k:Int) 3=true by simp[zev];omega,show inB (k:Int) 7=true by simp[zev];omega,zad,zad,Int.toNat_natCast,wrapN (by omega) (by omega)]
  exact zaO _ _ _) (fuel+8) 0 (by simp) (by simp)
 exact⟨_,h⟩
theorem zoy(n:Int):∃ s,zcj n=some s:=by
 rw[zcj]
 cases h:orB (ltI n 1) (ltI 10 n)
 ·have h2:1<=n /\ n<=10:=by simp[zbY,za2]at h;omega
  rw[wrapN (by omega) (by omega),getI,if_pos (by omega),zdp (show(n - 1).toNat < zbb.length from by simp only[zbb,List.length_cons,List.length_nil];omega)];exact⟨_,rfl⟩
 ·exact⟨_,rfl⟩
theorem zrx(fuel:Nat)(x:Inst):∃ r,iCk (fuel+8) x=some r:=by
 rw[iCk,zdF,Option.bind_some]
 cases h:andB (!(ltI x.Op 1)) (!(ltI 22 x.Op))
 ·exact⟨_,rfl⟩
 ·have h2:1<=x.Op /\ x.Op<=22:=by simp[zaV,za2]at h;omega
  have hr:=zdp (l:=zbs) (k:=(x.Op - 1).toNat) (by simp only[zbs,List.length_cons,List.length_nil];omega)
  obtain⟨a,ha⟩:=zmC (gd zbs (x.Op - 1).toNat) (Arr.of 7 [x.A,x.B,x.C,x.Obj,x.N,x.Fn,x.Order]) fuel
  obtain⟨b,hb⟩:=zmB x (gd zbs (x.Op - 1).toNat) fuel
  obtain⟨c,hc⟩:=zoy x.Fn
  rw[wrapN (by omega) (by omega),getI,if_pos (by omega),hr,Bool.not_true,cond_false,Option.bind_some,zdT,Option.bind_some,ha,hb,hc]
  cases a with
  |inr a=>exact⟨_,rfl⟩
  |inl a=>
   cases b with
   |inr b=>exact⟨_,rfl⟩
   |inl b=>
    simp only[Option.bind_some,Option.isSome_some,zep,zad,za0];exact⟨_,rfl⟩
theorem zmn(p:Program)(op:Int):∃ y,zdO p op=some y:=by
 simp only[zdO,za0,Option.bind_some]
 split<;>exact⟨_,rfl⟩
theorem zkl(fuel:Nat)(p:Program)(x:Inst)(n:Int):∃ y,zfU (fuel+8) p x n=some y:=by
 obtain⟨r,hr⟩:=zrx fuel x
 obtain⟨y,hy⟩:=zmn p x.Op
 rw[zfU,hr,Option.bind_some,hy,Option.bind_some]
 simp only[za0];exact⟨_,rfl⟩
theorem zly{fuel:Nat}{p:Program}{y:Int}{k:Nat}{f:Func}(hf:p.Funcs[k]?=some f){rest:List (PPl × Inst)}(h:∃ r,zbg (fuel+8) p y rest=some r):∀(q:List Inst) (j:Nat),∃ r,zbg (fuel+8) p y (insC k j q++rest)=some r
 |[],j=>h
 |x::q,j=>by
  obtain⟨r,hr⟩:=zly hf h q (j+1)
  obtain⟨c,hc⟩:=zkl fuel p x ((f.Code.length:Nat):Int)
  rw[insC,List.cons_append,zbg,zbp,hf,Option.bind_some,hc,Option.bind_some,hr,za0,za0];exact⟨_,rfl⟩
theorem zlx{fuel:Nat}{p:Program}{y:Int}:∀(l:List Func) (k:Nat),l=p.Funcs.drop k->∃ r,zbg (fuel+8) p y (insF k l)=some r
 |[],k,_=>⟨_,rfl⟩
 |f::l,k,hd=>by
  obtain⟨hf,hk,hr⟩:=zay hd
  exact zly hf (zlx l (k+1) hr) f.Code 0
theorem zkm(fuel:Nat){p:Program}(hp:Small p):∃ r,zfV (fuel+8) p=some r:=by
 have hg:(lenB p.Funcs.length && p.Funcs.all fun f=>lenB f.Code.length)=true:=by
  have:=hp.funs
  simp only[Bool.and_eq_true,List.all_eq_true,zdt,decide_eq_true_eq];exact⟨by omega,fun f hf=>by have:=hp.codes f hf;omega⟩
 have h:=srch (L:=zeE) (fun k f=>zaw (ltI 64 ((f.Code.length:Nat):Int)) (k:Int)) (fun _=>rfl) p.Funcs 0 fun j x hx q=>by rw[zeE];exact zaO _ _ _
 have h2:∃ y,sIFp p.Funcs=some y:=by
  rw[sIFp,h]
  cases first (fun k f=>zaw (ltI 64 ((f.Code.length:Nat):Int)) (k:Int)) p.Funcs 0<;>exact⟨_,rfl⟩
 obtain⟨y,hy⟩:=h2
 obtain⟨r,hr⟩:=zlx (fuel:=fuel) (p:=p) (y:=y) p.Funcs 0 rfl
 rw[zfV,hy,Option.bind_some,zcs,Option.bind_some,zcT,hg,zad,Option.bind_some,hr,Option.bind_some]
 rcases r with r|r|r
 ·dsimp only;rw[za0];exact⟨_,rfl⟩
 ·dsimp only;rw[za0];exact⟨_,rfl⟩
 ·exact⟨_,rfl⟩
theorem zp7{p:Program}(hp:Small p):∃ r,zef 67108864 p=some r:=by
 obtain⟨a,ha⟩:=zjo hp
 obtain⟨b,hb⟩:=zhV p
 obtain⟨c,hc⟩:=zkm 67108856 hp
 obtain⟨d,hd⟩:=zhU p
 rw[zef,ha,Option.bind_some,hb,hc,hd]
 simp only[Option.bind_some,za0]
 exact⟨_,rfl⟩
def chk (p:Program):Int × Int × Int:=(zef 67108864 p).getD (0,0,0)
theorem own_check{p:Program}(hp:Small p):zef 67108864 p=some (chk p):=by
 obtain⟨r,hr⟩:=zp7 hp
 rw[chk,hr];rfl
end Go.Dc.Pa
end
section
namespace Go.Dc
open Go Go.Hw Go.Proofs
def zfz(a0:UInt8):Option Bool:=
 some (!(eqI (a0.toNat:Int) 10))
theorem zkz{a0:UInt8}{r:Bool}(hs:zfz a0=some r):At Tryz.prog 33 [iV .u8 (a0.toNat:Int)] (bV r):=by
 refine zab (by kernel_rfl) fun hb=>?_
 refine zac mixed Tryz.func33 (by kernel_rfl) rfl (by kernel_rfl) rfl fun Q hQ=>?_
 rw[zfz]at hs
 refine goR f0 ?_
 obtain rfl:=sj hs
 exact hQ _ _ (rg f0 (Gh.refl _))
def zbS(a0:ByteArray):Nat->Int->Option Int
 |0,_=>none
 |q44+1,i30=>zai (orB (!(ltI i30 ((a0.size:Nat):Int))) (inB i30 a0.size)) (cond (ltI i30 ((a0.size:Nat):Int)) (Option.bind (zfz (bget a0 ((i30).toNat))) (fun y50=>cond y50 (zbS a0 q44 (IntKind.i64.wrap (i30+1))) (some (i30)))) (some (i30)))
def zes(fuelN:Nat)(a0:ByteArray)(a1:Int):Option Int:=
 Option.bind (α:=Int) (Option.bind (zbS a0 fuelN a1) (fun i37=>some (i37))) (fun i25=>some i25)
theorem zlS{fuelN:Nat}{a0:ByteArray}{a1:Int}{r:Int}(hs:zes fuelN a0 a1=some r):At Tryz.prog 34 [sV a0,iV .i64 a1,.cell (.p (.c (.func (.func 33) #[] #[])))] (iV .i64 r):=by
 refine zab (by kernel_rfl) fun hb=>?_
 refine zac mixed Tryz.func34 (by kernel_rfl) rfl (by kernel_rfl) rfl fun Q hQ=>?_
 rw[zes]at hs
 refine goR2 f0 ?_
 revert hs;refine bK fun o27 e26 hs=>?_
 refine zaj (fun(v:Int) (σ:St)=>some (v)=some o27 /\ σ.env 1=iV .i64 v /\ 1<=σ.gen) (by rfl) (fun Q hK28 hX29=>?_) (fun i25 σ3 hp=>?_)
 ·refine goR f0 ?_
  revert e26;refine bK fun o39 e38 e26=>?_
  refine zaf (fun(v:Nat × Int) (σ:St)=>zbS a0 v.1 v.2=some o39 /\ σ.env 0=sV a0 /\ σ.env 1=iV .i64 v.2 /\ σ.env 2=.cell (.p (.c (.func (.func 33) #[] #[]))) /\ 1<=σ.gen) (fun v=>v.1) _ (Gh.refl _) (fuelN,a1) ⟨e38,pv f0,pv f0,pv f0,pg⟩ fun v σ6 hp L40 hL41=>?_
  obtain⟨q43,i30⟩:=v
  dsimp only at hp hL41
  obtain⟨e38,h5_0,h5_1,h5_2,n5_g⟩:=hp
  rcases q43 with _|q44
  ·rw[zbS]at e38;cases e38
  ·rw[zbS]at e38;try dsimp only at e38
   obtain⟨g48,e38⟩:=zaa e38
   have g48a:(ltI i30 ((a0.size:Nat):Int))=true->0<=i30:=fun hg=>(zat g48 hg).1
   have g48c:(ltI i30 ((a0.size:Nat):Int))=true->a0[(i30).toNat]?=some (bget a0 ((i30).toNat)):=fun hg=>by simpa using (zat g48 hg).2.2
   have F1:=an h5_0 (an h5_1 (an h5_2 (an g48a g48c)))
   refine goG F1 F1 ?_
   refine zdG (fun h49=>?_) (fun h49=>?_)
   ·replace e38:=zoj h49 e38
    have F2:=an F1 h49
    refine goG F2 F2 ?_
    revert e38;refine bK fun y50 hx51 e38=>?_
    refine cP F2 (zkz hx51) ?_
    refine goG F2 F2 ?_
    revert e38;refine cS F2 ?_ ?_<;>intro h52 e38
    ·refine goG F2 F2 ?_
     exact hL41 (q44,IntKind.i64.wrap (i30+1)) _ _ (Gh.refl _) ⟨e38,pv F2,pv F2,pv F2,pg⟩ (by omega)
    ·refine goG F2 F2 ?_
     obtain rfl:=sj e38
     try dsimp only at e26
     exact hK28 i30 _ _ (Gh.refl _) ⟨e26,pv F2,pg⟩
   ·replace e38:=zol h49 e38
    have F3:=an F1 h49
    refine goG F3 F3 ?_
    obtain rfl:=sj e38
    try dsimp only at e26
    exact hK28 i30 _ _ (Gh.refl _) ⟨e26,pv F3,pg⟩
 ·obtain⟨e26,h4_1,n4_g⟩:=hp
  obtain rfl:=sj e26
  try dsimp only at hs
  refine goR h4_1 ?_
  obtain rfl:=sj hs
  exact hQ _ _ (rg h4_1 (Gh.refl _))
def zdE(a0:UInt8):Option Bool:=
 some (orB (andB (!(ltI (a0.toNat:Int) 97)) (!(ltI 122 (a0.toNat:Int)))) (andB (!(ltI (a0.toNat:Int) 65)) (!(ltI 90 (a0.toNat:Int)))))
theorem zgQ{a0:UInt8}{r:Bool}(hs:zdE a0=some r):At Tryz.prog 61 [iV .u8 (a0.toNat:Int)] (bV r):=by
 refine zab (by kernel_rfl) fun hb=>?_
 refine zac mixed Tryz.func61 (by kernel_rfl) rfl (by kernel_rfl) rfl fun Q hQ=>?_
 rw[zdE]at hs
 refine goG f0 f0 ?_
 obtain rfl:=sj hs
 exact hQ _ _ (rg f0 (Gh.refl _))
def zdm(a0:UInt8):Option Bool:=
 some (andB (!(ltI (a0.toNat:Int) 48)) (!(ltI 57 (a0.toNat:Int))))
theorem zhL{a0:UInt8}{r:Bool}(hs:zdm a0=some r):At Tryz.prog 63 [iV .u8 (a0.toNat:Int)] (bV r):=by
 refine zab (by kernel_rfl) fun hb=>?_
 refine zac mixed Tryz.func63 (by kernel_rfl) rfl (by kernel_rfl) rfl fun Q hQ=>?_
 rw[zdm]at hs
 refine goG f0 f0 ?_
 obtain rfl:=sj hs
 exact hQ _ _ (rg f0 (Gh.refl _))
def zeu(a0:UInt8):Option Bool:=
 Option.bind (zdE a0) (fun y1=>zai (orB (!(!y1)) ((zdm a0).isSome)) (some (orB (orB y1 ((zdm a0).getD default)) (eqI (a0.toNat:Int) 95))))
theorem zky{a0:UInt8}{r:Bool}(hs:zeu a0=some r):At Tryz.prog 62 [iV .u8 (a0.toNat:Int)] (bV r):=by
 refine zab (by kernel_rfl) fun hb=>?_
 refine zac mixed Tryz.func62 (by kernel_rfl) rfl (by kernel_rfl) rfl fun Q hQ=>?_
 rw[zeu]at hs
 refine goR f0 ?_
 revert hs;refine bK fun y1 hx2 hs=>?_
 refine cP f0 (zgQ hx2) ?_
 refine goG f0 f0 ?_
 obtain⟨g3,hs⟩:=zaa hs
 refine zaZ (fun hg=>zhL (zaQ g3 hg)) (fun hg=>by(try simp at hg);(first|simp[hg,id]);try rfl) (fun hg=>by(try simp at hg);simp[hg,id]) (by simp) ?_
 refine goG f0 f0 ?_
 obtain rfl:=sj hs
 exact hQ _ _ (rg f0 (Gh.refl _))
def zbR(a0:ByteArray):Nat->Int->Option Int
 |0,_=>none
 |q44+1,i30=>zai (orB (!(ltI i30 ((a0.size:Nat):Int))) (inB i30 a0.size)) (cond (ltI i30 ((a0.size:Nat):Int)) (Option.bind (zeu (bget a0 ((i30).toNat))) (fun y50=>cond y50 (zbR a0 q44 (IntKind.i64.wrap (i30+1))) (some (i30)))) (some (i30)))
def zer(fuelN:Nat)(a0:ByteArray)(a1:Int):Option Int:=
 Option.bind (α:=Int) (Option.bind (zbR a0 fuelN a1) (fun i37=>some (i37))) (fun i25=>some i25)
theorem zhK{fuelN:Nat}{a0:ByteArray}{a1:Int}{r:Int}(hs:zer fuelN a0 a1=some r):At Tryz.prog 34 [sV a0,iV .i64 a1,.cell (.p (.c (.func (.func 62) #[] #[])))] (iV .i64 r):=by
 refine zab (by kernel_rfl) fun hb=>?_
 refine zac mixed Tryz.func34 (by kernel_rfl) rfl (by kernel_rfl) rfl fun Q hQ=>?_
 rw[zer]at hs
 refine goR2 f0 ?_
 revert hs;refine bK fun o27 e26 hs=>?_
 refine zaj (fun(v:Int) (σ:St)=>some (v)=some o27 /\ σ.env 1=iV .i64 v /\ 1<=σ.gen) (by rfl) (fun Q hK28 hX29=>?_) (fun i25 σ3 hp=>?_)
 ·refine goR f0 ?_
  revert e26;refine bK fun o39 e38 e26=>?_
  refine zaf (fun(v:Nat × Int) (σ:St)=>zbR a0 v.1 v.2=some o39 /\ σ.env 0=sV a0 /\ σ.env 1=iV .i64 v.2 /\ σ.env 2=.cell (.p (.c (.func (.func 62) #[] #[]))) /\ 1<=σ.gen) (fun v=>v.1) _ (Gh.refl _) (fuelN,a1) ⟨e38,pv f0,pv f0,pv f0,pg⟩ fun v σ6 hp L40 hL41=>?_
  obtain⟨q43,i30⟩:=v
  dsimp only at hp hL41
  obtain⟨e38,h5_0,h5_1,h5_2,n5_g⟩:=hp
  rcases q43 with _|q44
  ·rw[zbR]at e38;cases e38
  ·rw[zbR]at e38;try dsimp only at e38
   obtain⟨g48,e38⟩:=zaa e38
   have g48a:(ltI i30 ((a0.size:Nat):Int))=true->0<=i30:=fun hg=>(zat g48 hg).1
   have g48c:(ltI i30 ((a0.size:Nat):Int))=true->a0[(i30).toNat]?=some (bget a0 ((i30).toNat)):=fun hg=>by simpa using (zat g48 hg).2.2
   have F1:=an h5_0 (an h5_1 (an h5_2 (an g48a g48c)))
   refine goG F1 F1 ?_
   refine zdG (fun h49=>?_) (fun h49=>?_)
   ·replace e38:=zoj h49 e38
    have F2:=an F1 h49
    refine goG F2 F2 ?_
    revert e38;refine bK fun y50 hx51 e38=>?_
    refine cP F2 (zky hx51) ?_
    refine goG F2 F2 ?_
    revert e38;refine cS F2 ?_ ?_<;>intro h52 e38
    ·refine goG F2 F2 ?_
     exact hL41 (q44,IntKind.i64.wrap (i30+1)) _ _ (Gh.refl _) ⟨e38,pv F2,pv F2,pv F2,pg⟩ (by omega)
    ·refine goG F2 F2 ?_
     obtain rfl:=sj e38
     try dsimp only at e26
     exact hK28 i30 _ _ (Gh.refl _) ⟨e26,pv F2,pg⟩
   ·replace e38:=zol h49 e38
    have F3:=an F1 h49
    refine goG F3 F3 ?_
    obtain rfl:=sj e38
    try dsimp only at e26
    exact hK28 i30 _ _ (Gh.refl _) ⟨e26,pv F3,pg⟩
 ·obtain⟨e26,h4_1,n4_g⟩:=hp
  obtain rfl:=sj e26
  try dsimp only at hs
  refine goR h4_1 ?_
  obtain rfl:=sj hs
  exact hQ _ _ (rg h4_1 (Gh.refl _))
def zav(s5:ByteArray):Nat->Nat->Option (Unit ⊕ Bool)
 |0,k52=>some (.inl ())
 |q64+1,k52=>Option.bind (s5[k52]?) (fun c69=>cond (orB (ltI (c69.toNat:Int) 48) (ltI 57 (c69.toNat:Int))) (some (.inr false)) (zav s5 q64 (k52+1)))
def zaI(a0:ByteArray):Option Bool:=
 zai (orB (!(!(eqS a0 (⟨#[]⟩:ByteArray)))) (inB ((0:Nat):Int) a0.size)) (Option.bind (α:=ByteArray ⊕ Bool) (cond (andB (!(eqS a0 (⟨#[]⟩:ByteArray))) (eqI (((bget a0 0)).toNat:Int) 45)) (zai (slB 1 (a0.size:Int) a0.size) (cond (eqS (a0.extract 1 a0.size) (⟨#[48]⟩:ByteArray)) (some (.inr false)) (some (.inl (a0.extract 1 a0.size))))) (some (.inl a0))) (fun o=>match o with|.inl s5=>zai (orB (!(andB (!(eqS s5 (⟨#[]⟩:ByteArray))) (ltI 1 ((s5.size:Nat):Int)))) (inB ((0:Nat):Int) s5.size)) (cond (orB (eqS s5 (⟨#[]⟩:ByteArray)) (andB (ltI 1 ((s5.size:Nat):Int)) (eqI (((bget s5 0)).toNat:Int) 48))) (some false) (Option.bind (α:=Unit ⊕ Bool) (zai (lenB s5.size) (Option.bind (zav s5 s5.size 0) (fun o=>match o with|.inl _=>some (.inl ())|.inr r72=>some (.inr r72)))) (fun o=>match o with|.inl _=>some true|.inr r73=>some r73)))|.inr r74=>some r74))
theorem zhj{a0:ByteArray}{r:Bool}(hs:zaI a0=some r):At Tryz.prog 93 [sV a0] (bV r):=by
 refine zab (by kernel_rfl) fun hb=>?_
 refine zac mixed Tryz.func93 (by kernel_rfl) rfl (by kernel_rfl) rfl fun Q hQ=>?_
 rw[zaI]at hs
 obtain⟨g1,hs⟩:=zaa hs
 have g1a:(!(eqS a0 (⟨#[]⟩:ByteArray)))=true->0<=((0:Nat):Int):=fun hg=>(zat g1 hg).1
 have g1c:(!(eqS a0 (⟨#[]⟩:ByteArray)))=true->a0[0]?=some (bget a0 0):=fun hg=>by simpa using (zat g1 hg).2.2
 have F1:=an g1a g1c
 refine goG2 F1 F1 ?_
 revert hs;refine bK fun o7 e6 hs=>?_
 refine zaj (fun(v:ByteArray) (σ:St)=>some (.inl v)=some o7 /\ σ.env 0=sV v /\ 2<=σ.gen) (by rfl) (fun Q hK8 hX9=>?_) (fun s5 σ1 hp=>?_)
 ·refine goG F1 F1 ?_
  revert e6;refine cS F1 ?_ ?_<;>intro h10 e6
  ·obtain⟨g11,e6⟩:=zaa e6
   obtain⟨g11a,g11b,g11c⟩:=ze0 g11
   have F2:=an F1 (an g11a (an g11b g11c))
   refine goG F2 F2 ?_
   revert e6;refine cS F2 ?_ ?_<;>intro h12 e6
   ·refine goG F2 F2 ?_
    obtain rfl:=sj e6
    try dsimp only at hs
    refine hX9 _ _ (by simp) ?_
    refine goG F2 F2 ?_
    obtain rfl:=sj hs
    exact hQ _ _ (rg F2 (Gh.refl _))
   ·refine goG F2 F2 ?_
    exact hK8 (a0.extract 1 a0.size) _ _ (Gh.refl _) ⟨e6,pv F2,pg⟩
  ·refine goG F1 F1 ?_
   exact hK8 a0 _ _ (Gh.refl _) ⟨e6,pv F1,pg⟩
 ·obtain⟨e6,h2_0,n2_g⟩:=hp
  obtain rfl:=sj e6
  try dsimp only at hs
  obtain⟨g13,hs⟩:=zaa hs
  have g13a:(andB (!(eqS s5 (⟨#[]⟩:ByteArray))) (ltI 1 ((s5.size:Nat):Int)))=true->0<=((0:Nat):Int):=fun hg=>(zat g13 hg).1
  have g13c:(andB (!(eqS s5 (⟨#[]⟩:ByteArray))) (ltI 1 ((s5.size:Nat):Int)))=true->s5[0]?=some (bget s5 0):=fun hg=>by simpa using (zat g13 hg).2.2
  have F3:=an h2_0 (an g1a (an g1c (an g13a g13c)))
  refine goG F3 F3 ?_
  revert hs;refine cS F3 ?_ ?_<;>intro h14 hs
  ·refine goG F3 F3 ?_
   obtain rfl:=sj hs
   exact hQ _ _ (rg F3 (Gh.refl _))
  ·refine goG2 F3 F3 ?_
   revert hs;refine bK fun o43 e42 hs=>?_
   refine zaj (fun(v:Unit) (σ:St)=>some (.inl v)=some o43 /\ (σ1.gen+2)<=σ.gen) (by rfl) (fun Q hK44 hX45=>?_) (fun v σ5 hp=>?_)
   ·refine goG F3 F3 ?_
    obtain⟨hb68,e42⟩:=zaa e42
    revert e42;refine bK fun o59 e58 e42=>?_
    refine zaf (fun(v:Nat × Nat) (σ:St)=>zav s5 v.1 v.2=some o59 /\ v.1+v.2=s5.size /\ σ.env 0=sV s5 /\ σ.env 28=iV .i64 ((s5.size:Nat):Int) /\ σ.env 29=iV .i64 ((v.2:Nat):Int) /\ (σ1.gen+2)<=σ.gen) (fun v=>v.1) _ (Gh.refl _) (s5.size,0) ⟨e58,by first|omega|simp |(simp;omega),pv F3,pv F3,pv F3,pg⟩ fun v σ8 hp L60 hL61=>?_
    obtain⟨q63,k52⟩:=v
    dsimp only at hp hL61
    obtain⟨e58,hd62,h7_0,h7_28,h7_29,n7_g⟩:=hp
    rcases q63 with _|q64
    ·have hlt65:¬ k52 < s5.size:=by omega
     rw[zav]at e58;try dsimp only at e58
     have F4:=an h7_0 (an h7_28 (an h7_29 (an g1a (an g1c (an g13a g13c)))))
     refine goR F4 ?_
     refine zaF (by simp[ltI];omega) ?_
     obtain rfl:=sj e58
     try dsimp only at e42
     exact hK44 () _ _ (Gh.refl _) ⟨e42,pg⟩
    ·have hlt65:k52 < s5.size:=by omega
     have ew66:=za1 hlt65 hb68
     rw[zav]at e58;try dsimp only at e58
     have F5:=an h7_0 (an h7_28 (an h7_29 (an g1a (an g1c (an g13a (an g13c (an hlt65 ew66)))))))
     refine goR F5 ?_
     refine zaB (by simp[ltI];omega) ?_
     revert e58;refine bK fun c69 hx70 e58=>?_
     have hx70b:=zbf hx70
     have hx70g:=zcd hx70
     have F6:=an F5 (an hx70 hx70g)
     refine goG F6 F6 ?_
     revert e58;refine cS F6 ?_ ?_<;>intro h71 e58
     ·refine goG F6 F6 ?_
      obtain rfl:=sj e58
      try dsimp only at e42
      obtain rfl:=sj e42
      try dsimp only at hs
      refine hX45 _ _ (by simp) ?_
      refine goG F6 F6 ?_
      obtain rfl:=sj hs
      exact hQ _ _ (rg F6 (Gh.refl _))
     ·refine goG F6 F6 ?_
      exact hL61 (q64,(k52+1)) _ _ (Gh.refl _) ⟨e58,(by first|omega |(simp;omega)),pv F6,pv F6,pv F6,pg⟩ (by omega)
   ·obtain⟨e42,n6_g⟩:=hp
    obtain rfl:=sj e42
    try dsimp only at hs
    have F7:=an F1 (an g13a g13c)
    refine goG F7 F7 ?_
    obtain rfl:=sj hs
    exact hQ _ _ (rg F7 (Gh.refl _))
def za8(s8:ByteArray):Nat->Int->Nat->Option Int
 |0,i65,k66=>some (i65)
 |q78+1,i65,k66=>Option.bind (s8[k66]?) (fun c83=>za8 s8 q78 (IntKind.i64.wrap (IntKind.i64.wrap (i65 * 10)+IntKind.i64.wrap (IntKind.u8.wrap ((c83.toNat:Int) - 48)))) (k66+1))
def zbT(a0:ByteArray):Option (Int × Int):=
 Option.bind (zaI a0) (fun y1=>cond (!y1) (some (0,16)) (Option.bind (a0[0]?) (fun c4=>Option.bind (α:=ByteArray) (cond (eqI (c4.toNat:Int) 45) (zai (slB 1 (a0.size:Int) a0.size) (some (a0.extract 1 a0.size))) (some (a0))) (fun s8=>cond (ltI 10 ((s8.size:Nat):Int)) (some (0,2)) (Option.bind (α:=Int) (zai (lenB s8.size) (Option.bind (za8 s8 s8.size 0 0) (fun i71=>some (i71)))) (fun i48=>cond (eqI (c4.toNat:Int) 45) (cond (orB (ltI (IntKind.i64.wrap (0 - i48)) (-2147483648)) (ltI 2147483647 (IntKind.i64.wrap (0 - i48)))) (some (0,2)) (some (IntKind.i64.wrap (0 - i48),0))) (cond (orB (ltI i48 (-2147483648)) (ltI 2147483647 i48)) (some (0,2)) (some (i48,0)))))))))
theorem zju{a0:ByteArray}{r:Int × Int}(hs:zbT a0=some r):At Tryz.prog 64 [sV a0] (.tup [iV .i64 r.1,iV .i64 r.2]):=by
 refine zab (by kernel_rfl) fun hb=>?_
 refine zac mixed Tryz.func64 (by kernel_rfl) rfl (by kernel_rfl) rfl fun Q hQ=>?_
 rw[zbT]at hs
 refine goR f0 ?_
 revert hs;refine bK fun y1 hx2 hs=>?_
 refine cP f0 (zhj hx2) ?_
 refine goR f0 ?_
 revert hs;refine cS f0 ?_ ?_<;>intro h3 hs
 ·refine goR f0 ?_
  obtain rfl:=sj hs
  exact hQ _ _ (rg f0 (Gh.refl _))
 ·revert hs;refine bK fun c4 hx5 hs=>?_
  have hx5b:=zbf hx5
  have hx5g:=zcd hx5
  have F1:=an hx5 hx5g
  refine goR2 F1 ?_
  revert hs;refine bK fun o10 e9 hs=>?_
  refine zaj (fun(v:ByteArray) (σ:St)=>some (v)=some o10 /\ σ.env 0=sV v /\ σ.env 4=bV (eqI (c4.toNat:Int) 45) /\ 4<=σ.gen) (by rfl) (fun Q hK11 hX12=>?_) (fun s8 σ1 hp=>?_)
  ·refine goR F1 ?_
   revert e9;refine cS F1 ?_ ?_<;>intro h13 e9
   ·obtain⟨g14,e9⟩:=zaa e9
    obtain⟨g14a,g14b,g14c⟩:=ze0 g14
    have F2:=an F1 (an g14a (an g14b g14c))
    refine goR F2 ?_
    exact hK11 (a0.extract 1 a0.size) _ _ (Gh.refl _) ⟨e9,pv F2,pv F2,pg⟩
   ·refine goR F1 ?_
    exact hK11 a0 _ _ (Gh.refl _) ⟨e9,pv F1,pv F1,pg⟩
  ·obtain⟨e9,h2_0,h2_4,n2_g⟩:=hp
   obtain rfl:=sj e9
   try dsimp only at hs
   have F3:=an h2_0 (an h2_4 (an hx5 hx5g))
   refine goR F3 ?_
   revert hs;refine cS F3 ?_ ?_<;>intro h15 hs
   ·refine goR F3 ?_
    obtain rfl:=sj hs
    exact hQ _ _ (rg F3 (Gh.refl _))
   ·refine goR2 F3 ?_
    revert hs;refine bK fun o50 e49 hs=>?_
    refine zaj (fun(v:Int) (σ:St)=>some (v)=some o50 /\ σ.env 4=bV (eqI (c4.toNat:Int) 45) /\ σ.env 5=iV .i64 v /\ (σ1.gen+3)<=σ.gen) (by rfl) (fun Q hK51 hX52=>?_) (fun i48 σ5 hp=>?_)
    ·refine goR F3 ?_
     obtain⟨hb82,e49⟩:=zaa e49
     revert e49;refine bK fun o73 e72 e49=>?_
     refine zaf (fun(v:Nat × Int × Nat) (σ:St)=>za8 s8 v.1 v.2.1 v.2.2=some o73 /\ v.1+v.2.2=s8.size /\ σ.env 0=sV s8 /\ σ.env 4=bV (eqI (c4.toNat:Int) 45) /\ σ.env 5=iV .i64 v.2.1 /\ σ.env 20=iV .i64 ((s8.size:Nat):Int) /\ σ.env 21=iV .i64 ((v.2.2:Nat):Int) /\ (σ1.gen+3)<=σ.gen) (fun v=>v.1) _ (Gh.refl _) (s8.size,0,0) ⟨e72,by first|omega|simp |(simp;omega),pv F3,pv F3,pv F3,pv F3,pv F3,pg⟩ fun v σ8 hp L74 hL75=>?_
     obtain⟨q77,i65,k66⟩:=v
     dsimp only at hp hL75
     obtain⟨e72,hd76,h7_0,h7_4,h7_5,h7_20,h7_21,n7_g⟩:=hp
     rcases q77 with _|q78
     ·have hlt79:¬ k66 < s8.size:=by omega
      rw[za8]at e72;try dsimp only at e72
      have F4:=an h7_0 (an h7_4 (an h7_5 (an h7_20 (an h7_21 (an hx5 hx5g)))))
      refine goR F4 ?_
      refine zaF (by simp[ltI];omega) ?_
      obtain rfl:=sj e72
      try dsimp only at e49
      exact hK51 i65 _ _ (Gh.refl _) ⟨e49,pv F4,pv F4,pg⟩
     ·have hlt79:k66 < s8.size:=by omega
      have ew80:=za1 hlt79 hb82
      rw[za8]at e72;try dsimp only at e72
      have F5:=an h7_0 (an h7_4 (an h7_5 (an h7_20 (an h7_21 (an hx5 (an hx5g (an hlt79 ew80)))))))
      refine goR F5 ?_
      refine zaB (by simp[ltI];omega) ?_
      revert e72;refine bK fun c83 hx84 e72=>?_
      have hx84b:=zbf hx84
      have hx84g:=zcd hx84
      have F6:=an F5 (an hx84 hx84g)
      refine goR F6 ?_
      exact hL75 (q78,IntKind.i64.wrap (IntKind.i64.wrap (i65 * 10)+IntKind.i64.wrap (IntKind.u8.wrap ((c83.toNat:Int) - 48))),(k66+1)) _ _ (Gh.refl _) ⟨e72,(by first|omega |(simp;omega)),pv F6,pv F6,pv F6,pv F6,pv F6,pg⟩ (by omega)
    ·obtain⟨e49,h6_4,h6_5,n6_g⟩:=hp
     obtain rfl:=sj e49
     try dsimp only at hs
     have F7:=an h6_4 (an h6_5 (an hx5 hx5g))
     refine goR F7 ?_
     revert hs;refine cS F7 ?_ ?_<;>intro h85 hs
     ·refine goG F7 F7 ?_
      revert hs;refine cS F7 ?_ ?_<;>intro h86 hs
      ·refine goG F7 F7 ?_
       obtain rfl:=sj hs
       exact hQ _ _ (rg F7 (Gh.refl _))
      ·refine goG F7 F7 ?_
       obtain rfl:=sj hs
       exact hQ _ _ (rg F7 (Gh.refl _))
     ·refine goG F7 F7 ?_
      revert hs;refine cS F7 ?_ ?_<;>intro h87 hs
      ·refine goG F7 F7 ?_
       obtain rfl:=sj hs
       exact hQ _ _ (rg F7 (Gh.refl _))
      ·refine goG F7 F7 ?_
       obtain rfl:=sj hs
       exact hQ _ _ (rg F7 (Gh.refl _))
def iSB (a0:ByteArray)(a1:UInt8):Option Int:=some (Go.Lib.indexByte a0.data.toList a1)
theorem zcS(s:ByteArray)(c:Int)(w:World):Calls Tryz.prog 109 #[.string s,.int .u8 c] w fun e w'=>e=.returned (.int .i64 (Go.Lib.indexByte s.data.toList c.toNat.toUInt8)) /\ w'=w:=by
 go_enter Tryz.func109,Tryz.ntmps109
 go_wp2
 rw[run_callFunc_extern (f:=118) Tryz.func118 (by kernel_rfl) (by kernel_rfl) (by kernel_rfl) (e:=Extern.BytealgIndexByte.indexByte) (by kernel_rfl),Go.Lib.run_indexByteString]
 simp only[Result.andThen]
 rw[Oper.upon_value]
 go_wp2
 go_ret
 exact⟨rfl,rfl⟩
theorem zxc{a0:ByteArray}{a1:UInt8}{r:Int}(hs:iSB a0 a1=some r):At Tryz.prog 109 [sV a0,.cell (.p (.c (.int .u8 (a1.toNat:Int))))] (iV .i64 r):=by
 rw[iSB]at hs
 obtain rfl:=Option.some.inj hs
 refine zp8 (us:=[.string a0,.int .u8 (a1.toNat:Int)]) ⟨Tryz.f109,by kernel_rfl,by kernel_rfl,by kernel_rfl⟩ fun w=>?_
 have h:=zcS a0 (a1.toNat:Int) w
 simpa using h
def sIB (a0:ByteArray)(a1:UInt8):Option Int:=
 Option.bind (iSB a0 a1) (fun y1=>some y1)
theorem zw9{a0:ByteArray}{a1:UInt8}{r:Int}(hs:sIB a0 a1=some r):At Tryz.prog 94 [sV a0,iV .u8 (a1.toNat:Int)] (iV .i64 r):=by
 refine zab (by kernel_rfl) fun hb=>?_
 refine zac mixed Tryz.func94 (by kernel_rfl) rfl (by kernel_rfl) rfl fun Q hQ=>?_
 rw[sIB]at hs
 refine goR f0 ?_
 revert hs;refine bK fun y1 hx2 hs=>?_
 refine cP f0 (zxc hx2) ?_
 refine goR f0 ?_
 obtain rfl:=sj hs
 exact hQ _ _ (rg f0 (Gh.refl _))
def zfy(a0:UInt8):Option Bool:=
 Option.bind (sIB (⟨#[40,41,123,125,44,59,61,58]⟩:ByteArray) a0) (fun y1=>some (!(ltI y1 0)))
theorem zkx{a0:UInt8}{r:Bool}(hs:zfy a0=some r):At Tryz.prog 65 [iV .u8 (a0.toNat:Int)] (bV r):=by
 refine zab (by kernel_rfl) fun hb=>?_
 refine zac mixed Tryz.func65 (by kernel_rfl) rfl (by kernel_rfl) rfl fun Q hQ=>?_
 rw[zfy]at hs
 refine goR f0 ?_
 revert hs;refine bK fun y1 hx2 hs=>?_
 refine cP f0 (zw9 hx2) ?_
 refine goR f0 ?_
 obtain rfl:=sj hs
 exact hQ _ _ (rg f0 (Gh.refl _))
def zet(fuelN:Nat)(a0:ByteArray)(a1:Int):Option (Token × Int):=
 Option.bind (getS a0 a1) (fun c1=>Option.bind (zdE c1) (fun y3=>cond y3 (Option.bind (zer fuelN a0 a1) (fun y6=>zai (slB a1 y6 a0.size) (some (({ Kind:=1,Text:=a0.extract ((a1).toNat) ((y6).toNat),N:=0,At:=a1 }:Token),0)))) (zai (orB (!(!(eqI (c1.toNat:Int) 45))) ((zdm c1).isSome)) (cond (orB (eqI (c1.toNat:Int) 45) ((zdm c1).getD default)) (Option.bind (zer fuelN a0 (IntKind.i64.wrap (a1+1))) (fun y11=>zai (slB a1 y11 a0.size) (Option.bind (zbT (a0.extract ((a1).toNat) ((y11).toNat))) (fun y14=>cond (!(eqI y14.2 0)) (some (({ Kind:=0,Text:=(⟨#[]⟩:ByteArray),N:=0,At:=0 }:Token),y14.2)) (some (({ Kind:=2,Text:=a0.extract ((a1).toNat) ((y11).toNat),N:=y14.1,At:=a1 }:Token),0)))))) (Option.bind (zfy c1) (fun y17=>cond y17 (zai (slB a1 (IntKind.i64.wrap (a1+1)) a0.size) (some (({ Kind:=3,Text:=a0.extract ((a1).toNat) ((IntKind.i64.wrap (a1+1)).toNat),N:=0,At:=a1 }:Token),0))) (cond (eqI (c1.toNat:Int) 10) (some (({ Kind:=4,Text:=(⟨#[10]⟩:ByteArray),N:=0,At:=a1 }:Token),0)) (some (({ Kind:=0,Text:=(⟨#[]⟩:ByteArray),N:=0,At:=0 }:Token),14)))))))))
theorem zlT{fuelN:Nat}{a0:ByteArray}{a1:Int}{r:Token × Int}(hs:zet fuelN a0 a1=some r):At Tryz.prog 35 [sV a0,iV .i64 a1] (.tup [.agg (eA r.1),iV .i64 r.2]):=by
 refine zab (by kernel_rfl) fun hb=>?_
 refine zac mixed Tryz.func35 (by kernel_rfl) rfl (by kernel_rfl) rfl fun Q hQ=>?_
 rw[zet]at hs
 revert hs;refine bK fun c1 hx2 hs=>?_
 obtain⟨hx2a,hx2b,hx2c,hx2d⟩:=zgz hx2
 have hx2g:=zcd hx2d
 have F1:=an hx2d (an hx2a hx2g)
 refine goR F1 ?_
 revert hs;refine bK fun y3 hx4 hs=>?_
 refine cP F1 (zgQ hx4) ?_
 refine goR F1 ?_
 revert hs;refine cS F1 ?_ ?_<;>intro h5 hs
 ·refine goR F1 ?_
  revert hs;refine bK fun y6 hx7 hs=>?_
  refine cP F1 (zhK hx7) ?_
  obtain⟨g8,hs⟩:=zaa hs
  obtain⟨g8a,g8b,g8c⟩:=ze0 g8
  have F2:=an F1 (an g8a (an g8b g8c))
  refine goR F2 ?_
  obtain rfl:=sj hs
  exact hQ _ _ (rg F2 (Gh.refl _))
 ·refine goG F1 F1 ?_
  obtain⟨g9,hs⟩:=zaa hs
  refine zaZ (fun hg=>zhL (zaQ g9 hg)) (fun hg=>by(try simp at hg);(first|simp[hg,F1]);try rfl) (fun hg=>by(try simp at hg);simp[hg,F1]) (by simp) ?_
  refine goG F1 F1 ?_
  revert hs;refine cS F1 ?_ ?_<;>intro h10 hs
  ·refine goG F1 F1 ?_
   revert hs;refine bK fun y11 hx12 hs=>?_
   refine cP F1 (zhK hx12) ?_
   obtain⟨g13,hs⟩:=zaa hs
   obtain⟨g13a,g13b,g13c⟩:=ze0 g13
   have F3:=an F1 (an g13a (an g13b g13c))
   refine goG F3 F3 ?_
   revert hs;refine bK fun y14 hx15 hs=>?_
   refine cP F3 (zju hx15) ?_
   refine goG F3 F3 ?_
   revert hs;refine cS F3 ?_ ?_<;>intro h16 hs
   ·refine goG F3 F3 ?_
    obtain rfl:=sj hs
    exact hQ _ _ (rg F3 (Gh.refl _))
   ·refine goG F3 F3 ?_
    obtain rfl:=sj hs
    exact hQ _ _ (rg F3 (Gh.refl _))
  ·refine goG F1 F1 ?_
   revert hs;refine bK fun y17 hx18 hs=>?_
   refine cP F1 (zkx hx18) ?_
   refine goG F1 F1 ?_
   revert hs;refine cS F1 ?_ ?_<;>intro h19 hs
   ·obtain⟨g20,hs⟩:=zaa hs
    obtain⟨g20a,g20b,g20c⟩:=ze0 g20
    have F4:=an F1 (an g20a (an g20b g20c))
    refine goG F4 F4 ?_
    obtain rfl:=sj hs
    exact hQ _ _ (rg F4 (Gh.refl _))
   ·refine goG F1 F1 ?_
    revert hs;refine cS F1 ?_ ?_<;>intro h21 hs
    ·refine goG F1 F1 ?_
     obtain rfl:=sj hs
     exact hQ _ _ (rg F1 (Gh.refl _))
    ·refine goG F1 F1 ?_
     obtain rfl:=sj hs
     exact hQ _ _ (rg F1 (Gh.refl _))
def zbH(fuelN:Nat)(a0:ByteArray):Nat->(List Token)->Int->Option ((List Token) × Int × Int)
 |0,_,_=>none
 |q209+1,l174,i175=>cond (ltI i175 ((a0.size:Nat):Int)) (Option.bind (getS a0 i175) (fun c214=>Option.bind (α:=Bool) (cond (eqI (c214.toNat:Int) 32) (some (eqI (c214.toNat:Int) 32)) (some (eqI (c214.toNat:Int) 9))) (fun b217=>cond b217 (zbH fuelN a0 q209 l174 (IntKind.i64.wrap (i175+1))) (cond (eqI (c214.toNat:Int) 35) (Option.bind (zes fuelN a0 i175) (fun y225=>zbH fuelN a0 q209 l174 y225)) (Option.bind (zet fuelN a0 i175) (fun y227=>cond (!(eqI y227.2 0)) (some (([],y227.2,i175))) (Option.bind (some ([y227.1])) (fun l230=>zai (limB 40 (l174.length+l230.length)) (Option.bind (some (l174++l230)) (fun l233=>zbH fuelN a0 q209 l233 (IntKind.i64.wrap (i175+((y227.1.Text.size:Nat):Int))))))))))))) (some ((l174,0,0)))
def zfA(fuelN:Nat)(a0:ByteArray):Option ((List Token) × Fault):=
 cond (ltI 16384 ((a0.size:Nat):Int)) (some ([],({ Err:=4,At:=0 }:Fault))) (Option.bind (α:=(List Token) × Int × Int) (Option.bind (zbH fuelN a0 fuelN [] 0) (fun o=>match o with |(l200,i201,i202)=>some ((l200,i201,i202)))) (fun o=>match o with |(l115,i116,i117)=>some (l115,({ Err:=i116,At:=i117 }:Fault))))
theorem zja{fuelN:Nat}{a0:ByteArray}{r:(List Token) × Fault}(hs:zfA fuelN a0=some r):CAt Tryz.prog 12 [sV a0] [] (.ret (.tup [.cell (.sl (.r 0) 0 4 r.1.length),.agg (eA r.2)])) [(.r 0,.pure (encL r.1))]:=by
 refine zab (by kernel_rfl) fun hb=>?_
 refine zac mixed Tryz.func12 (by kernel_rfl) rfl (by kernel_rfl) rfl fun Q hQ=>?_
 rw[zfA]at hs
 refine goR f0 ?_
 revert hs;refine cS f0 ?_ ?_<;>intro h1 hs
 ·refine goR f0 ?_
  obtain rfl:=sj hs
  refine hQ _ _ (zaG _ (Gh.void _ (.r 0) 2 4 rfl (by simp)) (by simp[St.frz,St.pur];rfl) (by first|rfl |(simp[St.frz,St.pur];done) |(rw[if_pos (by first|omega |(simp;omega))];simp[St.frz,St.pur];first|omega|exact List.take_of_length_le (by simp;omega)|skip)) (pv f0))
 ·refine goR2 f0 ?_
  revert hs;refine bK fun o119 e118 hs=>?_
  refine zaj (fun(v:(List Token) × Int × Int) (σ:St)=>some (v)=some o119 /\ σ.env 3=.cell (.ref (.o 1 1 0) 0) /\ σ.env 4=.cell (.sl (.l 9) 0 4 v.1.length) /\ σ.env 5=.cell (.ref (.o 4 0 0) 0) /\ σ.hp (.l 9)=some (.pure (encL v.1)) /\ σ.hp (.o 1 1 0)=some (.cells [nC 0,nC 0]) /\ σ.hp (.o 4 0 0)=some (.cells [nC v.2.1,nC v.2.2]) /\ 6<=σ.gen) (by rfl) (fun Q hK120 hX121=>?_) (fun v σ11 hp=>?_)
  ·refine goR f0 ?_
   revert e118;refine bK fun o204 e203 e118=>?_
   refine zaf (fun(v:Nat × (List Token) × Int) (σ:St)=>zbH fuelN a0 v.1 v.2.1 v.2.2=some o204 /\ σ.env 0=sV a0 /\ σ.env 3=.cell (.ref (.o 1 1 0) 0) /\ σ.env 4=.cell (.sl (.l 14) 0 4 v.2.1.length) /\ σ.env 5=.cell (.ref (.o 4 0 0) 0) /\ σ.env 6=.cell (.p (.c (.func (.func 33) #[] #[]))) /\ σ.env 7=iV .i64 v.2.2 /\ σ.hp (.l 14)=some (.pure (encL v.2.1)) /\ σ.hp (.o 1 1 0)=some (.cells [nC 0,nC 0]) /\ σ.hp (.o 4 0 0)=some (.cells [nC 0,nC 0]) /\ 6<=σ.gen) (fun v=>v.1) _ (Gh.void _ (.l 14) 4 4 rfl (by simp)) (fuelN,[],0) ⟨e203,pv f0,pv f0,pv f0,pv f0,pv f0,pv f0,pv f0,pv f0,pv f0,pg⟩ fun v σ20 hp L205 hL206=>?_
   obtain⟨q208,l174,i175⟩:=v
   dsimp only at hp hL206
   obtain⟨e203,h19_0,h19_3,h19_4,h19_5,h19_6,h19_7,g19_0,g19_1,g19_2,n19_g⟩:=hp
   have n19_0:¬ (σ20.gen=0):=by omega
   have n19_1:¬ (σ20.gen=1):=by omega
   have n19_2:¬ (σ20.gen=2):=by omega
   have n19_3:¬ (σ20.gen=3):=by omega
   rcases q208 with _|q209
   ·rw[zbH]at e203;cases e203
   ·rw[zbH]at e203;try dsimp only at e203
    have F1:=an h19_0 (an h19_3 (an h19_4 (an h19_5 (an h19_6 (an h19_7 (an g19_0 (an g19_1 (an g19_2 (an n19_0 (an n19_1 (an n19_2 n19_3)))))))))))
    refine goR F1 ?_
    revert e203;refine cS F1 ?_ ?_<;>intro h213 e203
    ·refine goR2 F1 ?_
     refine zdr ?_
     revert e203;refine bK fun c214 hx215 e203=>?_
     obtain⟨hx215a,hx215b,hx215c,hx215d⟩:=zgz hx215
     have hx215g:=zcd hx215d
     have F2:=an F1 (an hx215d (an hx215a hx215g))
     refine goR2 F2 ?_
     refine zdr ?_
     refine goR2 F2 ?_
     revert e203;refine bK fun o219 e218 e203=>?_
     refine zdd (fun(v:Bool) (σ:St)=>some (v)=some o219 /\ σ.env 0=sV a0 /\ σ.env 3=.cell (.ref (.o 1 1 0) 0) /\ σ.env 4=.cell (.sl (.l 14) 0 4 l174.length) /\ σ.env 5=.cell (.ref (.o 4 0 0) 0) /\ σ.env 6=.cell (.p (.c (.func (.func 33) #[] #[]))) /\ σ.env 7=iV .i64 i175 /\ σ.env 20=iV .u8 (c214.toNat:Int) /\ σ.env 41=bV v /\ σ.hp (.l 14)=some (.pure (encL l174)) /\ σ.hp (.o 1 1 0)=some (.cells [nC 0,nC 0]) /\ σ.hp (.o 4 0 0)=some (.cells [nC 0,nC 0]) /\ (σ20.gen+3)<=σ.gen) (fun Q hK220 hX221=>?_) (fun b217 σ21 hp=>?_)
     ·refine goR F2 ?_
      revert e218;refine cS F2 ?_ ?_<;>intro h222 e218
      ·refine goR F2 ?_
       exact hK220 (eqI (c214.toNat:Int) 32) _ ⟨e218,pv F2,pv F2,pv F2,pv F2,pv F2,pv F2,pv F2,pv F2,pv F2,pv F2,pv F2,pg⟩
      ·refine goR F2 ?_
       exact hK220 (eqI (c214.toNat:Int) 9) _ ⟨e218,pv F2,pv F2,pv F2,pv F2,pv F2,pv F2,pv F2,pv F2,pv F2,pv F2,pv F2,pg⟩
     ·obtain⟨e218,h22_0,h22_3,h22_4,h22_5,h22_6,h22_7,h22_20,h22_41,g22_0,g22_1,g22_2,n22_g⟩:=hp
      obtain rfl:=sj e218
      try dsimp only at e203
      have n22_0:¬ (σ21.gen=0):=by omega
      have n22_1:¬ (σ21.gen=1):=by omega
      have n22_2:¬ (σ21.gen=2):=by omega
      have n22_3:¬ (σ21.gen=3):=by omega
      have F3:=an h22_0 (an h22_3 (an h22_4 (an h22_5 (an h22_6 (an h22_7 (an h22_20 (an h22_41 (an g22_0 (an g22_1 (an g22_2 (an n22_0 (an n22_1 (an n22_2 (an n22_3 (an hx215d (an hx215a hx215g))))))))))))))))
      refine goR F3 ?_
      revert e203;refine cS F3 ?_ ?_<;>intro h223 e203
      ·refine goR F3 ?_
       exact hL206 (q209,l174,IntKind.i64.wrap (i175+1)) _ _ (Gh.refl _) ⟨e203,pv F3,pv F3,pv F3,pv F3,pv F3,pv F3,pv F3,pv F3,pv F3,pg⟩ (by omega)
      ·refine goR F3 ?_
       revert e203;refine cS F3 ?_ ?_<;>intro h224 e203
       ·refine goR F3 ?_
        revert e203;refine bK fun y225 hx226 e203=>?_
        refine cP F3 (zlS hx226) ?_
        refine goR F3 ?_
        exact hL206 (q209,l174,y225) _ _ (Gh.refl _) ⟨e203,pv F3,pv F3,pv F3,pv F3,pv F3,pv F3,pv F3,pv F3,pv F3,pg⟩ (by omega)
       ·refine goR F3 ?_
        revert e203;refine bK fun y227 hx228 e203=>?_
        refine cP F3 (zlT hx228) ?_
        refine goR F3 ?_
        revert e203;refine cS F3 ?_ ?_<;>intro h229 e203
        ·refine goR F3 ?_
         obtain rfl:=sj e203
         try dsimp only at e118
         exact hK120 ([],y227.2,i175) _ _ (Gh.void _ (.l 9) 4 4 rfl (by simp[F3])) ⟨e118,pv F3,pv F3,pv F3,pv F3,pv F3,pv F3,pg⟩
        ·revert e203;refine lK fun l230 hx231 e203=>?_
         have hx231n:l230.length=1:=by rw[hx231];rfl
         obtain⟨g232,e203⟩:=zaa e203
         have g232:=zbv g232
         obtain⟨g232a,g232b⟩:=g232
         revert e203;refine lK fun l233 hx234 e203=>?_
         have hx234n:l233.length=(l174.length+l230.length):=by rw[hx234];simp
         have hx234e:encL l233=encL l174++encL l230:=by rw[hx234];simp
         have F4:=an F3 (an hx231 (an hx234n hx234e))
         refine goR F4 ?_
         exact hL206 (q209,l233,IntKind.i64.wrap (i175+((y227.1.Text.size:Nat):Int))) _ _ (Gh.ren _ (.o (σ21.gen+4) 3 0) (.l 14) (by simp) rfl rfl) ⟨e203,pv F4,pv F4,pv F4,pv F4,pv F4,pv F4,pv F4,pv F4,pv F4,pg⟩ (by omega)
    ·refine goR F1 ?_
     obtain rfl:=sj e203
     try dsimp only at e118
     exact hK120 (l174,0,0) _ _ (Gh.ren _ (.l 14) (.l 9) (by simp) rfl rfl) ⟨e118,pv F1,pv F1,pv F1,pv F1,pv F1,pv F1,pg⟩
  ·obtain⟨l115,i116,i117⟩:=v
   dsimp only at hp
   obtain⟨e118,h12_3,h12_4,h12_5,g12_0,g12_1,g12_2,n12_g⟩:=hp
   obtain rfl:=sj e118
   try dsimp only at hs
   have n12_0:¬ (σ11.gen=0):=by omega
   have n12_1:¬ (σ11.gen=1):=by omega
   have n12_2:¬ (σ11.gen=2):=by omega
   have n12_3:¬ (σ11.gen=3):=by omega
   have F5:=an h12_3 (an h12_4 (an h12_5 (an g12_0 (an g12_1 (an g12_2 (an n12_0 (an n12_1 (an n12_2 n12_3))))))))
   refine goD F5 ?_
   obtain rfl:=sj hs
   refine hQ _ _ (zaG _ (Gh.ren _ (.l 9) (.r 0) (by simp) rfl rfl) (by simp[St.frz,St.pur,F5];rfl) (by first|rfl |(simp[St.frz,St.pur,F5];done) |(rw[if_pos (by first|omega |(simp;omega))];simp[St.frz,St.pur,F5];first|omega|exact List.take_of_length_le (by simp;omega)|skip)) (pv F5))
end Go.Dc
end
section
namespace Go.Dc.Pa
open Go Go.Hw Go.Dc Go.Dc.Pl
abbrev bl(s:ByteArray):List UInt8:=s.data.toList
abbrev bs(l:List UInt8):ByteArray:=⟨l.toArray⟩
theorem zbZ(s:ByteArray):(bl s).length=s.size:=by rw[Array.length_toList];rfl
theorem zcf(l:List UInt8):(bs l).size=l.length:=by show l.toArray.size=_;simp
theorem zon(l:List UInt8):bl (bs l)=l:=by simp[bs,bl]
theorem zhe(s:ByteArray)(i:Nat):s[i]?=(bl s)[i]?:=by
 by_cases h:i < s.size
 ·rw[getElem?_pos s i h,List.getElem?_eq_getElem (by rw[zbZ];exact h)];rfl
 ·rw[getElem?_neg s i h,List.getElem?_eq_none (by rw[zbZ];omega)]
theorem zdH(s:ByteArray)(i j:Nat):s.extract i j=bs (((bl s).drop i).take (j - i)):=by
 apply ByteArray.ext
 rw[ByteArray.data_extract]
 apply Array.ext'
 rw[Array.toList_extract]
theorem drop_cons{α:Type}{l:List α}{i:Nat}{c:α}{r:List α}(h:l.drop i=c::r):l[i]?=some c /\ i < l.length /\ l.drop (i+1)=r:=by
 have hi:i < l.length:=by
  rcases Nat.lt_or_ge i l.length with h'|h'
  ·exact h'
  ·rw[List.drop_eq_nil_of_le h']at h;cases h
 rw[List.drop_eq_getElem_cons hi]at h
 injection h with h1 h2
 exact⟨by rw[List.getElem?_eq_getElem hi,h1],hi,h2⟩
def takeN(p:UInt8->Bool)(l:List UInt8):Nat:=(l.takeWhile p).length
theorem zgr{L:ByteArray->Nat->Int->Option Int}(p:UInt8->Bool){s:ByteArray}(hs:s.size<=1048576)
  (h1:∀(q k:Nat) c,s[k]?=some c->L s (q+1) (k:Int)=if p c=true then L s q (IntKind.i64.wrap ((k:Int)+1)) else some (k:Int))
  (h0:∀ q,L s (q+1) ((s.size:Nat):Int)=some ((s.size:Nat):Int)):∀(q k:Nat),k<=s.size->s.size < k+q->L s q (k:Int)=some ((k+takeN p ((bl s).drop k):Nat):Int)
 |0,k,hk,hq=>absurd hq (by omega)
 |q+1,k,hk,hq=>by
  cases hd:(bl s).drop k with
  |nil=>
   have:=List.drop_eq_nil_iff.1 hd
   rw[zbZ]at this
   obtain rfl:k=s.size:=by omega
   rw[h0];rfl
  |cons c r=>
   obtain⟨e1,e2,e3⟩:=drop_cons hd
   rw[zbZ]at e2
   rw[h1 q k c (by rw[zhe];exact e1),takeN,List.takeWhile_cons]
   cases hp:p c
   ·simp
   ·rw[if_pos rfl,if_pos rfl,wrapN (by omega) (by omega),List.length_cons]
    have ih:=zgr p hs h1 h0 q (k+1) (by omega) (by omega)
    rw[e3,takeN]at ih
    rw[show(k:Int)+1=((k+1:Nat):Int) from rfl,ih];congr 2;omega
def letB (c:UInt8):Bool:=orB (andB (!(ltI (c.toNat:Int) 97)) (!(ltI 122 (c.toNat:Int)))) (andB (!(ltI (c.toNat:Int) 65)) (!(ltI 90 (c.toNat:Int))))
def digB (c:UInt8):Bool:=andB (!(ltI (c.toNat:Int) 48)) (!(ltI 57 (c.toNat:Int)))
def wrdB (c:UInt8):Bool:=orB (orB (letB c) (digB c)) (eqI (c.toNat:Int) 95)
def symB (c:UInt8):Bool:=!(ltI (Go.Lib.indexByte [40,41,123,125,44,59,61,58] c) 0)
def ze2(c:UInt8):Bool:=!(eqI (c.toNat:Int) 10)
theorem zn5(c:UInt8):zeu c=some (wrdB c):=by
 rw[zeu,show zdE c=some (letB c) from rfl,show zdm c=some (digB c) from rfl]
 simp[Option.isSome_some,Option.getD_some,zep,zad,wrdB]
theorem zkW{s:ByteArray}(hs:s.size<=1048576){k:Nat}(hk:k<=s.size):zer 67108864 s (k:Int)=some ((k+takeN wrdB ((bl s).drop k):Nat):Int):=by
 have h:=zgr (L:=zbR) wrdB hs (fun q k c hc=>by
  have hk:=zbf hc
  rw[zbR,show ltI (k:Int) ((s.size:Nat):Int)=true by rw[za2,decide_eq_true_eq];omega,show inB (k:Int) s.size=true by rw[zev,decide_eq_true_eq];omega,zep,zad,cond_true,Int.toNat_natCast,show bget s k=c by rw[bget,hc];rfl,zn5,Option.bind_some]
  cases wrdB c<;>rfl) (fun q=>by
  rw[zbR,show ltI ((s.size:Nat):Int) ((s.size:Nat):Int)=false by rw[za2,decide_eq_false_iff_not];omega];rfl) 67108864 k hk (by omega)
 rw[zer,h];rfl
theorem zpg{s:ByteArray}(hs:s.size<=1048576){k:Nat}(hk:k<=s.size):zes 67108864 s (k:Int)=some ((k+takeN ze2 ((bl s).drop k):Nat):Int):=by
 have h:=zgr (L:=zbS) ze2 hs (fun q k c hc=>by
  have hk:=zbf hc
  rw[zbS,show ltI (k:Int) ((s.size:Nat):Int)=true by rw[za2,decide_eq_true_eq];omega,show inB (k:Int) s.size=true by rw[zev,decide_eq_true_eq];omega,zep,zad,cond_true,Int.toNat_natCast,show bget s k=c by rw[bget,hc];rfl,show zfz c=some (ze2 c) from rfl,Option.bind_some]
  cases ze2 c<;>rfl) (fun q=>by
  rw[zbS,show ltI ((s.size:Nat):Int) ((s.size:Nat):Int)=false by rw[za2,decide_eq_false_iff_not];omega];rfl) 67108864 k hk (by omega)
 rw[zes,h];rfl
theorem zlb(s:ByteArray):∀(q k:Nat),k+q<=s.size->∃ r,zav s q k=some r
 |0,k,_=>⟨_,rfl⟩
 |q+1,k,h=>by
  obtain⟨r,hr⟩:=zlb s q (k+1) (by omega)
  rw[zav,zfo (show k < s.size by omega),Option.bind_some,hr,za0];exact⟨_,rfl⟩
theorem zhf{a b:ByteArray}:eqS a b=true ↔ a=b:=by
 unfold eqS
 rw[ByteArray.toList_eq,ByteArray.toList_eq,beq_iff_eq]
 constructor
 ·intro h;exact ByteArray.ext (Array.ext' h)
 ·intro h;rw[h]
theorem zwL{s:ByteArray}(h:eqS s (⟨#[]⟩:ByteArray)=false):0 < s.size:=by
 rcases Nat.eq_zero_or_pos s.size with h0|h0
 ·have:s=⟨#[]⟩:=ByteArray.ext (Array.ext' (List.length_eq_zero_iff.1 (by rw[zbZ];exact h0)))
  rw[this]at h;exact absurd h (by decide +kernel)
 ·exact h0
theorem zla{s:ByteArray}(hs:s.size<=1048576):∃ b,(zai (orB (!(andB (!(eqS s (⟨#[]⟩:ByteArray))) (ltI 1 ((s.size:Nat):Int)))) (inB ((0:Nat):Int) s.size)) (cond (orB (eqS s (⟨#[]⟩:ByteArray)) (andB (ltI 1 ((s.size:Nat):Int)) (eqI (((bget s 0)).toNat:Int) 48))) (some false) (Option.bind (α:=Unit ⊕ Bool) (zai (lenB s.size) (Option.bind (zav s s.size 0) (fun o=>match o with|.inl _=>some (.inl ())|.inr r72=>some (.inr r72)))) (fun o=>match o with|.inl _=>some true|.inr r73=>some r73))))=some b:=by
 obtain⟨r,hr⟩:=zlb s s.size 0 (by omega)
 rw[hr,za3 (c:=lenB s.size) _ (by rw[zdt,decide_eq_true_eq];omega)]
 cases he:eqS s (⟨#[]⟩:ByteArray)
 ·have:=zwL he
  rw[show inB ((0:Nat):Int) s.size=true by rw[zev,decide_eq_true_eq];omega,zep,zad]
  rcases r with r|r<;>simp only[Option.bind_some,za0]<;>exact⟨_,rfl⟩
 ·exact⟨_,rfl⟩
theorem zrg{s:ByteArray}(hs:s.size<=1048576):∃ b,zaI s=some b /\ (b=true->0 < s.size):=by
 rw[zaI]
 cases he:eqS s (⟨#[]⟩:ByteArray)
 ·have h0:=zwL he
  suffices h:∃ b,zaI s=some b by obtain⟨b,hb⟩:=h;rw[zaI,he]at hb;exact⟨b,hb,fun _=>h0⟩
  rw[zaI,he,show inB ((0:Nat):Int) s.size=true by rw[zev,decide_eq_true_eq];omega,show slB 1 (s.size:Int) s.size=true by rw[zhN,decide_eq_true_eq];omega,zep,zad,zad]
  obtain⟨b1,h1⟩:=zla hs
  obtain⟨b2,h2⟩:=zla (s:=s.extract 1 s.size) (by rw[zdH,zcf,List.length_take,List.length_drop,zbZ];omega)
  cases andB (!false) (eqI (((bget s 0)).toNat:Int) 45)
  ·exact⟨b1,h1⟩
  ·rw[cond_true]
   cases eqS (s.extract 1 s.size) (⟨#[48]⟩:ByteArray)
   ·exact⟨b2,h2⟩
   ·exact⟨_,rfl⟩
 ·rw[zhf]at he;subst he
  exact⟨false,by decide +kernel,fun h=>by cases h⟩
theorem znf(s:ByteArray):∀(q:Nat) (i:Int) (k:Nat),k+q<=s.size->∃ r,za8 s q i k=some r
 |0,i,k,_=>⟨_,rfl⟩
 |q+1,i,k,h=>by
  rw[za8,zfo (show k < s.size by omega),Option.bind_some]
  exact znf s q _ (k+1) (by omega)
theorem ztf{s:ByteArray}(hs:s.size<=1048576):∃ r,zbT s=some r:=by
 obtain⟨b,hb,hb2⟩:=zrg hs
 rw[zbT,hb,Option.bind_some]
 cases b
 ·exact⟨_,rfl⟩
 ·have h0:=hb2 rfl
  rw[Bool.not_true,cond_false,zfo h0,Option.bind_some,show slB 1 (s.size:Int) s.size=true by rw[zhN,decide_eq_true_eq];omega,zad,za0,Option.bind_some]
  have hl:(bif eqI ((bget s 0).toNat:Int) 45 then s.extract 1 s.size else s).size<=1048576:=by
   cases eqI ((bget s 0).toNat:Int) 45
   ·exact hs
   ·rw[cond_true,zdH,zcf,List.length_take,List.length_drop,zbZ];omega
  generalize (bif eqI ((bget s 0).toNat:Int) 45 then s.extract 1 s.size else s)=u at hl
  obtain⟨r,hr⟩:=znf u u.size 0 0 (by omega)
  rw[hr,za3 _ (by rw[zdt,decide_eq_true_eq];omega)]
  simp only[Option.bind_some,za0]
  exact⟨_,rfl⟩
def vp (l:List UInt8):Int × Int:=(zbT (bs l)).getD (0,0)
theorem zpk{l:List UInt8}(hl:l.length<=1048576):zbT (bs l)=some (vp l):=by
 obtain⟨r,hr⟩:=ztf (s:=bs l) (by rw[zcf];exact hl)
 rw[vp,hr];rfl
attribute [irreducible] vp
def tokM (c:UInt8)(r:List UInt8):(Int × List UInt8 × Int) ⊕ Int:=
 if letB c=true then .inl (1,c::r.takeWhile wrdB,0)
 else if(orB (eqI (c.toNat:Int) 45) (digB c))=true then
  (if(vp (c::r.takeWhile wrdB)).2=0 then .inl (2,c::r.takeWhile wrdB,(vp (c::r.takeWhile wrdB)).1) else .inr (vp (c::r.takeWhile wrdB)).2)
 else if symB c=true then .inl (3,[c],0)
 else if c.toNat=10 then .inl (4,[10],0)
 else .inr 14
theorem zj1{c:UInt8}{r:List UInt8}{x:Int × List UInt8 × Int}(h:tokM c r=.inl x):1<=x.2.1.length /\ x.2.1.length<=r.length+1:=by
 have hw:(r.takeWhile wrdB).length<=r.length:=(List.takeWhile_prefix wrdB).length_le
 rw[tokM]at h
 repeat' split at h
 all_goals first |(injection h with h;subst h;simp only[List.length_cons,List.length_nil];omega)|cases h
theorem zec{p:UInt8->Bool}(l:List UInt8):l.take (takeN p l)=l.takeWhile p:=by
 rw[takeN]
 exact(List.prefix_iff_eq_take.1 (List.takeWhile_prefix p)).symm
theorem zpf{s:ByteArray}(hs:s.size<=1048576){k:Nat}{c:UInt8}{r:List UInt8}(hd:(bl s).drop k=c::r) :
  zet 67108864 s (k:Int)=some (match tokM c r with|.inl x=>(⟨x.1,bs x.2.1,x.2.2,(k:Int)⟩,0)|.inr e=>(⟨0,bs [],0,0⟩,e)):=by
 obtain⟨e1,e2,e3⟩:=drop_cons hd
 rw[zbZ]at e2
 have hg:getS s (k:Int)=some c:=by rw[getS,if_pos (by omega),Int.toNat_natCast,zhe];exact e1
 have hlen:r.length+1+k=s.size:=by have:=congrArg List.length hd;rw[List.length_drop,zbZ,List.length_cons]at this;omega
 have hw:takeN wrdB r<=r.length:=(List.takeWhile_prefix wrdB).length_le
 have hx:∀ n,n<=r.length->s.extract k (k+(n+1))=bs (c::r.take n):=fun n hn=>by
  rw[zdH,hd,show k+(n+1) - k=n+1 by omega,List.take_succ_cons]
 have hx0:s.extract k (k+1)=bs [c]:=by have:=hx 0 (by omega);simpa using this
 rw[zet,hg,Option.bind_some,show zdE c=some (letB c) from rfl,Option.bind_some,tokM]
 cases hl:letB c
 ·simp only[cond_false,Bool.false_eq_true,if_false]
  rw[show zdm c=some (digB c) from rfl]
  simp only[Option.isSome_some,Option.getD_some,zep,zad]
  cases hn:orB (eqI (c.toNat:Int) 45) (digB c)
  ·simp only[cond_false,Bool.false_eq_true,if_false]
   rw[show zfy c=some (symB c) from rfl,Option.bind_some]
   cases hy:symB c
   ·simp only[cond_false,Bool.false_eq_true,if_false,zaL]
    by_cases h10:c.toNat=10
    ·rw[if_pos h10,show(c.toNat:Int)=10 by omega];rfl
    ·rw[if_neg h10,decide_eq_false (by omega)];rfl
   ·simp only[cond_true,if_true]
    rw[wrapN (by omega) (by omega),za3 _ (by rw[zhN,decide_eq_true_eq];omega),show((k:Int)+1).toNat=k+1 by omega,Int.toNat_natCast,hx0]
  ·simp only[cond_true,if_true]
   rw[wrapN (by omega) (by omega),show(k:Int)+1=((k+1:Nat):Int) from rfl,zkW hs (by omega),Option.bind_some,e3,za3 _ (by rw[zhN,decide_eq_true_eq];omega),Int.toNat_natCast,Int.toNat_natCast,show k+1+takeN wrdB r=k+(takeN wrdB r+1) by omega,hx _ hw,zec,zpk (by simp only[List.length_cons];rw[takeN]at hw;omega),Option.bind_some,zaL]
   generalize vp (c::r.takeWhile wrdB)=v
   by_cases hv:v.2=0
   ·rw[if_pos hv,decide_eq_true hv];rfl
   ·rw[if_neg hv,decide_eq_false hv];rfl
 ·simp only[cond_true,if_true]
  have hwc:wrdB c=true:=by rw[wrdB,hl];rfl
  rw[zkW hs (by omega),Option.bind_some,hd,takeN,List.takeWhile_cons,if_pos hwc,List.length_cons,<- takeN,za3 _ (by rw[zhN,decide_eq_true_eq];omega),Int.toNat_natCast,Int.toNat_natCast,hx _ hw,zec]
inductive Lx|skip (k:Nat)|tok (x:Int × List UInt8 × Int)|bad (e:Int)
def znP(c:UInt8)(r:List UInt8):Lx:=
 if c.toNat=32 \/ c.toNat=9 then .skip 0
 else if c.toNat=35 then .skip (takeN ze2 r)
 else match tokM c r with|.inr e=>.bad e|.inl x=>.tok x
def putT (t:Token):List Token ⊕ (Int × Int)->List Token ⊕ (Int × Int)
 |.inl ts=>.inl (t::ts)
 |.inr e=>.inr e
def lexM:Nat->List UInt8->Int->List Token ⊕ (Int × Int)
 |0,_,_=>.inl []
 |n+1,l,a=>match l with
  |[]=>.inl []
  |c::r=>match znP c r with
   |.skip k=>lexM n (r.drop k) (a+((k+1:Nat):Int))
   |.bad e=>.inr (e,a)
   |.tok x=>putT ⟨x.1,bs x.2.1,x.2.2,a⟩ (lexM n ((c::r).drop x.2.1.length) (a+((x.2.1.length:Nat):Int)))
theorem znn(n:Nat)(a:Int):lexM n [] a=.inl []:=by cases n<;>rfl
theorem ziJ(n:Nat)(c:UInt8)(r:List UInt8)(a:Int):lexM (n+1) (c::r) a=match znP c r with
   |.skip k=>lexM n (r.drop k) (a+((k+1:Nat):Int))
   |.bad e=>.inr (e,a)
   |.tok x=>putT ⟨x.1,bs x.2.1,x.2.2,a⟩ (lexM n ((c::r).drop x.2.1.length) (a+((x.2.1.length:Nat):Int))):=rfl
def outS (acc:List Token)(o:List Token ⊕ (Int × Int)):List Token × Int × Int:=match o with
 |.inl ts=>(acc++ts,0,0)
 |.inr (e,a)=>([],e,a)
theorem zoC{c:UInt8}{r:List UInt8}{e:Int}(h:tokM c r=.inr e):e ≠ 0:=by
 rw[tokM]at h
 repeat' split at h
 all_goals first |(injection h with h;subst h;first|assumption|decide)|cases h
theorem zgs{F:Nat}(hF:F=67108864){s:ByteArray}(hs:s.size<=1048576):∀(n q k:Nat) (acc:List Token),k<=s.size->s.size<=k+n->s.size < k+q->acc.length<=k ->
  zbH F s q acc (k:Int)=some (outS acc (lexM n ((bl s).drop k) (k:Int)))
 |n,0,k,acc,hk,_,hq,_=>absurd hq (by omega)
 |n,q+1,k,acc,hk,hn,hq,ha=>by
  cases hd:(bl s).drop k with
  |nil=>
   have:=List.drop_eq_nil_iff.1 hd
   rw[zbZ]at this
   obtain rfl:k=s.size:=by omega
   rw[zbH,show ltI ((s.size:Nat):Int) ((s.size:Nat):Int)=false by rw[za2,decide_eq_false_iff_not];omega]
   rw[znn];simp[outS]
  |cons c r=>
   obtain⟨e1,e2,e3⟩:=drop_cons hd
   rw[zbZ]at e2
   have hlen:r.length+1+k=s.size:=by have:=congrArg List.length hd;rw[List.length_drop,zbZ,List.length_cons]at this;omega
   obtain⟨n,rfl⟩:∃ m,n=m+1:=⟨n - 1,by omega⟩
   have hg:getS s (k:Int)=some c:=by rw[getS,if_pos (by omega),Int.toNat_natCast,zhe];exact e1
   rw[zbH,ziJ,znP,show ltI (k:Int) ((s.size:Nat):Int)=true by rw[za2,decide_eq_true_eq];omega,cond_true,hg,Option.bind_some]
   simp only[zaL,za0,Option.bind_some]
   by_cases hb:c.toNat=32 \/ c.toNat=9
   ·rw[if_pos hb,show(bif decide ((c.toNat:Int)=32) then decide ((c.toNat:Int)=32) else decide ((c.toNat:Int)=9))=true by
     rcases hb with h|h<;>simp[h],cond_true,wrapN (by omega) (by omega)]
    have ih:=zgs hF hs n q (k+1) acc (by omega) (by omega) (by omega) (by omega)
    rw[e3]at ih
    rw[show(k:Int)+1=((k+1:Nat):Int) from rfl,ih];rfl
   ·rw[if_neg hb,show(bif decide ((c.toNat:Int)=32) then decide ((c.toNat:Int)=32) else decide ((c.toNat:Int)=9))=false by
     simp only[cond_eq_ite];have:¬ ((c.toNat:Int)=32):=by omega
     have:¬ ((c.toNat:Int)=9):=by omega
     simp[*],cond_false]
    by_cases hc:c.toNat=35
    ·have hnl:ze2 c=true:=by simp[ze2,zaL];omega
     have hw:takeN ze2 r<=r.length:=(List.takeWhile_prefix ze2).length_le
     rw[if_pos hc,show decide ((c.toNat:Int)=35)=true by simp;omega,cond_true,show zes F s (k:Int)=_ from by subst hF;exact zpg hs (by omega),Option.bind_some,hd,takeN,List.takeWhile_cons,if_pos hnl,List.length_cons,<- takeN]
     have ih:=zgs hF hs n q (k+(takeN ze2 r+1)) acc (by omega) (by omega) (by omega) (by omega)
     rw[ih,<- List.drop_drop,hd,List.drop_succ_cons]
     rfl
    ·rw[if_neg hc,show decide ((c.toNat:Int)=35)=false by simp;omega,cond_false,show zet F s (k:Int)=_ from by subst hF;exact zpf hs hd,Option.bind_some]
     cases ht:tokM c r with
     |inr e=>
      have:=zoC ht
      rw[show decide (e=0)=false by simpa using this];rfl
     |inl x=>
      obtain⟨l1,l2⟩:=zj1 ht
      dsimp only
      rw[decide_eq_true rfl,Bool.not_true,cond_false,List.length_singleton,zaK (by omega) (by omega),zad,zcf,wrapN (by omega) (by omega)]
      have ih:=zgs hF hs n q (k+x.2.1.length) (acc++[⟨x.1,bs x.2.1,x.2.2,(k:Int)⟩]) (by omega) (by omega) (by omega) (by rw[List.length_append,List.length_singleton];omega)
      rw[<- List.drop_drop,hd]at ih
      rw[show(k:Int)+((x.2.1.length:Nat):Int)=((k+x.2.1.length:Nat):Int) from rfl,ih]
      rcases lexM n ((c::r).drop x.2.1.length) ((k+x.2.1.length:Nat):Int) with ts |⟨e,a⟩
      ·simp[outS,putT]
      ·rfl
def zio(s:ByteArray):List Token × Fault:=if 16384 < s.size then([],⟨4,0⟩) else match lexM s.size (bl s) 0 with
 |.inl ts=>(ts,⟨0,0⟩)
 |.inr (e,a)=>([],⟨e,a⟩)
theorem zq2{F:Nat}(hF:F=67108864)(s:ByteArray):zfA F s=some (zio s):=by
 rw[zfA,zio,za2]
 by_cases h:16384 < s.size
 ·rw[if_pos h,decide_eq_true (by omega)];rfl
 ·rw[if_neg h,decide_eq_false (by omega),cond_false]
  have:=zgs hF (s:=s) (by omega) s.size F 0 [] (by omega) (by omega) (by omega) (by simp)
  rw[Int.natCast_zero,List.drop_zero]at this
  rw[this]
  rcases lexM s.size (bl s) 0 with ts |⟨e,a⟩<;>rfl
theorem zoI{c:UInt8}{r:List UInt8}{x:Int × List UInt8 × Int}(h:znP c r=.tok x):tokM c r=.inl x /\ ¬ (c.toNat=32 \/ c.toNat=9) /\ c.toNat ≠ 35:=by
 rw[znP]at h
 repeat' split at h
 all_goals first |(injection h with h;subst h;exact⟨by assumption,by assumption,by assumption⟩)|cases h
theorem zmy:∀(n:Nat) (l:List UInt8) (a:Int) {ts:List Token},lexM n l a=.inl ts->ts.length<=l.length
 |0,_,_,ts,h=>by injection h with h;subst h;simp
 |n+1,[],_,ts,h=>by injection h with h;subst h;simp
 |n+1,c::r,a,ts,h=>by
  rw[ziJ]at h
  split at h
  ·have:=zmy n _ _ h;simp only[List.length_cons,List.length_drop]at this ⊢;omega
  ·cases h
  ·rename_i x hx
   obtain⟨l1,l2⟩:=zj1 (zoI hx).1
   cases h':lexM n ((c::r).drop x.2.1.length) (a+((x.2.1.length:Nat):Int)) with
   |inl ts'=>
    have:=zmy n _ _ h'
    rw[h']at h
    injection h with h;subst h
    simp only[List.length_cons,List.length_drop]at this ⊢;omega
   |inr e=>rw[h']at h;cases h
end Go.Dc.Pa
end
section
namespace Go.Dc
open Go Go.Hw Go.Proofs
def zbd(s5:ByteArray):Nat->Nat->Option (Unit ⊕ Bool)
 |0,k51=>some (.inl ())
 |q63+1,k51=>Option.bind (s5[k51]?) (fun c68=>cond (orB (ltI (c68.toNat:Int) 48) (ltI 57 (c68.toNat:Int))) (some (.inr false)) (zbd s5 q63 (k51+1)))
def zcH(a0:ByteArray):Option Bool:=
 cond (eqS a0 (⟨#[48]⟩:ByteArray)) (some true) (zai (orB (!(ltI 0 ((a0.size:Nat):Int))) (inB ((0:Nat):Int) a0.size)) (Option.bind (α:=ByteArray) (cond (andB (ltI 0 ((a0.size:Nat):Int)) (eqI (((bget a0 0)).toNat:Int) 45)) (zai (slB 1 (a0.size:Int) a0.size) (some (a0.extract 1 a0.size))) (some (a0))) (fun s5=>zai (orB (!(!(eqS s5 (⟨#[]⟩:ByteArray)))) (inB ((0:Nat):Int) s5.size)) (cond (orB (eqS s5 (⟨#[]⟩:ByteArray)) (eqI (((bget s5 0)).toNat:Int) 48)) (some false) (Option.bind (α:=Unit ⊕ Bool) (zai (lenB s5.size) (Option.bind (zbd s5 s5.size 0) (fun o=>match o with|.inl _=>some (.inl ())|.inr r71=>some (.inr r71)))) (fun o=>match o with|.inl _=>some true|.inr r72=>some r72))))))
theorem zi7{a0:ByteArray}{r:Bool}(hs:zcH a0=some r):At Tryz.prog 96 [sV a0] (bV r):=by
 refine zab (by kernel_rfl) fun hb=>?_
 refine zac mixed Tryz.func96 (by kernel_rfl) rfl (by kernel_rfl) rfl fun Q hQ=>?_
 rw[zcH]at hs
 refine goR f0 ?_
 revert hs;refine cS f0 ?_ ?_<;>intro h1 hs
 ·refine goR f0 ?_
  obtain rfl:=sj hs
  exact hQ _ _ (rg f0 (Gh.refl _))
 ·obtain⟨g2,hs⟩:=zaa hs
  have g2a:(ltI 0 ((a0.size:Nat):Int))=true->0<=((0:Nat):Int):=fun hg=>(zat g2 hg).1
  have g2c:(ltI 0 ((a0.size:Nat):Int))=true->a0[0]?=some (bget a0 0):=fun hg=>by simpa using (zat g2 hg).2.2
  have F1:=an g2a g2c
  refine goG2 F1 F1 ?_
  revert hs;refine bK fun o7 e6 hs=>?_
  refine zaj (fun(v:ByteArray) (σ:St)=>some (v)=some o7 /\ σ.env 0=sV v /\ 3<=σ.gen) (by rfl) (fun Q hK8 hX9=>?_) (fun s5 σ1 hp=>?_)
  ·refine goG F1 F1 ?_
   revert e6;refine cS F1 ?_ ?_<;>intro h10 e6
   ·obtain⟨g11,e6⟩:=zaa e6
    obtain⟨g11a,g11b,g11c⟩:=ze0 g11
    have F2:=an F1 (an g11a (an g11b g11c))
    refine goG F2 F2 ?_
    exact hK8 (a0.extract 1 a0.size) _ _ (Gh.refl _) ⟨e6,pv F2,pg⟩
   ·refine goG F1 F1 ?_
    exact hK8 a0 _ _ (Gh.refl _) ⟨e6,pv F1,pg⟩
  ·obtain⟨e6,h2_0,n2_g⟩:=hp
   obtain rfl:=sj e6
   try dsimp only at hs
   obtain⟨g12,hs⟩:=zaa hs
   have g12a:(!(eqS s5 (⟨#[]⟩:ByteArray)))=true->0<=((0:Nat):Int):=fun hg=>(zat g12 hg).1
   have g12c:(!(eqS s5 (⟨#[]⟩:ByteArray)))=true->s5[0]?=some (bget s5 0):=fun hg=>by simpa using (zat g12 hg).2.2
   have F3:=an h2_0 (an g2a (an g2c (an g12a g12c)))
   refine goG F3 F3 ?_
   revert hs;refine cS F3 ?_ ?_<;>intro h13 hs
   ·refine goG F3 F3 ?_
    obtain rfl:=sj hs
    exact hQ _ _ (rg F3 (Gh.refl _))
   ·refine goG2 F3 F3 ?_
    revert hs;refine bK fun o42 e41 hs=>?_
    refine zaj (fun(v:Unit) (σ:St)=>some (.inl v)=some o42 /\ (σ1.gen+2)<=σ.gen) (by rfl) (fun Q hK43 hX44=>?_) (fun v σ5 hp=>?_)
    ·refine goG F3 F3 ?_
     obtain⟨hb67,e41⟩:=zaa e41
     revert e41;refine bK fun o58 e57 e41=>?_
     refine zaf (fun(v:Nat × Nat) (σ:St)=>zbd s5 v.1 v.2=some o58 /\ v.1+v.2=s5.size /\ σ.env 0=sV s5 /\ σ.env 3=iV .i64 ((v.2:Nat):Int) /\ (σ1.gen+2)<=σ.gen) (fun v=>v.1) _ (Gh.refl _) (s5.size,0) ⟨e57,by first|omega|simp |(simp;omega),pv F3,pv F3,pg⟩ fun v σ8 hp L59 hL60=>?_
     obtain⟨q62,k51⟩:=v
     dsimp only at hp hL60
     obtain⟨e57,hd61,h7_0,h7_3,n7_g⟩:=hp
     rcases q62 with _|q63
     ·have hlt64:¬ k51 < s5.size:=by omega
      rw[zbd]at e57;try dsimp only at e57
      have F4:=an h7_0 (an h7_3 (an g2a (an g2c (an g12a g12c))))
      refine goR F4 ?_
      refine zaF (by simp[ltI];omega) ?_
      obtain rfl:=sj e57
      try dsimp only at e41
      exact hK43 () _ _ (Gh.refl _) ⟨e41,pg⟩
     ·have hlt64:k51 < s5.size:=by omega
      have ew65:=za1 hlt64 hb67
      rw[zbd]at e57;try dsimp only at e57
      have F5:=an h7_0 (an h7_3 (an g2a (an g2c (an g12a (an g12c (an hlt64 ew65))))))
      refine goR F5 ?_
      refine zaB (by simp[ltI];omega) ?_
      revert e57;refine bK fun c68 hx69 e57=>?_
      have hx69b:=zbf hx69
      have hx69g:=zcd hx69
      have F6:=an F5 (an hx69 hx69g)
      refine goG F6 F6 ?_
      revert e57;refine cS F6 ?_ ?_<;>intro h70 e57
      ·refine goG F6 F6 ?_
       obtain rfl:=sj e57
       try dsimp only at e41
       obtain rfl:=sj e41
       try dsimp only at hs
       refine hX44 _ _ (by simp) ?_
       refine goG F6 F6 ?_
       obtain rfl:=sj hs
       exact hQ _ _ (rg F6 (Gh.refl _))
      ·refine goG F6 F6 ?_
       exact hL60 (q63,(k51+1)) _ _ (Gh.refl _) ⟨e57,(by first|omega |(simp;omega)),pv F6,pv F6,pg⟩ (by omega)
    ·obtain⟨e41,n6_g⟩:=hp
     obtain rfl:=sj e41
     try dsimp only at hs
     have F7:=an F1 (an g12a g12c)
     refine goG F7 F7 ?_
     obtain rfl:=sj hs
     exact hQ _ _ (rg F7 (Gh.refl _))
def zbz(a0:ByteArray):Nat->Int->Nat->Option Int
 |0,i60,k61=>some (i60)
 |q74+1,i60,k61=>Option.bind (a0[k61]?) (fun c79=>cond (!(eqI (c79.toNat:Int) 45)) (zbz a0 q74 (IntKind.i64.wrap (IntKind.i64.wrap (10 * i60)+IntKind.i64.wrap (IntKind.u8.wrap ((c79.toNat:Int) - 48)))) (k61+1)) (zbz a0 q74 i60 (k61+1)))
def zff(a0:ByteArray):Option (Int × Int):=
 Option.bind (zcH a0) (fun y1=>cond (!y1) (some (0,16)) (cond (ltI 11 ((a0.size:Nat):Int)) (some (0,2)) (Option.bind (α:=Int) (zai (lenB a0.size) (Option.bind (zbz a0 a0.size 0 0) (fun i67=>some (i67)))) (fun i41=>Option.bind (a0[0]?) (fun c82=>cond (eqI (c82.toNat:Int) 45) (cond (orB (ltI (IntKind.i64.wrap (0 - i41)) (-2147483648)) (ltI 2147483647 (IntKind.i64.wrap (0 - i41)))) (some (0,2)) (some (IntKind.i64.wrap (0 - i41),0))) (cond (orB (ltI i41 (-2147483648)) (ltI 2147483647 i41)) (some (0,2)) (some (i41,0))))))))
theorem zlP{a0:ByteArray}{r:Int × Int}(hs:zff a0=some r):At Tryz.prog 74 [sV a0] (.tup [iV .i64 r.1,iV .i64 r.2]):=by
 refine zab (by kernel_rfl) fun hb=>?_
 refine zac mixed Tryz.func74 (by kernel_rfl) rfl (by kernel_rfl) rfl fun Q hQ=>?_
 rw[zff]at hs
 refine goR f0 ?_
 revert hs;refine bK fun y1 hx2 hs=>?_
 refine cP f0 (zi7 hx2) ?_
 refine goR f0 ?_
 revert hs;refine cS f0 ?_ ?_<;>intro h3 hs
 ·refine goR f0 ?_
  obtain rfl:=sj hs
  exact hQ _ _ (rg f0 (Gh.refl _))
 ·refine goR f0 ?_
  revert hs;refine cS f0 ?_ ?_<;>intro h4 hs
  ·refine goR f0 ?_
   obtain rfl:=sj hs
   exact hQ _ _ (rg f0 (Gh.refl _))
  ·refine goR2 f0 ?_
   revert hs;refine bK fun o43 e42 hs=>?_
   refine zaj (fun(v:Int) (σ:St)=>some (v)=some o43 /\ σ.env 0=sV a0 /\ σ.env 4=iV .i64 v /\ 5<=σ.gen) (by rfl) (fun Q hK44 hX45=>?_) (fun i41 σ3 hp=>?_)
   ·refine goR f0 ?_
    obtain⟨hb78,e42⟩:=zaa e42
    revert e42;refine bK fun o69 e68 e42=>?_
    refine zaf (fun(v:Nat × Int × Nat) (σ:St)=>zbz a0 v.1 v.2.1 v.2.2=some o69 /\ v.1+v.2.2=a0.size /\ σ.env 0=sV a0 /\ σ.env 4=iV .i64 v.2.1 /\ σ.env 5=iV .i64 ((v.2.2:Nat):Int) /\ 5<=σ.gen) (fun v=>v.1) _ (Gh.refl _) (a0.size,0,0) ⟨e68,by first|omega|simp |(simp;omega),pv f0,pv f0,pv f0,pg⟩ fun v σ6 hp L70 hL71=>?_
    obtain⟨q73,i60,k61⟩:=v
    dsimp only at hp hL71
    obtain⟨e68,hd72,h5_0,h5_4,h5_5,n5_g⟩:=hp
    rcases q73 with _|q74
    ·have hlt75:¬ k61 < a0.size:=by omega
     rw[zbz]at e68;try dsimp only at e68
     have F1:=an h5_0 (an h5_4 h5_5)
     refine goR F1 ?_
     refine zaF (by simp[ltI];omega) ?_
     obtain rfl:=sj e68
     try dsimp only at e42
     exact hK44 i60 _ _ (Gh.refl _) ⟨e42,pv F1,pv F1,pg⟩
    ·have hlt75:k61 < a0.size:=by omega
     have ew76:=za1 hlt75 hb78
     rw[zbz]at e68;try dsimp only at e68
     have F2:=an h5_0 (an h5_4 (an h5_5 (an hlt75 ew76)))
     refine goR F2 ?_
     refine zaB (by simp[ltI];omega) ?_
     revert e68;refine bK fun c79 hx80 e68=>?_
     have hx80b:=zbf hx80
     have hx80g:=zcd hx80
     have F3:=an F2 (an hx80 hx80g)
     refine goR F3 ?_
     revert e68;refine cS F3 ?_ ?_<;>intro h81 e68
     ·refine goR F3 ?_
      exact hL71 (q74,IntKind.i64.wrap (IntKind.i64.wrap (10 * i60)+IntKind.i64.wrap (IntKind.u8.wrap ((c79.toNat:Int) - 48))),(k61+1)) _ _ (Gh.refl _) ⟨e68,(by first|omega |(simp;omega)),pv F3,pv F3,pv F3,pg⟩ (by omega)
     ·refine goR F3 ?_
      exact hL71 (q74,i60,(k61+1)) _ _ (Gh.refl _) ⟨e68,(by first|omega |(simp;omega)),pv F3,pv F3,pv F3,pg⟩ (by omega)
   ·obtain⟨e42,h4_0,h4_4,n4_g⟩:=hp
    obtain rfl:=sj e42
    try dsimp only at hs
    revert hs;refine bK fun c82 hx83 hs=>?_
    have hx83b:=zbf hx83
    have hx83g:=zcd hx83
    have F4:=an h4_0 (an h4_4 (an hx83 hx83g))
    refine goR F4 ?_
    revert hs;refine cS F4 ?_ ?_<;>intro h84 hs
    ·refine goG F4 F4 ?_
     revert hs;refine cS F4 ?_ ?_<;>intro h85 hs
     ·refine goG F4 F4 ?_
      obtain rfl:=sj hs
      exact hQ _ _ (rg F4 (Gh.refl _))
     ·refine goG F4 F4 ?_
      obtain rfl:=sj hs
      exact hQ _ _ (rg F4 (Gh.refl _))
    ·refine goG F4 F4 ?_
     revert hs;refine cS F4 ?_ ?_<;>intro h86 hs
     ·refine goG F4 F4 ?_
      obtain rfl:=sj hs
      exact hQ _ _ (rg F4 (Gh.refl _))
     ·refine goG F4 F4 ?_
      obtain rfl:=sj hs
      exact hQ _ _ (rg F4 (Gh.refl _))
end Go.Dc
end
section
namespace Go.Dc.Pa
open Go Go.Hw Go.Dc Go.Dc.Pl
theorem zlc(s:ByteArray):∀(q k:Nat),zbd s q k=zav s q k
 |0,k=>rfl
 |q+1,k=>by
  rw[zbd,zav]
  cases s[k]? with
  |none=>rfl
  |some c=>rw[Option.bind_some,Option.bind_some,zlc s q (k+1)]
theorem zf1(l:List UInt8)(i:Nat):(bs l)[i]?=l[i]?:=by rw[zhe,zon]
theorem zlq(l r:List UInt8):eqS (bs l) (bs r)=decide (l=r):=by
 by_cases h:l=r
 ·subst h;rw[zhf.2 rfl];simp
 ·rw[decide_eq_false h]
  cases hh:eqS (bs l) (bs r)
  ·rfl
  ·have:=zhf.1 hh
   have h2:bl (bs l)=bl (bs r):=by rw[this]
   rw[zon,zon]at h2;exact absurd h2 h
theorem zkj(c:UInt8)(r:List UInt8):(bs (c::r)).extract 1 (bs (c::r)).size=bs r:=by
 rw[zdH,zon,zcf];simp
theorem zkn(c:UInt8)(r:List UInt8):bget (bs (c::r)) 0=c:=by rw[bget,zf1];rfl
def digs:List UInt8->Bool
 |[]=>false
 |c::r=>!(r != [] && decide (c.toNat=48)) && (c::r).all digB
theorem zmq(l:List UInt8):∀(q k:Nat),k+q=l.length->zav (bs l) q k=some (if(l.drop k).all digB=true then .inl () else .inr false)
 |0,k,h=>by rw[List.drop_eq_nil_of_le (by omega)];rfl
 |q+1,k,h=>by
  cases hd:l.drop k with
  |nil=>have:=List.drop_eq_nil_iff.1 hd;omega
  |cons c r=>
   obtain⟨e1,e2,e3⟩:=drop_cons hd
   rw[zav,zf1,e1,Option.bind_some,zmq l q (k+1) (by omega),e3,List.all_cons]
   have:orB (ltI (c.toNat:Int) 48) (ltI 57 (c.toNat:Int))=!digB c:=by simp[digB,zbY,zaV]
   rw[this]
   cases digB c<;>simp
def zmr:List UInt8->Bool
 |[]=>false
 |c::r=>if c=45 then(digs r && !(r == [48])) else digs (c::r)
theorem zng(l:List UInt8)(hl:l.length<=1048576):zaI (bs l)=some (zmr l):=by
 have body:∀ x:List UInt8,x.length<=1048576->(zai (orB (!(andB (!(eqS (bs x) (⟨#[]⟩:ByteArray))) (ltI 1 (((bs x).size:Nat):Int)))) (inB ((0:Nat):Int) (bs x).size)) (cond (orB (eqS (bs x) (⟨#[]⟩:ByteArray)) (andB (ltI 1 (((bs x).size:Nat):Int)) (eqI (((bget (bs x) 0)).toNat:Int) 48))) (some false) (Option.bind (α:=Unit ⊕ Bool) (zai (lenB (bs x).size) (Option.bind (zav (bs x) (bs x).size 0) (fun o=>match o with|.inl _=>some (.inl ())|.inr r72=>some (.inr r72)))) (fun o=>match o with|.inl _=>some true|.inr r73=>some r73))))=some (digs x):=fun x hx=>by
  rw[show(⟨#[]⟩:ByteArray)=bs [] from rfl,zlq,zcf,zmq x x.length 0 (by omega),za3 (c:=lenB x.length) _ (by rw[zdt,decide_eq_true_eq];omega),List.drop_zero]
  cases x with
  |nil=>rfl
  |cons c r=>
   rw[zkn,za3 _ (by rw[show inB ((0:Nat):Int) (c::r).length=true by rw[zev,decide_eq_true_eq];simp only[List.length_cons];omega,zep]),digs]
   have e1:orB (decide (c::r=[])) (andB (ltI 1 (((c::r).length:Nat):Int)) (eqI (c.toNat:Int) 48))=(r != [] && decide (c.toNat=48)):=by
    rw[zbY,zaV,za2,zaL]
    have:decide ((1:Int) < (((c::r).length:Nat):Int))=(r != []):=by
     cases r with
     |nil=>rfl
     |cons d r=>rw[decide_eq_true (by simp only[List.length_cons];omega)];rfl
    rw[this]
    have:decide ((c.toNat:Int)=48)=decide (c.toNat=48):=by by_cases h:c.toNat=48<;>simp[h];omega
    rw[this];simp
   rw[e1]
   cases(r != [] && decide (c.toNat=48))
   ·cases h:(c::r).all digB<;>simp[h]
   ·rfl
 cases l with
 |nil=>
  have h:zaI (bs [])=some false:=by kernel_rfl
  exact h
 |cons c r=>
  have he:eqS (bs (c::r)) (⟨#[]⟩:ByteArray)=false:=by rw[show(⟨#[]⟩:ByteArray)=bs [] from rfl,zlq];simp
  rw[zaI,he,show inB ((0:Nat):Int) (bs (c::r)).size=true by rw[zev,zcf,decide_eq_true_eq];simp only[List.length_cons];omega,zep,zad,zkn,zkj,
   show slB 1 ((bs (c::r)).size:Int) (bs (c::r)).size=true by rw[zhN,zcf,decide_eq_true_eq];simp only[List.length_cons];omega,zad,zaV,Bool.not_false,Bool.true_and,zaL,show(⟨#[48]⟩:ByteArray)=bs [48] from rfl,zlq]
  simp only[List.length_cons]at hl
  by_cases h45:c=45
  ·subst h45
   rw[show decide (((45:UInt8).toNat:Int)=45)=true from rfl,cond_true]
   rw[zmr,if_pos rfl]
   by_cases h0:r=[48]
   ·subst h0;rfl
   ·rw[decide_eq_false h0,cond_false]
    have:=body r (by omega)
    rw[show(r == [48])=false by simpa using h0,Bool.not_false,Bool.and_true,<- this]
    rfl
  ·rw[decide_eq_false (by intro h;exact h45 (UInt8.toNat_inj.1 (by show c.toNat=45;omega))),cond_false]
   rw[zmr,if_neg h45]
   exact body (c::r) (by simp only[List.length_cons];omega)
theorem zrh(l:List UInt8)(hl:l.length<=1048576):zcH (bs l)=zaI (bs l):=by
 rcases l with _ |⟨c,r⟩
 ·have h:zcH (bs [])=some false:=by kernel_rfl
  have h2:zaI (bs [])=some false:=by kernel_rfl
  rw[h,h2]
 rw[zng _ hl,zcH,show(⟨#[48]⟩:ByteArray)=bs [48] from rfl,zlq]
 by_cases h0:c::r=[48]
 ·rw[h0];rfl
 rw[decide_eq_false h0,cond_false]
 have body:∀ x:List UInt8,x.length<=1048576->(zai (orB (!(!(eqS (bs x) (⟨#[]⟩:ByteArray)))) (inB ((0:Nat):Int) (bs x).size)) (cond (orB (eqS (bs x) (⟨#[]⟩:ByteArray)) (eqI (((bget (bs x) 0)).toNat:Int) 48)) (some false) (Option.bind (α:=Unit ⊕ Bool) (zai (lenB (bs x).size) (Option.bind (zbd (bs x) (bs x).size 0) (fun o=>match o with|.inl _=>some (.inl ())|.inr r71=>some (.inr r71)))) (fun o=>match o with|.inl _=>some true|.inr r72=>some r72))))=some (digs x && !(x == [48])):=fun x hx=>by
  rw[show(⟨#[]⟩:ByteArray)=bs [] from rfl,zlq,zcf,zlc,zmq x x.length 0 (by omega),za3 (c:=lenB x.length) _ (by rw[zdt,decide_eq_true_eq];omega),List.drop_zero]
  cases x with
  |nil=>rfl
  |cons c r=>
   rw[zkn,za3 _ (by rw[show inB ((0:Nat):Int) (c::r).length=true by rw[zev,decide_eq_true_eq];simp only[List.length_cons];omega,zep]),digs,zbY,zaL,show decide (c::r=[])=false by simp,Bool.false_or]
   by_cases h48:c.toNat=48
   ·rw[decide_eq_true (show(c.toNat:Int)=48 by omega),decide_eq_true h48,cond_true]
    obtain rfl:c=48:=UInt8.toNat_inj.1 h48
    cases r with
    |nil=>rfl
    |cons d r=>simp
   ·rw[decide_eq_false (show ¬ (c.toNat:Int)=48 by omega),decide_eq_false h48,cond_false]
    have:((c::r) == [48])=false:=by
     simp only[beq_eq_false_iff_ne,ne_eq,List.cons.injEq,not_and];intro h;subst h;exact absurd rfl h48
    rw[this]
    cases h:(c::r).all digB<;>simp[h]
 rw[zkn,zkj,zcf,show ltI 0 (((c::r).length:Nat):Int)=true by rw[za2,decide_eq_true_eq];simp only[List.length_cons];omega,show inB ((0:Nat):Int) (c::r).length=true by rw[zev,decide_eq_true_eq];simp only[List.length_cons];omega,zep,zad,zaV,Bool.true_and,zaL,
  show slB 1 ((c::r).length:Int) (c::r).length=true by rw[zhN,decide_eq_true_eq];simp only[List.length_cons];omega,zad]
 simp only[List.length_cons]at hl
 by_cases h45:c=45
 ·subst h45
  rw[show decide (((45:UInt8).toNat:Int)=45)=true from rfl,cond_true]
  rw[zmr,if_pos rfl,Option.bind_some]
  exact body r (by omega)
 ·rw[decide_eq_false (by intro h;exact h45 (UInt8.toNat_inj.1 (by show c.toNat=45;omega))),cond_false]
  rw[zmr,if_neg h45,Option.bind_some]
  refine Eq.trans (body (c::r) (by simp only[List.length_cons];omega)) ?_
  have h0:((c::r) == [48])=false:=by simpa using h0
  rw[h0];simp
def stepD(i:Int)(c:UInt8):Int:=IntKind.i64.wrap (IntKind.i64.wrap (10 * i)+IntKind.i64.wrap (IntKind.u8.wrap ((c.toNat:Int) - 48)))
theorem zib{c:UInt8}:digB c=true ↔ 48<=c.toNat /\ c.toNat<=57:=by
 simp[digB,zaV,za2];omega
theorem ziB(l:List UInt8):∀(q k:Nat) (i:Int),k+q=l.length->za8 (bs l) q i k=some ((l.drop k).foldl stepD i)
 |0,k,i,h=>by rw[List.drop_eq_nil_of_le (by omega)];rfl
 |q+1,k,i,h=>by
  cases hd:l.drop k with
  |nil=>have:=List.drop_eq_nil_iff.1 hd;omega
  |cons c r=>
   obtain⟨e1,e2,e3⟩:=drop_cons hd
   rw[za8,zf1,e1,Option.bind_some,ziB l q (k+1) _ (by omega),e3,List.foldl_cons,stepD,Int.mul_comm 10 i]
theorem zis(l:List UInt8):∀(q k:Nat) (i:Int),k+q=l.length->(l.drop k).all digB=true->zbz (bs l) q i k=some ((l.drop k).foldl stepD i)
 |0,k,i,h,_=>by rw[List.drop_eq_nil_of_le (by omega)];rfl
 |q+1,k,i,h,ha=>by
  cases hd:l.drop k with
  |nil=>have:=List.drop_eq_nil_iff.1 hd;omega
  |cons c r=>
   obtain⟨e1,e2,e3⟩:=drop_cons hd
   rw[hd,List.all_cons,Bool.and_eq_true]at ha
   have hc:=zib.1 ha.1
   rw[zbz,zf1,e1,Option.bind_some,zaL,decide_eq_false (by omega),Bool.not_false,cond_true,zis l q (k+1) _ (by omega) (by rw[e3];exact ha.2),e3,List.foldl_cons,stepD]
theorem zkJ{i:Int}{c:UInt8}(h0:0<=i)(h1:i<=100000000000)(hc:digB c=true):stepD i c=10 * i+((c.toNat:Int) - 48):=by
 have:=zib.1 hc
 rw[stepD,zgT (by omega) (by omega),wrap_i64 (n:=10 * i) (by omega) (by omega),wrap_i64 (n:=(c.toNat:Int) - 48) (by omega) (by omega),wrap_i64 (by omega) (by omega)]
theorem zpS:∀(r:List UInt8) (i:Int),r.all digB=true->0<=i->(i+1) * 10 ^ r.length<=100000000000->i * 10 ^ r.length<=r.foldl stepD i
 |[],i,_,_,_=>by simp
 |c::r,i,ha,h0,h1=>by
  rw[List.all_cons,Bool.and_eq_true]at ha
  have hc:=zib.1 ha.1
  have hp:(0:Int) < 10 ^ r.length:=Int.pow_pos (by decide)
  rw[List.length_cons,Int.pow_succ]at h1 ⊢
  have hi:i<=100000000000:=by
   have:(i+1) * 1<=(i+1) * (10 ^ r.length * 10):=Int.mul_le_mul_of_nonneg_left (by omega) (by omega)
   omega
  rw[List.foldl_cons,zkJ h0 hi ha.1]
  have h2:(10 * i+((c.toNat:Int) - 48)+1) * 10 ^ r.length<=100000000000:=by
   refine Int.le_trans (Int.mul_le_mul_of_nonneg_right (show(10 * i+((c.toNat:Int) - 48)+1)<=(i+1) * 10 by omega) (Int.le_of_lt hp)) ?_
   rw[Int.mul_assoc,Int.mul_comm 10];exact h1
  refine Int.le_trans ?_ (zpS r _ ha.2 (by omega) h2)
  rw[<- Int.mul_assoc,Int.mul_right_comm]
  exact Int.mul_le_mul_of_nonneg_right (by omega) (Int.le_of_lt hp)
theorem ztg(l:List UInt8)(hl:l.length<=1048576):zff (bs l)=zbT (bs l):=by
 rw[zff,zbT,zrh l hl,zng l hl,Option.bind_some,Option.bind_some]
 cases hn:zmr l
 ·rfl
 rcases l with _ |⟨c,r⟩
 ·cases hn
 simp only[List.length_cons]at hl
 rw[zmr]at hn
 simp only[Bool.not_true,cond_false,zf1,List.getElem?_cons_zero,Option.bind_some,zkj]
 simp only[zcf,
  show slB 1 ((c::r).length:Int) (c::r).length=true by rw[zhN,decide_eq_true_eq];simp only[List.length_cons];omega,zad,zaL]
 rw[za3 (c:=lenB (c::r).length) _ (by rw[zdt,decide_eq_true_eq];simp only[List.length_cons];omega)]
 by_cases h45:c=45
 ·subst h45
  rw[if_pos rfl,Bool.and_eq_true]at hn
  have hd:r.all digB=true:=by
   cases r with
   |nil=>rfl
   |cons d q=>have:=hn.1;rw[digs,Bool.and_eq_true]at this;exact this.2
  simp only[show decide (((45:UInt8).toNat:Int)=45)=true from rfl,cond_true,Option.bind_some,zcf]
  have hr:=zis (45::r) r.length 1 0 (by simp;omega) (by simpa using hd)
  have ho:=ziB r r.length 0 0 (by omega)
  rw[List.drop_zero]at ho
  rw[show(45::r).length=r.length+1 from rfl,zbz,zf1,List.getElem?_cons_zero,Option.bind_some,show(!(eqI (((45:UInt8).toNat:Int)) 45))=false from rfl,cond_false,hr,ho,List.drop_succ_cons,List.drop_zero,Option.bind_some,Option.bind_some,
   za3 (c:=lenB r.length) _ (by rw[zdt,decide_eq_true_eq];omega),Option.bind_some]
  by_cases h:10 < r.length
  ·rw[show ltI 11 ((r.length+1:Nat):Int)=true from decide_eq_true (by omega),show ltI 10 (r.length:Int)=true from decide_eq_true (by omega)]
  ·rw[show ltI 11 ((r.length+1:Nat):Int)=false from decide_eq_false (by omega),show ltI 10 (r.length:Int)=false from decide_eq_false (by omega)]
 ·rw[if_neg h45,digs,Bool.and_eq_true]at hn
  have hne:¬ (c.toNat:Int)=45:=by intro h;exact h45 (UInt8.toNat_inj.1 (by show c.toNat=45;omega))
  have hr:=zis (c::r) (c::r).length 0 0 (by omega) (by rw[List.drop_zero];exact hn.2)
  have ho:=ziB (c::r) (c::r).length 0 0 (by omega)
  rw[List.drop_zero]at hr ho
  simp only[decide_eq_false hne,cond_false,Option.bind_some,zcf,hr,ho,za2]
  rw[za3 (c:=lenB (c::r).length) _ (by rw[zdt,decide_eq_true_eq];simp only[List.length_cons];omega)]
  by_cases h:11 < r.length+1
  ·rw[decide_eq_true (show(11:Int) < (((c::r).length:Nat):Int) by simp only[List.length_cons];omega),decide_eq_true (show(10:Int) < (((c::r).length:Nat):Int) by simp only[List.length_cons];omega)];rfl
  ·rw[decide_eq_false (show ¬ (11:Int) < (((c::r).length:Nat):Int) by simp only[List.length_cons];omega),cond_false]
   by_cases h2:10 < r.length+1
   ·rw[decide_eq_true (show(10:Int) < (((c::r).length:Nat):Int) by simp only[List.length_cons];omega),cond_true]
    have hlen:r.length=10:=by omega
    have hne:r ≠ []:=by intro h;rw[h]at hlen;simp at hlen
    have h48:c.toNat ≠ 48:=by
     have:=hn.1
     intro h
     rw[decide_eq_true h]at this
     simp[hne]at this
    have hda:=hn.2
    rw[List.all_cons,Bool.and_eq_true]at hda
    have hc:=zib.1 hda.1
    have e0:stepD 0 c=(c.toNat:Int) - 48:=by rw[zkJ (by omega) (by omega) hda.1];omega
    have hlo:=zpS r (stepD 0 c) hda.2 (by rw[e0];omega) (by rw[e0,hlen,show(10:Int) ^ 10=10000000000 by decide];omega)
    rw[hlen,show(10:Int) ^ 10=10000000000 by decide,e0]at hlo
    rw[List.foldl_cons,e0]
    have:2147483647 < r.foldl stepD ((c.toNat:Int) - 48):=by omega
    rw[decide_eq_true this,zep];rfl
   ·rw[decide_eq_false (show ¬ (10:Int) < (((c::r).length:Nat):Int) by simp only[List.length_cons];omega)];rfl
end Go.Dc.Pa
end
section
namespace Go.Dc
open Go Go.Hw Go.Proofs
def zcO(a0:UInt8):Nat->Int->Option (Unit ⊕ Bool)
 |0,_=>none
 |q50+1,i38=>cond (ltI i38 8) (Option.bind (getS (⟨#[40,41,123,125,44,59,61,58]⟩:ByteArray) i38) (fun c55=>cond (eqI (c55.toNat:Int) (a0.toNat:Int)) (some (.inr true)) (zcO a0 q50 (IntKind.i64.wrap (i38+1))))) (some (.inl ()))
def zdz(fuelN:Nat)(a0:UInt8):Option Bool:=
 Option.bind (α:=Unit ⊕ Bool) (Option.bind (zcO a0 fuelN 0) (fun o=>match o with|.inl _=>some (.inl ())|.inr r58=>some (.inr r58))) (fun o=>match o with|.inl _=>some false|.inr r59=>some r59)
theorem zkp{fuelN:Nat}{a0:UInt8}{r:Bool}(hs:zdz fuelN a0=some r):At Tryz.prog 70 [iV .u8 (a0.toNat:Int)] (bV r):=by
 refine zab (by kernel_rfl) fun hb=>?_
 refine zac mixed Tryz.func70 (by kernel_rfl) rfl (by kernel_rfl) rfl fun Q hQ=>?_
 rw[zdz]at hs
 refine goR2 f0 ?_
 revert hs;refine bK fun o29 e28 hs=>?_
 refine zaj (fun(v:Unit) (σ:St)=>some (.inl v)=some o29 /\ 2<=σ.gen) (by rfl) (fun Q hK30 hX31=>?_) (fun v σ3 hp=>?_)
 ·refine goR f0 ?_
  revert e28;refine bK fun o45 e44 e28=>?_
  refine zaf (fun(v:Nat × Int) (σ:St)=>zcO a0 v.1 v.2=some o45 /\ σ.env 0=iV .u8 (a0.toNat:Int) /\ σ.env 3=iV .i64 v.2 /\ 2<=σ.gen) (fun v=>v.1) _ (Gh.refl _) (fuelN,0) ⟨e44,pv f0,pv f0,pg⟩ fun v σ6 hp L46 hL47=>?_
  obtain⟨q49,i38⟩:=v
  dsimp only at hp hL47
  obtain⟨e44,h5_0,h5_3,n5_g⟩:=hp
  rcases q49 with _|q50
  ·rw[zcO]at e44;cases e44
  ·rw[zcO]at e44;try dsimp only at e44
   have F1:=an h5_0 h5_3
   refine goR F1 ?_
   revert e44;refine cS F1 ?_ ?_<;>intro h54 e44
   ·revert e44;refine bK fun c55 hx56 e44=>?_
    obtain⟨hx56a,hx56b,hx56c,hx56d⟩:=zgz hx56
    have hx56g:=zcd hx56d
    have F2:=an F1 (an hx56d (an hx56a hx56g))
    refine goR F2 ?_
    revert e44;refine cS F2 ?_ ?_<;>intro h57 e44
    ·refine goR F2 ?_
     obtain rfl:=sj e44
     try dsimp only at e28
     obtain rfl:=sj e28
     try dsimp only at hs
     refine hX31 _ _ (by simp) ?_
     refine goR F2 ?_
     obtain rfl:=sj hs
     exact hQ _ _ (rg F2 (Gh.refl _))
    ·refine goR F2 ?_
     exact hL47 (q50,IntKind.i64.wrap (i38+1)) _ _ (Gh.refl _) ⟨e44,pv F2,pv F2,pg⟩ (by omega)
   ·refine goR F1 ?_
    obtain rfl:=sj e44
    try dsimp only at e28
    exact hK30 () _ _ (Gh.refl _) ⟨e28,pg⟩
 ·obtain⟨e28,n4_g⟩:=hp
  obtain rfl:=sj e28
  try dsimp only at hs
  refine goR f0 ?_
  obtain rfl:=sj hs
  exact hQ _ _ (rg f0 (Gh.refl _))
def zdA(a0:UInt8):Option Bool:=
 some (orB (andB (!(ltI (a0.toNat:Int) 97)) (!(ltI 122 (a0.toNat:Int)))) (andB (!(ltI (a0.toNat:Int) 65)) (!(ltI 90 (a0.toNat:Int)))))
theorem zgO{a0:UInt8}{r:Bool}(hs:zdA a0=some r):At Tryz.prog 72 [iV .u8 (a0.toNat:Int)] (bV r):=by
 refine zab (by kernel_rfl) fun hb=>?_
 refine zac mixed Tryz.func72 (by kernel_rfl) rfl (by kernel_rfl) rfl fun Q hQ=>?_
 rw[zdA]at hs
 refine goG f0 f0 ?_
 obtain rfl:=sj hs
 exact hQ _ _ (rg f0 (Gh.refl _))
def zdg(a0:UInt8):Option Bool:=
 some (andB (!(ltI (a0.toNat:Int) 48)) (!(ltI 57 (a0.toNat:Int))))
theorem zhH{a0:UInt8}{r:Bool}(hs:zdg a0=some r):At Tryz.prog 73 [iV .u8 (a0.toNat:Int)] (bV r):=by
 refine zab (by kernel_rfl) fun hb=>?_
 refine zac mixed Tryz.func73 (by kernel_rfl) rfl (by kernel_rfl) rfl fun Q hQ=>?_
 rw[zdg]at hs
 refine goG f0 f0 ?_
 obtain rfl:=sj hs
 exact hQ _ _ (rg f0 (Gh.refl _))
def zdB(a0:UInt8):Option Bool:=
 Option.bind (zdA a0) (fun y1=>zai (orB (!(!y1)) ((zdg a0).isSome)) (some (orB (orB y1 ((zdg a0).getD default)) (eqI (a0.toNat:Int) 95))))
theorem zkq{a0:UInt8}{r:Bool}(hs:zdB a0=some r):At Tryz.prog 71 [iV .u8 (a0.toNat:Int)] (bV r):=by
 refine zab (by kernel_rfl) fun hb=>?_
 refine zac mixed Tryz.func71 (by kernel_rfl) rfl (by kernel_rfl) rfl fun Q hQ=>?_
 rw[zdB]at hs
 refine goR f0 ?_
 revert hs;refine bK fun y1 hx2 hs=>?_
 refine cP f0 (zgO hx2) ?_
 refine goG f0 f0 ?_
 obtain⟨g3,hs⟩:=zaa hs
 refine zaZ (fun hg=>zhH (zaQ g3 hg)) (fun hg=>by(try simp at hg);(first|simp[hg,id]);try rfl) (fun hg=>by(try simp at hg);simp[hg,id]) (by simp) ?_
 refine goG f0 f0 ?_
 obtain rfl:=sj hs
 exact hQ _ _ (rg f0 (Gh.refl _))
def zbq(a0:ByteArray):Nat->Int->Option Int
 |0,_=>none
 |q55+1,i43=>zai (orB (!(ltI i43 ((a0.size:Nat):Int))) (inB i43 a0.size)) (zai (orB (!(ltI i43 ((a0.size:Nat):Int))) ((zdB (bget a0 ((i43).toNat))).isSome)) (cond (andB (ltI i43 ((a0.size:Nat):Int)) ((zdB (bget a0 ((i43).toNat))).getD default)) (zbq a0 q55 (IntKind.i64.wrap (i43+1))) (some (i43))))
def zfc(fuelN:Nat)(a0:ByteArray):Option (Token × Int):=
 Option.bind (a0[0]?) (fun c1=>cond (eqI (c1.toNat:Int) 10) (some (({ Kind:=4,Text:=(⟨#[10]⟩:ByteArray),N:=0,At:=0 }:Token),0)) (Option.bind (zdz fuelN c1) (fun y4=>cond y4 (zai (slB 0 1 a0.size) (some (({ Kind:=3,Text:=a0.extract 0 1,N:=0,At:=0 }:Token),0))) (Option.bind (α:=Int) (Option.bind (zbq a0 fuelN 1) (fun i48=>some (i48))) (fun i33=>Option.bind (zdA c1) (fun y62=>cond y62 (zai (slB 0 i33 a0.size) (some (({ Kind:=1,Text:=a0.extract 0 ((i33).toNat),N:=0,At:=0 }:Token),0))) (zai (orB (!(!(eqI (c1.toNat:Int) 45))) ((zdg c1).isSome)) (cond (orB (eqI (c1.toNat:Int) 45) ((zdg c1).getD default)) (zai (slB 0 i33 a0.size) (Option.bind (zff (a0.extract 0 ((i33).toNat))) (fun y69=>cond (!(eqI y69.2 0)) (some (({ Kind:=0,Text:=(⟨#[]⟩:ByteArray),N:=0,At:=0 }:Token),y69.2)) (zai (slB 0 i33 a0.size) (some (({ Kind:=2,Text:=a0.extract 0 ((i33).toNat),N:=y69.1,At:=0 }:Token),0)))))) (some (({ Kind:=0,Text:=(⟨#[]⟩:ByteArray),N:=0,At:=0 }:Token),14))))))))))
theorem zlK{fuelN:Nat}{a0:ByteArray}{r:Token × Int}(hs:zfc fuelN a0=some r):At Tryz.prog 40 [sV a0] (.tup [.agg (eA r.1),iV .i64 r.2]):=by
 refine zab (by kernel_rfl) fun hb=>?_
 refine zac mixed Tryz.func40 (by kernel_rfl) rfl (by kernel_rfl) rfl fun Q hQ=>?_
 rw[zfc]at hs
 revert hs;refine bK fun c1 hx2 hs=>?_
 have hx2b:=zbf hx2
 have hx2g:=zcd hx2
 have F1:=an hx2 hx2g
 refine goR F1 ?_
 revert hs;refine cS F1 ?_ ?_<;>intro h3 hs
 ·refine goR F1 ?_
  obtain rfl:=sj hs
  exact hQ _ _ (rg F1 (Gh.refl _))
 ·refine goR F1 ?_
  revert hs;refine bK fun y4 hx5 hs=>?_
  refine cP F1 (zkp hx5) ?_
  refine goR F1 ?_
  revert hs;refine cS F1 ?_ ?_<;>intro h6 hs
  ·obtain⟨g7,hs⟩:=zaa hs
   obtain⟨g7a,g7b,g7c⟩:=ze0 g7
   have F2:=an F1 (an g7a (an g7b g7c))
   refine goR F2 ?_
   obtain rfl:=sj hs
   exact hQ _ _ (rg F2 (Gh.refl _))
  ·refine goR2 F1 ?_
   revert hs;refine bK fun o35 e34 hs=>?_
   refine zaj (fun(v:Int) (σ:St)=>some (v)=some o35 /\ σ.env 0=sV a0 /\ σ.env 2=.cell (.ref (.o 1 0 0) 0) /\ σ.env 4=iV .u8 (c1.toNat:Int) /\ σ.env 5=iV .i64 v /\ σ.hp (.o 1 0 0)=some (.cells [nC 0,tC (⟨#[]⟩:ByteArray),nC 0,nC 0]) /\ 5<=σ.gen) (by rfl) (fun Q hK36 hX37=>?_) (fun i33 σ3 hp=>?_)
   ·refine goR F1 ?_
    revert e34;refine bK fun o50 e49 e34=>?_
    refine zaf (fun(v:Nat × Int) (σ:St)=>zbq a0 v.1 v.2=some o50 /\ σ.env 0=sV a0 /\ σ.env 2=.cell (.ref (.o 1 0 0) 0) /\ σ.env 4=iV .u8 (c1.toNat:Int) /\ σ.env 5=iV .i64 v.2 /\ σ.hp (.o 1 0 0)=some (.cells [nC 0,tC (⟨#[]⟩:ByteArray),nC 0,nC 0]) /\ 5<=σ.gen) (fun v=>v.1) _ (Gh.refl _) (fuelN,1) ⟨e49,pv F1,pv F1,pv F1,pv F1,pv F1,pg⟩ fun v σ6 hp L51 hL52=>?_
    obtain⟨q54,i43⟩:=v
    dsimp only at hp hL52
    obtain⟨e49,h5_0,h5_2,h5_4,h5_5,g5_0,n5_g⟩:=hp
    have n5_0:¬ (σ6.gen=0):=by omega
    rcases q54 with _|q55
    ·rw[zbq]at e49;cases e49
    ·rw[zbq]at e49;try dsimp only at e49
     obtain⟨g59,e49⟩:=zaa e49
     have g59a:(ltI i43 ((a0.size:Nat):Int))=true->0<=i43:=fun hg=>(zat g59 hg).1
     have g59c:(ltI i43 ((a0.size:Nat):Int))=true->a0[(i43).toNat]?=some (bget a0 ((i43).toNat)):=fun hg=>by simpa using (zat g59 hg).2.2
     have F3:=an h5_0 (an h5_2 (an h5_4 (an h5_5 (an g5_0 (an n5_0 (an hx2 (an hx2g (an g59a g59c))))))))
     refine goG F3 F3 ?_
     obtain⟨g60,e49⟩:=zaa e49
     refine zaZ (fun hg=>zkq (zaQ g60 hg)) (fun hg=>by(try simp at hg);(first|simp[hg,F3]);try rfl) (fun hg=>by(try simp at hg);simp[hg,F3]) (by simp) ?_
     refine goG F3 F3 ?_
     revert e49;refine cS F3 ?_ ?_<;>intro h61 e49
     ·refine goG F3 F3 ?_
      exact hL52 (q55,IntKind.i64.wrap (i43+1)) _ _ (Gh.refl _) ⟨e49,pv F3,pv F3,pv F3,pv F3,pv F3,pg⟩ (by omega)
     ·refine goG F3 F3 ?_
      obtain rfl:=sj e49
      try dsimp only at e34
      exact hK36 i43 _ _ (Gh.refl _) ⟨e34,pv F3,pv F3,pv F3,pv F3,pv F3,pg⟩
   ·obtain⟨e34,h4_0,h4_2,h4_4,h4_5,g4_0,n4_g⟩:=hp
    obtain rfl:=sj e34
    try dsimp only at hs
    have n4_0:¬ (σ3.gen=0):=by omega
    have F4:=an h4_0 (an h4_2 (an h4_4 (an h4_5 (an g4_0 (an n4_0 (an hx2 hx2g))))))
    refine goR F4 ?_
    revert hs;refine bK fun y62 hx63 hs=>?_
    refine cP F4 (zgO hx63) ?_
    refine goR F4 ?_
    revert hs;refine cS F4 ?_ ?_<;>intro h64 hs
    ·obtain⟨g65,hs⟩:=zaa hs
     obtain⟨g65a,g65b,g65c⟩:=ze0 g65
     have F5:=an F4 (an g65a (an g65b g65c))
     refine goR F5 ?_
     obtain rfl:=sj hs
     exact hQ _ _ (rg F5 (Gh.refl _))
    ·refine goG F4 F4 ?_
     obtain⟨g66,hs⟩:=zaa hs
     refine zaZ (fun hg=>zhH (zaQ g66 hg)) (fun hg=>by(try simp at hg);(first|simp[hg,F4]);try rfl) (fun hg=>by(try simp at hg);simp[hg,F4]) (by simp) ?_
     refine goG F4 F4 ?_
     revert hs;refine cS F4 ?_ ?_<;>intro h67 hs
     ·obtain⟨g68,hs⟩:=zaa hs
      obtain⟨g68a,g68b,g68c⟩:=ze0 g68
      have F6:=an F4 (an g68a (an g68b g68c))
      refine goG F6 F6 ?_
      revert hs;refine bK fun y69 hx70 hs=>?_
      refine cP F6 (zlP hx70) ?_
      refine goG F6 F6 ?_
      revert hs;refine cS F6 ?_ ?_<;>intro h71 hs
      ·refine goG F6 F6 ?_
       obtain rfl:=sj hs
       exact hQ _ _ (rg F6 (Gh.refl _))
      ·obtain⟨g72,hs⟩:=zaa hs
       obtain⟨g72a,g72b,g72c⟩:=ze0 g72
       have F7:=an F6 (an g72a (an g72b g72c))
       refine goG F7 F7 ?_
       obtain rfl:=sj hs
       exact hQ _ _ (rg F7 (Gh.refl _))
     ·refine goG F4 F4 ?_
      obtain rfl:=sj hs
      exact hQ _ _ (rg F4 (Gh.refl _))
def zbU(a0:ByteArray):Nat->Int->Option Int
 |0,_=>none
 |q887+1,i876=>zai (orB (!(ltI i876 ((a0.size:Nat):Int))) (inB i876 a0.size)) (cond (andB (ltI i876 ((a0.size:Nat):Int)) (!(eqI (((bget a0 ((i876).toNat))).toNat:Int) 10))) (zbU a0 q887 (IntKind.i64.wrap (i876+1))) (some (i876)))
def zbF(fuelN:Nat)(a0:ByteArray):Nat->(List Token)->Int->Option ((List Token) ⊕ ((List Token) × Fault))
 |0,_,_=>none
 |q800+1,l691,i692=>cond (ltI i692 ((a0.size:Nat):Int)) (Option.bind (getS a0 i692) (fun c805=>cond (orB (eqI (c805.toNat:Int) 32) (eqI (c805.toNat:Int) 9)) (zbF fuelN a0 q800 l691 (IntKind.i64.wrap (i692+1))) (Option.bind (α:=Unit ⊕ Int) (cond (eqI (c805.toNat:Int) 35) (Option.bind (α:=Int) (Option.bind (zbU a0 fuelN i692) (fun i880=>some (i880))) (fun i871=>some (.inr i871))) (some (.inl ()))) (fun o=>match o with|.inl _=>zai (slB i692 (a0.size:Int) a0.size) (Option.bind (zfc fuelN (a0.extract ((i692).toNat) a0.size)) (fun y894=>cond (!(eqI y894.2 0)) (some (.inr ([],({ Err:=y894.2,At:=i692 }:Fault)))) (Option.bind (some ([({ Kind:=y894.1.Kind,Text:=y894.1.Text,N:=y894.1.N,At:=i692 }:Token)])) (fun l897=>zai (limB 40 (l691.length+l897.length)) (Option.bind (some (l691++l897)) (fun l900=>zbF fuelN a0 q800 l900 (IntKind.i64.wrap (i692+((y894.1.Text.size:Nat):Int)))))))))|.inr i848=>zbF fuelN a0 q800 l691 i848)))) (some (.inl l691))
def zgn(fuelN:Nat)(a0:ByteArray):Option ((List Token) × Fault):=
 cond (ltI 16384 ((a0.size:Nat):Int)) (some ([],({ Err:=4,At:=0 }:Fault))) (Option.bind (α:=(List Token) ⊕ ((List Token) × Fault)) (Option.bind (zbF fuelN a0 fuelN [] 0) (fun o=>match o with|.inl l793=>some (.inl l793)|.inr r902=>some (.inr r902))) (fun o=>match o with|.inl l450=>some (l450,({ Err:=0,At:=0 }:Fault))|.inr r903=>some r903))
theorem zmP{fuelN:Nat}{a0:ByteArray}{r:(List Token) × Fault}(hs:zgn fuelN a0=some r):At Tryz.prog 18 [sV a0] (.tup [.cell (sC r.1),.agg (eA r.2)]):=by
 refine zab (by kernel_rfl) fun hb=>?_
 refine zac mixed Tryz.func18 (by kernel_rfl) rfl (by kernel_rfl) rfl fun Q hQ=>?_
 rw[zgn]at hs
 refine goR f0 ?_
 revert hs;refine cS f0 ?_ ?_<;>intro h1 hs
 ·refine goR f0 ?_
  obtain rfl:=sj hs
  exact hQ _ _ (rg f0 (Gh.unz _))
 ·refine goR2 f0 ?_
  revert hs;refine bK fun o452 e451 hs=>?_
  refine zaj (fun(v:(List Token)) (σ:St)=>some (.inl v)=some o452 /\ σ.env 3=.cell (.ref (.o 1 1 0) 0) /\ σ.env 4=.cell (.sl (.l 35) 0 4 v.length) /\ σ.hp (.l 35)=some (.pure (encL v)) /\ σ.hp (.o 1 1 0)=some (.cells [nC 0,nC 0]) /\ 4<=σ.gen) (by rfl) (fun Q hK453 hX454=>?_) (fun l450 σ59 hp=>?_)
  ·refine goR f0 ?_
   revert e451;refine bK fun o795 e794 e451=>?_
   refine zaf (fun(v:Nat × (List Token) × Int) (σ:St)=>zbF fuelN a0 v.1 v.2.1 v.2.2=some o795 /\ σ.env 0=sV a0 /\ σ.env 3=.cell (.ref (.o 1 1 0) 0) /\ σ.env 4=.cell (.sl (.l 96) 0 4 v.2.1.length) /\ σ.env 5=iV .i64 v.2.2 /\ σ.hp (.l 96)=some (.pure (encL v.2.1)) /\ σ.hp (.o 1 1 0)=some (.cells [nC 0,nC 0]) /\ 4<=σ.gen) (fun v=>v.1) _ (Gh.void _ (.l 96) 4 4 rfl (by simp)) (fuelN,[],0) ⟨e794,pv f0,pv f0,pv f0,pv f0,pv f0,pv f0,pg⟩ fun v σ104 hp L796 hL797=>?_
   obtain⟨q799,l691,i692⟩:=v
   dsimp only at hp hL797
   obtain⟨e794,h103_0,h103_3,h103_4,h103_5,g103_0,g103_1,n103_g⟩:=hp
   have n103_0:¬ (σ104.gen=0):=by omega
   rcases q799 with _|q800
   ·rw[zbF]at e794;cases e794
   ·rw[zbF]at e794;try dsimp only at e794
    have F1:=an h103_0 (an h103_3 (an h103_4 (an h103_5 (an g103_0 (an g103_1 n103_0)))))
    refine goR F1 ?_
    revert e794;refine cS F1 ?_ ?_<;>intro h804 e794
    ·refine goR2 F1 ?_
     refine zdr ?_
     revert e794;refine bK fun c805 hx806 e794=>?_
     obtain⟨hx806a,hx806b,hx806c,hx806d⟩:=zgz hx806
     have hx806g:=zcd hx806d
     have F2:=an F1 (an hx806d (an hx806a hx806g))
     refine goG F2 F2 ?_
     revert e794;refine cS F2 ?_ ?_<;>intro h807 e794
     ·refine goG F2 F2 ?_
      exact hL797 (q800,l691,IntKind.i64.wrap (i692+1)) _ _ (Gh.refl _) ⟨e794,pv F2,pv F2,pv F2,pv F2,pv F2,pv F2,pg⟩ (by omega)
     ·refine goG2 F2 F2 ?_
      revert e794;refine bK fun o850 e849 e794=>?_
      refine zaj (fun(v:Unit) (σ:St)=>some (.inl v)=some o850 /\ σ.env 0=sV a0 /\ σ.env 3=.cell (.ref (.o 1 1 0) 0) /\ σ.env 4=.cell (.sl (.l 96) 0 4 l691.length) /\ σ.env 5=iV .i64 i692 /\ σ.hp (.l 96)=some (.pure (encL l691)) /\ σ.hp (.o 1 1 0)=some (.cells [nC 0,nC 0]) /\ (σ104.gen+3)<=σ.gen) (by rfl) (fun Q hK851 hX852=>?_) (fun v σ111 hp=>?_)
      ·refine goG F2 F2 ?_
       revert e849;refine cS F2 ?_ ?_<;>intro h853 e849
       ·refine goG2 F2 F2 ?_
        revert e849;refine bK fun o873 e872 e849=>?_
        refine zdd (fun(v:Int) (σ:St)=>some (v)=some o873 /\ σ.env 0=sV a0 /\ σ.env 3=.cell (.ref (.o 1 1 0) 0) /\ σ.env 4=.cell (.sl (.l 96) 0 4 l691.length) /\ σ.env 5=iV .i64 v /\ σ.hp (.l 96)=some (.pure (encL l691)) /\ σ.hp (.o 1 1 0)=some (.cells [nC 0,nC 0]) /\ (σ104.gen+3)<=σ.gen) (fun Q hK874 hX875=>?_) (fun i871 σ115 hp=>?_)
        ·refine goG F2 F2 ?_
         revert e872;refine bK fun o882 e881 e872=>?_
         refine zaf (fun(v:Nat × Int) (σ:St)=>zbU a0 v.1 v.2=some o882 /\ σ.env 0=sV a0 /\ σ.env 3=.cell (.ref (.o 1 1 0) 0) /\ σ.env 4=.cell (.sl (.l 96) 0 4 l691.length) /\ σ.env 5=iV .i64 v.2 /\ σ.hp (.l 96)=some (.pure (encL l691)) /\ σ.hp (.o 1 1 0)=some (.cells [nC 0,nC 0]) /\ (σ104.gen+3)<=σ.gen) (fun v=>v.1) _ (Gh.refl _) (fuelN,i692) ⟨e881,pv F2,pv F2,pv F2,pv F2,pv F2,pv F2,pg⟩ fun v σ118 hp L883 hL884=>?_
         obtain⟨q886,i876⟩:=v
         dsimp only at hp hL884
         obtain⟨e881,h117_0,h117_3,h117_4,h117_5,g117_0,g117_1,n117_g⟩:=hp
         have n117_0:¬ (σ118.gen=0):=by omega
         rcases q886 with _|q887
         ·rw[zbU]at e881;cases e881
         ·rw[zbU]at e881;try dsimp only at e881
          obtain⟨g891,e881⟩:=zaa e881
          have g891a:(ltI i876 ((a0.size:Nat):Int))=true->0<=i876:=fun hg=>(zat g891 hg).1
          have g891c:(ltI i876 ((a0.size:Nat):Int))=true->a0[(i876).toNat]?=some (bget a0 ((i876).toNat)):=fun hg=>by simpa using (zat g891 hg).2.2
          have F3:=an h117_0 (an h117_3 (an h117_4 (an h117_5 (an g117_0 (an g117_1 (an n117_0 (an hx806d (an hx806a (an hx806g (an g891a g891c))))))))))
          refine goG F3 F3 ?_
          revert e881;refine cS F3 ?_ ?_<;>intro h892 e881
          ·refine goG F3 F3 ?_
           exact hL884 (q887,IntKind.i64.wrap (i876+1)) _ _ (Gh.refl _) ⟨e881,pv F3,pv F3,pv F3,pv F3,pv F3,pv F3,pg⟩ (by omega)
          ·refine goG F3 F3 ?_
           obtain rfl:=sj e881
           try dsimp only at e872
           exact hK874 i876 _ ⟨e872,pv F3,pv F3,pv F3,pv F3,pv F3,pv F3,pg⟩
        ·obtain⟨e872,h116_0,h116_3,h116_4,h116_5,g116_0,g116_1,n116_g⟩:=hp
         obtain rfl:=sj e872
         try dsimp only at e849
         have n116_0:¬ (σ115.gen=0):=by omega
         have F4:=an h116_0 (an h116_3 (an h116_4 (an h116_5 (an g116_0 (an g116_1 (an n116_0 (an hx806d (an hx806a hx806g))))))))
         refine goG F4 F4 ?_
         obtain rfl:=sj e849
         try dsimp only at e794
         refine hX852 _ _ (by simp) ?_
         refine goG F4 F4 ?_
         exact hL797 (q800,l691,i871) _ _ (Gh.refl _) ⟨e794,pv F4,pv F4,pv F4,pv F4,pv F4,pv F4,pg⟩ (by omega)
       ·refine goG F2 F2 ?_
        exact hK851 () _ _ (Gh.refl _) ⟨e849,pv F2,pv F2,pv F2,pv F2,pv F2,pv F2,pg⟩
      ·obtain⟨e849,h112_0,h112_3,h112_4,h112_5,g112_0,g112_1,n112_g⟩:=hp
       obtain rfl:=sj e849
       try dsimp only at e794
       have n112_0:¬ (σ111.gen=0):=by omega
       obtain⟨g893,e794⟩:=zaa e794
       obtain⟨g893a,g893b,g893c⟩:=ze0 g893
       have F5:=an h112_0 (an h112_3 (an h112_4 (an h112_5 (an g112_0 (an g112_1 (an n112_0 (an hx806d (an hx806a (an hx806g (an g893a (an g893b g893c)))))))))))
       refine goG F5 F5 ?_
       revert e794;refine bK fun y894 hx895 e794=>?_
       refine cP F5 (zlK hx895) ?_
       refine goG F5 F5 ?_
       revert e794;refine cS F5 ?_ ?_<;>intro h896 e794
       ·refine goG F5 F5 ?_
        obtain rfl:=sj e794
        try dsimp only at e451
        obtain rfl:=sj e451
        try dsimp only at hs
        refine hX454 _ _ (by simp) ?_
        refine goG F5 F5 ?_
        obtain rfl:=sj hs
        exact hQ _ _ (rg F5 (Gh.unz _))
       ·revert e794;refine lK fun l897 hx898 e794=>?_
        have hx898n:l897.length=1:=by rw[hx898];rfl
        obtain⟨g899,e794⟩:=zaa e794
        have g899:=zbv g899
        obtain⟨g899a,g899b⟩:=g899
        revert e794;refine lK fun l900 hx901 e794=>?_
        have hx901n:l900.length=(l691.length+l897.length):=by rw[hx901];simp
        have hx901e:encL l900=encL l691++encL l897:=by rw[hx901];simp
        have F6:=an F5 (an hx898 (an hx901n hx901e))
        refine goG F6 F6 ?_
        exact hL797 (q800,l900,IntKind.i64.wrap (i692+((y894.1.Text.size:Nat):Int))) _ _ (Gh.ren _ (.o (σ111.gen+4) 3 0) (.l 96) (by simp) rfl rfl) ⟨e794,pv F6,pv F6,pv F6,pv F6,pv F6,pv F6,pg⟩ (by omega)
    ·refine goR F1 ?_
     obtain rfl:=sj e794
     try dsimp only at e451
     exact hK453 l691 _ _ (Gh.ren _ (.l 96) (.l 35) (by simp) rfl rfl) ⟨e451,pv F1,pv F1,pv F1,pv F1,pg⟩
  ·obtain⟨e451,h60_3,h60_4,g60_0,g60_1,n60_g⟩:=hp
   obtain rfl:=sj e451
   try dsimp only at hs
   have n60_0:¬ (σ59.gen=0):=by omega
   have F7:=an h60_3 (an h60_4 (an g60_0 (an g60_1 n60_0)))
   refine goR F7 ?_
   obtain rfl:=sj hs
   exact hQ _ _ (rg F7 (Gh.frz _ (.l 35)))
end Go.Dc
end
section
namespace Go.Dc.Pa
open Go Go.Hw Go.Dc Go.Dc.Pl
def allU (p:UInt8->Bool):Bool:=(List.range 256).all fun n=>p (UInt8.ofNat n)
theorem zsD{p:UInt8->Bool}(h:allU p=true)(c:UInt8):p c=true:=by
 have:=List.all_eq_true.1 h c.toNat (List.mem_range.2 c.toNat_lt)
 simpa using this
theorem zsJ:allU (fun c=>decide (zdz 67108864 c=some (symB c)))=true:=by kernel_rfl
theorem zsY(c:UInt8):zdz 67108864 c=some (symB c):=of_decide_eq_true (zsD zsJ c)
theorem ztJ:allU (fun c=>(!(symB c) ||(!(letB c) && !(orB (eqI (c.toNat:Int) 45) (digB c)) && decide (c.toNat ≠ 10))))=true:=by kernel_rfl
theorem zA7:letB 10=false /\ orB (eqI ((10:UInt8).toNat:Int) 45) (digB 10)=false /\ symB 10=false:=⟨by kernel_rfl,by kernel_rfl,by kernel_rfl⟩
theorem znV(c:UInt8):zdB c=some (wrdB c):=by
 rw[zdB,show zdA c=some (letB c) from rfl,show zdg c=some (digB c) from rfl]
 simp[Option.isSome_some,Option.getD_some,zep,zad,wrdB]
theorem zoX{F:Nat}(hF:F=67108864){s:ByteArray}(hs:s.size<=1048576){k:Nat}(hk:k<=s.size):zbq s F (k:Int)=some ((k+takeN wrdB ((bl s).drop k):Nat):Int):=
 zgr (L:=zbq) wrdB hs (fun q k c hc=>by
  have hk:=zbf hc
  rw[zbq,show ltI (k:Int) ((s.size:Nat):Int)=true by rw[za2,decide_eq_true_eq];omega,show inB (k:Int) s.size=true by rw[zev,decide_eq_true_eq];omega,Int.toNat_natCast,show bget s k=c by rw[bget,hc];rfl,znV]
  simp only[Option.isSome_some,Option.getD_some,zep,zad,zaV,Bool.true_and]
  cases wrdB c<;>rfl) (fun q=>by
  rw[zbq,show ltI ((s.size:Nat):Int) ((s.size:Nat):Int)=false by rw[za2,decide_eq_false_iff_not];omega];rfl) F k hk (by omega)
theorem zoY{F:Nat}(hF:F=67108864){s:ByteArray}(hs:s.size<=1048576){k:Nat}(hk:k<=s.size):zbU s F (k:Int)=some ((k+takeN ze2 ((bl s).drop k):Nat):Int):=
 zgr (L:=zbU) ze2 hs (fun q k c hc=>by
  have hk:=zbf hc
  rw[zbU,show ltI (k:Int) ((s.size:Nat):Int)=true by rw[za2,decide_eq_true_eq];omega,show inB (k:Int) s.size=true by rw[zev,decide_eq_true_eq];omega,Int.toNat_natCast,show bget s k=c by rw[bget,hc];rfl]
  simp only[zep,zad,zaV,Bool.true_and,ze2]
  rw[cond_eq_ite];rfl) (fun q=>by
  rw[zbU,show ltI ((s.size:Nat):Int) ((s.size:Nat):Int)=false by rw[za2,decide_eq_false_iff_not];omega];rfl) F k hk (by omega)
theorem zoW{F:Nat}(hF:F=67108864){c:UInt8}{r:List UInt8}(hl:(c::r).length<=1048576) :
  zfc F (bs (c::r))=some (match tokM c r with|.inl x=>(⟨x.1,bs x.2.1,x.2.2,0⟩,0)|.inr e=>(⟨0,bs [],0,0⟩,e)):=by
 have hw:takeN wrdB r<=r.length:=(List.takeWhile_prefix wrdB).length_le
 have hx:∀ n,n<=r.length->(bs (c::r)).extract 0 (n+1)=bs (c::r.take n):=fun n hn=>by
  rw[zdH,zon,List.drop_zero,Nat.sub_zero,List.take_succ_cons]
 have hx1:(bs (c::r)).extract 0 1=bs [c]:=by have:=hx 0 (by omega);simpa using this
 have hsl:∀ n:Nat,n<=r.length->slB 0 ((n+1:Nat):Int) (bs (c::r)).size=true:=fun n hn=>by rw[zhN,zcf,decide_eq_true_eq];simp only[List.length_cons];omega
 have ht:=zoX hF (s:=bs (c::r)) (by rw[zcf];exact hl) (k:=1) (by rw[zcf];simp)
 rw[zon,List.drop_succ_cons,List.drop_zero,Nat.add_comm 1]at ht
 have ht:zbq (bs (c::r)) F 1=some ((takeN wrdB r+1:Nat):Int):=ht
 rw[zfc,zf1,List.getElem?_cons_zero,Option.bind_some,zaL,show zdz F c=some (symB c) by subst hF;exact zsY c,Option.bind_some]
 rw[show slB 0 1 (bs (c::r)).size=true from hsl 0 (by omega),hx1,ht]
 simp only[Option.bind_some,hsl _ hw,zad,Int.toNat_natCast,hx _ hw,zec,show zdA c=some (letB c) from rfl,show zdg c=some (digB c) from rfl,Option.isSome_some,Option.getD_some,zep]
 rw[ztg _ (by have:(r.takeWhile wrdB).length<=r.length:=hw;simp only[List.length_cons]at hl ⊢;omega),zpk (by have:(r.takeWhile wrdB).length<=r.length:=hw;simp only[List.length_cons]at hl ⊢;omega)]
 rw[tokM]
 by_cases h10:c.toNat=10
 ·obtain rfl:c=10:=UInt8.toNat_inj.1 h10
  obtain⟨d1,d2,d3⟩:=zA7
  rw[d1,d2,d3];rfl
 ·rw[decide_eq_false (show ¬ (c.toNat:Int)=10 by omega),cond_false]
  cases hy:symB c
  ·rw[cond_false]
   cases letB c
   ·simp only[cond_false,Bool.false_eq_true,if_false]
    cases orB (eqI (c.toNat:Int) 45) (digB c)
    ·simp[h10]
    ·simp only[cond_true,if_true,Option.bind_some,zaL]
     generalize vp (c::r.takeWhile wrdB)=v
     by_cases hv:v.2=0
     ·rw[if_pos hv,decide_eq_true hv];rfl
     ·rw[if_neg hv,decide_eq_false hv];rfl
   ·rfl
  ·have:=zsD ztJ c
   rw[hy]at this
   simp only[Bool.not_true,Bool.false_or,Bool.and_eq_true,Bool.not_eq_true']at this
   obtain⟨⟨d1,d2⟩,d3⟩:=this
   rw[d1,d2];rfl
def outR (acc:List Token)(o:List Token ⊕ (Int × Int)):List Token ⊕ (List Token × Fault):=match o with
 |.inl ts=>.inl (acc++ts)
 |.inr (e,a)=>.inr ([],⟨e,a⟩)
theorem zgh{F:Nat}(hF:F=67108864){s:ByteArray}(hs:s.size<=1048576):∀(n q k:Nat) (acc:List Token),k<=s.size->s.size<=k+n->s.size < k+q->acc.length<=k ->
  zbF F s q acc (k:Int)=some (outR acc (lexM n ((bl s).drop k) (k:Int)))
 |n,0,k,acc,hk,_,hq,_=>absurd hq (by omega)
 |n,q+1,k,acc,hk,hn,hq,ha=>by
  cases hd:(bl s).drop k with
  |nil=>
   have:=List.drop_eq_nil_iff.1 hd
   rw[zbZ]at this
   obtain rfl:k=s.size:=by omega
   rw[zbF,show ltI ((s.size:Nat):Int) ((s.size:Nat):Int)=false by rw[za2,decide_eq_false_iff_not];omega]
   rw[znn];simp[outR]
  |cons c r=>
   obtain⟨e1,e2,e3⟩:=drop_cons hd
   rw[zbZ]at e2
   have hlen:r.length+1+k=s.size:=by have:=congrArg List.length hd;rw[List.length_drop,zbZ,List.length_cons]at this;omega
   obtain⟨n,rfl⟩:∃ m,n=m+1:=⟨n - 1,by omega⟩
   have hg:getS s (k:Int)=some c:=by rw[getS,if_pos (by omega),Int.toNat_natCast,zhe];exact e1
   rw[zbF,ziJ,znP,show ltI (k:Int) ((s.size:Nat):Int)=true by rw[za2,decide_eq_true_eq];omega,cond_true,hg,Option.bind_some]
   simp only[zaL,zbY]
   by_cases hb:c.toNat=32 \/ c.toNat=9
   ·rw[if_pos hb,show(decide ((c.toNat:Int)=32) || decide ((c.toNat:Int)=9))=true by
     rcases hb with h|h<;>simp[h],cond_true,wrapN (by omega) (by omega)]
    have ih:=zgh hF hs n q (k+1) acc (by omega) (by omega) (by omega) (by omega)
    rw[e3]at ih
    rw[show(k:Int)+1=((k+1:Nat):Int) from rfl,ih];rfl
   ·rw[if_neg hb,show(decide ((c.toNat:Int)=32) || decide ((c.toNat:Int)=9))=false by
     rw[Bool.or_eq_false_iff];simp only[decide_eq_false_iff_not];omega,cond_false]
    by_cases hc:c.toNat=35
    ·have hnl:ze2 c=true:=by simp[ze2,zaL];omega
     have hw:takeN ze2 r<=r.length:=(List.takeWhile_prefix ze2).length_le
     rw[if_pos hc,show decide ((c.toNat:Int)=35)=true by simp;omega,cond_true,zoY hF hs (by omega),Option.bind_some,Option.bind_some,Option.bind_some,hd,takeN,List.takeWhile_cons,if_pos hnl,List.length_cons,<- takeN]
     have ih:=zgh hF hs n q (k+(takeN ze2 r+1)) acc (by omega) (by omega) (by omega) (by omega)
     refine Eq.trans ih ?_
     rw[<- List.drop_drop,hd,List.drop_succ_cons]
     rfl
    ·have hx:s.extract k s.size=bs (c::r):=by
      rw[zdH,hd,List.take_of_length_le (by simp only[List.length_cons];omega)]
     rw[if_neg hc,show decide ((c.toNat:Int)=35)=false by simp;omega,cond_false,Option.bind_some]
     dsimp only
     rw[za3 _ (by rw[zhN,decide_eq_true_eq];omega),Int.toNat_natCast,hx,zoW hF (by simp only[List.length_cons];omega),Option.bind_some]
     cases ht:tokM c r with
     |inr e=>
      have:=zoC ht
      dsimp only
      rw[show decide (e=0)=false by simpa using this];rfl
     |inl x=>
      obtain⟨l1,l2⟩:=zj1 ht
      dsimp only
      rw[decide_eq_true rfl,Bool.not_true,cond_false,Option.bind_some,List.length_singleton,zaK (by omega) (by omega),zad,Option.bind_some,zcf,wrapN (by omega) (by omega)]
      have ih:=zgh hF hs n q (k+x.2.1.length) (acc++[⟨x.1,bs x.2.1,x.2.2,(k:Int)⟩]) (by omega) (by omega) (by omega) (by rw[List.length_append,List.length_singleton];omega)
      rw[<- List.drop_drop,hd]at ih
      rw[show(k:Int)+((x.2.1.length:Nat):Int)=((k+x.2.1.length:Nat):Int) from rfl,ih]
      rcases lexM n ((c::r).drop x.2.1.length) ((k+x.2.1.length:Nat):Int) with ts |⟨e,a⟩
      ·simp[outR,putT]
      ·rfl
theorem zqR{F:Nat}(hF:F=67108864)(s:ByteArray):zgn F s=some (zio s):=by
 rw[zgn,zio,za2]
 by_cases h:16384 < s.size
 ·rw[if_pos h,decide_eq_true (by omega)];rfl
 ·rw[if_neg h,decide_eq_false (by omega),cond_false]
  have:=zgh hF (s:=s) (by omega) s.size F 0 [] (by omega) (by omega) (by omega) (by simp)
  rw[Int.natCast_zero,List.drop_zero]at this
  rw[this]
  rcases lexM s.size (bl s) 0 with ts |⟨e,a⟩<;>rfl
end Go.Dc.Pa
end
section
namespace Go.Dc
open Go Go.Hw Go.Proofs
def zcq(a0_4:Int)(a0_5:Int)(a1:Int)(a2:Int):Option (Int × Int):=
 cond (eqI a0_4 0) (some (a1,a2)) (some (a0_4,a0_5))
theorem zbL{c0_0:FC}{c0_1:FC}{c0_2:FC}{c0_3:FC}{c0_6:FC}{c0_7:FC}{c0_8:FC}{c0_9:FC}{c0_10:FC}{c0_11:FC}{c0_12:FC}{c0_13:FC}{c0_14:FC}{c0_15:FC}{a0_4:Int}{a0_5:Int}{a1:Int}{a2:Int}{r:Int × Int}(hs:zcq a0_4 a0_5 a1 a2=some r):CAt Tryz.prog 23 [.cell (.ref (.a 0) 0),iV .i64 a1,iV .i64 a2] [.cells [c0_0.ac,c0_1.ac,c0_2.ac,c0_3.ac,nC a0_4,nC a0_5,c0_6.ac,c0_7.ac,c0_8.ac,c0_9.ac,c0_10.ac,c0_11.ac,c0_12.ac,c0_13.ac,c0_14.ac,c0_15.ac]] (.ret (.tup [])) [(.a 0,.cells [c0_0.ac,c0_1.ac,c0_2.ac,c0_3.ac,nC r.1,nC r.2,c0_6.ac,c0_7.ac,c0_8.ac,c0_9.ac,c0_10.ac,c0_11.ac,c0_12.ac,c0_13.ac,c0_14.ac,c0_15.ac])]:=by
 refine zab (by kernel_rfl) fun hb=>?_
 refine zac mixed Tryz.func23 (by kernel_rfl) rfl (by kernel_rfl) rfl fun Q hQ=>?_
 rw[zcq]at hs
 refine goR f0 ?_
 revert hs;refine cS f0 ?_ ?_<;>intro h1 hs
 ·refine goR f0 ?_
  obtain rfl:=sj hs
  refine hQ _ _ (zaG _ (Gh.refl _) (by simp[St.frz,St.pur];rfl) (by first|rfl |(simp[St.frz,St.pur];done) |(rw[if_pos (by first|omega |(simp;omega))];simp[St.frz,St.pur];first|omega|exact List.take_of_length_le (by simp;omega)|skip)) (pv f0))
 ·refine goR f0 ?_
  obtain rfl:=sj hs
  refine hQ _ _ (zaG _ (Gh.refl _) (by simp[St.frz,St.pur];rfl) (by first|rfl |(simp[St.frz,St.pur];done) |(rw[if_pos (by first|omega |(simp;omega))];simp[St.frz,St.pur];first|omega|exact List.take_of_length_le (by simp;omega)|skip)) (pv f0))
def zgl(a0_0:List Token)(a0_1:Int)(a0_3:Bool):Option Bool:=
 zai (orB (!(andB (ltI a0_1 ((a0_0.length:Nat):Int)) (!a0_3))) (inB a0_1 a0_0.length)) (some (orB (!(ltI a0_1 ((a0_0.length:Nat):Int))) (andB (!a0_3) (eqI ((gd a0_0 ((a0_1).toNat)).Kind) 4))))
theorem zi2{c0_2:FC}{c0_4:FC}{c0_5:FC}{c0_6:FC}{c0_7:FC}{c0_8:FC}{c0_9:FC}{c0_10:FC}{c0_11:FC}{c0_12:FC}{c0_13:FC}{c0_14:FC}{c0_15:FC}{a0_0:List Token}{a0_1:Int}{a0_3:Bool}{r:Bool}(hs:zgl a0_0 a0_1 a0_3=some r):CAt Tryz.prog 19 [.cell (.ref (.a 0) 0)] [.cells [sC a0_0,nC a0_1,c0_2.ac,bC a0_3,c0_4.ac,c0_5.ac,c0_6.ac,c0_7.ac,c0_8.ac,c0_9.ac,c0_10.ac,c0_11.ac,c0_12.ac,c0_13.ac,c0_14.ac,c0_15.ac]] (.ret (bV r)) [(.a 0,.cells [sC a0_0,nC a0_1,c0_2.ac,bC a0_3,c0_4.ac,c0_5.ac,c0_6.ac,c0_7.ac,c0_8.ac,c0_9.ac,c0_10.ac,c0_11.ac,c0_12.ac,c0_13.ac,c0_14.ac,c0_15.ac])]:=by
 refine zab (by kernel_rfl) fun hb=>?_
 refine zac mixed Tryz.func19 (by kernel_rfl) rfl (by kernel_rfl) rfl fun Q hQ=>?_
 rw[zgl]at hs
 obtain⟨g3,hs⟩:=zaa hs
 have g3a:(andB (ltI a0_1 ((a0_0.length:Nat):Int)) (!a0_3))=true->0<=a0_1:=fun hg=>(zcG g3 hg).1
 have g3b:(andB (ltI a0_1 ((a0_0.length:Nat):Int)) (!a0_3))=true->a0_1 < (a0_0.length:Int):=fun hg=>(zcG g3 hg).2.1
 have g3n:(andB (ltI a0_1 ((a0_0.length:Nat):Int)) (!a0_3))=true->(a0_1).toNat < a0_0.length:=fun hg=>by simpa using (zcG g3 hg).2.2.1
 have g3c:(andB (ltI a0_1 ((a0_0.length:Nat):Int)) (!a0_3))=true->a0_0[(a0_1).toNat]?=some (gd a0_0 ((a0_1).toNat)):=fun hg=>by simpa using (zcG g3 hg).2.2.2
 have f4:(andB (ltI a0_1 ((a0_0.length:Nat):Int)) (!a0_3))=true->zam Tryz.prog 79 (encL a0_0) (((a0_1).toNat) * 4)=some (iV .i64 ((gd a0_0 ((a0_1).toNat)).Kind)):=fun hg=>zae (g3c hg) (f:=0) (by simp)
 have F1:=an g3a (an g3b (an g3n f4))
 refine goE F1 F1 ?_
 obtain rfl:=sj hs
 refine hQ _ _ (zaG _ (Gh.refl _) (by simp[St.frz,St.pur,F1];rfl) (by first|rfl |(simp[St.frz,St.pur,F1];done) |(rw[if_pos (by first|omega |(simp;omega))];simp[St.frz,St.pur,F1];first|omega|exact List.take_of_length_le (by simp;omega)|skip)) (pv F1))
def zkN(a0_0:List Token)(a0_1:Int)(a0_2:Int):Option Int:=
 cond (ltI a0_1 ((a0_0.length:Nat):Int)) (Option.bind (getI a0_0 a0_1) (fun x5=>some x5.At)) (some a0_2)
theorem zqd{c0_3:FC}{c0_4:FC}{c0_5:FC}{c0_6:FC}{c0_7:FC}{c0_8:FC}{c0_9:FC}{c0_10:FC}{c0_11:FC}{c0_12:FC}{c0_13:FC}{c0_14:FC}{c0_15:FC}{a0_0:List Token}{a0_1:Int}{a0_2:Int}{r:Int}(hs:zkN a0_0 a0_1 a0_2=some r):CAt Tryz.prog 75 [.cell (.ref (.a 0) 0)] [.cells [sC a0_0,nC a0_1,nC a0_2,c0_3.ac,c0_4.ac,c0_5.ac,c0_6.ac,c0_7.ac,c0_8.ac,c0_9.ac,c0_10.ac,c0_11.ac,c0_12.ac,c0_13.ac,c0_14.ac,c0_15.ac]] (.ret (iV .i64 r)) [(.a 0,.cells [sC a0_0,nC a0_1,nC a0_2,c0_3.ac,c0_4.ac,c0_5.ac,c0_6.ac,c0_7.ac,c0_8.ac,c0_9.ac,c0_10.ac,c0_11.ac,c0_12.ac,c0_13.ac,c0_14.ac,c0_15.ac])]:=by
 refine zab (by kernel_rfl) fun hb=>?_
 refine zac mixed Tryz.func75 (by kernel_rfl) rfl (by kernel_rfl) rfl fun Q hQ=>?_
 rw[zkN]at hs
 refine goD f0 ?_
 revert hs;refine cS f0 ?_ ?_<;>intro h1 hs
 ·revert hs;refine bK fun x5 hx6 hs=>?_
  obtain⟨hx6a,hx6b,hx6c,hx6d⟩:=zao hx6
  have f7:zam Tryz.prog 3 (encL a0_0) (((a0_1).toNat) * 4+3)=some (iV .i64 x5.At):=zae hx6d (f:=3) (by simp)
  refine goD f7 ?_
  obtain rfl:=sj hs
  refine hQ _ _ (zaG _ (Gh.refl _) (by simp[St.frz,St.pur,f7];rfl) (by first|rfl |(simp[St.frz,St.pur,f7];done) |(rw[if_pos (by first|omega |(simp;omega))];simp[St.frz,St.pur,f7];first|omega|exact List.take_of_length_le (by simp;omega)|skip)) (pv f7))
 ·refine goD f0 ?_
  obtain rfl:=sj hs
  refine hQ _ _ (zaG _ (Gh.refl _) (by simp[St.frz,St.pur];rfl) (by first|rfl |(simp[St.frz,St.pur];done) |(rw[if_pos (by first|omega |(simp;omega))];simp[St.frz,St.pur];first|omega|exact List.take_of_length_le (by simp;omega)|skip)) (pv f0))
def zcX(a0_0:List Token)(a0_1:Int)(a0_2:Int)(a0_3:Bool)(a0_4:Int)(a0_5:Int)(a1:Int):Option (Token × Bool × Int × Int × Int):=
 cond (!(eqI a0_4 0)) (some (({ Kind:=0,Text:=(⟨#[]⟩:ByteArray),N:=0,At:=0 }:Token),false,a0_1,a0_4,a0_5)) (Option.bind (zgl a0_0 a0_1 a0_3) (fun y2=>cond y2 (Option.bind (zkN a0_0 a0_1 a0_2) (fun y5=>Option.bind (zcq a0_4 a0_5 15 y5) (fun y7=>some (({ Kind:=0,Text:=(⟨#[]⟩:ByteArray),N:=0,At:=0 }:Token),false,a0_1,y7.1,y7.2)))) (Option.bind (getI a0_0 a0_1) (fun x12=>cond (!(eqI x12.Kind a1)) (Option.bind (zcq a0_4 a0_5 14 x12.At) (fun y16=>some (({ Kind:=0,Text:=(⟨#[]⟩:ByteArray),N:=0,At:=0 }:Token),false,a0_1,y16.1,y16.2))) (some (x12,true,IntKind.i64.wrap (a0_1+1),a0_4,a0_5))))))
theorem zcv{c0_6:FC}{c0_7:FC}{c0_8:FC}{c0_9:FC}{c0_10:FC}{c0_11:FC}{c0_12:FC}{c0_13:FC}{c0_14:FC}{c0_15:FC}{a0_0:List Token}{a0_1:Int}{a0_2:Int}{a0_3:Bool}{a0_4:Int}{a0_5:Int}{a1:Int}{r:Token × Bool × Int × Int × Int}(hs:zcX a0_0 a0_1 a0_2 a0_3 a0_4 a0_5 a1=some r):CAt Tryz.prog 41 [.cell (.ref (.a 0) 0),iV .i64 a1] [.cells [sC a0_0,nC a0_1,nC a0_2,bC a0_3,nC a0_4,nC a0_5,c0_6.ac,c0_7.ac,c0_8.ac,c0_9.ac,c0_10.ac,c0_11.ac,c0_12.ac,c0_13.ac,c0_14.ac,c0_15.ac]] (.ret (.tup [.agg (eA r.1),bV r.2.1])) [(.a 0,.cells [sC a0_0,nC r.2.2.1,nC a0_2,bC a0_3,nC r.2.2.2.1,nC r.2.2.2.2,c0_6.ac,c0_7.ac,c0_8.ac,c0_9.ac,c0_10.ac,c0_11.ac,c0_12.ac,c0_13.ac,c0_14.ac,c0_15.ac])]:=by
 refine zab (by kernel_rfl) fun hb=>?_
 refine zac mixed Tryz.func41 (by kernel_rfl) rfl (by kernel_rfl) rfl fun Q hQ=>?_
 rw[zcX]at hs
 refine goR f0 ?_
 revert hs;refine cS f0 ?_ ?_<;>intro h1 hs
 ·refine goR f0 ?_
  obtain rfl:=sj hs
  refine hQ _ _ (zaG _ (Gh.refl _) (by simp[St.frz,St.pur];rfl) (by first|rfl |(simp[St.frz,St.pur];done) |(rw[if_pos (by first|omega |(simp;omega))];simp[St.frz,St.pur];first|omega|exact List.take_of_length_le (by simp;omega)|skip)) (pv f0))
 ·refine goR f0 ?_
  revert hs;refine bK fun y2 hx3 hs=>?_
  refine cB f0 (zi2 (c0_2:=⟨AC.toF [.a 0] (nC a0_2),by simp⟩) (c0_4:=⟨AC.toF [.a 0] (nC a0_4),by simp⟩) (c0_5:=⟨AC.toF [.a 0] (nC a0_5),by simp⟩) (c0_6:=(c0_6.toF [.a 0])) (c0_7:=(c0_7.toF [.a 0])) (c0_8:=(c0_8.toF [.a 0])) (c0_9:=(c0_9.toF [.a 0])) (c0_10:=(c0_10.toF [.a 0])) (c0_11:=(c0_11.toF [.a 0])) (c0_12:=(c0_12.toF [.a 0])) (c0_13:=(c0_13.toF [.a 0])) (c0_14:=(c0_14.toF [.a 0])) (c0_15:=(c0_15.toF [.a 0])) hx3) [.a 0] ?_
  refine goR f0 ?_
  revert hs;refine cS f0 ?_ ?_<;>intro h4 hs
  ·refine goR f0 ?_
   revert hs;refine bK fun y5 hx6 hs=>?_
   refine cB f0 (zqd (c0_3:=⟨AC.toF [.a 0] (bC a0_3),by simp⟩) (c0_4:=⟨AC.toF [.a 0] (nC a0_4),by simp⟩) (c0_5:=⟨AC.toF [.a 0] (nC a0_5),by simp⟩) (c0_6:=(c0_6.toF [.a 0])) (c0_7:=(c0_7.toF [.a 0])) (c0_8:=(c0_8.toF [.a 0])) (c0_9:=(c0_9.toF [.a 0])) (c0_10:=(c0_10.toF [.a 0])) (c0_11:=(c0_11.toF [.a 0])) (c0_12:=(c0_12.toF [.a 0])) (c0_13:=(c0_13.toF [.a 0])) (c0_14:=(c0_14.toF [.a 0])) (c0_15:=(c0_15.toF [.a 0])) hx6) [.a 0] ?_
   refine goR f0 ?_
   revert hs;refine bK fun y7 hx8 hs=>?_
   refine cB f0 (zbL (c0_0:=⟨AC.toF [.a 0] (sC a0_0),by simp⟩) (c0_1:=⟨AC.toF [.a 0] (nC a0_1),by simp⟩) (c0_2:=⟨AC.toF [.a 0] (nC a0_2),by simp⟩) (c0_3:=⟨AC.toF [.a 0] (bC a0_3),by simp⟩) (c0_6:=(c0_6.toF [.a 0])) (c0_7:=(c0_7.toF [.a 0])) (c0_8:=(c0_8.toF [.a 0])) (c0_9:=(c0_9.toF [.a 0])) (c0_10:=(c0_10.toF [.a 0])) (c0_11:=(c0_11.toF [.a 0])) (c0_12:=(c0_12.toF [.a 0])) (c0_13:=(c0_13.toF [.a 0])) (c0_14:=(c0_14.toF [.a 0])) (c0_15:=(c0_15.toF [.a 0])) hx8) [.a 0] ?_
   refine goR f0 ?_
   obtain rfl:=sj hs
   refine hQ _ _ (zaG _ (Gh.refl _) (by simp[St.frz,St.pur];rfl) (by first|rfl |(simp[St.frz,St.pur];done) |(rw[if_pos (by first|omega |(simp;omega))];simp[St.frz,St.pur];first|omega|exact List.take_of_length_le (by simp;omega)|skip)) (pv f0))
  ·revert hs;refine bK fun x12 hx13 hs=>?_
   obtain⟨hx13a,hx13b,hx13c,hx13d⟩:=zao hx13
   have f14:zam Tryz.prog 81 (encL a0_0) (((a0_1).toNat) * 4)=some (.agg (eA x12)):=zae hx13d (f:=0) (by simp)
   refine goD f14 ?_
   revert hs;refine cS f14 ?_ ?_<;>intro h15 hs
   ·refine goD f14 ?_
    revert hs;refine bK fun y16 hx17 hs=>?_
    refine cB f14 (zbL (c0_0:=⟨AC.toF [.a 0] (sC a0_0),by simp[f14]⟩) (c0_1:=⟨AC.toF [.a 0] (nC a0_1),by simp[f14]⟩) (c0_2:=⟨AC.toF [.a 0] (nC a0_2),by simp[f14]⟩) (c0_3:=⟨AC.toF [.a 0] (bC a0_3),by simp[f14]⟩) (c0_6:=(c0_6.toF [.a 0])) (c0_7:=(c0_7.toF [.a 0])) (c0_8:=(c0_8.toF [.a 0])) (c0_9:=(c0_9.toF [.a 0])) (c0_10:=(c0_10.toF [.a 0])) (c0_11:=(c0_11.toF [.a 0])) (c0_12:=(c0_12.toF [.a 0])) (c0_13:=(c0_13.toF [.a 0])) (c0_14:=(c0_14.toF [.a 0])) (c0_15:=(c0_15.toF [.a 0])) hx17) [.a 0] ?_
    refine goD f14 ?_
    obtain rfl:=sj hs
    refine hQ _ _ (zaG _ (Gh.refl _) (by simp[St.frz,St.pur,f14];rfl) (by first|rfl |(simp[St.frz,St.pur,f14];done) |(rw[if_pos (by first|omega |(simp;omega))];simp[St.frz,St.pur,f14];first|omega|exact List.take_of_length_le (by simp;omega)|skip)) (pv f14))
   ·refine goD f14 ?_
    obtain rfl:=sj hs
    refine hQ _ _ (zaG _ (Gh.refl _) (by simp[St.frz,St.pur,f14];rfl) (by first|rfl |(simp[St.frz,St.pur,f14];done) |(rw[if_pos (by first|omega |(simp;omega))];simp[St.frz,St.pur,f14];first|omega|exact List.take_of_length_le (by simp;omega)|skip)) (pv f14))
def zda(a0_0:List Token)(a0_1:Int)(a0_2:Int)(a0_3:Bool)(a0_4:Int)(a0_5:Int):Option (Int × Int × Int × Int):=
 Option.bind (zcX a0_0 a0_1 a0_2 a0_3 a0_4 a0_5 2) (fun y1=>some (y1.1.N,y1.2.2.1,y1.2.2.2.1,y1.2.2.2.2))
theorem zf6{c0_6:FC}{c0_7:FC}{c0_8:FC}{c0_9:FC}{c0_10:FC}{c0_11:FC}{c0_12:FC}{c0_13:FC}{c0_14:FC}{c0_15:FC}{a0_0:List Token}{a0_1:Int}{a0_2:Int}{a0_3:Bool}{a0_4:Int}{a0_5:Int}{r:Int × Int × Int × Int}(hs:zda a0_0 a0_1 a0_2 a0_3 a0_4 a0_5=some r):CAt Tryz.prog 42 [.cell (.ref (.a 0) 0)] [.cells [sC a0_0,nC a0_1,nC a0_2,bC a0_3,nC a0_4,nC a0_5,c0_6.ac,c0_7.ac,c0_8.ac,c0_9.ac,c0_10.ac,c0_11.ac,c0_12.ac,c0_13.ac,c0_14.ac,c0_15.ac]] (.ret (iV .i64 r.1)) [(.a 0,.cells [sC a0_0,nC r.2.1,nC a0_2,bC a0_3,nC r.2.2.1,nC r.2.2.2,c0_6.ac,c0_7.ac,c0_8.ac,c0_9.ac,c0_10.ac,c0_11.ac,c0_12.ac,c0_13.ac,c0_14.ac,c0_15.ac])]:=by
 refine zab (by kernel_rfl) fun hb=>?_
 refine zac mixed Tryz.func42 (by kernel_rfl) rfl (by kernel_rfl) rfl fun Q hQ=>?_
 rw[zda]at hs
 refine goR f0 ?_
 revert hs;refine bK fun y1 hx2 hs=>?_
 refine cB f0 (zcv (c0_6:=(c0_6.toF [.a 0])) (c0_7:=(c0_7.toF [.a 0])) (c0_8:=(c0_8.toF [.a 0])) (c0_9:=(c0_9.toF [.a 0])) (c0_10:=(c0_10.toF [.a 0])) (c0_11:=(c0_11.toF [.a 0])) (c0_12:=(c0_12.toF [.a 0])) (c0_13:=(c0_13.toF [.a 0])) (c0_14:=(c0_14.toF [.a 0])) (c0_15:=(c0_15.toF [.a 0])) hx2) [.a 0] ?_
 refine goR f0 ?_
 obtain rfl:=sj hs
 refine hQ _ _ (zaG _ (Gh.refl _) (by simp[St.frz,St.pur];rfl) (by first|rfl |(simp[St.frz,St.pur];done) |(rw[if_pos (by first|omega |(simp;omega))];simp[St.frz,St.pur];first|omega|exact List.take_of_length_le (by simp;omega)|skip)) (pv f0))
def zgm(a0_0:List Token)(a0_1:Int)(a0_2:Int)(a0_3:Bool)(a0_4:Int)(a0_5:Int)(a0_11:List RNm)(a1:UInt8)(a2:Int)(a3:Int):Option (Int × Int × Int × (List RNm)):=
 Option.bind (zcX a0_0 a0_1 a0_2 a0_3 a0_4 a0_5 1) (fun y1=>cond y1.2.1 (Option.bind (some ([({ Kind:=a1,Text:=y1.1.Text,At:=y1.1.At,Func:=a2,Inst:=a3 }:RNm)])) (fun l9=>zai (limB 48 (a0_11.length+l9.length)) (Option.bind (some (a0_11++l9)) (fun l12=>some (y1.2.2.1,y1.2.2.2.1,y1.2.2.2.2,l12))))) (some (y1.2.2.1,y1.2.2.2.1,y1.2.2.2.2,a0_11)))
theorem zlI{c0_6:FC}{c0_7:FC}{c0_8:FC}{c0_9:FC}{c0_10:FC}{c0_12:FC}{c0_13:FC}{c0_14:FC}{c0_15:FC}{a0_0:List Token}{a0_1:Int}{a0_2:Int}{a0_3:Bool}{a0_4:Int}{a0_5:Int}{a0_11:List RNm}{a1:UInt8}{a2:Int}{a3:Int}{r:Int × Int × Int × (List RNm)}(hs:zgm a0_0 a0_1 a0_2 a0_3 a0_4 a0_5 a0_11 a1 a2 a3=some r):CAt Tryz.prog 43 [.cell (.ref (.a 0) 0),iV .u8 (a1.toNat:Int),iV .i64 a2,iV .i64 a3] [.cells [sC a0_0,nC a0_1,nC a0_2,bC a0_3,nC a0_4,nC a0_5,c0_6.ac,c0_7.ac,c0_8.ac,c0_9.ac,c0_10.ac,.own (.sp 5 a0_11.length (encL a0_11)),c0_12.ac,c0_13.ac,c0_14.ac,c0_15.ac]] (.ret (.tup [])) [(.a 0,.cells [sC a0_0,nC r.1,nC a0_2,bC a0_3,nC r.2.1,nC r.2.2.1,c0_6.ac,c0_7.ac,c0_8.ac,c0_9.ac,c0_10.ac,.own (.sp 5 r.2.2.2.length (encL r.2.2.2)),c0_12.ac,c0_13.ac,c0_14.ac,c0_15.ac])]:=by
 refine zab (by kernel_rfl) fun hb=>?_
 refine zac mixed Tryz.func43 (by kernel_rfl) rfl (by kernel_rfl) rfl fun Q hQ=>?_
 rw[zgm]at hs
 refine goR f0 ?_
 revert hs;refine bK fun y1 hx2 hs=>?_
 refine cB f0 (zcv (c0_6:=(c0_6.toF [.a 0])) (c0_7:=(c0_7.toF [.a 0])) (c0_8:=(c0_8.toF [.a 0])) (c0_9:=(c0_9.toF [.a 0])) (c0_10:=(c0_10.toF [.a 0])) (c0_11:=⟨AC.toF [.a 0] (.own (.sp 5 a0_11.length (encL a0_11))),by simp⟩) (c0_12:=(c0_12.toF [.a 0])) (c0_13:=(c0_13.toF [.a 0])) (c0_14:=(c0_14.toF [.a 0])) (c0_15:=(c0_15.toF [.a 0])) hx2) [.a 0] ?_
 refine goR f0 ?_
 revert hs;refine cS f0 ?_ ?_<;>intro h3 hs
 ·refine goN f0 ?_
  refine zaX (by rfl) (Gh.opn _ (.a 0) 11) ?_
  try simp only[St.frz,St.pur]
  revert hs;refine lK fun l9 hx10 hs=>?_
  have hx10n:l9.length=1:=by rw[hx10];rfl
  obtain⟨g11,hs⟩:=zaa hs
  have g11:=zbv g11
  obtain⟨g11a,g11b⟩:=g11
  revert hs;refine lK fun l12 hx13 hs=>?_
  have hx13n:l12.length=(a0_11.length+l9.length):=by rw[hx13];simp
  have hx13e:encL l12=encL a0_11++encL l9:=by rw[hx13];simp
  have F1:=an hx10 (an hx13n hx13e)
  refine goD F1 ?_
  have f14:(encL l12).take (l12.length * 5)=encL l12:=zal _ (by simp)
  try simp[F1]at f14
  have f14l:l12.length * 5<=(encL l12).length:=by rw[zaE];simp
  try simp[F1]at f14l
  obtain rfl:=sj hs
  have F2:=an F1 (an f14 f14l)
  refine hQ _ _ (zaG _ (Gh.close _ (.a 0) 11) (by simp[St.frz,St.pur,F2];rfl) (by first|rfl |(simp[St.frz,St.pur,F2];done) |(rw[if_pos (by first|omega |(simp;omega))];simp[St.frz,St.pur,F2];first|omega|exact List.take_of_length_le (by simp;omega)|skip)) (pv F2))
 ·refine goR f0 ?_
  obtain rfl:=sj hs
  refine hQ _ _ (zaG _ (Gh.refl _) (by simp[St.frz,St.pur];rfl) (by first|rfl |(simp[St.frz,St.pur];done) |(rw[if_pos (by first|omega |(simp;omega))];simp[St.frz,St.pur];first|omega|exact List.take_of_length_le (by simp;omega)|skip)) (pv f0))
def zgp :Option (List ByteArray):=
 Option.bind (some ([(⟨#[99,111,110,115,116]⟩:ByteArray),(⟨#[99,111,112,121]⟩:ByteArray),(⟨#[99,97,108,99]⟩:ByteArray),(⟨#[106,117,109,112]⟩:ByteArray),(⟨#[98,114,97,110,99,104]⟩:ByteArray),(⟨#[97,115,115,101,114,116]⟩:ByteArray),(⟨#[115,116,111,112]⟩:ByteArray),(⟨#[108,111,97,100]⟩:ByteArray),(⟨#[115,116,111,114,101]⟩:ByteArray),(⟨#[115,119,97,112]⟩:ByteArray),(⟨#[102,101,116,99,104,97,100,100]⟩:ByteArray),(⟨#[99,97,115]⟩:ByteArray),(⟨#[102,101,110,99,101]⟩:ByteArray),(⟨#[97,119,97,105,116]⟩:ByteArray),(⟨#[108,111,99,107]⟩:ByteArray),(⟨#[117,110,108,111,99,107]⟩:ByteArray),(⟨#[116,114,121,108,111,99,107]⟩:ByteArray),(⟨#[119,97,105,116]⟩:ByteArray),(⟨#[115,105,103,110,97,108]⟩:ByteArray),(⟨#[98,114,111,97,100,99,97,115,116]⟩:ByteArray),(⟨#[115,112,97,119,110]⟩:ByteArray),(⟨#[106,111,105,110]⟩:ByteArray)])) (fun l1=>some l1)
theorem zlN {r:(List ByteArray)}(hs:zgp=some r):At Tryz.prog 90 [] (.cell (sC r)):=by
 refine zab (by kernel_rfl) fun hb=>?_
 refine zac mixed Tryz.func90 (by kernel_rfl) rfl (by kernel_rfl) rfl fun Q hQ=>?_
 rw[zgp]at hs
 revert hs;refine lK fun l1 hx2 hs=>?_
 have hx2n:l1.length=22:=by rw[hx2];rfl
 refine goR hx2 ?_
 obtain rfl:=sj hs
 exact hQ _ _ (rg hx2 (Gh.frz _ (.o 2 0 0)))
def za5(a0:ByteArray):List ByteArray->Nat->Option (Unit ⊕ (Int × Bool))
 |[],k44=>some (.inl ())
 |x61::q57,k44=>cond (eqS x61 a0) (some (.inr ((((k44+1):Nat):Int),true))) (za5 a0 q57 (k44+1))
def zcr(a0:ByteArray):Option (Int × Bool):=
 Option.bind (zgp) (fun y1=>Option.bind (α:=Unit ⊕ (Int × Bool)) (zai (lenB y1.length) (Option.bind (za5 a0 y1 0) (fun o=>match o with|.inl _=>some (.inl ())|.inr r66=>some (.inr r66)))) (fun o=>match o with|.inl _=>some (0,false)|.inr r67=>some r67))
theorem zhk{a0:ByteArray}{r:Int × Bool}(hs:zcr a0=some r):At Tryz.prog 56 [sV a0] (.tup [iV .i64 r.1,bV r.2]):=by
 refine zab (by kernel_rfl) fun hb=>?_
 refine zac mixed Tryz.func56 (by kernel_rfl) rfl (by kernel_rfl) rfl fun Q hQ=>?_
 rw[zcr]at hs
 refine goR f0 ?_
 revert hs;refine bK fun y1 hx2 hs=>?_
 refine cP f0 (zlN hx2) ?_
 refine goR2 f0 ?_
 revert hs;refine bK fun o34 e33 hs=>?_
 refine zaj (fun(v:Unit) (σ:St)=>some (.inl v)=some o34 /\ 3<=σ.gen) (by rfl) (fun Q hK35 hX36=>?_) (fun v σ3 hp=>?_)
 ·refine goR f0 ?_
  obtain⟨hb62,e33⟩:=zaa e33
  revert e33;refine bK fun o52 e51 e33=>?_
  refine zaf (fun(v:(List ByteArray) × Nat) (σ:St)=>za5 a0 v.1 v.2=some o52 /\ v.1=y1.drop v.2 /\ σ.env 0=sV a0 /\ σ.env 4=.cell (sC y1) /\ σ.env 5=iV .i64 ((v.2:Nat):Int) /\ 3<=σ.gen) (fun v=>v.1.length) _ (Gh.refl _) (y1,0) ⟨e51,by simp,pv f0,pv f0,pv f0,pg⟩ fun v σ6 hp L53 hL54=>?_
  obtain⟨q56,k44⟩:=v
  dsimp only at hp hL54
  obtain⟨e51,hd55,h5_0,h5_4,h5_5,n5_g⟩:=hp
  rcases q56 with _ |⟨x61,q57⟩
  ·have hlt58:=drop_end hd55
   rw[za5]at e51;try dsimp only at e51
   have F1:=an h5_0 (an h5_4 h5_5)
   refine goR F1 ?_
   refine zaF (by simp[ltI];omega) ?_
   obtain rfl:=sj e51
   try dsimp only at e33
   exact hK35 () _ _ (Gh.refl _) ⟨e33,pg⟩
  ·obtain⟨hx60,hlt58,hd63⟩:=zay hd55
   have ew59:=za1 hlt58 hb62
   rw[za5]at e51;try dsimp only at e51
   have F2:=an h5_0 (an h5_4 (an h5_5 (an hlt58 ew59)))
   refine goR F2 ?_
   refine zaB (by simp[ltI];omega) ?_
   have f64:zam Tryz.prog 9 (encL y1) (k44)=some (sV x61):=zaz hx60 (by simp)
   have F3:=an F2 f64
   refine goR F3 ?_
   revert e51;refine cS F3 ?_ ?_<;>intro h65 e51
   ·refine goR F3 ?_
    obtain rfl:=sj e51
    try dsimp only at e33
    obtain rfl:=sj e33
    try dsimp only at hs
    refine hX36 _ _ (by simp) ?_
    refine goR F3 ?_
    obtain rfl:=sj hs
    exact hQ _ _ (rg F3 (Gh.refl _))
   ·refine goR F3 ?_
    exact hL54 (q57,(k44+1)) _ _ (Gh.refl _) ⟨e51,hd63,pv F3,pv F3,pv F3,pg⟩ (by simp)
 ·obtain⟨e33,n4_g⟩:=hp
  obtain rfl:=sj e33
  try dsimp only at hs
  refine goR f0 ?_
  obtain rfl:=sj hs
  exact hQ _ _ (rg f0 (Gh.refl _))
def zd3 :Option (List ByteArray):=
 Option.bind (some ([(⟨#[65,78]⟩:ByteArray),(⟨#[65,66]⟩:ByteArray),(⟨#[70,65,66,67]⟩:ByteArray),(⟨#[78]⟩:ByteArray),(⟨#[66,78]⟩:ByteArray),(⟨#[66]⟩:ByteArray),(⟨#[]⟩:ByteArray),(⟨#[65,118,82]⟩:ByteArray),(⟨#[118,66,82]⟩:ByteArray),(⟨#[65,118,66,82]⟩:ByteArray),(⟨#[65,118,66,82]⟩:ByteArray),(⟨#[65,118,66,67,82]⟩:ByteArray),(⟨#[]⟩:ByteArray),(⟨#[65,118,70,66,82]⟩:ByteArray),(⟨#[109]⟩:ByteArray),(⟨#[109]⟩:ByteArray),(⟨#[65,109]⟩:ByteArray),(⟨#[99,77]⟩:ByteArray),(⟨#[99]⟩:ByteArray),(⟨#[99]⟩:ByteArray),(⟨#[65,102,66]⟩:ByteArray),(⟨#[66]⟩:ByteArray)])) (fun l1=>some l1)
theorem zi4 {r:(List ByteArray)}(hs:zd3=some r):At Tryz.prog 57 [] (.cell (sC r)):=by
 refine zab (by kernel_rfl) fun hb=>?_
 refine zac mixed Tryz.func57 (by kernel_rfl) rfl (by kernel_rfl) rfl fun Q hQ=>?_
 rw[zd3]at hs
 revert hs;refine lK fun l1 hx2 hs=>?_
 have hx2n:l1.length=22:=by rw[hx2];rfl
 refine goR hx2 ?_
 obtain rfl:=sj hs
 exact hQ _ _ (rg hx2 (Gh.frz _ (.o 2 0 0)))
def zcl(a0_0:List Token)(a0_1:Int)(a0_2:Int)(a0_3:Bool)(a0_4:Int)(a0_5:Int):Option (Int × Int × Int × Int):=
 Option.bind (zcX a0_0 a0_1 a0_2 a0_3 a0_4 a0_5 1) (fun y1=>cond (!y1.2.1) (some (0,y1.2.2.1,y1.2.2.2.1,y1.2.2.2.2)) (zai (orB (!(eqI ((y1.1.Text.size:Nat):Int) 2)) (inB ((0:Nat):Int) y1.1.Text.size)) (zai (orB (!(!(orB (!(eqI ((y1.1.Text.size:Nat):Int) 2)) (!(eqI (((bget y1.1.Text 0)).toNat:Int) 114))))) (inB ((1:Nat):Int) y1.1.Text.size)) (zai (orB (!(!(orB (orB (!(eqI ((y1.1.Text.size:Nat):Int) 2)) (!(eqI (((bget y1.1.Text 0)).toNat:Int) 114))) (ltI (((bget y1.1.Text 1)).toNat:Int) 48)))) (inB ((1:Nat):Int) y1.1.Text.size)) (cond (orB (orB (orB (!(eqI ((y1.1.Text.size:Nat):Int) 2)) (!(eqI (((bget y1.1.Text 0)).toNat:Int) 114))) (ltI (((bget y1.1.Text 1)).toNat:Int) 48)) (ltI 55 (((bget y1.1.Text 1)).toNat:Int))) (Option.bind (zcq y1.2.2.2.1 y1.2.2.2.2 10 y1.1.At) (fun y8=>some (0,y1.2.2.1,y8.1,y8.2))) (Option.bind (y1.1.Text[1]?) (fun c10=>some (IntKind.i64.wrap (IntKind.u8.wrap ((c10.toNat:Int) - 48)),y1.2.2.1,y1.2.2.2.1,y1.2.2.2.2))))))))
theorem zeU{c0_6:FC}{c0_7:FC}{c0_8:FC}{c0_9:FC}{c0_10:FC}{c0_11:FC}{c0_12:FC}{c0_13:FC}{c0_14:FC}{c0_15:FC}{a0_0:List Token}{a0_1:Int}{a0_2:Int}{a0_3:Bool}{a0_4:Int}{a0_5:Int}{r:Int × Int × Int × Int}(hs:zcl a0_0 a0_1 a0_2 a0_3 a0_4 a0_5=some r):CAt Tryz.prog 58 [.cell (.ref (.a 0) 0)] [.cells [sC a0_0,nC a0_1,nC a0_2,bC a0_3,nC a0_4,nC a0_5,c0_6.ac,c0_7.ac,c0_8.ac,c0_9.ac,c0_10.ac,c0_11.ac,c0_12.ac,c0_13.ac,c0_14.ac,c0_15.ac]] (.ret (iV .i64 r.1)) [(.a 0,.cells [sC a0_0,nC r.2.1,nC a0_2,bC a0_3,nC r.2.2.1,nC r.2.2.2,c0_6.ac,c0_7.ac,c0_8.ac,c0_9.ac,c0_10.ac,c0_11.ac,c0_12.ac,c0_13.ac,c0_14.ac,c0_15.ac])]:=by
 refine zab (by kernel_rfl) fun hb=>?_
 refine zac mixed Tryz.func58 (by kernel_rfl) rfl (by kernel_rfl) rfl fun Q hQ=>?_
 rw[zcl]at hs
 refine goR f0 ?_
 revert hs;refine bK fun y1 hx2 hs=>?_
 refine cB f0 (zcv (c0_6:=(c0_6.toF [.a 0])) (c0_7:=(c0_7.toF [.a 0])) (c0_8:=(c0_8.toF [.a 0])) (c0_9:=(c0_9.toF [.a 0])) (c0_10:=(c0_10.toF [.a 0])) (c0_11:=(c0_11.toF [.a 0])) (c0_12:=(c0_12.toF [.a 0])) (c0_13:=(c0_13.toF [.a 0])) (c0_14:=(c0_14.toF [.a 0])) (c0_15:=(c0_15.toF [.a 0])) hx2) [.a 0] ?_
 refine goR f0 ?_
 revert hs;refine cS f0 ?_ ?_<;>intro h3 hs
 ·refine goR f0 ?_
  obtain rfl:=sj hs
  refine hQ _ _ (zaG _ (Gh.refl _) (by simp[St.frz,St.pur];rfl) (by first|rfl |(simp[St.frz,St.pur];done) |(rw[if_pos (by first|omega |(simp;omega))];simp[St.frz,St.pur];first|omega|exact List.take_of_length_le (by simp;omega)|skip)) (pv f0))
 ·obtain⟨g4,hs⟩:=zaa hs
  have g4a:(eqI ((y1.1.Text.size:Nat):Int) 2)=true->0<=((0:Nat):Int):=fun hg=>(zat g4 hg).1
  have g4c:(eqI ((y1.1.Text.size:Nat):Int) 2)=true->y1.1.Text[0]?=some (bget y1.1.Text 0):=fun hg=>by simpa using (zat g4 hg).2.2
  obtain⟨g5,hs⟩:=zaa hs
  have g5a:(!(orB (!(eqI ((y1.1.Text.size:Nat):Int) 2)) (!(eqI (((bget y1.1.Text 0)).toNat:Int) 114))))=true->0<=((1:Nat):Int):=fun hg=>(zat g5 hg).1
  have g5c:(!(orB (!(eqI ((y1.1.Text.size:Nat):Int) 2)) (!(eqI (((bget y1.1.Text 0)).toNat:Int) 114))))=true->y1.1.Text[1]?=some (bget y1.1.Text 1):=fun hg=>by simpa using (zat g5 hg).2.2
  obtain⟨g6,hs⟩:=zaa hs
  have g6a:(!(orB (orB (!(eqI ((y1.1.Text.size:Nat):Int) 2)) (!(eqI (((bget y1.1.Text 0)).toNat:Int) 114))) (ltI (((bget y1.1.Text 1)).toNat:Int) 48)))=true->0<=((1:Nat):Int):=fun hg=>(zat g6 hg).1
  have g6c:(!(orB (orB (!(eqI ((y1.1.Text.size:Nat):Int) 2)) (!(eqI (((bget y1.1.Text 0)).toNat:Int) 114))) (ltI (((bget y1.1.Text 1)).toNat:Int) 48)))=true->y1.1.Text[1]?=some (bget y1.1.Text 1):=fun hg=>by simpa using (zat g6 hg).2.2
  have F1:=an g4a (an g4c (an g5a (an g5c (an g6a g6c))))
  refine goG F1 F1 ?_
  revert hs;refine cS F1 ?_ ?_<;>intro h7 hs
  ·refine goG F1 F1 ?_
   revert hs;refine bK fun y8 hx9 hs=>?_
   refine cB F1 (zbL (c0_0:=⟨AC.toF [.a 0] (sC a0_0),by simp[F1]⟩) (c0_1:=⟨AC.toF [.a 0] (nC y1.2.2.1),by simp[F1]⟩) (c0_2:=⟨AC.toF [.a 0] (nC a0_2),by simp[F1]⟩) (c0_3:=⟨AC.toF [.a 0] (bC a0_3),by simp[F1]⟩) (c0_6:=(c0_6.toF [.a 0])) (c0_7:=(c0_7.toF [.a 0])) (c0_8:=(c0_8.toF [.a 0])) (c0_9:=(c0_9.toF [.a 0])) (c0_10:=(c0_10.toF [.a 0])) (c0_11:=(c0_11.toF [.a 0])) (c0_12:=(c0_12.toF [.a 0])) (c0_13:=(c0_13.toF [.a 0])) (c0_14:=(c0_14.toF [.a 0])) (c0_15:=(c0_15.toF [.a 0])) hx9) [.a 0] ?_
   refine goG F1 F1 ?_
   obtain rfl:=sj hs
   refine hQ _ _ (zaG _ (Gh.refl _) (by simp[St.frz,St.pur,F1];rfl) (by first|rfl |(simp[St.frz,St.pur,F1];done) |(rw[if_pos (by first|omega |(simp;omega))];simp[St.frz,St.pur,F1];first|omega|exact List.take_of_length_le (by simp;omega)|skip)) (pv F1))
  ·revert hs;refine bK fun c10 hx11 hs=>?_
   have hx11b:=zbf hx11
   have hx11g:=zcd hx11
   have F2:=an F1 (an hx11 hx11g)
   refine goG F2 F2 ?_
   obtain rfl:=sj hs
   refine hQ _ _ (zaG _ (Gh.refl _) (by simp[St.frz,St.pur,F2];rfl) (by first|rfl |(simp[St.frz,St.pur,F2];done) |(rw[if_pos (by first|omega |(simp;omega))];simp[St.frz,St.pur,F2];first|omega|exact List.take_of_length_le (by simp;omega)|skip)) (pv F2))
def zcQ(a0:Int):Option ByteArray:=
 cond (eqI a0 1) (some (⟨#[97,100,100]⟩:ByteArray)) (cond (eqI a0 2) (some (⟨#[115,117,98]⟩:ByteArray)) (cond (eqI a0 3) (some (⟨#[109,117,108]⟩:ByteArray)) (cond (eqI a0 4) (some (⟨#[97,110,100]⟩:ByteArray)) (cond (eqI a0 5) (some (⟨#[111,114]⟩:ByteArray)) (cond (eqI a0 6) (some (⟨#[120,111,114]⟩:ByteArray)) (cond (eqI a0 7) (some (⟨#[101,113]⟩:ByteArray)) (cond (eqI a0 8) (some (⟨#[110,101]⟩:ByteArray)) (cond (eqI a0 9) (some (⟨#[108,116]⟩:ByteArray)) (cond (eqI a0 10) (some (⟨#[108,101]⟩:ByteArray)) (some (⟨#[]⟩:ByteArray)))))))))))
theorem zi8{a0:Int}{r:ByteArray}(hs:zcQ a0=some r):At Tryz.prog 99 [iV .i64 a0] (sV r):=by
 refine zab (by kernel_rfl) fun hb=>?_
 refine zac mixed Tryz.func99 (by kernel_rfl) rfl (by kernel_rfl) rfl fun Q hQ=>?_
 rw[zcQ]at hs
 refine goR f0 ?_
 revert hs;refine cS f0 ?_ ?_<;>intro h1 hs
 ·refine goR f0 ?_
  obtain rfl:=sj hs
  exact hQ _ _ (rg f0 (Gh.refl _))
 ·refine goR f0 ?_
  revert hs;refine cS f0 ?_ ?_<;>intro h2 hs
  ·refine goR f0 ?_
   obtain rfl:=sj hs
   exact hQ _ _ (rg f0 (Gh.refl _))
  ·refine goR f0 ?_
   revert hs;refine cS f0 ?_ ?_<;>intro h3 hs
   ·refine goR f0 ?_
    obtain rfl:=sj hs
    exact hQ _ _ (rg f0 (Gh.refl _))
   ·refine goR f0 ?_
    revert hs;refine cS f0 ?_ ?_<;>intro h4 hs
    ·refine goR f0 ?_
     obtain rfl:=sj hs
     exact hQ _ _ (rg f0 (Gh.refl _))
    ·refine goR f0 ?_
     revert hs;refine cS f0 ?_ ?_<;>intro h5 hs
     ·refine goR f0 ?_
      obtain rfl:=sj hs
      exact hQ _ _ (rg f0 (Gh.refl _))
     ·refine goR f0 ?_
      revert hs;refine cS f0 ?_ ?_<;>intro h6 hs
      ·refine goR f0 ?_
       obtain rfl:=sj hs
       exact hQ _ _ (rg f0 (Gh.refl _))
      ·refine goR f0 ?_
       revert hs;refine cS f0 ?_ ?_<;>intro h7 hs
       ·refine goR f0 ?_
        obtain rfl:=sj hs
        exact hQ _ _ (rg f0 (Gh.refl _))
       ·refine goR f0 ?_
        revert hs;refine cS f0 ?_ ?_<;>intro h8 hs
        ·refine goR f0 ?_
         obtain rfl:=sj hs
         exact hQ _ _ (rg f0 (Gh.refl _))
        ·refine goR f0 ?_
         revert hs;refine cS f0 ?_ ?_<;>intro h9 hs
         ·refine goR f0 ?_
          obtain rfl:=sj hs
          exact hQ _ _ (rg f0 (Gh.refl _))
         ·refine goR f0 ?_
          revert hs;refine cS f0 ?_ ?_<;>intro h10 hs
          ·refine goR f0 ?_
           obtain rfl:=sj hs
           exact hQ _ _ (rg f0 (Gh.refl _))
          ·refine goR f0 ?_
           obtain rfl:=sj hs
           exact hQ _ _ (rg f0 (Gh.refl _))
def zbA(a0:ByteArray):Nat->Int->Option (Unit ⊕ (Int × Bool))
 |0,_=>none
 |q50+1,i38=>cond (!(ltI 10 i38)) (Option.bind (zcQ i38) (fun y55=>cond (eqS y55 a0) (some (.inr (i38,true))) (zbA a0 q50 (IntKind.i64.wrap (i38+1))))) (some (.inl ()))
def zen(fuelN:Nat)(a0:ByteArray):Option (Int × Bool):=
 Option.bind (α:=Unit ⊕ (Int × Bool)) (Option.bind (zbA a0 fuelN 1) (fun o=>match o with|.inl _=>some (.inl ())|.inr r58=>some (.inr r58))) (fun o=>match o with|.inl _=>some (0,false)|.inr r59=>some r59)
theorem zkt{fuelN:Nat}{a0:ByteArray}{r:Int × Bool}(hs:zen fuelN a0=some r):At Tryz.prog 91 [sV a0] (.tup [iV .i64 r.1,bV r.2]):=by
 refine zab (by kernel_rfl) fun hb=>?_
 refine zac mixed Tryz.func91 (by kernel_rfl) rfl (by kernel_rfl) rfl fun Q hQ=>?_
 rw[zen]at hs
 refine goR2 f0 ?_
 revert hs;refine bK fun o29 e28 hs=>?_
 refine zaj (fun(v:Unit) (σ:St)=>some (.inl v)=some o29 /\ 2<=σ.gen) (by rfl) (fun Q hK30 hX31=>?_) (fun v σ3 hp=>?_)
 ·refine goR f0 ?_
  revert e28;refine bK fun o45 e44 e28=>?_
  refine zaf (fun(v:Nat × Int) (σ:St)=>zbA a0 v.1 v.2=some o45 /\ σ.env 0=sV a0 /\ σ.env 4=iV .i64 v.2 /\ 2<=σ.gen) (fun v=>v.1) _ (Gh.refl _) (fuelN,1) ⟨e44,pv f0,pv f0,pg⟩ fun v σ6 hp L46 hL47=>?_
  obtain⟨q49,i38⟩:=v
  dsimp only at hp hL47
  obtain⟨e44,h5_0,h5_4,n5_g⟩:=hp
  rcases q49 with _|q50
  ·rw[zbA]at e44;cases e44
  ·rw[zbA]at e44;try dsimp only at e44
   have F1:=an h5_0 h5_4
   refine goR F1 ?_
   revert e44;refine cS F1 ?_ ?_<;>intro h54 e44
   ·refine goR F1 ?_
    revert e44;refine bK fun y55 hx56 e44=>?_
    refine cP F1 (zi8 hx56) ?_
    refine goR F1 ?_
    revert e44;refine cS F1 ?_ ?_<;>intro h57 e44
    ·refine goR F1 ?_
     obtain rfl:=sj e44
     try dsimp only at e28
     obtain rfl:=sj e28
     try dsimp only at hs
     refine hX31 _ _ (by simp) ?_
     refine goR F1 ?_
     obtain rfl:=sj hs
     exact hQ _ _ (rg F1 (Gh.refl _))
    ·refine goR F1 ?_
     exact hL47 (q50,IntKind.i64.wrap (i38+1)) _ _ (Gh.refl _) ⟨e44,pv F1,pv F1,pg⟩ (by omega)
   ·refine goR F1 ?_
    obtain rfl:=sj e44
    try dsimp only at e28
    exact hK30 () _ _ (Gh.refl _) ⟨e28,pg⟩
 ·obtain⟨e28,n4_g⟩:=hp
  obtain rfl:=sj e28
  try dsimp only at hs
  refine goR f0 ?_
  obtain rfl:=sj hs
  exact hQ _ _ (rg f0 (Gh.refl _))
def rPfn (fuelN:Nat)(a0_0:List Token)(a0_1:Int)(a0_2:Int)(a0_3:Bool)(a0_4:Int)(a0_5:Int):Option (Int × Int × Int × Int):=
 Option.bind (zcX a0_0 a0_1 a0_2 a0_3 a0_4 a0_5 1) (fun y1=>cond (!y1.2.1) (some (0,y1.2.2.1,y1.2.2.2.1,y1.2.2.2.2)) (Option.bind (zen fuelN y1.1.Text) (fun y4=>cond (!y4.2) (Option.bind (zcq y1.2.2.2.1 y1.2.2.2.2 8 y1.1.At) (fun y7=>some (y4.1,y1.2.2.1,y7.1,y7.2))) (some (y4.1,y1.2.2.1,y1.2.2.2.1,y1.2.2.2.2)))))
theorem ztZ{fuelN:Nat}{c0_6:FC}{c0_7:FC}{c0_8:FC}{c0_9:FC}{c0_10:FC}{c0_11:FC}{c0_12:FC}{c0_13:FC}{c0_14:FC}{c0_15:FC}{a0_0:List Token}{a0_1:Int}{a0_2:Int}{a0_3:Bool}{a0_4:Int}{a0_5:Int}{r:Int × Int × Int × Int}(hs:rPfn fuelN a0_0 a0_1 a0_2 a0_3 a0_4 a0_5=some r):CAt Tryz.prog 59 [.cell (.ref (.a 0) 0)] [.cells [sC a0_0,nC a0_1,nC a0_2,bC a0_3,nC a0_4,nC a0_5,c0_6.ac,c0_7.ac,c0_8.ac,c0_9.ac,c0_10.ac,c0_11.ac,c0_12.ac,c0_13.ac,c0_14.ac,c0_15.ac]] (.ret (iV .i64 r.1)) [(.a 0,.cells [sC a0_0,nC r.2.1,nC a0_2,bC a0_3,nC r.2.2.1,nC r.2.2.2,c0_6.ac,c0_7.ac,c0_8.ac,c0_9.ac,c0_10.ac,c0_11.ac,c0_12.ac,c0_13.ac,c0_14.ac,c0_15.ac])]:=by
 refine zab (by kernel_rfl) fun hb=>?_
 refine zac mixed Tryz.func59 (by kernel_rfl) rfl (by kernel_rfl) rfl fun Q hQ=>?_
 rw[rPfn]at hs
 refine goR f0 ?_
 revert hs;refine bK fun y1 hx2 hs=>?_
 refine cB f0 (zcv (c0_6:=(c0_6.toF [.a 0])) (c0_7:=(c0_7.toF [.a 0])) (c0_8:=(c0_8.toF [.a 0])) (c0_9:=(c0_9.toF [.a 0])) (c0_10:=(c0_10.toF [.a 0])) (c0_11:=(c0_11.toF [.a 0])) (c0_12:=(c0_12.toF [.a 0])) (c0_13:=(c0_13.toF [.a 0])) (c0_14:=(c0_14.toF [.a 0])) (c0_15:=(c0_15.toF [.a 0])) hx2) [.a 0] ?_
 refine goR f0 ?_
 revert hs;refine cS f0 ?_ ?_<;>intro h3 hs
 ·refine goR f0 ?_
  obtain rfl:=sj hs
  refine hQ _ _ (zaG _ (Gh.refl _) (by simp[St.frz,St.pur];rfl) (by first|rfl |(simp[St.frz,St.pur];done) |(rw[if_pos (by first|omega |(simp;omega))];simp[St.frz,St.pur];first|omega|exact List.take_of_length_le (by simp;omega)|skip)) (pv f0))
 ·refine goR f0 ?_
  revert hs;refine bK fun y4 hx5 hs=>?_
  refine cP f0 (zkt hx5) ?_
  refine goR f0 ?_
  revert hs;refine cS f0 ?_ ?_<;>intro h6 hs
  ·refine goR f0 ?_
   revert hs;refine bK fun y7 hx8 hs=>?_
   refine cB f0 (zbL (c0_0:=⟨AC.toF [.a 0] (sC a0_0),by simp⟩) (c0_1:=⟨AC.toF [.a 0] (nC y1.2.2.1),by simp⟩) (c0_2:=⟨AC.toF [.a 0] (nC a0_2),by simp⟩) (c0_3:=⟨AC.toF [.a 0] (bC a0_3),by simp⟩) (c0_6:=(c0_6.toF [.a 0])) (c0_7:=(c0_7.toF [.a 0])) (c0_8:=(c0_8.toF [.a 0])) (c0_9:=(c0_9.toF [.a 0])) (c0_10:=(c0_10.toF [.a 0])) (c0_11:=(c0_11.toF [.a 0])) (c0_12:=(c0_12.toF [.a 0])) (c0_13:=(c0_13.toF [.a 0])) (c0_14:=(c0_14.toF [.a 0])) (c0_15:=(c0_15.toF [.a 0])) hx8) [.a 0] ?_
   refine goR f0 ?_
   obtain rfl:=sj hs
   refine hQ _ _ (zaG _ (Gh.refl _) (by simp[St.frz,St.pur];rfl) (by first|rfl |(simp[St.frz,St.pur];done) |(rw[if_pos (by first|omega |(simp;omega))];simp[St.frz,St.pur];first|omega|exact List.take_of_length_le (by simp;omega)|skip)) (pv f0))
  ·refine goR f0 ?_
   obtain rfl:=sj hs
   refine hQ _ _ (zaG _ (Gh.refl _) (by simp[St.frz,St.pur];rfl) (by first|rfl |(simp[St.frz,St.pur];done) |(rw[if_pos (by first|omega |(simp;omega))];simp[St.frz,St.pur];first|omega|exact List.take_of_length_le (by simp;omega)|skip)) (pv f0))
def zcn(a0:Int):Option ByteArray:=
 cond (orB (ltI a0 0) (ltI 2 a0)) (some (⟨#[]⟩:ByteArray)) (Option.bind (some ([(⟨#[112,108,97,105,110]⟩:ByteArray),(⟨#[114,101,108,97,120,101,100]⟩:ByteArray),(⟨#[114,101,108,97,99,113]⟩:ByteArray)])) (fun l2=>Option.bind (getI l2 a0) (fun x4=>some x4)))
theorem zhZ{a0:Int}{r:ByteArray}(hs:zcn a0=some r):At Tryz.prog 108 [iV .i64 a0] (sV r):=by
 refine zab (by kernel_rfl) fun hb=>?_
 refine zac mixed Tryz.func108 (by kernel_rfl) rfl (by kernel_rfl) rfl fun Q hQ=>?_
 rw[zcn]at hs
 refine goG f0 f0 ?_
 revert hs;refine cS f0 ?_ ?_<;>intro h1 hs
 ·refine goG f0 f0 ?_
  obtain rfl:=sj hs
  exact hQ _ _ (rg f0 (Gh.refl _))
 ·revert hs;refine lK fun l2 hx3 hs=>?_
  have hx3n:l2.length=3:=by rw[hx3];rfl
  revert hs;refine bK fun x4 hx5 hs=>?_
  obtain⟨hx5a,hx5b,hx5c,hx5d⟩:=zao hx5
  have f6:zam Tryz.prog 9 (encL l2) ((a0).toNat)=some (sV x4):=zaz hx5d (by simp)
  simp only[hx3,zgF,zrP,ztD,ztC,zrL,zrK,zwN,List.cons_append,List.nil_append]at f6
  have F1:=an hx3 f6
  have F2:=an F1 (an hx5a hx5b)
  refine goG F1 F2 ?_
  obtain rfl:=sj hs
  exact hQ _ _ (rg F1 (Gh.refl _))
def zaU(a0:ByteArray):Nat->Int->Option (Unit ⊕ (Int × Bool))
 |0,_=>none
 |q50+1,i38=>cond (!(ltI 2 i38)) (Option.bind (zcn i38) (fun y55=>cond (eqS y55 a0) (some (.inr (i38,true))) (zaU a0 q50 (IntKind.i64.wrap (i38+1))))) (some (.inl ()))
def zb8(fuelN:Nat)(a0:ByteArray):Option (Int × Bool):=
 Option.bind (α:=Unit ⊕ (Int × Bool)) (Option.bind (zaU a0 fuelN 0) (fun o=>match o with|.inl _=>some (.inl ())|.inr r58=>some (.inr r58))) (fun o=>match o with|.inl _=>some (0,false)|.inr r59=>some r59)
theorem zgP{fuelN:Nat}{a0:ByteArray}{r:Int × Bool}(hs:zb8 fuelN a0=some r):At Tryz.prog 92 [sV a0] (.tup [iV .i64 r.1,bV r.2]):=by
 refine zab (by kernel_rfl) fun hb=>?_
 refine zac mixed Tryz.func92 (by kernel_rfl) rfl (by kernel_rfl) rfl fun Q hQ=>?_
 rw[zb8]at hs
 refine goR2 f0 ?_
 revert hs;refine bK fun o29 e28 hs=>?_
 refine zaj (fun(v:Unit) (σ:St)=>some (.inl v)=some o29 /\ 2<=σ.gen) (by rfl) (fun Q hK30 hX31=>?_) (fun v σ3 hp=>?_)
 ·refine goR f0 ?_
  revert e28;refine bK fun o45 e44 e28=>?_
  refine zaf (fun(v:Nat × Int) (σ:St)=>zaU a0 v.1 v.2=some o45 /\ σ.env 0=sV a0 /\ σ.env 4=iV .i64 v.2 /\ 2<=σ.gen) (fun v=>v.1) _ (Gh.refl _) (fuelN,0) ⟨e44,pv f0,pv f0,pg⟩ fun v σ6 hp L46 hL47=>?_
  obtain⟨q49,i38⟩:=v
  dsimp only at hp hL47
  obtain⟨e44,h5_0,h5_4,n5_g⟩:=hp
  rcases q49 with _|q50
  ·rw[zaU]at e44;cases e44
  ·rw[zaU]at e44;try dsimp only at e44
   have F1:=an h5_0 h5_4
   refine goR F1 ?_
   revert e44;refine cS F1 ?_ ?_<;>intro h54 e44
   ·refine goR F1 ?_
    revert e44;refine bK fun y55 hx56 e44=>?_
    refine cP F1 (zhZ hx56) ?_
    refine goR F1 ?_
    revert e44;refine cS F1 ?_ ?_<;>intro h57 e44
    ·refine goR F1 ?_
     obtain rfl:=sj e44
     try dsimp only at e28
     obtain rfl:=sj e28
     try dsimp only at hs
     refine hX31 _ _ (by simp) ?_
     refine goR F1 ?_
     obtain rfl:=sj hs
     exact hQ _ _ (rg F1 (Gh.refl _))
    ·refine goR F1 ?_
     exact hL47 (q50,IntKind.i64.wrap (i38+1)) _ _ (Gh.refl _) ⟨e44,pv F1,pv F1,pg⟩ (by omega)
   ·refine goR F1 ?_
    obtain rfl:=sj e44
    try dsimp only at e28
    exact hK30 () _ _ (Gh.refl _) ⟨e28,pg⟩
 ·obtain⟨e28,n4_g⟩:=hp
  obtain rfl:=sj e28
  try dsimp only at hs
  refine goR f0 ?_
  obtain rfl:=sj hs
  exact hQ _ _ (rg f0 (Gh.refl _))
def zfR(fuelN:Nat)(a0_0:List Token)(a0_1:Int)(a0_2:Int)(a0_3:Bool)(a0_4:Int)(a0_5:Int):Option (Int × Int × Int × Int):=
 Option.bind (zcX a0_0 a0_1 a0_2 a0_3 a0_4 a0_5 1) (fun y1=>cond (!y1.2.1) (some (0,y1.2.2.1,y1.2.2.2.1,y1.2.2.2.2)) (Option.bind (zb8 fuelN y1.1.Text) (fun y4=>cond (!y4.2) (Option.bind (zcq y1.2.2.2.1 y1.2.2.2.2 13 y1.1.At) (fun y7=>some (y4.1,y1.2.2.1,y7.1,y7.2))) (some (y4.1,y1.2.2.1,y1.2.2.2.1,y1.2.2.2.2)))))
theorem zoq{fuelN:Nat}{c0_6:FC}{c0_7:FC}{c0_8:FC}{c0_9:FC}{c0_10:FC}{c0_11:FC}{c0_12:FC}{c0_13:FC}{c0_14:FC}{c0_15:FC}{a0_0:List Token}{a0_1:Int}{a0_2:Int}{a0_3:Bool}{a0_4:Int}{a0_5:Int}{r:Int × Int × Int × Int}(hs:zfR fuelN a0_0 a0_1 a0_2 a0_3 a0_4 a0_5=some r):CAt Tryz.prog 60 [.cell (.ref (.a 0) 0)] [.cells [sC a0_0,nC a0_1,nC a0_2,bC a0_3,nC a0_4,nC a0_5,c0_6.ac,c0_7.ac,c0_8.ac,c0_9.ac,c0_10.ac,c0_11.ac,c0_12.ac,c0_13.ac,c0_14.ac,c0_15.ac]] (.ret (iV .i64 r.1)) [(.a 0,.cells [sC a0_0,nC r.2.1,nC a0_2,bC a0_3,nC r.2.2.1,nC r.2.2.2,c0_6.ac,c0_7.ac,c0_8.ac,c0_9.ac,c0_10.ac,c0_11.ac,c0_12.ac,c0_13.ac,c0_14.ac,c0_15.ac])]:=by
 refine zab (by kernel_rfl) fun hb=>?_
 refine zac mixed Tryz.func60 (by kernel_rfl) rfl (by kernel_rfl) rfl fun Q hQ=>?_
 rw[zfR]at hs
 refine goR f0 ?_
 revert hs;refine bK fun y1 hx2 hs=>?_
 refine cB f0 (zcv (c0_6:=(c0_6.toF [.a 0])) (c0_7:=(c0_7.toF [.a 0])) (c0_8:=(c0_8.toF [.a 0])) (c0_9:=(c0_9.toF [.a 0])) (c0_10:=(c0_10.toF [.a 0])) (c0_11:=(c0_11.toF [.a 0])) (c0_12:=(c0_12.toF [.a 0])) (c0_13:=(c0_13.toF [.a 0])) (c0_14:=(c0_14.toF [.a 0])) (c0_15:=(c0_15.toF [.a 0])) hx2) [.a 0] ?_
 refine goR f0 ?_
 revert hs;refine cS f0 ?_ ?_<;>intro h3 hs
 ·refine goR f0 ?_
  obtain rfl:=sj hs
  refine hQ _ _ (zaG _ (Gh.refl _) (by simp[St.frz,St.pur];rfl) (by first|rfl |(simp[St.frz,St.pur];done) |(rw[if_pos (by first|omega |(simp;omega))];simp[St.frz,St.pur];first|omega|exact List.take_of_length_le (by simp;omega)|skip)) (pv f0))
 ·refine goR f0 ?_
  revert hs;refine bK fun y4 hx5 hs=>?_
  refine cP f0 (zgP hx5) ?_
  refine goR f0 ?_
  revert hs;refine cS f0 ?_ ?_<;>intro h6 hs
  ·refine goR f0 ?_
   revert hs;refine bK fun y7 hx8 hs=>?_
   refine cB f0 (zbL (c0_0:=⟨AC.toF [.a 0] (sC a0_0),by simp⟩) (c0_1:=⟨AC.toF [.a 0] (nC y1.2.2.1),by simp⟩) (c0_2:=⟨AC.toF [.a 0] (nC a0_2),by simp⟩) (c0_3:=⟨AC.toF [.a 0] (bC a0_3),by simp⟩) (c0_6:=(c0_6.toF [.a 0])) (c0_7:=(c0_7.toF [.a 0])) (c0_8:=(c0_8.toF [.a 0])) (c0_9:=(c0_9.toF [.a 0])) (c0_10:=(c0_10.toF [.a 0])) (c0_11:=(c0_11.toF [.a 0])) (c0_12:=(c0_12.toF [.a 0])) (c0_13:=(c0_13.toF [.a 0])) (c0_14:=(c0_14.toF [.a 0])) (c0_15:=(c0_15.toF [.a 0])) hx8) [.a 0] ?_
   refine goR f0 ?_
   obtain rfl:=sj hs
   refine hQ _ _ (zaG _ (Gh.refl _) (by simp[St.frz,St.pur];rfl) (by first|rfl |(simp[St.frz,St.pur];done) |(rw[if_pos (by first|omega |(simp;omega))];simp[St.frz,St.pur];first|omega|exact List.take_of_length_le (by simp;omega)|skip)) (pv f0))
  ·refine goR f0 ?_
   obtain rfl:=sj hs
   refine hQ _ _ (zaG _ (Gh.refl _) (by simp[St.frz,St.pur];rfl) (by first|rfl |(simp[St.frz,St.pur];done) |(rw[if_pos (by first|omega |(simp;omega))];simp[St.frz,St.pur];first|omega|exact List.take_of_length_le (by simp;omega)|skip)) (pv f0))
def zas(fuelN:Nat)(a1:Int)(a2:Int)(x11:ByteArray)(a0_0:List Token)(a0_2:Int)(a0_3:Bool):Nat->Nat->Int->Int->Int->(List RNm)->Int->Int->Int->Int->Int->Int->Option (Int × Int × Int × (List RNm) × Int × Int × Int × Int × Int × Int)
 |0,k280,i281,i282,i283,l284,i285,i286,i287,i288,i289,i290=>some ((i281,i282,i283,l284,i285,i286,i287,i288,i289,i290))
 |q331+1,k280,i281,i282,i283,l284,i285,i286,i287,i288,i289,i290=>Option.bind (x11[k280]?) (fun c336=>cond (eqI (c336.toNat:Int) 65) (Option.bind (zcl a0_0 i281 a0_2 a0_3 i282 i283) (fun y339=>zas fuelN a1 a2 x11 a0_0 a0_2 a0_3 q331 (k280+1) y339.2.1 y339.2.2.1 y339.2.2.2 l284 y339.1 i286 i287 i288 i289 i290)) (cond (eqI (c336.toNat:Int) 66) (Option.bind (zcl a0_0 i281 a0_2 a0_3 i282 i283) (fun y342=>zas fuelN a1 a2 x11 a0_0 a0_2 a0_3 q331 (k280+1) y342.2.1 y342.2.2.1 y342.2.2.2 l284 i285 y342.1 i287 i288 i289 i290)) (cond (eqI (c336.toNat:Int) 67) (Option.bind (zcl a0_0 i281 a0_2 a0_3 i282 i283) (fun y345=>zas fuelN a1 a2 x11 a0_0 a0_2 a0_3 q331 (k280+1) y345.2.1 y345.2.2.1 y345.2.2.2 l284 i285 i286 y345.1 i288 i289 i290)) (cond (eqI (c336.toNat:Int) 78) (Option.bind (zda a0_0 i281 a0_2 a0_3 i282 i283) (fun y348=>zas fuelN a1 a2 x11 a0_0 a0_2 a0_3 q331 (k280+1) y348.2.1 y348.2.2.1 y348.2.2.2 l284 i285 i286 i287 y348.1 i289 i290)) (cond (eqI (c336.toNat:Int) 70) (Option.bind (rPfn fuelN a0_0 i281 a0_2 a0_3 i282 i283) (fun y351=>zas fuelN a1 a2 x11 a0_0 a0_2 a0_3 q331 (k280+1) y351.2.1 y351.2.2.1 y351.2.2.2 l284 i285 i286 i287 i288 y351.1 i290)) (cond (eqI (c336.toNat:Int) 82) (Option.bind (zfR fuelN a0_0 i281 a0_2 a0_3 i282 i283) (fun y354=>zas fuelN a1 a2 x11 a0_0 a0_2 a0_3 q331 (k280+1) y354.2.1 y354.2.2.1 y354.2.2.2 l284 i285 i286 i287 i288 i289 y354.1)) (Option.bind (zgm a0_0 i281 a0_2 a0_3 i282 i283 l284 c336 a1 a2) (fun y356=>zas fuelN a1 a2 x11 a0_0 a0_2 a0_3 q331 (k280+1) y356.1 y356.2.1 y356.2.2.1 y356.2.2.2 i285 i286 i287 i288 i289 i290))))))))
def zcM(fuelN:Nat)(a0_0:List Token)(a0_1:Int)(a0_2:Int)(a0_3:Bool)(a0_4:Int)(a0_5:Int)(a0_11:List RNm)(a1:Int)(a2:Int):Option (Inst × Int × Int × Int × (List RNm)):=
 Option.bind (zcX a0_0 a0_1 a0_2 a0_3 a0_4 a0_5 1) (fun y1=>cond (!y1.2.1) (some (({ Op:=0,A:=0,B:=0,C:=0,Obj:=0,N:=0,Fn:=0,Order:=0 }:Inst),y1.2.2.1,y1.2.2.2.1,y1.2.2.2.2,a0_11)) (Option.bind (zcr y1.1.Text) (fun y4=>cond (!y4.2) (Option.bind (zcq y1.2.2.2.1 y1.2.2.2.2 8 y1.1.At) (fun y7=>some (({ Op:=0,A:=0,B:=0,C:=0,Obj:=0,N:=0,Fn:=0,Order:=0 }:Inst),y1.2.2.1,y7.1,y7.2,a0_11))) (Option.bind (zd3) (fun y9=>Option.bind (getI y9 (IntKind.i64.wrap (y4.1 - 1))) (fun x11=>Option.bind (α:=Int × Int × Int × (List RNm) × Int × Int × Int × Int × Int × Int) (zai (lenB x11.size) (Option.bind (zas fuelN a1 a2 x11 a0_0 a0_2 a0_3 x11.size 0 y1.2.2.1 y1.2.2.2.1 y1.2.2.2.2 a0_11 0 0 0 0 0 0) (fun o=>match o with |(i315,i316,i317,l318,i319,i320,i321,i322,i323,i324)=>some ((i315,i316,i317,l318,i319,i320,i321,i322,i323,i324))))) (fun o=>match o with |(i179,i180,i181,l182,i183,i184,i185,i186,i187,i188)=>some (({ Op:=y4.1,A:=i183,B:=i184,C:=i185,Obj:=0,N:=i186,Fn:=i187,Order:=i188 }:Inst),i179,i180,i181,l182))))))))
theorem zhW{fuelN:Nat}{c0_6:FC}{c0_7:FC}{c0_8:FC}{c0_9:FC}{c0_10:FC}{c0_12:FC}{c0_13:FC}{c0_14:FC}{c0_15:FC}{a0_0:List Token}{a0_1:Int}{a0_2:Int}{a0_3:Bool}{a0_4:Int}{a0_5:Int}{a0_11:List RNm}{a1:Int}{a2:Int}{r:Inst × Int × Int × Int × (List RNm)}(hs:zcM fuelN a0_0 a0_1 a0_2 a0_3 a0_4 a0_5 a0_11 a1 a2=some r):CAt Tryz.prog 32 [.cell (.ref (.a 0) 0),iV .i64 a1,iV .i64 a2] [.cells [sC a0_0,nC a0_1,nC a0_2,bC a0_3,nC a0_4,nC a0_5,c0_6.ac,c0_7.ac,c0_8.ac,c0_9.ac,c0_10.ac,.own (.sp 5 a0_11.length (encL a0_11)),c0_12.ac,c0_13.ac,c0_14.ac,c0_15.ac]] (.ret (.agg (eA r.1))) [(.a 0,.cells [sC a0_0,nC r.2.1,nC a0_2,bC a0_3,nC r.2.2.1,nC r.2.2.2.1,c0_6.ac,c0_7.ac,c0_8.ac,c0_9.ac,c0_10.ac,.own (.sp 5 r.2.2.2.2.length (encL r.2.2.2.2)),c0_12.ac,c0_13.ac,c0_14.ac,c0_15.ac])]:=by
 refine zab (by kernel_rfl) fun hb=>?_
 refine zac mixed Tryz.func32 (by kernel_rfl) rfl (by kernel_rfl) rfl fun Q hQ=>?_
 rw[zcM]at hs
 refine goR f0 ?_
 revert hs;refine bK fun y1 hx2 hs=>?_
 refine cB f0 (zcv (c0_6:=(c0_6.toF [.a 0])) (c0_7:=(c0_7.toF [.a 0])) (c0_8:=(c0_8.toF [.a 0])) (c0_9:=(c0_9.toF [.a 0])) (c0_10:=(c0_10.toF [.a 0])) (c0_11:=⟨AC.toF [.a 0] (.own (.sp 5 a0_11.length (encL a0_11))),by simp⟩) (c0_12:=(c0_12.toF [.a 0])) (c0_13:=(c0_13.toF [.a 0])) (c0_14:=(c0_14.toF [.a 0])) (c0_15:=(c0_15.toF [.a 0])) hx2) [.a 0] ?_
 refine goR f0 ?_
 revert hs;refine cS f0 ?_ ?_<;>intro h3 hs
 ·refine goR f0 ?_
  obtain rfl:=sj hs
  refine hQ _ _ (zaG _ (Gh.refl _) (by simp[St.frz,St.pur];rfl) (by first|rfl |(simp[St.frz,St.pur];done) |(rw[if_pos (by first|omega |(simp;omega))];simp[St.frz,St.pur];first|omega|exact List.take_of_length_le (by simp;omega)|skip)) (pv f0))
 ·refine goR f0 ?_
  revert hs;refine bK fun y4 hx5 hs=>?_
  refine cP f0 (zhk hx5) ?_
  refine goR f0 ?_
  revert hs;refine cS f0 ?_ ?_<;>intro h6 hs
  ·refine goR f0 ?_
   revert hs;refine bK fun y7 hx8 hs=>?_
   refine cB f0 (zbL (c0_0:=⟨AC.toF [.a 0] (sC a0_0),by simp⟩) (c0_1:=⟨AC.toF [.a 0] (nC y1.2.2.1),by simp⟩) (c0_2:=⟨AC.toF [.a 0] (nC a0_2),by simp⟩) (c0_3:=⟨AC.toF [.a 0] (bC a0_3),by simp⟩) (c0_6:=(c0_6.toF [.a 0])) (c0_7:=(c0_7.toF [.a 0])) (c0_8:=(c0_8.toF [.a 0])) (c0_9:=(c0_9.toF [.a 0])) (c0_10:=(c0_10.toF [.a 0])) (c0_11:=⟨AC.toF [.a 0] (.own (.sp 5 a0_11.length (encL a0_11))),by simp⟩) (c0_12:=(c0_12.toF [.a 0])) (c0_13:=(c0_13.toF [.a 0])) (c0_14:=(c0_14.toF [.a 0])) (c0_15:=(c0_15.toF [.a 0])) hx8) [.a 0] ?_
   refine goR f0 ?_
   obtain rfl:=sj hs
   refine hQ _ _ (zaG _ (Gh.refl _) (by simp[St.frz,St.pur];rfl) (by first|rfl |(simp[St.frz,St.pur];done) |(rw[if_pos (by first|omega |(simp;omega))];simp[St.frz,St.pur];first|omega|exact List.take_of_length_le (by simp;omega)|skip)) (pv f0))
  ·refine goR f0 ?_
   revert hs;refine bK fun y9 hx10 hs=>?_
   refine cP f0 (zi4 hx10) ?_
   revert hs;refine bK fun x11 hx12 hs=>?_
   obtain⟨hx12a,hx12b,hx12c,hx12d⟩:=zao hx12
   have f13:zam Tryz.prog 9 (encL y9) ((IntKind.i64.wrap (y4.1 - 1)).toNat)=some (sV x11):=zaz hx12d (by simp)
   refine goR2 f13 ?_
   revert hs;refine bK fun o190 e189 hs=>?_
   refine zaj (fun(v:Int × Int × Int × (List RNm) × Int × Int × Int × Int × Int × Int) (σ:St)=>some (v)=some o190 /\ σ.env 6=.cell (.ref (.o 1 0 0) 0) /\ σ.env 11=.cell (.ref (.o 6 2 0) 0) /\ σ.hp (.a 0)=some (.cells [sC a0_0,nC v.1,nC a0_2,bC a0_3,nC v.2.1,nC v.2.2.1,c0_6.ac,c0_7.ac,c0_8.ac,c0_9.ac,c0_10.ac,.own (.sp 5 v.2.2.2.1.length (encL v.2.2.2.1)),c0_12.ac,c0_13.ac,c0_14.ac,c0_15.ac]) /\ σ.hp (.o 1 0 0)=some (.cells [nC 0,nC 0,nC 0,nC 0,nC 0,nC 0,nC 0,nC 0]) /\ σ.hp (.o 6 2 0)=some (.cells [nC y4.1,nC v.2.2.2.2.1,nC v.2.2.2.2.2.1,nC v.2.2.2.2.2.2.1,nC 0,nC v.2.2.2.2.2.2.2.1,nC v.2.2.2.2.2.2.2.2.1,nC v.2.2.2.2.2.2.2.2.2]) /\ 8<=σ.gen) (by rfl) (fun Q hK191 hX192=>?_) (fun v σ3 hp=>?_)
   ·refine goR f13 ?_
    obtain⟨hb335,e189⟩:=zaa e189
    revert e189;refine bK fun o326 e325 e189=>?_
    refine zaf (fun(v:Nat × Nat × Int × Int × Int × (List RNm) × Int × Int × Int × Int × Int × Int) (σ:St)=>zas fuelN a1 a2 x11 a0_0 a0_2 a0_3 v.1 v.2.1 v.2.2.1 v.2.2.2.1 v.2.2.2.2.1 v.2.2.2.2.2.1 v.2.2.2.2.2.2.1 v.2.2.2.2.2.2.2.1 v.2.2.2.2.2.2.2.2.1 v.2.2.2.2.2.2.2.2.2.1 v.2.2.2.2.2.2.2.2.2.2.1 v.2.2.2.2.2.2.2.2.2.2.2=some o326 /\ v.1+v.2.1=x11.size /\ σ.env 0=.cell (.ref (.a 0) 0) /\ σ.env 1=iV .i64 a1 /\ σ.env 2=iV .i64 a2 /\ σ.env 6=.cell (.ref (.o 1 0 0) 0) /\ σ.env 11=.cell (.ref (.o 6 2 0) 0) /\ σ.env 12=sV x11 /\ σ.env 13=iV .i64 ((v.2.1:Nat):Int) /\ σ.hp (.a 0)=some (.cells [sC a0_0,nC v.2.2.1,nC a0_2,bC a0_3,nC v.2.2.2.1,nC v.2.2.2.2.1,c0_6.ac,c0_7.ac,c0_8.ac,c0_9.ac,c0_10.ac,.own (.sp 5 v.2.2.2.2.2.1.length (encL v.2.2.2.2.2.1)),c0_12.ac,c0_13.ac,c0_14.ac,c0_15.ac]) /\ σ.hp (.o 1 0 0)=some (.cells [nC 0,nC 0,nC 0,nC 0,nC 0,nC 0,nC 0,nC 0]) /\ σ.hp (.o 6 2 0)=some (.cells [nC y4.1,nC v.2.2.2.2.2.2.1,nC v.2.2.2.2.2.2.2.1,nC v.2.2.2.2.2.2.2.2.1,nC 0,nC v.2.2.2.2.2.2.2.2.2.1,nC v.2.2.2.2.2.2.2.2.2.2.1,nC v.2.2.2.2.2.2.2.2.2.2.2]) /\ 8<=σ.gen) (fun v=>v.1) _ (Gh.refl _) (x11.size,0,y1.2.2.1,y1.2.2.2.1,y1.2.2.2.2,a0_11,0,0,0,0,0,0) ⟨e325,by first|omega|simp |(simp;omega),pv f13,pv f13,pv f13,pv f13,pv f13,pv f13,pv f13,pv f13,pv f13,pv f13,pg⟩ fun v σ6 hp L327 hL328=>?_
    obtain⟨q330,k280,i281,i282,i283,l284,i285,i286,i287,i288,i289,i290⟩:=v
    dsimp only at hp hL328
    obtain⟨e325,hd329,h5_0,h5_1,h5_2,h5_6,h5_11,h5_12,h5_13,g5_0,g5_1,g5_2,n5_g⟩:=hp
    have n5_0:¬ (σ6.gen=0):=by omega
    have n5_1:¬ (σ6.gen=1):=by omega
    have n5_2:¬ (σ6.gen=2):=by omega
    have n5_3:¬ (σ6.gen=3):=by omega
    have n5_4:¬ (σ6.gen=4):=by omega
    have n5_5:¬ (σ6.gen=5):=by omega
    rcases q330 with _|q331
    ·have hlt332:¬ k280 < x11.size:=by omega
     rw[zas]at e325;try dsimp only at e325
     have F1:=an h5_0 (an h5_1 (an h5_2 (an h5_6 (an h5_11 (an h5_12 (an h5_13 (an g5_0 (an g5_1 (an g5_2 (an n5_0 (an n5_1 (an n5_2 (an n5_3 (an n5_4 (an n5_5 f13)))))))))))))))
     refine goR F1 ?_
     refine zaF (by simp[ltI];omega) ?_
     obtain rfl:=sj e325
     try dsimp only at e189
     exact hK191 (i281,i282,i283,l284,i285,i286,i287,i288,i289,i290) _ _ (Gh.refl _) ⟨e189,pv F1,pv F1,pv F1,pv F1,pv F1,pg⟩
    ·have hlt332:k280 < x11.size:=by omega
     have ew333:=za1 hlt332 hb335
     rw[zas]at e325;try dsimp only at e325
     have F2:=an h5_0 (an h5_1 (an h5_2 (an h5_6 (an h5_11 (an h5_12 (an h5_13 (an g5_0 (an g5_1 (an g5_2 (an n5_0 (an n5_1 (an n5_2 (an n5_3 (an n5_4 (an n5_5 (an f13 (an hlt332 ew333)))))))))))))))))
     refine goR F2 ?_
     refine zaB (by simp[ltI];omega) ?_
     revert e325;refine bK fun c336 hx337 e325=>?_
     have hx337b:=zbf hx337
     have hx337g:=zcd hx337
     have F3:=an F2 (an hx337 hx337g)
     refine goR F3 ?_
     revert e325;refine cS F3 ?_ ?_<;>intro h338 e325
     ·refine goR F3 ?_
      revert e325;refine bK fun y339 hx340 e325=>?_
      refine cB F3 (zeU (c0_6:=(c0_6.toF [.a 0])) (c0_7:=(c0_7.toF [.a 0])) (c0_8:=(c0_8.toF [.a 0])) (c0_9:=(c0_9.toF [.a 0])) (c0_10:=(c0_10.toF [.a 0])) (c0_11:=⟨AC.toF [.a 0] (.own (.sp 5 l284.length (encL l284))),by simp[F3]⟩) (c0_12:=(c0_12.toF [.a 0])) (c0_13:=(c0_13.toF [.a 0])) (c0_14:=(c0_14.toF [.a 0])) (c0_15:=(c0_15.toF [.a 0])) hx340) [.a 0] ?_
      refine goR F3 ?_
      exact hL328 (q331,(k280+1),y339.2.1,y339.2.2.1,y339.2.2.2,l284,y339.1,i286,i287,i288,i289,i290) _ _ (Gh.refl _) ⟨e325,(by first|omega |(simp;omega)),pv F3,pv F3,pv F3,pv F3,pv F3,pv F3,pv F3,pv F3,pv F3,pv F3,pg⟩ (by omega)
     ·refine goR F3 ?_
      revert e325;refine cS F3 ?_ ?_<;>intro h341 e325
      ·refine goR F3 ?_
       revert e325;refine bK fun y342 hx343 e325=>?_
       refine cB F3 (zeU (c0_6:=(c0_6.toF [.a 0])) (c0_7:=(c0_7.toF [.a 0])) (c0_8:=(c0_8.toF [.a 0])) (c0_9:=(c0_9.toF [.a 0])) (c0_10:=(c0_10.toF [.a 0])) (c0_11:=⟨AC.toF [.a 0] (.own (.sp 5 l284.length (encL l284))),by simp[F3]⟩) (c0_12:=(c0_12.toF [.a 0])) (c0_13:=(c0_13.toF [.a 0])) (c0_14:=(c0_14.toF [.a 0])) (c0_15:=(c0_15.toF [.a 0])) hx343) [.a 0] ?_
       refine goR F3 ?_
       exact hL328 (q331,(k280+1),y342.2.1,y342.2.2.1,y342.2.2.2,l284,i285,y342.1,i287,i288,i289,i290) _ _ (Gh.refl _) ⟨e325,(by first|omega |(simp;omega)),pv F3,pv F3,pv F3,pv F3,pv F3,pv F3,pv F3,pv F3,pv F3,pv F3,pg⟩ (by omega)
      ·refine goR F3 ?_
       revert e325;refine cS F3 ?_ ?_<;>intro h344 e325
       ·refine goR F3 ?_
        revert e325;refine bK fun y345 hx346 e325=>?_
        refine cB F3 (zeU (c0_6:=(c0_6.toF [.a 0])) (c0_7:=(c0_7.toF [.a 0])) (c0_8:=(c0_8.toF [.a 0])) (c0_9:=(c0_9.toF [.a 0])) (c0_10:=(c0_10.toF [.a 0])) (c0_11:=⟨AC.toF [.a 0] (.own (.sp 5 l284.length (encL l284))),by simp[F3]⟩) (c0_12:=(c0_12.toF [.a 0])) (c0_13:=(c0_13.toF [.a 0])) (c0_14:=(c0_14.toF [.a 0])) (c0_15:=(c0_15.toF [.a 0])) hx346) [.a 0] ?_
        refine goR F3 ?_
        exact hL328 (q331,(k280+1),y345.2.1,y345.2.2.1,y345.2.2.2,l284,i285,i286,y345.1,i288,i289,i290) _ _ (Gh.refl _) ⟨e325,(by first|omega |(simp;omega)),pv F3,pv F3,pv F3,pv F3,pv F3,pv F3,pv F3,pv F3,pv F3,pv F3,pg⟩ (by omega)
       ·refine goR F3 ?_
        revert e325;refine cS F3 ?_ ?_<;>intro h347 e325
        ·refine goR F3 ?_
         revert e325;refine bK fun y348 hx349 e325=>?_
         refine cB F3 (zf6 (c0_6:=(c0_6.toF [.a 0])) (c0_7:=(c0_7.toF [.a 0])) (c0_8:=(c0_8.toF [.a 0])) (c0_9:=(c0_9.toF [.a 0])) (c0_10:=(c0_10.toF [.a 0])) (c0_11:=⟨AC.toF [.a 0] (.own (.sp 5 l284.length (encL l284))),by simp[F3]⟩) (c0_12:=(c0_12.toF [.a 0])) (c0_13:=(c0_13.toF [.a 0])) (c0_14:=(c0_14.toF [.a 0])) (c0_15:=(c0_15.toF [.a 0])) hx349) [.a 0] ?_
         refine goR F3 ?_
         exact hL328 (q331,(k280+1),y348.2.1,y348.2.2.1,y348.2.2.2,l284,i285,i286,i287,y348.1,i289,i290) _ _ (Gh.refl _) ⟨e325,(by first|omega |(simp;omega)),pv F3,pv F3,pv F3,pv F3,pv F3,pv F3,pv F3,pv F3,pv F3,pv F3,pg⟩ (by omega)
        ·refine goR F3 ?_
         revert e325;refine cS F3 ?_ ?_<;>intro h350 e325
         ·refine goR F3 ?_
          revert e325;refine bK fun y351 hx352 e325=>?_
          refine cB F3 (ztZ (c0_6:=(c0_6.toF [.a 0])) (c0_7:=(c0_7.toF [.a 0])) (c0_8:=(c0_8.toF [.a 0])) (c0_9:=(c0_9.toF [.a 0])) (c0_10:=(c0_10.toF [.a 0])) (c0_11:=⟨AC.toF [.a 0] (.own (.sp 5 l284.length (encL l284))),by simp[F3]⟩) (c0_12:=(c0_12.toF [.a 0])) (c0_13:=(c0_13.toF [.a 0])) (c0_14:=(c0_14.toF [.a 0])) (c0_15:=(c0_15.toF [.a 0])) hx352) [.a 0] ?_
          refine goR F3 ?_
          exact hL328 (q331,(k280+1),y351.2.1,y351.2.2.1,y351.2.2.2,l284,i285,i286,i287,i288,y351.1,i290) _ _ (Gh.refl _) ⟨e325,(by first|omega |(simp;omega)),pv F3,pv F3,pv F3,pv F3,pv F3,pv F3,pv F3,pv F3,pv F3,pv F3,pg⟩ (by omega)
         ·refine goR F3 ?_
          revert e325;refine cS F3 ?_ ?_<;>intro h353 e325
          ·refine goR F3 ?_
           revert e325;refine bK fun y354 hx355 e325=>?_
           refine cB F3 (zoq (c0_6:=(c0_6.toF [.a 0])) (c0_7:=(c0_7.toF [.a 0])) (c0_8:=(c0_8.toF [.a 0])) (c0_9:=(c0_9.toF [.a 0])) (c0_10:=(c0_10.toF [.a 0])) (c0_11:=⟨AC.toF [.a 0] (.own (.sp 5 l284.length (encL l284))),by simp[F3]⟩) (c0_12:=(c0_12.toF [.a 0])) (c0_13:=(c0_13.toF [.a 0])) (c0_14:=(c0_14.toF [.a 0])) (c0_15:=(c0_15.toF [.a 0])) hx355) [.a 0] ?_
           refine goR F3 ?_
           exact hL328 (q331,(k280+1),y354.2.1,y354.2.2.1,y354.2.2.2,l284,i285,i286,i287,i288,i289,y354.1) _ _ (Gh.refl _) ⟨e325,(by first|omega |(simp;omega)),pv F3,pv F3,pv F3,pv F3,pv F3,pv F3,pv F3,pv F3,pv F3,pv F3,pg⟩ (by omega)
          ·refine goR F3 ?_
           revert e325;refine bK fun y356 hx357 e325=>?_
           refine cB F3 (zlI (c0_6:=(c0_6.toF [.a 0])) (c0_7:=(c0_7.toF [.a 0])) (c0_8:=(c0_8.toF [.a 0])) (c0_9:=(c0_9.toF [.a 0])) (c0_10:=(c0_10.toF [.a 0])) (c0_12:=(c0_12.toF [.a 0])) (c0_13:=(c0_13.toF [.a 0])) (c0_14:=(c0_14.toF [.a 0])) (c0_15:=(c0_15.toF [.a 0])) hx357) [.a 0] ?_
           refine goR F3 ?_
           exact hL328 (q331,(k280+1),y356.1,y356.2.1,y356.2.2.1,y356.2.2.2,i285,i286,i287,i288,i289,i290) _ _ (Gh.refl _) ⟨e325,(by first|omega |(simp;omega)),pv F3,pv F3,pv F3,pv F3,pv F3,pv F3,pv F3,pv F3,pv F3,pv F3,pg⟩ (by omega)
   ·obtain⟨i179,i180,i181,l182,i183,i184,i185,i186,i187,i188⟩:=v
    dsimp only at hp
    obtain⟨e189,h4_6,h4_11,g4_0,g4_1,g4_2,n4_g⟩:=hp
    obtain rfl:=sj e189
    try dsimp only at hs
    have n4_0:¬ (σ3.gen=0):=by omega
    have n4_1:¬ (σ3.gen=1):=by omega
    have n4_2:¬ (σ3.gen=2):=by omega
    have n4_3:¬ (σ3.gen=3):=by omega
    have n4_4:¬ (σ3.gen=4):=by omega
    have n4_5:¬ (σ3.gen=5):=by omega
    have F4:=an h4_6 (an h4_11 (an g4_0 (an g4_1 (an g4_2 (an n4_0 (an n4_1 (an n4_2 (an n4_3 (an n4_4 (an n4_5 f13))))))))))
    refine goR F4 ?_
    obtain rfl:=sj hs
    refine hQ _ _ (zaG _ (Gh.refl _) (by simp[St.frz,St.pur,F4];rfl) (by first|rfl |(simp[St.frz,St.pur,F4];done) |(rw[if_pos (by first|omega |(simp;omega))];simp[St.frz,St.pur,F4];first|omega|exact List.take_of_length_le (by simp;omega)|skip)) (pv F4))
end Go.Dc
end
section
namespace Go.Dc.Pa
open Go Go.Hw Go.Dc Go.Dc.Pl
theorem zjP{α β γ:Type}(f:Nat->β->Option γ)(g:α->β):∀(l:List α) (k:Nat),first f (l.map g) k=first (fun k x=>f k (g x)) l k
 |[],_=>rfl
 |x::l,k=>by rw[List.map_cons,zaM,zaM,zjP f g l (k+1)]
theorem zo1(s:ByteArray):zcr s=some (match zfX s with|some n=>(n,true)|none=>(0,false)):=by
 have hn:zgp=some (zbs.map InstRow.name):=rfl
 have h:=srch (L:=za5 s) (fun k x=>zaw (eqS x s) ((k:Int)+1,true)) (fun _=>rfl) (zbs.map InstRow.name) 0 fun j x hx q=>by rw[za5];exact zaO _ _ _
 rw[zjP,zct (h:=fun k x=>zaw (eqS x.name s) ((k:Int)+1)) (g:=fun n=>(n,true)) _ _ (fun k x=>by cases eqS x.name s<;>rfl)]at h
 rw[zcr,hn,Option.bind_some,h,zfX,za3 _ (by rw[List.length_map];rfl)]
 cases first (fun k x=>zaw (eqS x.name s) ((k:Int)+1)) zbs 0<;>rfl
theorem zvA:((List.range 10).all fun k=>match zcQ ((k:Int)+1),zbb[k]? with|some a,some b=>eqS a b|_,_=>false)=true:=by kernel_rfl
theorem zvO{k:Nat}{x:ByteArray}(h:zbb[k]?=some x):zcQ ((k:Int)+1)=some x:=by
 have hk:k < 10:=zau h
 have:=List.all_eq_true.1 zvA k (List.mem_range.2 hk)
 rw[h]at this
 cases h2:zcQ ((k:Int)+1) with
 |none=>rw[h2]at this;cases this
 |some y=>rw[h2]at this;rw[zhf.1 this]
theorem zoV{F:Nat}(hF:F=67108864)(s:ByteArray):zen F s=some (match zgU s with|some n=>(n,true)|none=>(0,false)):=by
 have h:=zhM (L:=fun q i=>zbA s q (i+1)) zbb (fun k x=>zaw (eqS x s) ((k:Int)+1,true)) (fun q=>by rw[zbA];rfl) (fun q k x hx=>by
  have hk:k < 10:=zau hx
  rw[zbA,show ltI 10 ((k:Int)+1)=false from decide_eq_false (by omega),Bool.not_false,cond_true,zvO hx,Option.bind_some,wrapN (by omega) (by omega)]
  exact zaO _ _ _) F 0 (by simp) (by subst hF;simp[zbb])
 rw[List.drop_zero,zct (h:=fun k x=>zaw (eqS x s) ((k:Int)+1)) (g:=fun n=>(n,true)) _ _ (fun k x=>by cases eqS x s<;>rfl),Int.natCast_zero,Int.zero_add]at h
 rw[zen,h,zgU]
 cases first (fun k x=>zaw (eqS x s) ((k:Int)+1)) zbb 0<;>rfl
theorem zvY:((List.range 3).all fun k=>match zcn (k:Int),zbk[k]? with|some a,some b=>eqS a b|_,_=>false)=true:=by kernel_rfl
theorem zvP{k:Nat}{x:ByteArray}(h:zbk[k]?=some x):zcn (k:Int)=some x:=by
 have hk:k < 3:=zau h
 have:=List.all_eq_true.1 zvY k (List.mem_range.2 hk)
 rw[h]at this
 cases h2:zcn (k:Int) with
 |none=>rw[h2]at this;cases this
 |some y=>rw[h2]at this;rw[zhf.1 this]
theorem zo0{F:Nat}(hF:F=67108864)(s:ByteArray):zb8 F s=some (match zg7 s with|some n=>(n,true)|none=>(0,false)):=by
 have h:=zhM (L:=zaU s) zbk (fun k x=>zaw (eqS x s) ((k:Int),true)) (fun q=>by rw[zaU];rfl) (fun q k x hx=>by
  have hk:k < 3:=zau hx
  rw[zaU,show ltI 2 (k:Int)=false from decide_eq_false (by omega),Bool.not_false,cond_true,zvP hx,Option.bind_some,wrapN (by omega) (by omega)]
  exact zaO _ _ _) F 0 (by simp) (by subst hF;simp[zbk])
 rw[List.drop_zero,zct (h:=fun k x=>zaw (eqS x s) (k:Int)) (g:=fun n=>(n,true)) _ _ (fun k x=>by cases eqS x s<;>rfl),Int.natCast_zero]at h
 rw[zb8,h,zg7]
 cases first (fun k x=>zaw (eqS x s) (k:Int)) zbk 0<;>rfl
def cvT (t:Token):Token:=if t.Kind=4 then { t with Kind:=3 } else t
def seen (sg:Bool)(T:List Token):List Token:=if sg=true then T.map cvT else T
theorem zj5(sg:Bool)(T:List Token):(seen sg T).length=T.length:=by cases sg<;>simp[seen]
theorem zqO(sg:Bool)(T:List Token)(k:Nat):(seen sg T)[k]?=T[k]?.map (fun t=>if sg=true then cvT t else t):=by
 cases sg
 ·simp[seen]
 ·simp[seen]
def zT:Token:={ Kind:=0,Text:=(⟨#[]⟩:ByteArray),N:=0,At:=0 }
section
variable {T:List Token} {sg:Bool} {E:Int}
theorem zm9{k:Nat}(h:(seen sg T).drop k=[]):zgl T (k:Int) sg=some true:=by
 have:=List.drop_eq_nil_iff.1 h
 rw[zj5]at this
 rw[zgl,show ltI (k:Int) ((T.length:Nat):Int)=false from decide_eq_false (by omega)]
 rfl
theorem zsx{k:Nat}{t:Token}{r:List Token}(h:(seen sg T).drop k=t::r):∃ u,T[k]?=some u /\ t=(if sg=true then cvT u else u) /\ k < T.length /\ t.At=u.At:=by
 obtain⟨e1,e2,e3⟩:=drop_cons h
 rw[zqO]at e1
 rw[zj5]at e2
 rw[List.getElem?_eq_getElem e2]at e1 ⊢
 refine⟨T[k],rfl,(Option.some.inj e1).symm,e2,?_⟩
 rw[<- Option.some.inj e1]
 cases sg
 ·rfl
 ·simp only[if_true,cvT];split<;>rfl
theorem zh3{k:Nat}{t:Token}{r:List Token}(h:(seen sg T).drop k=t::r):zgl T (k:Int) sg=some (decide (t.Kind=4)):=by
 obtain⟨u,h1,h2,h3,_⟩:=zsx h
 rw[zgl,show ltI (k:Int) ((T.length:Nat):Int)=true from decide_eq_true (by omega),show inB (k:Int) T.length=true from decide_eq_true (by omega),zep,zad,Int.toNat_natCast,show gd T k=u by rw[gd,List.getD_eq_getElem?_getD,h1];rfl,zaL,h2]
 cases sg
 ·simp[zbY,zaV]
 ·simp only[if_true,cvT,Bool.not_true,Bool.not_false,zbY,zaV,Bool.false_and,Bool.or_false]
  split
  ·simp
  ·rename_i h4;simp[h4]
theorem zns{k:Nat}{t:Token}{r:List Token}(h:(seen sg T).drop k=t::r):∃ u,getI T (k:Int)=some u /\ t=(if sg=true then cvT u else u) /\ t.At=u.At /\ k < T.length:=by
 obtain⟨u,h1,h2,h3,h4⟩:=zsx h
 exact⟨u,by rw[zbp,h1],h2,h4,h3⟩
theorem zgb{e a kind:Int}{k:Nat}(he:e ≠ 0):zcX T (k:Int) E sg e a kind=some (zT,false,(k:Int),e,a):=by
 rw[zcX,zaL,decide_eq_false he];rfl
theorem zdJ{kind:Int}(hk:kind=1 \/ kind=2){k:Nat}(hT:T.length<=1048576):(∃ f,nxt E kind ((seen sg T).drop k)=.inl f /\ f.Err ≠ 0 /\ zcX T (k:Int) E sg 0 0 kind=some (zT,false,(k:Int),f.Err,f.At)) \/
  (∃ t,nxt E kind ((seen sg T).drop k)=.inr (t,(seen sg T).drop (k+1)) /\ zcX T (k:Int) E sg 0 0 kind=some (t,true,((k+1:Nat):Int),0,0)):=by
 cases hd:(seen sg T).drop k with
 |nil=>
  refine .inl ⟨_,rfl,by dsimp only;decide,?_⟩
  have:=List.drop_eq_nil_iff.1 hd
  rw[zj5]at this
  rw[zcX,zm9 hd,zkN,show ltI (k:Int) ((T.length:Nat):Int)=false from decide_eq_false (by omega)];rfl
 |cons t r=>
  obtain⟨u,h1,h2,h3,h4⟩:=zns hd
  obtain⟨_,_,hr⟩:=drop_cons hd
  rw[zcX,zh3 hd,nxt]
  by_cases h:t.Kind=4
  ·rw[if_pos h]
   refine .inl ⟨_,rfl,by dsimp only;decide,?_⟩
   rw[decide_eq_true h,zkN,show ltI (k:Int) ((T.length:Nat):Int)=true from decide_eq_true (by omega),cond_true,h1,h3];rfl
  ·rw[if_neg h,decide_eq_false h,h1]
   by_cases hkk:t.Kind=kind
   ·rw[if_pos hkk]
    have hu:t=u:=by
     cases sg
     ·simpa using h2
     ·simp only[if_true,cvT]at h2
      split at h2
      ·subst h2;dsimp only at hkk;omega
      ·exact h2
    subst hu
    refine .inr ⟨t,by rw[hr],?_⟩
    rw[Option.bind_some,cond_false,Option.bind_some,show eqI t.Kind kind=true by rw[zaL];exact decide_eq_true hkk,wrapN (by omega) (by omega)];rfl
   ·rw[if_neg hkk]
    have hu:u.Kind ≠ kind:=by
     cases sg
     ·simp at h2;subst h2;exact hkk
     ·simp only[if_true,cvT]at h2
      split at h2
      ·omega
      ·subst h2;exact hkk
    refine .inl ⟨_,rfl,by dsimp only;decide,?_⟩
    rw[Option.bind_some,cond_false,Option.bind_some,show eqI u.Kind kind=false by rw[zaL];exact decide_eq_false hu,h3];rfl
def badW (T:List Token)(f:Fault)(o:Option (Int × Int × Int × Int)):Prop:=∃(v:Int) (k':Nat),o=some (v,(k':Int),f.Err,f.At)
def zmG(S:List Token)(E:Int)(k:Nat)(g:ByteArray->Option Int)(c:Int)(o:Option (Int × Int × Int × Int)):Prop:=
 (∃ f,zcL g c E (S.drop k)=.inl f /\ f.Err ≠ 0 /\ ∃(v:Int) (k':Nat),o=some (v,(k':Int),f.Err,f.At)) \/ (∃ n,zcL g c E (S.drop k)=.inr (n,S.drop (k+1)) /\ o=some (n,((k+1:Nat):Int),0,0))
theorem zsX{e a:Int}{k:Nat}(he:e ≠ 0):zcl T (k:Int) E sg e a=some (0,(k:Int),e,a):=by
 rw[zcl,zgb he];rfl
theorem zwH{F:Nat}{e a:Int}{k:Nat}(he:e ≠ 0):rPfn F T (k:Int) E sg e a=some (0,(k:Int),e,a):=by
 rw[rPfn,zgb he];rfl
theorem zpp{F:Nat}{e a:Int}{k:Nat}(he:e ≠ 0):zfR F T (k:Int) E sg e a=some (0,(k:Int),e,a):=by
 rw[zfR,zgb he];rfl
theorem zmp{e a:Int}{k:Nat}(he:e ≠ 0):zda T (k:Int) E sg e a=some (0,(k:Int),e,a):=by
 rw[zda,zgb he];rfl
theorem zrk{e a:Int}{k:Nat}(he:e ≠ 0){ns:List RNm}{c:UInt8}{fn at_:Int}:zgm T (k:Int) E sg e a ns c fn at_=some ((k:Int),e,a,ns):=by
 rw[zgm,zgb he];rfl
theorem ztA{F:Nat}(hF:F=67108864){k:Nat}(hT:T.length<=1048576):zmG (seen sg T) E k zgU 8 (rPfn F T (k:Int) E sg 0 0):=by
 rw[zmG,rPfn,zcL]
 rcases zdJ (T:=T) (sg:=sg) (E:=E) (kind:=1) (.inl rfl) (k:=k) hT with⟨f,h1,h2,h3⟩ |⟨t,h1,h3⟩
 ·rw[h1,h3];exact .inl ⟨f,rfl,h2,_,k,rfl⟩
 ·rw[h1,h3,Option.bind_some,Bool.not_true,cond_false,zoV hF,Option.bind_some]
  dsimp only
  cases zgU t.Text with
  |none=>exact .inl ⟨_,rfl,by dsimp only;decide,_,k+1,rfl⟩
  |some n=>exact .inr ⟨n,rfl,rfl⟩
theorem zn7{F:Nat}(hF:F=67108864){k:Nat}(hT:T.length<=1048576):zmG (seen sg T) E k zg7 13 (zfR F T (k:Int) E sg 0 0):=by
 rw[zmG,zfR,zcL]
 rcases zdJ (T:=T) (sg:=sg) (E:=E) (kind:=1) (.inl rfl) (k:=k) hT with⟨f,h1,h2,h3⟩ |⟨t,h1,h3⟩
 ·rw[h1,h3];exact .inl ⟨f,rfl,h2,_,k,rfl⟩
 ·rw[h1,h3,Option.bind_some,Bool.not_true,cond_false,zo0 hF,Option.bind_some]
  dsimp only
  cases zg7 t.Text with
  |none=>exact .inl ⟨_,rfl,by dsimp only;decide,_,k+1,rfl⟩
  |some n=>exact .inr ⟨n,rfl,rfl⟩
theorem zj9{k:Nat}(hT:T.length<=1048576):zmG (seen sg T) E k regN 10 (zcl T (k:Int) E sg 0 0):=by
 rw[zmG,zcl,zcL]
 rcases zdJ (T:=T) (sg:=sg) (E:=E) (kind:=1) (.inl rfl) (k:=k) hT with⟨f,h1,h2,h3⟩ |⟨t,h1,h3⟩
 ·rw[h1,h3];exact .inl ⟨f,rfl,h2,_,k,rfl⟩
 ·rw[h1,h3,Option.bind_some,Bool.not_true,cond_false]
  simp only[regN,zcq]
  by_cases h2:t.Text.size=2
  ·have e1:t.Text[1]?=some (bget t.Text 1):=by simp[bget,h2]
   simp only[h2,e1,Option.bind_some,show inB ((0:Nat):Int) 2=true from rfl,show inB ((1:Nat):Int) 2=true from rfl,zep,zad]
   generalize bget t.Text 0=x
   have hb:=(bget t.Text 1).toNat_lt
   generalize (bget t.Text 1).toNat=b at hb
   by_cases ha:x.toNat=114
   ·by_cases h3:48<=b
    ·by_cases h4:b<=55
     ·have w:IntKind.i64.wrap (IntKind.u8.wrap ((b:Int) - 48))=(b:Int) - 48:=by
       rw[zgT (by omega) (by omega),wrap_i64 (by omega) (by omega)]
      simp only[w,ha]
      rw[if_pos ⟨trivial,trivial,h3,h4⟩]
      refine .inr ⟨_,rfl,?_⟩
      simp[orB,zaL,za2,show ¬ ((b:Int) < 48) by omega,show ¬ ((55:Int) < b) by omega]
     ·rw[if_neg (by omega)]
      refine .inl ⟨_,rfl,by dsimp only;decide,0,k+1,?_⟩
      simp[orB,zaL,za2,ha,show ¬ ((b:Int) < 48) by omega,show((55:Int) < b) by omega]
    ·rw[if_neg (by omega)]
     refine .inl ⟨_,rfl,by dsimp only;decide,0,k+1,?_⟩
     simp[orB,zaL,za2,ha,show((b:Int) < 48) by omega]
   ·rw[if_neg (by omega)]
    refine .inl ⟨_,rfl,by dsimp only;decide,0,k+1,?_⟩
    simp[orB,zaL,za2,show ¬ ((x.toNat:Int)=114) by omega]
  ·rw[if_neg (by omega)]
   refine .inl ⟨_,rfl,by dsimp only;decide,0,k+1,?_⟩
   simp[orB,zaL,show ¬ ((t.Text.size:Int)=2) by omega]
theorem zkd{k:Nat}(hT:T.length<=1048576):(∃ f,nxt E 2 ((seen sg T).drop k)=.inl f /\ f.Err ≠ 0 /\ zda T (k:Int) E sg 0 0=some (0,(k:Int),f.Err,f.At)) \/
  (∃ t,nxt E 2 ((seen sg T).drop k)=.inr (t,(seen sg T).drop (k+1)) /\ zda T (k:Int) E sg 0 0=some (t.N,((k+1:Nat):Int),0,0)):=by
 rw[zda]
 rcases zdJ (T:=T) (sg:=sg) (E:=E) (kind:=2) (.inr rfl) (k:=k) hT with⟨f,h1,h2,h3⟩ |⟨t,h1,h3⟩
 ·rw[h1,h3];exact .inl ⟨f,rfl,h2,rfl⟩
 ·rw[h1,h3];exact .inr ⟨t,rfl,rfl⟩
theorem zle{k:Nat}(hT:T.length<=1048576){ns:List RNm}(hn:ns.length+1<=16777216){c:UInt8}{fn at_:Int}:(∃ f,nxt E 1 ((seen sg T).drop k)=.inl f /\ f.Err ≠ 0 /\ zgm T (k:Int) E sg 0 0 ns c fn at_=some ((k:Int),f.Err,f.At,ns)) \/
  (∃ t,nxt E 1 ((seen sg T).drop k)=.inr (t,(seen sg T).drop (k+1)) /\ zgm T (k:Int) E sg 0 0 ns c fn at_=some (((k+1:Nat):Int),0,0,ns++[⟨c,t.Text,t.At,fn,at_⟩])):=by
 rw[zgm]
 rcases zdJ (T:=T) (sg:=sg) (E:=E) (kind:=1) (.inl rfl) (k:=k) hT with⟨f,h1,h2,h3⟩ |⟨t,h1,h3⟩
 ·rw[h1,h3];exact .inl ⟨f,rfl,h2,rfl⟩
 ·rw[h1,h3,Option.bind_some,cond_true,Option.bind_some,List.length_singleton,zaK hn (by omega),zad];exact .inr ⟨t,rfl,rfl⟩
end
end Go.Dc.Pa
end
section
namespace Go.Dc
open Go Go.Hw Go.Proofs
def zjd(fuelN:Nat)(a0_2:List Var)(a0_3:List ByteArray)(a0_4:List ByteArray)(a0_5:List Func)(a0_6:List Start)(a0_8:List Int)(a0_9:List (List Int)):Option (Fault ⊕ Unit):=
 Option.bind (zef fuelN ({ Vars:=a0_2,Mutexes:=a0_3,Conds:=a0_4,Funcs:=a0_5,Threads:=a0_6 }:Program)) (fun y1=>cond (eqI y1.1 0) (some (.inr ())) (cond (!(ltI y1.2.1 0)) (cond (andB (ltI y1.2.1 ((a0_9.length:Nat):Int)) (!(ltI y1.2.2 0))) (Option.bind (getI a0_9 y1.2.1) (fun x6=>cond (ltI y1.2.2 ((x6.length:Nat):Int)) (Option.bind (some (a0_9.set ((y1.2.1).toNat) x6)) (fun l11=>Option.bind (getI l11 y1.2.1) (fun x13=>Option.bind (getI x13 y1.2.2) (fun x16=>Option.bind (zaH y1.1 x16) (fun y19=>some (.inl y19)))))) (Option.bind (some (a0_9.set ((y1.2.1).toNat) x6)) (fun l22=>cond (ltI y1.2.1 ((a0_8.length:Nat):Int)) (Option.bind (getI a0_8 y1.2.1) (fun x25=>Option.bind (zaH y1.1 x25) (fun y28=>some (.inl y28)))) (Option.bind (zaH y1.1 0) (fun y30=>some (.inl y30))))))) (cond (ltI y1.2.1 ((a0_8.length:Nat):Int)) (Option.bind (getI a0_8 y1.2.1) (fun x33=>Option.bind (zaH y1.1 x33) (fun y36=>some (.inl y36)))) (Option.bind (zaH y1.1 0) (fun y38=>some (.inl y38))))) (Option.bind (zaH y1.1 0) (fun y40=>some (.inl y40)))))
theorem zjZ{fuelN:Nat}{c0_0:FC}{c0_1:FC}{c0_7:FC}{a0_2:List Var}{a0_3:List ByteArray}{a0_4:List ByteArray}{a0_5:List Func}{a0_6:List Start}{a0_8:List Int}{a0_9:List (List Int)}{r:Fault ⊕ Unit}(hs:zjd fuelN a0_2 a0_3 a0_4 a0_5 a0_6 a0_8 a0_9=some r):CAt Tryz.prog 17 [.cell (.ref (.a 0) 0)] [.cells [c0_0.ac,c0_1.ac,.own (.sp 2 a0_2.length (encL a0_2)),.own (.sp 1 a0_3.length (encL a0_3)),.own (.sp 1 a0_4.length (encL a0_4)),.own (.sl 2 a0_5.length (otL a0_5)),.own (.sp 2 a0_6.length (encL a0_6)),c0_7.ac,.own (.sp 1 a0_8.length (encL a0_8)),.own (.sl 1 a0_9.length (otL a0_9))]] (panO panV (fun(r:Unit)=>.tup []) r) (panP (fun(r:Unit)=>[(.a 0,.cells [c0_0.ac,c0_1.ac,.own (.sp 2 a0_2.length (encL a0_2)),.own (.sp 1 a0_3.length (encL a0_3)),.own (.sp 1 a0_4.length (encL a0_4)),.own (.sl 2 a0_5.length (otL a0_5)),.own (.sp 2 a0_6.length (encL a0_6)),c0_7.ac,.own (.sp 1 a0_8.length (encL a0_8)),.own (.sl 1 a0_9.length (otL a0_9))])]) r):=by
 refine zab (by kernel_rfl) fun hb=>?_
 refine zac mixed Tryz.func17 (by kernel_rfl) rfl (by kernel_rfl) rfl fun Q hQ=>?_
 rw[zjd]at hs
 refine goR f0 ?_
 revert hs;refine bK fun y1 hx2 hs=>?_
 refine cA f0 (zjW hx2) ?_
 refine goR f0 ?_
 revert hs;refine cS f0 ?_ ?_<;>intro h3 hs
 ·refine goR f0 ?_
  obtain rfl:=sj hs
  refine hQ _ _ (zaG _ ((Gh.close _ (.a 0) 2).trans ((Gh.close _ (.a 0) 3).trans ((Gh.close _ (.a 0) 4).trans ((Gh.close _ (.a 0) 5).trans (Gh.close _ (.a 0) 6))))) (by simp[St.frz,St.pur];rfl) (by first|rfl |(simp[St.frz,St.pur];done) |(rw[if_pos (by first|omega |(simp;omega))];simp[St.frz,St.pur];first|omega|exact List.take_of_length_le (by simp;omega)|skip)) (pv f0))
 ·refine goG f0 f0 ?_
  refine zdG (fun h4=>?_) (fun h4=>?_)
  ·replace hs:=zoj h4 hs
   simp only[Bool.not_eq_true',Bool.not_eq_false',Bool.not_not]at h4
   refine goG h4 h4 ?_
   refine zdG (fun h5=>?_) (fun h5=>?_)
   ·replace hs:=zoj h5 hs
    revert hs;refine bK fun x6 hx7 hs=>?_
    obtain⟨hx7a,hx7b,hx7c,hx7d⟩:=zao hx7
    have f8a:(zah a0_9)[(y1.2.1).toNat]?=some (.own (.sp 1 x6.length (encL x6))):=zdD hx7d (by first|rfl |(simp;done) |(simp;rfl))
    have f8b:((zah a0_9).drop ((y1.2.1).toNat)).take 1=[.own (.sp 1 x6.length (encL x6))]:=zg5 hx7d (by first|rfl |(simp;done) |(simp;rfl))
    have f8l:(y1.2.1).toNat < (zah a0_9).length:=(List.getElem?_eq_some_iff.1 f8a).1
    have f8c:=fun c=>(zbw f8l c).1
    have f8d:=fun c=>(zbw f8l c).2
    have F1:=an h4 (an h5 (an f8a (an f8b (an f8c f8d))))
    have F2:=an F1 (an hx7a hx7b)
    refine goG F1 F2 ?_
    revert hs;refine cS F1 ?_ ?_<;>intro h9 hs
    ·revert hs;refine lK fun l11 hx12 hs=>?_
     have f10:(zah a0_9).set ((y1.2.1).toNat) (.own (.sp 1 x6.length (encL x6)))=zah l11:=by rw[hx12];exact zeq hx7d (by first|rfl |(simp;done) |(simp;rfl))
     have f10n:l11.length=a0_9.length:=by rw[hx12];simp
     have f10t:(encL x6).take (x6.length * 1)=encL x6:=zal _ (by simp)
     have f10u:x6.length=x6.length->(encL x6).take (x6.length * 1)=encL x6:=fun h=>by rw[<- h];exact zal _ (by simp)
     have f10v:x6.length=x6.length->(zah a0_9).set ((y1.2.1).toNat) (.own (.sp 1 x6.length (encL x6)))=zah l11:=fun h=>by rw[<- h];exact f10
     have f10w:∀ n:Nat,n=l11.length->(encL l11).take n=encL l11:=fun n h=>by rw[h];exact zbr _ (by simp)
     have f10x:∀ n:Nat,n=l11.length->(zah l11).take n=zah l11:=fun n h=>by rw[h];exact zcb _ (by simp)
     have F3:=an F1 (an f10 (an f10n (an f10t (an f10u (an f10v (an f10w f10x))))))
     have F4:=an F3 (an hx7a hx7b)
     repeat (first|simp[F3]|with_reducible first|refine And.intro (by omega) ?_|refine zbe (by omega) ?_|refine za4 (by with_unfolding_all rfl) _ (fun hg=>by(try simp at hg);first |(simp[hg,F4];rfl) |(simp[F3];simp only[if_pos hg];simp[F3];rfl)) ?_)
     refine zaX (by rfl) (Gh.close _ (.o 3 7 9) ((y1.2.1).toNat)) ?_
     try simp only[St.frz,St.pur]
     revert hs;refine bK fun x13 hx14 hs=>?_
     obtain⟨hx14a,hx14b,hx14c,hx14d⟩:=zao hx14
     have f15a:(zah l11)[(y1.2.1).toNat]?=some (.own (.sp 1 x13.length (encL x13))):=zdD hx14d (by first|rfl |(simp;done) |(simp;rfl))
     have f15b:((zah l11).drop ((y1.2.1).toNat)).take 1=[.own (.sp 1 x13.length (encL x13))]:=zg5 hx14d (by first|rfl |(simp;done) |(simp;rfl))
     have f15l:(y1.2.1).toNat < (zah l11).length:=(List.getElem?_eq_some_iff.1 f15a).1
     have f15c:=fun c=>(zbw f15l c).1
     have f15d:=fun c=>(zbw f15l c).2
     revert hs;refine bK fun x16 hx17 hs=>?_
     obtain⟨hx17a,hx17b,hx17c,hx17d⟩:=zao hx17
     have f18:zam Tryz.prog 3 (encL x13) ((y1.2.2).toNat)=some (iV .i64 x16):=zaz hx17d (by simp)
     have F5:=an F3 (an f15a (an f15b (an f15c (an f15d f18))))
     refine goR F5 ?_
     revert hs;refine bK fun y19 hx20 hs=>?_
     refine cX F5 (zaA hx20) [] (fun v=>?_)
     obtain rfl:=sj hs
     exact hQ _ _ zan
    ·revert hs;refine lK fun l22 hx23 hs=>?_
     have f21:(zah a0_9).set ((y1.2.1).toNat) (.own (.sp 1 x6.length (encL x6)))=zah l22:=by rw[hx23];exact zeq hx7d (by first|rfl |(simp;done) |(simp;rfl))
     have f21n:l22.length=a0_9.length:=by rw[hx23];simp
     have f21t:(encL x6).take (x6.length * 1)=encL x6:=zal _ (by simp)
     have f21u:x6.length=x6.length->(encL x6).take (x6.length * 1)=encL x6:=fun h=>by rw[<- h];exact zal _ (by simp)
     have f21v:x6.length=x6.length->(zah a0_9).set ((y1.2.1).toNat) (.own (.sp 1 x6.length (encL x6)))=zah l22:=fun h=>by rw[<- h];exact f21
     have f21w:∀ n:Nat,n=l22.length->(encL l22).take n=encL l22:=fun n h=>by rw[h];exact zbr _ (by simp)
     have f21x:∀ n:Nat,n=l22.length->(zah l22).take n=zah l22:=fun n h=>by rw[h];exact zcb _ (by simp)
     have F6:=an F1 (an f21 (an f21n (an f21t (an f21u (an f21v (an f21w f21x))))))
     have F7:=an F6 (an hx7a hx7b)
     repeat (first|simp[F6]|with_reducible first|refine And.intro (by omega) ?_|refine zbe (by omega) ?_|refine za4 (by with_unfolding_all rfl) _ (fun hg=>by(try simp at hg);first |(simp[hg,F7];rfl) |(simp[F6];simp only[if_pos hg];simp[F6];rfl)) ?_)
     refine zaX (by rfl) (Gh.close _ (.o 3 7 9) ((y1.2.1).toNat)) ?_
     try simp only[St.frz,St.pur]
     refine goG F6 F7 ?_
     revert hs;refine cS F6 ?_ ?_<;>intro h24 hs
     ·revert hs;refine bK fun x25 hx26 hs=>?_
      obtain⟨hx26a,hx26b,hx26c,hx26d⟩:=zao hx26
      have f27:zam Tryz.prog 3 (encL a0_8) ((y1.2.1).toNat)=some (iV .i64 x25):=zaz hx26d (by simp)
      have F8:=an F6 f27
      have F9:=an F8 (an hx7a (an hx7b (an hx26a hx26b)))
      refine goG F8 F9 ?_
      revert hs;refine bK fun y28 hx29 hs=>?_
      refine cX F8 (zaA hx29) [] (fun v=>?_)
      obtain rfl:=sj hs
      exact hQ _ _ zan
     ·refine goG F6 F7 ?_
      revert hs;refine bK fun y30 hx31 hs=>?_
      refine cX F6 (zaA hx31) [] (fun v=>?_)
      obtain rfl:=sj hs
      exact hQ _ _ zan
   ·replace hs:=zol h5 hs
    have F10:=an h4 h5
    refine goG F10 F10 ?_
    revert hs;refine cS F10 ?_ ?_<;>intro h32 hs
    ·revert hs;refine bK fun x33 hx34 hs=>?_
     obtain⟨hx34a,hx34b,hx34c,hx34d⟩:=zao hx34
     have f35:zam Tryz.prog 3 (encL a0_8) ((y1.2.1).toNat)=some (iV .i64 x33):=zaz hx34d (by simp)
     have F11:=an F10 f35
     have F12:=an F11 (an hx34a hx34b)
     refine goG F11 F12 ?_
     revert hs;refine bK fun y36 hx37 hs=>?_
     refine cX F11 (zaA hx37) [] (fun v=>?_)
     obtain rfl:=sj hs
     exact hQ _ _ zan
    ·refine goG F10 F10 ?_
     revert hs;refine bK fun y38 hx39 hs=>?_
     refine cX F10 (zaA hx39) [] (fun v=>?_)
     obtain rfl:=sj hs
     exact hQ _ _ zan
  ·replace hs:=zol h4 hs
   simp only[Bool.not_eq_true',Bool.not_eq_false',Bool.not_not]at h4
   refine goG h4 h4 ?_
   revert hs;refine bK fun y40 hx41 hs=>?_
   refine cX h4 (zaA hx41) [] (fun v=>?_)
   obtain rfl:=sj hs
   exact hQ _ _ zan
theorem zgR(e:Fault):At Tryz.prog 14 [.cell (.p (.c (panV e)))] (.agg (eA e)):=by
 refine zac mixed Tryz.func14 (by kernel_rfl) rfl (by kernel_rfl) rfl fun Q hQ=>?_
 refine goR f0 ?_
 exact hQ _ _ (rg f0 (Gh.refl _))
theorem zwX(A B:List AC):DAt Tryz.prog 13 none [.cell (.ref (.a 0) 0),.cell (.ref (.a 1) 0)] [.cells A,.cells B] [(.a 0,.cells A),(.a 1,.cells B)]:=by
 refine zgI mixed Tryz.func13 (by kernel_rfl) rfl (by decide) (by decide) (by decide) (by kernel_rfl) rfl rfl fun Q hQ=>?_
 refine goR f0 ?_
 exact hQ _ _ ⟨_,Gh.refl _,_,rfl,rfl,by simp⟩
theorem zwW(A B:List AC):DAt Tryz.prog 30 none [.cell (.ref (.a 0) 0),.cell (.ref (.a 1) 0)] [.cells A,.cells B] [(.a 0,.cells A),(.a 1,.cells B)]:=by
 refine zgI mixed Tryz.func30 (by kernel_rfl) rfl (by decide) (by decide) (by decide) (by kernel_rfl) rfl rfl fun Q hQ=>?_
 refine goR f0 ?_
 exact hQ _ _ ⟨_,Gh.refl _,_,rfl,rfl,by simp⟩
theorem zp5(e:Fault)(a0 a1 a2 a3 a4 b0 b1:AC):DAt Tryz.prog 13 (some (panV e)) [.cell (.ref (.a 0) 0),.cell (.ref (.a 1) 0)] [.cells [a0,a1,a2,a3,a4],.cells [b0,b1]] [(.a 0,.cells [.z,.z,.z,.z,.z]),(.a 1,.cells (eA e))]:=by
 refine zgI mixed Tryz.func13 (by kernel_rfl) rfl (by decide) (by decide) (by decide) (by kernel_rfl) rfl rfl fun Q hQ=>?_
 refine goR f0 ?_
 refine cP f0 (zgR e) ?_
 refine goR f0 ?_
 exact hQ _ _ ⟨_,Gh.refl _,_,rfl,rfl,by simp⟩
theorem zwV(e:Fault)(a0 a1 a2 a3 a4 a5 a6 a7 b0 b1:AC):DAt Tryz.prog 30 (some (panV e)) [.cell (.ref (.a 0) 0),.cell (.ref (.a 1) 0)] [.cells [a0,a1,a2,a3,a4,a5,a6,a7],.cells [b0,b1]] [(.a 0,.cells [.p (.c (.int .i64 0)),.p (.c (.int .i64 0)),.p (.c (.int .i64 0)),.p (.c (.int .i64 0)),.p (.c (.int .i64 0)),.p (.c (.int .i64 0)),.p (.c (.int .i64 0)),.p (.c (.int .i64 0))]),(.a 1,.cells (eA e))]:=by
 refine zgI mixed Tryz.func30 (by kernel_rfl) rfl (by decide) (by decide) (by decide) (by kernel_rfl) rfl rfl fun Q hQ=>?_
 refine goR f0 ?_
 refine cP f0 (zgR e) ?_
 refine goR f0 ?_
 exact hQ _ _ ⟨_,Gh.refl _,_,rfl,rfl,by simp⟩
end Go.Dc
end
