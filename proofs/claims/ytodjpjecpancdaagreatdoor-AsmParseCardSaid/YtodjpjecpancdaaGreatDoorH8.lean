/- Contracts of functions, by their numbers, and the laws that walk them. Conditions: as each states. -/
import Derived.Test.YtodjpjecpancdaaGreatDoorH7
import Derived.Test.YtodjpjecpancdaaGreatDoorH5
import Derived.Test.YtodjpjecpancdaaGreatDoorH6
import Derived.Test.YtodjpjecpancdaaGreatDoorH4
import Derived.KernelRfl
import Derived.Test.YtodjpjecpancdaaGreatDoorRows
import Derived.LaidMore
import Derived.MakeChecks
set_option linter.all false
set_option maxRecDepth 100000
set_option maxHeartbeats 4000000
section
namespace Go.Dc.Pl
open Go Go.Hw Go.Dc
def bigF (k:Nat)(f:Func):Option Int:=zaw (ltI 64 ((f.Code.length:Nat):Int)) (k:Int)
theorem zsu:∀(l:List Func) (k:Nat) {r:Int},first bigF l k=some r->(k:Int)<=r
 |[],_,_,h=>by cases h
 |x::q,k,r,h=>by
  rw[zaM,bigF]at h
  cases hp:ltI 64 ((x.Code.length:Nat):Int)
  ·rw[hp]at h;have:=zsu q _ h;omega
  ·rw[hp]at h;obtain rfl:=Option.some.inj h;omega
theorem zs8(l:List Func):sIFp l=some ((first bigF l 0).getD (-1)):=by
 have h:=srch (L:=zeE) bigF (fun _=>rfl) l 0 fun j x hx q=>by rw[zeE];exact zaO _ _ _
 rw[sIFp,h]
 cases first bigF l 0<;>rfl
theorem zk1{fuel:Nat}{p:Program}{y:Int}{k:Nat}{f:Func}(hf:p.Funcs[k]?=some f)(hy:eqI (k:Int) y=false)(rest:List (PPl × Inst)):∀(q:List Inst) (j:Nat),
  zbg (fuel+8) p y (insC k j q++rest)=match first (cI p f.Code.length) q j with|some r=>some (.inr (.inr (r.1,({ fn:=(k:Int),inst:=r.2 }:PPl))))|none=>zbg (fuel+8) p y rest
 |[],j=>rfl
 |x::q,j=>by
  rw[insC,List.cons_append,zbg,hy,cond_false,zbp,hf,Option.bind_some,zq6,Option.bind_some,zaM,cI]
  cases !(eqI (ci p x f.Code.length) 0)
  ·exact zk1 hf hy rest q (j+1)
  ·rfl
def finC (y:Int)(o:Unit ⊕ (Unit ⊕ (Int × PPl))):Option (Int × PPl):=match o with
 |.inl _=>cond (!(ltI y 0)) (some (4,({ fn:=y,inst:=-1 }:PPl))) (some (0,({ fn:=-1,inst:=-1 }:PPl)))
 |.inr (.inl _)=>cond (!(ltI y 0)) (some (4,({ fn:=y,inst:=-1 }:PPl))) (some (0,({ fn:=-1,inst:=-1 }:PPl)))
 |.inr (.inr r)=>some r
def plc (r:Int × Int × Int):Int × PPl:=(r.1,{ fn:=r.2.1,inst:=r.2.2 })
theorem zk0{fuel:Nat}{p:Program}{y:Int}:∀(l:List Func) (k:Nat),l=p.Funcs.drop k->y=(first bigF l k).getD (-1) ->
  Option.bind (zbg (fuel+8) p y (insF k l)) (finC y)=some (plc ((first (cF p) l k).getD (0,-1,-1)))
 |[],k,hd,hy=>by subst hy;rfl
 |f::l,k,hd,hy=>by
  obtain⟨hf,hk,hr⟩:=zay hd
  rw[zaM,cF]
  cases hb:ltI 64 ((f.Code.length:Nat):Int)
  ·have hy2:y=(first bigF l (k+1)).getD (-1):=by rw[hy,zaM,bigF,hb];rfl
   have hne:eqI (k:Int) y=false:=by
    rw[hy2,zaL]
    cases h:first bigF l (k+1) with
    |none=>simp
    |some r=>have:=zsu _ _ h;simp;omega
   rw[insF,zk1 hf hne,cond_false]
   cases h:first (cI p f.Code.length) f.Code 0 with
   |none=>exact zk0 l (k+1) hr hy2
   |some r=>rfl
  ·have hy2:y=(k:Int):=by rw[hy,zaM,bigF,hb];rfl
   subst hy2
   obtain⟨x,q,hx⟩:∃ x q,f.Code=x::q:=by
    cases hc:f.Code with
    |nil=>rw[hc]at hb;cases hb
    |cons x q=>exact⟨x,q,rfl⟩
   rw[insF,hx,insC,List.cons_append,zbg,show eqI ((k:Nat):Int) (k:Int)=true by simp[eqI],cond_true,Option.bind_some]
   simp only[finC]
   rw[show ltI (k:Int) 0=false by simp[za2]];rfl
theorem zq9{fuel:Nat}{p:Program}(h1:p.Funcs.length<=1048576)(h2:∀ f ∈ p.Funcs,f.Code.length<=1048576):zfV (fuel+8) p=some (plc ((first (cF p) p.Funcs 0).getD (0,-1,-1))):=by
 have hg:(lenB p.Funcs.length && p.Funcs.all fun f=>lenB f.Code.length)=true:=by
  simp only[Bool.and_eq_true,List.all_eq_true,zdt,decide_eq_true_eq];exact⟨by omega,fun f hf=>by have:=h2 f hf;omega⟩
 rw[zfV,zs8,Option.bind_some,zcs,Option.bind_some,zcT,hg,zad,Option.bind_some,<- zk0 (fuel:=fuel) p.Funcs 0 rfl rfl]
 rfl
def ckN (p:Program):Option (Int × Int):=match zcg (p.Vars.map Var.Name) with
 |some r=>some (r.1,-1)
 |none=>match zcg p.Mutexes with
  |some r=>some (r.1,-1)
  |none=>match zcg p.Conds with
   |some r=>some (r.1,-1)
   |none=>zcg (p.Funcs.map Func.Name)
theorem e00:eqI 0 0=true:=rfl
theorem zbK{l:List ByteArray}{r:Int × Int}(h:zcg l=some r):eqI r.1 0=false:=by
 obtain⟨j,x,_,h⟩:=first_some h
 rw[nmF]at h
 split at h
 ·obtain rfl:=Option.some.inj h;rfl
 ·cases hc:(List.take (0+j) l).any (eqS x)
  ·rw[hc]at h;cases h
  ·rw[hc]at h;obtain rfl:=Option.some.inj h;rfl
theorem zfk{p:Program}(h:p.Vars.length<=1048576):zc0 p=some (p.Vars.map Var.Name):=by
 rw[zc0,appM (L:=zbm) (b:=16) (m:=1048576) Var.Name (by decide) (fun _ _=>rfl) (fun x q a k=>by rw[zbm];rfl) p.Vars [] 0 (by simpa using h)];rfl
theorem zeJ{p:Program}(h:p.Funcs.length<=1048576):zcC p=some (p.Funcs.map Func.Name):=by
 rw[zcC,appM (L:=za9) (b:=16) (m:=1048576) Func.Name (by decide) (fun _ _=>rfl) (fun x q a k=>by rw[za9];rfl) p.Funcs [] 0 (by simpa using h)];rfl
theorem zo2{p:Program}(h:p.Vars.length<=1048576)(h2:p.Funcs.length<=1048576):zfd p=some (p.Vars.map Var.Name,p.Funcs.map Func.Name):=by
 rw[zfd,appM (L:=zb3) (b:=16) (m:=1048576) Var.Name (by decide) (fun _ _=>rfl) (fun x q a k=>by rw[zb3];rfl) p.Vars [] 0 (by simpa using h),
  appM (L:=zb2) (b:=16) (m:=1048576) Func.Name (by decide) (fun _ _=>rfl) (fun x q a k=>by rw[zb2];rfl) p.Funcs [] 0 (by simpa using h2)];rfl
theorem zml{p:Program}(h:p.Vars.length<=1048576)(h2:p.Funcs.length<=1048576):zeH p=some (match ckN p with|some r=>(r.1,{ fn:=r.2,inst:=-1 })|none=>(0,{ fn:=-1,inst:=-1 })):=by
 rw[zeH,zfk h,Option.bind_some,Option.bind_some,show lenB [p.Vars.map Var.Name,p.Mutexes,p.Conds].length=true from rfl,zad]
 simp only[zb9,zpl,Option.bind_some,ckN,zeJ h2]
 cases hv:zcg (p.Vars.map Var.Name) with
 |some r=>have:=zbK hv;simp[this]
 |none=>
  cases hm:zcg p.Mutexes with
  |some r=>have:=zbK hm;simp[this,e00]
  |none=>
   cases hc:zcg p.Conds with
   |some r=>have:=zbK hc;simp[this,e00]
   |none=>cases hf:zcg (p.Funcs.map Func.Name)<;>simp[e00]
def limP (p:Program):Bool:=orB (orB (orB (ltI 8 ((p.Vars.length:Nat):Int)) (ltI 4 ((p.Mutexes.length:Nat):Int))) (ltI 4 ((p.Conds.length:Nat):Int))) (ltI 8 ((p.Funcs.length:Nat):Int))
def badV (n:Int):Bool:=!(andB (!(ltI n (-2147483648))) (!(ltI 2147483647 n)))
def ckO (p:Program):Int:=cond (limP p) 4 (cond (p.Vars.any fun v=>badV v.Init) 2 0)
theorem zq3(p:Program):zc2 p=some (ckO p,{ fn:=-1,inst:=-1 }):=by
 have h:=srch (L:=zbo) (fun _ (v:Var)=>zaw (badV v.Init) ((2:Int),({ fn:=-1,inst:=-1 }:PPl))) (fun _=>rfl) p.Vars 0 fun j x hx q=>by
  rw[zbo,zfh,Option.bind_some];exact zaO _ _ _
 rw[zeN]at h
 rw[zc2,h,ckO,limP]
 cases orB (orB (orB (ltI 8 ((p.Vars.length:Nat):Int)) (ltI 4 ((p.Mutexes.length:Nat):Int))) (ltI 4 ((p.Conds.length:Nat):Int))) (ltI 8 ((p.Funcs.length:Nat):Int))
 ·cases p.Vars.any fun v=>badV v.Init<;>rfl
 ·rfl
def thF (p:Program)(x:Start):Option Int:=cond (orB (ltI x.Func 0) (!(ltI x.Func ((p.Funcs.length:Nat):Int)))) (some 11) (zaw (badV x.Arg) 2)
def ckT (p:Program):Int:=cond (orB (ltI ((p.Threads.length:Nat):Int) 1) (ltI 8 ((p.Threads.length:Nat):Int))) 4 ((first (fun _=>thF p) p.Threads 0).getD 0)
theorem zmj(p:Program):zc1 p=some (ckT p,{ fn:=-1,inst:=-1 }):=by
 have h:=srch (L:=zbn p) (fun _ x=>(thF p x).map fun r=>(r,({ fn:=-1,inst:=-1 }:PPl))) (fun _=>rfl) p.Threads 0 fun j x hx q=>by
  rw[zbn,zfh,Option.bind_some,thF]
  cases orB (ltI x.Func 0) (!(ltI x.Func ((p.Funcs.length:Nat):Int)))
  ·show cond (badV x.Arg) _ _=_
   cases badV x.Arg<;>rfl
  ·rfl
 rw[zct (h:=fun _=>thF p) (g:=fun r=>(r,({ fn:=-1,inst:=-1 }:PPl))) _ _ (fun _ _=>rfl)]at h
 rw[zc1,h,ckT]
 cases orB (ltI ((p.Threads.length:Nat):Int) 1) (ltI 8 ((p.Threads.length:Nat):Int))
 ·cases first (fun _=>thF p) p.Threads 0<;>rfl
 ·rfl
theorem zl9(p:Program):zdM p=some (ckT p):=by
 have h:=srch (L:=zbG p) (fun _ x=>thF p x) (fun _=>rfl) p.Threads 0 fun j x hx q=>by
  rw[zbG,zel,Option.bind_some,thF]
  cases orB (ltI x.Func 0) (!(ltI x.Func ((p.Funcs.length:Nat):Int)))
  ·show cond (badV x.Arg) _ _=_
   cases badV x.Arg<;>rfl
  ·rfl
 rw[zdM,h,ckT]
 cases orB (ltI ((p.Threads.length:Nat):Int) 1) (ltI 8 ((p.Threads.length:Nat):Int))
 ·cases first (fun _=>thF p) p.Threads 0<;>rfl
 ·rfl
def chk (p:Program):Int × Int × Int:=match ckN p with
 |some r=>(r.1,r.2,-1)
 |none=>cond (!(eqI (ckO p) 0)) (ckO p,-1,-1) (match first (cF p) p.Funcs 0 with|some r=>r|none=>(ckT p,-1,-1))
theorem own_check{fuel:Nat}{p:Program}(h:Pa.Small p):zef (fuel+8) p=some (chk p):=by
 obtain⟨s1,s2,s3,s4,s5,s6⟩:=h
 rw[zef,zml s1 s4,Option.bind_some,zq3,zq9 s4 s6,zmj,chk]
 cases hn:ckN p with
 |some r=>
  have:eqI r.1 0=false:=by
   rw[ckN]at hn
   split at hn
   ·rename_i hb;obtain rfl:=Option.some.inj hn;have:=zbK hb;exact this
   ·split at hn
    ·rename_i hb;obtain rfl:=Option.some.inj hn;have:=zbK hb;exact this
    ·split at hn
     ·rename_i hb;obtain rfl:=Option.some.inj hn;have:=zbK hb;exact this
     ·exact zbK hn
  simp[this]
 |none=>
  simp only[show eqI 0 0=true from rfl,cond_true,Option.bind_some]
  cases ho:eqI (ckO p) 0
  ·simp[ho]
  ·cases hf:first (cF p) p.Funcs 0 with
   |some r=>have:=znw (fun k x r h=>zBn h) _ _ hf;simp[plc,this]
   |none=>
    simp only[Option.getD_none,plc,show eqI 0 0=true from rfl,cond_true,Option.bind_some,Bool.not_true,cond_false]
    cases ht:eqI (ckT p) 0
    ·rfl
    ·have:ckT p=0:=by simpa [eqI]using ht
     simp[this]
theorem ref_check{fuel:Nat}{p:Program}(h:Pa.Small p)(hf:1048577<=fuel):zfe fuel p=some (chk p):=by
 obtain⟨s1,s2,s3,s4,s5,s6⟩:=h
 have hv:=srch (L:=zb7) (fun _ (v:Var)=>zaw (badV v.Init) ((2:Int),(-1:Int),(-1:Int))) (fun _=>rfl) p.Vars 0 fun j x hx q=>by
  rw[zb7,zel,Option.bind_some];exact zaO _ _ _
 rw[zeN]at hv
 rw[zfe,zo2 s1 s4,Option.bind_some,zgi (by simp;omega) (by simp;omega),Option.bind_some,zgi (by omega) (by omega),Option.bind_some,zgi (by omega) (by omega),Option.bind_some,zgi (by simp;omega) (by simp;omega),Option.bind_some,hv,zo6,zl9,chk,ckN]
 cases hv:zcg (p.Vars.map Var.Name) with
 |some r=>have:=zbK hv;simp[this]
 |none=>
  cases hm:zcg p.Mutexes with
  |some r=>have:=zbK hm;simp[this,e00]
  |none=>
   cases hc:zcg p.Conds with
   |some r=>have:=zbK hc;simp[this,e00]
   |none=>
    cases hf:zcg (p.Funcs.map Func.Name) with
    |some r=>have:=zbK hf;simp[this,e00]
    |none=>
     simp only[show(!(eqI 0 0))=false from rfl,cond_false,ckO]
     show cond (limP p) _ _=_
     cases limP p
     ·cases p.Vars.any fun v=>badV v.Init
      ·cases hf:first (cF p) p.Funcs 0 with
       |some r=>rfl
       |none=>rfl
      ·rfl
     ·rfl
theorem zoo{l:List ByteArray}{r:Int × Int}(h:zcg l=some r):0<=r.2 /\ r.2 < l.length:=by
 obtain⟨j,x,hj,h⟩:=first_some h
 have hl:=zau hj
 rw[nmF]at h
 split at h
 ·obtain rfl:=Option.some.inj h;dsimp only;omega
 ·cases hc:(List.take (0+j) l).any (eqS x)
  ·rw[hc]at h;cases h
  ·rw[hc]at h;obtain rfl:=Option.some.inj h;dsimp only;omega
theorem chk_at(p:Program):((chk p).2.1 < 0 \/ (chk p).2.1 < p.Funcs.length) /\ ((chk p).2.1 < 0 \/ (chk p).2.2 < 0 \/ (chk p).2.2 < ((p.Funcs.getD (chk p).2.1.toNat default).Code.length:Int)):=by
 rw[chk]
 cases hn:ckN p with
 |some r=>
  dsimp only
  refine⟨?_,.inr (.inl (by omega))⟩
  rw[ckN]at hn
  split at hn
  ·obtain rfl:=Option.some.inj hn;dsimp only;omega
  ·split at hn
   ·obtain rfl:=Option.some.inj hn;dsimp only;omega
   ·split at hn
    ·obtain rfl:=Option.some.inj hn;dsimp only;omega
    ·have:=zoo hn;rw[List.length_map]at this;omega
 |none=>
  dsimp only
  cases !(eqI (ckO p) 0)
  ·rw[cond_false]
   cases hf:first (cF p) p.Funcs 0 with
   |none=>exact⟨.inl (by dsimp only;omega),.inl (by dsimp only;omega)⟩
   |some r=>
    obtain⟨j,f,hj,h⟩:=first_some hf
    have hl:=zau hj
    rw[cF]at h
    dsimp only
    cases hb:ltI 64 ((f.Code.length:Nat):Int)
    ·rw[hb,cond_false]at h
     obtain⟨q,hq,rfl⟩:=Option.map_eq_some_iff.1 h
     obtain⟨i,x,hi,h2⟩:=first_some hq
     have hli:=zau hi
     rw[cI]at h2
     cases hc:!(eqI (ci p x f.Code.length) 0)
     ·rw[hc]at h2;cases h2
     ·rw[hc]at h2
      obtain rfl:=Option.some.inj h2
      dsimp only
      refine⟨.inr (by omega),.inr (.inr ?_)⟩
      rw[show(((0+j:Nat):Int)).toNat=j by omega,List.getD_eq_getElem?_getD,hj]
      dsimp only[Option.getD_some];omega
    ·rw[hb,cond_true]at h
     obtain rfl:=Option.some.inj h
     exact⟨.inr (by dsimp only;omega),.inr (.inl (by dsimp only;omega))⟩
  ·exact⟨.inl (by dsimp only[cond_true];omega),.inl (by dsimp only[cond_true];omega)⟩
end Go.Dc.Pl
end
section
namespace Go.Dc.Pa
open Go Go.Hw Go.Dc Go.Dc.Pl
abbrev R13:=Int × Int × Int × (List Var) × (List ByteArray) × (List ByteArray) × (List Func) × (List Start) × (List RNm) × (List Int) × (List (List Int)) × Bool × (List ByteArray)
theorem zgx{F:Nat}{s:ByteArray}{Y:List Token × Fault}{q:Nat}{k e a:Int}{v mu c f t n fu is_ b l}(he:e ≠ 0):zaJ F s Y (q+1) k e a v mu c f t n fu is_ b l=some (k,e,a,v,mu,c,f,t,n,fu,is_,b,l):=by
 rw[zaJ,zaL e 0,decide_eq_false he,zaV,Bool.and_false];rfl
theorem zgj{F:Nat}(hF:F=67108864){s:ByteArray}{Y:List Token × Fault}(hT:Y.1.length<=1048576):∀(q n:Nat) (b:Bool) (x:APr) (k:Nat) (ms:List RNm) (l:List ByteArray),Inv b x->x.end_=((s.size:Nat):Int) ->
  ((Y.1.drop k=x.tokens /\ 2 * x.tokens.length+1<=q) \/ (∃ u,u.Kind=4 /\ Y.1.drop k=u::x.tokens /\ 2 * x.tokens.length+2<=q))->F2 NR x.names ms->x.tokens.length<=n ->
  (∃ f,zfZ n b x=.inl f /\ f.Err ≠ 0 /\ ∃ z:R13,zaJ F s Y q (k:Int) 0 0 x.p.Vars x.p.Mutexes x.p.Conds x.p.Funcs x.p.Threads ms x.funcs x.insts b l=some z /\ z.2.1=f.Err /\ z.2.2.1=f.At) \/
  (∃(b1:Bool) (y:APr) (ms':List RNm) (k':Int),zfZ n b x=.inr (b1,y) /\ zaJ F s Y q (k:Int) 0 0 x.p.Vars x.p.Mutexes x.p.Conds x.p.Funcs x.p.Threads ms x.funcs x.insts b l=some (k',0,0,y.p.Vars,y.p.Mutexes,y.p.Conds,y.p.Funcs,y.p.Threads,ms',y.funcs,y.insts,b1,l) /\ F2 NR y.names ms')
 |0,n,b,x,k,ms,l,_,_,h,_,_=>by omega
 |q+1,n,b,x,k,ms,l,hi,he,h,hr,hn=>by
  rcases h with⟨h,hq⟩ |⟨u,hu,h,hq⟩
  ·cases ht:x.tokens with
   |nil=>
    have hd:Y.1.drop k=[]:=by rw[h,ht]
    have hk:=List.drop_eq_nil_iff.1 hd
    have hl:zfZ n b x=.inr (b,x):=by cases n<;>simp[zfZ,ht]
    refine .inr ⟨b,x,ms,(k:Int),hl,?_,hr⟩
    rw[zaJ,show ltI (k:Int) ((Y.1.length:Nat):Int)=false from decide_eq_false (by omega)];rfl
   |cons t r=>
    have hd:Y.1.drop k=t::r:=by rw[h,ht]
    obtain⟨e1,e2,e3⟩:=drop_cons hd
    have hlt:x.tokens.length=r.length+1:=by rw[ht];rfl
    obtain⟨n,rfl⟩:∃ m,n=m+1:=⟨n - 1,by omega⟩
    have hov:=zh3 (T:=Y.1) (sg:=false) hd
    rw[zaJ,show ltI (k:Int) ((Y.1.length:Nat):Int)=true from decide_eq_true (by omega),show andB true (eqI 0 0)=true from rfl,cond_true,hov,Option.bind_some,zfZ,ht]
    dsimp only
    by_cases h4:t.Kind=4
    ·rw[if_pos h4,decide_eq_true h4,cond_true,wrapN (by omega) (by omega),show(k:Int)+1=((k+1:Nat):Int) from rfl]
     exact zgj hF hT q n b { x with tokens:=r } (k+1) ms l (hi.less (by omega)) he (.inl ⟨e3,by dsimp only;omega⟩) hr (by dsimp only;omega)
    ·rw[if_neg h4,decide_eq_false h4,cond_false]
     obtain⟨q,rfl⟩:∃ m,q=m+1:=⟨q - 1,by omega⟩
     have rest:∀(y:APr) (ms':List RNm) (b':Bool) (k':Nat),zhR b x t r=finL Y.1 k' b' y->F2 NR y.names ms' ->
       (∃ f,zhR b x t r=.inl f /\ f.Err ≠ 0 /\ zcN Y.1 (k':Int) false 0 0=some (f.Err,f.At)) \/
       (zcN Y.1 (k':Int) false 0 0=some (0,0) /\ ∃ r2,zhR b x t r=.inr (b',{ y with tokens:=r2 }) /\ ((Y.1.drop k'=r2 /\ 2 * r2.length+1<=q+1) \/ (∃ u,u.Kind=4 /\ Y.1.drop k'=u::r2 /\ 2 * r2.length+2<=q+1)) /\ r2.length<=r.length):=fun y ms' b' k' hy hr'=>by
      have hf:=zrG (T:=Y.1) (sg:=false) (k:=k')
      rw[zjE]at hf
      rw[finL]at hy
      rcases hf with⟨f,g1,g2,g3⟩ |⟨r2,g1,g3⟩
      ·rw[g1]at hy;exact .inl ⟨f,hy,g2,g3⟩
      ·rw[g1]at hy
       have hlen:=zrr hy
       dsimp only at hlen
       refine .inr ⟨g3,r2,hy,?_,hlen⟩
       cases hdk:Y.1.drop k' with
       |nil=>
        rw[hdk]at g1;injection g1 with g1;subst g1
        exact .inl ⟨rfl,by simp⟩
       |cons u r3=>
        rw[hdk,zce]at g1
        split at g1
        ·injection g1 with g1;subst g1
         exact .inr ⟨u,by assumption,rfl,by omega⟩
        ·cases g1
     cases b
     ·rw[cond_false,<- he]
      rcases zqT hT hi hd h4 hr with⟨f,g1,g2,k',vs,mu,cs,fs,th,ns,fu,is_,b',g3⟩ |⟨k',y,ms',b',g1,g2,g3⟩
      ·rw[show zhR false x t r=zhT x t r from rfl,g1,g3,Option.bind_some]
       dsimp only
       rw[zpW g2,Option.bind_some]
       dsimp only
       rw[zgx g2];exact .inl ⟨f,rfl,g2,_,rfl,rfl,rfl⟩
      ·rw[g2,Option.bind_some]
       dsimp only
       rcases rest y ms' b' k' (show zhR false x t r=_ from g1) g3 with⟨f,q1,q2,q3⟩ |⟨q3,r2,q1,q4,q5⟩
       ·rw[q1,q3,Option.bind_some]
        dsimp only
        rw[zgx q2];exact .inl ⟨f,rfl,q2,_,rfl,rfl,rfl⟩
       ·obtain⟨i1,i2,i3⟩:=zkf hi ht q1
        rw[q1,q3,Option.bind_some]
        exact zgj hF hT (q+1) n b' { y with tokens:=r2 } k' ms' l i1 (i3.trans he) q4 g3 (by dsimp only;omega)
     ·rw[cond_true,<- he]
      rcases zqV hF hT hi hd h4 hr with⟨f,g1,g2,k',fs,ns,is_,b',g3⟩ |⟨k',y,ms',b',g1,g2,g3,v1,v2,v3,v4,v5⟩
      ·rw[show zhR true x t r=zhi x t r from rfl,g1,g3,Option.bind_some]
       dsimp only
       rw[zpW g2,Option.bind_some]
       dsimp only
       rw[zgx g2];exact .inl ⟨f,rfl,g2,_,rfl,rfl,rfl⟩
      ·rw[g2,Option.bind_some]
       dsimp only
       rcases rest y ms' b' k' (show zhR true x t r=_ from g1) g3 with⟨f,q1,q2,q3⟩ |⟨q3,r2,q1,q4,q5⟩
       ·rw[q1,q3,Option.bind_some]
        dsimp only
        rw[zgx q2];exact .inl ⟨f,rfl,q2,_,rfl,rfl,rfl⟩
       ·obtain⟨i1,i2,i3⟩:=zkf hi ht q1
        rw[q1,q3,Option.bind_some,<- v1,<- v2,<- v3,<- v4,<- v5]
        exact zgj hF hT (q+1) n b' { y with tokens:=r2 } k' ms' l i1 (i3.trans he) q4 g3 (by dsimp only;omega)
  ·obtain⟨e1,e2,e3⟩:=drop_cons h
   have hov:=zh3 (T:=Y.1) (sg:=false) h
   rw[zaJ,show ltI (k:Int) ((Y.1.length:Nat):Int)=true from decide_eq_true (by omega),show andB true (eqI 0 0)=true from rfl,cond_true,hov,Option.bind_some,decide_eq_true hu,cond_true,wrapN (by omega) (by omega),show(k:Int)+1=((k+1:Nat):Int) from rfl]
   exact zgj hF hT q n b x (k+1) ms l hi he (.inl ⟨e3,by omega⟩) hr hn
end Go.Dc.Pa
end
section
namespace Go.Dc
open Go Go.Hw Go.Proofs
def zc8:Nat->Nat->(List Token)->(List ANm)->Option ((List Token) × (List ANm))
 |0,k97,l98,l99=>some ((l98,l99))
 |q117+1,k97,l98,l99=>Option.bind (l98[k97]?) (fun x122=>cond (eqI x122.Kind 4) (Option.bind (some (l98.set k97 ({ x122 with Kind:=3 }))) (fun l126=>zc8 q117 (k97+1) l126 l99)) (zc8 q117 (k97+1) l98 l99))
def zc7(a1:Program):List ANm->Nat->Int->Int->Option ((Int × Int) ⊕ Fault)
 |[],k228,i229,i230=>some (.inl (i229,i230))
 |x253::q249,k228,i229,i230=>Option.bind (zbx x253 a1) (fun y257=>(match y257 with|.inl e259=>some (.inr e259)|.inr y260=>cond (eqS x253.kind (⟨#[111,102,32,119,97,105,116]⟩:ByteArray)) (zc7 a1 q249 (k228+1) i229 y260) (zc7 a1 q249 (k228+1) y260 i230)))
def zkC(fuelN:Nat)(a0_0:List Token)(a0_1:Int)(a0_7:List ANm)(a1:Program):Option (Fault ⊕ (Inst × (List Token) × (List ANm))):=
 cond (eqI ((a0_0.length:Nat):Int) 0) (Option.bind (zaH 15 a0_1) (fun y2=>some (.inl y2))) (Option.bind (a0_0[0]?) (fun x4=>cond (!(eqI x4.Kind 1)) (Option.bind (zaH 14 x4.At) (fun y8=>some (.inl y8))) (Option.bind (iBM fuelN x4.Text) (fun y10=>cond (!y10.2) (Option.bind (zaH 8 x4.At) (fun y13=>some (.inl y13))) (Option.bind (α:=(List Token) × (List ANm)) (zai (lenB a0_0.length) (Option.bind (zc8 a0_0.length 0 a0_0 a0_7) (fun o=>match o with |(l109,l110)=>some ((l109,l110))))) (fun o=>match o with |(l69,l70)=>zai (slB (1:Int) (l69.length:Int) l69.length) (Option.bind (some (subL l69 (1:Int) (l69.length:Int))) (fun l130=>Option.bind (zbE fuelN l130 a0_1 l70 y10.1 0 0) (fun y133=>(match y133 with|.inl e135=>some (.inl e135)|.inr y136=>cond (ltI 0 ((y136.2.1.length:Nat):Int)) (Option.bind (y136.2.1[0]?) (fun x138=>Option.bind (zaH 14 x138.At) (fun y141=>some (.inl y141)))) (Option.bind (α:=(Int × Int) ⊕ Fault) (zai (lenB y136.2.2.length) (Option.bind (zc7 a1 y136.2.2 0 y136.1.Obj y136.1.N) (fun o=>match o with|.inl (i241,i242)=>some (.inl (i241,i242))|.inr e262=>some (.inr e262)))) (fun o=>match o with|.inl (i200,i201)=>some (.inr (({ Op:=y136.1.Op,A:=y136.1.A,B:=y136.1.B,C:=y136.1.C,Obj:=i200,N:=i201,Fn:=y136.1.Fn,Order:=y136.1.Order }:Inst),y136.2.1,y136.2.2))|.inr e263=>some (.inl e263)))))))))))))
theorem zjb{fuelN:Nat}{c0_2:FC}{c0_3:FC}{c0_4:FC}{c0_5:FC}{c0_6:FC}{c0_8:FC}{c0_9:FC}{a0_0:List Token}{a0_1:Int}{a0_7:List ANm}{a1:Program}{r:Fault ⊕ (Inst × (List Token) × (List ANm))}(hs:zkC fuelN a0_0 a0_1 a0_7 a1=some r):CAt Tryz.prog 31 [.cell (.ref (.a 0) 0),.agg (eA a1)] [.cells [.own (.sp 4 a0_0.length (encL a0_0)),nC a0_1,c0_2.ac,c0_3.ac,c0_4.ac,c0_5.ac,c0_6.ac,.own (.sp 7 a0_7.length (encL a0_7)),c0_8.ac,c0_9.ac]] (panO panV (fun(r:Inst × (List Token) × (List ANm))=>.agg (eA r.1)) r) (panP (fun(r:Inst × (List Token) × (List ANm))=>[(.a 0,.cells [sC r.2.1,nC a0_1,c0_2.ac,c0_3.ac,c0_4.ac,c0_5.ac,c0_6.ac,.own (.sp 7 r.2.2.length (encL r.2.2)),c0_8.ac,c0_9.ac])]) r):=by
 refine zab (by kernel_rfl) fun hb=>?_
 have hb1:LenOk (.sl a1.Vars.length (encL a1.Vars)):=lkc hb
 have hb2:LenOk (.sl a1.Mutexes.length (encL a1.Mutexes)):=lkc hb
 have hb3:LenOk (.sl a1.Conds.length (encL a1.Conds)):=lkc hb
 have hb4:LenOk (.sl a1.Funcs.length (encL a1.Funcs)):=lkc hb
 have hb5:LenOk (.sl a1.Threads.length (encL a1.Threads)):=lkc hb
 refine zac mixed Tryz.func31 (by kernel_rfl) rfl (by kernel_rfl) rfl fun Q hQ=>?_
 rw[zkC]at hs
 refine goR f0 ?_
 revert hs;refine cS f0 ?_ ?_<;>intro h1 hs
 ·refine goR f0 ?_
  revert hs;refine bK fun y2 hx3 hs=>?_
  refine cX f0 (zaA hx3) [] (fun v=>?_)
  obtain rfl:=sj hs
  exact hQ _ _ zan
 ·revert hs;refine bK fun x4 hx5 hs=>?_
  have hx5b:=zau hx5
  have f6:zam Tryz.prog 81 (encL a0_0) (0 * 4)=some (.agg (eA x4)):=zae hx5 (f:=0) (by simp)
  refine goR f6 ?_
  revert hs;refine cS f6 ?_ ?_<;>intro h7 hs
  ·refine goR f6 ?_
   revert hs;refine bK fun y8 hx9 hs=>?_
   refine cX f6 (zaA hx9) [] (fun v=>?_)
   obtain rfl:=sj hs
   exact hQ _ _ zan
  ·refine goR f6 ?_
   revert hs;refine bK fun y10 hx11 hs=>?_
   refine cP f6 (zsy hx11) ?_
   refine goR f6 ?_
   revert hs;refine cS f6 ?_ ?_<;>intro h12 hs
   ·refine goR f6 ?_
    revert hs;refine bK fun y13 hx14 hs=>?_
    refine cX f6 (zaA hx14) [] (fun v=>?_)
    obtain rfl:=sj hs
    exact hQ _ _ zan
   ·refine goR2 f6 ?_
    revert hs;refine bK fun o72 e71 hs=>?_
    refine zaj (fun(v:(List Token) × (List ANm)) (σ:St)=>some (v)=some o72 /\ σ.env 0=.cell (.ref (.a 0) 0) /\ σ.env 3=.cell (.ref (.o 1 0 0) 0) /\ σ.env 4=.cell (.ref (.o 1 1 0) 0) /\ σ.env 6=iV .i64 y10.1 /\ σ.hp (.l 3)=some (.pure (encL v.1)) /\ σ.hp (.a 0)=some (.cells [.sl (.l 3) 0 4 v.1.length,nC a0_1,c0_2.ac,c0_3.ac,c0_4.ac,c0_5.ac,c0_6.ac,.own (.sp 7 v.2.length (encL v.2)),c0_8.ac,c0_9.ac]) /\ σ.hp (.o 1 0 0)=some (.cells (eA a1)) /\ σ.hp (.o 1 1 0)=some (.cells [nC 0,nC 0,nC 0,nC 0,nC 0,nC 0,nC 0,nC 0]) /\ 7<=σ.gen) (by rfl) (fun Q hK73 hX74=>?_) (fun v σ3 hp=>?_)
    ·refine goR f6 ?_
     obtain⟨hb121,e71⟩:=zaa e71
     revert e71;refine bK fun o112 e111 e71=>?_
     refine zaf (fun(v:Nat × Nat × (List Token) × (List ANm)) (σ:St)=>zc8 v.1 v.2.1 v.2.2.1 v.2.2.2=some o112 /\ v.1+v.2.1=a0_0.length /\ σ.env 0=.cell (.ref (.a 0) 0) /\ σ.env 3=.cell (.ref (.o 1 0 0) 0) /\ σ.env 4=.cell (.ref (.o 1 1 0) 0) /\ σ.env 6=iV .i64 y10.1 /\ σ.env 51=iV .i64 ((a0_0.length:Nat):Int) /\ σ.env 52=iV .i64 ((v.2.1:Nat):Int) /\ σ.hp (.l 8)=some (.pure (encL v.2.2.1)) /\ σ.hp (.a 0)=some (.cells [.sl (.l 8) 0 4 v.2.2.1.length,nC a0_1,c0_2.ac,c0_3.ac,c0_4.ac,c0_5.ac,c0_6.ac,.own (.sp 7 v.2.2.2.length (encL v.2.2.2)),c0_8.ac,c0_9.ac]) /\ σ.hp (.o 1 0 0)=some (.cells (eA a1)) /\ σ.hp (.o 1 1 0)=some (.cells [nC 0,nC 0,nC 0,nC 0,nC 0,nC 0,nC 0,nC 0]) /\ 7<=σ.gen) (fun v=>v.1) _ (Gh.ren _ (.o 2 3 0) (.l 8) (by simp) rfl rfl) (a0_0.length,0,a0_0,a0_7) ⟨e111,by first|omega|simp |(simp;omega),pv f6,pv f6,pv f6,pv f6,pv f6,pv f6,pv f6,pv f6,pv f6,pv f6,pg⟩ fun v σ6 hp L113 hL114=>?_
     obtain⟨q116,k97,l98,l99⟩:=v
     dsimp only at hp hL114
     obtain⟨e111,hd115,h5_0,h5_3,h5_4,h5_6,h5_51,h5_52,g5_0,g5_1,g5_2,g5_3,n5_g⟩:=hp
     have n5_0:¬ (σ6.gen=0):=by omega
     rcases q116 with _|q117
     ·have hlt118:¬ k97 < a0_0.length:=by omega
      rw[zc8]at e111;try dsimp only at e111
      have F1:=an h5_0 (an h5_3 (an h5_4 (an h5_6 (an h5_51 (an h5_52 (an g5_0 (an g5_1 (an g5_2 (an g5_3 (an n5_0 f6))))))))))
      refine goR F1 ?_
      refine zaF (by simp[ltI];omega) ?_
      obtain rfl:=sj e111
      try dsimp only at e71
      exact hK73 (l98,l99) _ _ (Gh.ren _ (.l 8) (.l 3) (by simp) rfl rfl) ⟨e71,pv F1,pv F1,pv F1,pv F1,pv F1,pv F1,pv F1,pv F1,pg⟩
     ·have hlt118:k97 < a0_0.length:=by omega
      have ew119:=za1 hlt118 hb121
      rw[zc8]at e111;try dsimp only at e111
      have F2:=an h5_0 (an h5_3 (an h5_4 (an h5_6 (an h5_51 (an h5_52 (an g5_0 (an g5_1 (an g5_2 (an g5_3 (an n5_0 (an f6 (an hlt118 ew119))))))))))))
      refine goR F2 ?_
      refine zaB (by simp[ltI];omega) ?_
      revert e111;refine bK fun x122 hx123 e111=>?_
      have hx123b:=zau hx123
      have f124:zam Tryz.prog 79 (encL l98) (k97 * 4)=some (iV .i64 x122.Kind):=zae hx123 (f:=0) (by simp)
      have F3:=an F2 f124
      refine goR F3 ?_
      revert e111;refine cS F3 ?_ ?_<;>intro h125 e111
      ·revert e111;refine lK fun l126 hx127 e111=>?_
       have f128:zaC (encL l98) (k97 * 4) [.c (.int .i64 3)]=encL l126:=hx127 ▸ zdy hx123 (f:=0) (by simp) (by simp[zaC])
       simp only[zaC]at f128
       have f128n:l126.length=l98.length:=by rw[hx127];simp
       have f128w:∀ n:Nat,n=l126.length->(encL l126).take (n * 4)=encL l126:=fun n h=>by rw[h];exact zal _ (by simp)
       have F4:=an F3 (an f128 (an f128n f128w))
       refine goR F4 ?_
       exact hL114 (q117,(k97+1),l126,l99) _ _ (Gh.refl _) ⟨e111,(by first|omega |(simp;omega)),pv F4,pv F4,pv F4,pv F4,pv F4,pv F4,pv F4,pv F4,pv F4,pv F4,pg⟩ (by omega)
      ·refine goR F3 ?_
       exact hL114 (q117,(k97+1),l98,l99) _ _ (Gh.refl _) ⟨e111,(by first|omega |(simp;omega)),pv F3,pv F3,pv F3,pv F3,pv F3,pv F3,pv F3,pv F3,pv F3,pv F3,pg⟩ (by omega)
    ·obtain⟨l69,l70⟩:=v
     dsimp only at hp
     obtain⟨e71,h4_0,h4_3,h4_4,h4_6,g4_0,g4_1,g4_2,g4_3,n4_g⟩:=hp
     obtain rfl:=sj e71
     try dsimp only at hs
     have n4_0:¬ (σ3.gen=0):=by omega
     have F5:=an h4_0 (an h4_3 (an h4_4 (an h4_6 (an g4_0 (an g4_1 (an g4_2 (an g4_3 (an n4_0 f6))))))))
     refine goN F5 ?_
     refine zaX (by rfl) (Gh.frz _ (.l 3)) ?_
     try simp only[St.frz,St.pur]
     obtain⟨g129,hs⟩:=zaa hs
     obtain⟨g129a,g129b,g129c⟩:=ze0 g129
     revert hs;refine lK fun l130 hx131 hs=>?_
     have f132n:l130.length=((l69.length:Int) - (1:Int)).toNat:=by rw[hx131];exact zeC ⟨g129a,g129b,g129c⟩
     have f132e:((encL l69).drop (((1:Int):Int).toNat * 4)).take (((l69.length:Int) - (1:Int)).toNat * 4)=encL l130:=by rw[hx131];exact zd2 (α:=Token)
     try simp at f132n
     try simp at f132e
     have F6:=an F5 (an g129a (an g129b (an g129c (an f132n f132e))))
     refine goR F6 ?_
     revert hs;refine bK fun y133 hx134 hs=>?_
     rcases y133 with e135|y136
     ·try dsimp only at hs
      refine cX F6 (zcx (c0_2:=(c0_2.toF [.a 0])) (c0_3:=(c0_3.toF [.a 0])) (c0_4:=(c0_4.toF [.a 0])) (c0_5:=(c0_5.toF [.a 0])) (c0_6:=(c0_6.toF [.a 0])) (c0_8:=(c0_8.toF [.a 0])) (c0_9:=(c0_9.toF [.a 0])) hx134) [.a 0] (fun v=>?_)
      obtain rfl:=sj hs
      exact hQ _ _ zan
     ·try dsimp only at hs
      refine cB F6 (zcx (c0_2:=(c0_2.toF [.a 0])) (c0_3:=(c0_3.toF [.a 0])) (c0_4:=(c0_4.toF [.a 0])) (c0_5:=(c0_5.toF [.a 0])) (c0_6:=(c0_6.toF [.a 0])) (c0_8:=(c0_8.toF [.a 0])) (c0_9:=(c0_9.toF [.a 0])) hx134) [.a 0] ?_
      refine goR F6 ?_
      revert hs;refine cS F6 ?_ ?_<;>intro h137 hs
      ·revert hs;refine bK fun x138 hx139 hs=>?_
       have hx139b:=zau hx139
       have f140:zam Tryz.prog 3 (encL y136.2.1) (0 * 4+3)=some (iV .i64 x138.At):=zae hx139 (f:=3) (by simp)
       have F7:=an F6 f140
       refine goR F7 ?_
       revert hs;refine bK fun y141 hx142 hs=>?_
       refine cX F7 (zaA hx142) [] (fun v=>?_)
       obtain rfl:=sj hs
       exact hQ _ _ zan
      ·refine goR2 F6 ?_
       revert hs;refine bK fun o203 e202 hs=>?_
       refine zaj (fun(v:Int × Int) (σ:St)=>some (.inl v)=some o203 /\ σ.env 4=.cell (.ref (.o 1 1 0) 0) /\ σ.env 9=.cell (.ref (.o (σ3.gen+2) 3 0) 0) /\ σ.hp (.a 0)=some (.cells [sC y136.2.1,nC a0_1,c0_2.ac,c0_3.ac,c0_4.ac,c0_5.ac,c0_6.ac,.sl (.o (σ3.gen+4) 3 7) 0 7 y136.2.2.length,c0_8.ac,c0_9.ac]) /\ σ.hp (.o (σ3.gen+4) 3 7)=some (.pure (encL y136.2.2)) /\ σ.hp (.o 1 1 0)=some (.cells [nC 0,nC 0,nC 0,nC 0,nC 0,nC 0,nC 0,nC 0]) /\ σ.hp (.o (σ3.gen+2) 3 0)=some (.cells [nC y136.1.Op,nC y136.1.A,nC y136.1.B,nC y136.1.C,nC v.1,nC v.2,nC y136.1.Fn,nC y136.1.Order]) /\ (σ3.gen+4)<=σ.gen) (by rfl) (fun Q hK204 hX205=>?_) (fun v σ9 hp=>?_)
       ·refine goR F6 ?_
        obtain⟨hb254,e202⟩:=zaa e202
        revert e202;refine bK fun o244 e243 e202=>?_
        refine zaf (fun(v:(List ANm) × Nat × Int × Int) (σ:St)=>zc7 a1 v.1 v.2.1 v.2.2.1 v.2.2.2=some o244 /\ v.1=y136.2.2.drop v.2.1 /\ σ.env 3=.cell (.ref (.o 1 0 0) 0) /\ σ.env 4=.cell (.ref (.o 1 1 0) 0) /\ σ.env 9=.cell (.ref (.o (σ3.gen+2) 3 0) 0) /\ σ.env 100=.cell (.sl (.o (σ3.gen+4) 3 7) 0 7 y136.2.2.length) /\ σ.env 101=iV .i64 ((y136.2.2.length:Nat):Int) /\ σ.env 102=iV .i64 ((v.2.1:Nat):Int) /\ σ.hp (.o (σ3.gen+4) 3 7)=some (.pure (encL y136.2.2)) /\ σ.hp (.a 0)=some (.cells [sC y136.2.1,nC a0_1,c0_2.ac,c0_3.ac,c0_4.ac,c0_5.ac,c0_6.ac,.sl (.o (σ3.gen+4) 3 7) 0 7 y136.2.2.length,c0_8.ac,c0_9.ac]) /\ σ.hp (.o 1 0 0)=some (.cells (eA a1)) /\ σ.hp (.o 1 1 0)=some (.cells [nC 0,nC 0,nC 0,nC 0,nC 0,nC 0,nC 0,nC 0]) /\ σ.hp (.o (σ3.gen+2) 3 0)=some (.cells [nC y136.1.Op,nC y136.1.A,nC y136.1.B,nC y136.1.C,nC v.2.2.1,nC v.2.2.2,nC y136.1.Fn,nC y136.1.Order]) /\ (σ3.gen+4)<=σ.gen) (fun v=>v.1.length) _ (Gh.refl _) (y136.2.2,0,y136.1.Obj,y136.1.N) ⟨e243,by simp,pv F6,pv F6,pv F6,pv F6,pv F6,pv F6,pv F6,pv F6,pv F6,pv F6,pv F6,pg⟩ fun v σ12 hp L245 hL246=>?_
        obtain⟨q248,k228,i229,i230⟩:=v
        dsimp only at hp hL246
        obtain⟨e243,hd247,h11_3,h11_4,h11_9,h11_100,h11_101,h11_102,g11_0,g11_1,g11_2,g11_3,g11_4,n11_g⟩:=hp
        have n11_0:¬ (σ12.gen=0):=by omega
        have n11_σ3gen_0:¬ (σ12.gen=σ3.gen):=by omega
        have n11_σ3gen_0':¬ (σ3.gen=σ12.gen):=by omega
        have n11_σ3gen_1:¬ (σ12.gen=σ3.gen+1):=by omega
        have n11_σ3gen_1':¬ (σ3.gen+1=σ12.gen):=by omega
        have n11_σ3gen_2:¬ (σ12.gen=σ3.gen+2):=by omega
        have n11_σ3gen_2':¬ (σ3.gen+2=σ12.gen):=by omega
        have n11_σ3gen_3:¬ (σ12.gen=σ3.gen+3):=by omega
        have n11_σ3gen_3':¬ (σ3.gen+3=σ12.gen):=by omega
        have n11_σ3gen_a:∀ j,¬ (σ12.gen+j=σ3.gen):=fun j=>by omega
        have n11_σ3gen_a':∀ j,¬ (σ3.gen=σ12.gen+j):=fun j=>by omega
        rcases q248 with _ |⟨x253,q249⟩
        ·have hlt250:=drop_end hd247
         rw[zc7]at e243;try dsimp only at e243
         have F8:=an h11_3 (an h11_4 (an h11_9 (an h11_100 (an h11_101 (an h11_102 (an g11_0 (an g11_1 (an g11_2 (an g11_3 (an g11_4 (an n11_0 (an n11_σ3gen_0 (an n11_σ3gen_0' (an n11_σ3gen_1 (an n11_σ3gen_1' (an n11_σ3gen_2 (an n11_σ3gen_2' (an n11_σ3gen_3 (an n11_σ3gen_3' (an n11_σ3gen_a (an n11_σ3gen_a' f6)))))))))))))))))))))
         refine goR F8 ?_
         refine zaF (by simp[ltI];omega) ?_
         obtain rfl:=sj e243
         try dsimp only at e202
         exact hK204 (i229,i230) _ _ (Gh.refl _) ⟨e202,pv F8,pv F8,pv F8,pv F8,pv F8,pv F8,pg⟩
        ·obtain⟨hx252,hlt250,hd255⟩:=zay hd247
         have ew251:=za1 hlt250 hb254
         rw[zc7]at e243;try dsimp only at e243
         have F9:=an h11_3 (an h11_4 (an h11_9 (an h11_100 (an h11_101 (an h11_102 (an g11_0 (an g11_1 (an g11_2 (an g11_3 (an g11_4 (an n11_0 (an n11_σ3gen_0 (an n11_σ3gen_0' (an n11_σ3gen_1 (an n11_σ3gen_1' (an n11_σ3gen_2 (an n11_σ3gen_2' (an n11_σ3gen_3 (an n11_σ3gen_3' (an n11_σ3gen_a (an n11_σ3gen_a' (an f6 (an hlt250 ew251)))))))))))))))))))))))
         refine goR F9 ?_
         refine zaB (by simp[ltI];omega) ?_
         have f256:zam Tryz.prog 86 (encL y136.2.2) (k228 * 7)=some (.agg (eA x253)):=zae hx252 (f:=0) (by simp)
         have F10:=an F9 f256
         refine goR F10 ?_
         revert e243;refine bK fun y257 hx258 e243=>?_
         rcases y257 with e259|y260
         ·try dsimp only at e243
          refine cX F10 (zbW hx258) [] (fun v=>?_)
          obtain rfl:=sj e243
          try dsimp only at e202
          obtain rfl:=sj e202
          try dsimp only at hs
          refine hX205 _ _ (by simp) ?_
          obtain rfl:=sj hs
          exact hQ _ _ zan
         ·try dsimp only at e243
          refine cP F10 (zbW hx258) ?_
          refine goR F10 ?_
          revert e243;refine cS F10 ?_ ?_<;>intro h261 e243
          ·refine goR F10 ?_
           exact hL246 (q249,(k228+1),i229,y260) _ _ (Gh.refl _) ⟨e243,hd255,pv F10,pv F10,pv F10,pv F10,pv F10,pv F10,pv F10,pv F10,pv F10,pv F10,pv F10,pg⟩ (by simp)
          ·refine goR F10 ?_
           exact hL246 (q249,(k228+1),y260,i230) _ _ (Gh.refl _) ⟨e243,hd255,pv F10,pv F10,pv F10,pv F10,pv F10,pv F10,pv F10,pv F10,pv F10,pv F10,pv F10,pg⟩ (by simp)
       ·obtain⟨i200,i201⟩:=v
        dsimp only at hp
        obtain⟨e202,h10_4,h10_9,g10_0,g10_1,g10_2,g10_3,n10_g⟩:=hp
        obtain rfl:=sj e202
        try dsimp only at hs
        have n10_0:¬ (σ9.gen=0):=by omega
        have n10_σ3gen_0:¬ (σ9.gen=σ3.gen):=by omega
        have n10_σ3gen_0':¬ (σ3.gen=σ9.gen):=by omega
        have n10_σ3gen_1:¬ (σ9.gen=σ3.gen+1):=by omega
        have n10_σ3gen_1':¬ (σ3.gen+1=σ9.gen):=by omega
        have n10_σ3gen_2:¬ (σ9.gen=σ3.gen+2):=by omega
        have n10_σ3gen_2':¬ (σ3.gen+2=σ9.gen):=by omega
        have n10_σ3gen_3:¬ (σ9.gen=σ3.gen+3):=by omega
        have n10_σ3gen_3':¬ (σ3.gen+3=σ9.gen):=by omega
        have n10_σ3gen_a:∀ j,¬ (σ9.gen+j=σ3.gen):=fun j=>by omega
        have n10_σ3gen_a':∀ j,¬ (σ3.gen=σ9.gen+j):=fun j=>by omega
        have F11:=an h10_4 (an h10_9 (an g10_0 (an g10_1 (an g10_2 (an g10_3 (an n10_0 (an n10_σ3gen_0 (an n10_σ3gen_0' (an n10_σ3gen_1 (an n10_σ3gen_1' (an n10_σ3gen_2 (an n10_σ3gen_2' (an n10_σ3gen_3 (an n10_σ3gen_3' (an n10_σ3gen_a (an n10_σ3gen_a' f6))))))))))))))))
        refine goR F11 ?_
        obtain rfl:=sj hs
        refine hQ _ _ (zaG _ (Gh.close _ (.a 0) 7) (by simp[St.frz,St.pur,F11];rfl) (by first|rfl |(simp[St.frz,St.pur,F11];done) |(rw[if_pos (by first|omega |(simp;omega))];simp[St.frz,St.pur,F11];first|omega|exact List.take_of_length_le (by simp;omega)|skip)) (pv F11))
def zcU(fuelN:Nat)(a0:Program)(a1:ByteArray):Option (Inst × Fault):=
 Option.bind (zef fuelN a0) (fun y1=>cond (!(eqI y1.1 0)) (some (({ Op:=0,A:=0,B:=0,C:=0,Obj:=0,N:=0,Fn:=0,Order:=0 }:Inst),({ Err:=y1.1,At:=0 }:Fault))) (Option.bind (zfA fuelN a1) (fun y4=>cond (!(eqI y4.2.Err 0)) (some (({ Op:=0,A:=0,B:=0,C:=0,Obj:=0,N:=0,Fn:=0,Order:=0 }:Inst),y4.2)) (Option.bind (zkC fuelN y4.1 ((a1.size:Nat):Int) ([]:List ANm) a0) (fun y7=>(match y7 with|.inl e9=>some (({ Op:=0,A:=0,B:=0,C:=0,Obj:=0,N:=0,Fn:=0,Order:=0 }:Inst),e9)|.inr y10=>some (y10.1,({ Err:=0,At:=0 }:Fault))))))))
theorem zeb{fuelN:Nat}{a0:Program}{a1:ByteArray}{r:Inst × Fault}(hs:zcU fuelN a0 a1=some r):At Tryz.prog 10 [.agg (eA a0),sV a1] (.tup [.agg (eA r.1),.agg (eA r.2)]):=by
 refine zab (by kernel_rfl) fun hb=>?_
 have hb1:LenOk (.sl a0.Vars.length (encL a0.Vars)):=lkc hb
 have hb2:LenOk (.sl a0.Mutexes.length (encL a0.Mutexes)):=lkc hb
 have hb3:LenOk (.sl a0.Conds.length (encL a0.Conds)):=lkc hb
 have hb4:LenOk (.sl a0.Funcs.length (encL a0.Funcs)):=lkc hb
 have hb5:LenOk (.sl a0.Threads.length (encL a0.Threads)):=lkc hb
 refine znI mixed Tryz.func10 (by kernel_rfl) rfl (by kernel_rfl) rfl rfl fun Q hQ=>?_
 rw[zcU]at hs
 refine goR f0 ?_
 refine zdV (by rfl) (by kernel_rfl) ?_
 refine goR f0 ?_
 refine zdV (by rfl) (by kernel_rfl) ?_
 refine goR f0 ?_
 revert hs;refine bK fun y1 hx2 hs=>?_
 refine cP f0 (zjW hx2) ?_
 refine goR f0 ?_
 revert hs;refine cS f0 ?_ ?_<;>intro h3 hs
 ·refine goR f0 ?_
  obtain rfl:=sj hs
  exact hQ _ _ (rg f0 (Gh.refl _))
 ·refine goR f0 ?_
  refine zdV (by rfl) (by kernel_rfl) ?_
  refine goR f0 ?_
  revert hs;refine bK fun y4 hx5 hs=>?_
  refine cA f0 (zja hx5) ?_
  refine goR f0 ?_
  refine zdV (by rfl) (by kernel_rfl) ?_
  refine goR f0 ?_
  revert hs;refine cS f0 ?_ ?_<;>intro h6 hs
  ·refine goD f0 ?_
   obtain rfl:=sj hs
   exact hQ _ _ (rg f0 (Gh.refl _))
  ·refine goR f0 ?_
   refine zjT (by rfl) (by rfl) (by kernel_rfl) (by kernel_rfl) ?_
   refine goR f0 ?_
   refine zno (g:=30) (caps:=[.inl (.o 1 1 0),.inl (.o 1 2 0)]) (by simp<;>rfl) fun Q hQ=>?_
   refine goN f0 ?_
   refine za7 ?_
   refine goN f0 ?_
   refine zaX (by rfl) ((Gh.close _ (.o 7 4 0) 0).trans ((Gh.own0 _ (.o 7 4 0) 2 (.sp 2 0 []) rfl).trans ((Gh.own0 _ (.o 7 4 0) 3 (.sp 1 0 []) rfl).trans ((Gh.own0 _ (.o 7 4 0) 4 (.sp 1 0 []) rfl).trans ((Gh.own0 _ (.o 7 4 0) 5 (.sl 2 0 []) rfl).trans ((Gh.own0 _ (.o 7 4 0) 6 (.sp 2 0 []) rfl).trans ((Gh.own0 _ (.o 7 4 0) 7 (.sp 7 0 []) rfl).trans ((Gh.own0 _ (.o 7 4 0) 8 (.sp 1 0 []) rfl).trans (Gh.own0 _ (.o 7 4 0) 9 (.sl 1 0 []) rfl))))))))) ?_
   try simp only[St.frz,St.pur]
   refine goR f0 ?_
   revert hs;refine bK fun y7 hx8 hs=>?_
   rcases y7 with e9|y10
   ·try dsimp only at hs
    refine cXd f0 (zjb (c0_2:=⟨AC.toF [.o 7 4 0] (.own (.sp 2 ([]:List Var).length (encL ([]:List Var)))),by simp⟩) (c0_3:=⟨AC.toF [.o 7 4 0] (.own (.sp 1 ([]:List ByteArray).length (encL ([]:List ByteArray)))),by simp⟩) (c0_4:=⟨AC.toF [.o 7 4 0] (.own (.sp 1 ([]:List ByteArray).length (encL ([]:List ByteArray)))),by simp⟩) (c0_5:=⟨AC.toF [.o 7 4 0] (.own (.sl 2 ([]:List Func).length (otL ([]:List Func)))),by simp⟩) (c0_6:=⟨AC.toF [.o 7 4 0] (.own (.sp 2 ([]:List Start).length (encL ([]:List Start)))),by simp⟩) (c0_8:=⟨AC.toF [.o 7 4 0] (.own (.sp 1 ([]:List Int).length (encL ([]:List Int)))),by simp⟩) (c0_9:=⟨AC.toF [.o 7 4 0] (.own (.sl 1 ([]:List (List Int)).length (otL ([]:List (List Int))))),by simp⟩) hx8) [.o 7 4 0] ?_
    refine goR f0 ?_
    obtain rfl:=sj hs
    refine hQ _ _ (pD (Gh.refl _) [.inl (.o 1 1 0),.inl (.o 1 2 0)] [.o 1 1 0,.o 1 2 0] (zwV e9 (nC 0) (nC 0) (nC 0) (nC 0) (nC 0) (nC 0) (nC 0) (nC 0) (nC y4.2.Err) (nC y4.2.At)) (Gh.unz _) (by simp[St.frz,St.pur]<;>rfl) (by simp[St.frz,St.pur]<;>rfl) (by simp[St.frz,St.pur]<;>rfl) (by simp) (by simp[St.frz,St.pur];rfl) (by simp[St.frz,St.pur];rfl) (by first|rfl |(simp[St.frz,St.pur];done) |(simp[St.frz,St.pur];rfl)) (pv f0))
   ·try dsimp only at hs
    refine cB f0 (zjb (c0_2:=⟨AC.toF [.o 7 4 0] (.own (.sp 2 ([]:List Var).length (encL ([]:List Var)))),by simp⟩) (c0_3:=⟨AC.toF [.o 7 4 0] (.own (.sp 1 ([]:List ByteArray).length (encL ([]:List ByteArray)))),by simp⟩) (c0_4:=⟨AC.toF [.o 7 4 0] (.own (.sp 1 ([]:List ByteArray).length (encL ([]:List ByteArray)))),by simp⟩) (c0_5:=⟨AC.toF [.o 7 4 0] (.own (.sl 2 ([]:List Func).length (otL ([]:List Func)))),by simp⟩) (c0_6:=⟨AC.toF [.o 7 4 0] (.own (.sp 2 ([]:List Start).length (encL ([]:List Start)))),by simp⟩) (c0_8:=⟨AC.toF [.o 7 4 0] (.own (.sp 1 ([]:List Int).length (encL ([]:List Int)))),by simp⟩) (c0_9:=⟨AC.toF [.o 7 4 0] (.own (.sl 1 ([]:List (List Int)).length (otL ([]:List (List Int))))),by simp⟩) hx8) [.o 7 4 0] ?_
    refine goR f0 ?_
    obtain rfl:=sj hs
    refine hQ _ _ (rD (Gh.refl _) [.inl (.o 1 1 0),.inl (.o 1 2 0)] [.o 1 1 0,.o 1 2 0] (zwW (eA y10.1) [nC 0,nC 0]) (Gh.refl _) (by simp[St.frz,St.pur]<;>rfl) (by simp[St.frz,St.pur]<;>rfl) (by simp[St.frz,St.pur]<;>rfl) (by simp) (by simp[St.frz,St.pur];rfl) (by simp[St.frz,St.pur];rfl) (by first|rfl |(simp[St.frz,St.pur];done) |(simp[St.frz,St.pur];rfl)) (pv f0))
def zcA(a1:List ByteArray):List ByteArray->Nat->Option (Unit ⊕ Bool)
 |[],k76=>some (.inl ())
 |x102::q98,k76=>Option.bind (a1[k76]?) (fun x109=>cond (!(eqS x102 x109)) (some (.inr false)) (zcA a1 q98 (k76+1)))
def zdu(a0:List ByteArray)(a1:List ByteArray):Option Bool:=
 cond (!(eqI ((a0.length:Nat):Int) ((a1.length:Nat):Int))) (some false) (Option.bind (α:=Unit ⊕ Bool) (Option.bind (zcA a1 a0 0) (fun o=>match o with|.inl _=>some (.inl ())|.inr r113=>some (.inr r113))) (fun o=>match o with|.inl _=>some true|.inr r114=>some r114))
theorem zi5{a0:List ByteArray}{a1:List ByteArray}{r:Bool}(hs:zdu a0 a1=some r):At Tryz.prog 27 [.cell (sC a0),.cell (sC a1)] (bV r):=by
 refine zab (by kernel_rfl) fun hb=>?_
 have hb1:LenOk (.sl a0.length (encL a0)):=lkc hb
 have hb2:LenOk (.sl a1.length (encL a1)):=lkc hb
 refine zac mixed Tryz.func27 (by kernel_rfl) rfl (by kernel_rfl) rfl fun Q hQ=>?_
 rw[zdu]at hs
 refine goR f0 ?_
 revert hs;refine cS f0 ?_ ?_<;>intro h1 hs
 ·refine goR f0 ?_
  obtain rfl:=sj hs
  exact hQ _ _ (rg f0 (Gh.refl _))
 ·refine goR2 f0 ?_
  revert hs;refine bK fun o57 e56 hs=>?_
  refine zaj (fun(v:Unit) (σ:St)=>some (.inl v)=some o57 /\ 3<=σ.gen) (by rfl) (fun Q hK58 hX59=>?_) (fun v σ3 hp=>?_)
  ·refine goR f0 ?_
   revert e56;refine bK fun o93 e92 e56=>?_
   refine zaf (fun(v:(List ByteArray) × Nat) (σ:St)=>zcA a1 v.1 v.2=some o93 /\ v.1=a0.drop v.2 /\ σ.env 0=.cell (sC a0) /\ σ.env 1=.cell (sC a1) /\ σ.env 5=iV .i64 ((v.2:Nat):Int) /\ 3<=σ.gen) (fun v=>v.1.length) _ (Gh.refl _) (a0,0) ⟨e92,by simp,pv f0,pv f0,pv f0,pg⟩ fun v σ6 hp L94 hL95=>?_
   obtain⟨q97,k76⟩:=v
   dsimp only at hp hL95
   obtain⟨e92,hd96,h5_0,h5_1,h5_5,n5_g⟩:=hp
   rcases q97 with _ |⟨x102,q98⟩
   ·have hlt99:=drop_end hd96
    rw[zcA]at e92;try dsimp only at e92
    have F1:=an h5_0 (an h5_1 h5_5)
    refine goR F1 ?_
    refine zaF (by simp[ltI];omega) ?_
    obtain rfl:=sj e92
    try dsimp only at e56
    exact hK58 () _ _ (Gh.refl _) ⟨e56,pg⟩
   ·obtain⟨hx101,hlt99,hd103⟩:=zay hd96
    have ew100:=wrap_succ hlt99 (hb1).len
    rw[zcA]at e92;try dsimp only at e92
    have F2:=an h5_0 (an h5_1 (an h5_5 (an hlt99 ew100)))
    refine goR F2 ?_
    refine zaB (by simp[ltI];omega) ?_
    have f108:zam Tryz.prog 9 (encL a0) (k76)=some (sV x102):=zaz hx101 (by simp)
    revert e92;refine bK fun x109 hx110 e92=>?_
    have hx110b:=zau hx110
    have f111:zam Tryz.prog 9 (encL a1) (k76)=some (sV x109):=zaz hx110 (by simp)
    have F3:=an F2 (an f108 f111)
    refine goD F3 ?_
    revert e92;refine cS F3 ?_ ?_<;>intro h112 e92
    ·refine goD F3 ?_
     obtain rfl:=sj e92
     try dsimp only at e56
     obtain rfl:=sj e56
     try dsimp only at hs
     refine hX59 _ _ (by simp) ?_
     refine goD F3 ?_
     obtain rfl:=sj hs
     exact hQ _ _ (rg F3 (Gh.refl _))
    ·refine goD F3 ?_
     exact hL95 (q98,(k76+1)) _ _ (Gh.refl _) ⟨e92,hd103,pv F3,pv F3,pv F3,pg⟩ (by simp)
  ·obtain⟨e56,n4_g⟩:=hp
   obtain rfl:=sj e56
   try dsimp only at hs
   refine goR f0 ?_
   obtain rfl:=sj hs
   exact hQ _ _ (rg f0 (Gh.refl _))
def zbt(a1:Func):List Inst->Nat->Option (Unit ⊕ Bool)
 |[],k76=>some (.inl ())
 |x102::q98,k76=>Option.bind (a1.Code[k76]?) (fun x109=>cond (!(andB (eqI x102.Op x109.Op) (andB (eqI x102.A x109.A) (andB (eqI x102.B x109.B) (andB (eqI x102.C x109.C) (andB (eqI x102.Obj x109.Obj) (andB (eqI x102.N x109.N) (andB (eqI x102.Fn x109.Fn) (andB (eqI x102.Order x109.Order) true))))))))) (some (.inr false)) (zbt a1 q98 (k76+1)))
def zdi(a0:Func)(a1:Func):Option Bool:=
 cond (orB (!(eqS a0.Name a1.Name)) (!(eqI ((a0.Code.length:Nat):Int) ((a1.Code.length:Nat):Int)))) (some false) (Option.bind (α:=Unit ⊕ Bool) (Option.bind (zbt a1 a0.Code 0) (fun o=>match o with|.inl _=>some (.inl ())|.inr r113=>some (.inr r113))) (fun o=>match o with|.inl _=>some true|.inr r114=>some r114))
theorem zi6{a0:Func}{a1:Func}{r:Bool}(hs:zdi a0 a1=some r):At Tryz.prog 28 [.agg (eA a0),.agg (eA a1)] (bV r):=by
 refine zab (by kernel_rfl) fun hb=>?_
 have hb1:LenOk (.sl a0.Code.length (encL a0.Code)):=lkc hb
 have hb2:LenOk (.sl a1.Code.length (encL a1.Code)):=lkc hb
 refine zac mixed Tryz.func28 (by kernel_rfl) rfl (by kernel_rfl) rfl fun Q hQ=>?_
 rw[zdi]at hs
 refine goG f0 f0 ?_
 revert hs;refine cS f0 ?_ ?_<;>intro h1 hs
 ·refine goG f0 f0 ?_
  obtain rfl:=sj hs
  exact hQ _ _ (rg f0 (Gh.refl _))
 ·refine goG2 f0 f0 ?_
  revert hs;refine bK fun o57 e56 hs=>?_
  refine zaj (fun(v:Unit) (σ:St)=>some (.inl v)=some o57 /\ 3<=σ.gen) (by rfl) (fun Q hK58 hX59=>?_) (fun v σ3 hp=>?_)
  ·refine goG f0 f0 ?_
   revert e56;refine bK fun o93 e92 e56=>?_
   refine zaf (fun(v:(List Inst) × Nat) (σ:St)=>zbt a1 v.1 v.2=some o93 /\ v.1=a0.Code.drop v.2 /\ σ.env 2=.cell (.ref (.o 1 0 0) 0) /\ σ.env 3=.cell (.ref (.o 1 1 0) 0) /\ σ.env 5=iV .i64 ((v.2:Nat):Int) /\ σ.hp (.o 1 0 0)=some (.cells (eA a0)) /\ σ.hp (.o 1 1 0)=some (.cells (eA a1)) /\ 3<=σ.gen) (fun v=>v.1.length) _ (Gh.refl _) (a0.Code,0) ⟨e92,by simp,pv f0,pv f0,pv f0,pv f0,pv f0,pg⟩ fun v σ6 hp L94 hL95=>?_
   obtain⟨q97,k76⟩:=v
   dsimp only at hp hL95
   obtain⟨e92,hd96,h5_2,h5_3,h5_5,g5_0,g5_1,n5_g⟩:=hp
   have n5_0:¬ (σ6.gen=0):=by omega
   rcases q97 with _ |⟨x102,q98⟩
   ·have hlt99:=drop_end hd96
    rw[zbt]at e92;try dsimp only at e92
    have F1:=an h5_2 (an h5_3 (an h5_5 (an g5_0 (an g5_1 n5_0))))
    refine goR F1 ?_
    refine zaF (by simp[ltI];omega) ?_
    obtain rfl:=sj e92
    try dsimp only at e56
    exact hK58 () _ _ (Gh.refl _) ⟨e56,pg⟩
   ·obtain⟨hx101,hlt99,hd103⟩:=zay hd96
    have ew100:=wrap_succ hlt99 (hb1).len
    rw[zbt]at e92;try dsimp only at e92
    have F2:=an h5_2 (an h5_3 (an h5_5 (an g5_0 (an g5_1 (an n5_0 (an hlt99 ew100))))))
    refine goR F2 ?_
    refine zaB (by simp[ltI];omega) ?_
    have f108:zam Tryz.prog 41 (encL a0.Code) (k76 * 8)=some (.agg (eA x102)):=zae hx101 (f:=0) (by simp)
    revert e92;refine bK fun x109 hx110 e92=>?_
    have hx110b:=zau hx110
    have f111:zam Tryz.prog 41 (encL a1.Code) (k76 * 8)=some (.agg (eA x109)):=zae hx110 (f:=0) (by simp)
    have F3:=an F2 (an f108 f111)
    refine goD F3 ?_
    revert e92;refine cS F3 ?_ ?_<;>intro h112 e92
    ·refine goD F3 ?_
     obtain rfl:=sj e92
     try dsimp only at e56
     obtain rfl:=sj e56
     try dsimp only at hs
     refine hX59 _ _ (by simp) ?_
     refine goD F3 ?_
     obtain rfl:=sj hs
     exact hQ _ _ (rg F3 (Gh.refl _))
    ·refine goD F3 ?_
     exact hL95 (q98,(k76+1)) _ _ (Gh.refl _) ⟨e92,hd103,pv F3,pv F3,pv F3,pv F3,pv F3,pg⟩ (by simp)
  ·obtain⟨e56,n4_g⟩:=hp
   obtain rfl:=sj e56
   try dsimp only at hs
   refine goG f0 f0 ?_
   obtain rfl:=sj hs
   exact hQ _ _ (rg f0 (Gh.refl _))
def zb6(a1:Program):List Var->Nat->Option (Unit ⊕ Bool)
 |[],k78=>some (.inl ())
 |x104::q100,k78=>Option.bind (a1.Vars[k78]?) (fun x111=>cond (!(andB (eqS x104.Name x111.Name) (andB (eqI x104.Init x111.Init) true))) (some (.inr false)) (zb6 a1 q100 (k78+1)))
def zb5(a1:Program):List Func->Nat->Option (Unit ⊕ Bool)
 |[],k206=>some (.inl ())
 |x236::q232,k206=>Option.bind (a1.Funcs[k206]?) (fun x245=>Option.bind (zdi x236 x245) (fun y248=>cond (!y248) (some (.inr false)) (zb5 a1 q232 (k206+1))))
def zb4(a1:Program):List Start->Nat->Option (Unit ⊕ Bool)
 |[],k326=>some (.inl ())
 |x352::q348,k326=>Option.bind (a1.Threads[k326]?) (fun x359=>cond (!(andB (eqI x352.Func x359.Func) (andB (eqI x352.Arg x359.Arg) true))) (some (.inr false)) (zb4 a1 q348 (k326+1)))
def zdN(a0:Program)(a1:Program):Option Bool:=
 zai (orB (!(eqI ((a0.Vars.length:Nat):Int) ((a1.Vars.length:Nat):Int))) ((zdu a0.Mutexes a1.Mutexes).isSome)) (zai (orB (!(!(orB (!(eqI ((a0.Vars.length:Nat):Int) ((a1.Vars.length:Nat):Int))) (!((zdu a0.Mutexes a1.Mutexes).getD default))))) ((zdu a0.Conds a1.Conds).isSome)) (cond (orB (orB (orB (orB (!(eqI ((a0.Vars.length:Nat):Int) ((a1.Vars.length:Nat):Int))) (!((zdu a0.Mutexes a1.Mutexes).getD default))) (!((zdu a0.Conds a1.Conds).getD default))) (!(eqI ((a0.Funcs.length:Nat):Int) ((a1.Funcs.length:Nat):Int)))) (!(eqI ((a0.Threads.length:Nat):Int) ((a1.Threads.length:Nat):Int)))) (some false) (Option.bind (α:=Unit ⊕ Bool) (Option.bind (zb6 a1 a0.Vars 0) (fun o=>match o with|.inl _=>some (.inl ())|.inr r115=>some (.inr r115))) (fun o=>match o with|.inl _=>Option.bind (α:=Unit ⊕ Bool) (Option.bind (zb5 a1 a0.Funcs 0) (fun o=>match o with|.inl _=>some (.inl ())|.inr r251=>some (.inr r251))) (fun o=>match o with|.inl _=>Option.bind (α:=Unit ⊕ Bool) (Option.bind (zb4 a1 a0.Threads 0) (fun o=>match o with|.inl _=>some (.inl ())|.inr r363=>some (.inr r363))) (fun o=>match o with|.inl _=>some true|.inr r364=>some r364)|.inr r365=>some r365)|.inr r366=>some r366))))
theorem zhJ{a0:Program}{a1:Program}{r:Bool}(hs:zdN a0 a1=some r):At Tryz.prog 8 [.agg (eA a0),.agg (eA a1)] (bV r):=by
 refine zab (by kernel_rfl) fun hb=>?_
 have hb1:LenOk (.sl a0.Vars.length (encL a0.Vars)):=lkc hb
 have hb2:LenOk (.sl a0.Mutexes.length (encL a0.Mutexes)):=lkc hb
 have hb3:LenOk (.sl a0.Conds.length (encL a0.Conds)):=lkc hb
 have hb4:LenOk (.sl a0.Funcs.length (encL a0.Funcs)):=lkc hb
 have hb5:LenOk (.sl a0.Threads.length (encL a0.Threads)):=lkc hb
 have hb6:LenOk (.sl a1.Vars.length (encL a1.Vars)):=lkc hb
 have hb7:LenOk (.sl a1.Mutexes.length (encL a1.Mutexes)):=lkc hb
 have hb8:LenOk (.sl a1.Conds.length (encL a1.Conds)):=lkc hb
 have hb9:LenOk (.sl a1.Funcs.length (encL a1.Funcs)):=lkc hb
 have hb10:LenOk (.sl a1.Threads.length (encL a1.Threads)):=lkc hb
 refine zac mixed Tryz.func8 (by kernel_rfl) rfl (by kernel_rfl) rfl fun Q hQ=>?_
 rw[zdN]at hs
 refine goG f0 f0 ?_
 obtain⟨g1,hs⟩:=zaa hs
 refine zaZ (fun hg=>zi5 (zaQ g1 hg)) (fun hg=>by(try simp at hg);(first|simp[hg,id]);try rfl) (fun hg=>by(try simp at hg);simp[hg,id]) (by simp) ?_
 refine goG f0 f0 ?_
 obtain⟨g2,hs⟩:=zaa hs
 refine zaZ (fun hg=>zi5 (zaQ g2 hg)) (fun hg=>by(try simp at hg);(first|simp[hg,id]);try rfl) (fun hg=>by(try simp at hg);simp[hg,id]) (by simp) ?_
 refine goG f0 f0 ?_
 revert hs;refine cS f0 ?_ ?_<;>intro h3 hs
 ·refine goG f0 f0 ?_
  obtain rfl:=sj hs
  exact hQ _ _ (rg f0 (Gh.refl _))
 ·refine goG2 f0 f0 ?_
  revert hs;refine bK fun o59 e58 hs=>?_
  refine zaj (fun(v:Unit) (σ:St)=>some (.inl v)=some o59 /\ σ.env 2=.cell (.ref (.o 1 0 0) 0) /\ σ.env 3=.cell (.ref (.o 1 1 0) 0) /\ σ.hp (.o 1 0 0)=some (.cells (eA a0)) /\ σ.hp (.o 1 1 0)=some (.cells (eA a1)) /\ 3<=σ.gen) (by rfl) (fun Q hK60 hX61=>?_) (fun v σ3 hp=>?_)
  ·refine goG f0 f0 ?_
   revert e58;refine bK fun o95 e94 e58=>?_
   refine zaf (fun(v:(List Var) × Nat) (σ:St)=>zb6 a1 v.1 v.2=some o95 /\ v.1=a0.Vars.drop v.2 /\ σ.env 2=.cell (.ref (.o 1 0 0) 0) /\ σ.env 3=.cell (.ref (.o 1 1 0) 0) /\ σ.env 5=iV .i64 ((v.2:Nat):Int) /\ σ.hp (.o 1 0 0)=some (.cells (eA a0)) /\ σ.hp (.o 1 1 0)=some (.cells (eA a1)) /\ 3<=σ.gen) (fun v=>v.1.length) _ (Gh.refl _) (a0.Vars,0) ⟨e94,by simp,pv f0,pv f0,pv f0,pv f0,pv f0,pg⟩ fun v σ6 hp L96 hL97=>?_
   obtain⟨q99,k78⟩:=v
   dsimp only at hp hL97
   obtain⟨e94,hd98,h5_2,h5_3,h5_5,g5_0,g5_1,n5_g⟩:=hp
   have n5_0:¬ (σ6.gen=0):=by omega
   rcases q99 with _ |⟨x104,q100⟩
   ·have hlt101:=drop_end hd98
    rw[zb6]at e94;try dsimp only at e94
    have F1:=an h5_2 (an h5_3 (an h5_5 (an g5_0 (an g5_1 n5_0))))
    refine goR F1 ?_
    refine zaF (by simp[ltI];omega) ?_
    obtain rfl:=sj e94
    try dsimp only at e58
    exact hK60 () _ _ (Gh.refl _) ⟨e58,pv F1,pv F1,pv F1,pv F1,pg⟩
   ·obtain⟨hx103,hlt101,hd105⟩:=zay hd98
    have ew102:=wrap_succ hlt101 (hb1).len
    rw[zb6]at e94;try dsimp only at e94
    have F2:=an h5_2 (an h5_3 (an h5_5 (an g5_0 (an g5_1 (an n5_0 (an hlt101 ew102))))))
    refine goR F2 ?_
    refine zaB (by simp[ltI];omega) ?_
    have f110:zam Tryz.prog 46 (encL a0.Vars) (k78 * 2)=some (.agg (eA x104)):=zae hx103 (f:=0) (by simp)
    revert e94;refine bK fun x111 hx112 e94=>?_
    have hx112b:=zau hx112
    have f113:zam Tryz.prog 46 (encL a1.Vars) (k78 * 2)=some (.agg (eA x111)):=zae hx112 (f:=0) (by simp)
    have F3:=an F2 (an f110 f113)
    refine goD F3 ?_
    revert e94;refine cS F3 ?_ ?_<;>intro h114 e94
    ·refine goD F3 ?_
     obtain rfl:=sj e94
     try dsimp only at e58
     obtain rfl:=sj e58
     try dsimp only at hs
     refine hX61 _ _ (by simp) ?_
     refine goD F3 ?_
     obtain rfl:=sj hs
     exact hQ _ _ (rg F3 (Gh.refl _))
    ·refine goD F3 ?_
     exact hL97 (q100,(k78+1)) _ _ (Gh.refl _) ⟨e94,hd105,pv F3,pv F3,pv F3,pv F3,pv F3,pg⟩ (by simp)
  ·obtain⟨e58,h4_2,h4_3,g4_0,g4_1,n4_g⟩:=hp
   obtain rfl:=sj e58
   try dsimp only at hs
   have n4_0:¬ (σ3.gen=0):=by omega
   have F4:=an h4_2 (an h4_3 (an g4_0 (an g4_1 n4_0)))
   refine goG2 F4 F4 ?_
   revert hs;refine bK fun o183 e182 hs=>?_
   refine zaj (fun(v:Unit) (σ:St)=>some (.inl v)=some o183 /\ σ.env 2=.cell (.ref (.o 1 0 0) 0) /\ σ.env 3=.cell (.ref (.o 1 1 0) 0) /\ σ.hp (.o 1 0 0)=some (.cells (eA a0)) /\ σ.hp (.o 1 1 0)=some (.cells (eA a1)) /\ (σ3.gen+1)<=σ.gen) (by rfl) (fun Q hK184 hX185=>?_) (fun v σ9 hp=>?_)
   ·refine goG F4 F4 ?_
    revert e182;refine bK fun o227 e226 e182=>?_
    refine zaf (fun(v:(List Func) × Nat) (σ:St)=>zb5 a1 v.1 v.2=some o227 /\ v.1=a0.Funcs.drop v.2 /\ σ.env 2=.cell (.ref (.o 1 0 0) 0) /\ σ.env 3=.cell (.ref (.o 1 1 0) 0) /\ σ.env 6=iV .i64 ((v.2:Nat):Int) /\ σ.hp (.o 1 0 0)=some (.cells (eA a0)) /\ σ.hp (.o 1 1 0)=some (.cells (eA a1)) /\ (σ3.gen+1)<=σ.gen) (fun v=>v.1.length) _ (Gh.refl _) (a0.Funcs,0) ⟨e226,by simp,pv F4,pv F4,pv F4,pv F4,pv F4,pg⟩ fun v σ12 hp L228 hL229=>?_
    obtain⟨q231,k206⟩:=v
    dsimp only at hp hL229
    obtain⟨e226,hd230,h11_2,h11_3,h11_6,g11_0,g11_1,n11_g⟩:=hp
    have n11_0:¬ (σ12.gen=0):=by omega
    rcases q231 with _ |⟨x236,q232⟩
    ·have hlt233:=drop_end hd230
     rw[zb5]at e226;try dsimp only at e226
     have F5:=an h11_2 (an h11_3 (an h11_6 (an g11_0 (an g11_1 n11_0))))
     refine goR F5 ?_
     refine zaF (by simp[ltI];omega) ?_
     obtain rfl:=sj e226
     try dsimp only at e182
     exact hK184 () _ _ (Gh.refl _) ⟨e182,pv F5,pv F5,pv F5,pv F5,pg⟩
    ·obtain⟨hx235,hlt233,hd237⟩:=zay hd230
     have ew234:=wrap_succ hlt233 (hb4).len
     rw[zb5]at e226;try dsimp only at e226
     have F6:=an h11_2 (an h11_3 (an h11_6 (an g11_0 (an g11_1 (an n11_0 (an hlt233 ew234))))))
     refine goR F6 ?_
     refine zaB (by simp[ltI];omega) ?_
     have f244:zam Tryz.prog 49 (encL a0.Funcs) (k206 * 2)=some (.agg (eA x236)):=zae hx235 (f:=0) (by simp)
     revert e226;refine bK fun x245 hx246 e226=>?_
     have hx246b:=zau hx246
     have f247:zam Tryz.prog 49 (encL a1.Funcs) (k206 * 2)=some (.agg (eA x245)):=zae hx246 (f:=0) (by simp)
     have F7:=an F6 (an f244 f247)
     refine goD F7 ?_
     revert e226;refine bK fun y248 hx249 e226=>?_
     refine cP F7 (zi6 hx249) ?_
     refine goD F7 ?_
     revert e226;refine cS F7 ?_ ?_<;>intro h250 e226
     ·refine goD F7 ?_
      obtain rfl:=sj e226
      try dsimp only at e182
      obtain rfl:=sj e182
      try dsimp only at hs
      refine hX185 _ _ (by simp) ?_
      refine goD F7 ?_
      obtain rfl:=sj hs
      exact hQ _ _ (rg F7 (Gh.refl _))
     ·refine goD F7 ?_
      exact hL229 (q232,(k206+1)) _ _ (Gh.refl _) ⟨e226,hd237,pv F7,pv F7,pv F7,pv F7,pv F7,pg⟩ (by simp)
   ·obtain⟨e182,h10_2,h10_3,g10_0,g10_1,n10_g⟩:=hp
    obtain rfl:=sj e182
    try dsimp only at hs
    have n10_0:¬ (σ9.gen=0):=by omega
    have F8:=an h10_2 (an h10_3 (an g10_0 (an g10_1 n10_0)))
    refine goG2 F8 F8 ?_
    revert hs;refine bK fun o307 e306 hs=>?_
    refine zaj (fun(v:Unit) (σ:St)=>some (.inl v)=some o307 /\ (σ9.gen+1)<=σ.gen) (by rfl) (fun Q hK308 hX309=>?_) (fun v σ15 hp=>?_)
    ·refine goG F8 F8 ?_
     revert e306;refine bK fun o343 e342 e306=>?_
     refine zaf (fun(v:(List Start) × Nat) (σ:St)=>zb4 a1 v.1 v.2=some o343 /\ v.1=a0.Threads.drop v.2 /\ σ.env 2=.cell (.ref (.o 1 0 0) 0) /\ σ.env 3=.cell (.ref (.o 1 1 0) 0) /\ σ.env 7=iV .i64 ((v.2:Nat):Int) /\ σ.hp (.o 1 0 0)=some (.cells (eA a0)) /\ σ.hp (.o 1 1 0)=some (.cells (eA a1)) /\ (σ9.gen+1)<=σ.gen) (fun v=>v.1.length) _ (Gh.refl _) (a0.Threads,0) ⟨e342,by simp,pv F8,pv F8,pv F8,pv F8,pv F8,pg⟩ fun v σ18 hp L344 hL345=>?_
     obtain⟨q347,k326⟩:=v
     dsimp only at hp hL345
     obtain⟨e342,hd346,h17_2,h17_3,h17_7,g17_0,g17_1,n17_g⟩:=hp
     have n17_0:¬ (σ18.gen=0):=by omega
     rcases q347 with _ |⟨x352,q348⟩
     ·have hlt349:=drop_end hd346
      rw[zb4]at e342;try dsimp only at e342
      have F9:=an h17_2 (an h17_3 (an h17_7 (an g17_0 (an g17_1 n17_0))))
      refine goR F9 ?_
      refine zaF (by simp[ltI];omega) ?_
      obtain rfl:=sj e342
      try dsimp only at e306
      exact hK308 () _ _ (Gh.refl _) ⟨e306,pg⟩
     ·obtain⟨hx351,hlt349,hd353⟩:=zay hd346
      have ew350:=wrap_succ hlt349 (hb5).len
      rw[zb4]at e342;try dsimp only at e342
      have F10:=an h17_2 (an h17_3 (an h17_7 (an g17_0 (an g17_1 (an n17_0 (an hlt349 ew350))))))
      refine goR F10 ?_
      refine zaB (by simp[ltI];omega) ?_
      have f358:zam Tryz.prog 51 (encL a0.Threads) (k326 * 2)=some (.agg (eA x352)):=zae hx351 (f:=0) (by simp)
      revert e342;refine bK fun x359 hx360 e342=>?_
      have hx360b:=zau hx360
      have f361:zam Tryz.prog 51 (encL a1.Threads) (k326 * 2)=some (.agg (eA x359)):=zae hx360 (f:=0) (by simp)
      have F11:=an F10 (an f358 f361)
      refine goD F11 ?_
      revert e342;refine cS F11 ?_ ?_<;>intro h362 e342
      ·refine goD F11 ?_
       obtain rfl:=sj e342
       try dsimp only at e306
       obtain rfl:=sj e306
       try dsimp only at hs
       refine hX309 _ _ (by simp) ?_
       refine goD F11 ?_
       obtain rfl:=sj hs
       exact hQ _ _ (rg F11 (Gh.refl _))
      ·refine goD F11 ?_
       exact hL345 (q348,(k326+1)) _ _ (Gh.refl _) ⟨e342,hd353,pv F11,pv F11,pv F11,pv F11,pv F11,pg⟩ (by simp)
    ·obtain⟨e306,n16_g⟩:=hp
     obtain rfl:=sj e306
     try dsimp only at hs
     refine goG f0 f0 ?_
     obtain rfl:=sj hs
     exact hQ _ _ (rg f0 (Gh.refl _))
def zdS(fuelN:Nat) :Option Bool:=
 Option.bind (zdX fuelN (⟨#[118,97,114,32,120,32,48,10,102,117,110,99,32,102,10,108,111,97,100,32,114,49,32,120,32,114,101,108,97,99,113,10,101,110,100,10,116,104,114,101,97,100,32,102,32,51]⟩:ByteArray)) (fun y1=>Option.bind (zdX fuelN (⟨#[102,117,110,99,32,102]⟩:ByteArray)) (fun y3=>Option.bind (zcU fuelN y1.1 (⟨#[99,111,112,121,32,114,49,32,114,56]⟩:ByteArray)) (fun y5=>Option.bind (zcU fuelN y1.1 (⟨#[115,116,111,114,101,32,120,32,114,50,32,112,108,97,105,110]⟩:ByteArray)) (fun y7=>Option.bind (some ([({ Name:=(⟨#[120]⟩:ByteArray),Init:=0 }:Var)])) (fun l9=>Option.bind (some ([({ Op:=8,A:=1,B:=0,C:=0,Obj:=0,N:=0,Fn:=0,Order:=2 }:Inst)])) (fun l11=>Option.bind (some ([({ Name:=(⟨#[102]⟩:ByteArray),Code:=l11 }:Func)])) (fun l13=>Option.bind (some ([({ Func:=0,Arg:=3 }:Start)])) (fun l15=>cond (andB (eqI y1.2.Err 0) (andB (eqI y1.2.At 0) true)) (Option.bind (zdN y1.1 ({ Vars:=l9,Mutexes:=[],Conds:=[],Funcs:=l13,Threads:=l15 }:Program)) (fun y18=>some (andB (andB (andB (andB y18 (andB (eqI y3.2.Err 15) (andB (eqI y3.2.At 6) true))) (andB (eqI y5.2.Err 10) (andB (eqI y5.2.At 8) true))) (andB (eqI y7.2.Err 0) (andB (eqI y7.2.At 0) true))) (andB (eqI y7.1.Op 9) (andB (eqI y7.1.A 0) (andB (eqI y7.1.B 2) (andB (eqI y7.1.C 0) (andB (eqI y7.1.Obj 0) (andB (eqI y7.1.N 0) (andB (eqI y7.1.Fn 0) (andB (eqI y7.1.Order 0) true))))))))))) (some false)))))))))
theorem zfN{fuelN:Nat} {r:Bool}(hs:zdS fuelN=some r):At Tryz.prog 5 [] (bV r):=by
 refine zab (by kernel_rfl) fun hb=>?_
 refine zac mixed Tryz.func5 (by kernel_rfl) rfl (by kernel_rfl) rfl fun Q hQ=>?_
 rw[zdS]at hs
 refine goR f0 ?_
 revert hs;refine bK fun y1 hx2 hs=>?_
 refine cP f0 (zfq hx2) ?_
 refine goR f0 ?_
 revert hs;refine bK fun y3 hx4 hs=>?_
 refine cP f0 (zfq hx4) ?_
 refine goR f0 ?_
 revert hs;refine bK fun y5 hx6 hs=>?_
 refine cP f0 (zeb hx6) ?_
 refine goR f0 ?_
 revert hs;refine bK fun y7 hx8 hs=>?_
 refine cP f0 (zeb hx8) ?_
 revert hs;refine lK fun l9 hx10 hs=>?_
 have hx10n:l9.length=1:=by rw[hx10];rfl
 revert hs;refine lK fun l11 hx12 hs=>?_
 have hx12n:l11.length=1:=by rw[hx12];rfl
 revert hs;refine lK fun l13 hx14 hs=>?_
 have hx14n:l13.length=1:=by rw[hx14];rfl
 revert hs;refine lK fun l15 hx16 hs=>?_
 have hx16n:l15.length=1:=by rw[hx16];rfl
 have F1:=an hx10 (an hx12 (an hx14 hx16))
 refine goN F1 ?_
 refine za7 ?_
 refine goN F1 ?_
 refine zaX (by rfl) ((Gh.frz _ (.o 6 3 0)).trans (Gh.pur _ (.o 6 5 0))) ?_
 try simp only[St.frz,St.pur]
 refine goG F1 F1 ?_
 refine zdG (fun h17=>?_) (fun h17=>?_)
 ·replace hs:=zoj h17 hs
  have F2:=an F1 h17
  refine goG F2 F2 ?_
  revert hs;refine bK fun y18 hx19 hs=>?_
  refine cA F2 (zw7 (args:=[.agg (eA y1.1),.agg [sC l9,.z,.z,sC l13,sC l15]]) (by simp) (zhJ hx19)) ?_
  refine goG F2 F2 ?_
  obtain rfl:=sj hs
  exact hQ _ _ (rg F2 (Gh.refl _))
 ·replace hs:=zol h17 hs
  have F3:=an F1 h17
  refine goG F3 F3 ?_
  obtain rfl:=sj hs
  exact hQ _ _ (rg F3 (Gh.refl _))
end Go.Dc
end
section
namespace Go.Dc.Pa
open Go Go.Hw Go.Dc
theorem ztX:zdS 67108864=some true:=by kernel_rfl
end Go.Dc.Pa
end
section
namespace Go.Dc
open Go Go.Hw Go.Proofs
def zdb(fuelN:Nat)(a0:ByteArray):Option Bool:=
 cond (andB (ltI 3000 ((a0.size:Nat):Int)) (!(ltI 16384 ((a0.size:Nat):Int)))) (Option.bind (zdS fuelN) (fun y2=>some y2)) (Option.bind (zdX fuelN a0) (fun y4=>Option.bind (zfb fuelN a0) (fun y6=>Option.bind (zdS fuelN) (fun y8=>zai (orB (!y8) ((zdN y4.1 y6.1).isSome)) (some (andB (andB y8 ((zdN y4.1 y6.1).getD default)) (andB (eqI y4.2.Err y6.2.Err) (andB (eqI y4.2.At y6.2.At) true))))))))
theorem at_law10_AsmParse{fuelN:Nat}{a0:ByteArray}{r:Bool}(hs:zdb fuelN a0=some r):At Tryz.prog 3 [sV a0] (bV r):=by
 refine zab (by kernel_rfl) fun hb=>?_
 refine zac mixed Tryz.func3 (by kernel_rfl) rfl (by kernel_rfl) rfl fun Q hQ=>?_
 rw[zdb]at hs
 refine goG f0 f0 ?_
 revert hs;refine cS f0 ?_ ?_<;>intro h1 hs
 ·refine goG f0 f0 ?_
  revert hs;refine bK fun y2 hx3 hs=>?_
  refine cP f0 (zfN hx3) ?_
  refine goG f0 f0 ?_
  obtain rfl:=sj hs
  exact hQ _ _ (rg f0 (Gh.refl _))
 ·refine goG f0 f0 ?_
  revert hs;refine bK fun y4 hx5 hs=>?_
  refine cP f0 (zfq hx5) ?_
  refine goG f0 f0 ?_
  revert hs;refine bK fun y6 hx7 hs=>?_
  refine cP f0 (zlJ hx7) ?_
  refine goG f0 f0 ?_
  revert hs;refine bK fun y8 hx9 hs=>?_
  refine cP f0 (zfN hx9) ?_
  refine goG f0 f0 ?_
  obtain⟨g10,hs⟩:=zaa hs
  refine zaZ (fun hg=>zhJ (zaQ g10 hg)) (fun hg=>by(try simp at hg);(first|simp[hg,id]);try rfl) (fun hg=>by(try simp at hg);simp[hg,id]) (by simp) ?_
  refine goG f0 f0 ?_
  obtain rfl:=sj hs
  exact hQ _ _ (rg f0 (Gh.refl _))
end Go.Dc
end
section
namespace Go.Dc.Pa
open Go Go.Hw Go.Dc Go.Dc.Pl
theorem zlo{p:Program}{kind s:ByteArray}{v:Int}(h:ziP p kind s=some v):0<=v:=by
 rw[ziP]at h
 obtain⟨j,x,hj,e⟩:=first_some h
 cases hq:eqS x s
 ·rw[hq]at e;cases e
 ·rw[hq]at e;injection e with e;omega
theorem zpn(l:List ByteArray)(s:ByteArray):zfv l s=some ((first (fun k x=>zaw (eqS x s) (k:Int)) l 0).getD (-1)):=by
 have h:=srch (L:=zcz s) (fun k x=>zaw (eqS x s) (k:Int)) (fun _=>rfl) l 0 fun j x hx q=>by rw[zcz];exact zaO _ _ _
 rw[zfv,h]
 cases first (fun k x=>zaw (eqS x s) (k:Int)) l 0<;>rfl
theorem zma{p:Program}(hp:Small p){n:ANm}{m:RNm}(h:NR n m):rRs p m=some ((ziP p n.kind n.token.Text).getD (-1)):=by
 have e1:=appM (L:=ziu) (b:=16) (m:=1048576) Var.Name (by decide) (fun _ _=>rfl) (fun x q a k=>by rw[ziu];rfl) p.Vars [] 0 (by have:=hp.vars;simp only[List.length_nil];omega)
 have e2:=appM (L:=zit) (b:=16) (m:=1048576) Func.Name (by decide) (fun _ _=>rfl) (fun x q a k=>by rw[zit];rfl) p.Funcs [] 0 (by have:=hp.funs;simp only[List.length_nil];omega)
 rw[List.nil_append]at e1 e2
 obtain⟨t1,t2,t3⟩:=h
 have key:rRs p m=zfv (zeL p n.kind) m.Text:=by
  rw[rRs,Option.bind_some,e1,e2]
  have bsr:∀ x:Option Int,x.bind (fun y=>some y)=x:=fun x=>by cases x<;>rfl
  simp only[Option.bind_some,bsr]
  have mk:∀(c:Nat),c < 256->eqI (m.Kind.toNat:Int) (c:Int)=decide (m.Kind=UInt8.ofNat c):=fun c hc=>u8n hc
  rw[show eqI (m.Kind.toNat:Int) 118=decide (m.Kind=118) from mk 118 (by omega),show eqI (m.Kind.toNat:Int) 102=decide (m.Kind=102) from mk 102 (by omega),show eqI (m.Kind.toNat:Int) 99=decide (m.Kind=99) from mk 99 (by omega)]
  rcases t3 with⟨o,k1,_,_⟩ |⟨k1,k2,_,_⟩
  ·rw[k1]
   rcases o with o|o|o|o|o<;>rw[o]
   ·rw[show kindOf 118=kVar from rfl,zeL,show eqS kVar kVar=true by kernel_rfl];rfl
   ·rw[show kindOf 109=zb0 from rfl,zeL,show eqS zb0 kVar=false by kernel_rfl,show eqS zb0 zb0=true by kernel_rfl];rfl
   ·rw[show kindOf 77=zdn from rfl,zeL,show eqS zdn kVar=false by kernel_rfl,show eqS zdn zb0=false by kernel_rfl,show eqS zdn zdn=true by kernel_rfl];rfl
   ·rw[show kindOf 99=zdo from rfl,zeL,show eqS zdo kVar=false by kernel_rfl,show eqS zdo zb0=false by kernel_rfl,show eqS zdo zdn=false by kernel_rfl,show eqS zdo zdo=true by kernel_rfl];rfl
   ·rw[show kindOf 102=ze6 from rfl,zeL,show eqS ze6 kVar=false by kernel_rfl,show eqS ze6 zb0=false by kernel_rfl,show eqS ze6 zdn=false by kernel_rfl,show eqS ze6 zdo=false by kernel_rfl];rfl
  ·rw[k1,k2,zeL,show eqS zbu kVar=false by kernel_rfl,show eqS zbu zb0=false by kernel_rfl,show eqS zbu zdn=false by kernel_rfl,show eqS zbu zdo=false by kernel_rfl];rfl
 rw[key,zpn,t1,ziP]
theorem zs7{n:ANm}{m:RNm}(h:objC m.Kind /\ n.kind=kindOf m.Kind)(i:Inst)(v:Int):ziv i m v=some (if eqS n.kind zdn=true then { i with N:=v } else { i with Obj:=v }) /\ eqS n.kind zbu=false:=by
 rw[ziv,show eqI (m.Kind.toNat:Int) 77=decide (m.Kind=77) from u8n (n:=77) (by omega),h.2]
 rcases h.1 with o|o|o|o|o<;>rw[o]
 ·exact⟨by rw[show kindOf 118=kVar from rfl,show eqS kVar zdn=false by kernel_rfl];rfl,by kernel_rfl⟩
 ·exact⟨by rw[show kindOf 109=zb0 from rfl,show eqS zb0 zdn=false by kernel_rfl];rfl,by kernel_rfl⟩
 ·exact⟨by rw[show kindOf 77=zdn from rfl,show eqS zdn zdn=true by kernel_rfl];rfl,by kernel_rfl⟩
 ·exact⟨by rw[show kindOf 99=zdo from rfl,show eqS zdo zdn=false by kernel_rfl];rfl,by kernel_rfl⟩
 ·exact⟨by rw[show kindOf 102=ze6 from rfl,show eqS ze6 zdn=false by kernel_rfl];rfl,by kernel_rfl⟩
abbrev R11:=Int × Int × (List Var) × (List ByteArray) × (List ByteArray) × (List Func) × (List Start) × (List RNm) × (List Int) × (List (List Int)) × (List ByteArray)
theorem ziI{q:Nat}{k e a:Int}{v mu c f t n fu is_ l}(he:e ≠ 0):zaT (q+1) k e a v mu c f t n fu is_ l=some (e,a,v,mu,c,f,t,n,fu,is_,l):=by
 rw[zaT,zaL e 0,decide_eq_false he,zaV,Bool.and_false];rfl
theorem zm4{ms:List RNm}(hms:ms.length<=1048576)(fu:List Int)(is_:List (List Int))(l:List ByteArray):∀(ns:List ANm) (q j:Nat) (p:Program),F2 NR ns (ms.drop j)->j<=ms.length->ms.length+2<=j+q->Small p->(∀ n ∈ ns,zdl p n) ->
  (∃ f,zhQ ns p=.inl f /\ f.Err ≠ 0 /\ ∃ z:R11,zaT q (j:Int) 0 0 p.Vars p.Mutexes p.Conds p.Funcs p.Threads ms fu is_ l=some z /\ z.1=f.Err /\ z.2.1=f.At) \/
  (∃ p',zhQ ns p=.inr p' /\ zaT q (j:Int) 0 0 p.Vars p.Mutexes p.Conds p.Funcs p.Threads ms fu is_ l=some (0,0,p'.Vars,p'.Mutexes,p'.Conds,p'.Funcs,p'.Threads,ms,fu,is_,l))
 |[],q,j,p,h,hjl,hq,_,_=>by
  cases hd:ms.drop j with
  |cons m r=>rw[hd]at h;cases h
  |nil=>
   have hj:=List.drop_eq_nil_iff.1 hd
   have hz:∀ q',q=q'+1->zaT q (j:Int) 0 0 p.Vars p.Mutexes p.Conds p.Funcs p.Threads ms fu is_ l=some (0,0,p.Vars,p.Mutexes,p.Conds,p.Funcs,p.Threads,ms,fu,is_,l):=fun q' e=>by
    subst e
    rw[zaT,show ltI (j:Int) ((ms.length:Nat):Int)=false from decide_eq_false (by omega)];rfl
   exact .inr ⟨p,rfl,hz (q - 1) (by omega)⟩
 |n::ns,q,j,p,h,hjl,hq,hp,hn=>by
  cases hd:ms.drop j with
  |nil=>rw[hd]at h;cases h
  |cons m r=>
   rw[hd]at h
   cases h with
   |cons h1 h2=>
    obtain⟨e1,e2,e3⟩:=drop_cons hd
    obtain⟨q,rfl⟩:∃ k,q=k+1:=⟨q - 1,by omega⟩
    have hok:=hn n (by simp)
    rw[zaT,show ltI (j:Int) ((ms.length:Nat):Int)=true from decide_eq_true (by omega),show andB true (eqI 0 0)=true from rfl,cond_true,zbp,e1,Option.bind_some,show({ Vars:=p.Vars,Mutexes:=p.Mutexes,Conds:=p.Conds,Funcs:=p.Funcs,Threads:=p.Threads }:Program)=p from rfl,zma hp h1,Option.bind_some,zhQ,
     wrapN (by omega) (by omega),show(j:Int)+1=((j+1:Nat):Int) from rfl]
    cases hf:ziP p n.kind n.token.Text with
    |none=>
     obtain⟨q,rfl⟩:∃ k,q=k+1:=⟨q - 1,by omega⟩
     refine .inl ⟨_,rfl,by dsimp only;decide,?_⟩
     rw[Option.getD_none,show ltI (-1) 0=true from rfl,cond_true,show zcq 0 0 5 m.At=some (5,m.At) from rfl,Option.bind_some]
     dsimp only
     rw[ziI (by decide)]
     exact⟨_,rfl,rfl,h1.2.1⟩
    |some v=>
     have hv:=zlo hf
     dsimp only
     rw[Option.getD_some,show ltI v 0=false from decide_eq_false (by omega),cond_false]
     obtain⟨s1,s2,s3,s4,s5,s6⟩:=zfw v hok
     have ih:=zm4 hms fu is_ l ns q (j+1) (putM p n v) (by rw[e3];exact h2) (by omega) (by omega) (zgc hp s1 s2 s3 s4 s5 s6) fun m hm=>zg9 v hok (hn m (by simp[hm]))
     rw[zdl]at hok
     rcases h1.2.2 with⟨o,k1,k2,k3⟩ |⟨k1,k2,k3,k4⟩
     ·obtain⟨pp,pt⟩:=zs7 ⟨o,k1⟩ (gd (gd p.Funcs n.fn.toNat).Code n.at_.toNat) v
      rw[pt,if_neg (by simp)]at hok
      obtain⟨a1,a2,a3,a4⟩:=hok
      rw[k2,k3,show ltI n.fn 0=false from decide_eq_false (by omega),cond_false,zdU a1 a2,Option.bind_some,zdU a3 a4,Option.bind_some,pp,Option.bind_some,Option.bind_some,Option.bind_some]
      rw[putM,pt,if_neg (by simp)]at ih
      rw[putM,pt,if_neg (by simp)]
      exact ih
     ·have kt:eqS n.kind zbu=true:=by rw[k1];kernel_rfl
      rw[kt,if_pos rfl]at hok
      rw[k3,k4,show ltI (-1) 0=true from rfl,cond_true,zdU hok.1 hok.2,Option.bind_some,Option.bind_some]
      rw[putM,kt,if_pos rfl]at ih
      rw[putM,kt,if_pos rfl]
      exact ih
theorem zsr{p:Program}(hp:Small p):chk p=Go.Dc.Pl.chk p:=by
 have h1:=own_check hp
 have h2:=Go.Dc.Pl.own_check (fuel:=67108856) hp
 exact Option.some.inj (h1.symm.trans h2)
theorem zrH{e a c d:Int}(he:e ≠ 0):zcq e a c d=some (e,a):=by rw[zcq,zaL,decide_eq_false he];rfl
theorem zgC{c d:Int}:zcq 0 0 c d=some (c,d):=rfl
theorem zgE{e:Int}(he:e ≠ 0):eqI e 0=false:=by rw[zaL];exact decide_eq_false he
theorem zoZ{F:Nat}(hF:F=67108864)(s:ByteArray):zfb F s=some (zm8 s):=by
 rw[zfb,zqR hF,Option.bind_some,zm8]
 have hl:=zm0 s
 generalize zio s=Y at hl
 by_cases he:Y.2.Err=0
 case neg=>rw[if_neg he,zgE he];rfl
 rw[if_pos he,he,show eqI 0 0=true from rfl,Bool.not_true,cond_false,runM,zl2]
 have hi:=inv0 (ts:=Y.1) ((s.size:Nat):Int) (by omega)
 have hloop:=zgj hF (s:=s) (Y:=Y) (by omega) F (x0 Y.1 ((s.size:Nat):Int)).tokens.length false (x0 Y.1 ((s.size:Nat):Int)) 0 [] [] hi rfl (.inl ⟨rfl,by show 2 * Y.1.length+1<=_;omega⟩) .nil (Nat.le_refl _)
 rw[Int.natCast_zero]at hloop
 obtain⟨F',rfl⟩:∃ n,F=n+1:=⟨F - 1,by omega⟩
 rcases hloop with⟨f,g1,g2,z,g3,g4,g5⟩ |⟨b,y,ms,k',g1,g2,g3⟩
 ·obtain⟨k',e,a,v,mu,c,fs,t,ns,fu,is_,b,l⟩:=z
  dsimp only at g4 g5
  have g3:zaJ (F'+1) s Y (F'+1) 0 0 0 [] [] [] [] [] [] [] [] false []=some (k',e,a,v,mu,c,fs,t,ns,fu,is_,b,l):=g3
  rw[g1,g3]
  subst g4 g5
  have hm:(cond b (Option.bind (zcq f.Err f.At 15 ((s.size:Nat):Int)) (fun y238=>some ((y238.1,y238.2,v,mu,c,fs,t,ns,fu,is_,l)))) (some ((f.Err,f.At,v,mu,c,fs,t,ns,fu,is_,l))))=some (f.Err,f.At,v,mu,c,fs,t,ns,fu,is_,l):=by
   rw[zrH g2];cases b<;>rfl
  simp only[Option.bind_some]
  rw[hm]
  simp only[Option.bind_some]
  rw[ziI g2]
  simp only[Option.bind_some,zgE g2,cond_false,Bool.not_false,cond_true]
  rfl
 ·have g2:zaJ (F'+1) s Y (F'+1) 0 0 0 [] [] [] [] [] [] [] [] false []=some (k',0,0,y.p.Vars,y.p.Mutexes,y.p.Conds,y.p.Funcs,y.p.Threads,ms,y.funcs,y.insts,b,[]):=g2
  obtain⟨iy,ey⟩:=zh8 _ _ _ hi g1
  rw[g1,g2]
  simp only[Option.bind_some]
  cases b
  ·simp only[cond_false,Option.bind_some,Bool.false_eq_true,if_false]
   have hms:ms.length<=1048576:=by rw[<- g3.len];exact Nat.le_trans (Nat.le_add_right _ _) iy.names
   have hlk:=zm4 hms y.funcs y.insts [] y.names (F'+1) 0 y.p g3 (by omega) (by omega) iy.small iy.nok
   rw[Int.natCast_zero]at hlk
   rcases hlk with⟨f,q1,q2,z,q3,q4,q5⟩ |⟨p,q1,q2⟩
   ·obtain⟨e,a,v,mu,c,fs,t,ns,fu,is_,l⟩:=z
    dsimp only at q4 q5
    subst q4 q5
    rw[q1,q3]
    simp only[Option.bind_some,zgE q2,cond_false,Bool.not_false,cond_true]
    rfl
   ·obtain⟨s1,s2,s3,s4,s5,s6⟩:=zhc _ _ _ iy.small iy.nok q1
    have hsm:=zgc iy.small s1 s2 s3 s4 s5 s6
    rw[q1,q2]
    simp only[Option.bind_some,show eqI 0 0=true from rfl,cond_true]
    rw[show({ Vars:=p.Vars,Mutexes:=p.Mutexes,Conds:=p.Conds,Funcs:=p.Funcs,Threads:=p.Threads }:Program)=p from rfl,Go.Dc.Pl.ref_check hsm (by omega),<- zsr hsm,Option.bind_some]
    have hat:=Go.Dc.Pl.chk_at p
    rw[<- zsr hsm]at hat
    rw[zlA]
    generalize chk p=r at hat
    obtain⟨e,f,i⟩:=r
    obtain⟨t1,t2⟩:=hat
    dsimp only at t1 t2 ⊢
    by_cases hf:0<=f
    ·have hfl:f < (p.Funcs.length:Int):=by omega
     have hfu:getI y.funcs f=some (gd y.funcs f.toNat):=zdU hf (by rw[iy.funcs];omega)
     have hin:getI y.insts f=some (gd y.insts f.toNat):=zdU hf (by rw[iy.insts];omega)
     rw[show ltI f 0=false from decide_eq_false (by omega),Bool.not_false,cond_true,hfu,Option.bind_some,Option.bind_some]
     dsimp only
     by_cases hii:0<=i
     ·have hc:(gd y.insts f.toNat).length=(p.Funcs.getD f.toNat default).Code.length:=by
       rw[iy.inst _ (by omega),<- (s6 f.toNat).1];rfl
      have hil:i < ((gd y.insts f.toNat).length:Int):=by rw[hc];omega
      rw[show ltI i 0=false from decide_eq_false (by omega),Bool.not_false,show andB true true=true from rfl,cond_true,hin,Option.bind_some,zdU hii hil,Option.bind_some]
      by_cases he0:e=0
      ·subst he0;rw[if_pos rfl];rfl
      ·rw[zgE he0,if_neg he0,Bool.not_false,cond_true,zgC,zkV,if_pos hf,if_pos ⟨by rw[iy.insts];omega,hii,hil⟩]
       simp only[Option.bind_some,zgE he0,Bool.not_false,cond_true];rfl
     ·rw[show ltI i 0=true from decide_eq_true (by omega),Bool.not_true,show andB true false=false from rfl,cond_false]
      by_cases he0:e=0
      ·subst he0;rw[if_pos rfl];rfl
      ·rw[zgE he0,if_neg he0,Bool.not_false,cond_true,zgC,zkV,if_pos hf,if_neg (fun h=>hii h.2.1),if_pos (by rw[iy.funcs];omega)]
       simp only[Option.bind_some,zgE he0,Bool.not_false,cond_true];rfl
    ·rw[show ltI f 0=true from decide_eq_true (by omega),Bool.not_true,cond_false,Option.bind_some]
     dsimp only
     rw[show ∀ b,andB false b=false from fun b=>rfl,cond_false]
     by_cases he0:e=0
     ·subst he0;rw[if_pos rfl];rfl
     ·rw[zgE he0,if_neg he0,Bool.not_false,cond_true,zgC,zkV,if_neg hf]
      simp only[Option.bind_some,zgE he0,Bool.not_false,cond_true];rfl
  ·simp only[cond_true,zgC,Option.bind_some,if_true]
   rw[ziI (by decide),ey]
   rfl
theorem zc4{α β:Type}:∀(l:List α) (k:Nat),first (fun _ _=>(none:Option β)) l k=none
 |[],_=>rfl
 |x::q,k=>by rw[zaM];exact zc4 q _
theorem zgD(a:ByteArray):eqS a a=true:=by simp[eqS]
theorem zm1(l:List ByteArray):zdu l l=some true:=by
 have h:=srch (L:=zcA l) (fun _ _=>none) (fun _=>rfl) l 0 fun j x hx q=>by
  rw[Nat.zero_add,zcA,hx,Option.bind_some,zgD];rfl
 rw[zdu,h,show eqI ((l.length:Nat):Int) ((l.length:Nat):Int)=true by simp[eqI],zc4];rfl
theorem zqP(f:Func):zdi f f=some true:=by
 have h:=srch (L:=zbt f) (fun _ _=>none) (fun _=>rfl) f.Code 0 fun j x hx q=>by
  rw[Nat.zero_add,zbt,hx,Option.bind_some];simp[eqI,andB]
 rw[zdi,h,show eqI ((f.Code.length:Nat):Int) ((f.Code.length:Nat):Int)=true by simp[eqI],zgD,zc4];rfl
theorem zog(p:Program):zdN p p=some true:=by
 have h1:=srch (L:=zb6 p) (fun _ _=>none) (fun _=>rfl) p.Vars 0 fun j x hx q=>by
  rw[Nat.zero_add,zb6,hx,Option.bind_some];simp[eqI,andB,eqS]
 have h2:=srch (L:=zb5 p) (fun _ _=>none) (fun _=>rfl) p.Funcs 0 fun j x hx q=>by
  rw[Nat.zero_add,zb5,hx,Option.bind_some,zqP];rfl
 have h3:=srch (L:=zb4 p) (fun _ _=>none) (fun _=>rfl) p.Threads 0 fun j x hx q=>by
  rw[Nat.zero_add,zb4,hx,Option.bind_some];simp[eqI,andB]
 have he:∀ n:Nat,eqI (n:Int) (n:Int)=true:=fun n=>by simp[eqI]
 rw[zdN,h1,h2,h3,zm1,zm1,he,he,he,zc4,zc4,zc4];rfl
theorem law_parse(s:ByteArray):zdb 67108864 s=some true:=by
 rw[zdb,ztX,zph,zoZ rfl,Option.bind_some,Option.bind_some,Option.bind_some,Option.bind_some,zog]
 cases andB (ltI 3000 ((s.size:Nat):Int)) (!(ltI 16384 ((s.size:Nat):Int)))<;>simp[zaL,zaV,orB]
end Go.Dc.Pa
end
section
namespace Go.Hw
variable [Globals]
section
variable {H:Type} {enc:TypeId × Value->H} {P:Program} {w:World} {sp:Nat->Bool} {held:Bool}
end
end Go.Hw
end
section
namespace Go.Dc
open Go Go.Hw Go.Proofs
def zBu(x:Var):Prop:=(fun _:ByteArray=>True) x.Name /\ (fun x:Int=>-9223372036854775808<=x /\ x<=9223372036854775807) x.Init
def zxI(x:Inst):Prop:=(fun x:Int=>-9223372036854775808<=x /\ x<=9223372036854775807) x.Op /\ (fun x:Int=>-9223372036854775808<=x /\ x<=9223372036854775807) x.A /\ (fun x:Int=>-9223372036854775808<=x /\ x<=9223372036854775807) x.B /\ (fun x:Int=>-9223372036854775808<=x /\ x<=9223372036854775807) x.C /\ (fun x:Int=>-9223372036854775808<=x /\ x<=9223372036854775807) x.Obj /\ (fun x:Int=>-9223372036854775808<=x /\ x<=9223372036854775807) x.N /\ (fun x:Int=>-9223372036854775808<=x /\ x<=9223372036854775807) x.Fn /\ (fun x:Int=>-9223372036854775808<=x /\ x<=9223372036854775807) x.Order
def zxJ(x:Func):Prop:=(fun _:ByteArray=>True) x.Name /\ (fun l:List Inst=>∀ x ∈ l,(zxI) x) x.Code
def zt5(x:Start):Prop:=(fun x:Int=>-9223372036854775808<=x /\ x<=9223372036854775807) x.Func /\ (fun x:Int=>-9223372036854775808<=x /\ x<=9223372036854775807) x.Arg
def zxH(x:Program):Prop:=(fun l:List Var=>∀ x ∈ l,(zBu) x) x.Vars /\ (fun l:List ByteArray=>∀ x ∈ l,(fun _:ByteArray=>True) x) x.Mutexes /\ (fun l:List ByteArray=>∀ x ∈ l,(fun _:ByteArray=>True) x) x.Conds /\ (fun l:List Func=>∀ x ∈ l,(zxJ) x) x.Funcs /\ (fun l:List Start=>∀ x ∈ l,(zt5) x) x.Threads
theorem gN1 : Tryz.prog.globalNamed "modelcheck/value.names" = some 1 := by kernel_rfl
theorem gN0 : Tryz.prog.globalNamed "modelcheck/inst.rows" = some 0 := by kernel_rfl
theorem gN2 : Tryz.prog.globalNamed "modelcheck/inst.orders" = some 2 := by kernel_rfl
theorem gT1:(Tryz.prog.globals[1]?).map (·.type)=some 151:=by kernel_rfl
theorem gC1:cvD Tryz.prog 6 151 (Go.Proofs.YtodjpjecpancdaaGreatDoor.Rows.laid_modelcheck_value_names (H:=Unit))=some (encL zbb):=by kernel_rfl
theorem gT0:(Tryz.prog.globals[0]?).map (·.type)=some 132:=by kernel_rfl
theorem gC0:cvD Tryz.prog 6 132 (Go.Proofs.YtodjpjecpancdaaGreatDoor.Rows.laid_modelcheck_inst_rows (H:=Unit))=some (encL zbs):=by kernel_rfl
theorem gT2:(Tryz.prog.globals[2]?).map (·.type)=some 152:=by kernel_rfl
theorem gC2:cvD Tryz.prog 6 152 (Go.Proofs.YtodjpjecpancdaaGreatDoor.Rows.laid_modelcheck_inst_orders (H:=Unit))=some (encL zbk):=by kernel_rfl
theorem globs {W : World} (laid : List (String × DataW Unit)) (he : laid = [("modelcheck/value.names", Go.Proofs.YtodjpjecpancdaaGreatDoor.Rows.laid_modelcheck_value_names), ("modelcheck/inst.rows", Go.Proofs.YtodjpjecpancdaaGreatDoor.Rows.laid_modelcheck_inst_rows), ("modelcheck/inst.orders", Go.Proofs.YtodjpjecpancdaaGreatDoor.Rows.laid_modelcheck_inst_orders)])
  (h:laidMetH Tryz.prog laid W):∀ g cs,Globals.G g=some cs->AVRep W m0 (fun _=>False) (.pointer (some ⟨g,0,none⟩)) (.cell (.ep cs 0)):=by
 subst he
 rw[MakeChecks.laidMetH_plain _ _ _ (by kernel_rfl)]at h
 obtain⟨ps,⟨g0,t0,cs0,f0,p0,q0,hg0,ht0,hv0,hd0,⟨g1,t1,cs1,f1,p1,q1,hg1,ht1,hv1,hd1,⟨g2,t2,cs2,f2,p2,q2,hg2,ht2,hv2,hd2,_,_⟩,_⟩,_⟩,_,_⟩:=h
 obtain rfl:=Option.some.inj (gN1.symm.trans hg0)
 obtain rfl:=Option.some.inj (gT1.symm.trans ht0)
 obtain rfl:=Option.some.inj (gN0.symm.trans hg1)
 obtain rfl:=Option.some.inj (gT0.symm.trans ht1)
 obtain rfl:=Option.some.inj (gN2.symm.trans hg2)
 obtain rfl:=Option.some.inj (gT2.symm.trans ht2)
 intro g cs hgc
 have hgc:(if g=0 then some (encL zbs) else if g=1 then some (encL zbb) else if g=2 then some (encL zbk) else none)=some cs:=hgc
 split at hgc
 ·rename_i e
  subst e
  cases hgc
  exact zgZ (m:=6) (t:=132) (by kernel_rfl) hd1 gC0 fun j=>by simpa using World.var?_cell hg1 hv1 j
 ·split at hgc
  ·rename_i e
   subst e
   cases hgc
   exact zgZ (m:=6) (t:=151) (by kernel_rfl) hd0 gC1 fun j=>by simpa using World.var?_cell hg0 hv0 j
  ·split at hgc
   ·rename_i e
    subst e
    cases hgc
    exact zgZ (m:=6) (t:=152) (by kernel_rfl) hd2 gC2 fun j=>by simpa using World.var?_cell hg2 hv2 j
   ·cases hgc
end Go.Dc
end
