/- Contracts of functions, by their numbers, and the laws that walk them. Conditions: as each states. -/
import Derived.Test.YtodjpjecpancdaaGreatDoorH2
import Derived.ChangeArms
import Derived.OpenShut
import Derived.DataReads
import Derived.DataElems
set_option linter.all false
set_option maxRecDepth 100000
set_option maxHeartbeats 4000000
section
namespace Go.Hw
variable [Globals]
open Go.RowKit (Below)
section
variable {P:Program} {ops:Array Oper} {g i:Nat} {o:Oper} {env env':Nat->AV} {hp hp':Id->Option Blk}
theorem zof(h:zmU (o.looksAt ops) env env')(x:Operand)(hx:x ∈ o.op.operands):evAV env x=evAV env' x:=by
 cases x with
 |tmp t=>exact h t (by unfold Oper.looksAt;rw[List.mem_append];left;rw[List.mem_filterMap];exact⟨.tmp t,by simpa using hx,rfl⟩)
 |_=>rfl
theorem zlm(h:zmU (o.looksAt ops) env env'){j:Nat}{want:Bool}(hg:o.guard=some (j,want)):zd8 ops env j want=zd8 ops env' j want:=by
 unfold zd8
 split
 ·rename_i d hd
  rw[h d (by unfold Oper.looksAt;rw[List.mem_append];right;simp[hg,hd])]
 ·rfl
theorem zoF{op:Op}(h:∀ x ∈ op.operands,evAV env x=evAV env' x):tch op env=tch op env':=by
 have fm:∀ {as_:Array Operand},(∀ x ∈ as_,evAV env x=evAV env' x)->(as_.toList.flatMap fun x=>(evAV env x).ids)=as_.toList.flatMap fun x=>(evAV env' x).ids:=fun h=>by
  simp only[List.flatMap_def];congr 1;exact List.map_congr_left fun x hx=>by rw[h x (by simpa using hx)]
 cases op<;>simp only[tch]<;>try rfl
 case load t x=>rw[h x (by simp[Op.operands])]
 case store t x v=>rw[h x (by simp[Op.operands])]
 case lookup t x i ok=>rw[h x (by simp[Op.operands])]
 case mapUpdate t x k v=>rw[h x (by simp[Op.operands])]
 case insert t x k v=>rw[h x (by simp[Op.operands])]
 case nilCheck x=>rw[h x (by simp[Op.operands])]
 case convert a b x=>rw[h x (by simp[Op.operands])]
 case slice t x l hh m=>rw[h x (by simp[Op.operands])]
 case fieldAddr s x f=>rw[h x (by simp[Op.operands])]
 case indexAddr t x y=>rw[h x (by simp[Op.operands])]
 case call c=>
  obtain⟨callee,args,ts⟩:=c
  have ha:∀ x ∈ args,evAV env x=evAV env' x:=fun x hx=>h x (by simp[Op.operands,Call.operands,hx])
  cases callee with
  |value y=>
   cases y with
   |tmp t=>
    have ht:env t=env' t:=h (.tmp t) (by simp[Op.operands,Call.operands])
    simp only[ht,fm ha]
   |_=>simp only[fm ha]
  |_=>simp only[fm ha]
theorem zoJ{op:Op}{out:AV}(h:∀ x ∈ op.operands,evAV env x=evAV env' x):zdZ P op env hp out=zdZ P op env' hp out:=by
 cases op<;>simp only[zdZ]<;>try rfl
 case load t x=>rw[h x (by simp[Op.operands])]
 case call c=>
  obtain⟨callee,args,ts⟩:=c
  cases callee with
  |builtin b=>cases b<;>rfl
  |_=>rfl
end
theorem zod{P:Program}{g i:Nat}{op:Op}{env:Nat->AV}{hp:Id->Option Blk}{K E:AV->List (Id × Option Blk)->Prop}(h:fop P g i op env hp K E) :
  (∃ x u,K x u /\ fop P g i op env hp (fun o y=>o=x /\ y=u) (fun _ _=>False)) \/ ∃ x u,E x u /\ fop P g i op env hp (fun _ _=>False) (fun o y=>o=x /\ y=u):=by
 have call:∀ {n:Nat} {xs:List AV},zc6 P g i n xs hp K E->(∃ x u,K x u /\ zc6 P g i n xs hp (fun o y=>o=x /\ y=u) (fun _ _=>False)) \/ ∃ x u,E x u /\ zc6 P g i n xs hp (fun _ _=>False) (fun o y=>o=x /\ y=u):=by
  rintro n xs ⟨fp,as_,pre,o,post,hAt,h1,hK⟩
  cases o with
  |ret r=>exact .inl ⟨_,_,hK,fp,as_,pre,.ret r,post,hAt,h1,rfl,rfl⟩
  |pan x=>exact .inr ⟨_,_,hK,fp,as_,pre,.pan x,post,hAt,h1,rfl,rfl⟩
 have quiet:(match qval P hp (evAV env) op with|some v=>K v []|none=>False)->∃ x u,K x u /\ (match qval P hp (evAV env) op with|some v=>(v=x /\ ([]:List (Id × Option Blk))=u)|none=>False):=fun h=>by
  split at h
  ·exact⟨_,_,h,rfl,rfl⟩
  ·exact h.elim
 unfold fop at h ⊢
 split at h
 ·exact call h
 ·unfold zgM at h ⊢
  split at h
  ·rcases call h.2 with⟨x,u,h1,h2⟩ |⟨x,u,h1,h2⟩
   ·exact .inl ⟨x,u,h1,h.1,h2⟩
   ·exact .inr ⟨x,u,h1,h.1,h2⟩
  ·exact call h
  ·exact call h
  ·exact h.elim
 ·split at h
  ·unfold zfr at h ⊢
   split at h
   ·split at h
    ·obtain⟨h0,h⟩:=h
     split at h
     ·split at h
      ·split at h
       ·exact .inl ⟨_,_,h.2,h0,h.1,rfl,rfl⟩
       ·exact h.elim
      ·exact .inl ⟨_,_,h.2,h0,h.1,rfl,rfl⟩
      ·exact h.elim
     ·exact h.elim
    ·exact h.elim
   ·exact h.elim
  ·exact h.elim
 ·split at h
  ·unfold zei at h ⊢
   split at h
   ·split at h
    ·split at h
     ·exact .inl ⟨_,_,h,rfl,rfl⟩
     ·exact h.elim
    ·exact h.elim
   ·exact h.elim
  ·exact h.elim
 ·unfold zc3 at h ⊢
  split at h
  ·split at h
   ·split at h
    ·exact .inl ⟨_,_,h,rfl,rfl⟩
    ·exact h.elim
   ·exact h.elim
  ·exact h.elim
 ·unfold zc3 at h ⊢
  split at h
  ·split at h
   ·split at h
    ·exact .inl ⟨_,_,h,rfl,rfl⟩
    ·exact h.elim
   ·exact h.elim
  ·exact h.elim
 ·exact .inl ⟨_,_,h,rfl,rfl⟩
 ·unfold zhn at h ⊢
  split at h
  ·obtain⟨h0,h⟩:=h
   split at h
   ·exact .inl ⟨_,_,h.2,h0,h.1,rfl,rfl⟩
   ·obtain⟨h1,h⟩:=h
    split at h
    ·exact .inl ⟨_,_,h,h0,h1,rfl,rfl⟩
    ·exact .inl ⟨_,_,h,h0,h1,rfl,rfl⟩
   ·exact h.elim
  ·exact h.elim
 ·split at h
  ·exact .inl ⟨_,_,h,rfl,rfl⟩
  ·exact h.elim
 ·split at h
  ·exact .inl ⟨_,_,h,rfl,rfl⟩
  ·exact h.elim
 ·unfold zmu at h ⊢
  split at h
  ·split at h
   ·exact .inl ⟨_,_,h.2,h.1,rfl,rfl⟩
   ·exact h.elim
  ·exact h.elim
 ·unfold zhG at h ⊢
  split at h
  ·split at h
   ·obtain⟨h0,h⟩:=h
    split at h
    ·exact .inl ⟨_,_,h,h0,rfl,rfl⟩
    ·exact h.elim
   ·exact h.elim
  ·exact h.elim
 ·obtain⟨h0,h⟩:=h
  split at h
  ·exact .inl ⟨_,_,h,h0,rfl,rfl⟩
  ·exact h.elim
 ·split at h
  ·rename_i hs
   split at h
   ·exact .inl ⟨_,_,h.2,by rw[if_pos hs];exact⟨h.1,rfl,rfl⟩⟩
   ·exact h.elim
  ·rename_i hs
   simp only[if_neg hs]
   exact .inl (quiet h)
 ·split at h
  ·exact .inr ⟨_,_,h,rfl,rfl⟩
  ·exact h.elim
 ·exact .inl (quiet h)
theorem ztr{P:Program}{g i:Nat}{op:Op}{env:Nat->AV}{hp:Id->Option Blk}{K E:AV->List (Id × Option Blk)->Prop}(h:fop P g i op env hp K E) :
  fop P g i op env hp K (fun _ _=>False) \/ ∃ x u,E x u /\ fop P g i op env hp (fun _ _=>False) (fun o y=>o=x /\ y=u):=by
 have call:∀ {n:Nat} {xs:List AV},zc6 P g i n xs hp K E->zc6 P g i n xs hp K (fun _ _=>False) \/ ∃ x u,E x u /\ zc6 P g i n xs hp (fun _ _=>False) (fun o y=>o=x /\ y=u):=by
  rintro n xs ⟨fp,as_,pre,o,post,hAt,h1,hK⟩
  cases o with
  |ret r=>exact .inl ⟨fp,as_,pre,.ret r,post,hAt,h1,hK⟩
  |pan x=>exact .inr ⟨_,_,hK,fp,as_,pre,.pan x,post,hAt,h1,rfl,rfl⟩
 unfold fop at h ⊢
 split at h
 ·exact call h
 ·unfold zgM at h ⊢
  split at h
  ·rcases call h.2 with h2 |⟨x,u,h1,h2⟩
   ·exact .inl ⟨h.1,h2⟩
   ·exact .inr ⟨x,u,h1,h.1,h2⟩
  ·exact call h
  ·exact call h
  ·exact h.elim
 all_goals first
  |exact .inl h
  |skip
 split at h
 ·exact .inr ⟨_,_,h,rfl,rfl⟩
 ·exact h.elim
theorem zln{P:Program}{g i:Nat}{op:Op}{env:Nat->AV}{hp:Id->Option Blk}{K:AV->List (Id × Option Blk)->Prop}(h:fop P g i op env hp K (fun _ _=>False)) :
  ∃ x u,K x u /\ fop P g i op env hp (fun o y=>o=x /\ y=u) (fun _ _=>False):=by
 rcases zod h with h |⟨_,_,h,_⟩
 ·exact h
 ·exact h.elim
def dsel (c:Option Bool)(T F:Prop):Prop:=match c with
 |some true=>T
 |some false=>F
 |none=>False
def zlt(P:Program)(g i:Nat)(ops:Array Oper)(env:Nat->AV)(hp:Id->Option Blk)(o:Oper)(K:AV->List (Id × Option Blk)->Lg->Prop):Prop:=
 match o.guard with
 |none=>fop P g i o.op env hp (fun v u=>K v u (lgOf P o.op env hp v u)) (fun _ _=>False)
 |some (j,want)=>dsel (zd8 ops env j want) (fop P g i o.op env hp (fun v u=>K v u (lgOf P o.op env hp v u)) (fun _ _=>False)) (∃ tc stb,K uV [] ⟨tc,[],stb⟩)
def lgP (op:Op)(env:Nat->AV)(u:List (Id × Option Blk)):Lg:=⟨tch op env++u.map Prod.fst,[],fun _ _=>False⟩
def pgo (P:Program)(g:Nat)(ops:Array Oper)(p:Nat):Nat->List Oper->(Nat->AV)->(Id->Option Blk)->List Lg->Prop
 |_,[],_,_,Ls=>cfs ops 0 Ls
 |i,o::rest,env,hp,Ls=>(ordB ops p i=true /\ pgo P g ops p (i+1) rest (putE env o.dst .bad) hp (Ls++[lg0])) \/
   zlt P g i ops env hp o fun out u L=>pgo P g ops p (i+1) rest (putE env o.dst out) (hput hp u) (Ls++[L])
def zp0(P:Program)(g i:Nat)(ops:Array Oper)(env:Nat->AV)(hp:Id->Option Blk)(o:Oper)(K:AV->List (Id × Option Blk)->Lg->Prop)(E:AV->List (Id × Option Blk)->Prop):Prop:=
 match o.guard with
 |none=>fop P g i o.op env hp (fun v u=>K v u (lgOf P o.op env hp v u)) E
 |some (j,want)=>dsel (zd8 ops env j want) (fop P g i o.op env hp (fun v u=>K v u (lgOf P o.op env hp v u)) (fun _ _=>False)) (∃ tc stb,K uV [] ⟨tc,[],stb⟩)
def dgo (P:Program)(g:Nat)(ops:Array Oper):Nat->List Oper->(Nat->AV)->(Id->Option Blk)->List Lg->((Nat->AV)->(Id->Option Blk)->Prop)->(AV->Prop)->Prop
 |_,[],env,hp,Ls,K,_=>cfs ops 0 Ls /\ K env hp
 |i,o::rest,env,hp,Ls,K,E=>zp0 P g i ops env hp o (fun out u L=>dgo P g ops (i+1) rest (putE env o.dst out) (hput hp u) (Ls++[L]) K E)
   fun x u=>E x /\ pgo P g ops i (i+1) rest (putE env o.dst .bad) hp (Ls++[lgP o.op env u])
section
variable {P:Program} {g:Nat} {ops:Array Oper}
theorem ziS{i:Nat}{env:Nat->AV}{hp:Id->Option Blk}{o:Oper}{K:AV->List (Id × Option Blk)->Lg->Prop}(h:zlt P g i ops env hp o K) :
  ∃ x u L,K x u L /\ (L.u=lgU hp u u) /\ zlt P g i ops env hp o fun x' u' L'=>(x'=x /\ u'=u) /\ L'=L:=by
 have one:fop P g i o.op env hp (fun v u=>K v u (lgOf P o.op env hp v u)) (fun _ _=>False)->∃ x u L,K x u L /\ (L.u=lgU hp u u) /\ L=lgOf P o.op env hp x u /\ fop P g i o.op env hp (fun v u'=>(v=x /\ u'=u) /\ lgOf P o.op env hp v u'=L) (fun _ _=>False):=by
  intro h
  obtain⟨x,u,h1,h2⟩:=zln h
  refine⟨x,u,_,h1,rfl,rfl,?_⟩
  have e:(fun v u'=>(v=x /\ u'=u) /\ lgOf P o.op env hp v u'=lgOf P o.op env hp x u)=fun v u'=>v=x /\ u'=u:=by
   funext v u'
   apply propext
   constructor
   ·exact fun h=>h.1
   ·rintro⟨rfl,rfl⟩;exact⟨⟨rfl,rfl⟩,rfl⟩
  rw[e];exact h2
 unfold zlt at h ⊢
 split at h
 ·obtain⟨x,u,L,h1,h2,_,h3⟩:=one h
  exact⟨x,u,L,h1,h2,h3⟩
 ·unfold dsel at h ⊢
  split at h
  ·obtain⟨x,u,L,h1,h2,_,h3⟩:=one h
   exact⟨x,u,L,h1,h2,h3⟩
  ·obtain⟨tc,stb,h⟩:=h;exact⟨_,_,_,h,rfl,tc,stb,⟨rfl,rfl⟩,rfl⟩
  ·exact h.elim
theorem zeQ{env0:Nat->AV}{outs outs':List AV}{S S':Nat->Bool}:∀ m,(∀ j,j < m->outs.getD j .bad=outs'.getD j .bad /\ S j=S' j)->zbl ops outs env0 S m=zbl ops outs' env0 S' m
 |0,_=>rfl
 |m+1,h=>by simp only[zbl,zeQ m (fun j hj=>h j (by omega)),(h m (by omega)).1,(h m (by omega)).2]
theorem zfD{hp0:Id->Option Blk}{us us':List (List (Id × Option Blk))}{S S':Nat->Bool}:∀ m,(∀ j,j < m->us.getD j []=us'.getD j [] /\ S j=S' j)->hpOf us hp0 S m=hpOf us' hp0 S' m
 |0,_=>rfl
 |m+1,h=>by simp only[hpOf,zfD m (fun j hj=>h j (by omega)),(h m (by omega)).1,(h m (by omega)).2]
theorem zbI{α:Type}{l:List α}{x d:α}{j:Nat}(h:j < l.length):(l++[x]).getD j d=l.getD j d:=by
 rw[List.getD_eq_getElem?_getD,List.getElem?_append_left h,<- List.getD_eq_getElem?_getD]
theorem zgA{α:Type}{l:List α}{x d:α}{j:Nat}(h:l.length=j):(l++[x]).getD j d=x:=by
 rw[List.getD_eq_getElem?_getD,<- h,List.getElem?_append_right (Nat.le_refl _)];simp
theorem zls{i:Nat}{env:Nat->AV}{hp:Id->Option Blk}{o:Oper}{K:AV->List (Id × Option Blk)->Lg->Prop}{E:AV->List (Id × Option Blk)->Prop}(h:zp0 P g i ops env hp o K E) :
  zlt P g i ops env hp o K \/ (o.guard=none /\ ∃ x u,E x u /\ fop P g i o.op env hp (fun _ _=>False) (fun x' u'=>x'=x /\ u'=u)):=by
 unfold zp0 at h
 unfold zlt
 split at h
 ·rename_i hg
  rcases ztr h with h2|h2
  ·exact .inl h2
  ·exact .inr ⟨hg,h2⟩
 ·exact .inl h
def dok (P:Program)(g:Nat)(ops:Array Oper)(p:Option (Nat × AV))(env0:Nat->AV)(hp0:Id->Option Blk)(outs:List AV)(us:List (List (Id × Option Blk)))(Ls:List Lg)(j:Nat)(o:Oper):Prop:=
 (Ls.getD j lg0).u=lgU (hpOf us hp0 (fun _=>true) j) (us.getD j []) (us.getD j []) /\
 ((zlt P g j ops (zbl ops outs env0 (fun _=>true) j) (hpOf us hp0 (fun _=>true) j) o (fun x' u' L'=>(x'=outs.getD j .bad /\ u'=us.getD j []) /\ L'=Ls.getD j lg0) /\ ∀ q x,p=some (q,x)->j ≠ q) \/
  ∃ q x,p=some (q,x) /\ ((ordB ops q j=true /\ j ≠ q) \/ (j=q /\ o.guard=none /\ ∃ u,Ls.getD j lg0=lgP o.op (zbl ops outs env0 (fun _=>true) j) u /\
   fop P g j o.op (zbl ops outs env0 (fun _=>true) j) (hpOf us hp0 (fun _=>true) j) (fun _ _=>False) (fun x' u'=>x'=x /\ u'=u))))
theorem zny{pre:List Oper}{o:Oper}{rest:List Oper}{outs outs2:List AV}{us us2:List (List (Id × Option Blk))}{Ls Ls2:List Lg}{env0:Nat->AV}{hp0:Id->Option Blk}{env:Nat->AV}{hp:Id->Option Blk}{out:AV}{u:List (Id × Option Blk)}{L:Lg}
  (h1:ops.toList=pre++o::rest) (h2:outs.length=pre.length) (h2':us.length=pre.length) (h2'':Ls.length=pre.length)
  (h3:env=zbl ops outs env0 (fun _=>true) pre.length) (h4:hp=hpOf us hp0 (fun _=>true) pre.length)
  (a2:∀ j,j < pre.length+1->outs2.getD j .bad=(outs++[out]).getD j .bad /\ us2.getD j []=(us++[u]).getD j [] /\ Ls2.getD j lg0=(Ls++[L]).getD j lg0) :
  outs2.getD pre.length .bad=out /\ us2.getD pre.length []=u /\ Ls2.getD pre.length lg0=L /\ zbl ops outs2 env0 (fun _=>true) pre.length=env /\ hpOf us2 hp0 (fun _=>true) pre.length=hp:=by
 obtain⟨b1,b2,b3⟩:=a2 pre.length (by omega)
 refine⟨b1.trans (zgA h2),b2.trans (zgA h2'),b3.trans (zgA h2''),?_,?_⟩
 ·rw[h3];exact zeQ _ (fun j hj=>⟨(a2 j (by omega)).1.trans (zbI (by omega)),rfl⟩)
 ·rw[h4];exact zfD _ (fun j hj=>⟨(a2 j (by omega)).2.1.trans (zbI (by omega)),rfl⟩)
theorem zic{pre:List Oper}{o:Oper}{rest:List Oper}{outs:List AV}{us:List (List (Id × Option Blk))}{env0:Nat->AV}{hp0:Id->Option Blk}{env:Nat->AV}{hp:Id->Option Blk}(out:AV)(u:List (Id × Option Blk))
  (h1:ops.toList=pre++o::rest) (h2:outs.length=pre.length) (h2':us.length=pre.length)
  (h3:env=zbl ops outs env0 (fun _=>true) pre.length) (h4:hp=hpOf us hp0 (fun _=>true) pre.length) :
  putE env o.dst out=zbl ops (outs++[out]) env0 (fun _=>true) (pre++[o]).length /\ hput hp u=hpOf (us++[u]) hp0 (fun _=>true) (pre++[o]).length:=by
 have ho:ops[pre.length]?=some o:=by
  rw[<- Array.getElem?_toList,h1,List.getElem?_append_right (Nat.le_refl _)];simp
 have hlen:(pre++[o]).length=pre.length+1:=by simp
 constructor
 ·rw[hlen]
  simp only[zbl,if_true,zgA h2,ziO ho]
  rw[h3,zeQ pre.length (fun j hj=>⟨(zbI (by omega)).symm,rfl⟩)]
 ·rw[hlen]
  simp only[hpOf,if_true,zgA h2']
  rw[h4,zfD pre.length (fun j hj=>⟨(zbI (by omega)).symm,rfl⟩)]
theorem zkc{p:Nat}{x:AV}{env0:Nat->AV}{hp0:Id->Option Blk}:∀(l pre:List Oper) (outs:List AV) (us:List (List (Id × Option Blk))) (Ls:List Lg) (env:Nat->AV) (hp:Id->Option Blk),p < pre.length ->
  ops.toList=pre++l->outs.length=pre.length->us.length=pre.length->Ls.length=pre.length ->
  env=zbl ops outs env0 (fun _=>true) pre.length->hp=hpOf us hp0 (fun _=>true) pre.length->pgo P g ops p pre.length l env hp Ls ->
  ∃ outs2 us2 Ls2,(Ls2.length=ops.size /\ us2.length=ops.size) /\ (∀ j,j < pre.length->outs2.getD j .bad=outs.getD j .bad /\ us2.getD j []=us.getD j [] /\ Ls2.getD j lg0=Ls.getD j lg0) /\
   cfs ops 0 Ls2 /\ ∀ j o,pre.length<=j->ops[j]?=some o->dok P g ops (some (p,x)) env0 hp0 outs2 us2 Ls2 j o
 |[],pre,outs,us,Ls,env,hp,hp',h1,h2,h2',h2'',h3,h4,h=>by
  have hs:ops.size=pre.length:=by rw[<- Array.length_toList,h1];simp
  refine⟨outs,us,Ls,by rw[hs];exact⟨h2'',h2'⟩,fun _ _=>⟨rfl,rfl,rfl⟩,h,fun j o hj ho=>?_⟩
  have:=(Array.getElem?_eq_some_iff.1 ho).1;omega
 |o::rest,pre,outs,us,Ls,env,hp,hp',h1,h2,h2',h2'',h3,h4,h=>by
  have ho:ops[pre.length]?=some o:=by
   rw[<- Array.getElem?_toList,h1,List.getElem?_append_right (Nat.le_refl _)];simp
  have hlen:(pre++[o]).length=pre.length+1:=by simp
  rcases h with⟨hd,h⟩|h
  ·obtain⟨henv,hhp⟩:=zic (hp:=hp) .bad [] h1 h2 h2' h3 h4
   obtain⟨outs2,us2,Ls2,a1,a2,a4,a5⟩:=zkc (p:=p) (env0:=env0) (hp0:=hp0) (x:=x) rest (pre++[o]) (outs++[.bad]) (us++[[]]) (Ls++[lg0]) _ _ (by simp;omega) (by simp[h1]) (by simp[h2]) (by simp[h2']) (by simp[h2'']) henv hhp (by rw[hlen];exact h)
   rw[hlen]at a2 a5
   refine⟨outs2,us2,Ls2,a1,fun j hj=>?_,a4,fun j o' hj ho'=>?_⟩
   ·obtain⟨b1,b2,b3⟩:=a2 j (by omega)
    exact⟨b1.trans (zbI (by omega)),b2.trans (zbI (by omega)),b3.trans (zbI (by omega))⟩
   ·rcases Nat.lt_or_ge pre.length j with hlt|hge
    ·exact a5 j o' (by omega) ho'
    ·have:j=pre.length:=by omega
     subst this
     rw[ho]at ho';cases ho'
     obtain⟨e1,e2,e3,e4,e5⟩:=zny h1 h2 h2' h2'' h3 h4 a2
     exact⟨by rw[e3,e2];rfl,.inr ⟨p,x,rfl,.inl ⟨hd,by omega⟩⟩⟩
  ·obtain⟨out,u,L,hK,hu,hs⟩:=ziS h
   obtain⟨henv,hhp⟩:=zic (hp:=hp) out u h1 h2 h2' h3 h4
   obtain⟨outs2,us2,Ls2,a1,a2,a4,a5⟩:=zkc (p:=p) (env0:=env0) (hp0:=hp0) (x:=x) rest (pre++[o]) (outs++[out]) (us++[u]) (Ls++[L]) _ _ (by simp;omega) (by simp[h1]) (by simp[h2]) (by simp[h2']) (by simp[h2'']) henv hhp (by rw[hlen];exact hK)
   rw[hlen]at a2 a5
   refine⟨outs2,us2,Ls2,a1,fun j hj=>?_,a4,fun j o' hj ho'=>?_⟩
   ·obtain⟨b1,b2,b3⟩:=a2 j (by omega)
    exact⟨b1.trans (zbI (by omega)),b2.trans (zbI (by omega)),b3.trans (zbI (by omega))⟩
   ·rcases Nat.lt_or_ge pre.length j with hlt|hge
    ·exact a5 j o' (by omega) ho'
    ·have:j=pre.length:=by omega
     subst this
     rw[ho]at ho';cases ho'
     obtain⟨e1,e2,e3,e4,e5⟩:=zny h1 h2 h2' h2'' h3 h4 a2
     refine⟨by rw[e3,e2,e5];exact hu,.inl ⟨by rw[e1,e2,e3,e4,e5];exact hs,fun q y e=>?_⟩⟩
     cases e;omega
theorem znz{env0:Nat->AV}{hp0:Id->Option Blk}{K:(Nat->AV)->(Id->Option Blk)->Prop}{E:AV->Prop}:∀(l pre:List Oper) (outs:List AV) (us:List (List (Id × Option Blk))) (Ls:List Lg) (env:Nat->AV) (hp:Id->Option Blk),
  ops.toList=pre++l->outs.length=pre.length->us.length=pre.length->Ls.length=pre.length ->
  env=zbl ops outs env0 (fun _=>true) pre.length->hp=hpOf us hp0 (fun _=>true) pre.length->dgo P g ops pre.length l env hp Ls K E ->
  ∃ outs2 us2 Ls2 p,(Ls2.length=ops.size /\ us2.length=ops.size) /\ (∀ j,j < pre.length->outs2.getD j .bad=outs.getD j .bad /\ us2.getD j []=us.getD j [] /\ Ls2.getD j lg0=Ls.getD j lg0) /\
   (p=none->K (zbl ops outs2 env0 (fun _=>true) ops.size) (hpOf us2 hp0 (fun _=>true) ops.size)) /\ (∀ q x,p=some (q,x)->pre.length<=q /\ q < ops.size /\ E x) /\ cfs ops 0 Ls2 /\
   ∀ j o,pre.length<=j->ops[j]?=some o->dok P g ops p env0 hp0 outs2 us2 Ls2 j o
 |[],pre,outs,us,Ls,env,hp,h1,h2,h2',h2'',h3,h4,h=>by
  have hs:ops.size=pre.length:=by rw[<- Array.length_toList,h1];simp
  refine⟨outs,us,Ls,none,by rw[hs];exact⟨h2'',h2'⟩,fun _ _=>⟨rfl,rfl,rfl⟩,fun _=>?_,fun q x e=>(by cases e),h.1,fun j o hj ho=>?_⟩
  ·rw[hs,<- h3,<- h4];exact h.2
  ·have:=(Array.getElem?_eq_some_iff.1 ho).1;omega
 |o::rest,pre,outs,us,Ls,env,hp,h1,h2,h2',h2'',h3,h4,h=>by
  have ho:ops[pre.length]?=some o:=by
   rw[<- Array.getElem?_toList,h1,List.getElem?_append_right (Nat.le_refl _)];simp
  have hsz:pre.length < ops.size:=(Array.getElem?_eq_some_iff.1 ho).1
  have hlen:(pre++[o]).length=pre.length+1:=by simp
  rcases zls h with h |⟨hg,x,u,⟨hE,h⟩,hf⟩
  ·obtain⟨out,u,L,hK,hu,hs⟩:=ziS h
   obtain⟨henv,hhp⟩:=zic (hp:=hp) out u h1 h2 h2' h3 h4
   obtain⟨outs2,us2,Ls2,p,a1,a2,a3,a3',a4,a5⟩:=znz (env0:=env0) (hp0:=hp0) rest (pre++[o]) (outs++[out]) (us++[u]) (Ls++[L]) _ _ (by simp[h1]) (by simp[h2]) (by simp[h2']) (by simp[h2'']) henv hhp (by rw[hlen];exact hK)
   rw[hlen]at a2 a5 a3'
   refine⟨outs2,us2,Ls2,p,a1,fun j hj=>?_,a3,fun q x e=>?_,a4,fun j o' hj ho'=>?_⟩
   ·obtain⟨b1,b2,b3⟩:=a2 j (by omega)
    exact⟨b1.trans (zbI (by omega)),b2.trans (zbI (by omega)),b3.trans (zbI (by omega))⟩
   ·obtain⟨c1,c2⟩:=a3' q x e;exact⟨by omega,c2⟩
   ·rcases Nat.lt_or_ge pre.length j with hlt|hge
    ·exact a5 j o' (by omega) ho'
    ·have:j=pre.length:=by omega
     subst this
     rw[ho]at ho';cases ho'
     obtain⟨e1,e2,e3,e4,e5⟩:=zny h1 h2 h2' h2'' h3 h4 a2
     refine⟨by rw[e3,e2,e5];exact hu,.inl ⟨by rw[e1,e2,e3,e4,e5];exact hs,fun q y e=>?_⟩⟩
     have:=(a3' q y e).1;omega
  ·obtain⟨henv,hhp⟩:=zic (hp:=hp) .bad [] h1 h2 h2' h3 h4
   obtain⟨outs2,us2,Ls2,a1,a2,a4,a5⟩:=zkc (p:=pre.length) (env0:=env0) (hp0:=hp0) (x:=x) rest (pre++[o]) (outs++[.bad]) (us++[[]]) (Ls++[lgP o.op env u]) _ _ (by rw[hlen];exact Nat.lt_succ_self _) (by simp[h1]) (by simp[h2]) (by simp[h2']) (by simp[h2'']) henv hhp (by rw[hlen];exact h)
   rw[hlen]at a2 a5
   refine⟨outs2,us2,Ls2,some (pre.length,x),a1,fun j hj=>?_,(fun e=>by cases e),fun q y e=>?_,a4,fun j o' hj ho'=>?_⟩
   ·obtain⟨b1,b2,b3⟩:=a2 j (by omega)
    exact⟨b1.trans (zbI (by omega)),b2.trans (zbI (by omega)),b3.trans (zbI (by omega))⟩
   ·cases e;exact⟨Nat.le_refl _,hsz,hE⟩
   ·rcases Nat.lt_or_ge pre.length j with hlt|hge
    ·exact a5 j o' (by omega) ho'
    ·have:j=pre.length:=by omega
     subst this
     rw[ho]at ho';cases ho'
     obtain⟨e1,e2,e3,e4,e5⟩:=zny h1 h2 h2' h2'' h3 h4 a2
     refine⟨by rw[e3,e2];rfl,.inr ⟨_,x,rfl,.inr ⟨rfl,hg,u,by rw[e3,e4],by rw[e4,e5];exact hf⟩⟩⟩
theorem zlB{i:Nat}{e:Lg}:∀ {l:List Lg} {j:Nat},cfs1 ops i e j l->∀ k,k < l.length->cf (ordB ops i (j+k)) e (l.getD k lg0)
 |f::r,j,h,0,_=>h.1
 |f::r,j,h,k+1,hk=>by
  have:=zlB h.2 k (by simpa using hk)
  rw[show j+1+k=j+(k+1) by omega]at this
  exact this
theorem znD:∀ {l:List Lg} {i:Nat},cfs ops i l->∀ a b,a < b->b < l.length->cf (ordB ops (i+a) (i+b)) (l.getD a lg0) (l.getD b lg0)
 |e::r,i,h,0,b+1,_,hb=>by
  have:=zlB h.1 b (by simpa using hb)
  rw[show i+1+b=i+(b+1) by omega]at this
  exact this
 |e::r,i,h,a+1,b+1,hab,hb=>by
  have:=znD h.2 a b (by omega) (by simpa using hb)
  rw[show i+1+a=i+(a+1) by omega,show i+1+b=i+(b+1) by omega]at this
  exact this
end
end Go.Hw
end
section
namespace Go.Hw
variable [Globals]
open Go.RowKit (Below)
section
variable {P:Program} {g:Nat} {ops:Array Oper}
theorem J.drew{C:Cx}{st:St}{a:Act}{w:World}{m:Mem}(h:J C st a w m)(n:Nat):J C st a { w with drawn:=n } m:=by
 have E:Ext w m C.bad0 { w with drawn:=n } m C.bad0:=⟨⟨fun x u hx hu=>⟨hx,hu⟩,fun b es n hx hu=>⟨hx,hu⟩⟩,fun i=>.inr (.inr rfl),fun i q base n _ _ hs=>Shp.heap rfl hs⟩
 exact⟨h.size,⟨h.ext.defers,h.ext.nodup,h.ext.marks,h.ext.perm,h.ext.outb,h.ext.loop,h.ext.seq,h.ext.fore,h.ext.also,h.ext.pin⟩,h.os,h.tape,h.output,h.grown,h.kept,h.protlt,h.badlt,
  ⟨h.mem.lt,h.mem.inj,h.mem.sep,h.mem.hnd,h.mem.hdj⟩,fun s=>E.av (h.env s),fun i b hi=>⟨(h.hp i b hi).1,E.blk rfl (fun _=>rfl) (fun q base _=>rfl) (fun j q _=>rfl) (h.hp i b hi).2⟩,h.gen,h.fore,h.arg,
  fun k q base n hx hf hk hs=>Shp.heap rfl (h.argS k q base n hx hf hk hs),fun q cs hq=>E.av (h.glob q cs hq)⟩
variable {outs:List AV} {env0:Nat->AV} {us:List (List (Id × Option Blk))} {hp0:Id->Option Blk} {Ls:List Lg} {st:St}
theorem zp3{C:Cx}{Q:Exit->Act->World->Prop}{p:Option (Nat × AV)}(hD:DChk ops)(hL:Prs ops us hp0 Ls)(hd:∀ o ∈ ops.toList,zgG C o.dst)(hg:g<=st.gen)
  (hstep:∀ j o,ops[j]?=some o->dok P g ops p env0 hp0 outs us Ls j o) (hp:∀ q x,p=some (q,x)->q < ops.size)
  (hpan:∀ q x,p=some (q,x)->∀ st' v a w m,J C st' a w m->AVRep w m C.bad0 v x->Q (.panic [⟨v,false,false⟩]) a w)
  (hfin:p=none->∀ a w m,J C { st with env:=zbl ops outs env0 (fun _=>true) ops.size,hp:=hpOf us hp0 (fun _=>true) ops.size } a w m->Q .normal a w) :
  ∀(fuel:Nat) (listed:Array Bool) (a:Act) (w:World) (m:Mem),listed.size=ops.size->(∀ q x,p=some (q,x)->listed.getD q false=false)->Closed ops (fun j=>listed.getD j false)->unl ops.size (fun j=>listed.getD j false)<=fuel ->
   J C { st with env:=zbl ops outs env0 (fun j=>listed.getD j false) ops.size,hp:=hpOf us hp0 (fun j=>listed.getD j false) ops.size } a w m ->
   (∀ j,j < ops.size->listed.getD j false=false->∀ k,m.ρ (.o g j k)=.un)->wpAny P .any ops Q fuel listed a w:=by
 intro fuel
 have hall:∀(fuel:Nat) (listed:Array Bool) a w m,listed.size=ops.size->(∀ q x,p=some (q,x)->listed.getD q false=false)->(∀ i,i < ops.size->listed.getD i false=true) ->
   J C { st with env:=zbl ops outs env0 (fun j=>listed.getD j false) ops.size,hp:=hpOf us hp0 (fun j=>listed.getD j false) ops.size } a w m->wpAny P .any ops Q fuel listed a w:=by
  intro fuel listed a w m hsz hpl hal hJ
  have hp0:p=none:=by
   cases hp':p with
   |none=>rfl
   |some qx=>obtain⟨q,x⟩:=qx;have h1:=hpl q x hp';rw[hal q (hp q x hp')]at h1;cases h1
  rw[zeQ (outs':=outs) (S':=fun _=>true) ops.size (fun j hj=>⟨rfl,hal j hj⟩),zfD (us':=us) (S':=fun _=>true) ops.size (fun j hj=>⟨rfl,hal j hj⟩)]at hJ
  refine wpAny_done' (fun k hk=>?_) (hfin hp0 a w m hJ) fuel
  have:=hal k hk
  rw[Array.getD_eq_getD_getElem?,Array.getElem?_eq_getElem (by omega)]at this ⊢;simpa using this
 induction fuel with
 |zero=>
  intro listed a w m hsz hpl hcl hu hJ hfr
  refine hall 0 listed a w m hsz hpl (fun i hi=>?_) hJ
  cases hl:listed.getD i false with
  |true=>rfl
  |false=>
   have:i ∈ (List.range ops.size).filter fun j=>!listed.getD j false:=by rw[List.mem_filter];exact⟨List.mem_range.2 (by omega),by rw[hl];rfl⟩
   have:0 < unl ops.size (fun j=>listed.getD j false):=List.length_pos_of_mem this
   omega
 |succ fuel ih=>
  intro listed a w m hsz hpl hcl hu hJ hfr
  by_cases hdone:∀ i,i < ops.size->listed.getD i false=true
  ·exact hall (fuel+1) listed a w m hsz hpl hdone hJ
  refine⟨fun hr=>?_,fun i hi=>?_⟩
  ·exact(hdone fun i hi=>ready_nil hsz hD hr i (by omega)).elim
  obtain⟨o,ho,hi0,hready⟩:=zhb.1 hi
  have hin:i < ops.size:=(Array.getElem?_eq_some_iff.1 ho).1
  have hi1:listed.getD i false=false:=by
   rw[Array.getD_eq_getD_getElem?,Array.getElem?_eq_getElem (by omega)]at hi0 ⊢;simpa using hi0
  have hset:∀ j,(listed.setIfInBounds i true).getD j false=addS (fun j=>listed.getD j false) i j:=by
   intro j
   simp only[Array.getD_eq_getD_getElem?,Array.getElem?_setIfInBounds,addS]
   by_cases h:i=j
   ·subst h;simp[hsz,hin]
   ·rw[if_neg h]
    have:decide (j=i)=false:=by simp;omega
    simp[this]
  have hsetf:(fun j=>(listed.setIfInBounds i true).getD j false)=addS (fun j=>listed.getD j false) i:=funext hset
  have hsz':(listed.setIfInBounds i true).size=ops.size:=by simp[hsz]
  have hmem:o ∈ ops.toList:=by
   have:=Array.mem_of_getElem? ho
   simpa using this
  simp only[wpOp,ho]
  have hag:=zmI (outs:=outs) (env0:=env0) hD hcl ho hi1 hready ops.size (Nat.le_refl _) hin
  have hadd:=zpY (outs:=outs) (env0:=env0) hD hcl ho hi1 ops.size (Nat.le_refl _) hin
  have hhadd:=zrz hD hL hcl ho hi1 hready ops.size (Nat.le_refl _) hin
  have hcl':Closed ops (addS (fun j=>listed.getD j false) i):=by
   intro k ok hok hk e he hb
   simp only[addS,Bool.or_eq_true,decide_eq_true_eq]at hk ⊢
   rcases hk with rfl|hk
   ·rw[ho]at hok;cases hok
    exact .inr (hready e he hb)
   ·exact .inr (hcl k ok hok hk e he hb)
  have hu':unl ops.size (fun j=>(listed.setIfInBounds i true).getD j false)<=fuel:=by
   rw[hsetf]
   have:=zsH (S:=fun j=>listed.getD j false) hin hi1
   omega
  have onward:(∀ q x,p=some (q,x)->i ≠ q)->∀ a' w' m',J C { st with env:=putE (zbl ops outs env0 (fun j=>listed.getD j false) ops.size) o.dst (outs.getD i .bad),hp:=hput (hpOf us hp0 (fun j=>listed.getD j false) ops.size) (us.getD i []) } a' w' m' ->
    Stp m m' g i->wpAny P .any ops Q fuel (listed.setIfInBounds i true) a' w':=by
   intro hiq a' w' m' hJ' hst
   refine ih _ a' w' m' hsz' (fun q x e=>by rw[hset];simp only[addS,Bool.or_eq_false_iff,decide_eq_false_iff_not];exact⟨fun e'=>hiq q x e e'.symm,hpl q x e⟩) (by rw[hsetf];exact hcl') hu' (by rw[hsetf,hadd,hhadd];exact hJ') (fun j hj hjl k=>?_)
   rw[hset]at hjl
   simp only[addS,Bool.or_eq_false_iff,decide_eq_false_iff_not]at hjl
   exact hst _ (hfr j hj hjl.2 k) fun k' e=>hjl.1 (by cases e;rfl)
  have hev:∀ x ∈ o.op.operands,evAV (zbl ops outs env0 (fun _=>true) i) x=evAV (zbl ops outs env0 (fun j=>listed.getD j false) ops.size) x:=fun x hx=>(zof hag x hx).symm
  have run:(∀ q x,p=some (q,x)->i ≠ q)->fop P g i o.op (zbl ops outs env0 (fun _=>true) i) (hpOf us hp0 (fun _=>true) i) (fun v u=>(v=outs.getD i .bad /\ u=us.getD i []) /\ lgOf P o.op (zbl ops outs env0 (fun _=>true) i) (hpOf us hp0 (fun _=>true) i) v u=Ls.getD i lg0) (fun _ _=>False) ->
    o.wp P a w (wpAny P .any ops Q fuel (listed.setIfInBounds i true)) Q:=by
   intro hiq hf
   obtain⟨v,u,⟨⟨rfl,hus⟩,hlg⟩,hf⟩:=zln hf
   rw[hus]at hf hlg
   have h1:=zpP hev hf
   have h2:=zwy (hp':=hpOf us hp0 (fun j=>listed.getD j false) ops.size) (fun b hb=>by
    rw[<- zoF hev]at hb
    have:=zmF hD hL hcl ho hi1 hready (b:=b) (by rw[<- hlg];exact hb) ops.size (Nat.le_refl _) hin
    rcases this with h|h
    ·exact .inl h
    ·right
     rw[<- hlg]at h
     simp only[lgOf]at h
     rw[zoJ hev]at h
     exact h) (fun b hb=>zwl hD hL hcl ho hi1 hready hb ops.size (Nat.le_refl _) hin) h1
   refine zgB (st:={ st with env:=zbl ops outs env0 (fun j=>listed.getD j false) ops.size,hp:=hpOf us hp0 (fun j=>listed.getD j false) ops.size }) hJ hg (hfr i hin hi1) h2 ?_ (fun x u v w' m' hx=>hx.elim)
   rintro out u' v w' m' ⟨rfl,rfl⟩ hJ' hv hst
   exact onward hiq _ w' m' (hJ'.put (hd o hmem) hv) hst
  rcases(hstep i o ho).2 with⟨hs,hiq⟩ |⟨q,x,hq,⟨hord,_⟩ |⟨hiq,hgd,u,hlg,hf⟩⟩
  case inr.inl=>
   have:=zfQ hcl ho hready (zg4 hord)
   rw[hpl q x hq]at this;cases this
  case inr.inr=>
   subst hiq
   rw[if_pos (zcy hgd)]
   refine .inl ?_
   have h1:=zpP hev hf
   have h2:=ztw (hp':=hpOf us hp0 (fun j=>listed.getD j false) ops.size) (fun b hb=>by
    have:=zmF hD hL hcl ho hi1 hready (b:=b) (by rw[hlg,lgP,List.mem_append];left;rw[zoF hev];exact hb) ops.size (Nat.le_refl _) hin
    rcases this with h|h
    ·exact h
    ·rw[hlg]at h;exact h.elim) (fun b hb=>by
    have:=zmF hD hL hcl ho hi1 hready (b:=b) (by rw[hlg,lgP,List.mem_append];right;obtain⟨v,hv⟩:=hb;exact List.mem_map.2 ⟨_,hv,rfl⟩) ops.size (Nat.le_refl _) hin
    rcases this with h|h
    ·exact h
    ·rw[hlg]at h;exact h.elim) h1
   refine zgB (st:={ st with env:=zbl ops outs env0 (fun j=>listed.getD j false) ops.size,hp:=hpOf us hp0 (fun j=>listed.getD j false) ops.size }) hJ hg (hfr i hin hi1) h2 (fun x u v w' m' hx=>hx.elim) ?_
   rintro x' u' v w' m' ⟨rfl,_⟩ hJ' hv
   exact hpan _ _ hq _ v a w' m' hJ' hv
  unfold zlt at hs
  split at hs
  ·rename_i hgd
   rw[if_pos (zcy hgd)]
   exact .inl (run hiq hs)
  ·rename_i j want hgd
   rw[<- zlm hag hgd]at hs
   unfold dsel at hs
   split at hs
   ·rename_i hb
    have hy:=zga (st:={ st with env:=zbl ops outs env0 (fun j=>listed.getD j false) ops.size,hp:=hpOf us hp0 (fun j=>listed.getD j false) ops.size }) hJ hb
    rw[if_pos (by simp only[Region.wanted,hgd];exact hy)]
    exact .inl (run hiq hs)
   ·rename_i hb
    have hy:=zga (st:={ st with env:=zbl ops outs env0 (fun j=>listed.getD j false) ops.size,hp:=hpOf us hp0 (fun j=>listed.getD j false) ops.size }) hJ hb
    rw[if_neg (by simp only[Region.wanted,hgd];rw[hy];simp)]
    obtain⟨_,_,⟨hx1,hx2⟩,_⟩:=hs
    have h1:=hJ.put (hd o hmem) (v:=undef) (x:=uV) (.tup _ _ rfl (by simp))
    refine onward hiq _ w m ?_ (fun x hx _=>hx)
    rw[<- hx1,<- hx2]
    exact h1
   ·exact hs.elim
theorem zoi{C:Cx}{F:Fence}{n:Nat}{K:St->Prop}{Q:Exit->Act->World->Prop}{a:Act}{w:World}{m:Mem}(hF:zd0 F)(hm:P.follows .mixedOrders=true){id:Nat}(hchk:dchk ops=true){E:AV->Prop}(h:dgo P g ops 0 ops.toList st.env st.hp [] (fun env hp=>K { st with env:=env,hp:=hp }) E)
  (hJ:J C st a w m) (hg:g<=st.gen) (hun:∀ j k,m.ρ (.o g j k)=.un) (hd':∀ o ∈ ops.toList,zgG C o.dst /\ zeg o=true) (hq:¬ LetsOut Q)
  (hK:∀ st' a' w' m',K st'->J C st' a' w' m'->Q .normal a' w') (hE:∀ x,E x->∀ st' v a' w' m',J C st' a' w' m'->AVRep w' m' C.bad0 v x->Q (.panic [⟨v,false,false⟩]) a' w'):(Code.region id ops true).wpIn F n P Q a w:=by
 have hd:∀ o ∈ ops.toList,zgG C o.dst:=fun o ho=>(hd' o ho).1
 have hD:=zp4 hchk
 refine wpIn_region_any hm (zbX hF hq (fun o ho=>(hd' o ho).2) _ _ _ _ ?_)
 have hJ1:=hJ.drew (w.drawn+1)
 have h0:∀ j,(Array.replicate ops.size false).getD j false=false:=by
  intro j;rw[Array.getD_eq_getD_getElem?,Array.getElem?_replicate];split<;>rfl
 have hcl:Closed ops (fun j=>(Array.replicate ops.size false).getD j false):=by
  intro i o _ hi;simp only[h0]at hi;cases hi
 have hu:unl ops.size (fun j=>(Array.replicate ops.size false).getD j false)<=ops.size:=by
  unfold unl
  exact Nat.le_trans (List.length_filter_le _ _) (by simp)
 have henv:∀ outs k,zbl ops outs st.env (fun j=>(Array.replicate ops.size false).getD j false) k=st.env:=by
  intro outs k
  induction k with
  |zero=>rfl
  |succ k ih=>
   simp only[zbl]
   rw[if_neg (by simp only[h0];simp)]
   exact ih
 have hhp:∀ us k,hpOf us st.hp (fun j=>(Array.replicate ops.size false).getD j false) k=st.hp:=by
  intro us k
  induction k with
  |zero=>rfl
  |succ k ih=>
   simp only[hpOf]
   rw[if_neg (by simp only[h0];simp)]
   exact ih
 obtain⟨outs,us,Ls,p,⟨hlen,hlen'⟩,_,hk,hpp,hcf,hst⟩:=znz (env0:=st.env) (hp0:=st.hp) ops.toList [] [] [] [] _ _ (by simp) rfl rfl rfl rfl rfl h
 simp only[List.length_nil]at hst
 have hL:Prs ops us st.hp Ls:=by
  refine⟨fun j=>?_,fun i j hij hj=>?_⟩
  ·rcases Nat.lt_or_ge j ops.size with hlt|hge
   ·exact(hst j ops[j] (Nat.zero_le _) (Array.getElem?_eq_getElem hlt)).1
   ·rw[List.getD_eq_getElem?_getD,List.getElem?_eq_none (by omega),List.getD_eq_getElem?_getD,List.getElem?_eq_none (by omega)];rfl
  ·have:=znD hcf i j hij (by omega)
   simpa using this
 exact zp3 (st:=st) hD hL hd hg (fun j o ho=>hst j o (Nat.zero_le _) ho) (fun q x e=>(hpp q x e).2.1) (fun q x e st' v a w m hJ' hv=>hE x (hpp q x e).2.2 st' v a w m hJ' hv) (fun e a w m hJ'=>hK _ a w m (hk e) hJ') ops.size _ a _ m (by simp) (fun q x _=>h0 q) hcl hu (by rw[henv,hhp];exact hJ1) (fun j _ _ k=>hun j k)
def oops (P:Program)(g:Nat)(ops:Array Oper)(K:St->Prop):Nat->Array Bool->St->Prop
 |0,listed,st=>Region.ready .any ops listed=[] /\ K st
 |fuel+1,listed,st=>(Region.ready .any ops listed=[]->K st) /\ ∀ i ∈ Region.ready .any ops listed,match ops[i]? with
  |some o=>o.guard=none /\ listed.getD i false=false /\ fop P g i o.op st.env st.hp (fun v u=>oops P g ops K fuel (listed.setIfInBounds i true) ((st.app u).put o.dst v)) (fun _ _=>False)
  |none=>False
theorem zne{C:Cx}{Q:Exit->Act->World->Prop}{K:St->Prop}(hd:∀ o ∈ ops.toList,zgG C o.dst)(hK:∀ st' a' w' m',K st'->J C st' a' w' m'->Q .normal a' w') :
  ∀(fuel:Nat) (listed:Array Bool) (st:St) (a:Act) (w:World) (m:Mem),listed.size=ops.size->g<=st.gen->oops P g ops K fuel listed st->J C st a w m ->
   (∀ j,j < ops.size->listed.getD j false=false->∀ k,m.ρ (.o g j k)=.un)->wpAny P .any ops Q fuel listed a w
 |0,listed,st,a,w,m,_,_,h,hJ,_=>⟨h.1,hK _ _ _ _ h.2 hJ⟩
 |fuel+1,listed,st,a,w,m,hsz,hg,h,hJ,hfr=>by
  refine⟨fun hr=>hK _ _ _ _ (h.1 hr) hJ,fun i hi=>?_⟩
  have h1:=h.2 i hi
  split at h1
  ·rename_i o ho
   obtain⟨hgd,hl,hf⟩:=h1
   have hin:i < ops.size:=(Array.getElem?_eq_some_iff.1 ho).1
   have hmem:o ∈ ops.toList:=by
    have:=Array.mem_of_getElem? ho
    simpa using this
   simp only[wpOp,ho]
   rw[if_pos (zcy hgd)]
   refine .inl (zgB hJ hg (hfr i hin hl) hf (fun out u v w' m' hk hJ' hv hst=>?_) (fun x u v w' m' hx=>hx.elim))
   refine zne hd hK fuel _ ((st.app u).put o.dst out) _ w' m' (by simp[hsz]) hg hk (hJ'.put (hd o hmem) hv) fun j hj hjl k=>?_
   have hij:j ≠ i:=by
    rintro rfl
    simp[Array.getD_eq_getD_getElem?,Array.getElem?_setIfInBounds,hsz,hin]at hjl
   refine hst _ (hfr j hj ?_ k) fun k' e=>hij (by cases e;rfl)
   simpa [Array.getD_eq_getD_getElem?,Array.getElem?_setIfInBounds,Ne.symm hij]using hjl
  ·exact h1.elim
theorem zn8{C:Cx}{F:Fence}{n:Nat}{K:St->Prop}{Q:Exit->Act->World->Prop}{st:St}{a:Act}{w:World}{m:Mem}(hF:zd0 F)(hm:P.follows .mixedOrders=true){id:Nat}(h:oops P g ops K ops.size (Array.replicate ops.size false) st)
  (hJ:J C st a w m) (hg:g<=st.gen) (hun:∀ j k,m.ρ (.o g j k)=.un) (hd':∀ o ∈ ops.toList,zgG C o.dst /\ zeg o=true) (hq:¬ LetsOut Q)
  (hK:∀ st' a' w' m',K st'->J C st' a' w' m'->Q .normal a' w'):(Code.region id ops true).wpIn F n P Q a w:=
 wpIn_region_any hm (zbX hF hq (fun o ho=>(hd' o ho).2) _ _ _ _ (zne (fun o ho=>(hd' o ho).1) hK _ _ st a _ m (by simp) hg h (hJ.drew (w.drawn+1)) fun j _ _ k=>hun j k))
end
end Go.Hw
end
section
namespace Go.Hw
variable [Globals]
open Go.RowKit (Below)
inductive AX where
 |normal
 |exit (id:Nat)
 |goto (l:Nat)
 |ret
 |pan (x:AV)
def ExR (w:World)(m:Mem)(bad0:Nat->Prop):AX->Exit->Prop
 |.normal,e=>e=.normal
 |.exit i,e=>e=.exit i
 |.goto l,e=>e=.goto l
 |.ret,e=>e=.ret
 |.pan x,e=>∃ v,e=.panic [⟨v,false,false⟩] /\ AVRep w m bad0 v x
def lift (C:Cx)(Q:AX->St->Prop):Exit->Act->World->Prop:=fun e a w=>∃ C' st m x,C.le C' /\ Q x st /\ J C' st a w m /\ ExR w m C'.bad0 x e
theorem znm(C:Cx)(Q:AX->St->Prop):¬ LetsOut (lift C Q):=by
 rintro⟨a,w,C',st,m,x,_,_,_,h⟩
 cases x with
 |pan x=>obtain⟨v,h,_⟩:=h;cases h
 |_=>cases h
theorem zpF{C C':Cx}{Q:AX->St->Prop}(hle:C.le C'){e:Exit}{a:Act}{w:World}(h:lift C' Q e a w):lift C Q e a w:=by
 obtain⟨C'',st,m,x,h2,h3⟩:=h
 exact⟨C'',st,m,x,hle.trans h2,h3⟩
theorem zf0{C:Cx}{Q:AX->St->Prop}{x:AX}{st:St}{a:Act}{w:World}{m:Mem}{e:Exit}(hq:Q x st)(hJ:J C st a w m)(hx:ExR w m C.bad0 x e):lift C Q e a w:=⟨C,st,m,x,Cx.le.refl C,hq,hJ,hx⟩
def zf9(next:St->Prop)(Q:AX->St->Prop):AX->St->Prop
 |.normal,st=>next st
 |e,st=>Q e st
def zeW(id:Nat)(Q:AX->St->Prop):AX->St->Prop
 |.exit id',st=>if id'=id then Q .normal st else Q (.exit id') st
 |e,st=>Q e st
def ze7(Q:AX->St->Prop):AX->St->Prop
 |.goto _,_=>False
 |e,st=>Q e st
def AC.dropL:AC->AC
 |.ref b off=>if isL b then .bad else .ref b off
 |.sl b off sz n=>if isL b then .bad else .sl b off sz n
 |.mp b=>if isL b then .bad else .mp b
 |.fn g caps=>if caps.any (fun c=>match c with|.inl b=>isL b|_=>false) then .bad else .fn g caps
 |x=>x
def St.baseA(st:St)(hp:Id->Option Blk)(gen:Nat)(A:Option Acc):St:={ env:=fun s=>(st.env s).mp AC.dropL,hp:=hp,gen:=gen,acc:=A }
def St.base(st:St)(hp:Id->Option Blk)(gen:Nat):St:={ env:=fun s=>(st.env s).mp AC.dropL,hp:=hp,gen:=gen,acc:=none }
def setPs:List Tmp->List EV->St->St
 |p::ps,x::xs,st=>setPs ps xs (st.put (some p) x.av)
 |_,_,st=>st
def zkM(st:St)(I:(Id->Option Blk)->Nat->Option Acc->Prop)(Q:AX->St->Prop):AX->St->Prop
 |.normal,s=>∃ s' A,Gh s s' /\ (A=s'.acc \/ A=none) /\ I s'.hp s'.gen A
 |.ret,s=>∃ s' A,Gh s s' /\ (A=s'.acc \/ A=none) /\ Q .ret (st.baseA s'.hp s'.gen A)
 |.exit id,s=>∃ s' A,Gh s s' /\ (A=s'.acc \/ A=none) /\ Q (.exit id) (st.baseA s'.hp s'.gen A)
 |_,_=>False
def zfJ:AV->Option (Nat × List CV)
 |.cell (.p (.fn gf cs))=>some (gf,cs)
 |.cell (.fn gf caps)=>(go caps).map fun cs=>(gf,cs)
 |_=>none
where
 go:List (Id ⊕ CV)->Option (List CV)
  |[]=>some []
  |.inr c::r=>(go r).map (c::·)
  |.inl _::_=>none
def awp (P:Program):Code->(AX->St->Prop)->St->Prop
 |.skip,Q,st=>Q .normal st
 |.region rid ops false,Q,st=>∃ st',Gh st st' /\ aops P (st'.gen+1) ops 0 ops.toList { st' with gen:=st'.gen+1 } (Q .normal) (fun x=>Q (.pan x))
 |.region rid ops true,Q,st=>∃ st',Gh st st' /\ ((dgo P (st'.gen+1) ops 0 ops.toList st'.env st'.hp [] (fun env hp=>Q .normal { st' with env:=env,hp:=hp,gen:=st'.gen+1 }) (fun x=>∀ s,Q (.pan x) s)) \/
   oops P (st'.gen+1) ops (Q .normal) ops.size (Array.replicate ops.size false) { st' with gen:=st'.gen+1 })
 |.seq a b,Q,st=>awp P a (zf9 (awp P b Q) Q) st
 |.cond c x y,Q,st=>match evAV st.env c with
  |.cell (.p (.c (.bool t)))=>(t=true->awp P x Q st) /\ (t=false->awp P y Q st)
  |_=>False
 |.block id b,Q,st=>awp P b (zeW id Q) st
 |.loop b,Q,st=>∃(I:St->Prop) (μ:St->Nat) (st':St),Gh st st' /\ I st' /\ ∀ s,I s->awp P b (zf9 (fun s'=>∃ s'',Gh s' s'' /\ I s'' /\ μ s'' < μ s) Q) s
 |.exit id,Q,st=>Q (.exit id) st
 |.ret,Q,st=>Q .ret st
 |.label _,Q,st=>Q .normal st
 |.scope b,Q,st=>awp P b (ze7 Q) st
 |.rangeFunc g ps assign body,Q,st=>∃ st' A0,Gh st st' /\ (A0=st'.acc \/ A0=none) /\ match zfJ (evAV st'.env g) with
  |some (gf,cs)=>∃(xs:List (List EV)) (I:Nat->(Id->Option Blk)->Nat->Option Acc->Prop),zl0 P gf (cs.map fun c=>.cell (.p c)) xs /\ (∀ x ∈ xs,x.length=ps.size) /\ I 0 st'.hp st'.gen A0 /\
    (∀ k x hp gen A,xs[k]?=some x->I k hp gen A->awp P assign (zf9 (awp P body (zkM st' (I (k+1)) Q)) (fun _ _=>False)) (setPs ps.toList x (st'.baseA hp gen A))) /\
    (∀ hp gen A,I xs.length hp gen A->Q .normal (st'.baseA hp gen A))
  |none=>False
 |_,_,_=>False
def zvT(p:Option Nat)(k:Nat):Bool:=match p with|some t=>!(Nat.beq k t)|none=>true
def za6(N:Nat)(p:Option Nat):Code->Bool
 |.region _ ops d=>(!d || dchk ops) && ops.toList.all fun o=>zeg o && match o.dst with|some d=>decide (d < N) && zvT p d|none=>true
 |.seq a b=>za6 N p a && za6 N p b
 |.cond _ x y=>za6 N p x && za6 N p y
 |.block _ b=>za6 N p b
 |.loop b=>za6 N p b
 |.scope b=>za6 N p b
 |.rangeFunc _ ps a b=>p.isNone && za6 N p a && za6 N p b && ps.toList.all fun q=>decide (q < N)
 |_=>true
abbrev codeOk(N:Nat)(c:Code):Bool:=za6 N none c
abbrev Cx.codeOk(C:Cx)(c:Code):Bool:=za6 C.N (C.pin.map (·.1)) c
theorem zeS{C:Cx}{rid:Nat}{ops:Array Oper}{d:Bool}(h:C.codeOk (.region rid ops d)=true):(d=true->dchk ops=true) /\ ∀ o ∈ ops.toList,zgG C o.dst /\ zeg o=true:=by
 simp only[za6,Bool.and_eq_true,decide_eq_true_eq,List.all_eq_true]at h
 refine⟨fun hd=>by have:=h.1;rw[hd]at this;simpa using this,fun o ho=>⟨fun k hk=>?_,(h.2 o ho).1⟩⟩
 have:=(h.2 o ho).2
 rw[hk]at this
 simp only[Bool.and_eq_true,decide_eq_true_eq]at this
 refine⟨this.1,fun v hv=>?_⟩
 have h2:=this.2
 rw[hv]at h2
 simp[zvT]at h2
section
variable {C:Cx} {st:St} {a:Act} {w w':World} {m m':Mem} {bad0 bad0':Nat->Prop}
theorem J.up(h:J C st a w m):J C { st with gen:=st.gen+1 } a w m:=
 ⟨h.size,h.ext.of rfl rfl,h.os,h.tape,h.output,h.grown,h.kept,h.protlt,h.badlt,h.mem,h.env,h.hp,fun g i k hg=>h.gen g i k (by have:st.gen+1 < g:=hg;omega),h.fore,h.arg,h.argS,h.glob⟩
theorem J.withEnv{A:Option Acc}{a':Act}(hJ:J C st a w m)(env:Nat->AV)(hext:JExt C { st with env:=env,acc:=A } a')(hs:a'.tmps.size=C.N)(he:∀ s,AVRep w m C.bad0 (a'.tmps.getD s undef) (env s)) :
  J C { st with env:=env,acc:=A } a' w m:=
 ⟨hs,hext,hJ.os,hJ.tape,hJ.output,hJ.grown,hJ.kept,hJ.protlt,hJ.badlt,hJ.mem,he,hJ.hp,hJ.gen,hJ.fore,hJ.arg,hJ.argS,hJ.glob⟩
def zd9(m:Mem):Id->Stat:=fun x=>if isL x then .un else m.ρ x
theorem J.repin(h:J C st a w m):J { C with fore:=zd9 m,wi:=w } st a w m:=
 ⟨h.size,⟨h.ext.defers,h.ext.nodup,h.ext.marks,h.ext.perm,h.ext.outb,h.ext.loop,h.ext.seq,fun x g base hx=>h.ext.fore x g base (by
  have:m.ρ (.f x)=.at_ g base:=hx
  rw[<- h.fore x];exact this),h.ext.also,h.ext.pin⟩,h.os,h.tape,h.output,h.grown,h.kept,h.protlt,h.badlt,h.mem,h.env,h.hp,h.gen,fun x=>rfl,fun x hx=>.inr (.inr (by
  have hl:isL x=false:=by cases x<;>simp_all [isK,isL]
  simp[zd9,hl])),fun _ _ _ _ _ _ _ hs=>hs,h.glob⟩
theorem zp2(hp:Hx w (Bad m bad0) w' (Bad m' bad0'))(hr:∀ b,isL b=false->m.ρ b=.un \/ m'.ρ b=.dead \/ m'.ρ b=m.ρ b)
  (hs:∀ b g base n,isL b=false->m'.ρ b=.at_ g base->m.ρ b=.at_ g base->Shp w g n->Shp w' g n) {v:Value} {x:AV} (h:AVRep w m bad0 v x):AVRep w' m' bad0' v (x.mp AC.dropL):=by
 let m1:Mem:=⟨fun b=>if isL b then .un else m.ρ b,fun b j=>if isL b then [] else m.hid b j⟩
 have hb:∀ q,Bad m1 (Bad m bad0) q ↔ Bad m bad0 q:=fun q=>by
  refine⟨fun h=>h.elim (fun h=>.inl ?_) id,.inr⟩
  rcases h with⟨i,base,h1,h2⟩ |⟨i,j,h1⟩
  ·simp only[m1]at h2
   split at h2
   ·cases h2
   ·exact .inl ⟨i,base,h1,h2⟩
  ·simp only[m1]at h1
   split at h1
   ·cases h1
   ·exact .inr ⟨i,j,h1⟩
 have e1:∀ {b},isL b=false->m1.ρ b=m.ρ b:=fun h=>by simp[m1,h]
 have px:Hx w (Bad m bad0) w (Bad m1 (Bad m bad0)):=Hx.same fun q h h'=>h ((hb q).1 h')
 have M:Mp w bad0 m (Bad m bad0) m1 AC.dropL false:=by
  refine⟨fun v c _ h=>?_,fun t=>rfl,fun v t hs _ h=>OTR.mono px h fun _ _=>rfl,fun c=>rfl⟩
  cases c with
  |p c=>exact CRep.mono px h
  |z=>exact h
  |ref b off=>
   simp only[AC.dropL]
   split
   ·trivial
   ·rename_i hl;show RefR _ _ _;rw[e1 (by simpa using hl)];exact h
  |sl b off sz n=>
   simp only[AC.dropL]
   split
   ·trivial
   ·rename_i hl;show SlR _ _ _ _ _ _;rw[e1 (by simpa using hl)];exact h
  |mp b=>
   simp only[AC.dropL]
   split
   ·trivial
   ·rename_i hl;show MpR _ _;rw[e1 (by simpa using hl)];exact h
  |ep cells pos=>
   obtain⟨z,raws,hv,hc,hr⟩:=h
   exact⟨z,raws,hv,fun j u hj=>⟨fun hn=>(hc j u hj).1 ((hb _).1 hn),(hc j u hj).2⟩,hr.mono px⟩
  |fn g caps=>
   simp only[AC.dropL]
   split
   ·trivial
   ·rename_i hl
    obtain⟨vs,hv,hn,h1,h2⟩:=h
    refine⟨vs,hv,hn,fun j u b hu hc=>?_,fun j u c hu hc=>CRep.mono px (h2 j u c hu hc)⟩
    rw[e1]
    ·exact h1 j u b hu hc
    ·cases hb:isL b with
     |false=>rfl
     |true=>exact(hl (List.any_eq_true.2 ⟨.inl b,List.mem_of_getElem? hc,hb⟩)).elim
  |own t=>exact h
  |yl l=>exact h
  |bad=>trivial
 have E:Ext w m1 (Bad m bad0) w' m' bad0':=by
  refine⟨⟨fun x u hx hu=>hp.cell x u (fun hn=>hx ((hb _).2 hn)) hu,fun b es n hx hu=>hp.map b es n (fun hn=>hx ((hb _).2 hn)) hu⟩,fun b=>?_,fun b g base n h1 h2 h3=>?_⟩
  ·by_cases hl:isL b=true
   ·exact .inl (by simp[m1,hl])
   ·have hl':isL b=false:=by simpa using hl
    rw[e1 hl'];exact hr b hl'
  ·by_cases hl:isL b=true
   ·simp[m1,hl]at h2
   ·have hl':isL b=false:=by simpa using hl
    rw[e1 hl']at h2;exact hs b g base n hl' h1 h2 h3
 exact E.av (M.av h (fun e=>by cases e))
theorem J.setPs:∀(ps:List Tmp) (xs:List EV) (args:List Value) (st:St) (a:Act),J C st a w m->(∀ p ∈ ps,zgG C (some p))->ps.length=xs.length->args.length=xs.length ->
  (∀(j:Nat) (u:Value) (y:EV),args[j]?=some u->xs[j]?=some y->AVRep w m C.bad0 u y.av) ->
  J C (setPs ps xs st) { a with tmps:=(ps.zip args).foldl (fun t (p,v)=>t.setIfInBounds p v) a.tmps } w m
 |[],[],[],st,a,hJ,_,_,_,_=>hJ
 |p::ps,x::xs,v::args,st,a,hJ,hp,h1,h2,hr=>by
  have h:=hJ.put (d:=some p) (hp p (by simp)) (hr 0 v x rfl rfl)
  have:=J.setPs ps xs args (st.put (some p) x.av) (a.put (some p) v) h (fun q hq=>hp q (by simp[hq])) (by simpa using h1) (by simpa using h2) (fun j u y hu hy=>hr (j+1) u y (by simpa using hu) (by simpa using hy))
  exact this
 |[],x::xs,_,_,_,_,_,h,_,_=>by simp at h
 |p::ps,[],_,_,_,_,_,h,_,_=>by simp at h
 |_,[],v::args,_,_,_,_,_,h,_=>by simp at h
 |_,x::xs,[],_,_,_,_,_,h,_=>by simp at h
end
def zfs(F:Fence)(C:Cx):Prop:=(F=Fence.wide /\ C.loop=none) \/ ∃ l,F=Fence.wide.inRound l /\ C.loop=some l
theorem zfs.wide{F:Fence}{C:Cx}(h:zfs F C):zd0 F:=by rcases h with⟨h,_⟩ |⟨l,h,_⟩;exact .inl h;exact .inr ⟨l,h⟩
theorem zfs.le{F:Fence}{C C':Cx}(h:zfs F C)(hle:C.le C'):zfs F C':=by
 rcases h with⟨h1,h2⟩ |⟨l,h1,h2⟩
 ·exact .inl ⟨h1,hle.loop.trans h2⟩
 ·exact .inr ⟨l,h1,hle.loop.trans h2⟩
end Go.Hw
end
section
namespace Go.Hw
variable [Globals]
open Go.RowKit (Below)
theorem zdK(P:Program):SeqLaw P (fun _ _ _ _ _ _ _=>False):=⟨fun _ _ _ _ _ _ _ _ _ h=>h.elim,fun _ _ _ _ _ _ _ _ h=>h.elim⟩
def rCx (C:Cx)(m0:Mem)(w0:World)(L:Nat)(M:List Nat)(W:World)(Oz Ob:Nat->Prop)(m:Mem):Cx:=
  { prot:=fun b=>b < W.heap.size /\ ¬ Own m b,bad0:=fun b=>(C.bad0 b \/ Ob b) \/ Oz b,w0:=W,N:=C.N,perm:=fun b=>b < W.heap.size /\ ¬ Own m b /\ ¬ Ob b,marks:=[],loop:=some L,out:=Ob,
    fore:=zd9 m0,wi:=w0,seq:=C.seq,also:=fun b=>C.also b \/ b ∈ C.marks \/ b ∈ M \/ b=L \/ Oz b }
structure LoopAt where
 C:Cx
 st:St
 a:Act
 w:World
 m:Mem
 L:Nat
 M:List Nat
 fn:FuncId
 ps:Array Tmp
 assign:Code
 body:Code
 dfr:Nat
 Q:AX->St->Prop
 xs:List (List EV)
 I:Nat->(Id->Option Blk)->Nat->Option Acc->Prop
def LoopAt.record(X:LoopAt)(st:LoopState)(pe:Option Code):Loop:={ state:=st,pending:=pe,fn:=X.fn,tmps:=X.a.tmps,params:=X.ps,assign:=X.assign,body:=X.body,defers:=X.dfr }
def LoopAt.keeps(X:LoopAt)(W:World)(m:Mem):Prop:=∀ b,b < X.w.heap.size->¬ Own X.m b->¬ X.C.out b->¬ Own m b /\ W.heap[b]?=X.w.heap[b]?
abbrev LoopAt.cx(X:LoopAt)(W:World)(Oz Ob:Nat->Prop)(m:Mem):Cx:=rCx X.C X.m X.w X.L X.M W Oz Ob m
def LoopAt.seqOk(X:LoopAt)(A:Option Acc)(W:World)(Oz Ob:Nat->Prop)(m:Mem):Prop:=∀ l xs k v,A=some ⟨l,xs,k,v⟩->X.C.seq l xs k v (fun b=>Own m b \/ X.C.also b \/ b ∈ X.C.marks \/ b ∈ X.M \/ b=X.L \/ Oz b) Ob W
structure RInv (X:LoopAt) (k:Nat) (live:Bool) (Oz Bz:Nat->Prop) (W:World) (hp:Id->Option Blk) (gen:Nat) (m:Mem) (Ob:Nat->Prop) (A:Option Acc):Prop where
 J:J (X.cx W Oz Ob m) (X.st.baseA hp gen A) ⟨X.a.tmps,[]⟩ W m
 seq:X.seqOk A W Oz Ob m
 ob:(∀ b,X.C.out b->Ob b) /\ ∀ b,Ob b->X.C.out b \/ X.w.heap.size<=b
 keeps:X.keeps W m
 own:∀ b,Own m b->Bz b
 badB:∀ b,X.C.bad0 b \/ Ob b->Bz b
 L:Bz X.L /\ ¬ Oz X.L
 oz:∀ b,Oz b->X.w.heap.size<=b
 M:∀ D ∈ X.M,D < W.heap.size /\ ¬ Own m D /\ ¬ Oz D /\ W.heap[D]?=some (.deferred (some []))
 mout:∀ D ∈ X.M,¬ Ob D
 size:X.w.heap.size<=W.heap.size
 os:W.os=X.w.os
 tape:W.tape=X.w.tape
 output:W.output=X.w.output
 on:live=true->X.I k hp gen A /\ W.heap[X.L]?=some (.loop (X.record .ready none))
 off:live=false->∃ c,W.heap[X.L]?=some (.loop (X.record .done (some c))) /\ ((c=.ret /\ X.Q .ret (X.st.baseA hp gen A)) \/ ∃ id,c=.exit id /\ X.Q (.exit id) (X.st.baseA hp gen A))
structure LoopOk (X:LoopAt):Prop where
 J:J X.C X.st X.a X.w X.m
 L:X.w.heap.size<=X.L
 M:∀ D ∈ X.M,X.w.heap.size<=D /\ D ≠ X.L
 nodup:X.M.Nodup
theorem zd6{C:Cx}{st:St}{a:Act}{w:World}{m:Mem}(h:J C st a w m){b:Nat}(ho:Own m b):¬ C.prot b /\ b < w.heap.size /\ ¬ C.bad0 b:=let⟨h1,h2,h3⟩:=h.mem.lt b ho;⟨h2,h1,h3⟩
theorem J.blank{C:Cx}{st:St}{a:Act}{w:World}{m:Mem}(h:J C st a w m):J C { st with env:=fun _=>.bad,acc:=none } a w m:=
 h.withEnv _ (by have:=h.ext;exact⟨this.defers,this.nodup,this.marks,this.perm,this.outb,this.loop,fun l xs k v e=>by simp at e,this.fore,this.also,this.pin⟩) h.size fun s=>.bad _
variable {P0:Program}
theorem LoopOk.move{X:LoopAt}(hX:LoopOk X){C2:Cx}{s2:St}{a2:Act}{W2 W3:World}{m2:Mem}(h2:Go.Hw.J C2 s2 a2 W2 m2){Y:Nat->Prop}(hT:Turn (fun b=>C2.bad0 b \/ Y b) W2 W3)
  (hY:∀ b,Y b->C2.prot b /\ zbM W2 b) (hN:C2.N=X.C.N) (hfo:C2.fore=zd9 X.m) (hwi:C2.wi=X.w) {Oz Ob:Nat->Prop} {A:Option Acc} (hb:∀ b,X.C.bad0 b->C2.bad0 b)
  (hoz:∀ b,Oz b->b < W3.heap.size /\ (C2.bad0 b \/ W2.heap.size<=b) /\ X.w.heap.size<=b) (hob:(∀ b,X.C.out b->Ob b) /\ ∀ b,Ob b->(b < W3.heap.size /\ (C2.bad0 b \/ W2.heap.size<=b)) /\ (X.C.out b \/ X.w.heap.size<=b))
  (hM:∀ D ∈ X.M,D < W3.heap.size /\ ¬ Own m2 D /\ W3.heap[D]?=some (.deferred (some []))) (hseq:X.seqOk A W3 Oz Ob m2) (hS:SeqLaw P0 X.C.seq)
  (hsz:X.w.heap.size<=W3.heap.size) (hlow:∀ b,b < X.w.heap.size->W3.heap[b]?=W2.heap[b]?) (hk:X.keeps W3 m2) (hL:X.L < W3.heap.size /\ ¬ Own m2 X.L /\ ¬ Oz X.L /\ ¬ Ob X.L /\ ∃ r,W3.heap[X.L]?=some (.loop r)) (ho2:∀ b,Own m2 b->b < W3.heap.size) :
  Go.Hw.J (X.cx W3 Oz Ob m2) (X.st.baseA s2.hp s2.gen A) ⟨X.a.tmps,[]⟩ W3 m2:=by
 have hbl:∀ b,X.C.bad0 b->b < X.w.heap.size:=hX.J.badlt
 have hfp:∀ x g base,zd9 X.m (.f x)=.at_ g base->X.C.perm g /\ X.C.bad0 g:=fun x g base h=>hX.J.ext.fore x g base (by
  have:X.m.ρ (.f x)=.at_ g base:=h
  rw[<- hX.J.fore x];exact this)
 have hperm:∀ g,X.C.perm g->(g < W3.heap.size /\ ¬ Own m2 g) /\ ¬ Ob g:=fun g hg=>by
  obtain⟨p1,p2⟩:=hX.J.ext.perm g hg
  have hlt:g < X.w.heap.size:=Nat.lt_of_lt_of_le (hX.J.protlt g p1) hX.J.grown
  have:=(hk g hlt (fun ho=>(zd6 hX.J ho).1 p1) p2).1
  exact⟨⟨by omega,this⟩,fun ho=>((hob.2 g ho).2.elim p2 (fun h=>by omega))⟩
 have hal:∀ b,X.C.also b \/ b ∈ X.C.marks->b < W3.heap.size /\ (X.C.bad0 b \/ (¬ Own m2 b /\ zbM W3 b)):=by
  intro b hb
  have key:b < X.C.w0.heap.size /\ (X.C.bad0 b \/ (X.C.prot b /\ zbM X.C.w0 b)):=by
   rcases hb with hb|hb
   ·exact hX.J.ext.also b hb
   ·obtain⟨q1,q2,q3⟩:=hX.J.ext.marks b hb
    exact⟨hX.J.protlt b q1,.inr ⟨q1,zbM.of q3 trivial⟩⟩
  obtain⟨q1,q2⟩:=key
  have hlt:b < X.w.heap.size:=Nat.lt_of_lt_of_le q1 hX.J.grown
  refine⟨Nat.lt_of_lt_of_le hlt hsz,?_⟩
  by_cases hbad:X.C.bad0 b
  ·exact .inl hbad
  ·obtain⟨q3,q4⟩:=q2.resolve_left hbad
   obtain⟨k1,k2⟩:=hk b hlt (fun ho=>(zd6 hX.J ho).1 q3) (fun ho=>hbad (hX.J.ext.outb b ho))
   exact .inr ⟨k1,fun o ho=>q4 o (by rw[<- hX.J.kept b q3,<- k2];exact ho)⟩
 obtain⟨l1,l2,l3,l4,r0,l5⟩:=hL
 have hext:JExt (X.cx W3 Oz Ob m2) { s2 with env:=fun _=>.bad,acc:=A } ⟨a2.tmps,[]⟩:=by
  refine⟨rfl,List.nodup_nil,fun D hD=>(by cases hD),fun b h=>⟨⟨h.1,h.2.1⟩,h.2.2⟩,fun b h=>.inl (.inr h),fun l hl=>?_,fun l xs k v e=>?_,fun x g base h=>?_,fun b hb=>?_,fun _ _ e=>by cases e⟩
  ·simp only[LoopAt.cx,rCx,Option.some.injEq]at hl;subst hl
   exact⟨⟨l1,l2⟩,fun h=>h.elim (fun h=>h.elim (fun h=>by have:=hbl _ h;have:=hX.L;omega) l4) l3,r0,l5⟩
  ·refine hS.stable l xs k v _ _ _ _ _ (hseq l xs k v e) (Turn.refl _ _) (fun b hb=>⟨hb.1,.inl ?_⟩)
   rcases hb.2 with h|h|h
   ·exact .inl (Classical.byContradiction fun ho=>h ⟨hb.1,ho⟩)
   ·cases h
   ·exact .inr h
  ·obtain⟨p1,p2⟩:=hfp x g base h
   obtain⟨⟨q1,q2⟩,q3⟩:=hperm g p1
   exact⟨⟨q1,q2,q3⟩,.inl (.inl p2)⟩
  ·rcases hb with hb|hb|hb|hb|hb
   ·obtain⟨q1,q2⟩:=hal b (.inl hb)
    exact⟨q1,q2.imp (fun h=>.inl (.inl h)) (fun h=>⟨⟨q1,h.1⟩,h.2⟩)⟩
   ·obtain⟨q1,q2⟩:=hal b (.inr hb)
    exact⟨q1,q2.imp (fun h=>.inl (.inl h)) (fun h=>⟨⟨q1,h.1⟩,h.2⟩)⟩
   ·obtain⟨q1,q2,q3⟩:=hM b hb
    exact⟨q1,.inr ⟨⟨q1,q2⟩,zbM.of q3 trivial⟩⟩
   ·subst hb
    exact⟨l1,.inr ⟨⟨l1,l2⟩,zbM.of l5 trivial⟩⟩
   ·exact⟨(hoz b hb).1,.inl (.inr hb)⟩
 have hf0:=h2.blank
 have hext0:JExt (X.cx W3 Oz Ob m2) { s2 with env:=fun _=>.bad,acc:=none } ⟨a2.tmps,[]⟩:=
  ⟨hext.defers,hext.nodup,hext.marks,hext.perm,hext.outb,hext.loop,fun l xs k v e=>by simp at e,hext.fore,hext.also,hext.pin⟩
 have hf:=hf0.foreign (X:=Y) (C':=X.cx W3 Oz Ob m2) (a':=⟨a2.tmps,[]⟩) hT hY rfl hN.symm hwi.symm hfo.symm (fun x q base h=>?_)
  (fun b h=>h.elim (fun h=>h.elim (fun h=>⟨Nat.lt_of_lt_of_le (h2.badlt b (hb b h)) hT.size,.inl (hb b h)⟩) (fun h=>(hob.2 b h).1)) (fun h=>⟨(hoz b h).1,(hoz b h).2.1⟩)) (fun b h=>h) hext0 rfl
 ·refine hf.withEnv (X.st.baseA s2.hp s2.gen A).env ⟨rfl,hext.nodup,hext.marks,hext.perm,hext.outb,hext.loop,hext.seq,hext.fore,hext.also,fun _ _ e=>by cases e⟩ hX.J.size fun s=>?_
  refine zp2 (Hx.blocks fun y hlt hx=>?_) (fun b hl=>?_) (fun b g base n hl h3 h4 h5=>?_) (hX.J.env s)
  ·have h1:¬ Own X.m y:=fun h=>hx (.inl h)
   have h3:¬ X.C.bad0 y:=fun h=>hx (.inr h)
   have h6:¬ X.C.out y:=fun h=>h3 (hX.J.ext.outb _ h)
   obtain⟨k1,k2⟩:=hk y hlt h1 h6
   refine⟨?_,k2⟩
   rintro(h |(h|h)|h)
   ·exact k1 h
   ·exact h3 h
   ·rcases(hob.2 _ h).2 with h|h
    ·exact h6 h
    ·omega
   ·have:=(hoz _ h).2.2;omega
  ·cases hF:isF b with
   |true=>
    cases b with
    |f x=>exact .inr (.inr ((hf.fore x).trans rfl))
    |_=>cases hF
   |false=>
    have hK:isK b=true:=by cases b<;>simp_all [isK,isL,isF]
    have e:(X.cx W3 Oz Ob m2).fore b=X.m.ρ b:=by simp[rCx,zd9,hl]
    rcases hf.arg b hK with⟨_,h⟩|h|h
    ·exact .inl (e.symm.trans h)
    ·exact .inr (.inl h)
    ·exact .inr (.inr (h.trans e))
  ·cases hF:isF b with
   |true=>
    cases b with
    |f x=>
     obtain⟨p1,_⟩:=hfp x g base h4
     obtain⟨p2,p3⟩:=hX.J.ext.perm g p1
     have hlt:g < X.w.heap.size:=Nat.lt_of_lt_of_le (hX.J.protlt g p2) hX.J.grown
     exact Shp.heap (hk g hlt (fun ho=>(zd6 hX.J ho).1 p2) p3).2 h5
    |_=>cases hF
   |false=>
    have hK:isK b=true:=by cases b<;>simp_all [isK,isL,isF]
    have e:(X.cx W3 Oz Ob m2).fore b=X.m.ρ b:=by simp[rCx,zd9,hl]
    exact hf.argS b g base n hK (by rw[e,h4];simp) h3 h5
 ·rw[hfo]at h
  obtain⟨p1,_⟩:=hfp x q base h
  obtain⟨p2,_⟩:=hX.J.ext.perm q p1
  exact hlow q (Nat.lt_of_lt_of_le (hX.J.protlt q p2) hX.J.grown)
def seqR (X:LoopAt)(l:Nat)(xs:List (List EV))(k:Nat)(live:Bool)(Oz Bz:Nat->Prop)(W:World):Prop:=l=X.L /\ xs=X.xs /\ ∃ hp gen m Ob A,RInv X k live Oz Bz W hp gen m Ob A
theorem RInv.loop{X:LoopAt}{k:Nat}{live:Bool}{Oz Bz:Nat->Prop}{W:World}{hp:Id->Option Blk}{gen:Nat}{m:Mem}{Ob:Nat->Prop}{A:Option Acc}(h:RInv X k live Oz Bz W hp gen m Ob A):X.L < W.heap.size /\ ¬ Own m X.L /\ ¬ Ob X.L /\ ∃ r,W.heap[X.L]?=some (.loop r):=by
 obtain⟨h1,h2,r,h3⟩:=h.J.ext.loop X.L rfl
 exact⟨h1.1,h1.2,fun ho=>h2 (.inl (.inr ho)),r,h3⟩
theorem RInv.stable{X:LoopAt}(hX:LoopOk X)(hS:SeqLaw P0 X.C.seq){k:Nat}{live:Bool}{Oz Bz Oz':Nat->Prop}{W W':World}{hp:Id->Option Blk}{gen:Nat}{m:Mem}{Ob:Nat->Prop}{A:Option Acc}(h:RInv X k live Oz Bz W hp gen m Ob A)(hT:Turn Oz W W')
  (ho:∀ b,Oz' b->b < W'.heap.size /\ (Oz b \/ W.heap.size<=b)):RInv X k live Oz' Bz W' hp gen m Ob A:=by
 obtain⟨l1,l2,l4,r,l3⟩:=h.loop
 have hlt:∀ b,b < X.w.heap.size->W'.heap[b]?=W.heap[b]?:=fun b hb=>hT.same b (Nat.lt_of_lt_of_le hb h.size) (fun hz=>by have:=h.oz b hz;omega)
 have hLs:W'.heap[X.L]?=W.heap[X.L]?:=hT.same _ l1 h.L.2
 have hnz:¬ Oz' X.L:=fun hz=>(ho _ hz).2.elim h.L.2 (fun h=>by omega)
 have hkeep:X.keeps W' m:=fun b hb h1 h2=>⟨(h.keeps b hb h1 h2).1,(hlt b hb).trans (h.keeps b hb h1 h2).2⟩
 have hol:∀ b,Own m b->b < W.heap.size:=fun b hb=>(zd6 h.J hb).2.1
 have hM':∀ D ∈ X.M,D < W'.heap.size /\ ¬ Own m D /\ ¬ Oz' D /\ W'.heap[D]?=some (.deferred (some [])):=fun D hD=>by
  obtain⟨m1,m2,m3,m4⟩:=h.M D hD
  exact⟨Nat.lt_of_lt_of_le m1 hT.size,m2,fun hz=>(ho D hz).2.elim m3 (fun h=>by omega),(hT.same D m1 m3).trans m4⟩
 have hseq:X.seqOk A W' Oz' Ob m:=fun l xs k v e=>by
  refine hS.stable l xs k v _ _ _ _ _ (h.seq l xs k v e) (hT.mono (fun b _ hz=>.inr (.inr (.inr (.inr (.inr hz)))))) (fun b hb=>?_)
  rcases hb with hb|hb|hb|hb|hb|hb
  ·exact⟨Nat.lt_of_lt_of_le (hol b hb) hT.size,.inl (.inl hb)⟩
  ·exact⟨Nat.lt_of_lt_of_le (h.J.ext.also b (.inl hb)).1 hT.size,.inl (.inr (.inl hb))⟩
  ·exact⟨Nat.lt_of_lt_of_le (h.J.ext.also b (.inr (.inl hb))).1 hT.size,.inl (.inr (.inr (.inl hb)))⟩
  ·exact⟨Nat.lt_of_lt_of_le (h.J.ext.also b (.inr (.inr (.inl hb)))).1 hT.size,.inl (.inr (.inr (.inr (.inl hb))))⟩
  ·exact⟨by rw[hb];exact Nat.lt_of_lt_of_le l1 hT.size,.inl (.inr (.inr (.inr (.inr (.inl hb)))))⟩
  ·obtain⟨h1,h2⟩:=ho b hb
   exact⟨h1,h2.imp (fun h=>.inr (.inr (.inr (.inr (.inr h))))) id⟩
 have hJ':=hX.move (Y:=fun _=>False) (Oz:=Oz') (Ob:=Ob) (A:=A) h.J (hT.mono (fun b _ hz=>.inl (.inr hz))) (fun b h=>h.elim) rfl rfl rfl (fun b hb=>.inl (.inl hb))
  (fun b hz=>⟨(ho b hz).1,(ho b hz).2.elim (fun h=>.inl (.inr h)) .inr,(ho b hz).2.elim (fun hz=>h.oz b hz) (fun hz=>Nat.le_trans h.size hz)⟩) ⟨h.ob.1,fun b hb=>⟨⟨Nat.lt_of_lt_of_le (h.J.badlt b (.inl (.inr hb))) hT.size,.inl (.inl (.inr hb))⟩,h.ob.2 b hb⟩⟩
  (fun D hD=>⟨(hM' D hD).1,(hM' D hD).2.1,(hM' D hD).2.2.2⟩) hseq hS (Nat.le_trans h.size hT.size) hlt hkeep ⟨Nat.lt_of_lt_of_le l1 hT.size,l2,hnz,l4,r,hLs.trans l3⟩ (fun b hb=>Nat.lt_of_lt_of_le (hol b hb) hT.size)
 refine⟨hJ',hseq,h.ob,hkeep,h.own,h.badB,⟨h.L.1,hnz⟩,fun b hz=>(ho b hz).2.elim (fun hz=>h.oz b hz) (fun hz=>Nat.le_trans h.size hz),hM',h.mout,Nat.le_trans h.size hT.size,hT.os.trans h.os,hT.tape.trans h.tape,hT.output.trans h.output,fun hl=>?_,fun hl=>?_⟩
 ·obtain⟨i1,i2⟩:=h.on hl;exact⟨i1,hLs.trans i2⟩
 ·obtain⟨c,i1,i2⟩:=h.off hl;exact⟨c,hLs.trans i1,i2⟩
theorem zbV{w:World}{l:Nat}{o:Obj}:Turn (fun b=>b=l) w (w.putObj l o):=
 ⟨by simp,rfl,rfl,rfl,fun b _ hn=>World.putObj_heap_other hn⟩
theorem RInv.behind{X:LoopAt}(hX:LoopOk X)(hS:SeqLaw P0 X.C.seq){k k':Nat}{live live':Bool}{Oz Bz:Nat->Prop}{W W1:World}{hp:Id->Option Blk}{gen:Nat}{m:Mem}{Ob:Nat->Prop}{A A2:Option Acc}(h:RInv X k live Oz Bz W hp gen m Ob A){C2:Cx}{s2:St}{a2:Act}{m2:Mem}
  (hJ2:Go.Hw.J C2 s2 a2 W1 m2) (hA2:A2=s2.acc \/ A2=none) (hN:C2.N=X.C.N) (hfo:C2.fore=zd9 X.m) (hwi:C2.wi=X.w) (hsq:C2.seq=X.C.seq) (hms:C2.marks=[]) (hal:C2.also=(X.cx W Oz Ob m).also) (hbd:∀ b,(X.cx W Oz Ob m).bad0 b->C2.bad0 b) (hou:(∀ b,Ob b->C2.out b) /\ ∀ b,C2.out b->Ob b \/ W.heap.size<=b)
  (hperm:∀ b,b < W.heap.size->¬ Own m b->¬ Ob b->C2.prot b /\ (b ≠ X.L->W1.heap[b]?=W.heap[b]?)) (hsz:W.heap.size<=W1.heap.size) (hos:W1.os=W.os) (htp:W1.tape=W.tape) (hout:W1.output=W.output)
  {o:Loop} (hL:∃ r,W1.heap[X.L]?=some (.loop r)) (hon:live'=true->X.I k' s2.hp s2.gen A2 /\ o=X.record .ready none)
  (hoff:live'=false->∃ c,o=X.record .done (some c) /\ ((c=.ret /\ X.Q .ret (X.st.baseA s2.hp s2.gen A2)) \/ ∃ id,c=.exit id /\ X.Q (.exit id) (X.st.baseA s2.hp s2.gen A2))) :
  Turn Bz W (W1.putObj X.L (.loop o)) /\ RInv X k' live' Oz (fun b=>Bz b \/ newB W (W1.putObj X.L (.loop o)) b) (W1.putObj X.L (.loop o)) s2.hp s2.gen m2 C2.out A2:=by
 obtain⟨l1,l2,l4,_⟩:=h.loop
 have hW3:(W1.putObj X.L (.loop o)).heap.size=W1.heap.size:=by simp
 have hLn:(W1.putObj X.L (.loop o)).heap[X.L]?=some (.loop o):=World.putObj_heap_same (Nat.lt_of_lt_of_le l1 hsz)
 have hpL:=(hperm X.L l1 l2 l4).1
 have hoth:∀ b,b ≠ X.L->b < W.heap.size->¬ Own m b->¬ Ob b->(W1.putObj X.L (.loop o)).heap[b]?=W.heap[b]?:=fun b hne hb h1 h2=>(World.putObj_heap_other hne).trans ((hperm b hb h1 h2).2 hne)
 have hno2:∀ b,C2.prot b->¬ Own m2 b:=fun b hp ho=>(zd6 hJ2 ho).1 hp
 have hol2:∀ b,Own m2 b->b < W1.heap.size:=fun b hb=>(zd6 hJ2 hb).2.1
 have hnob:∀ b,b < X.w.heap.size->¬ X.C.out b->¬ Ob b:=fun b hb h1 ho=>(h.ob.2 b ho).elim h1 (fun h=>by omega)
 have hkeep:X.keeps (W1.putObj X.L (.loop o)) m2:=fun b hb h1 h2=>by
  obtain⟨k1,k2⟩:=h.keeps b hb h1 h2
  have hbW:=Nat.lt_of_lt_of_le hb h.size
  have hne:b ≠ X.L:=by have:=hX.L;omega
  have h3:=hnob b hb h2
  exact⟨hno2 b (hperm b hbW k1 h3).1,(hoth b hne hbW k1 h3).trans k2⟩
 have hozlt:∀ b,Oz b->b < W.heap.size:=fun b hz=>h.J.badlt b (.inr hz)
 have hob':(∀ b,X.C.out b->C2.out b) /\ ∀ b,C2.out b->X.C.out b \/ X.w.heap.size<=b:=⟨fun b hb=>hou.1 b (h.ob.1 b hb),fun b hb=>(hou.2 b hb).elim (fun hb=>h.ob.2 b hb) (fun hb=>.inr (Nat.le_trans h.size hb))⟩
 have hob2:∀ b,C2.out b->C2.bad0 b:=hJ2.ext.outb
 have hM':∀ D ∈ X.M,D < (W1.putObj X.L (.loop o)).heap.size /\ ¬ Own m2 D /\ ¬ Oz D /\ (W1.putObj X.L (.loop o)).heap[D]?=some (.deferred (some [])):=fun D hD=>by
  obtain⟨m1,m2',m3,m4⟩:=h.M D hD
  obtain⟨d1,d2⟩:=hX.M D hD
  have hDout:¬ Ob D:=h.mout D hD
  exact⟨by rw[hW3];exact Nat.lt_of_lt_of_le m1 hsz,hno2 D (hperm D m1 m2' hDout).1,m3,(hoth D d2 m1 m2' hDout).trans m4⟩
 have hLo2:¬ C2.out X.L:=fun ho=>(hou.2 _ ho).elim l4 (fun h=>by omega)
 have hseq:X.seqOk A2 (W1.putObj X.L (.loop o)) Oz C2.out m2:=fun l xs k v e=>by
  have e2:s2.acc=some ⟨l,xs,k,v⟩:=by
   rcases hA2 with h|h
   ·rw[<- h];exact e
   ·rw[h]at e;cases e
  have h3:=zfu (by rw[hsq];exact hS) hJ2 e2
  rw[hsq,hms,hal]at h3
  refine hS.stable l xs k v _ _ _ _ _ h3 (zbV.mono (fun b _ e=>.inr (.inr (.inr (.inr (.inr (.inl e))))))) (fun b hb=>?_)
  rcases hb with hb|hb|hb|hb|hb|hb
  ·exact⟨by rw[hW3];exact hol2 b hb,.inl (.inl hb)⟩
  ·exact⟨by rw[hW3];exact Nat.lt_of_lt_of_le (h.J.ext.also b (.inl hb)).1 hsz,.inl (.inr (.inr (.inl hb)))⟩
  ·exact⟨by rw[hW3];exact Nat.lt_of_lt_of_le (h.J.ext.also b (.inr (.inl hb))).1 hsz,.inl (.inr (.inr (.inr (.inl hb))))⟩
  ·exact⟨by rw[hW3];exact Nat.lt_of_lt_of_le (h.J.ext.also b (.inr (.inr (.inl hb)))).1 hsz,.inl (.inr (.inr (.inr (.inr (.inl hb)))))⟩
  ·exact⟨by rw[hW3,hb];exact Nat.lt_of_lt_of_le l1 hsz,.inl (.inr (.inr (.inr (.inr (.inr (.inl hb))))))⟩
  ·exact⟨by rw[hW3];exact Nat.lt_of_lt_of_le (hozlt b hb) hsz,.inl (.inr (.inr (.inr (.inr (.inr (.inr hb))))))⟩
 have hJ':=hX.move (Y:=fun b=>b=X.L) (W3:=W1.putObj X.L (.loop o)) (Oz:=Oz) (Ob:=C2.out) (A:=A2) hJ2 (zbV.mono (fun b _ e=>.inr e)) (fun b e=>by
   subst e;obtain⟨r,hr⟩:=hL;exact⟨hpL,zbM.of hr trivial⟩) hN hfo hwi (fun b hb=>hbd b (.inl (.inl hb)))
  (fun b hz=>⟨by rw[hW3];exact Nat.lt_of_lt_of_le (hozlt b hz) hsz,.inl (hbd b (.inr hz)),h.oz b hz⟩) ⟨hob'.1,fun b hb=>⟨⟨by rw[hW3];exact hJ2.badlt b (hob2 b hb),.inl (hob2 b hb)⟩,hob'.2 b hb⟩⟩
  (fun D hD=>⟨(hM' D hD).1,(hM' D hD).2.1,(hM' D hD).2.2.2⟩) hseq hS (by rw[hW3];exact Nat.le_trans h.size hsz)
  (fun b hb=>World.putObj_heap_other (by have:=hX.L;omega)) hkeep ⟨by rw[hW3];exact Nat.lt_of_lt_of_le l1 hsz,hno2 _ hpL,h.L.2,hLo2,o,hLn⟩ (fun b hb=>by rw[hW3];exact hol2 b hb)
 have hnew:∀ b,Own m2 b->Bz b \/ newB W (W1.putObj X.L (.loop o)) b:=fun b ho=>by
  obtain⟨h1,h2,h3⟩:=zd6 hJ2 ho
  rcases Nat.lt_or_ge b W.heap.size with hb|hb
  ·refine .inl ?_
   by_cases ho':Own m b
   ·exact h.own b ho'
   ·by_cases hou':Ob b
    ·exact h.badB b (.inr hou')
    ·exact(h1 (hperm b hb ho' hou').1).elim
  ·exact .inr ⟨hb,by rw[hW3];exact h2⟩
 refine⟨⟨by rw[hW3];exact hsz,hos,htp,hout,fun b hb hn=>?_⟩,hJ',hseq,hob',hkeep,hnew,fun b hb=>?_,⟨.inl h.L.1,h.L.2⟩,h.oz,hM',?_,
  by rw[hW3];exact Nat.le_trans h.size hsz,hos.trans h.os,htp.trans h.tape,hout.trans h.output,fun hl=>?_,fun hl=>?_⟩
 ·refine hoth b (fun e=>hn (e ▸ h.L.1)) hb (fun ho=>hn (h.own b ho)) (fun ho=>hn (h.badB b (.inr ho)))
 ·rcases hb with hb|hb
  ·exact .inl (h.badB b (.inl hb))
  ·rcases hou.2 b hb with h1|h1
   ·exact .inl (h.badB b (.inr h1))
   ·exact .inr ⟨h1,by rw[hW3];exact hJ2.badlt b (hob2 b hb)⟩
 ·exact fun D hD ho=>(hou.2 D ho).elim (h.mout D hD) (fun h1=>by have:=(h.M D hD).1;omega)
 ·obtain⟨i1,i2⟩:=hon hl;exact⟨i1,by rw[hLn,i2]⟩
 ·obtain⟨c,i1,i2⟩:=hoff hl;exact⟨c,by rw[hLn,i1],i2⟩
end Go.Hw
end
section
namespace Go.Hw
variable [Globals]
open Go.RowKit (Below)
def zql(P:Program)(c:Code):Prop:=∀(F:Fence) (n:Nat) (C:Cx) (Q:AX->St->Prop) (st:St) (a:Act) (w:World) (m:Mem),zfs F C->SeqLaw P C.seq->C.codeOk c=true->awp P c Q st->J C st a w m->c.wpIn F n P (lift C Q) a w
theorem zqN{P:Program}{X:LoopAt}(hX:LoopOk X)(hS:SeqLaw P X.C.seq)(hA:zql P X.assign)(hB:zql P X.body)(okA:codeOk X.C.N X.assign=true)(okB:codeOk X.C.N X.body=true)(okP:∀ p ∈ X.ps.toList,p < X.C.N)
  (hlen:∀ x ∈ X.xs,x.length=X.ps.size)
  (hround:∀ k x hp gen A,X.xs[k]?=some x->X.I k hp gen A->awp P X.assign (zf9 (awp P X.body (zkM X.st (X.I (k+1)) X.Q)) (fun _ _=>False)) (setPs X.ps.toList x (X.st.baseA hp gen A))):SeqLaw P (seqR X):=by
 refine⟨fun l xs k live Oz Bz w w' Oz' ⟨h1,h2,hp,gen,m,Ob,A,h⟩ hT ho=>⟨h1,h2,hp,gen,m,Ob,A,h.stable hX hS hT ho⟩,?_⟩
 rintro l xs k x Oz Bz W args ⟨rfl,rfl,hp,gen,m,Ob,A,h⟩ hx hsz hrep F n hF
 have hxl:=hlen x (List.mem_of_getElem? hx)
 obtain⟨hI,hrec⟩:=h.on rfl
 obtain⟨l1,l2,hLout,_⟩:=h.loop
 have hy:=run_yield (P:=P) (args:=args) hrec (by show args.size=X.ps.size;omega)
 refine⟨X.fn,_,X.assign,X.body,hy,roundIn_of_wpIn (hF.fn _) ?_⟩
 have hfo:F.inRound X.L=Fence.wide.inRound X.L:=by rcases hF with rfl |⟨l,rfl⟩<;>rfl
 have hJ0:=h.J.setPs X.ps.toList x args.toList _ _ (fun p hp k hk=>by cases hk;exact⟨okP p hp,fun v e=>by cases e⟩) (by simpa using hxl.symm) (by simpa using hsz) (fun j u y hu hy=>by
  refine Ext.av (m:=m0) (bad0:=fun b=>Oz b \/ Bz b) ⟨Hx.same fun z hz hb=>hz ?_,fun i=>.inl rfl,fun i g base n _ h _=>by cases h⟩ (hrep j u y (by simpa using hu) hy)
  rw[zgN]
  rcases hb with h1 |(h1|h1)|h1
  ·exact .inr (h.own _ h1)
  ·exact .inr (h.badB _ (.inl h1))
  ·exact .inr (h.badB _ (.inr h1))
  ·exact .inl h1)
 have hfold:(X.ps.toList.zip args.toList).foldl (fun t (p,v)=>t.setIfInBounds p v) X.a.tmps=(X.ps.zip args).foldl (fun tmps (t,a)=>tmps.setIfInBounds t a) X.a.tmps:=by
  rw[<- Array.foldl_toList,Array.toList_zip]
 simp only[hfold]at hJ0
 refine Code.wpIn_mono ?_ (hA (F.inRound X.L) n (X.cx W Oz Ob m) _ _ _ _ m (.inr ⟨X.L,hfo,rfl⟩) hS okA (hround k x hp gen A hx hI) hJ0)
 rintro e a1 w1 ⟨C1,s1,m1,y,hle,hq,hJ1,hxr⟩
 cases y with
 |normal=>
  have e0:e=.normal:=hxr
  subst e0
  obtain⟨p1,p2⟩:=hle.perm X.L ⟨l1,l2,hLout⟩
  have hrec1:w1.heap[X.L]?=some (.loop (X.record .ready none)):=(hJ1.kept _ (hJ1.ext.perm _ p1).1).trans (p2.trans hrec)
  have hLlt1:X.L < w1.heap.size:=(Array.getElem?_eq_some_iff.1 hrec1).1
  refine⟨_,run_beginRound hrec1 rfl,?_⟩
  have hw2:(w1.putObj X.L (.loop (X.record .busy none))).heap.size=w1.heap.size:=by simp
  have hmk:C1.marks=[]:=by obtain⟨m,e1,e2,_⟩:=hle.marks;rw[e1,e2 rfl];rfl
  have hno1:∀ b,C1.prot b->¬ Own m1 b:=fun b hp ho=>(zd6 hJ1 ho).1 hp
  have hlt1:∀ b,C1.prot b->b < w1.heap.size:=fun b hp=>Nat.lt_of_lt_of_le (hJ1.protlt b hp) hJ1.grown
  have hL1:C1.loop=some X.L:=hle.loop
  obtain⟨e1,e2,_⟩:=hJ1.ext.loop X.L hL1
  let C1':Cx:={ C1 with w0:=w1.putObj X.L (.loop (X.record .busy none)),prot:=fun b=>b < (w1.putObj X.L (.loop (X.record .busy none))).heap.size /\ ¬ Own m1 b }
  have hs1:SeqLaw P C1.seq:=by rw[hle.seq];exact hS
  have ha1:C1.also=(X.cx W Oz Ob m).also:=hle.also
  have hL2:(w1.putObj X.L (.loop (X.record .busy none))).heap[X.L]?=some (.loop (X.record .busy none)):=World.putObj_heap_same hLlt1
  have hext:JExt C1' s1 a1:=by
   refine⟨hJ1.ext.defers,hJ1.ext.nodup,fun D hD=>?_,fun b hb=>?_,hJ1.ext.outb,fun l hl=>?_,fun l xs k v e=>?_,fun x q base h=>hJ1.ext.fore x q base h,fun b hb=>?_,hJ1.ext.pin⟩
   ·have hD':D ∈ C1.marks:=hD
    rw[hmk]at hD';cases hD'
   ·exact⟨⟨by rw[hw2];exact hlt1 b (hJ1.ext.perm b hb).1,hno1 b (hJ1.ext.perm b hb).1⟩,(hJ1.ext.perm b hb).2⟩
   ·have hl':some X.L=some l:=hL1.symm.trans hl
    cases hl'
    exact⟨⟨by rw[hw2];exact hLlt1,hno1 _ e1⟩,e2,_,hL2⟩
   ·have h9:=zfu hs1 hJ1 e
    refine hs1.stable l xs k v _ _ _ _ _ h9 (zbV.mono (fun b _ e=>.inr (.inr (by rw[ha1,e];exact .inr (.inr (.inr (.inl rfl))))))) (fun b hb=>⟨hb.1,.inl ?_⟩)
    rcases hb.2 with h10|h10|h10
    ·exact .inl (Classical.byContradiction fun ho=>h10 ⟨hb.1,ho⟩)
    ·exact .inr (.inl h10)
    ·exact .inr (.inr h10)
   ·obtain⟨q1,q2⟩:=hJ1.ext.also b hb
    refine⟨by rw[hw2];exact Nat.lt_of_lt_of_le q1 hJ1.grown,q2.imp id fun⟨q3,q4⟩=>⟨⟨by rw[hw2];exact hlt1 b q3,hno1 b q3⟩,fun o ho=>?_⟩⟩
    by_cases hne:b=X.L
    ·subst hne
     rw[World.putObj_heap_same hLlt1]at ho;cases ho;trivial
    ·exact q4 o (by rw[<- hJ1.kept b q3];exact(World.putObj_heap_other hne).symm.trans ho)
  have hJ2:=hJ1.foreign (X:=fun b=>b=X.L) (C':=C1') (a':=a1) (zbV.mono (fun b _ e=>.inr e)) (fun b e=>by
   subst e
   exact⟨e1,zbM.of hrec1 trivial⟩) rfl rfl rfl rfl (fun x q base h=>World.putObj_heap_other (fun e=>by
   subst e
   exact e2 (hJ1.ext.fore x _ base h).2)) (fun b hb=>⟨by
    show b < (w1.putObj X.L (.loop (X.record .busy none))).heap.size
    rw[hw2];exact hJ1.badlt b hb,.inl hb⟩) (fun b hb=>hb) hext rfl
  refine Code.wpIn_mono ?_ (hB (F.inRound X.L) n C1' _ _ _ _ m1 (.inr ⟨X.L,hfo,hL1⟩) hs1 (by show za6 C1.N (C1.pin.map (·.1)) X.body=true;rw[hle.N,hle.pin];exact okB) hq hJ2)
  have main:∀(live':Bool) (o:Loop) (C2:Cx) (s2:St) (a2:Act) (w3:World) (m2:Mem) (A2:Option Acc),C1'.le C2->J C2 s2 a2 w3 m2->(A2=s2.acc \/ A2=none)->(live'=true->X.I (k+1) s2.hp s2.gen A2 /\ o=X.record .ready none) ->
    (live'=false->∃ c,o=X.record .done (some c) /\ ((c=.ret /\ X.Q .ret (X.st.baseA s2.hp s2.gen A2)) \/ ∃ id,c=.exit id /\ X.Q (.exit id) (X.st.baseA s2.hp s2.gen A2))) ->
    w3.heap[X.L]?=some (.loop (X.record .busy none)) /\ Turn Bz W (w3.putObj X.L (.loop o)) /\ ∀ k',(live'=true->k'=k+1)->seqR X X.L X.xs k' live' Oz (fun b=>Bz b \/ newB W (w3.putObj X.L (.loop o)) b) (w3.putObj X.L (.loop o)):=by
   intro live' o C2 s2 a2 w3 m2 A2 hle2 hJ3 hA2 hon hoff
   obtain⟨q1,q2⟩:=hle2.perm X.L p1
   have hrec3:w3.heap[X.L]?=some (.loop (X.record .busy none)):=(hJ3.kept _ (hJ3.ext.perm _ q1).1).trans (q2.trans hL2)
   have hg1:W.heap.size<=w1.heap.size:=Nat.le_trans hle.size hJ1.grown
   have hg2:w1.heap.size<=w3.heap.size:=by have:=Nat.le_trans hle2.size hJ3.grown;simpa [C1']using this
   have hperm:∀ b,b < W.heap.size->¬ Own m b->¬ Ob b->C2.prot b /\ (b ≠ X.L->w3.heap[b]?=W.heap[b]?):=by
    intro b hb h1 h2
    obtain⟨r1,r2⟩:=hle.perm b ⟨hb,h1,h2⟩
    obtain⟨r3,r4⟩:=hle2.perm b r1
    refine⟨(hJ3.ext.perm b r3).1,fun hne=>?_⟩
    have s1:w3.heap[b]?=C2.w0.heap[b]?:=hJ3.kept b (hJ3.ext.perm b r3).1
    have s2:C2.w0.heap[b]?=(w1.putObj X.L (.loop (X.record .busy none))).heap[b]?:=r4
    have s3:(w1.putObj X.L (.loop (X.record .busy none))).heap[b]?=w1.heap[b]?:=World.putObj_heap_other hne
    have s4:w1.heap[b]?=C1.w0.heap[b]?:=hJ1.kept b (hJ1.ext.perm b r1).1
    have s5:C1.w0.heap[b]?=W.heap[b]?:=r2
    rw[s1,s2,s3,s4,s5]
   have hos:w3.os=W.os:=(hJ3.os.trans (hle2.os.trans (show(w1.putObj X.L (.loop (X.record .busy none))).os=w1.os from rfl))).trans (hJ1.os.trans hle.os)
   have htp:w3.tape=W.tape:=(hJ3.tape.trans (hle2.tape.trans (show(w1.putObj X.L (.loop (X.record .busy none))).tape=w1.tape from rfl))).trans (hJ1.tape.trans hle.tape)
   have hou:w3.output=W.output:=(hJ3.output.trans (hle2.output.trans (show(w1.putObj X.L (.loop (X.record .busy none))).output=w1.output from rfl))).trans (hJ1.output.trans hle.output)
   have hmk2:C2.marks=[]:=by
    obtain⟨mm,e1,e2,_⟩:=hle2.marks
    rw[e1,e2 (by show(C1.loop.isSome || C1.pin.isSome)=true;rw[hL1];rfl)];exact hmk
   have hou2:(∀ b,Ob b->C2.out b) /\ ∀ b,C2.out b->Ob b \/ W.heap.size<=b:=⟨fun b hb=>hle2.out b (hle.out b hb),fun b hb=>by
    rcases hle2.newo b hb with h1|h1
    ·exact hle.newo b h1
    ·refine .inr (Nat.le_trans hg1 ?_)
     have:(w1.putObj X.L (.loop (X.record .busy none))).heap.size<=b:=h1
     rwa [hw2]at this⟩
   obtain⟨t1,t2⟩:=h.behind hX hS (live':=live') (k':=k+1) hJ3 hA2 (hle2.N.trans hle.N) (hle2.fore.trans hle.fore) (hle2.wi.trans hle.wi) (hle2.seq.trans hle.seq) hmk2 (hle2.also.trans hle.also) (fun b hb=>hle2.bad b (hle.bad b hb)) hou2 hperm (Nat.le_trans hg1 hg2) hos htp hou (o:=o) ⟨_,hrec3⟩ hon hoff
   refine⟨hrec3,t1,fun k' hk'=>⟨rfl,rfl,s2.hp,s2.gen,m2,C2.out,A2,?_⟩⟩
   cases live' with
   |true=>rw[hk' rfl];exact t2
   |false=>exact⟨t2.J,t2.seq,t2.ob,t2.keeps,t2.own,t2.badB,t2.L,t2.oz,t2.M,t2.mout,t2.size,t2.os,t2.tape,t2.output,fun h=>(by cases h),t2.off⟩
  rintro e a2 w3 ⟨C2,s2,m2,y,hle2,hq2,hJ3,hxr⟩
  cases y with
  |normal=>
   have e0:e=.normal:=hxr
   subst e0
   obtain⟨s3,A3,hg,hA3,hq3⟩:=hq2
   obtain⟨m3,hJ4⟩:=hg _ _ _ _ hJ3
   obtain⟨m1,m2,m3⟩:=main true (X.record .ready none) C2 s3 a2 w3 m3 A3 hle2 hJ4 hA3 (fun _=>⟨hq3,rfl⟩) (fun h=>by cases h)
   exact⟨_,_,run_endRound none m1,m2,.inl ⟨rfl,m3 (k+1) (fun _=>rfl)⟩⟩
  |ret=>
   have e0:e=.ret:=hxr
   subst e0
   obtain⟨s3,A3,hg,hA3,hq3⟩:=hq2
   obtain⟨m3,hJ4⟩:=hg _ _ _ _ hJ3
   obtain⟨m1,m2,m3⟩:=main false (X.record .done (some .ret)) C2 s3 a2 w3 m3 A3 hle2 hJ4 hA3 (fun h=>by cases h) (fun _=>⟨.ret,rfl,.inl ⟨rfl,hq3⟩⟩)
   exact⟨_,_,run_endRound (some .ret) m1,m2,.inr ⟨rfl,m3 k (fun h=>by cases h)⟩⟩
  |exit id=>
   have e0:e=.exit id:=hxr
   subst e0
   obtain⟨s3,A3,hg,hA3,hq3⟩:=hq2
   obtain⟨m3,hJ4⟩:=hg _ _ _ _ hJ3
   obtain⟨m1,m2,m3⟩:=main false (X.record .done (some (.exit id))) C2 s3 a2 w3 m3 A3 hle2 hJ4 hA3 (fun h=>by cases h) (fun _=>⟨.exit id,rfl,.inr ⟨id,rfl,hq3⟩⟩)
   exact⟨_,_,run_endRound (some (.exit id)) m1,m2,.inr ⟨rfl,m3 k (fun h=>by cases h)⟩⟩
  |goto l=>exact hq2.elim
  |pan x=>exact hq2.elim
 |_=>exact hq.elim
end Go.Hw
end
section
namespace Go.Hw
variable [Globals]
open Go.RowKit (Below)
theorem J.refore{C0 C:Cx}{st0 st:St}{a0 a:Act}{w0 w:World}{m0 m:Mem}(h0:J C0 st0 a0 w0 m0)(h:J { C with fore:=zd9 m0,wi:=w0 } st a w m)(e1:C.fore=C0.fore)(e2:C.wi=C0.wi):J C st a w m:=by
 have key:∀ x,isK x=true->zd9 m0 x=m0.ρ x:=fun x hx=>by
  have hl:isL x=false:=by cases x<;>simp_all [isK,isL]
  simp[zd9,hl]
 refine⟨h.size,⟨h.ext.defers,h.ext.nodup,h.ext.marks,h.ext.perm,h.ext.outb,h.ext.loop,h.ext.seq,fun x g base hx=>h.ext.fore x g base ?_,h.ext.also,h.ext.pin⟩,h.os,h.tape,h.output,h.grown,h.kept,h.protlt,h.badlt,h.mem,h.env,h.hp,h.gen,fun x=>?_,fun x hx=>?_,fun x g base n hx hf hm hs=>?_,h.glob⟩
 ·show m0.ρ (.f x)=_
  rw[h0.fore,<- e1];exact hx
 ·rw[e1,<- h0.fore];exact h.fore x
 ·rw[e1]
  rcases h.arg x hx with⟨h1,h2⟩|h1|h1
  ·have h2':m0.ρ x=.un:=(key x hx).symm.trans h2
   rcases h0.arg x hx with h3|h3|h3
   ·exact .inl h3
   ·rw[h2']at h3;cases h3
   ·exact .inl ⟨h1,h3.symm.trans h2'⟩
  ·exact .inr (.inl h1)
  ·have h1':m.ρ x=m0.ρ x:=h1.trans (key x hx)
   rw[h1'];exact h0.arg x hx
 ·rw[e2]at hs
  rw[e1]at hf
  rcases h.arg x hx with⟨h1,h2⟩|h1|h1
  ·have h2':m0.ρ x=.un:=(key x hx).symm.trans h2
   rcases h0.arg x hx with h3|h3|h3
   ·exact(hf h3.2).elim
   ·rw[h2']at h3;cases h3
   ·exact(hf (h3.symm.trans h2')).elim
  ·rw[h1]at hm;cases hm
  ·have h1':m0.ρ x=.at_ g base:=(h1.trans (key x hx)).symm.trans hm
   refine h.argS x g base n hx ?_ hm (h0.argS x g base n hx hf h1' hs)
   show zd9 m0 x ≠ .un
   rw[key x hx,h1'];simp
theorem znW{P:Program}{F:Fence}{n:Nat}{X:LoopAt}(hX:LoopOk X)(hS:SeqLaw P X.C.seq){A0:Option Acc}(hA0:A0=X.st.acc \/ A0=none)(hF:zfs F X.C)(hMl:(X.C.loop.isSome || X.C.pin.isSome)=true->X.M=[]){W1:World}(hT1:Turn (fun _=>False) X.w W1)(hL:X.L < W1.heap.size)(hrec:W1.heap[X.L]?=some (.loop (X.record .ready none)))
  (hM:∀ D ∈ X.M,D < W1.heap.size /\ W1.heap[D]?=some (.deferred (some []))) (hlaw:SeqLaw P (seqR X)) {gf:FuncId} {cs:List CV} {vs:Array Value} (hvl:vs.size=cs.length)
  (hvr:∀(j:Nat) (u:Value) (c:CV),vs[j]?=some u->cs[j]?=some c->CRep X.w (Bad X.m X.C.bad0) u c) (hseq:zl0 P gf (cs.map fun c=>.cell (.p c)) X.xs) (h0:X.I 0 X.st.hp X.st.gen A0) (hdone:∀ hp gen A,X.I X.xs.length hp gen A->X.Q .normal (X.st.baseA hp gen A)) :
  CallsIn F (n - 1) P gf (#[.func (.yield X.L) #[] #[]]++vs) W1 (rangePost F n P X.L (lift X.C X.Q) { X.a with defers:=X.M.map zeY++X.a.defers }):=by
 have hJ:=hX.J
 have hbl:∀ b,X.C.bad0 b->b < X.w.heap.size:=hJ.badlt
 have hol:∀ b,Own X.m b->b < X.w.heap.size:=fun b h=>(zd6 hJ h).2.1
 have hcell:Hx X.w (Bad X.m X.C.bad0) W1 (Bad m0 (fun b=>Own X.m b \/ X.C.bad0 b \/ b=X.L)):=by
  refine Hx.blocks fun y hlt hx=>⟨?_,hT1.same _ hlt id⟩
  rw[zgN]
  rintro(h|h|h)
  ·exact hx (.inl h)
  ·exact hx (.inr h)
  ·have:=hX.L;omega
 -- ahead of the first round
 have hstart:seqR X X.L X.xs 0 true (fun _=>False) (fun b=>Own X.m b \/ X.C.bad0 b \/ b=X.L) W1:=by
  have hkeep:X.keeps W1 X.m:=fun b hb h1 _=>⟨h1,hT1.same b hb id⟩
  have hLo:¬ Own X.m X.L:=fun h=>by have:=hol _ h;have:=hX.L;omega
  have hout:∀ b,X.C.out b->b < X.w.heap.size:=fun b h=>hbl b (hJ.ext.outb b h)
  have hM2:∀ D ∈ X.M,D < W1.heap.size /\ ¬ Own X.m D /\ W1.heap[D]?=some (.deferred (some [])):=fun D hD=>⟨(hM D hD).1,fun h=>by have:=hol _ h;have:=(hX.M D hD).1;omega,(hM D hD).2⟩
  have hsq:X.seqOk A0 W1 (fun _=>False) X.C.out X.m:=fun l xs k v e=>by
   have e2:X.st.acc=some ⟨l,xs,k,v⟩:=by
    rcases hA0 with h|h
    ·rw[<- h];exact e
    ·rw[h]at e;cases e
   refine hS.stable l xs k v _ _ _ _ _ (zfu hS hJ e2) (hT1.mono (fun b _ h=>h.elim)) (fun b hb=>?_)
   rcases hb with hb|hb|hb|hb|hb|hb
   ·exact⟨Nat.lt_of_lt_of_le (hol b hb) hT1.size,.inl (.inl hb)⟩
   ·exact⟨Nat.lt_of_lt_of_le (Nat.lt_of_lt_of_le (hJ.ext.also b hb).1 hJ.grown) hT1.size,.inl (.inr (.inr hb))⟩
   ·exact⟨Nat.lt_of_lt_of_le (Nat.lt_of_lt_of_le (hJ.protlt b (hJ.ext.marks b hb).1) hJ.grown) hT1.size,.inl (.inr (.inl hb))⟩
   ·exact⟨(hM b hb).1,.inr (hX.M b hb).1⟩
   ·exact⟨by rw[hb];exact hL,.inr (by rw[hb];exact hX.L)⟩
   ·exact hb.elim
  have hJ3:=hX.move (Y:=fun _=>False) (W3:=W1) (Oz:=fun _=>False) (Ob:=X.C.out) (A:=A0) hJ.repin (hT1.mono (fun b _ h=>h.elim)) (fun b h=>h.elim) rfl rfl rfl (fun b h=>h) (fun b h=>h.elim)
   ⟨fun b h=>h,fun b hb=>⟨⟨Nat.lt_of_lt_of_le (hout b hb) hT1.size,.inl (hJ.ext.outb b hb)⟩,.inl hb⟩⟩ hM2 hsq hS hT1.size (fun b hb=>hT1.same b hb id) hkeep ⟨hL,hLo,id,fun h=>by have:=hout _ h;have:=hX.L;omega,_,hrec⟩ (fun b hb=>Nat.lt_of_lt_of_le (hol b hb) hT1.size)
  refine⟨rfl,rfl,X.st.hp,X.st.gen,X.m,X.C.out,A0,hJ3,hsq,⟨fun b h=>h,fun b h=>.inl h⟩,hkeep,fun b h=>.inl h,fun b h=>.inr (.inl (h.elim id (fun h=>hJ.ext.outb b h))),⟨.inr (.inr rfl),id⟩,fun b h=>h.elim,fun D hD=>?_,fun D hD ho=>(by have:=hout _ ho;have:=(hX.M D hD).1;omega),hT1.size,hT1.os,hT1.tape,hT1.output,fun _=>⟨h0,hrec⟩,fun h=>by cases h⟩
  obtain⟨m1,m2⟩:=hM D hD
  exact⟨m1,fun h=>by have:=hol _ h;have:=(hX.M D hD).1;omega,id,m2⟩
 have hcall:=hseq.2 W1 vs (fun b=>Own X.m b \/ X.C.bad0 b \/ b=X.L) X.L (seqR X) (fun b h=>by
   rcases h with h|h|h
   ·exact Nat.lt_of_lt_of_le (hol b h) hT1.size
   ·exact Nat.lt_of_lt_of_le (hbl b h) hT1.size
   ·rw[h];exact hL) (by simpa using hvl) (fun j u x hu hx=>by
   rw[List.getElem?_map]at hx
   cases hc:cs[j]? with
   |none=>simp[hc]at hx
   |some c=>simp[hc]at hx;subst hx;exact .cell _ _ ((hvr j u c hu hc).mono hcell)) (fun g cs hg=>ziN hcell (hJ.glob g cs hg)) hlaw hstart
 refine hF.wide.calls.2 (hcall.mono ?_)
 rintro e W2 ⟨⟨v,rfl⟩,Oz,Bz',k,live,hk,⟨_,_,hp,gen,m2,Ob,A,h⟩,hT2,_,_⟩
 obtain⟨l1,l2,l4,_⟩:=h.loop
 -- behind the statement
 have fin:∀ o:Loop,(∃ r,W2.heap[X.L]?=some (.loop r))->∃ C3,X.C.le C3 /\ J C3 (X.st.baseA hp gen A) { X.a with defers:=X.M.map zeY++X.a.defers } (W2.putObj X.L (.loop o)) m2:=by
  rintro o ⟨r,hr⟩
  have hW4:(W2.putObj X.L (.loop o)).heap.size=W2.heap.size:=by simp
  let C3:Cx:={ X.C with w0:=W2.putObj X.L (.loop o),prot:=fun b=>b < (W2.putObj X.L (.loop o)).heap.size /\ ¬ Own m2 b,marks:=X.M++X.C.marks,bad0:=fun b=>X.C.bad0 b \/ Ob b,out:=Ob }
  have hold:∀ b,X.C.prot b->¬ X.C.out b->(b < (W2.putObj X.L (.loop o)).heap.size /\ ¬ Own m2 b) /\ (W2.putObj X.L (.loop o)).heap[b]?=X.C.w0.heap[b]?:=fun b hp ho=>by
   have hlt:b < X.w.heap.size:=Nat.lt_of_lt_of_le (hJ.protlt b hp) hJ.grown
   obtain⟨k1,k2⟩:=h.keeps b hlt (fun hw=>(zd6 hJ hw).1 hp) ho
   refine⟨⟨by rw[hW4];exact Nat.lt_of_lt_of_le hlt h.size,k1⟩,?_⟩
   rw[World.putObj_heap_other (by have:=hX.L;omega),k2]
   exact hJ.kept b hp
  have hno:∀ b,¬ X.C.bad0 b->¬ X.C.out b:=fun b hb ho=>hb (hJ.ext.outb b ho)
  have hnob:∀ b,b < X.w.heap.size->¬ X.C.bad0 b->¬ (X.C.bad0 b \/ Ob b):=fun b hb h1 h2=>h2.elim h1 fun h2=>(h.ob.2 b h2).elim (hno b h1) (fun h=>by omega)
  have hext:JExt { C3 with fore:=zd9 X.m,wi:=X.w } (X.st.baseA hp gen A) { X.a with defers:=X.M.map zeY++X.a.defers }:=by
   refine⟨?_,?_,fun D hD=>?_,fun b hb=>?_,fun b hb=>.inr hb,fun l hl=>?_,fun l xs k v e=>?_,fun x g base hx=>?_,fun b hb=>?_,hJ.ext.pin⟩
   ·show _++_=(X.M++X.C.marks).map zeY++X.C.dfr
    rw[List.map_append,hJ.ext.defers,List.append_assoc]
   ·show(X.M++X.C.marks).Nodup
    rw[List.nodup_append]
    refine⟨hX.nodup,hJ.ext.nodup,fun a ha b hb e=>?_⟩
    subst e
    have:=(hX.M a ha).1
    have:=hJ.protlt a (hJ.ext.marks a hb).1
    have:=hJ.grown
    omega
   ·have hD':D ∈ X.M++X.C.marks:=hD
    rcases List.mem_append.1 hD' with hm|hm
    ·obtain⟨m1,m2,m3,m4⟩:=h.M D hm
     obtain⟨d1,d2⟩:=hX.M D hm
     exact⟨⟨by rw[hW4];exact m1,m2⟩,fun hb=>hb.elim (fun hb=>by have:=hbl D hb;omega) (h.mout D hm),(World.putObj_heap_other d2).trans m4⟩
    ·obtain⟨m1,m2,m3⟩:=hJ.ext.marks D hm
     obtain⟨q1,q2⟩:=hold D m1 (hno D m2)
     exact⟨q1,hnob D (Nat.lt_of_lt_of_le (hJ.protlt D m1) hJ.grown) m2,q2.trans m3⟩
   ·obtain⟨m1,m2⟩:=hJ.ext.perm b hb
    exact⟨(hold b m1 m2).1,fun ho=>(h.ob.2 b ho).elim m2 (fun h=>by have:=Nat.lt_of_lt_of_le (hJ.protlt b m1) hJ.grown;omega)⟩
   ·obtain⟨m1,m2,r,m3⟩:=hJ.ext.loop l hl
    obtain⟨q1,q2⟩:=hold l m1 (hno l m2)
    exact⟨q1,hnob l (Nat.lt_of_lt_of_le (hJ.protlt l m1) hJ.grown) m2,r,q2.trans m3⟩
   ·refine hS.stable l xs k v _ _ _ _ _ (h.seq l xs k v e) (zbV.mono (fun b _ e=>.inr (.inr (.inr (.inr (.inl e)))))) (fun b hb=>⟨hb.1,.inl ?_⟩)
    rcases hb.2 with h1|h1|h1
    ·exact .inl (Classical.byContradiction fun ho=>h1 ⟨hb.1,ho⟩)
    ·have h1':b ∈ X.M++X.C.marks:=h1
     rcases List.mem_append.1 h1' with h2|h2
     ·exact .inr (.inr (.inr (.inl h2)))
     ·exact .inr (.inr (.inl h2))
    ·exact .inr (.inl h1)
   ·have:X.m.ρ (.f x)=.at_ g base:=hx
    obtain⟨f1,f2⟩:=hJ.ext.fore x g base (by rw[<- hJ.fore x];exact this)
    exact⟨f1,.inl f2⟩
   ·obtain⟨q1,q2⟩:=hJ.ext.also b hb
    have hlt:b < X.w.heap.size:=Nat.lt_of_lt_of_le q1 hJ.grown
    refine⟨by show b < (W2.putObj X.L (.loop o)).heap.size;rw[hW4];exact Nat.lt_of_lt_of_le hlt h.size,?_⟩
    by_cases hbad:X.C.bad0 b
    ·exact .inl (.inl hbad)
    ·obtain⟨q3,q4⟩:=q2.resolve_left hbad
     obtain⟨k1,k2⟩:=hold b q3 (hno b hbad)
     exact .inr ⟨k1,fun o ho=>q4 o (by rw[<- k2];exact ho)⟩
  have hJ4:=h.J.foreign (X:=fun b=>b=X.L) (C':={ C3 with fore:=zd9 X.m,wi:=X.w }) (a':={ X.a with defers:=X.M.map zeY++X.a.defers }) (zbV.mono (fun b _ e=>.inr e)) (fun b e=>by
   subst e
   exact⟨⟨l1,l2⟩,zbM.of hr trivial⟩) rfl rfl rfl rfl (fun x q base hq=>World.putObj_heap_other (fun e=>by
    subst e
    have hq':X.m.ρ (.f x)=.at_ X.L base:=hq
    have:=hbl _ (hJ.ext.fore x _ base (by rw[<- hJ.fore x];exact hq')).2
    have:=hX.L
    omega)) (fun b hb=>⟨by rw[hW4];exact hb.elim (fun hb=>Nat.lt_of_lt_of_le (hbl b hb) h.size) (fun hb=>h.J.badlt b (.inl (.inr hb))),.inl (.inl hb)⟩) (fun b hb=>hb) hext rfl
  refine⟨C3,⟨rfl,rfl,rfl,rfl,⟨X.M,rfl,hMl,fun D hD=>Nat.le_trans hJ.grown (hX.M D hD).1⟩,fun b hb=>?_,h.os.trans hJ.os,h.tape.trans hJ.tape,h.output.trans hJ.output,?_,fun b hb=>.inl hb,h.ob.1,fun b hb=>(h.ob.2 b hb).imp id (fun h=>Nat.le_trans hJ.grown h),rfl,rfl,rfl,rfl⟩,hJ.refore hJ4 rfl rfl⟩
  ·obtain⟨m1,m2⟩:=hJ.ext.perm b hb
   exact⟨hb,(hold b m1 m2).2⟩
  ·show X.C.w0.heap.size<=(W2.putObj X.L (.loop o)).heap.size
   rw[hW4];exact Nat.le_trans hJ.grown h.size
 cases live with
 |true=>
  obtain⟨hI,hr⟩:=h.on rfl
  obtain⟨C3,hle,hJ4⟩:=fin _ ⟨_,hr⟩
  have hkx:k=X.xs.length:=hk rfl
  subst hkx
  exact⟨none,_,run_endLoop hr (by simp[LoopAt.record]),⟨C3,_,m2,.normal,hle,hdone hp gen A hI,hJ4,rfl⟩⟩
 |false=>
  obtain⟨c,hr,hc⟩:=h.off rfl
  refine⟨some c,_,run_endLoop hr (by simp[LoopAt.record]),?_⟩
  rcases hc with⟨rfl,hq⟩ |⟨id,rfl,hq⟩<;>obtain⟨C3,hle,hJ4⟩:=fin _ ⟨_,hr⟩
  ·exact wpIn_ret ⟨C3,_,m2,.ret,hle,hq,hJ4,rfl⟩
  ·exact wpIn_exit ⟨C3,_,m2,.exit id,hle,hq,hJ4,rfl⟩
theorem zkT:∀ {l:List (Id ⊕ CV)} {cs:List CV},zfJ.go l=some cs->l=cs.map .inr
 |[],cs,h=>by simp[zfJ.go]at h;subst h;rfl
 |.inr c::r,cs,h=>by
  simp only[zfJ.go,Option.map_eq_some_iff]at h
  obtain⟨l,h1,rfl⟩:=h
  simp[zkT h1]
 |.inl _::_,cs,h=>by simp[zfJ.go]at h
theorem zn4{w:World}{m:Mem}{bad0:Nat->Prop}{v:Value}{x:AV}{gf:Nat}{cs:List CV}(h:AVRep w m bad0 v x)(hx:zfJ x=some (gf,cs)) :
  ∃ vs:Array Value,v=.func (.func gf) #[] vs /\ vs.size=cs.length /\ ∀(j:Nat) (u:Value) (c:CV),vs[j]?=some u->cs[j]?=some c->CRep w (Bad m bad0) u c:=by
 unfold zfJ at hx
 split at hx
 ·cases hx
  have h':=zar h
  cases h' with
  |fn g vs caps hl hr=>exact⟨vs.toArray,rfl,by simpa using hl,fun j u c hu hc=>hr j u c (by simpa using hu) hc⟩
 ·rw[Option.map_eq_some_iff]at hx
  obtain⟨cs',h1,e⟩:=hx
  cases e
  obtain⟨vs,hv,hl,_,h2⟩:=zar h
  have:=zkT h1
  subst this
  exact⟨vs,hv,by simpa using hl,fun j u c hu hc=>h2 j u c hu (by rw[List.getElem?_map,hc];rfl)⟩
 ·cases hx
theorem zmd{P:Program}{F:Fence}{n:Nat}{C:Cx}{st:St}{a:Act}{w:World}{m:Mem}(hF:zfs F C)(hS:SeqLaw P C.seq)(hJ:J C st a w m){g:Operand}{ps:Array Tmp}{assign body:Code}{Q:AX->St->Prop}(hA:zql P assign)(hB:zql P body)
  (hok:C.codeOk (.rangeFunc g ps assign body)=true) (h:awp P (.rangeFunc g ps assign body) Q st):(Code.rangeFunc g ps assign body).wpIn F n P (lift C Q) a w:=by
 simp only[za6,Bool.and_eq_true,List.all_eq_true,decide_eq_true_eq,Option.isNone_iff_eq_none,Option.map_eq_none_iff]at hok
 obtain⟨⟨⟨okN,okA⟩,okB⟩,okP⟩:=hok
 rw[okN]at okA okB
 unfold awp at h
 obtain⟨st',A0,hgh,hA0,h⟩:=h
 obtain⟨m',hJ⟩:=hgh _ _ _ _ hJ
 split at h
 ·rename_i gf cs hg
  obtain⟨xs,I,hseq,hlen,h0,hround,hdone⟩:=h
  obtain⟨vs,hev,hvl,hvr⟩:=zn4 (hJ.ev g) hg
  obtain⟨fn0,f1,f2,f3⟩:=hseq.1
  have hcf:∀ args w,(callFunc gf args).run P w=.ok (.enter gf args) w:=by
   intro args w
   have h2' : ¬ fn0.name = "runtime.NumGoroutine" := by simpa using f2
   have h3':¬ fn0.body=none:=by intro e;rw[e]at f3;simp at f3
   simp[callFunc,f1,h2',h3']
  refine wpIn_rangeFunc ?_
  intro fn hfn
  -- what is laid
  have lay:∃(L:Nat) (M:List Nat) (W1:World) (dfr:Nat),(Instr.enterLoop fn a.tmps ps assign body F.round).run P w=.ok (L,M.map zeY) W1 /\ (C.loop.isSome=true->M=[]) /\ w.heap.size<=L /\ (∀ D ∈ M,w.heap.size<=D /\ D ≠ L) /\ M.Nodup /\ Turn (fun _=>False) w W1 /\ L < W1.heap.size /\
    W1.heap[L]?=some (.loop { state:=.ready,pending:=none,fn:=fn,tmps:=a.tmps,params:=ps,assign:=assign,body:=body,defers:=dfr }) /\ ∀ D ∈ M,D < W1.heap.size /\ W1.heap[D]?=some (.deferred (some [])):=by
   rcases hF with⟨rfl,hl⟩ |⟨l0,rfl,hl⟩
   ·refine⟨w.heap.size+1,[w.heap.size],_,w.heap.size,run_enterLoop_outer _ _ _ _ _,?_,by omega,?_,?_,?_,by simp,?_,?_⟩
    ·intro h;rw[hl]at h;cases h
    ·intro D hD;simp at hD;subst hD;exact⟨Nat.le_refl _,by omega⟩
    ·simp
    ·exact⟨by simp;omega,rfl,rfl,rfl,fun b hb _=>(Below.heap_alloc _ _ _ (by simp;omega)).trans (Below.heap_alloc _ _ _ hb)⟩
    ·have:=World.alloc_heap_new (w.alloc (.deferred (some []))) (.loop { state:=.ready,pending:=none,fn:=fn,tmps:=a.tmps,params:=ps,assign:=assign,body:=body,defers:=w.heap.size })
     rwa [World.size_alloc]at this
    ·intro D hD
     simp at hD;subst hD
     exact⟨by simp;omega,(Below.heap_alloc _ _ _ (by simp)).trans (World.alloc_heap_new w _)⟩
   ·obtain⟨q1,_,r0,q2⟩:=hJ.ext.loop l0 hl
    have hr0:w.heap[l0]?=some (.loop r0):=(hJ.kept l0 q1).trans q2
    refine⟨w.heap.size,[],_,r0.defers,run_enterLoop_inner hr0 _ _ _ _ _,fun _=>rfl,Nat.le_refl _,?_,List.nodup_nil,?_,by simp,World.alloc_heap_new w _,?_⟩
    ·intro D hD;cases hD
    rotate_left
    ·intro D hD;cases hD
    exact⟨by simp,rfl,rfl,rfl,fun b hb _=>Below.heap_alloc _ _ _ hb⟩
  obtain⟨L,M,W1,dfr,hent,hMl,hLw,hMw,hMn,hT1,hL1,hrec,hM1⟩:=lay
  let X:LoopAt:={ C:=C,st:=st',a:=a,w:=w,m:=m',L:=L,M:=M,fn:=fn,ps:=ps,assign:=assign,body:=body,dfr:=dfr,Q:=Q,xs:=xs,I:=I }
  have hX:LoopOk X:=⟨hJ,hLw,hMw,hMn⟩
  have hlaw:SeqLaw P (seqR X):=zqN hX hS hA hB okA okB (fun p hp=>by simpa using okP p hp) hlen hround
  refine⟨L,M.map zeY,W1,{ target:=.fn (.func gf) vs,args:=#[.func (.yield L) #[] #[]] },W1,gf,#[.func (.yield L) #[] #[]]++vs,W1,hent,?_,fun f' _=>hF.wide.fn f',?_,hF.wide.one,?_⟩
  ·simp only[resolve,hev]
   simp[go_sem]
  ·simp[invoke,go_sem,hcf]
  ·exact znW (X:=X) hX hS hA0 hF (fun h=>hMl (by rw[show X.C.pin=none from okN]at h;simpa using h)) hT1 hL1 hrec hM1 hlaw hvl hvr hseq h0 hdone
 ·exact h.elim
theorem zjt{P:Program}{F:Fence}{n:Nat}(hF:zd0 F){c:Code}{Q:Exit->Act->World->Prop}{I:St->Prop}{μ:St->Nat}{C0:Cx}
  (round:∀ C st a w m,C0.le C->I st->J C st a w m->c.wpIn F n P (Exit.then (fun a' w'=>∃ C' st' m',C.le C' /\ (I st' /\ μ st' < μ st) /\ J C' st' a' w' m') Q) a w) {st:St} {a:Act} {w:World} {m:Mem} (h0:I st) (hJ:J C0 st a w m) :
  (Code.loop c).wpIn F n P Q a w:=by
 intro b k cs hro hb hr
 have key:∀ j C st a w m,μ st=j->C0.le C->I st->J C st a w m ->
   ∃ e a' w',Q e a' w' /\ ArrivesIn (Machine.fenced P F) P (lone (b.atR a (.code c::.inLoop c::k)) cs w) b k cs e a' w':=by
  intro j
  induction j using Nat.strongRecOn with
  |_ j ih=>
   intro C st a w m hn hle hI hJ
   obtain⟨e,a₁,w₁,hq,harr⟩:=round C st a w m hle hI hJ b (.inLoop c::k) cs hro hb hr
   cases e with
   |normal=>
    obtain⟨C',st',m',hle',⟨hI₁,hlt⟩,hJ'⟩:=hq
    obtain⟨e₂,a₂,w₂,hq₂,harr₂⟩:=ih (μ st') (hn ▸ hlt) C' st' a₁ w₁ m' rfl (hle.trans hle') hI₁ hJ'
    exact⟨e₂,a₂,w₂,hq₂,.of_steps (StepsIn.trans harr (.one (fenced_calm hb hr rfl) stepR_inLoop)) harr₂⟩
   |exit id=>exact⟨_,a₁,w₁,hq,.pass (x:=.inLoop c) rfl (fun _ _=>.inl (by simp)) harr⟩
   |goto l=>exact⟨_,a₁,w₁,hq,.pass (x:=.inLoop c) rfl (fun _ _=>.inl (by simp)) harr⟩
   |ret=>exact⟨_,a₁,w₁,hq,.pass (x:=.inLoop c) rfl (fun _ _=>.inl (by simp)) harr⟩
   |panic ch=>exact⟨_,a₁,w₁,hq,.pass (x:=.inLoop c) rfl (fun _ _=>.inl (by simp)) harr⟩
   |outgrown=>exact⟨_,a₁,w₁,hq,.pass (x:=.inLoop c) rfl (fun _ _=>.inl (by simp)) harr⟩
 obtain⟨e,a',w',hq,harr⟩:=key _ C0 st a w m rfl (Cx.le.refl C0) h0 hJ
 exact⟨e,a',w',hq,.of_steps (.one (fenced_calm hb hr rfl) stepR_loop) harr⟩
theorem zaW{C C1:Cx}{Q:AX->St->Prop}(hle:C.le C1){e:Exit}{a:Act}{w:World}{st:St}{m:Mem}{x:AX}(hq:Q x st)(hJ:J C1 st a w m)(hx:ExR w m C1.bad0 x e):lift C Q e a w:=⟨C1,st,m,x,hle,hq,hJ,hx⟩
theorem zlz{C C':Cx}(h:C.le C'){c:Code}(hc:C.codeOk c=true):C'.codeOk c=true:=by
 unfold Cx.codeOk;rw[h.N,h.pin];exact hc
theorem zbD{P:Program}(hm:P.follows .mixedOrders=true):∀ c:Code,zql P c
 |.skip=>fun F n C Q st a w m hF hS hok h hJ=>wpIn_skip (zf0 h hJ rfl)
 |.region rid ops false=>fun F n C Q st a w m hF hS hok h hJ=>by
  obtain⟨_,k2⟩:=zeS hok
  unfold awp at h
  obtain⟨st',hgh,h⟩:=h
  obtain⟨m',hJ⟩:=hgh _ _ _ _ hJ
  exact wpIn_region_list (List.append_nil ops.toList ▸ zfH hF.wide [] ops.toList 0 C _ a w m' hS rfl (fun j k _=>hJ.gen _ _ _ (Nat.lt_succ_self _)) h hJ.up k2 (fun C' st' a' w' m' hle hk hJ'=>zaW (x:=.normal) hle hk hJ' rfl)
   (fun C' x st' v a' w' m' hle hk hJ' hv=>zaW (x:=.pan x) hle hk hJ' ⟨v,rfl,hv⟩))
 |.region rid ops true=>fun F n C Q st a w m hF hS hok h hJ=>by
  obtain⟨k1,k2⟩:=zeS hok
  unfold awp at h
  obtain⟨st',hgh,h⟩:=h
  obtain⟨m',hJ⟩:=hgh _ _ _ _ hJ
  rcases h with h|h
  ·exact zoi (st:={ st' with gen:=st'.gen+1 }) (K:=Q .normal) hF.wide hm (k1 rfl) h hJ.up (Nat.le_refl _) (fun j k=>hJ.gen _ _ _ (Nat.lt_succ_self _)) k2 (znm C Q) (fun st' a' w' m' hk hJ'=>zf0 (x:=.normal) hk hJ' rfl) (fun x hE st' v a' w' m' hJ' hv=>zf0 (x:=.pan x) (hE st') hJ' ⟨v,rfl,hv⟩)
  ·exact zn8 (K:=Q .normal) hF.wide hm h hJ.up (Nat.le_refl _) (fun j k=>hJ.gen _ _ _ (Nat.lt_succ_self _)) k2 (znm C Q) (fun st' a' w' m' hk hJ'=>zf0 (x:=.normal) hk hJ' rfl)
 |.seq x y=>fun F n C Q st a w m hF hS hok h hJ=>by
  simp only[za6,Bool.and_eq_true]at hok
  refine wpIn_seq (Code.wpIn_mono ?_ (zbD hm x F n C _ st a w m hF hS hok.1 h hJ))
  rintro e a' w' ⟨C',st',m',z,hle,hq,hJ',hz⟩
  cases z with
  |normal=>
   have e0:e=.normal:=hz
   subst e0
   exact Code.wpIn_mono (fun e a w h=>zpF hle h) (zbD hm y F n C' Q st' a' w' m' (hF.le hle) (by rw[hle.seq];exact hS) (zlz hle hok.2) hq hJ')
  |pan v=>obtain⟨u,rfl,hu⟩:=hz;exact zaW (x:=.pan v) hle hq hJ' ⟨u,rfl,hu⟩
  |exit i=>have e0:e=.exit i:=hz;subst e0;exact zaW (x:=.exit i) hle hq hJ' rfl
  |goto i=>have e0:e=.goto i:=hz;subst e0;exact zaW (x:=.goto i) hle hq hJ' rfl
  |ret=>have e0:e=.ret:=hz;subst e0;exact zaW (x:=.ret) hle hq hJ' rfl
 |.cond c x y=>fun F n C Q st a w m hF hS hok h hJ=>by
  simp only[za6,Bool.and_eq_true]at hok
  unfold awp at h
  split at h
  ·rename_i t ht
   have hr:=hJ.ev c
   rw[ht]at hr
   exact wpIn_cond_split (zck hr) (fun e=>zbD hm x F n C Q st a w m hF hS hok.1 (h.1 e) hJ) (fun e=>zbD hm y F n C Q st a w m hF hS hok.2 (h.2 e) hJ)
  ·exact h.elim
 |.block id b=>fun F n C Q st a w m hF hS hok h hJ=>by
  refine wpIn_block (Code.wpIn_mono ?_ (zbD hm b F n C _ st a w m hF hS hok h hJ))
  rintro e a' w' ⟨C',st',m',z,hle,hq,hJ',hz⟩
  cases z with
  |normal=>have e0:e=.normal:=hz;subst e0;exact zaW (x:=.normal) hle hq hJ' rfl
  |pan v=>obtain⟨u,rfl,hu⟩:=hz;exact zaW (x:=.pan v) hle hq hJ' ⟨u,rfl,hu⟩
  |exit i=>
   have e0:e=.exit i:=hz
   subst e0
   simp only[zeW]at hq
   simp only[Exit.inBlock]
   split at hq
   ·rename_i e;rw[if_pos e];exact zaW (x:=.normal) hle hq hJ' rfl
   ·rename_i e;rw[if_neg e];exact zaW (x:=.exit i) hle hq hJ' rfl
  |goto i=>have e0:e=.goto i:=hz;subst e0;exact zaW (x:=.goto i) hle hq hJ' rfl
  |ret=>have e0:e=.ret:=hz;subst e0;exact zaW (x:=.ret) hle hq hJ' rfl
 |.loop b=>fun F n C Q st a w m hF hS hok h hJ=>by
  obtain⟨I,μ,st',hgh,h0,hr⟩:=h
  obtain⟨m',hJ⟩:=hgh _ _ _ _ hJ
  refine zjt hF.wide (I:=I) (μ:=μ) (C0:=C) (fun C1 st a w m hle hI hJ=>?_) h0 hJ
  refine Code.wpIn_mono ?_ (zbD hm b F n C1 _ st a w m (hF.le hle) (by rw[hle.seq];exact hS) (zlz hle hok) (hr st hI) hJ)
  rintro e a' w' ⟨C',st',m',z,hle',hq,hJ',hz⟩
  cases z with
  |normal=>
   have e0:e=.normal:=hz
   subst e0
   obtain⟨s'',hg,h1,h2⟩:=hq
   obtain⟨m'',hJ''⟩:=hg _ _ _ _ hJ'
   exact⟨C',s'',m'',hle',⟨h1,h2⟩,hJ''⟩
  |pan v=>obtain⟨u,rfl,hu⟩:=hz;exact zaW (x:=.pan v) (hle.trans hle') hq hJ' ⟨u,rfl,hu⟩
  |exit i=>have e0:e=.exit i:=hz;subst e0;exact zaW (x:=.exit i) (hle.trans hle') hq hJ' rfl
  |goto i=>have e0:e=.goto i:=hz;subst e0;exact zaW (x:=.goto i) (hle.trans hle') hq hJ' rfl
  |ret=>have e0:e=.ret:=hz;subst e0;exact zaW (x:=.ret) (hle.trans hle') hq hJ' rfl
 |.exit id=>fun F n C Q st a w m hF hS hok h hJ=>wpIn_exit (zf0 (x:=.exit id) h hJ rfl)
 |.ret=>fun F n C Q st a w m hF hS hok h hJ=>wpIn_ret (zf0 (x:=.ret) h hJ rfl)
 |.label l=>fun F n C Q st a w m hF hS hok h hJ=>wpIn_label (zf0 (x:=.normal) h hJ rfl)
 |.scope b=>fun F n C Q st a w m hF hS hok h hJ=>by
  refine zfP (Code.wpIn_mono ?_ (zbD hm b F n C _ st a w m hF hS hok h hJ))
  rintro e a' w' ⟨C',st',m',z,hle,hq,hJ',hz⟩
  cases z with
  |normal=>have e0:e=.normal:=hz;subst e0;exact zaW (x:=.normal) hle hq hJ' rfl
  |pan v=>obtain⟨u,rfl,hu⟩:=hz;exact zaW (x:=.pan v) hle hq hJ' ⟨u,rfl,hu⟩
  |exit i=>have e0:e=.exit i:=hz;subst e0;exact zaW (x:=.exit i) hle hq hJ' rfl
  |goto i=>exact hq.elim
  |ret=>have e0:e=.ret:=hz;subst e0;exact zaW (x:=.ret) hle hq hJ' rfl
 |.goto l=>fun F n C Q st a w m hF hS hok h hJ=>h.elim
 |.refuse _=>fun F n C Q st a w m hF hS hok h hJ=>h.elim
 |.rangeFunc g ps x y=>fun F n C Q st a w m hF hS hok h hJ=>zmd hF hS hJ (zbD hm x) (zbD hm y) hok h
end Go.Hw
end
section
namespace Go.Hw
variable [Globals]
open Go.RowKit (Below)
def zjk(P:Program)(st:St):List ResultVar->Option (List AV)
 |[]=>some []
 |.tmp t::r=>(zjk P st r).map (st.env t::·)
 |.cell t ty::r=>match zeG P st.hp ty (st.env t),zjk P st r with
  |some x,some l=>some (x::l)
  |_,_=>none
def zeF(P:Program)(st:St)(rs:List ResultVar):Option AV:=
 match zjk P st rs with
 |some [x]=>some x
 |some l=>some (.tup l)
 |none=>none
def resF (tmps:Array Value):ResultVar->Sem Value
 |.tmp t=>pure (tmps.getD t undef)
 |.cell t ty=>do loadVar ty (<- asAddr (tmps.getD t undef))
theorem znU(fn:Func)(tmps:Array Value):results fn tmps=(do let vs <- fn.results.mapM (resF tmps);pure (if h:vs.size=1 then vs[0] else .tuple vs)):=by
 have e:(fun(r:ResultVar)=>match r with
   |.tmp t=>pure (tmps.getD t undef)
   |.cell a t=>do loadVar t (<- asAddr (tmps.getD a undef)):ResultVar->Sem Value)=resF tmps:=by
  funext r;cases r<;>rfl
 rw[<- e];rfl
section
variable {P:Program} {C:Cx} {st:St} {a:Act} {w:World} {m:Mem}
theorem zob{t:TypeId}{v r:Value}{w':World}(h:(Instr.loadAt t v).run P w=.ok r w'):∃ a,v=.pointer (some a) /\ (loadVar t a).run P w=.ok r w':=by
 unfold Instr.loadAt at h
 cases v with
 |pointer a=>
  cases a with
  |some a=>exact⟨a,rfl,by simpa [Instr.sureAddr]using h⟩
  |none=>simp[Instr.sureAddr,go_sem]at h
 |_=>simp[Instr.sureAddr,go_sem]at h
theorem zl8(hJ:J C st a w m):∀(rs:List ResultVar) (l:List AV),zjk P st rs=some l ->
  ∃ vs:List Value,(rs.mapM (resF a.tmps):Sem (List Value)).run P w=.ok vs w /\ vs.length=l.length /\ ∀(j:Nat) (u:Value) (x:AV),vs[j]?=some u->l[j]?=some x->AVRep w m C.bad0 u x
 |[],l,h=>by
  simp[zjk]at h
  subst h
  exact⟨[],by simp,rfl,by simp⟩
 |.tmp t::r,l,h=>by
  simp only[zjk]at h
  cases hr:zjk P st r with
  |none=>simp[hr]at h
  |some l'=>
   simp[hr]at h
   subst h
   obtain⟨vs,h1,h2,h3⟩:=zl8 hJ r l' hr
   refine⟨a.tmps.getD t undef::vs,by simp only[List.mapM_cons,resF,Sem.run_bind,Sem.run_pure,Result.andThen_ok,h1],by simp[h2],fun j u x hu hx=>?_⟩
   cases j with
   |zero=>
    simp only[List.getElem?_cons_zero,Option.some.injEq]at hu hx
    subst hu hx;exact hJ.env t
   |succ j=>exact h3 j u x (by simpa using hu) (by simpa using hx)
 |.cell t ty::r,l,h=>by
  simp only[zjk]at h
  split at h
  ·rename_i y l' hy hr
   cases h
   obtain⟨vs,h1,h2,h3⟩:=zl8 hJ r l' hr
   obtain⟨v,hrun,hv⟩:=ziw (P:=P) hJ.hp (hJ.env t) hy
   refine⟨v::vs,?_,by simp[h2],fun j u x hu hx=>?_⟩
   ·obtain⟨y,hy,hl⟩:=zob hrun
    have hA:(asAddr (a.tmps.getD t undef)).run P w=.ok y w:=by rw[hy];rfl
    simp only[List.mapM_cons,resF,Sem.run_bind,hA,Sem.run_pure,Result.andThen_ok,hl,h1]
   ·cases j with
    |zero=>simp at hu hx;subst hu hx;exact hv
    |succ j=>exact h3 j u x (by simpa using hu) (by simpa using hx)
  ·cases h
theorem zj8(hJ:J C st a w m){fn:Func}{x:AV}(h:zeF P st fn.results.toList=some x):∃ v,(results fn a.tmps).run P w=.ok v w /\ AVRep w m C.bad0 v x:=by
 unfold zeF at h
 have main:∀ l,zjk P st fn.results.toList=some l->∃ vs:List Value,(results fn a.tmps).run P w=.ok (if h:vs.toArray.size=1 then vs.toArray[0] else .tuple vs.toArray) w /\ vs.length=l.length /\
   ∀(j:Nat) (u:Value) (x:AV),vs[j]?=some u->l[j]?=some x->AVRep w m C.bad0 u x:=by
  intro l hl
  obtain⟨vs,h1,h2,h3⟩:=zl8 hJ _ l hl
  refine⟨vs,?_,h2,h3⟩
  rw[znU,Array.mapM_eq_mapM_toList]
  simp only[Sem.run_bind,Sem.run_map,h1,Result.andThen_ok,Sem.run_pure]
 split at h
 ·rename_i y hy
  cases h
  obtain⟨vs,h1,h2,h3⟩:=main _ hy
  match vs,h2 with
  |[v],_=>exact⟨v,by simpa using h1,h3 0 v _ rfl rfl⟩
 ·rename_i l hne hl
  cases h
  obtain⟨vs,h1,h2,h3⟩:=main _ hl
  have hsz:¬ vs.toArray.size=1:=by
   intro e
   match l,h2 with
   |[y],_=>exact hne y rfl
   |[],h2=>simp only[List.size_toArray]at e;simp only[List.length_nil]at h2;omega
   |_::_::_,h2=>simp only[List.size_toArray]at e;simp only[List.length_cons]at h2;omega
  rw[dif_neg hsz]at h1
  exact⟨_,h1,.tup _ _ (by simpa using h2) fun j u x hu hx=>h3 j u x (by simpa using hu) hx⟩
 ·cases h
end
theorem leaves{P:Program}{F:Fence}{n:Nat}(hF:zd0 F){fn:Func}{R:Ending->World->Prop}{B0:Nat}{u:FrameMode}(hu:u ≠ .run):∀(ms:List Nat) (C:Cx) (st:St) (a:Act) (w:World) (m:Mem),SeqLaw P C.seq->J C st a w m->C.marks=ms->(∀ D ∈ ms,B0<=D) ->
  (∀ C' a' w',C'.marks=[]->C'.seq=C.seq->C'.fore=C.fore->C'.wi=C.wi->C'.bad0=C.bad0->C'.out=C.out->Turn (fun b=>B0<=b) w w'->a'.tmps=a.tmps->J C' st a' w' m->C'.dfr=C.dfr->C'.pin=C.pin->LeavesInM F n P fn a.tmps R C.dfr u w')->LeavesInM F n P fn a.tmps R a.defers u w
 |[],C,st,a,w,m,hS,hJ,hm,hB,h=>by
  have hd:=hJ.ext.defers
  rw[hm]at hd
  rw[hd]
  exact h C a w hm rfl rfl rfl rfl rfl (Turn.refl _ _) rfl hJ rfl rfl
 |D::ms,C,st,a,w,m,hS,hJ,hm,hB,h=>by
  have hd:=hJ.ext.defers
  rw[hm]at hd
  rw[hd]
  obtain⟨m1,m2,m3⟩:=hJ.ext.marks D (by rw[hm];simp)
  have hD:w.heap[D]?=some (.deferred (some [])):=(hJ.kept D m1).trans m3
  have hDlt:D < w.heap.size:=(Array.getElem?_eq_some_iff.1 hD).1
  have hw2:(w.putObj D (.deferred none)).heap.size=w.heap.size:=by simp
  have hno:∀ b,C.prot b->¬ Own m b:=fun b hp ho=>(zd6 hJ ho).1 hp
  have hlt:∀ b,C.prot b->b < w.heap.size:=fun b hp=>Nat.lt_of_lt_of_le (hJ.protlt b hp) hJ.grown
  have hnd:=hJ.ext.nodup
  rw[hm]at hnd
  let C':Cx:={ C with w0:=w.putObj D (.deferred none),prot:=fun b=>b < (w.putObj D (.deferred none)).heap.size /\ ¬ Own m b,marks:=ms }
  have hext:JExt C' st ⟨a.tmps,ms.map zeY++C.dfr⟩:=by
   refine⟨rfl,(List.nodup_cons.1 hnd).2,fun E hE=>?_,fun b hb=>?_,hJ.ext.outb,fun l hl=>?_,fun l xs k v e=>?_,hJ.ext.fore,fun b hb=>?_,hJ.ext.pin⟩
   ·obtain⟨q1,q2,q3⟩:=hJ.ext.marks E (by rw[hm];exact List.mem_cons_of_mem _ hE)
    have hne:E ≠ D:=fun e=>(List.nodup_cons.1 hnd).1 (e ▸ hE)
    exact⟨⟨by rw[hw2];exact hlt E q1,hno E q1⟩,q2,(World.putObj_heap_other hne).trans ((hJ.kept E q1).trans q3)⟩
   ·obtain⟨q1,q2⟩:=hJ.ext.perm b hb
    exact⟨⟨by rw[hw2];exact hlt b q1,hno b q1⟩,q2⟩
   ·obtain⟨q1,q2,r,q3⟩:=hJ.ext.loop l hl
    have hl':w.heap[l]?=some (.loop r):=(hJ.kept l q1).trans q3
    have hne:l ≠ D:=fun e=>by rw[e,hD]at hl';cases hl'
    exact⟨⟨by rw[hw2];exact hlt l q1,hno l q1⟩,q2,r,(World.putObj_heap_other hne).trans hl'⟩
   ·refine hS.stable l xs k v _ _ _ _ _ (zfu hS hJ e) (zbV.mono (fun b _ hb=>.inr (.inl (by rw[hm,hb];simp)))) (fun b hb=>⟨hb.1,.inl ?_⟩)
    rcases hb.2 with h1|h1
    ·exact .inl (Classical.byContradiction fun ho=>h1 ⟨hb.1,ho⟩)
    ·exact .inr (h1.imp (fun h1=>by rw[hm];exact List.mem_cons_of_mem _ h1) id)
   ·obtain⟨q1,q2⟩:=hJ.ext.also b hb
    refine⟨by rw[hw2];exact Nat.lt_of_lt_of_le q1 hJ.grown,q2.imp id fun⟨q3,q4⟩=>⟨⟨by rw[hw2];exact hlt b q3,hno b q3⟩,fun o ho=>?_⟩⟩
    by_cases hne:b=D
    ·subst hne
     rw[World.putObj_heap_same hDlt]at ho;cases ho;trivial
    ·exact q4 o (by rw[<- hJ.kept b q3];exact(World.putObj_heap_other hne).symm.trans ho)
  have hJ2:=hJ.foreign (X:=fun b=>b=D) (C':=C') (a':=⟨a.tmps,ms.map zeY++C.dfr⟩) (zbV.mono (fun b _ e=>.inr e)) (fun b e=>by
   subst e
   exact⟨m1,zbM.of hD trivial⟩) rfl rfl rfl rfl (fun x q base hq=>World.putObj_heap_other (fun e=>by
   subst e
   exact m2 (hJ.ext.fore x _ base hq).2)) (fun b hb=>⟨by
   show b < (w.putObj D (.deferred none)).heap.size
   rw[hw2];exact hJ.badlt b hb,.inl hb⟩) (fun b hb=>hb) hext rfl
  refine⟨hu,.inl ⟨D,_,rfl,run_takeDeferred hD,?_⟩⟩
  refine leaves hF hu ms C' st ⟨a.tmps,ms.map zeY++C.dfr⟩ _ m hS hJ2 rfl (fun E hE=>hB E (List.mem_cons_of_mem _ hE)) (fun C'' a' w' c1 c2 c3 c3' c4 c4' c5 c6 c7 c8 c9=>h C'' a' w' c1 c2 c3 c3' c4 c4' ?_ c6 c7 c8 c9)
  exact zbV.trans c5 (fun b _ e=>by rw[e];exact hB D (by simp)) (fun b _ e=>e)
def st0 (args:List AV)(pre:List Blk):St:={ env:=fun s=>args.getD s .bad,hp:=fun i=>match i with|.a k=>pre[k]?|_=>none,gen:=0,acc:=none }
def Mem.fin(m:Mem)(post:List (Id × Blk)):Mem:=⟨fun i=>if isF i ||(lk post i).isSome then m.ρ i else .dead,fun i j=>if isF i ||(lk post i).isSome then m.hid i j else []⟩
theorem J.start{fn:Func}{args:List AV}{pre:List Blk}(hargs:args.length<=fn.ntmps){w:World}{vs:Array Value}{bad0:Nat->Prop}{m:Mem}(hP:Pre w m bad0 pre)(hlen:vs.size=args.length)
  (hrep:∀(j:Nat) (u:Value) (x:AV),vs[j]?=some u->args[j]?=some x->AVRep w m bad0 u x)
  (hglob:∀ g cs,Globals.G g=some cs->AVRep w m bad0 (.pointer (some ⟨g,0,none⟩)) (.cell (.ep cs 0))) {out:Nat->Prop} (hout:∀ b,out b->bad0 b) (hfo:∀ x g base,m.ρ (.f x)=.at_ g base->¬ out g)
  (seq:Nat->List (List EV)->Nat->Bool->(Nat->Prop)->(Nat->Prop)->World->Prop) :
  J { prot:=fun b=>b < w.heap.size /\ ¬ Own m b,bad0:=bad0,w0:=w,N:=fn.ntmps,perm:=fun b=>(b < w.heap.size /\ ¬ Own m b) /\ ¬ out b,marks:=[],loop:=none,out:=out,fore:=m.ρ,wi:=w,seq:=seq,also:=fun _=>False } (st0 args pre)
   { tmps:=vs++Array.replicate (fn.ntmps - vs.size) undef,defers:=[] } w m:=by
 refine⟨by simp;omega,⟨rfl,List.nodup_nil,fun D hD=>(by cases hD),fun b hb=>hb,hout,fun l hl=>(by cases hl),fun l xs k v e=>(by cases e),fun x g base h=>?_,fun b h=>h.elim,fun t v e=>(by cases e)⟩,rfl,rfl,rfl,Nat.le_refl _,fun _ _=>rfl,fun b h=>h.1,hP.badlt,
  ⟨fun q hq=>⟨(hP.ok.lt q hq).1,fun h=>h.2 hq,(hP.ok.lt q hq).2.2⟩,hP.ok.inj,hP.ok.sep,hP.ok.hnd,hP.ok.hdj⟩,fun s=>?_,fun i b h=>?_,fun g i k h=>?_,fun x=>rfl,fun x _=>.inr (.inr rfl),fun _ _ _ _ _ _ _ hs=>hs,hglob⟩
 ·have h1:=hP.frn (.f x) g base rfl h
  exact⟨⟨⟨hP.badlt g h1,fun ho=>(hP.ok.lt g ho).2.2 h1⟩,hfo x g base h⟩,h1⟩
 ·simp only[st0]
  rcases Nat.lt_or_ge s args.length with hs|hs
  ·have h1:(vs++Array.replicate (fn.ntmps - vs.size) undef).getD s undef=vs[s]'(by omega):=by
    rw[Array.getD_eq_getD_getElem?,Array.getElem?_append_left (by omega),Array.getElem?_eq_getElem (by omega)];rfl
   rw[h1,List.getD_eq_getElem?_getD,List.getElem?_eq_getElem hs]
   exact hrep s _ _ (Array.getElem?_eq_getElem (by omega)) (List.getElem?_eq_getElem hs)
  ·rw[List.getD_eq_getElem?_getD,List.getElem?_eq_none hs];exact .bad _
 ·simp only[st0]at h
  split at h
  ·exact⟨rfl,hP.blk _ b h⟩
  ·cases h
 ·cases hs:m.ρ (.o g i k) with
  |un=>rfl
  |_=>rcases hP.dom (.o g i k) (by rw[hs];simp) with h |⟨_,h,_⟩<;>cases h
theorem ztn{post:List (Id × Blk)}{i:Id}{b:Blk}(h:(i,b) ∈ post):(lk post i).isSome=true:=by
 cases hl:lk post i with
 |some _=>rfl
 |none=>exact(zmw hl b h).elim
theorem zmh{C:Cx}{st:St}{a:Act}{w w':World}{m m':Mem}{bad0:Nat->Prop}{pre:List Blk}{post:List (Id × Blk)}(hP:Pre w m bad0 pre)(hJ:J C st a w' m')(hfo:C.fore=m.ρ)(hwi:C.wi=w)(hbad:∀ b,bad0 b->C.bad0 b)
  (hT:Turn (Own m) w w') (hno:∀ b,b < w.heap.size->¬ Own m b->¬ Own m' b) (hpost:∀ p ∈ post,st.hp p.1=some p.2) :
  Ext w' m' C.bad0 w' (m'.fin post) bad0 /\ Post w m bad0 w' (m'.fin post) post:=by
 have hown:∀ q,Own (m'.fin post) q->Own m' q:=by
  rintro q (⟨i,base,h1,h2⟩ |⟨i,j,h1⟩)
  ·simp only[Mem.fin]at h2
   split at h2
   ·exact .inl ⟨i,base,h1,h2⟩
   ·cases h2
  ·simp only[Mem.fin]at h1
   split at h1
   ·exact .inr ⟨i,j,h1⟩
   ·cases h1
 have hb:∀ q,Bad (m'.fin post) bad0 q->Bad m' C.bad0 q:=fun q h=>h.imp (hown q) (hbad q)
 have hk:∀ i q base,(m'.fin post).ρ i=.at_ q base->m'.ρ i=.at_ q base:=fun i q base h=>by
  simp only[Mem.fin]at h
  split at h
  ·exact h
  ·cases h
 have hh:∀ i j q,q ∈ (m'.fin post).hid i j->q ∈ m'.hid i j:=fun i j q h=>by
  simp only[Mem.fin]at h
  split at h
  ·exact h
  ·cases h
 have hkeep:∀ i,(lk post i).isSome=true->(m'.fin post).ρ i=m'.ρ i /\ ∀ j,(m'.fin post).hid i j=m'.hid i j:=fun i h=>by simp[Mem.fin,h]
 have E:Ext w' m' C.bad0 w' (m'.fin post) bad0:=by
  refine⟨Hx.same fun q h h'=>h (hb q h'),fun i=>?_,fun i g base n _ _ hs=>hs⟩
  simp only[Mem.fin]
  split
  ·exact .inr (.inr rfl)
  ·exact .inr (.inl rfl)
 refine⟨E,hT,⟨fun q hq=>?_,fun c d q b1 b2 h1 h2 h3 h4=>hJ.mem.inj c d q b1 b2 h1 h2 (hk _ _ _ h3) (hk _ _ _ h4),fun c q b1 d k h1 h2 h3=>hJ.mem.sep c q b1 d k h1 (hk _ _ _ h2) (hh _ _ _ h3),fun c k=>?_,fun c k c' k' q h1 h2=>hJ.mem.hdj c k c' k' q (hh _ _ _ h1) (hh _ _ _ h2)⟩,fun q hq=>?_,fun i b hib=>?_,fun x=>?_,fun k=>?_,fun k q base n hq hs=>?_,fun i hF hn=>?_⟩
 ·obtain⟨h1,h2,h3⟩:=hJ.mem.lt q (hown q hq)
  exact⟨h1,id,fun h=>h3 (hbad q h)⟩
 ·simp only[Mem.fin]
  split
  ·exact hJ.mem.hnd c k
  ·exact List.nodup_nil
 ·rcases Nat.lt_or_ge q w.heap.size with hlt|hge
  ·exact .inl (Classical.byContradiction fun ho=>hno q hlt ho (hown q hq))
  ·exact .inr hge
 ·obtain⟨h1,h2⟩:=hJ.hp i b (hpost _ hib)
  obtain⟨k1,k2⟩:=hkeep i (ztn hib)
  exact⟨h1,E.blk k1 k2 (fun q base _=>rfl) (fun j q _=>rfl) h2⟩
 ·have:(m'.fin post).ρ (.f x)=m'.ρ (.f x):=by simp[Mem.fin,isF]
  rw[this,hJ.fore,hfo]
 ·simp only[Mem.fin]
  split
  ·rcases hJ.arg (.a k) rfl with h|h|h
   ·cases h.1
   ·exact .inl h
   ·exact .inr (by rw[h,hfo])
  ·exact .inl rfl
 ·have hq':=hk _ _ _ hq
  refine hJ.argS (.a k) q base n rfl ?_ hq' (by rw[hwi];exact hs)
  rcases hJ.arg (.a k) rfl with h|h|h
  ·cases h.1
  ·rw[h]at hq';cases hq'
  ·rw[<- h,hq'];simp
 ·have:(lk post i).isSome=false:=by
   cases hl:lk post i with
   |none=>rfl
   |some b=>exact(hn b (zli hl)).elim
  simp[Mem.fin,hF,this]
def zee(P:Program)(rs:List ResultVar)(out:Out)(post:List (Id × Blk)):AX->St->Prop
 |.normal,st|.ret,st=>∃ st',Gh st st' /\ ∃ x,zeF P st' rs=some x /\ out=.ret x /\ ∀ p ∈ post,st'.hp p.1=some p.2
 |.pan x,st=>(∃ u,x=.cell (.p (.c u))) /\ out=.pan x /\ ∀ p ∈ post,st.hp p.1=some p.2
 |_,_=>False
theorem zrY {P : Program} {f : FuncId} {fn : Func} {c : Code} {args : List AV} {pre : List Blk} {out : Out} {post : List (Id × Blk)} (hm : P.follows .mixedOrders = true) (hf : P.funcs[f]? = some fn) (hname : (fn.name == "runtime.NumGoroutine") = false) (hb : fn.body = some c)
  (hargs:args.length<=fn.ntmps) (hok:codeOk fn.ntmps c=true)
  (h:awp P c (zee P fn.results.toList out post) (st0 args pre)):CAt P f args pre out post:=by
 refine⟨⟨fn,hf,hname,by rw[hb];rfl⟩,fun w vs bad0 m hP hlen hrep hglob=>?_⟩
 refine callsIn_wide (n:=0) |>.1 (callsIn_of_wp_marks (F:=Fence.wide) hf hb trivial ?_)
 have hJ:=J.start hargs hP hlen hrep hglob (out:=fun _=>False) (fun _ h=>h.elim) (fun _ _ _ _ h=>h) (fun _ _ _ _ _ _ _=>False)
 refine Code.wpIn_mono ?_ (zbD hm c Fence.wide 0 _ _ _ _ _ _ (.inl ⟨rfl,rfl⟩) (zdK P) hok h hJ)
 rintro e a' w' ⟨C',st₁,m₁,z,hle,hq,hJ₁,hz⟩
 obtain⟨ms,e1,_,e3⟩:=hle.marks
 have hmk:C'.marks=ms:=by rw[e1];exact List.append_nil ms
 have base:∀ {C'':Cx} {st:St} {m':Mem} {a'':Act} {w'':World},C''.fore=C'.fore->C''.wi=C'.wi->C''.bad0=C'.bad0->Turn (fun b=>w.heap.size<=b) w' w''->J C' st a' w' m'->J C'' st a'' w'' m'->(∀ p ∈ post,st.hp p.1=some p.2) ->
   Ext w'' m' C''.bad0 w'' (m'.fin post) bad0 /\ Post w m bad0 w'' (m'.fin post) post:=by
  intro C'' st m' a'' w'' c3 c3' c4 c5 hJ' hJ2 hpost
  refine zmh hP hJ2 (c3.trans hle.fore) (c3'.trans hle.wi) (fun b hb=>by rw[c4];exact hle.bad b hb) ⟨Nat.le_trans hle.size (Nat.le_trans hJ'.grown c5.size),c5.os.trans (hJ'.os.trans hle.os),c5.tape.trans (hJ'.tape.trans hle.tape),c5.output.trans (hJ'.output.trans hle.output),fun b hb ho=>?_⟩ (fun b hb ho ho'=>?_) hpost
  ·obtain⟨q1,q2⟩:=hle.perm b ⟨⟨hb,ho⟩,id⟩
   have hbs:b < w'.heap.size:=Nat.lt_of_lt_of_le hb (Nat.le_trans hle.size hJ'.grown)
   exact(c5.same b hbs (by omega)).trans ((hJ'.kept b (hJ'.ext.perm b q1).1).trans q2)
  ·obtain⟨q1,_⟩:=hle.perm b ⟨⟨hb,ho⟩,id⟩
   exact(zd6 hJ' ho').1 (hJ'.ext.perm b q1).1
 have main:(∃ st',Gh st₁ st' /\ ∃ x,zeF P st' fn.results.toList=some x /\ out=.ret x /\ ∀ p ∈ post,st'.hp p.1=some p.2)->LeavesInM Fence.wide 0 P fn a'.tmps (fun e w'=>∃ m',EndR w' m' bad0 out e /\ Post w m bad0 w' m' post) a'.defers .returning w':=by
  rintro⟨st',hgh,x,hx,rfl,hpost⟩
  obtain⟨m',hJ'⟩:=hgh _ _ _ _ hJ₁
  refine leaves (.inl rfl) (B0:=w.heap.size) (by simp) ms C' st' a' w' m' (by rw[hle.seq];exact zdK P) hJ' hmk (fun D hD=>e3 D hD) (fun C'' a'' w'' c1 c2 c3 c3' c4 c4' c5 c6 hJ2 _ _=>?_)
  rw[hle.dfr]
  obtain⟨v,hr,hv⟩:=zj8 hJ2 hx
  obtain⟨E,hPo⟩:=base c3 c3' c4 c5 hJ' hJ2 hpost
  rw[<- c6]
  exact⟨v,hr,_,⟨v,rfl,E.av hv⟩,hPo⟩
 cases z with
 |normal=>have e0:e=.normal:=hz;subst e0;exact main hq
 |ret=>have e0:e=.ret:=hz;subst e0;exact main hq
 |pan x=>
  obtain⟨v,rfl,hv⟩:=hz
  obtain⟨⟨u,rfl⟩,rfl,hpost⟩:=hq
  cases zck hv
  refine leaves (.inl rfl) (B0:=w.heap.size) (by simp) ms C' st₁ a' w' m₁ (by rw[hle.seq];exact zdK P) hJ₁ hmk (fun D hD=>e3 D hD) (fun C'' a'' w'' c1 c2 c3 c3' c4 c4' c5 c6 hJ2 _ _=>?_)
  obtain⟨E,hPo⟩:=base c3 c3' c4 c5 hJ₁ hJ2 hpost
  rw[hle.dfr]
  exact⟨_,⟨v,rfl,.cell _ _ (.c v)⟩,hPo⟩
 |exit i=>exact hq.elim
 |goto i=>exact hq.elim
end Go.Hw
end
section
namespace Go.Hw
variable [Globals]
open Go.RowKit (Below)
def St.setG(st:St)(l:Nat)(xs:List (List EV))(k:Nat)(live:Bool):St:={ st with acc:=some ⟨l,xs,k,live⟩ }
def zl5(P:Program)(rs:List ResultVar)(l:Nat)(xs:List (List EV)):AX->St->Prop
 |.normal,st|.ret,st=>∃ st',Gh st st' /\ (∃ x,zeF P st' rs=some x) /\ ∃ k live,st'.acc=some ⟨l,xs,k,live⟩ /\ (live=true->k=xs.length)
 |_,_=>False
theorem zl6 {P : Program} {f : FuncId} {fn : Func} {c : Code} {caps : List AV} {xs : List (List EV)} (hm : P.follows .mixedOrders = true) (hf : P.funcs[f]? = some fn) (hname : (fn.name == "runtime.NumGoroutine") = false) (hb : fn.body = some c)
  (hargs:caps.length+1<=fn.ntmps) (hok:codeOk fn.ntmps c=true)
  (h:∀ l,awp P c (zl5 P fn.results.toList l xs) ((st0 (.cell (.yl l)::caps) []).setG l xs 0 true)):zl0 P f caps xs:=by
 refine⟨⟨fn,hf,hname,by rw[hb];rfl⟩,fun w vs Bz l seq hbad hlen hrep hglob hS h0=>?_⟩
 refine callsIn_wide (n:=0) |>.1 (callsIn_of_wp_marks (F:=Fence.wide) hf hb trivial ?_)
 have hP:Pre w m0 Bz []:=⟨⟨fun q hq=>(zjJ hq).elim,fun c d q b1 b2 _ _ h=>(by cases h),fun c q b1 d k _ h=>(by cases h),fun c k=>List.nodup_nil,fun c k c' k' q h=>(by cases h)⟩,hbad,fun i h=>(h rfl).elim,fun i j h=>(h rfl).elim,fun i q base _ h=>(by cases h),fun k b h=>(by cases h)⟩
 have hJ:=(J.start (fn:=fn) (args:=.cell (.yl l)::caps) (pre:=[]) (vs:=#[.func (.yield l) #[] #[]]++vs) (by simpa using hargs) hP (by simp[hlen];omega) (fun j u x hu hx=>by
  cases j with
  |zero=>
   rw[Array.getElem?_append_left (by simp)]at hu
   simp at hu hx;subst hu hx;exact .cell _ _ rfl
  |succ j=>
   rw[Array.getElem?_append_right (by simp)]at hu
   exact hrep j u x (by simpa using hu) (by simpa using hx)) hglob (out:=Bz) (fun _ h=>h) (fun x g base h=>by cases h) seq).putG (l:=l) (xs:=xs) (k:=0) (v:=true)
  (hS.stable l xs 0 true _ _ _ _ _ h0 (Turn.refl _ _) (fun b hb=>by
   obtain⟨h1,h2|h2|h2⟩:=hb
   ·exact(h2 ⟨h1,fun ho=>zjJ ho⟩).elim
   ·cases h2
   ·exact h2.elim))
 refine Code.wpIn_mono ?_ (zbD hm c Fence.wide 0 _ _ _ _ _ _ (.inl ⟨rfl,rfl⟩) hS hok (h l) hJ)
 rintro e a' w' ⟨C',st₁,m₁,z,hle,hq,hJ₁,hz⟩
 obtain⟨ms,e1,_,e3⟩:=hle.marks
 have hmk:C'.marks=ms:=by rw[e1];exact List.append_nil ms
 have hSc:SeqLaw P C'.seq:=by rw[hle.seq];exact hS
 have main:(∃ st',Gh st₁ st' /\ (∃ x,zeF P st' fn.results.toList=some x) /\ ∃ k live,st'.acc=some ⟨l,xs,k,live⟩ /\ (live=true->k=xs.length))->LeavesInM Fence.wide 0 P fn a'.tmps (fun e w'=>(∃ v,e=.returned v) /\ ∃ Oz Bz' k live,(live=true->k=xs.length) /\ seq l xs k live Oz Bz' w' /\ Turn Bz w w' /\ (∀ b,Bz b->Bz' b) /\ (∀ b,Bz' b->Bz b \/ w.heap.size<=b)) a'.defers .returning w':=by
  rintro⟨st',hgh,⟨x,hx⟩,k,live,hg,hk⟩
  obtain⟨m',hJ'⟩:=hgh _ _ _ _ hJ₁
  refine leaves (.inl rfl) (B0:=w.heap.size) (by simp) ms C' st' a' w' m' hSc hJ' hmk (fun D hD=>e3 D hD) (fun C'' a'' w'' c1 c2 c3 c3' c4 c4' c5 c6 hJ2 _ _=>?_)
  obtain⟨v,hr,hv⟩:=zj8 hJ2 hx
  have hs:=zfu (by rw[c2];exact hSc) hJ2 hg
  rw[c2,hle.seq]at hs
  rw[<- c6,hle.dfr]
  refine⟨v,hr,⟨v,rfl⟩,_,_,k,live,hk,hs,⟨Nat.le_trans hle.size (Nat.le_trans hJ'.grown c5.size),c5.os.trans (hJ'.os.trans hle.os),c5.tape.trans (hJ'.tape.trans hle.tape),c5.output.trans (hJ'.output.trans hle.output),fun b hb hn=>?_⟩,fun b hb=>by rw[c4'];exact hle.out b hb,fun b hb=>hle.newo b (by rw[<- c4'];exact hb)⟩
  obtain⟨q1,q2⟩:=hle.perm b ⟨⟨hb,fun ho=>zjJ ho⟩,hn⟩
  have hbs:b < w'.heap.size:=Nat.lt_of_lt_of_le hb (Nat.le_trans hle.size hJ'.grown)
  exact(c5.same b hbs (by omega)).trans ((hJ'.kept b (hJ'.ext.perm b q1).1).trans q2)
 cases z with
 |normal=>have e0:e=.normal:=hz;subst e0;exact main hq
 |ret=>have e0:e=.ret:=hz;subst e0;exact main hq
 |_=>exact hq.elim
theorem zac {P : Program} {f : FuncId} {fn : Func} {c : Code} {args : List AV} {pre : List Blk} {out : Out} {post : List (Id × Blk)} (hm : P.follows .mixedOrders = true) (hf : P.funcs[f]? = some fn) (hname : (fn.name == "runtime.NumGoroutine") = false) (hb : fn.body = some c)
  (hok:(decide (args.length<=fn.ntmps) && codeOk fn.ntmps c)=true) {rs:List ResultVar} (hrs:fn.results.toList=rs)
  (h:∀ Q:AX->St->Prop,(∀ e st,zee P rs out post e st->Q e st)->awp P c Q (st0 args pre)):CAt P f args pre out post:=by
 subst hrs
 simp only[Bool.and_eq_true,decide_eq_true_eq]at hok
 exact zrY hm hf hname hb hok.1 hok.2 (h _ (fun e st h=>h))
theorem zqM {P : Program} {f : FuncId} {fn : Func} {c : Code} {caps : List AV} {xs : List (List EV)} (hm : P.follows .mixedOrders = true) (hf : P.funcs[f]? = some fn) (hname : (fn.name == "runtime.NumGoroutine") = false) (hb : fn.body = some c)
  (hok:(decide (caps.length+1<=fn.ntmps) && codeOk fn.ntmps c)=true) {rs:List ResultVar} (hrs:fn.results.toList=rs)
  (h:∀(l:Nat) (Q:AX->St->Prop),(∀ e st,zl5 P rs l xs e st->Q e st)->awp P c Q ((st0 (.cell (.yl l)::caps) []).setG l xs 0 true)):zl0 P f caps xs:=by
 subst hrs
 simp only[Bool.and_eq_true,decide_eq_true_eq]at hok
 exact zl6 hm hf hname hb hok.1 hok.2 (fun l=>h l _ (fun e st h=>h))
section
variable {P:Program} {Q:AX->St->Prop} {st:St}
theorem znT{rs:List ResultVar}{x:AV}{post:List (Id × Blk)}(st':St)(hg:Gh st st')(h:zeF P st' rs=some x)(hp:∀ p ∈ post,st'.hp p.1=some p.2):zee P rs (.ret x) post .ret st:=⟨st',hg,x,h,rfl,hp⟩
theorem zim{rs:List ResultVar}{l k:Nat}{xs:List (List EV)}{live:Bool}{e:AX}{x:AV}(he:e=.normal \/ e=.ret)(hx:zeF P st rs=some x)(hg:st.acc=some ⟨l,xs,k,live⟩)(hk:live=true->k=xs.length):zl5 P rs l xs e st:=by
 rcases he with rfl|rfl<;>exact⟨st,Gh.refl st,⟨x,hx⟩,k,live,hg,hk⟩
def St.num(s:St)(d:Nat):Int:=match s.env d with
 |.cell (.p (.c (.int _ n)))=>n
 |_=>0
theorem zdr{id:Nat}{b:Code}(h:awp P b (zeW id Q) st):awp P (.block id b) Q st:=h
theorem zrX{b:Code}(I:St->Prop)(μ:St->Nat)(st':St)(hw:Gh st st')(h0:I st')(h:∀ s,I s->∀ K:St->Prop,(∀ s' s'',Gh s' s''->I s''->μ s'' < μ s->K s')->awp P b (zf9 K Q) s):awp P (.loop b) Q st:=
 ⟨I,μ,st',hw,h0,fun s hs=>h s hs _ (fun s' s'' h1 h2 h3=>⟨s'',h1,h2,h3⟩)⟩
abbrev noA(I:(Id->Option Blk)->Nat->Prop):(Id->Option Blk)->Nat->Option Acc->Prop:=fun hp gen A=>A=none /\ I hp gen
theorem zqc{g:Operand}{ps:Array Tmp}{assign body:Code}{gf:FuncId}{cs:List CV}(xs:List (List EV))(I:Nat->(Id->Option Blk)->Nat->Prop)(st':St)(hgh:Gh st st')(hg:zfJ (evAV st'.env g)=some (gf,cs))(hseq:zl0 P gf (cs.map fun c=>.cell (.p c)) xs)
  (hlen:∀ x ∈ xs,x.length=ps.size) (h0:I 0 st'.hp st'.gen) (hr:∀ k x hp gen,xs[k]?=some x->I k hp gen->awp P assign (zf9 (awp P body (zkM st' (noA (I (k+1))) Q)) (fun _ _=>False)) (setPs ps.toList x (st'.base hp gen))) (hd:∀ hp gen,I xs.length hp gen->Q .normal (st'.base hp gen)):awp P (.rangeFunc g ps assign body) Q st:=by
 unfold awp
 refine⟨st',none,hgh,.inr rfl,?_⟩
 rw[hg]
 exact⟨xs,fun k=>noA (I k),hseq,hlen,⟨rfl,h0⟩,fun k x hp gen A hx hI=>by obtain⟨rfl,hI⟩:=hI;exact hr k x hp gen hx hI,fun hp gen A hI=>by obtain⟨rfl,hI⟩:=hI;exact hd hp gen hI⟩
theorem zo8{I:(Id->Option Blk)->Nat->Prop}{s0 s:St}(h:Q .ret (s0.base s.hp s.gen)):zkM s0 (noA I) Q .ret s:=⟨s,none,Gh.refl s,.inr rfl,h⟩
theorem znX{I:(Id->Option Blk)->Nat->Prop}{s0 s:St}{id:Nat}(h:Q (.exit id) (s0.base s.hp s.gen)):zkM s0 (noA I) Q (.exit id) s:=⟨s,none,Gh.refl s,.inr rfl,h⟩
end
end Go.Hw
end
section
namespace Go.Hw
variable [Globals]
def xSeq (P:Program)(b:Code)(Q:AX->St->Prop):AX->St->Prop:=zf9 (awp P b Q) Q
def St.up(st:St):St:={ st with gen:=st.gen+1 }
def nx (P:Program)(g:Nat)(ops:Array Oper)(i:Nat)(dst:Option Tmp)(rest:List Oper)(K:St->Prop)(E:AV->St->Prop):AV->St->Prop:=fun v st'=>aops P g ops i rest (st'.put dst v) K E
def nxF (P:Program)(g:Nat)(ops:Array Oper)(i:Nat)(dst:Option Tmp)(rest:List Oper)(st:St)(K:St->Prop)(E:AV->St->Prop):AV->List (Id × Option Blk)->Prop:=fun v u=>aops P g ops i rest ((st.app u).put dst v) K E
def exF (E:AV->St->Prop)(st:St):AV->List (Id × Option Blk)->Prop:=fun x u=>E x (st.app u)
def noE:AV->List (Id × Option Blk)->Prop:=fun _ _=>False
def panQ (Q:AX->St->Prop):AV->St->Prop:=fun x=>Q (.pan x)
def optF (o:Option AV)(X:AV->List (Id × Option Blk)->Prop):Prop:=match o with
 |some v=>X v []
 |none=>False
def ziU(x:AV)(A B:St->Prop)(st:St):Prop:=match x with
 |.cell (.p (.c (.bool t)))=>(t=true->A st) /\ (t=false->B st)
 |_=>False
def zps(P:Program)(g i:Nat)(t:TypeId)(x:AV)(st:St)(X:AV->St->Prop):Prop:=match x,segN P t with
 |.cell (.ref b off),some n=>match zeG P (openAt g i b off n st.hp) t x with
  |some v=>X v { st with hp:=openAt g i b off n st.hp }
  |none=>False
 |_,_=>False
def zlh(P:Program)(g i:Nat)(t:TypeId)(x:AV)(o:Option AV)(st:St)(X:AV->St->Prop):Prop:=match o with
 |some v=>X v st
 |none=>zps P g i t x st X
def ego (P:Program)(g:Nat)(ops:Array Oper)(i:Nat)(l:List Oper)(st:St)(Ls:List Lg)(K:St->Prop)(ED:AV->Prop):Prop:=
 dgo P g ops i l st.env st.hp Ls (fun env hp=>K { st with env:=env,hp:=hp }) ED
def pgoS (P:Program)(g:Nat)(ops:Array Oper)(p i:Nat)(l:List Oper)(st:St)(Ls:List Lg):Prop:=pgo P g ops p i l st.env st.hp Ls
def pnxF (P:Program)(g:Nat)(ops:Array Oper)(p i:Nat)(dst:Option Nat)(rest:List Oper)(op:Op)(st:St)(Ls:List Lg):AV->List (Id × Option Blk)->Prop:=
 fun v u=>pgoS P g ops p i rest ((st.app u).put dst v) (Ls++[lgOf P op st.env st.hp v u])
def dpaF (P:Program)(g:Nat)(ops:Array Oper)(i:Nat)(dst:Option Nat)(rest:List Oper)(op:Op)(st:St)(Ls:List Lg)(ED:AV->Prop):AV->List (Id × Option Blk)->Prop:=
 fun x u=>ED x /\ pgoS P g ops i (i+1) rest (st.put dst .bad) (Ls++[lgP op st.env u])
def panD (Q:AX->St->Prop):AV->Prop:=fun x=>∀ s,Q (.pan x) s
def dnxF (P:Program)(g:Nat)(ops:Array Oper)(i:Nat)(dst:Option Nat)(rest:List Oper)(op:Op)(st:St)(Ls:List Lg)(K:St->Prop)(ED:AV->Prop):AV->List (Id × Option Blk)->Prop:=
 fun v u=>ego P g ops i rest ((st.app u).put dst v) (Ls++[lgOf P op st.env st.hp v u]) K ED
def zp1(P:Program)(g:Nat)(ops:Array Oper)(i:Nat)(dst:Option Nat)(rest:List Oper)(op:Op)(st:St)(Ls:List Lg)(K:St->Prop)(ED:AV->Prop):Prop:=
 ∃ tc stb,ego P g ops i rest (st.put dst uV) (Ls++[⟨tc,[],stb⟩]) K ED
def dsl (P:Program)(g:Nat)(ops:Array Oper)(i:Nat)(c:Option Bool)(dst:Option Nat)(rest:List Oper)(op:Op)(st:St)(Ls:List Lg)(K:St->Prop)(ED:AV->Prop):Prop:=
 dsel c (fop P g i op st.env st.hp (dnxF P g ops (i+1) dst rest op st Ls K ED) noE) (zp1 P g ops (i+1) dst rest op st Ls K ED)
section congr
variable {P:Program} {c:Code} {Q:AX->St->Prop} {st st':St} {K:St->Prop} {ED:AV->Prop} {e:AX} {E:AV->St->Prop} {X Y:AV->List (Id × Option Blk)->Prop}
@[congr] theorem zw6 {zz : Nat} (hz : (0 + 0 : Nat) = zz) (h : st = st') : awp P c Q st = awp P c Q st' := by rw [h]
@[congr] theorem zt6 {zz : Nat} (hz : (0 + 0 : Nat) = zz) {b : Code} (h : st = st') : xSeq P b Q e st = xSeq P b Q e st' := by rw [h]
@[congr] theorem zsE {zz : Nat} (hz : (0 + 0 : Nat) = zz) (h : st = st') : zf9 K Q e st = zf9 K Q e st' := by rw [h]
@[congr] theorem zr5 {zz : Nat} (hz : (0 + 0 : Nat) = zz) {i : Nat} (h : st = st') : zeW i Q e st = zeW i Q e st' := by rw [h]
@[congr] theorem zqA {zz : Nat} (hz : (0 + 0 : Nat) = zz) (h : st = st') : ze7 Q e st = ze7 Q e st' := by rw [h]
@[congr] theorem zu9 {g g' i : Nat} {ops : Array Oper} {l : List Oper} (hg : g = g') (h : st = st') : aops P g ops i l st K E = aops P g' ops i l st' K E := by rw [h, hg]
@[congr] theorem zwp {g g' i : Nat} {o : Op} {X E : AV -> St -> Prop} (hg : g = g') (h : st = st') : gop P g i o st X E = gop P g' i o st' X E := by rw [h, hg]
@[congr] theorem zuF {zz : Nat} (hz : (0 + 0 : Nat) = zz) {g i : Nat} {o : Op} {X E : AV -> St -> Prop} {a b : Option Bool} (h0 : a = b) (h : st = st') : gsel P g i a o st X E = gsel P g i b o st' X E := by rw [h0, h]
@[congr] theorem zwA {zz : Nat} (hz : (0 + 0 : Nat) = zz) {g i : Nat} {op : Op} {env env' : Nat -> AV} {hp hp' : Id -> Option Blk} : fop P g i op env hp X Y = fop P g i op env hp X Y := rfl
@[congr] theorem zuq {zz : Nat} (hz : (0 + 0 : Nat) = zz) {a b : Option AV} (h0 : a = b) : optF a X = optF b X := by rw [h0]
@[congr] theorem ztM {zz : Nat} (hz : (0 + 0 : Nat) = zz) {a b : AV} {A B : St -> Prop} (h0 : a = b) (h : st = st') : ziU a A B st = ziU b A B st' := by rw [h0, h]
@[congr] theorem ztm {zz : Nat} (hz : (0 + 0 : Nat) = zz) {g i : Nat} {t : TypeId} {x y : AV} {a b : Option AV} {X : AV -> St -> Prop} (hx : x = y) (h0 : a = b) (h : st = st') : zlh P g i t x a st X = zlh P g i t y b st' X := by rw [hx, h0, h]
@[congr] theorem zyj {zz : Nat} (hz : (0 + 0 : Nat) = zz) {g i : Nat} {ops : Array Oper} {dst : Option Tmp} {rest : List Oper} {a b : AV} (h0 : a = b) (h : st = st') : nx P g ops i dst rest K E a st = nx P g ops i dst rest K E b st' := by rw [h0, h]
@[congr] theorem zv8 {zz : Nat} (hz : (0 + 0 : Nat) = zz) {g i : Nat} {ops : Array Oper} {dst : Option Tmp} {rest : List Oper} {a b : AV} {u u' : List (Id × Option Blk)} (h0 : a = b) (h : u = u') : nxF P g ops i dst rest st K E a u = nxF P g ops i dst rest st K E b u' := by rw [h0, h]
@[congr] theorem zs4 {zz : Nat} (hz : (0 + 0 : Nat) = zz) {st0 : St} {I : (Id -> Option Blk) -> Nat -> Option Acc -> Prop} (h : st = st') : zkM st0 I Q e st = zkM st0 I Q e st' := by rw [h]
@[congr] theorem zwS {g g' i : Nat} {ops : Array Oper} {l : List Oper} {Ls Ls' : List Lg} (hg : g = g') (h : st = st') (h1 : Ls = Ls') : ego P g ops i l st Ls K ED = ego P g' ops i l st' Ls' K ED := by rw [h, h1, hg]
@[congr] theorem zuW {zz : Nat} (hz : (0 + 0 : Nat) = zz) {g i : Nat} {ops : Array Oper} {dst : Option Tmp} {rest : List Oper} {op : Op} {Ls : List Lg} {a b : AV} {u u' : List (Id × Option Blk)} (h0 : a = b) (h : u = u') : dnxF P g ops i dst rest op st Ls K ED a u = dnxF P g ops i dst rest op st Ls K ED b u' := by rw [h0, h]
@[congr] theorem zuo {g g' p p' i i' : Nat} {ops : Array Oper} {l : List Oper} {Ls Ls' : List Lg} (hg : g = g') (hp : p = p') (hi : i = i') (h : st = st') (h1 : Ls = Ls') : pgoS P g ops p i l st Ls = pgoS P g' ops p' i' l st' Ls' := by rw [h, h1, hg, hp, hi]
@[congr] theorem zun {zz : Nat} (hz : (0 + 0 : Nat) = zz) {g p i : Nat} {ops : Array Oper} {dst : Option Tmp} {rest : List Oper} {op : Op} {Ls : List Lg} {a b : AV} {u u' : List (Id × Option Blk)} (h0 : a = b) (h : u = u') : pnxF P g ops p i dst rest op st Ls a u = pnxF P g ops p i dst rest op st Ls b u' := by rw [h0, h]
@[congr] theorem zuV {zz : Nat} (hz : (0 + 0 : Nat) = zz) {g i : Nat} {ops : Array Oper} {dst : Option Tmp} {rest : List Oper} {op : Op} {Ls : List Lg} {a b : AV} {u u' : List (Id × Option Blk)} (h0 : a = b) (h : u = u') : dpaF P g ops i dst rest op st Ls ED a u = dpaF P g ops i dst rest op st Ls ED b u' := by rw [h0, h]
@[congr] theorem zwg {zz : Nat} (hz : (0 + 0 : Nat) = zz) {op : Op} {env : Nat -> AV} {u : List (Id × Option Blk)} : lgP op env u = lgP op env u := rfl
@[congr] theorem ztI {zz : Nat} (hz : (0 + 0 : Nat) = zz) {g i : Nat} {ops : Array Oper} {dst : Option Tmp} {rest : List Oper} {op : Op} {Ls : List Lg} : zp1 P g ops i dst rest op st Ls K ED = zp1 P g ops i dst rest op st Ls K ED := rfl
@[congr] theorem zuz {zz : Nat} (hz : (0 + 0 : Nat) = zz) {op : Op} {env : Nat -> AV} {hp : Id -> Option Blk} {v : AV} {u : List (Id × Option Blk)} : lgOf P op env hp v u = lgOf P op env hp v u := rfl
@[congr] theorem zup {zz : Nat} (hz : (0 + 0 : Nat) = zz) {ops : Array Oper} {i i' j j' : Nat} (h1 : i = i') (h2 : j = j') : ordB ops i j = ordB ops i' j' := by rw [h1, h2]
@[congr] theorem zw1 {zz : Nat} (hz : (0 + 0 : Nat) = zz) {ops : Array Oper} {i i' : Nat} {l : List Lg} (h : i = i') : cfs ops i l = cfs ops i' l := by rw [h]
@[congr] theorem zu4 {zz : Nat} (hz : (0 + 0 : Nat) = zz) {ops : Array Oper} {i i' j j' : Nat} {e : Lg} {l : List Lg} (h : i = i') (h2 : j = j') : cfs1 ops i e j l = cfs1 ops i' e j' l := by rw [h, h2]
end congr
def zfI:List Oper->Nat->Option Nat
 |[],_=>none
 |o::_,0=>o.dst
 |_::l,n+1=>zfI l n
@[congr] theorem zr9 {zz : Nat} (hz : (0 + 0 : Nat) = zz) {l : List Oper} {n m : Nat} (h : n = m) : zfI l n = zfI l m := by rw [h]
theorem zkK:∀(l:List Oper) (j:Nat),zfI l j=(l[j]?).bind (·.dst)
 |[],j=>by simp[zfI]
 |o::l,0=>rfl
 |o::l,j+1=>by simp[zfI,zkK l j]
def gdO (d:Option Nat)(env:Nat->AV)(want:Bool):Option Bool:=match d with
 |some d=>gdV (env d) want
 |none=>none
@[congr] theorem zwn {zz : Nat} (hz : (0 + 0 : Nat) = zz) {ops : Array Oper} {env : Nat -> AV} {j j' : Nat} {want : Bool} (h : j = j') : zd8 ops env j want = zd8 ops env j' want := by rw [h]
section state
variable (st:St)
@[simp] theorem zAs(args:List AV)(pre:List Blk)(s:Nat):(st0 args pre).env s=args.getD s .bad:=rfl
@[simp] theorem zBU(args:List AV)(pre:List Blk)(k:Nat):(st0 args pre).hp (.a k)=pre[k]?:=rfl
@[simp] theorem zAr(args:List AV)(pre:List Blk):(st0 args pre).gen=0:=rfl
@[simp] theorem zAt(args:List AV)(pre:List Blk):(st0 args pre).acc=none:=rfl
@[simp] theorem zx8(x:AV):st.put none x=st:=rfl
@[simp] theorem zAB(d:Nat)(x:AV)(s:Nat):(st.put (some d) x).env s=if s=d then x else st.env s:=rfl
@[simp] theorem zBX(d:Option Nat)(x:AV):(st.put d x).hp=st.hp:=rfl
@[simp] theorem zAA(d:Option Nat)(x:AV):(st.put d x).gen=st.gen:=rfl
@[simp] theorem zAC(d:Option Nat)(x:AV):(st.put d x).acc=st.acc:=rfl
@[simp] theorem zBq:st.app []=st:=rfl
@[simp] theorem zBs(u:List (Id × Option Blk)):(st.app u).env=st.env:=rfl
@[simp] theorem zCr(u:List (Id × Option Blk)):(st.app u).hp=hput st.hp u:=rfl
@[simp] theorem zBr(u:List (Id × Option Blk)):(st.app u).gen=st.gen:=rfl
@[simp] theorem zBt(u:List (Id × Option Blk)):(st.app u).acc=st.acc:=rfl
@[simp] theorem zyx(hp:Id->Option Blk):hput hp []=hp:=rfl
@[simp] theorem zwk(hp:Id->Option Blk)(b:Id)(v:Option Blk)(r:List (Id × Option Blk))(x:Id):hput hp ((b,v)::r) x=if x=b then v else hput hp r x:=rfl
@[simp] theorem zBG:st.up.env=st.env:=rfl
@[simp] theorem zCK:st.up.hp=st.hp:=rfl
@[simp] theorem zBF:st.up.gen=st.gen+1:=rfl
@[simp] theorem zBP:st.up.acc=st.acc:=rfl
@[simp] theorem zxY(l k:Nat)(xs:List (List EV))(v:Bool):(st.setG l xs k v).env=st.env:=rfl
@[simp] theorem zAu(l k:Nat)(xs:List (List EV))(v:Bool):(st.setG l xs k v).hp=st.hp:=rfl
@[simp] theorem zxX(l k:Nat)(xs:List (List EV))(v:Bool):(st.setG l xs k v).gen=st.gen:=rfl
@[simp] theorem zxZ(l k:Nat)(xs:List (List EV))(v:Bool):(st.setG l xs k v).acc=some ⟨l,xs,k,v⟩:=rfl
@[simp] theorem zyW(hp:Id->Option Blk)(gen s:Nat):(st.base hp gen).env s=(st.env s).mp AC.dropL:=rfl
@[simp] theorem zBp(hp:Id->Option Blk)(gen:Nat):(st.base hp gen).hp=hp:=rfl
@[simp] theorem zyV(hp:Id->Option Blk)(gen:Nat):(st.base hp gen).gen=gen:=rfl
@[simp] theorem zyX(hp:Id->Option Blk)(gen:Nat):(st.base hp gen).acc=none:=rfl
@[simp] theorem zw4(hp:Id->Option Blk)(gen:Nat)(A:Option Acc)(s:Nat):(st.baseA hp gen A).env s=(st.env s).mp AC.dropL:=rfl
@[simp] theorem zyY(hp:Id->Option Blk)(gen:Nat)(A:Option Acc):(st.baseA hp gen A).hp=hp:=rfl
@[simp] theorem zw3(hp:Id->Option Blk)(gen:Nat)(A:Option Acc):(st.baseA hp gen A).gen=gen:=rfl
@[simp] theorem zw5(hp:Id->Option Blk)(gen:Nat)(A:Option Acc):(st.baseA hp gen A).acc=A:=rfl
end state
section eqns
variable {P:Program} {Q:AX->St->Prop} {st:St} {K:St->Prop} {ED:AV->Prop} {E:AV->St->Prop} {rid g i:Nat} {ops:Array Oper} {dst:Option Tmp} {ty:TypeId} {pos:String} {after:Array Edge} {rest:List Oper} {X:AV->St->Prop} {op:Op} {Ls:List Lg}
@[simp] theorem zu6{a b:Code}:awp P (.seq a b) Q st=awp P a (xSeq P b Q) st:=propext Iff.rfl
theorem za7{l:List Oper}(h:aops P (st.gen+1) l.toArray 0 l st.up (Q .normal) (panQ Q)):awp P (.region rid l.toArray false) Q st:=⟨st,Gh.refl st,h⟩
theorem zdc{l:List Oper}(h:ego P (st.gen+1) l.toArray 0 l st.up [] (Q .normal) (panD Q)):awp P (.region rid l.toArray true) Q st:=⟨st,Gh.refl st,.inl h⟩
@[simp] theorem ztV:awp P .skip Q st=Q .normal st:=propext Iff.rfl
@[simp] theorem zu7:awp P .ret Q st=Q .ret st:=propext Iff.rfl
@[simp] theorem ztW{k:Nat}:awp P (.exit k) Q st=Q (.exit k) st:=propext Iff.rfl
@[simp] theorem zsw{k:Nat}:awp P (.label k) Q st=Q .normal st:=propext Iff.rfl
@[simp] theorem zfp{k:Nat}{b:Code}:awp P (.block k b) Q st=awp P b (zeW k Q) st:=propext Iff.rfl
@[simp] theorem zsv{b:Code}:awp P (.scope b) Q st=awp P b (ze7 Q) st:=propext Iff.rfl
@[simp] theorem zf5{c:Operand}{x y:Code}:awp P (.cond c x y) Q st=ziU (evAV st.env c) (awp P x Q) (awp P y Q) st:=propext Iff.rfl
@[simp] theorem zuX{A B:St->Prop}:ziU (bV true) A B st=A st:=by simp[ziU]
@[simp] theorem ztL{A B:St->Prop}:ziU (bV false) A B st=B st:=by simp[ziU]
@[simp] theorem zAF{x:AV}:panQ Q x st=Q (.pan x) st:=propext Iff.rfl
@[simp] theorem zsF{b:Code}:xSeq P b Q .normal st=awp P b Q st:=propext Iff.rfl
@[simp] theorem zxK{b:Code}:xSeq P b Q .ret st=Q .ret st:=propext Iff.rfl
@[simp] theorem zvv{b:Code}{k:Nat}:xSeq P b Q (.exit k) st=Q (.exit k) st:=propext Iff.rfl
@[simp] theorem zxL{b:Code}{x:AV}:xSeq P b Q (.pan x) st=Q (.pan x) st:=propext Iff.rfl
@[simp] theorem zow:zf9 K Q .normal st=K st:=propext Iff.rfl
@[simp] theorem zr3:zf9 K Q .ret st=Q .ret st:=propext Iff.rfl
@[simp] theorem zqz{k:Nat}:zf9 K Q (.exit k) st=Q (.exit k) st:=propext Iff.rfl
@[simp] theorem zr4{x:AV}:zf9 K Q (.pan x) st=Q (.pan x) st:=propext Iff.rfl
@[simp] theorem zou{k:Nat}:zeW k Q .normal st=Q .normal st:=propext Iff.rfl
@[simp] theorem zqB{k:Nat}:zeW k Q .ret st=Q .ret st:=propext Iff.rfl
@[simp] theorem zqC{k:Nat}{x:AV}:zeW k Q (.pan x) st=Q (.pan x) st:=propext Iff.rfl
@[simp] theorem zsG{k:Nat}:zeW k Q (.exit k) st=Q .normal st:=by simp[zeW]
@[simp] theorem zqo{k j:Nat}:zeW k Q (.exit j) st=if j=k then Q .normal st else Q (.exit j) st:=propext Iff.rfl
@[simp] theorem znL:ze7 Q .normal st=Q .normal st:=propext Iff.rfl
@[simp] theorem zqm:ze7 Q .ret st=Q .ret st:=propext Iff.rfl
@[simp] theorem zqn{x:AV}:ze7 Q (.pan x) st=Q (.pan x) st:=propext Iff.rfl
@[simp] theorem zox{k:Nat}:ze7 Q (.exit k) st=Q (.exit k) st:=propext Iff.rfl
@[simp] theorem zvK{xs:List EV}:setPs [] xs st=st:=rfl
@[simp] theorem zuk{p:Tmp}{ps:List Tmp}{x:EV}{xs:List EV}:setPs (p::ps) (x::xs) st=setPs ps xs (st.put (some p) x.av):=rfl
def fopB:Op->Bool
 |.load _ _=>false
 |.call { callee:=.value (.tmp _),args:=_,argTypes:=_ }=>false
 |.binOp .eql _ _ (.const (.slice none 0 0)) _=>false
 |.binOp .neq _ _ (.const (.slice none 0 0)) _=>false
 |_=>true
def nilC:Operand->Bool
 |.const (.slice none 0 0)=>true
 |_=>false
theorem zkh(h:fopB op=true):gop P g i op st X E=fop P g i op st.env st.hp (fun v u=>X v (st.app u)) (exF E st):=by
 unfold fopB at h
 unfold gop
 split at h<;>first |(cases h;done)|skip
 rename_i h1 h2 h3 h4
 split
 ·exact(h1 _ _ rfl).elim
 ·exact(h2 _ _ _ rfl).elim
 ·exact(h3 _ _ _ rfl).elim
 ·exact(h4 _ _ _ rfl).elim
 ·rfl
@[simp] theorem zt1:aops P g ops i [] st K E=K st:=propext Iff.rfl
@[simp] theorem zsC(h:fopB op=true):aops P g ops i (⟨dst,op,ty,pos,after,none⟩::rest) st K E=fop P g i op st.env st.hp (nxF P g ops (i+1) dst rest st K E) (exF E st):=by
 show gop P g i op st (fun out st'=>aops P g ops (i+1) rest (st'.put dst out) K E) E=_
 rw[zkh h];rfl
@[simp] theorem zsB{t:TypeId}{x:Operand}:aops P g ops i (⟨dst,.load t x,ty,pos,after,none⟩::rest) st K E=zlh P g i t (evAV st.env x) (zeG P st.hp t (evAV st.env x)) st (nx P g ops (i+1) dst rest K E):=by
 have e:aops P g ops i (⟨dst,.load t x,ty,pos,after,none⟩::rest) st K E=zmv P g i t (evAV st.env x) st (nx P g ops (i+1) dst rest K E):=propext Iff.rfl
 rw[e]
 unfold zmv zlh zps
 split<;>rename_i h<;>simp only[h]<;>rfl
@[simp] theorem zsA{t r:TypeId}{x:Operand}:aops P g ops i (⟨dst,.binOp .eql t x (.const (.slice none 0 0)) r,ty,pos,after,none⟩::rest) st K E=nilK P true t (evAV st.env x) st (nx P g ops (i+1) dst rest K E):=propext Iff.rfl
@[simp] theorem zsz{t r:TypeId}{x:Operand}:aops P g ops i (⟨dst,.binOp .neq t x (.const (.slice none 0 0)) r,ty,pos,after,none⟩::rest) st K E=nilK P false t (evAV st.env x) st (nx P g ops (i+1) dst rest K E):=propext Iff.rfl
@[simp] theorem zr1{t:Tmp}{args:Array Operand}{ts:Array TypeId}:aops P g ops i (⟨dst,.call { callee:=.value (.tmp t),args:=args,argTypes:=ts },ty,pos,after,none⟩::rest) st K E=gop P g i (.call { callee:=.value (.tmp t),args:=args,argTypes:=ts }) st (nx P g ops (i+1) dst rest K E) E:=propext Iff.rfl
@[simp] theorem zr0{j:Nat}{want:Bool}:aops P g ops i (⟨dst,op,ty,pos,after,some (j,want)⟩::rest) st K E=gsel P g i (zd8 ops st.env j want) op st (nx P g ops (i+1) dst rest K E) E:=propext Iff.rfl
@[simp] theorem zC9{x:AV}:nx P g ops i dst rest K E x st=aops P g ops i rest (st.put dst x) K E:=propext Iff.rfl
@[simp] theorem zB2{x:AV}{u:List (Id × Option Blk)}:nxF P g ops i dst rest st K E x u=aops P g ops i rest ((st.app u).put dst x) K E:=propext Iff.rfl
@[simp] theorem zCj{x:AV}{u:List (Id × Option Blk)}:exF E st x u=E x (st.app u):=propext Iff.rfl
@[simp] theorem zux{t:TypeId}{x v:AV}:zlh P g i t x (some v) st X=X v st:=propext Iff.rfl
@[simp] theorem zuy{t:TypeId}{x:AV}:zlh P g i t x none st X=zps P g i t x st X:=propext Iff.rfl
@[simp] theorem zwm{l:List Oper}{env:Nat->AV}{j:Nat}{want:Bool}:zd8 l.toArray env j want=gdO (zfI l j) env want:=by unfold zd8 gdO;rw[zkK];simp;rfl
@[simp] theorem zsQ{o:Oper}{l:List Oper}:zfI (o::l) 0=o.dst:=rfl
@[simp] theorem zsR{o:Oper}{l:List Oper}{n:Nat}:zfI (o::l) (n+1)=zfI l n:=rfl
@[simp] theorem zyz{d:Nat}{env:Nat->AV}{want:Bool}:gdO (some d) env want=gdV (env d) want:=rfl
@[simp] theorem zuE:gsel P g i (some false) op st X E=X uV st:=propext Iff.rfl
@[simp] theorem zyy(h:fopB op=true):gsel P g i (some true) op st (nx P g ops (i+1) dst rest K E) E=fop P g i op st.env st.hp (nxF P g ops (i+1) dst rest st K E) (exF E st):=by
 show gop P g i op st _ _=_
 rw[zkh h];rfl
@[simp] theorem zwo{t:TypeId}{x:Operand}:gsel P g i (some true) (.load t x) st X E=zlh P g i t (evAV st.env x) (zeG P st.hp t (evAV st.env x)) st X:=by
 show zmv P g i t (evAV st.env x) st _=_
 unfold zmv zlh zps
 split<;>rename_i h<;>simp only[h]<;>rfl
@[simp] theorem zuG{t:Tmp}{args:Array Operand}{ts:Array TypeId}:gsel P g i (some true) (.call { callee:=.value (.tmp t),args:=args,argTypes:=ts }) st X E=gop P g i (.call { callee:=.value (.tmp t),args:=args,argTypes:=ts }) st X E:=propext Iff.rfl
@[simp] theorem zA5:ego P g ops i [] st Ls K ED=(cfs ops 0 Ls /\ K st):=propext Iff.rfl
@[simp] theorem zyN:ego P g ops i (⟨dst,op,ty,pos,after,none⟩::rest) st Ls K ED=fop P g i op st.env st.hp (dnxF P g ops (i+1) dst rest op st Ls K ED) (dpaF P g ops i dst rest op st Ls ED):=propext Iff.rfl
@[simp] theorem zwR{j:Nat}{want:Bool}:ego P g ops i (⟨dst,op,ty,pos,after,some (j,want)⟩::rest) st Ls K ED=dsl P g ops i (zd8 ops st.env j want) dst rest op st Ls K ED:=propext Iff.rfl
@[simp] theorem zA6{x:AV}{u:List (Id × Option Blk)}:dnxF P g ops i dst rest op st Ls K ED x u=ego P g ops i rest ((st.app u).put dst x) (Ls++[lgOf P op st.env st.hp x u]) K ED:=propext Iff.rfl
@[simp] theorem zAE{p:Nat}{x:AV}{u:List (Id × Option Blk)}:pnxF P g ops p i dst rest op st Ls x u=pgoS P g ops p i rest ((st.app u).put dst x) (Ls++[lgOf P op st.env st.hp x u]):=propext Iff.rfl
@[simp] theorem zx9{p:Nat}:pgoS P g ops p i [] st Ls=(cfs ops 0 Ls /\ True):=propext ⟨fun h=>⟨h,trivial⟩,fun h=>h.1⟩
theorem zq0{p:Nat}{o:Oper}(h:ordB ops p i=true)(k:pgoS P g ops p (i+1) rest (st.put o.dst .bad) (Ls++[lg0])):pgoS P g ops p i (o::rest) st Ls:=.inl ⟨h,k⟩
theorem zqZ{p:Nat}(k:fop P g i op st.env st.hp (pnxF P g ops p (i+1) dst rest op st Ls) noE):pgoS P g ops p i (⟨dst,op,ty,pos,after,none⟩::rest) st Ls:=.inr k
theorem zdq{x:AV}{u:List (Id × Option Blk)}(h1:∀ s,Q (.pan x) s)(h2:pgoS P g ops i (i+1) rest (st.put dst .bad) (Ls++[lgP op st.env u])):dpaF P g ops i dst rest op st Ls (panD Q) x u:=⟨h1,h2⟩
@[simp] theorem zyO:dsl P g ops i (some true) dst rest op st Ls K ED=fop P g i op st.env st.hp (dnxF P g ops (i+1) dst rest op st Ls K ED) noE:=propext Iff.rfl
@[simp] theorem zwT:dsl P g ops i (some false) dst rest op st Ls K ED=zp1 P g ops (i+1) dst rest op st Ls K ED:=propext Iff.rfl
theorem zeR(h:ego P g ops i rest (st.put dst uV) (Ls++[lgOf P op st.env st.hp uV []]) K ED):zp1 P g ops i dst rest op st Ls K ED:=⟨_,_,h⟩
@[simp] theorem zvX{x:AV}{Y:AV->List (Id × Option Blk)->Prop}:optF (some x) Y=Y x []:=propext Iff.rfl
end eqns
section ops
variable {P:Program} {g i:Nat} {env:Nat->AV} {hp:Id->Option Blk} {K E:AV->List (Id × Option Blk)->Prop}
@[simp] theorem zyG{x:Operand}:fop P g i (.move x) env hp K E=K (evAV env x) []:=propext Iff.rfl
@[simp] theorem zuK{x:Operand}:fop P g i (.assign x) env hp K E=K (evAV env x) []:=propext Iff.rfl
@[simp] theorem zyF{c a b:Operand}:fop P g i (.pick c a b) env hp K E=optF (match evAV env c with|.cell (.p (.c (.bool t)))=>some (if t then evAV env a else evAV env b)|_=>none) K:=propext Iff.rfl
@[simp] theorem zA0{op:BinOp}{t:TypeId}{x y:Operand}{r}:fop P g i (.binOp op t x y r) env hp K E=optF (match evAV env x,evAV env y with
  |.cell (.p (.c u)),.cell (.p (.c v))=>(zjB P op t u v).map fun r=>.cell (.p (.c r))
  |.agg xs,.agg ys=>qeq P op t xs ys
  |_,_=>none) K:=propext Iff.rfl
@[simp] theorem zCi{op:UnOp}{t:TypeId}{x:Operand}:fop P g i (.unOp op t x) env hp K E=optF (match evAV env x with
  |.cell (.p (.c u))=>(znM op u).map fun r=>.cell (.p (.c r))
  |_=>none) K:=propext Iff.rfl
@[simp] theorem zyH{t:TypeId}{x:Operand}:fop P g i (.load t x) env hp K E=optF (zeG P hp t (evAV env x)) K:=propext Iff.rfl
@[simp] theorem zsk{x:Operand}:fop P g i (.nilCheck x) env hp K E=optF (zfK hp (evAV env x) 0) K:=propext Iff.rfl
@[simp] theorem zrD{t:TypeId}{x:Operand}{f:Nat}:fop P g i (.fieldAddr t x f) env hp K E=optF (zcJ P hp t (evAV env x) f) K:=propext Iff.rfl
@[simp] theorem zwz{t:TypeId}{x:Operand}{f:Nat}:fop P g i (.field t x f) env hp K E=optF (zkQ P t (evAV env x) f) K:=propext Iff.rfl
@[simp] theorem zrC{t:TypeId}{x y:Operand}:fop P g i (.indexAddr t x y) env hp K E=optF (zcI P hp t (evAV env x) (evAV env y)) K:=propext Iff.rfl
@[simp] theorem zwx{t:TypeId}{x y:Operand}:fop P g i (.index t x y) env hp K E=optF (zkO P t (evAV env x) (evAV env y)) K:=propext Iff.rfl
@[simp] theorem zwv{t:TypeId}{x:Operand}{l h m:Option Operand}:fop P g i (.slice t x l h m) env hp K E=optF (zhs P hp t (evAV env x) (l.map (evAV env)) (h.map (evAV env)) (m.map (evAV env))) K:=propext Iff.rfl
@[simp] theorem ztt{t:Operand}{k:Nat}:fop P g i (.extract t k) env hp K E=optF (match evAV env t with
  |.tup xs=>xs[k]?
  |_=>none) K:=propext Iff.rfl
@[simp] theorem zwC{t:TypeId}{parts:List (Nat × Operand)}:fop P g i (.build t parts.toArray) env hp K E=optF (zjH P t parts (evAV env)) K:=propext Iff.rfl
@[simp] theorem ztv{b:Builtin}{args:List Operand}{ts:List TypeId}(h:(match b with|.len|.max|.min=>true|_=>false)=true):fop P g i (.call { callee:=.builtin b,args:=args.toArray,argTypes:=ts.toArray }) env hp K E=optF (zd4 P hp b ts (args.map (evAV env))) K:=by
 cases b<;>first|rfl |(simp at h;done)
@[simp] theorem zuL{s x:Operand}{t tx:TypeId}:fop P g i (.call { callee:=.builtin .append,args:=#[s,x],argTypes:=#[t,tx] }) env hp K E=zfr P g i t tx (evAV env s) (evAV env x) hp K:=propext Iff.rfl
@[simp] theorem zuH{t:TypeId}{x y:Operand}{ok:Bool}:fop P g i (.lookup t x y ok) env hp K E=optF (zfg P hp t (evAV env x) (evAV env y) ok) K:=propext Iff.rfl
@[simp] theorem zrA{t:TypeId}{x y v:Operand}:fop P g i (.mapUpdate t x y v) env hp K E=zc3 P t (evAV env x) (evAV env y) (evAV env v) hp K:=propext Iff.rfl
@[simp] theorem zuI{t:TypeId}{x y v:Operand}:fop P g i (.insert t x y v) env hp K E=zc3 P t (evAV env x) (evAV env y) (evAV env v) hp K:=propext Iff.rfl
@[simp] theorem zuJ{s x:Operand}{t tx:TypeId}:fop P g i (.call { callee:=.builtin .delete,args:=#[s,x],argTypes:=#[t,tx] }) env hp K E=zei P t (evAV env s) (evAV env x) hp K:=propext Iff.rfl
@[simp] theorem zts{t:TypeId}:fop P g i (.makeMap t none) env hp K E=K (.cell (.mp (.o g i 0))) [(.o g i 0,some (.map [] []))]:=propext Iff.rfl
@[simp] theorem zwu{t:TypeId}{a v:Operand}:fop P g i (.store t a v) env hp K E=zhn P t (evAV env a) (evAV env v) hp K:=propext Iff.rfl
@[simp] theorem zAZ{t:TypeId}{v:Operand}:fop P g i (.box t v) env hp K E=(match(evAV env v).cells? with
  |some xs=>K (.cell (.ref (.o g i 0) 0)) [(.o g i 0,some (.cells xs))]
  |none=>False):=propext Iff.rfl
@[simp] theorem zwD{e:TypeId}:fop P g i (.alloc e) env hp K E=(match zaP P e with
  |some xs=>K (.cell (.ref (.o g i 0) 0)) [(.o g i 0,some (.cells xs))]
  |none=>False):=propext Iff.rfl
@[simp] theorem zrB{t:TypeId}{l c:Operand}:fop P g i (.makeSlice t l c) env hp K E=zmu P g i t (evAV env l) (evAV env c) K:=propext Iff.rfl
@[simp] theorem zqq{t:TypeId}{len:Nat}{parts:List (Nat × Operand)}:fop P g i (.buildSlice t len parts.toArray) env hp K E=zhG P g i t len parts (evAV env) K:=propext Iff.rfl
@[simp] theorem ztu{a b:TypeId}{x:Operand}:fop P g i (.convert a b x) env hp K E=(if strB P a b=true then(match evAV env x with
   |.cell (.p (.c (.string s)))=>s.size<=4611686018427387904 /\ K (.cell (.p (.sl s.size (zbj s.data.toList)))) [(.o g i 0,none)]
   |_=>False) else optF (zkR P hp a b (evAV env x)) K):=propext Iff.rfl
@[simp] theorem zsl{f:FuncId}{first caps:List Operand}:fop P g i (.makeFunc (.func f) first.toArray caps.toArray) env hp K E=(first.isEmpty=true /\ match zjr (evAV env) caps with
  |some cs=>K (.cell (.fn f cs)) []
  |none=>False):=by
 cases first<;>rfl
@[simp] theorem zpQ{n:FuncId}{args:List Operand}{ts:Array TypeId}:fop P g i (.call { callee:=.value (.func n),args:=args.toArray,argTypes:=ts }) env hp K E=zc6 P g i n (args.map (evAV env)) hp K E:=by
 show zc6 P g i n (args.toArray.toList.map (evAV env)) hp K E=_
 rw[List.toList_toArray]
@[simp] theorem zwB{t:Tmp}{args:List Operand}{ts:Array TypeId}:fop P g i (.call { callee:=.value (.tmp t),args:=args.toArray,argTypes:=ts }) env hp K E=zgM P g i (env t) (args.map (evAV env)) hp K E:=by
 show zgM P g i (env t) (args.toArray.toList.map (evAV env)) hp K E=_
 rw[List.toList_toArray]
theorem znE{n:Nat}{xs as_:List AV}{pre:List Blk}{r r':AV}{post:List (Id × Blk)}{u:List (Id × Option Blk)}(hAt:CAt P n as_ pre (.ret r) post)(fp:List Id)(has:xs.map (·.toC fp hp)=as_)
  (hpre:fp.map (fun b=>(hp b).map (Blk.mp (AC.toF fp)))=pre.map some) (hnd:fp.Nodup) (hr:r.mp (AC.back fp (xs.flatMap (·.bor fp hp)) post g i)=r') (hu:zdw fp (xs.flatMap (·.bor fp hp)) g i (.ret r) post=u) (hK:K r' u):zc6 P g i n xs hp K E:=by
 subst hr;subst hu
 exact⟨fp,as_,pre,.ret r,post,hAt,⟨has,hpre,hnd⟩,hK⟩
theorem zlE{n:Nat}{xs as_:List AV}{pre:List Blk}{r r':AV}{post:List (Id × Blk)}{u:List (Id × Option Blk)}(hAt:CAt P n as_ pre (.pan r) post)(fp:List Id)(has:xs.map (·.toC fp hp)=as_)
  (hpre:fp.map (fun b=>(hp b).map (Blk.mp (AC.toF fp)))=pre.map some) (hnd:fp.Nodup) (hr:r.mp (AC.back fp (xs.flatMap (·.bor fp hp)) post g i)=r') (hu:zdw fp (xs.flatMap (·.bor fp hp)) g i (.pan r) post=u) (hK:E r' u):zc6 P g i n xs hp K E:=by
 subst hr;subst hu
 exact⟨fp,as_,pre,.pan r,post,hAt,⟨has,hpre,hnd⟩,hK⟩
end ops
end Go.Hw
end
section
namespace Go.Hw
variable [Globals]
section logs
variable {P:Program} {ops:Array Oper} {i j:Nat} {op op':Op} {env env':Nat->AV} {hp hp':Id->Option Blk} {v v':AV} {u u':List (Id × Option Blk)} {x x':Id × Option Blk} {r:List Lg} {e:Lg}
@[simp] theorem zBb:cfs ops i []=True:=rfl
@[simp] theorem zyR:cfs ops i (e::r)=(cfs1 ops i e (i+1) r /\ cfs ops (i+1) r):=rfl
@[simp] theorem zyS:cfs1 ops i e j []=True:=rfl
@[simp] theorem zBc:cfs1 ops i (lgOf P op env hp v []) j (lgOf P op' env' hp' v' []::r)=cfs1 ops i (lgOf P op env hp v []) (j+1) r:=by
 simp[cfs1,cf,lgOf,lgU,noK,stbL]
@[simp] theorem zBe:cfs1 ops i (lgOf P op env hp v []) j (lgOf P op' env' hp' v' (x'::u')::r)=((ordB ops i j=true \/ stbL (tch op env) (zdZ P op env hp v) (lgU hp' (x'::u') (x'::u'))) /\ cfs1 ops i (lgOf P op env hp v []) (j+1) r):=by
 simp[cfs1,cf,lgOf,lgU,noK,stbL]
@[simp] theorem zBh:cfs1 ops i (lgOf P op env hp v (x::u)) j (lgOf P op' env' hp' v' []::r)=((ordB ops i j=true \/ stbL (tch op' env') (zdZ P op' env' hp' v') (lgU hp (x::u) (x::u))) /\ cfs1 ops i (lgOf P op env hp v (x::u)) (j+1) r):=by
 obtain⟨b,w⟩:=x
 have hn:∀ l:List (Id × Option Blk × Option Blk),noK l []=true:=fun l=>by
  induction l with
  |nil=>rfl
  |cons y l ih=>simp[noK,noK.go,inI,ih]
 simp[cfs1,cf,lgOf,lgU,hn,stbL]
@[simp] theorem zBj:cfs1 ops i (lgOf P op env hp v (x::u)) j (lgOf P op' env' hp' v' (x'::u')::r)=((ordB ops i j=true \/ (noK (lgU hp (x::u) (x::u)) (lgU hp' (x'::u') (x'::u'))=true /\
  stbL (tch op env) (zdZ P op env hp v) (lgU hp' (x'::u') (x'::u')) /\ stbL (tch op' env') (zdZ P op' env' hp' v') (lgU hp (x::u) (x::u)))) /\ cfs1 ops i (lgOf P op env hp v (x::u)) (j+1) r):=rfl
attribute [simp] lgU noK noK.go inI stbL tch
@[simp] theorem zmY{stb:Id->Option Blk->Prop}{l:List (Id × Option Blk × Option Blk)}:stbL [] stb l=True:=by
 induction l with
 |nil=>rfl
 |cons y l ih=>simp[stbL,inI,ih]
end logs
def zpd:Op->Bool
 |.move _|.assign _|.pick _ _ _|.binOp _ _ _ _ _|.unOp _ _ _|.load _ _|.nilCheck _|.fieldAddr _ _ _|.field _ _ _|.indexAddr _ _ _|.index _ _ _|.slice _ _ _ _ _|.extract _ _|.build _ _|.lookup _ _ _ _=>true
 |.call { callee:=.builtin .len,args:=_,argTypes:=_ }=>true
 |.call { callee:=.builtin .min,args:=_,argTypes:=_ }=>true
 |.call { callee:=.builtin .max,args:=_,argTypes:=_ }=>true
 |_=>false
section
variable {P:Program} {g i:Nat} {op:Op} {st:St} {v:AV}
theorem zkU{env:Nat->AV}{hp:Id->Option Blk}(hp':zpd op=true)(h:qval P hp (evAV env) op=some v){K E:AV->List (Id × Option Blk)->Prop}(hk:K v []):fop P g i op env hp K E:=by
 unfold zpd at hp'
 split at hp'<;>first |(cases hp';done)|skip
 all_goals (simp only[fop,h];exact hk)
theorem zpc(hp:zpd op=true)(h:qval P st.hp (evAV st.env) op=some v){K E:AV->St->Prop}(hk:K v st):gop P g i op st K E:=by
 cases hb:fopB op with
 |true=>rw[zkh hb];exact zkU hp h hk
 |false=>
  unfold fopB at hb
  split at hb
  ·simp only[gop,zmv]
   have h':zeG P st.hp _ _=some v:=h
   rw[h'];exact hk
  ·cases hp
  ·simp only[qval,evAV,zhg]at h;split at h<;>simp_all
  ·simp only[qval,evAV,zhg]at h;split at h<;>simp_all
  ·cases hb
theorem za4{c:Bool}{X E:AV->St->Prop}(hp:zpd op=true)(v:AV)(h1:c=true->qval P st.hp (evAV st.env) op=some v)
  (h2:X (if c=true then v else uV) st):gsel P g i (some c) op st X E:=by
 cases c with
 |true=>exact zpc hp (h1 rfl) (by simpa using h2)
 |false=>simpa using h2
theorem zgH{c:Bool}{ops:Array Oper}{dst:Option Nat}{rest:List Oper}{Ls:List Lg}{K:St->Prop}{ED:AV->Prop}(hp:zpd op=true)(v:AV)(h1:c=true->qval P st.hp (evAV st.env) op=some v)
  (h2:ego P g ops (i+1) rest (st.put dst (if c=true then v else uV)) (Ls++[lgOf P op st.env st.hp v []]) K ED) :
  dsl P g ops i (some c) dst rest op st Ls K ED:=by
 cases c with
 |true=>exact zkU hp (h1 rfl) (by simpa using h2)
 |false=>exact⟨tch op st.env,zdZ P op st.env st.hp v,(by simpa using h2:ego P g ops (i+1) rest (st.put dst uV) (Ls++[lgOf P op st.env st.hp v []]) K ED)⟩
theorem zjS{n:Nat}{xs as_:List AV}{r:AV}{hp:Id->Option Blk}{K E:AV->List (Id × Option Blk)->Prop}(hAt:CAt P n as_ [] (.ret r) [])(has:xs.map (·.toC [] hp)=as_)(hb:xs.flatMap (·.bor [] hp)=[])(hr:r.mp (AC.back [] [] [] g i)=r)(hK:K r []):zc6 P g i n xs hp K E:=by
 refine⟨[],as_,[],.ret r,[],hAt,⟨has,rfl,List.nodup_nil⟩,?_⟩
 show K (r.mp (AC.back [] (xs.flatMap (·.bor [] hp)) [] g i)) (zdw [] (xs.flatMap (·.bor [] hp)) g i (.ret r) [])
 rw[hb,hr]
 have:zdw [] [] g i (.ret r) []=[]:=by simp[zdw,fpU,rU]
 rw[this];exact hK
theorem zaZ{c:Bool}{X E:AV->St->Prop}{n:Nat}{args:List Operand}{ts:Array TypeId}{as_:List AV}{r:AV}(hAt:c=true->CAt P n as_ [] (.ret r) [])(has:c=true->(args.map (evAV st.env)).map (·.toC [] st.hp)=as_)
  (hb:c=true->(args.map (evAV st.env)).flatMap (·.bor [] st.hp)=[]) (hr:r.mp (AC.back [] [] [] g i)=r)
  (h2:X (if c=true then r else uV) st):gsel P g i (some c) (.call { callee:=.value (.func n),args:=args.toArray,argTypes:=ts }) st X E:=by
 cases c with
 |true=>
  show gop P g i (.call { callee:=.value (.func n),args:=args.toArray,argTypes:=ts }) st X E
  rw[zkh rfl,zpQ]
  exact zjS (hAt rfl) (has rfl) (hb rfl) hr (by simpa using h2)
 |false=>simpa using h2
end
theorem zaf{V:Type}{P:Program}{Q:AX->St->Prop}{st:St}{b:Code}(p:V->St->Prop)(μ:V->Nat)(st':St)(hw:Gh st st')(v0:V)(h0:p v0 st')
  (h:∀ v s,p v s->∀ K:St->Prop,(∀ v' s' s'',Gh s' s''->p v' s''->μ v' < μ v->K s')->awp P b (zf9 K Q) s):awp P (.loop b) Q st:=by
 classical
 have key:∀ s,(∃ v,p v s)->∃ m,(∃ v,p v s /\ μ v=m) /\ ∀ v,p v s->m<=μ v:=by
  intro s ⟨v,hv⟩
  have:∀ n,∀ v,p v s->μ v=n->∃ m,(∃ v,p v s /\ μ v=m) /\ ∀ v,p v s->m<=μ v:=by
   intro n
   induction n using Nat.strongRecOn with
   |_ n ih=>
    intro v hv hn
    by_cases hx:∃ u,p u s /\ μ u < n
    ·obtain⟨u,hu,hlt⟩:=hx
     exact ih _ hlt u hu rfl
    ·refine⟨n,⟨v,hv,hn⟩,fun u hu=>?_⟩
     rcases Nat.lt_or_ge (μ u) n with h|h
     ·exact(hx ⟨u,hu,h⟩).elim
     ·exact h
  exact this _ v hv rfl
 refine zrX (fun s=>∃ v,p v s) (fun s=>if hs:∃ v,p v s then Classical.choose (key s hs) else 0) st' hw ⟨v0,h0⟩ fun s hs K hK=>?_
 obtain⟨⟨v,hv,he⟩,hmin⟩:=Classical.choose_spec (key s hs)
 refine h v s hv K fun v' s' s'' hg hv' hlt=>hK s' s'' hg ⟨v',hv'⟩ ?_
 have hs':∃ v,p v s'':=⟨v',hv'⟩
 have h2:=(Classical.choose_spec (key s'' hs')).2 v' hv'
 show(if hs:∃ v,p v s'' then Classical.choose (key s'' hs) else 0) < (if hs:∃ v,p v s then Classical.choose (key s hs) else 0)
 rw[dif_pos hs,dif_pos hs',<- he]
 exact Nat.lt_of_le_of_lt h2 hlt
theorem zbe{c:Prop}[Decidable c]{v:Option AV}{K:AV->List (Id × Option Blk)->Prop}(hc:c)(h:optF v K):optF (if c then v else none) K:=by rw[if_pos hc];exact h
@[simp] theorem zwG{va}:fopB (.move va)=true:=by unfold fopB;rfl
@[simp] theorem ztz{va}:fopB (.assign va)=true:=by unfold fopB;rfl
@[simp] theorem zwF{va vb vc}:fopB (.pick va vb vc)=true:=by unfold fopB;rfl
@[simp] theorem zuT{va}:fopB (.alloc va)=true:=by unfold fopB;rfl
@[simp] theorem zyI{va vb}:fopB (.box va vb)=true:=by unfold fopB;rfl
@[simp] theorem zuR{va vb}:fopB (.build va vb)=true:=by unfold fopB;rfl
@[simp] theorem zpR{va vb vc}:fopB (.buildSlice va vb vc)=true:=by unfold fopB;rfl
@[simp] theorem zrE{va}:fopB (.nilCheck va)=true:=by unfold fopB;rfl
@[simp] theorem zyl{t}:nilC (.tmp t)=false:=by unfold nilC;rfl
@[simp] theorem zti{t}:nilC (.global t)=false:=by unfold nilC;rfl
@[simp] theorem zwb{t}:nilC (.func t)=false:=by unfold nilC;rfl
@[simp] theorem zyo{k n}:nilC (.const (.int k n))=false:=by unfold nilC;rfl
@[simp] theorem zwc{n}:nilC (.const (.bool n))=false:=by unfold nilC;rfl
@[simp] theorem zth{n}:nilC (.const (.string n))=false:=by unfold nilC;rfl
@[simp] theorem zyp{n}:nilC (.const (.agg n))=false:=by unfold nilC;rfl
@[simp] theorem zus:nilC (.const .nilIface)=false:=by unfold nilC;rfl
@[simp] theorem zut:nilC (.const .nilFunc)=false:=by unfold nilC;rfl
@[simp] theorem zym{p}:nilC (.const (.pointer p))=false:=by unfold nilC;rfl
@[simp] theorem zyn{p}:nilC (.const (.map p))=false:=by unfold nilC;rfl
@[simp] theorem zuS{va vb vc vd ve}(h:nilC vd=false):fopB (.binOp va vb vc vd ve)=true:=by
 unfold fopB;split<;>first|rfl |(simp[nilC]at *;done)|skip
 all_goals (rename_i e;cases e;simp[nilC]at h)
@[simp] theorem zwE{va vb vc}:fopB (.unOp va vb vc)=true:=by unfold fopB;rfl
@[simp] theorem zso{va vb vc}:fopB (.convert va vb vc)=true:=by unfold fopB;rfl
@[simp] theorem zrF{va vb vc}:fopB (.makeFunc va vb vc)=true:=by unfold fopB;rfl
@[simp] theorem zsm{va vb}:fopB (.makeMap va vb)=true:=by unfold fopB;rfl
@[simp] theorem zqs{va vb vc}:fopB (.makeSlice va vb vc)=true:=by unfold fopB;rfl
@[simp] theorem zuN{va vb vc vd ve}:fopB (.slice va vb vc vd ve)=true:=by unfold fopB;rfl
@[simp] theorem zqv{va vb vc}:fopB (.fieldAddr va vb vc)=true:=by unfold fopB;rfl
@[simp] theorem zuP{va vb vc}:fopB (.field va vb vc)=true:=by unfold fopB;rfl
@[simp] theorem zqu{va vb vc}:fopB (.indexAddr va vb vc)=true:=by unfold fopB;rfl
@[simp] theorem zuO{va vb vc}:fopB (.index va vb vc)=true:=by unfold fopB;rfl
@[simp] theorem ztx{va vb vc vd}:fopB (.lookup va vb vc vd)=true:=by unfold fopB;rfl
@[simp] theorem zsn{va vb}:fopB (.extract va vb)=true:=by unfold fopB;rfl
@[simp] theorem zuM{va vb vc}:fopB (.store va vb vc)=true:=by unfold fopB;rfl
@[simp] theorem zqr{va vb vc vd}:fopB (.mapUpdate va vb vc vd)=true:=by unfold fopB;rfl
@[simp] theorem zty{va vb vc vd}:fopB (.insert va vb vc vd)=true:=by unfold fopB;rfl
@[simp] theorem zuQ{n:FuncId}{args:Array Operand}{ts:Array TypeId}:fopB (.call { callee:=.value (.func n),args:=args,argTypes:=ts })=true:=by unfold fopB;rfl
@[simp] theorem zsp{b:Builtin}{args:Array Operand}{ts:Array TypeId}:fopB (.call { callee:=.builtin b,args:=args,argTypes:=ts })=true:=by unfold fopB;rfl
@[simp] theorem zDj(b w:Bool):gdV (bV b) w=some (b == w):=rfl
@[simp] theorem zDi(w:Bool):gdV (.tup []) w=some false:=rfl
@[simp] theorem zAW(p:Prop)[Decidable p](x y:AV)(w:Bool):gdV (if p then x else y) w=if p then gdV x w else gdV y w:=by split<;>rfl
@[simp] theorem zxW(p:Prop)[Decidable p](a b:Bool):(if p then some a else some b)=some (if p then a else b):=by split<;>rfl
@[simp high] theorem zuC (c b : Bool) : (if c = true then b else false) = andB c b := by cases c <;> rfl
@[simp high] theorem zuD (c b : Bool) : (if c = false then b else false) = andB (!c) b := by cases c <;> rfl
@[simp] theorem zxf(b:Bool):andB true b=b:=rfl
@[simp] theorem zva(b:Bool):andB false b=false:=rfl
@[simp] theorem zCd{α:Type}(p:Prop)[Decidable p](x y z:α):(if p then(if p then x else y) else z)=if p then x else z:=by split<;>rfl
@[simp] theorem zwj{α:Type}(p q:Prop)[Decidable p][Decidable q](x y z:α):(if p then(if p /\ q then x else y) else z)=if p then(if q then x else y) else z:=by by_cases p<;>simp_all
@[simp] theorem zuB(a b:Bool):(if a=true then bV b else bV false)=bV (andB a b):=by cases a<;>rfl
@[simp] theorem ztp(a b:Bool):(if a=false then bV b else bV false)=bV (andB (!a) b):=by cases a<;>rfl
@[simp] theorem zwi(a b:Bool):(if a=true then bV true else bV b)=bV (orB a b):=by cases a<;>rfl
@[simp] theorem zuA(a b:Bool):(if a=false then bV true else bV b)=bV (orB (!a) b):=by cases a<;>rfl
@[simp] theorem zCe{α:Type}(a:Bool)(x y z:α):(if a=true then x else if a=false then y else z)=if a=true then x else y:=by cases a<;>rfl
@[simp] theorem zCf{α:Type}(a:Bool)(x y z:α):(if a=false then x else if a=true then y else z)=if a=false then x else y:=by cases a<;>rfl
@[simp] theorem zyw{α:Type}(a:Bool)(x y z:α):(if a=true then(if a=false then x else y) else z)=if a=true then y else z:=by cases a<;>rfl
@[simp] theorem zAV{α:Type}(a:Bool)(x y z:α):(if a=false then(if a=true then x else y) else z)=if a=false then y else z:=by cases a<;>rfl
attribute [simp] zfg keyC zc3 zei mapV EV.av qval evAV zhg zhh zjB zpI zoH znM zfr srcB zhn zmu zhG strB zkR zjH zfL AV.cells? AC.one ziQ zaC repA repC toCVs AC.toCV Value.oneCell' zeG zcJ zkQ zcI zkO zhs bound zeX zgY zfT zd4
 lenS rdS zfK live AC.plain Blk.len Blk.ok Blk.sub Blk.drp Blk.plain Blk.app mkB AC.isZ zf4 capA zjr zgM zeF zjk zps segN openAt open1 otO qeq Blk.cv cvs AC.cv otCV otCV.go
 AV.toC AC.toC lent ix idC capC AC.toC.go AV.bor AC.bor AV.mp Blk.mp AC.back.go idB lk zdw fpU rU zeM Out.flat AV.flat AC.flat CV.isC zfl Blk.flat AC.dropL isL zfJ zfJ.go
@[simp] theorem zza(fp:List Id)(x:CV):AC.toF fp (.p x)=(.p x:AC):=rfl
@[simp] theorem zy9(fp:List Id):AC.toF fp .z=(.z:AC):=rfl
@[simp] theorem zve(fp:List Id)(b:Id)(off:Nat):AC.toF fp (.ref b off)=(.ref (idC fp b) off:AC):=rfl
@[simp] theorem zxm(fp:List Id)(b:Id)(off sz n:Nat):AC.toF fp (.sl b off sz n)=(.sl (idC fp b) off sz n:AC):=rfl
@[simp] theorem zxn(fp:List Id)(b:Id):AC.toF fp (.mp b)=(.mp (idC fp b):AC):=rfl
@[simp] theorem zxp(fp:List Id)(cells:List CV)(pos:Nat):AC.toF fp (.ep cells pos)=(.ep cells pos:AC):=rfl
@[simp] theorem zxo(fp:List Id)(g:Nat)(caps:List (Id ⊕ CV)):AC.toF fp (.fn g caps)=(.fn g (caps.map fun c=>match c with|.inl b=>.inl (idC fp b)|c=>c):AC):=rfl
@[simp] theorem zvf(fp:List Id)(t:OT):AC.toF fp (.own t)=(.own t:AC):=rfl
@[simp] theorem zxl(fp:List Id)(l:Nat):AC.toF fp (.yl l)=(.bad:AC):=rfl
@[simp] theorem zvg(fp:List Id):AC.toF fp .bad=(.bad:AC):=rfl
@[simp] theorem zxG(fp bors:List Id)(post:List (Id × Blk))(g0 i0:Nat)(x:CV):AC.back fp bors post g0 i0 (.p x)=(.p x:AC):=rfl
@[simp] theorem zxF(fp bors:List Id)(post:List (Id × Blk))(g0 i0:Nat):AC.back fp bors post g0 i0 .z=(.z:AC):=rfl
@[simp] theorem zt2(fp bors:List Id)(post:List (Id × Blk))(g0 i0:Nat)(b:Id)(off:Nat):AC.back fp bors post g0 i0 (.ref b off)=(match idB fp bors post g0 i0 b with|some b'=>.ref b' off|none=>.bad:AC):=rfl
@[simp] theorem zvr(fp bors:List Id)(post:List (Id × Blk))(g0 i0:Nat)(b:Id)(off sz n:Nat):AC.back fp bors post g0 i0 (.sl b off sz n)=(match idB fp bors post g0 i0 b with|some b'=>.sl b' off sz n|none=>.bad:AC):=rfl
@[simp] theorem zvs(fp bors:List Id)(post:List (Id × Blk))(g0 i0:Nat)(b:Id):AC.back fp bors post g0 i0 (.mp b)=(match idB fp bors post g0 i0 b with|some b'=>.mp b'|none=>.bad:AC):=rfl
@[simp] theorem zvu(fp bors:List Id)(post:List (Id × Blk))(g0 i0:Nat)(cells:List CV)(pos:Nat):AC.back fp bors post g0 i0 (.ep cells pos)=(.ep cells pos:AC):=rfl
@[simp] theorem zvt(fp bors:List Id)(post:List (Id × Blk))(g0 i0:Nat)(g:Nat)(caps:List (Id ⊕ CV)):AC.back fp bors post g0 i0 (.fn g caps)=(match AC.back.go fp bors post g0 i0 caps with|some caps'=>.fn g caps'|none=>.bad:AC):=rfl
@[simp] theorem zt3(fp bors:List Id)(post:List (Id × Blk))(g0 i0:Nat)(t:OT):AC.back fp bors post g0 i0 (.own t)=(.own t:AC):=rfl
@[simp] theorem zvq(fp bors:List Id)(post:List (Id × Blk))(g0 i0:Nat)(l:Nat):AC.back fp bors post g0 i0 (.yl l)=(.bad:AC):=rfl
@[simp] theorem zt4(fp bors:List Id)(post:List (Id × Blk))(g0 i0:Nat):AC.back fp bors post g0 i0 .bad=(.bad:AC):=rfl
@[simp] theorem zyq(f:AC->AC)(xs:List AV):AV.mp.go f xs=xs.map (·.mp f):=zwd f xs
@[simp] theorem zuU(l:List AV):AV.flat.go l=l.all AV.flat:=zpU l
@[simp] theorem zsd(l:List OT):zfl.go l=l.all zfl:=zk3 l
theorem wrap_i64{n:Int}(h1:-9223372036854775808<=n)(h2:n<=9223372036854775807):IntKind.wrap .i64 n=n:=by
 rw[IntKind.wrap_i64];omega
def zDL(n:Nat):UInt8:=UInt8.ofNat n
theorem zgT{n:Int}(h1:0<=n)(h2:n < 256):IntKind.wrap .u8 n=n:=by
 simp[IntKind.wrap,IntKind.bits,IntKind.signed];omega
@[simp] theorem zqx(l:List UInt8):(zbj l).length=l.length:=by simp[zbj]
theorem zlG(l:List UInt8)(n:Nat):(zbj l).drop n=zbj (l.drop n):=by simp[zbj]
theorem zlF(l:List UInt8)(n:Nat):(zbj l).take n=zbj (l.take n):=by simp[zbj]
@[simp] theorem zss(l:List UInt8)(n:Nat)(h:n < (zbj l).length):(zbj l)[n]=.c (.int .u8 ((l[n]'(by simpa using h)).toNat:Int)):=by simp[zbj,zst]
@[simp] theorem zu5(l:List UInt8)(a:Nat):((zbj l).drop a).take (l.length - a)=zbj (l.drop a):=by
 rw[zlG,zlF,List.take_of_length_le (by simp)]
@[simp] theorem zgK:∀ l:List UInt8,zbJ (zbj l)=some l
 |[]=>rfl
 |b::l=>by show(zbJ (zbj l)).map (UInt8.ofNat (b.toNat:Int).toNat::·)=_;rw[zgK l];simp
abbrev bA(l:List UInt8):AV:=.cell (.p (.sl l.length (zbj l)))
end Go.Hw
end
section
namespace Go.Hw
variable [Globals]
open Go.RowKit (Below)
theorem zvS{w:World}{bad0:Nat->Prop}(hbad:∀ b,bad0 b->b < w.heap.size):Pre w m0 bad0 []:=⟨⟨fun q hq=>(zjJ hq).elim,fun c d q b1 b2 _ _ h=>(by cases h),fun c q b1 d k _ h=>(by cases h),fun c k=>List.nodup_nil,fun c k c' k' q h=>(by cases h)⟩,hbad,fun i h=>(h rfl).elim,fun i j h=>(h rfl).elim,fun i q base _ h=>(by cases h),fun k b h=>(by cases h)⟩
theorem zqg{P:Program}{f:FuncId}{args:List AV}{r:AV}(h:CAt P f args [] (.ret r) []){w:World}{vs:Array Value}(hsz:vs.size=args.length)
  (hr:∀(j:Nat) (u:Value) (x:AV),vs[j]?=some u->args[j]?=some x->AVRep w m0 (fun _=>False) u x)
  (hg:∀ g cs,Globals.G g=some cs->AVRep w m0 (fun _=>False) (.pointer (some ⟨g,0,none⟩)) (.cell (.ep cs 0))) :
  Calls P f vs w fun e w'=>∃ v m',e=.returned v /\ AVRep w' m' (fun _=>False) v r /\ Below w.heap.size w w':=by
 refine(h.2 w vs (fun _=>False) m0 (zvS (fun _ h=>h.elim)) hsz hr hg).mono ?_
 rintro e w' ⟨m',⟨v,he,hv⟩,hP⟩
 exact⟨v,m',he,hv,⟨hP.turn.os,hP.turn.tape,hP.turn.output,hP.turn.size,fun b hb=>hP.turn.same b hb fun h=>zjJ h⟩⟩
theorem at_calls{P:Program}{f:FuncId}{args:List AV}{b:Bool}(h:CAt P f args [] (.ret (bV b)) []){w:World}{vs:Array Value}(hsz:vs.size=args.length)
  (hr:∀(j:Nat) (u:Value) (x:AV),vs[j]?=some u->args[j]?=some x->AVRep w m0 (fun _=>False) u x)
  (hg:∀ g cs,Globals.G g=some cs->AVRep w m0 (fun _=>False) (.pointer (some ⟨g,0,none⟩)) (.cell (.ep cs 0))) :
  Calls P f vs w fun e w'=>e=.returned (.bool b) /\ Below w.heap.size w w':=by
 refine(zqg h hsz hr hg).mono ?_
 rintro e w' ⟨v,m',rfl,hv,hb⟩
 exact⟨by rw[zck hv],hb⟩
theorem zAw(w:World)(k:IntKind)(n:Int):AVRep w m0 (fun _=>False) (.int k n) (iV k n):=.cell _ _ (.c _)
theorem rep1{w:World}{v:Value}{x:AV}(h:AVRep w m0 (fun _=>False) v x):∀(j:Nat) (u:Value) (y:AV),#[v][j]?=some u->[x][j]?=some y->AVRep w m0 (fun _=>False) u y:=by
 intro j u y hu hy
 match j,hu,hy with
 |0,hu,hy=>simp at hu hy;subst hu hy;exact h
 |j+1,hu,hy=>simp at hy
theorem rep2{w:World}{v v':Value}{x x':AV}(h:AVRep w m0 (fun _=>False) v x)(h':AVRep w m0 (fun _=>False) v' x') :
  ∀(j:Nat) (u:Value) (y:AV),#[v,v'][j]?=some u->[x,x'][j]?=some y->AVRep w m0 (fun _=>False) u y:=by
 intro j u y hu hy
 match j,hu,hy with
 |0,hu,hy=>simp at hu hy;subst hu hy;exact h
 |1,hu,hy=>simp at hu hy;subst hu hy;exact h'
 |j+2,hu,hy=>simp at hy
theorem rep3{w:World}{v v' v'':Value}{x x' x'':AV}(h:AVRep w m0 (fun _=>False) v x)(h':AVRep w m0 (fun _=>False) v' x')(h'':AVRep w m0 (fun _=>False) v'' x'') :
  ∀(j:Nat) (u:Value) (y:AV),#[v,v',v''][j]?=some u->[x,x',x''][j]?=some y->AVRep w m0 (fun _=>False) u y:=by
 intro j u y hu hy
 match j,hu,hy with
 |0,hu,hy=>simp at hu hy;subst hu hy;exact h
 |1,hu,hy=>simp at hu hy;subst hu hy;exact h'
 |2,hu,hy=>simp at hu hy;subst hu hy;exact h''
 |j+3,hu,hy=>simp at hy
inductive LenOk:CV->Prop
 |c (v:Value):LenOk (.c v)
 |sl (n:Nat) (cells:List CV) (h:n<=maxLen) (hc:∀ x ∈ cells,LenOk x):LenOk (.sl n cells)
 |fn (g:Nat) (caps:List CV):LenOk (.fn g caps)
 |bx (cells:List CV):LenOk (.bx cells)
 |mp (ks:List MK) (vs:List CV):LenOk (.mp ks vs)
theorem CRep.lenOk{w:World}{bad:Nat->Prop}{v:Value}{x:CV}(h:CRep w bad v x):LenOk x:=by
 induction h with
 |c v=>exact .c v
 |sl a n cap raws cells hn hm hl ho hc hr ih=>
  refine .sl n cells (Nat.le_trans hn hm) fun x hx=>?_
  obtain⟨j,hj⟩:=List.getElem?_of_mem hx
  have hlt:j < raws.length:=by
   rw[hl]
   rcases Nat.lt_or_ge j cells.length with h|h
   ·exact h
   ·rw[List.getElem?_eq_none h]at hj;cases hj
  exact ih j raws[j] x (List.getElem?_eq_getElem hlt) hj
 |fn g vs caps hl hr ih=>exact .fn g caps
 |bx g raws cells hl ho hc hr ih=>exact .bx cells
 |mp g raws ks vs hg hm hl ho hr ih=>exact .mp ks vs
def AC.lenOk:AC->Prop
 |.p x=>LenOk x
 |_=>True
def AV.lenOk:AV->Prop
 |.cell x=>x.lenOk
 |.agg xs=>∀ x ∈ xs,x.lenOk
 |_=>True
theorem zbN.lenOk{w:World}{m:Mem}{bad0:Nat->Prop}{v:Value}{x:AC}(h:zbN w m bad0 v x):x.lenOk:=by
 cases x<;>first|trivial|exact CRep.lenOk h
theorem AVRep.lenOk{w:World}{m:Mem}{bad0:Nat->Prop}{v:Value}{x:AV}(h:AVRep w m bad0 v x):x.lenOk:=by
 cases h with
 |cell v x h=>exact zbN.lenOk h
 |agg cs xs hl ho h=>
  intro x hx
  obtain⟨j,hj⟩:=List.getElem?_of_mem hx
  have hlt:j < cs.size:=by
   rw[hl]
   rcases Nat.lt_or_ge j xs.length with h|h
   ·exact h
   ·rw[List.getElem?_eq_none h]at hj;cases hj
  exact zbN.lenOk (h j cs[j] x (Array.getElem?_eq_getElem hlt) hj)
 |tup=>trivial
 |bad=>trivial
def fnOk (P:Program)(f:FuncId):Bool:=match P.funcs[f]? with
 | some fn => !(fn.name == "runtime.NumGoroutine") && !fn.body.isNone
 |none=>false
theorem zab{P:Program}{f:FuncId}{args:List AV}{pre:List Blk}{out:Out}{post:List (Id × Blk)}(hf:fnOk P f=true)(h:(∀ x ∈ args,x.lenOk)->CAt P f args pre out post):CAt P f args pre out post:=by
 refine⟨?_,fun w vs bad0 m hP hlen hrep hglob=>?_⟩
 ·unfold fnOk at hf
  split at hf
  ·rename_i fn hfn
   simp only[Bool.and_eq_true,Bool.not_eq_true']at hf
   exact⟨fn,hfn,hf.1,hf.2⟩
  ·cases hf
 ·refine(h fun x hx=>?_).2 w vs bad0 m hP hlen hrep hglob
  obtain⟨j,hj⟩:=List.getElem?_of_mem hx
  have hlt:j < vs.size:=by
   rw[hlen]
   rcases Nat.lt_or_ge j args.length with h|h
   ·exact h
   ·rw[List.getElem?_eq_none h]at hj;cases hj
  exact(hrep j vs[j] x (Array.getElem?_eq_getElem hlt) hj).lenOk
theorem LenOk.len{n:Nat}{cells:List CV}(h:LenOk (.sl n cells)):n<=maxLen:=by cases h;assumption
theorem LenOk.mem{n:Nat}{cells:List CV}(h:LenOk (.sl n cells)){x:CV}(hx:x ∈ cells):LenOk x:=by cases h;rename_i h;exact h x hx
theorem wrap_succ{k n:Nat}(h:k < n)(hn:n<=maxLen):IntKind.i64.wrap ((k:Int)+1)=((k+1:Nat):Int):=by
 unfold maxLen at hn
 rw[wrap_i64 (by omega) (by omega)];simp
@[simp] theorem zBV(k n s:Nat):k * s+s<=n * s ↔ k < n \/ s=0:=by
 constructor
 ·intro h
  rcases Nat.eq_zero_or_pos s with h0|h0
  ·exact .inr h0
  ·refine .inl ?_
   have h':(k+1) * s<=n * s:=by rw[Nat.succ_mul];exact h
   have:=Nat.le_of_mul_le_mul_right h' h0
   omega
 ·rintro(h|rfl)
  ·have:=Nat.mul_le_mul_right s (show k+1<=n from h)
   rwa [Nat.succ_mul]at this
  ·simp
theorem zhr{k n s j:Nat}(hj:j < s):k * s+j < n * s ↔ k < n:=by
 constructor
 ·intro h
  rcases Nat.lt_or_ge k n with h'|h'
  ·exact h'
  ·have:=Nat.mul_le_mul_right s h';omega
 ·intro h
  have:=Nat.mul_le_mul_right s (show k+1<=n from h)
  rw[Nat.succ_mul]at this;omega
@[simp] theorem zx7(k n:Nat):k * 2+1 < n * 2 ↔ k < n:=zhr (by omega)
@[simp] theorem zx6(k n:Nat):k * 8+1 < n * 8 ↔ k < n:=zhr (by omega)
@[simp] theorem zx5(k n:Nat):k * 8+2 < n * 8 ↔ k < n:=zhr (by omega)
@[simp] theorem zx4(k n:Nat):k * 8+3 < n * 8 ↔ k < n:=zhr (by omega)
@[simp] theorem zx3(k n:Nat):k * 8+4 < n * 8 ↔ k < n:=zhr (by omega)
@[simp] theorem zx2(k n:Nat):k * 8+5 < n * 8 ↔ k < n:=zhr (by omega)
@[simp] theorem zx1(k n:Nat):k * 8+6 < n * 8 ↔ k < n:=zhr (by omega)
@[simp] theorem zx0(k n:Nat):k * 8+7 < n * 8 ↔ k < n:=zhr (by omega)
def AV.unbx:AV->AV
 |.cell (.p (.bx cells))=>.cell (.ep cells 0)
 |x=>x
theorem zqF{w:World}{m:Mem}{bad0:Nat->Prop}{v:Value}{x:AV}(h:AVRep w m bad0 v x):AVRep w m bad0 v x.unbx:=by
 unfold AV.unbx
 split
 ·rename_i cells
  have hr:=zar h
  cases hr with
  |bx g raws _ hl ho hc hr=>
   have h0:g.add 0=g:=by unfold Addr.add;split<;>rename_i e<;>cases g<;>simp_all
   exact .cell _ _ ⟨g,raws,by rw[h0],fun j u hj=>hc j u hj,⟨hl,ho,hr⟩⟩
 ·exact h
theorem zqG{vs:Array Value}{args:List AV}{w:World}{m:Mem}{bad0:Nat->Prop}(h:∀(j:Nat) (u:Value) (x:AV),vs[j]?=some u->args[j]?=some x->AVRep w m bad0 u x) :
  ∀(j:Nat) (u:Value) (x:AV),vs[j]?=some u->(args.map AV.unbx)[j]?=some x->AVRep w m bad0 u x:=by
 intro j u x hu hx
 rw[List.getElem?_map,Option.map_eq_some_iff]at hx
 obtain⟨y,hy,rfl⟩:=hx
 exact zqF (h j u y hu hy)
theorem zqL{P:Program}{f:FuncId}{caps caps':List AV}{xs:List (List EV)}(ha:caps.map AV.unbx=caps')(h:zl0 P f caps' xs):zl0 P f caps xs:=by
 subst ha
 exact⟨h.1,fun w vs Bz l seq hbad hlen hrep hglob hS h0=>h.2 w vs Bz l seq hbad (by simpa using hlen) (zqG hrep) hglob hS h0⟩
attribute [simp] AV.unbx
def AC.unz:AC->AC
 |.z=>.p (.sl 0 [])
 |x=>x
def AV.unz:AV->AV
 |.cell x=>.cell x.unz
 |.agg xs=>.agg (xs.map AC.unz)
 |x=>x
theorem zoB{w:World}{m:Mem}{bad0:Nat->Prop}{v:Value}{x:AC}(h:zbN w m bad0 v x):zbN w m bad0 v x.unz:=by
 cases x<;>try exact h
 obtain⟨a,rfl⟩:=h
 exact CRep.sl a 0 0 [] [] (Nat.le_refl _) (Nat.zero_le _) rfl (by simp) (by simp) (by simp)
theorem zoA{w:World}{m:Mem}{bad0:Nat->Prop}{v:Value}{x:AV}(h:AVRep w m bad0 v x):AVRep w m bad0 v x.unz:=by
 cases h with
 |cell v x h=>exact .cell _ _ (zoB h)
 |agg cs xs hl ho h=>
  refine .agg cs _ (by simpa using hl) ho fun j u x hu hx=>?_
  rw[List.getElem?_map,Option.map_eq_some_iff]at hx
  obtain⟨y,hy,rfl⟩:=hx
  exact zoB (h j u y hu hy)
 |tup vs xs hl h=>exact .tup vs xs hl h
 |bad v=>exact .bad v
theorem zw7{P:Program}{f:FuncId}{args args':List AV}{pre:List Blk}{out:Out}{post:List (Id × Blk)}(ha:args.map AV.unz=args')(h:CAt P f args' pre out post):CAt P f args pre out post:=by
 subst ha
 refine⟨h.1,fun w vs bad0 m hP hlen hrep hglob=>h.2 w vs bad0 m hP (by simpa using hlen) (fun j u x hu hx=>?_) hglob⟩
 rw[List.getElem?_map,Option.map_eq_some_iff]at hx
 obtain⟨y,hy,rfl⟩:=hx
 exact zoA (hrep j u y hu hy)
attribute [simp] AV.unz
@[simp] theorem zy8(x:CV):AC.unz (.p x)=(.p x:AC):=rfl
@[simp] theorem zy7 :AC.unz .z=(.p (.sl 0 []):AC):=rfl
@[simp] theorem zvb(b:Id)(off:Nat):AC.unz (.ref b off)=(.ref b off:AC):=rfl
@[simp] theorem zxh(b:Id)(off sz n:Nat):AC.unz (.sl b off sz n)=(.sl b off sz n:AC):=rfl
@[simp] theorem zxi(b:Id):AC.unz (.mp b)=(.mp b:AC):=rfl
@[simp] theorem zxk(cells:List CV)(pos:Nat):AC.unz (.ep cells pos)=(.ep cells pos:AC):=rfl
@[simp] theorem zxj(g:Nat)(caps:List (Id ⊕ CV)):AC.unz (.fn g caps)=(.fn g caps:AC):=rfl
@[simp] theorem zvc(t:OT):AC.unz (.own t)=(.own t:AC):=rfl
@[simp] theorem zxg(l:Nat):AC.unz (.yl l)=(.yl l:AC):=rfl
@[simp] theorem zvd :AC.unz .bad=(.bad:AC):=rfl
@[simp] theorem zyu(a:Int):ltI a a=false:=by simp[ltI]
@[simp] theorem zrq(n:Nat):ltI 0 ((n:Int)+1)=true:=by unfold ltI;exact decide_eq_true (by omega)
@[simp] theorem zyJ(a:Int):eqI a a=true:=by simp[eqI]
end Go.Hw
end
section
namespace Go.Hw
variable [Globals]
def zc5:List (Option (List CV))->Option (List CV)
 |[]=>some []
 |none::_=>none
 |some a::r=>(zc5 r).map (a++·)
def cvD {H:Type}(P:Program):Nat->TypeId->DataW H->Option (List CV)
 |0,_,_=>none
 |n+1,t,d=>match P.underlying t with
  |some .bool=>match d with
   |.lit (.bool b)=>some [.c (.bool b)]
   |_=>none
  |some (.int k)=>match d with
   |.lit (.int _ m)=>if k.min<=m /\ m<=k.max then some [.c (.int k m)] else none
   |_=>none
  |some .string=>match d with
   |.lit (.string l)=>some [.c (.string ⟨l.toArray⟩)]
   |_=>none
  |some (.slice e)=>match d with
   |.nil=>some [.sl 0 []]
   |.slice l _=>(zc5 (l.map (cvD P n e))).map fun c=>[.sl l.length c]
   |_=>none
  |some (.struct fs)=>match d with
   |.agg l=>if l.length=fs.size then zc5 (List.zipWith (fun f d=>cvD P n f.type d) fs.toList l) else none
   |_=>none
  |some (.array k e)=>match d with
   |.agg l=>if l.length=k then zc5 (l.map (cvD P n e)) else none
   |_=>none
  |_=>none
def zhF(P:Program):Nat->List Field->Option Nat
 |off,[]=>some off
 |off,f::r=>if f.offset=off then zhF P (off+P.cellsOf f.type) r else none
def zeo(P:Program):Nat->TypeId->Bool
 |0,_=>false
 |n+1,t=>match P.underlying t with
  |some .bool=>P.cellsOf t == 1
  |some (.int _)=>P.cellsOf t == 1
  |some .string=>P.cellsOf t == 1
  |some (.slice e)=>zeo P n e && P.cellsOf t == 1
  |some (.struct fs)=>fs.toList.all (fun f=>zeo P n f.type) && zhF P 0 fs.toList == some (P.cellsOf t)
  |some (.array k e)=>zeo P n e && P.cellsOf t == k * P.cellsOf e
  |_=>false
theorem CReps.nil{w:World}{bad:Nat->Prop}:CReps w bad [] []:=⟨rfl,by simp,by simp⟩
theorem CReps.single{w:World}{bad:Nat->Prop}{v:Value}{c:CV}(h:CRep w bad v c)(ho:v.oneCell'=true):CReps w bad [v] [c]:=by
 refine⟨rfl,by simpa using ho,fun j u x hu hx=>?_⟩
 cases j with
 |zero=>simp at hu hx;subst hu;subst hx;exact h
 |succ j=>simp at hu
theorem CReps.append{w:World}{bad:Nat->Prop}{a b:List Value}{c d:List CV}(h:CReps w bad a c)(k:CReps w bad b d):CReps w bad (a++b) (c++d):=by
 refine⟨by simp[h.len,k.len],fun u hu=>?_,fun j u x hu hx=>?_⟩
 ·rcases List.mem_append.1 hu with hu|hu
  ·exact h.one u hu
  ·exact k.one u hu
 ·rcases Nat.lt_or_ge j a.length with hj|hj
  ·rw[List.getElem?_append_left hj]at hu
   rw[List.getElem?_append_left (by rw[<- h.len];exact hj)]at hx
   exact h.rep j u x hu hx
  ·rw[List.getElem?_append_right hj]at hu
   rw[List.getElem?_append_right (by rw[<- h.len];exact hj),<- h.len]at hx
   exact k.rep _ u x hu hx
theorem zlv{P:Program}:∀ {fl:List Field} {off tot:Nat},zhF P off fl=some tot->off<=tot
 |[],off,tot,h=>by simp[zhF]at h;omega
 |f::r,off,tot,h=>by
  rw[zhF]at h
  split at h
  ·have:=zlv h;omega
  ·cases h
section
variable {H:Type} {enc:TypeId × Value->H} {P:Program} {w:World} {sp:Nat->Bool} {held:Bool} {bad:Nat->Prop}
theorem zoh{α:Type}(cs:List α){off sz tot:Nat}(h:off+sz<=tot):(cs.drop off).take (tot - off)=(cs.drop off).take sz++(cs.drop (off+sz)).take (tot - (off+sz)):=by
 have:tot - off=sz+(tot - (off+sz)):=by omega
 rw[this,List.take_add,List.drop_drop]
theorem zij{m fuel:Nat}(ih:∀(t:TypeId) (cs:List Value) (x:DataW H × List MemPlace) (fuel:Nat),zeo P m t=true->DataW.trod enc P w 0 sp held fuel t cs=some x->∃ cvs,cvD P m t x.1=some cvs /\ CReps w bad cs cvs){cs:List Value} :
  ∀(fl:List Field) (xs:List (DataW H × List MemPlace)) (off tot:Nat),(fl.all fun f=>zeo P m f.type)=true->zhF P off fl=some tot->xs.length=fl.length ->
   (∀(i:Nat) (f:Field),fl[i]?=some f->DataW.trod enc P w 0 sp held fuel f.type ((cs.drop f.offset).take (P.cellsOf f.type))=xs[i]?) ->
   ∃ cvs,zc5 (List.zipWith (fun f d=>cvD P m f.type d) fl (xs.map (·.1)))=some cvs /\ CReps w bad ((cs.drop off).take (tot - off)) cvs
 |[],xs,off,tot,_,hc,hl,_=>by
  simp[zhF]at hc
  subst hc
  exact⟨[],by simp[zc5],by simpa using CReps.nil⟩
 |f::r,[],off,tot,_,_,hl,_=>by simp at hl
 |f::r,x::xs,off,tot,hp,hc,hl,ht=>by
  rw[zhF]at hc
  split at hc
  ·rename_i ho
   simp only[List.all_cons,Bool.and_eq_true]at hp
   have h0:=ht 0 f rfl
   simp at h0
   rw[ho]at h0
   obtain⟨c1,e1,r1⟩:=ih f.type _ x fuel hp.1 h0
   obtain⟨c2,e2,r2⟩:=zij ih r xs (off+P.cellsOf f.type) tot hp.2 hc (by simpa using hl) (fun i g hg=>by simpa using ht (i+1) g (by simpa using hg))
   refine⟨c1++c2,?_,?_⟩
   ·simp only[List.map_cons,List.zipWith_cons_cons,e1,zc5,e2,Option.map_some]
   ·rw[zoh cs (zlv hc)]
    exact r1.append r2
  ·cases hc
theorem zjD{m fuel:Nat}{e:TypeId}(hp:zeo P m e=true)(ih:∀(t:TypeId) (cs:List Value) (x:DataW H × List MemPlace) (fuel:Nat),zeo P m t=true->DataW.trod enc P w 0 sp held fuel t cs=some x->∃ cvs,cvD P m t x.1=some cvs /\ CReps w bad cs cvs){cs:List Value} :
  ∀(xs:List (DataW H × List MemPlace)) (i0:Nat),(∀ i,i < xs.length->DataW.trod enc P w 0 sp held fuel e ((cs.drop ((i0+i) * P.cellsOf e)).take (P.cellsOf e))=xs[i]?) ->
   ∃ cvs,zc5 ((xs.map (·.1)).map (cvD P m e))=some cvs /\ CReps w bad ((cs.drop (i0 * P.cellsOf e)).take (xs.length * P.cellsOf e)) cvs
 |[],i0,_=>⟨[],by simp[zc5],by simpa using CReps.nil⟩
 |x::xs,i0,ht=>by
  have h0:=ht 0 (by simp)
  simp at h0
  obtain⟨c1,e1,r1⟩:=ih e _ x fuel hp h0
  obtain⟨c2,e2,r2⟩:=zjD hp ih xs (i0+1) (fun i hi=>by
   have:=ht (i+1) (by simpa using hi)
   rw[show i0+(i+1)=i0+1+i by omega]at this
   simpa using this)
  refine⟨c1++c2,by simp only[List.map_cons,e1,zc5,e2,Option.map_some],?_⟩
  have h1:(i0+1) * P.cellsOf e=i0 * P.cellsOf e+P.cellsOf e:=by rw[Nat.succ_mul]
  rw[h1]at r2
  have h2:(x::xs).length * P.cellsOf e=P.cellsOf e+xs.length * P.cellsOf e:=by rw[List.length_cons,Nat.succ_mul];omega
  rw[h2,List.take_add,List.drop_drop]
  exact r1.append r2
theorem addr_add(a:Addr)(i j:Nat):(a.add i).add j=a.add (i+j):=Go.Addr.add_add a i j
theorem zjC{m fuel:Nat}{e:TypeId}{a:Addr}(hp:zeo P m e=true)(ih:∀(t:TypeId) (cs:List Value) (x:DataW H × List MemPlace) (fuel:Nat),zeo P m t=true->DataW.trod enc P w 0 sp held fuel t cs=some x->∃ cvs,cvD P m t x.1=some cvs /\ CReps w bad cs cvs) :
  ∀(xs:List (DataW H × List MemPlace)) (i0:Nat),(∀ i,i < xs.length->(w.cells? 0 (a.add ((i0+i) * P.cellsOf e)) (P.cellsOf e)).bind (DataW.trod enc P w 0 sp held fuel e)=xs[i]?) ->
   ∃ cvs raws,zc5 ((xs.map (·.1)).map (cvD P m e))=some cvs /\ CReps w bad raws cvs /\ raws.length=xs.length * P.cellsOf e /\ ∀ j u,raws[j]?=some u->w.cell? (a.add (i0 * P.cellsOf e+j))=some u
 |[],i0,_=>⟨[],[],by simp[zc5],CReps.nil,by simp,by simp⟩
 |x::xs,i0,ht=>by
  have h0:=ht 0 (by simp)
  simp only[Nat.add_zero,List.getElem?_cons_zero,Option.bind_eq_some_iff]at h0
  obtain⟨us,hu,h0⟩:=h0
  obtain⟨c1,e1,r1⟩:=ih e _ x fuel hp h0
  obtain⟨c2,raws,e2,r2,hl,hm⟩:=zjC hp ih xs (i0+1) (fun i hi=>by
   have:=ht (i+1) (by simpa using hi)
   rw[show i0+(i+1)=i0+1+i by omega]at this
   simpa using this)
  obtain⟨_,hul,huc⟩:=World.cells?_some hu
  refine⟨c1++c2,us++raws,by simp only[List.map_cons,e1,zc5,e2,Option.map_some],r1.append r2,?_,fun j u hj=>?_⟩
  ·rw[List.length_append,hul,hl,List.length_cons,Nat.succ_mul];omega
  ·rcases Nat.lt_or_ge j us.length with hj'|hj'
   ·rw[List.getElem?_append_left hj']at hj
    have:=huc j (by omega)
    rw[addr_add]at this
    rw[this,hj]
   ·rw[List.getElem?_append_right hj']at hj
    have:=hm _ u hj
    have h1:(i0+1) * P.cellsOf e=i0 * P.cellsOf e+P.cellsOf e:=by rw[Nat.succ_mul]
    rw[h1,Nat.add_assoc,show P.cellsOf e+(j - us.length)=j by omega]at this
    exact this
theorem zmX(hbad:∀ b,¬ bad b):∀(m:Nat) (t:TypeId) (cs:List Value) (x:DataW H × List MemPlace) (fuel:Nat),zeo P m t=true->DataW.trod enc P w 0 sp held fuel t cs=some x->∃ cvs,cvD P m t x.1=some cvs /\ CReps w bad cs cvs
 |0,t,cs,x,fuel,hp,_=>by simp[zeo]at hp
 |m+1,t,cs,x,fuel,hp,h=>by
  have ih:=zmX hbad m
  rw[zeo]at hp
  split at hp
  ·rename_i hu
   obtain⟨b,rfl,rfl⟩:=DataW.trod_bool hu h
   exact⟨[.c (.bool b)],by simp[cvD,hu],.single (.c _) rfl⟩
  ·rename_i k hu
   obtain⟨n,rfl,rfl,hw⟩:=DataW.trod_int hu h
   exact⟨[.c (.int k n)],by simp only[cvD,hu];rw[if_pos (by simpa [Lit.wf]using hw)],.single (.c _) rfl⟩
  ·rename_i hu
   obtain⟨s,rfl,rfl,_⟩:=DataW.trod_string hu h
   exact⟨[.c (.string s)],by simp[cvD,hu],.single (.c _) rfl⟩
  ·rename_i e hu
   simp only[Bool.and_eq_true]at hp
   rcases DataW.trod_slice hu h with⟨rfl,rfl⟩ |⟨a,len,cap,elems,rest,n,rfl,rfl,rfl,_,hlc,hcm,hel,hE,_,_⟩
   ·exact⟨[.sl 0 []],by simp[cvD,hu],.single (.sl none 0 0 [] [] (Nat.le_refl _) (Nat.zero_le _) rfl (by simp) (by simp) (by simp)) rfl⟩
   ·obtain⟨cvs,raws,e1,r1,hl,hm⟩:=zjC hp.1 ih elems 0 (fun i hi=>by simpa using hE i (by omega))
    refine⟨[.sl elems.length cvs],by simp only[cvD,hu,e1,Option.map_some,List.length_map],.single ?_ rfl⟩
    rw[<- hel]
    exact .sl (some a) _ cap raws cvs (by omega) hcm r1.len r1.one (fun j u hj=>⟨a,rfl,hbad _,by simpa using hm j u hj⟩) r1.rep
  ·rename_i fs hu
   simp only[Bool.and_eq_true,beq_iff_eq]at hp
   obtain⟨xs,n,rfl,rfl,hcl,hxl,hF⟩:=DataW.trod_struct hu h
   obtain⟨cvs,e1,r1⟩:=zij (fuel:=n) ih (cs:=cs) fs.toList xs 0 (P.cellsOf t) hp.1 hp.2 (by simpa using hxl) (fun i f hf=>hF i f (by simpa using hf))
   refine⟨cvs,by simp only[cvD,hu,e1,List.length_map,hxl,if_true],?_⟩
   have:(cs.drop 0).take (P.cellsOf t - 0)=cs:=by rw[<- hcl];simp
   rwa [this]at r1
  ·rename_i k e hu
   simp only[Bool.and_eq_true,beq_iff_eq]at hp
   obtain⟨xs,n,rfl,rfl,hcl,hxl,hE⟩:=DataW.trod_array hu h
   obtain⟨cvs,e1,r1⟩:=zjD (fuel:=n) hp.1 ih (cs:=cs) xs 0 (fun i hi=>by simpa using hE i (by omega))
   refine⟨cvs,by simp only[cvD,hu,e1,List.length_map,hxl,if_true],?_⟩
   have:(cs.drop (0 * P.cellsOf e)).take (xs.length * P.cellsOf e)=cs:=by
    rw[hxl,<- hp.2,<- hcl];simp
   rwa [this]at r1
  ·cases hp
theorem zgZ{m g:Nat}{t:TypeId}{cs:List Value}{x:DataW H × List MemPlace}{fuel:Nat}{cells:List CV}(hp:zeo P m t=true)(h:DataW.trod enc P w 0 sp held fuel t cs=some x)(hx:cvD P m t x.1=some cells)
  (hc:∀ j,w.cell? ⟨g,j,none⟩=cs[j]?):AVRep w m0 (fun _=>False) (.pointer (some ⟨g,0,none⟩)) (.cell (.ep cells 0)):=by
 obtain⟨cvs,e,hr⟩:=zmX (bad:=Bad m0 (fun _=>False)) (fun b hb=>(zgN).1 hb) m t _ _ _ hp h
 rw[hx]at e
 cases e
 have ha:∀ j,(⟨g,0,none⟩:Addr).add j=⟨g,j,none⟩:=fun j=>by
  cases j with
  |zero=>rfl
  |succ j=>simp[Addr.add]
 refine .cell _ _ ⟨⟨g,0,none⟩,cs,by rw[ha],fun j u hj=>⟨fun hb=>(zgN).1 hb,by rw[ha,hc,hj]⟩,hr⟩
end
section
variable {H:Type} {P:Program} {n t e:Nat} {d:DataW H} {c:List CV}
end
end Go.Hw
end
section
namespace Go.Hw
variable [Globals]
def AC.kil(y:Id):AC->AC
 |.ref b off=>if b=y then .bad else .ref b off
 |.sl b off sz n=>if b=y then .bad else .sl b off sz n
 |.mp b=>if b=y then .bad else .mp b
 |.fn g caps=>if caps.any (fun c=>match c with|.inl b=>b == y|_=>false) then .bad else .fn g caps
 |c=>c
def St.kil(st:St)(y:Id):St:={ st with env:=fun s=>(st.env s).mp (AC.kil y),hp:=fun i=>if i=y then none else(st.hp i).map (Blk.mp (AC.kil y)) }
def St.void(st:St)(y:Id)(d sz:Nat):St:={ st.kil y with env:=fun s=>if s=d then .cell (.sl y 0 sz 0) else(st.env s).mp (AC.kil y),hp:=fun i=>if i=y then some (.pure []) else(st.hp i).map (Blk.mp (AC.kil y)) }
def St.voidB(st:St)(y b:Id)(j sz:Nat):St:={ st.kil y with hp:=fun i=>if i=y then some (.pure []) else if i=b then(match st.hp b with|some (.cells l)=>some (.cells ((l.map (AC.kil y)).set j (.sl y 0 sz 0)))|o=>o.map (Blk.mp (AC.kil y))) else(st.hp i).map (Blk.mp (AC.kil y)) }
section
variable {C:Cx} {st:St} {a:Act} {w:World} {m:Mem} {bad0 prot:Nat->Prop}
theorem zgW{y:Id}{q:Nat}(h:Own (m.set y .vd) q):Own m q:=by
 rcases Own.set h with⟨base,h⟩|h
 ·cases h
 ·exact h
theorem zoK(hm:MemOk w prot bad0 m){y:Id}:MemOk w prot bad0 (m.set y .vd):=by
 have key:∀ c q b,(m.set y .vd).ρ c=.at_ q b->m.ρ c=.at_ q b:=fun c q b h=>by
  simp only[Mem.set]at h
  split at h
  ·cases h
  ·exact h
 have hid:∀ c k q,q ∈ (m.set y .vd).hid c k->q ∈ m.hid c k:=fun c k q h=>by
  simp only[Mem.set]at h
  split at h
  ·cases h
  ·exact h
 refine⟨fun q hq=>hm.lt q (zgW hq),fun c d q b1 b2 h1 h2 h3 h4=>hm.inj c d q b1 b2 h1 h2 (key _ _ _ h3) (key _ _ _ h4),fun c q b1 d k h1 h2 h3=>hm.sep c q b1 d k h1 (key _ _ _ h2) (hid _ _ _ h3),fun c k=>?_,fun c k c' k' q h1 h2=>hm.hdj c k c' k' q (hid _ _ _ h1) (hid _ _ _ h2)⟩
 simp only[Mem.set]
 split
 ·exact List.nodup_nil
 ·exact hm.hnd c k
theorem zsj{y:Id}:Hx w (Bad m bad0) w (Bad (m.set y .vd) bad0) /\ Mp w bad0 m bad0 (m.set y .vd) (AC.kil y) false:=by
 have px:Hx w (Bad m bad0) w (Bad (m.set y .vd) bad0):=Hx.same fun q h h'=>h (h'.imp zgW id)
 have e1:∀ {b},¬ b=y->(m.set y .vd).ρ b=m.ρ b:=fun h=>by simp[Mem.set,h]
 refine⟨px,fun v c _ h=>?_,fun t=>rfl,fun v t hs _ h=>OTR.mono px h fun _ _=>rfl,fun c=>rfl⟩
 cases c with
 |p c=>exact CRep.mono px h
 |z=>exact h
 |ref b off=>
  simp only[AC.kil]
  split
  ·trivial
  ·rename_i hl;show RefR _ _ _;rw[e1 hl];exact h
 |sl b off sz n=>
  simp only[AC.kil]
  split
  ·trivial
  ·rename_i hl;show SlR _ _ _ _ _ _;rw[e1 hl];exact h
 |mp b=>
  simp only[AC.kil]
  split
  ·trivial
  ·rename_i hl;show MpR _ _;rw[e1 hl];exact h
 |ep cells pos=>
  obtain⟨z,raws,hv,hc,hr⟩:=h
  exact⟨z,raws,hv,fun j u hj=>⟨fun hn=>(hc j u hj).1 (hn.imp zgW id),(hc j u hj).2⟩,hr.mono px⟩
 |fn g caps=>
  simp only[AC.kil]
  split
  ·trivial
  ·rename_i hl
   obtain⟨vs,hv,hn,h1,h2⟩:=h
   refine⟨vs,hv,hn,fun j u b hu hc=>?_,fun j u c hu hc=>CRep.mono px (h2 j u c hu hc)⟩
   rw[e1]
   ·exact h1 j u b hu hc
   ·rintro rfl
    exact hl (List.any_eq_true.2 ⟨.inl b,List.mem_of_getElem? hc,by simp⟩)
 |own t=>exact h
 |yl l=>exact h
 |bad=>trivial
theorem J.kil(hJ:J C st a w m){y:Id}(hy:isL y=true):J C (st.kil y) a w (m.set y .vd):=by
 have hFy:isF y=false:=by cases y<;>simp_all [isL,isF]
 refine hJ.mapped zsj.2 zsj.1 (zoK hJ.mem) (fun i b' hb=>?_) (fun g i k hg=>?_) (fun z=>?_) fun k hk=>?_
 ·split at hb
  ·cases hb
  ·rename_i e
   rw[Option.map_eq_some_iff]at hb
   obtain⟨b0,h1,rfl⟩:=hb
   exact⟨(hJ.hp i b0 h1).1,i,b0,h1,rfl,by simp[Mem.set,e],fun k=>by simp[Mem.set,e]⟩
 ·have hne:Id.o g i k ≠ y:=fun e=>by rw[<- e]at hy;cases hy
  simp only[Mem.set,if_neg hne];exact hJ.gen g i k hg
 ·have h2:Id.f z ≠ y:=fun e=>by rw[<- e]at hFy;cases hFy
  simp[Mem.set,h2]
 ·have h2:k ≠ y:=fun e=>by rw[<- e]at hy;cases k<;>simp_all [isK,isL]
  exact .inr (by simp[Mem.set,h2])
theorem J.withHp(hJ:J C st a w m)(env:Nat->AV)(hp:Id->Option Blk)(he:∀ s,AVRep w m C.bad0 (a.tmps.getD s undef) (env s))(hh:∀ i b,hp i=some b->isF i=false /\ BlkR w m C.bad0 i b):J C { st with env:=env,hp:=hp } a w m:=
 ⟨hJ.size,hJ.ext.of rfl rfl,hJ.os,hJ.tape,hJ.output,hJ.grown,hJ.kept,hJ.protlt,hJ.badlt,hJ.mem,he,hh,hJ.gen,hJ.fore,hJ.arg,hJ.argS,hJ.glob⟩
end
theorem Gh.kil(st:St)(y:Id)(hy:isL y=true):Gh st (st.kil y):=fun C a w m hJ=>⟨_,hJ.kil hy⟩
theorem Gh.void(st:St)(y:Id)(d sz:Nat)(hy:isL y=true)(hz:st.env d=.cell .z):Gh st (st.void y d sz):=by
 intro C a w m hJ
 have hFy:isF y=false:=by cases y<;>simp_all [isL,isF]
 have h1:=hJ.kil hy
 have hv:(m.set y .vd).ρ y=.vd:=by simp[Mem.set]
 refine⟨m.set y .vd,h1.withHp _ _ (fun s=>?_) (fun i b hb=>?_)⟩
 ·skip
  split
  ·rename_i e;subst e
   have h2:=hJ.env s
   rw[hz]at h2
   obtain⟨a',ha'⟩:=zar h2
   refine .cell _ _ ?_
   show SlR _ _ _ _ _ _
   rw[hv];exact⟨rfl,a',ha'⟩
  ·exact h1.env s
 ·skip
  split at hb
  ·rename_i e;subst e;cases hb
   refine⟨hFy,?_⟩
   simp only[BlkR,zaq,hv,List.map_nil]
  ·rename_i e
   exact h1.hp i b (by simp only[St.kil];rw[if_neg e];exact hb)
theorem Gh.voidB(st:St)(y b:Id)(j sz:Nat)(hy:isL y=true){l:List AC}(hb:st.hp b=some (.cells l))(hz:l[j]?=some .z)(hne:b ≠ y):Gh st (st.voidB y b j sz):=by
 intro C a w m hJ
 have hFy:isF y=false:=by cases y<;>simp_all [isL,isF]
 have h1:=hJ.kil hy
 have hv:(m.set y .vd).ρ y=.vd:=by simp[Mem.set]
 have hkb:(st.kil y).hp b=some (.cells (l.map (AC.kil y))):=by simp only[St.kil];rw[if_neg hne,hb];rfl
 refine⟨m.set y .vd,h1.withHp _ _ (fun s=>h1.env s) (fun i bl hbl=>?_)⟩
 skip
 split at hbl
 ·rename_i e;subst e;cases hbl
  refine⟨hFy,?_⟩
  simp only[BlkR,zaq,hv,List.map_nil]
 ·rename_i e
  split at hbl
  ·rename_i e2;subst e2
   rw[hb]at hbl
   cases hbl
   obtain⟨hF,hR⟩:=h1.hp i _ hkb
   refine⟨hF,?_⟩
   simp only[BlkR,zaq]at hR ⊢
   cases hs:(m.set y .vd).ρ i with
   |vd=>
    rw[hs]at hR
    simp only[List.map_eq_nil_iff]at hR
    subst hR;simp at hz
   |at_ g base=>
    rw[hs]at hR
    obtain⟨cur,e',fr,h2,h3,h4,h5⟩:=hR
    refine⟨cur,e',fr,h2,h3,by simpa using h4,fun k u x hu hx=>?_⟩
    rw[List.getElem?_set]at hx
    split at hx
    ·rename_i ej;subst ej
     split at hx
     ·cases hx
      obtain⟨h6,h7⟩:=h5 j u .z hu (by rw[List.getElem?_map,hz];rfl)
      refine⟨h6,?_⟩
      obtain⟨a',ha'⟩:∃ a,u=.slice a 0 0:=h7
      show SlR _ _ _ _ _ _
      rw[hv];exact⟨rfl,a',ha'⟩
     ·cases hx
    ·exact h5 k u x hu hx
   |un=>rw[hs]at hR;exact hR.elim
   |dead=>rw[hs]at hR;exact hR.elim
  ·rename_i e2
   exact h1.hp i bl (by simp only[St.kil];rw[if_neg e];exact hbl)
section
variable {st:St} {x y b:Id} {d sz j s:Nat}
@[simp] theorem zAy:(st.ren x y).env s=(st.env s).mp (AC.ren x y):=rfl
@[simp] theorem zBW{i:Id}:(st.ren x y).hp i=if i=y then(st.hp x).map (Blk.mp (AC.ren x y)) else if i=x then none else(st.hp i).map (Blk.mp (AC.ren x y)):=rfl
@[simp] theorem zAx:(st.ren x y).gen=st.gen:=rfl
@[simp] theorem zAz:(st.ren x y).acc=st.acc:=rfl
@[simp] theorem zAT:(st.kil y).env s=(st.env s).mp (AC.kil y):=rfl
@[simp] theorem zCc{i:Id}:(st.kil y).hp i=if i=y then none else(st.hp i).map (Blk.mp (AC.kil y)):=rfl
@[simp] theorem zAS:(st.kil y).gen=st.gen:=rfl
@[simp] theorem zAU:(st.kil y).acc=st.acc:=rfl
@[simp] theorem zxO:(st.void y d sz).env s=if s=d then .cell (.sl y 0 sz 0) else(st.env s).mp (AC.kil y):=rfl
@[simp] theorem zzj{i:Id}:(st.void y d sz).hp i=if i=y then some (.pure []) else(st.hp i).map (Blk.mp (AC.kil y)):=rfl
@[simp] theorem zxN:(st.void y d sz).gen=st.gen:=rfl
@[simp] theorem zxP:(st.void y d sz).acc=st.acc:=rfl
@[simp] theorem zvy:(st.voidB y b j sz).env s=(st.env s).mp (AC.kil y):=rfl
@[simp] theorem zxQ{i:Id}:(st.voidB y b j sz).hp i=if i=y then some (.pure []) else if i=b then(match st.hp b with|some (.cells l)=>some (.cells ((l.map (AC.kil y)).set j (.sl y 0 sz 0)))|o=>o.map (Blk.mp (AC.kil y))) else(st.hp i).map (Blk.mp (AC.kil y)):=rfl
@[simp] theorem zvx:(st.voidB y b j sz).gen=st.gen:=rfl
@[simp] theorem zvz:(st.voidB y b j sz).acc=st.acc:=rfl
attribute [simp] idR
@[simp] theorem zzc(x0 y0:Id)(x:CV):AC.ren x0 y0 (.p x)=(.p x:AC):=rfl
@[simp] theorem zzb(x0 y0:Id):AC.ren x0 y0 .z=(.z:AC):=rfl
@[simp] theorem zvh(x0 y0:Id)(b:Id)(off:Nat):AC.ren x0 y0 (.ref b off)=(match idR x0 y0 b with|some b'=>.ref b' off|none=>.bad:AC):=rfl
@[simp] theorem zxr(x0 y0:Id)(b:Id)(off sz n:Nat):AC.ren x0 y0 (.sl b off sz n)=(match idR x0 y0 b with|some b'=>.sl b' off sz n|none=>.bad:AC):=rfl
@[simp] theorem zxs(x0 y0:Id)(b:Id):AC.ren x0 y0 (.mp b)=(match idR x0 y0 b with|some b'=>.mp b'|none=>.bad:AC):=rfl
@[simp] theorem zxu(x0 y0:Id)(cells:List CV)(pos:Nat):AC.ren x0 y0 (.ep cells pos)=(.ep cells pos:AC):=rfl
@[simp] theorem zxt(x0 y0:Id)(g:Nat)(caps:List (Id ⊕ CV)):AC.ren x0 y0 (.fn g caps)=(if caps.any (fun c=>match c with|.inl b=>b == y0|_=>false) then .bad else .fn g (caps.map fun c=>match c with|.inl b=>.inl (if b=x0 then y0 else b)|c=>c):AC):=rfl
@[simp] theorem zvi(x0 y0:Id)(t:OT):AC.ren x0 y0 (.own t)=(.own t:AC):=rfl
@[simp] theorem zxq(x0 y0:Id)(l:Nat):AC.ren x0 y0 (.yl l)=(.yl l:AC):=rfl
@[simp] theorem zvj(x0 y0:Id):AC.ren x0 y0 .bad=(.bad:AC):=rfl
@[simp] theorem zze(y0:Id)(x:CV):AC.kil y0 (.p x)=(.p x:AC):=rfl
@[simp] theorem zzd(y0:Id):AC.kil y0 .z=(.z:AC):=rfl
@[simp] theorem zvk(y0:Id)(b:Id)(off:Nat):AC.kil y0 (.ref b off)=(if b=y0 then .bad else .ref b off:AC):=rfl
@[simp] theorem zxw(y0:Id)(b:Id)(off sz n:Nat):AC.kil y0 (.sl b off sz n)=(if b=y0 then .bad else .sl b off sz n:AC):=rfl
@[simp] theorem zxx(y0:Id)(b:Id):AC.kil y0 (.mp b)=(if b=y0 then .bad else .mp b:AC):=rfl
@[simp] theorem zxz(y0:Id)(cells:List CV)(pos:Nat):AC.kil y0 (.ep cells pos)=(.ep cells pos:AC):=rfl
@[simp] theorem zxy(y0:Id)(g:Nat)(caps:List (Id ⊕ CV)):AC.kil y0 (.fn g caps)=(if caps.any (fun c=>match c with|.inl b=>b == y0|_=>false) then .bad else .fn g caps:AC):=rfl
@[simp] theorem zvl(y0:Id)(t:OT):AC.kil y0 (.own t)=(.own t:AC):=rfl
@[simp] theorem zxv(y0:Id)(l:Nat):AC.kil y0 (.yl l)=(.yl l:AC):=rfl
@[simp] theorem zvm(y0:Id):AC.kil y0 .bad=(.bad:AC):=rfl
@[simp] theorem zzg(b0:Id)(cs0:List CV)(x:CV):AC.frz b0 cs0 (.p x)=(.p x:AC):=rfl
@[simp] theorem zzf(b0:Id)(cs0:List CV):AC.frz b0 cs0 .z=(.z:AC):=rfl
@[simp] theorem zvn(b0:Id)(cs0:List CV)(b:Id)(off:Nat):AC.frz b0 cs0 (.ref b off)=(if b=b0 then .ep cs0 off else .ref b off:AC):=rfl
@[simp] theorem zxB(b0:Id)(cs0:List CV)(b:Id)(off sz n:Nat):AC.frz b0 cs0 (.sl b off sz n)=(if b=b0 then(if off+n * sz<=cs0.length then .p (.sl n ((cs0.drop off).take (n * sz))) else .bad) else .sl b off sz n:AC):=rfl
@[simp] theorem zxC(b0:Id)(cs0:List CV)(b:Id):AC.frz b0 cs0 (.mp b)=(if b=b0 then .bad else .mp b:AC):=rfl
@[simp] theorem zxE(b0:Id)(cs0:List CV)(cells:List CV)(pos:Nat):AC.frz b0 cs0 (.ep cells pos)=(.ep cells pos:AC):=rfl
@[simp] theorem zxD(b0:Id)(cs0:List CV)(g:Nat)(caps:List (Id ⊕ CV)):AC.frz b0 cs0 (.fn g caps)=((.fn g (caps.map fun c=>match c with|.inl b'=>if b'=b0 then .inr (.bx cs0) else .inl b'|c=>c):AC):AC):=rfl
@[simp] theorem zvo(b0:Id)(cs0:List CV)(t:OT):AC.frz b0 cs0 (.own t)=(.own t:AC):=rfl
@[simp] theorem zxA(b0:Id)(cs0:List CV)(l:Nat):AC.frz b0 cs0 (.yl l)=(.yl l:AC):=rfl
@[simp] theorem zvp(b0:Id)(cs0:List CV):AC.frz b0 cs0 .bad=(.bad:AC):=rfl
@[simp] theorem zAX:(st.frz b).gen=st.gen:=by unfold St.frz;split<;>rfl
@[simp] theorem zAY:(st.frz b).acc=st.acc:=by unfold St.frz;split<;>rfl
@[simp] theorem zu0{α:Type}(g:α->CV):(AC.ren x y ∘ fun b=>AC.p (g b))=fun b=>AC.p (g b):=rfl
@[simp] theorem zu1{α:Type}(g:α->CV):(AC.kil y ∘ fun b=>AC.p (g b))=fun b=>AC.p (g b):=rfl
@[simp] theorem zu3{α:Type}(cs:List CV)(g:α->CV):(AC.frz b cs ∘ fun b=>AC.p (g b))=fun b=>AC.p (g b):=rfl
@[simp] theorem zuY{α:Type}(fp:List Id)(g:α->CV):(AC.toF fp ∘ fun b=>AC.p (g b))=fun b=>AC.p (g b):=rfl
@[simp] theorem zuZ{α:Type}(fp:List Id)(hp:Id->Option Blk)(g:α->CV):((fun x=>AC.toC fp hp x) ∘ fun b=>AC.p (g b))=fun b=>AC.p (g b):=rfl
@[simp] theorem zsq{α:Type}(g:α->CV):(AC.dropL ∘ fun b=>AC.p (g b))=fun b=>AC.p (g b):=rfl
@[simp] theorem ztP:(AC.ren x y ∘ AC.p)=AC.p:=rfl
@[simp] theorem ztQ:(AC.kil y ∘ AC.p)=AC.p:=rfl
@[simp] theorem ztR(cs:List CV):(AC.frz b cs ∘ AC.p)=AC.p:=rfl
@[simp] theorem ztN(fp:List Id):(AC.toF fp ∘ AC.p)=AC.p:=rfl
@[simp] theorem ztO(fp:List Id)(hp:Id->Option Blk):((fun x=>AC.toC fp hp x) ∘ AC.p)=AC.p:=rfl
@[simp] theorem zrT:(AC.dropL ∘ AC.p)=AC.p:=rfl
@[simp] theorem AV.mp_ite(f:AC->AC)(p:Prop)[Decidable p](x y:AV):(if p then x else y).mp f=if p then x.mp f else y.mp f:=by split<;>rfl
@[simp] theorem AV.toC_ite(fp:List Id)(hp:Id->Option Blk)(p:Prop)[Decidable p](x y:AV):(if p then x else y).toC fp hp=if p then x.toC fp hp else y.toC fp hp:=by split<;>rfl
end
@[simp] theorem zyP{α:Type}(g:α->CV)(l:List α):cvs (l.map fun b=>.p (g b))=some (l.map g):=by
 have:(l.map fun b=>AC.p (g b))=(l.map g).map .p:=by simp
 rw[this,ztK]
@[simp] theorem zt8{α:Type}(g:α->CV)(l:List α):toCVs (l.map fun b=>.p (g b))=some (l.map g):=by
 have:(l.map fun b=>AC.p (g b))=(l.map g).map .p:=by simp
 rw[this,zoE]
attribute [simp] AV.ids AC.ids AV.ids.go AC.ids.go
theorem zk4{ops:Array Oper}{i j:Nat}{B C:Prop}(h:ordB ops i j=true)(k:C):(ordB ops i j=true \/ B) /\ C:=⟨.inl h,k⟩
theorem zk5{ops:Array Oper}{i j:Nat}{C:Prop}(h:ordB ops i j=true)(k:C):ordB ops i j=true /\ C:=⟨h,k⟩
theorem zaG{P:Program}{rs:List ResultVar}{r x:AV}{post:List (Id × Blk)}{st:St}(st':St)(hg:Gh st st')(h:zeF P st' rs=some x)(hr:x=r)(hp:∀ p ∈ post,st'.hp p.1=some p.2):zee P rs (.ret r) post .ret st:=by subst hr;exact znT st' hg h hp
def zrV(P:Program)(g i:Nat)(f:AV)(xs:List AV)(st:St)(X E:AV->St->Prop):Prop:=match f with
 |.cell (.yl l)=>zjA l xs st X
 |f=>zgM P g i f xs st.hp (fun v u=>X v (st.app u)) (exF E st)
@[simp] theorem zwq{P:Program}{g i:Nat}{t:Tmp}{args:List Operand}{ts:Array TypeId}{st:St}{X E:AV->St->Prop}:gop P g i (.call { callee:=.value (.tmp t),args:=args.toArray,argTypes:=ts }) st X E=zrV P g i (st.env t) (args.map (evAV st.env)) st X E:=by
 have e:gop P g i (.call { callee:=.value (.tmp t),args:=args.toArray,argTypes:=ts }) st X E=match st.env t with
  |.cell (.yl l)=>zjA l (args.toArray.toList.map (evAV st.env)) st X
  |f=>zgM P g i f (args.toArray.toList.map (evAV st.env)) st.hp (fun v u=>X v (st.app u)) (fun x u=>E x (st.app u)):=propext Iff.rfl
 rw[e,List.toList_toArray]
 rfl
@[simp] theorem zyT{P:Program}{g i l:Nat}{xs:List AV}{st:St}{X E:AV->St->Prop}:zrV P g i (.cell (.yl l)) xs st X E=zjA l xs st X:=propext Iff.rfl
@[simp] theorem zBm{P:Program}{g i:Nat}{c:CV}{xs:List AV}{st:St}{X E:AV->St->Prop}:zrV P g i (.cell (.p c)) xs st X E=zgM P g i (.cell (.p c)) xs st.hp (fun v u=>X v (st.app u)) (exF E st):=propext Iff.rfl
@[simp] theorem zyU{P:Program}{g i f:Nat}{caps:List (Id ⊕ CV)}{xs:List AV}{st:St}{X E:AV->St->Prop}:zrV P g i (.cell (.fn f caps)) xs st X E=zgM P g i (.cell (.fn f caps)) xs st.hp (fun v u=>X v (st.app u)) (exF E st):=propext Iff.rfl
attribute [simp] zjA
abbrev At(P:Program)(f:FuncId)(args:List AV)(r:AV):Prop:=CAt P f args [] (.ret r) []
@[congr] theorem ztS {P : Program} {zz : Nat} (hz : (0 + 0 : Nat) = zz) {g i n : Nat} {xs ys : List AV} {hp : Id -> Option Blk} {K E : AV -> List (Id × Option Blk) -> Prop} (h : xs = ys) : zc6 P g i n xs hp K E = zc6 P g i n ys hp K E := by rw [h]
end Go.Hw
end
