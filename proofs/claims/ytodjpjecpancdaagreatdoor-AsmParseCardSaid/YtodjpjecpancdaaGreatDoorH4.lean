/- Contracts of functions, by their numbers, and the laws that walk them. Conditions: as each states. -/
import Derived.Test.YtodjpjecpancdaaGreatDoorH3
import Derived.Test.YtodjpjecpancdaaGreatDoorProg
import Derived.KernelRfl
import Derived.RecoverIn
set_option linter.all false
set_option maxRecDepth 100000
set_option maxHeartbeats 4000000
section
namespace Go.Hw
class Enc (α:Type) where
 sz:Nat
 enc:α->List CV
 len:∀ x,(enc x).length=sz
def encL {α:Type}[Enc α](l:List α):List CV:=l.flatMap Enc.enc
instance:Enc Int:=⟨1,fun n=>[.c (.int .i64 n)],fun _=>rfl⟩
instance:Enc Bool:=⟨1,fun b=>[.c (.bool b)],fun _=>rfl⟩
instance:Enc ByteArray:=⟨1,fun s=>[.c (.string s)],fun _=>rfl⟩
instance:Enc UInt8:=⟨1,fun b=>[.c (.int .u8 (b.toNat:Int))],fun _=>rfl⟩
instance {α:Type} [Enc α]:Enc (List α):=⟨1,fun l=>[.sl l.length (encL l)],fun _=>rfl⟩
@[simp] theorem ztD(n:Int):Enc.enc n=[CV.c (.int .i64 n)]:=rfl
@[simp] theorem zrL(n:Bool):Enc.enc n=[CV.c (.bool n)]:=rfl
@[simp] theorem ztC(n:ByteArray):Enc.enc n=[CV.c (.string n)]:=rfl
@[simp] theorem zwN(n:UInt8):Enc.enc n=[CV.c (.int .u8 (n.toNat:Int))]:=rfl
@[simp] theorem zrK{α:Type}[Enc α](l:List α):Enc.enc l=[CV.sl l.length (encL l)]:=rfl
@[simp] theorem zBS:Enc.sz Int=1:=rfl
@[simp] theorem zAn:Enc.sz Bool=1:=rfl
@[simp] theorem zBR:Enc.sz ByteArray=1:=rfl
@[simp] theorem zCM:Enc.sz UInt8=1:=rfl
@[simp] theorem zAm{α:Type}[Enc α]:Enc.sz (List α)=1:=rfl
structure Arr (n:Nat) (α:Type) where
 f:Nat->α
instance {n:Nat} {α:Type} [Inhabited α]:Inhabited (Arr n α):=⟨⟨fun _=>default⟩⟩
theorem zmH{α β:Type}(l:List α)(g:α->List β)(k:Nat)(h:∀ x ∈ l,(g x).length=k):(l.flatMap g).length=l.length * k:=by
 induction l with
 |nil=>simp
 |cons x l ih=>
  have h1:=h x (by simp)
  have h2:=ih fun y hy=>h y (by simp[hy])
  simp[h1,h2,Nat.add_mul];omega
instance {n:Nat} {α:Type} [Enc α]:Enc (Arr n α):=⟨n * Enc.sz α,fun a=>(List.range n).flatMap fun j=>Enc.enc (a.f j),fun a=>by rw[zmH _ _ (Enc.sz α) (fun _ _=>Enc.len _)];simp⟩
variable [Globals]
section
variable {α:Type} [Enc α]
@[simp] theorem zrP:encL ([]:List α)=[]:=rfl
@[simp] theorem zgF(x:α)(l:List α):encL (x::l)=Enc.enc x++encL l:=rfl
@[simp] theorem zmJ(l r:List α):encL (l++r)=encL l++encL r:=by simp[encL]
@[simp] theorem zaE(l:List α):(encL l).length=l.length * Enc.sz α:=by
 induction l with
 |nil=>simp
 |cons x l ih=>simp[ih,Enc.len,Nat.add_mul];omega
theorem zpZ(l:List α)(k:Nat):(encL l).drop (k * Enc.sz α)=encL (l.drop k):=by
 induction l generalizing k with
 |nil=>simp
 |cons x l ih=>
  cases k with
  |zero=>simp
  |succ k=>
   have:(k+1) * Enc.sz α=(Enc.enc x).length+k * Enc.sz α:=by rw[Enc.len,Nat.add_mul];omega
   rw[this];simp[<- ih,List.drop_append]
theorem zlr(l:List α)(k:Nat):(encL l).take (k * Enc.sz α)=encL (l.take k):=by
 induction l generalizing k with
 |nil=>simp
 |cons x l ih=>
  cases k with
  |zero=>simp
  |succ k=>
   have:(k+1) * Enc.sz α=(Enc.enc x).length+k * Enc.sz α:=by rw[Enc.len,Nat.add_mul];omega
   rw[this];simp[<- ih,List.take_append,List.take_of_length_le]
theorem znx(l:List α):(encL l).take (l.length * Enc.sz α)=encL l:=by rw[zlr,List.take_length]
theorem zfF{l:List α}{j:Nat}{x:α}(hx:l[j]?=some x):encL l=encL (l.take j)++(Enc.enc x++encL (l.drop (j+1))):=by
 obtain⟨h,rfl⟩:=List.getElem?_eq_some_iff.1 hx
 have e:=congrArg encL (List.take_append_drop j l)
 rw[List.drop_eq_getElem_cons h]at e
 exact e.symm.trans (by rw[zmJ,zgF])
theorem zia{l:List α}{j:Nat}{x:α}(hx:l[j]?=some x):(encL (l.take j)).length=j * Enc.sz α:=by
 obtain⟨h,_⟩:=List.getElem?_eq_some_iff.1 hx
 rw[zaE,List.length_take]
 congr 1;omega
theorem zrQ{l:List α}{j:Nat}{x:α}(hx:l[j]?=some x){f:Nat}(hf:f < Enc.sz α):(encL l)[j * Enc.sz α+f]?=(Enc.enc x)[f]?:=by
 rw[zfF hx,List.getElem?_append_right (by rw[zia hx];omega),zia hx,Nat.add_sub_cancel_left,List.getElem?_append_left (by rw[Enc.len];exact hf)]
theorem zrO{l:List α}{j:Nat}{x:α}(hx:l[j]?=some x){f n:Nat}(hf:f+n<=Enc.sz α):((encL l).drop (j * Enc.sz α+f)).take n=((Enc.enc x).drop f).take n:=by
 have h1:f+n<=(Enc.enc x).length:=by rw[Enc.len];exact hf
 rw[zfF hx,<- zia hx,<- List.drop_drop,List.drop_left,List.drop_append_of_le_length (by omega),List.take_append_of_le_length (by simp;omega)]
theorem zae{P:Program}{t:TypeId}{l:List α}{j:Nat}{x:α}(hx:l[j]?=some x){f:Nat}{v:AV}(h:zam P t (Enc.enc x) f=some v):zam P t (encL l) (j * Enc.sz α+f)=some v:=by
 have hlt:j < l.length:=(List.getElem?_eq_some_iff.1 hx).1
 unfold zam at h ⊢
 split at h
 ·rename_i s h1 h2
  split at h
  ·rename_i hle
   rw[Enc.len]at hle
   rw[zrO hx hle,if_pos,h]
   have:=Nat.mul_le_mul_right (Enc.sz α) (show j+1<=l.length from hlt)
   rw[zaE];rw[Nat.add_mul]at this;omega
  ·cases h
 ·rename_i h1
  rw[zrQ hx,h]
  rcases Nat.lt_or_ge f (Enc.sz α) with h'|h'
  ·exact h'
  ·rw[List.getElem?_eq_none (by rw[Enc.len];exact h')]at h;cases h
 ·cases h
theorem zaz{P:Program}{t:TypeId}{l:List α}{j:Nat}{x:α}(hx:l[j]?=some x){v:AV}(h:zam P t (Enc.enc x) 0=some v)(hz:Enc.sz α=1:=by rfl):zam P t (encL l) j=some v:=by
 have:=zae hx h
 rwa [hz,Nat.mul_one]at this
@[simp] theorem zal(l:List α){n:Nat}(h:Enc.sz α=n):(encL l).take (l.length * n)=encL l:=by subst h;exact znx l
@[simp] theorem zbr(l:List α)(h:Enc.sz α=1):(encL l).take l.length=encL l:=by have:=znx l;rwa [h,Nat.mul_one]at this
theorem zj4{β:Type}(a b:List β)(n:Nat)(v:List β):zaC (a++b) (a.length+n) v=a++zaC b n v:=by
 induction v generalizing b n with
 |nil=>rfl
 |cons x v ih=>
  show zaC ((a++b).set (a.length+n) x) (a.length+n+1) v=_
  rw[List.set_append_right _ _ (by omega),Nat.add_sub_cancel_left,Nat.add_assoc,ih];rfl
theorem zl3{β:Type}(a b:List β)(n:Nat)(v:List β)(h:n+v.length<=a.length):zaC (a++b) n v=zaC a n v++b:=by
 induction v generalizing a n with
 |nil=>rfl
 |cons x v ih=>
  simp only[List.length_cons]at h
  show zaC ((a++b).set n x) (n+1) v=zaC (a.set n x) (n+1) v++b
  rw[List.set_append_left _ _ (by omega),ih _ _ (by simp;omega)]
theorem zdy{l:List α}{j:Nat}{x y:α}(hx:l[j]?=some x){f:Nat}{v:List CV}(hf:f+v.length<=Enc.sz α)(h:zaC (Enc.enc x) f v=Enc.enc y):zaC (encL l) (j * Enc.sz α+f) v=encL (l.set j y):=by
 obtain⟨hlt,rfl⟩:=List.getElem?_eq_some_iff.1 hx
 rw[zfF hx,<- zia hx,zj4,zl3 _ _ _ _ (by rw[Enc.len];exact hf),h]
 have e:(l.set j y)[j]?=some y:=by rw[List.getElem?_set];simp[hlt]
 rw[zfF e]
 simp[List.take_set_of_le,List.drop_set_of_lt]
end
theorem zk7{ops:Array Oper}{i j:Nat}{B C:Prop}(h:ordB ops i j=true)(k:B /\ C):(ordB ops i j=true /\ B) /\ C:=⟨⟨h,k.1⟩,k.2⟩
theorem zk6{ops:Array Oper}{i j:Nat}{A B C:Prop}(h:ordB ops i j=true)(k:B /\ C):((ordB ops i j=true \/ A) /\ B) /\ C:=⟨⟨.inl h,k.1⟩,k.2⟩
theorem zhv{ops:Array Oper}{i j:Nat}{B C D:Prop}(h:ordB ops i j=true)(k:B /\ (C /\ D)):(((ordB ops i j=true /\ B) /\ C) /\ D):=⟨⟨⟨h,k.1⟩,k.2.1⟩,k.2.2⟩
theorem zhu{ops:Array Oper}{i j:Nat}{A B C D:Prop}(h:ordB ops i j=true)(k:B /\ (C /\ D)):((((ordB ops i j=true \/ A) /\ B) /\ C) /\ D):=⟨⟨⟨.inl h,k.1⟩,k.2.1⟩,k.2.2⟩
theorem zft{β:Type}{l:List β}{k:Nat}{v:β}(h:l[k]?=some v):(l.drop k).take 1=[v]:=by
 obtain⟨h1,rfl⟩:=List.getElem?_eq_some_iff.1 h
 rw[List.drop_eq_getElem_cons h1];rfl
theorem znr{β:Type}{l:List β}{k:Nat}{v:β}(h:l[k]?=some v)(hh:k < l.length):l[k]'hh=v:=by
 rw[List.getElem?_eq_getElem hh]at h;exact Option.some.inj h
def getI {α:Type}(l:List α)(i:Int):Option α:=if 0<=i then l[i.toNat]? else none
theorem zao{α:Type}{l:List α}{i:Int}{x:α}(h:getI l i=some x):0<=i /\ i < l.length /\ i.toNat < l.length /\ l[i.toNat]?=some x:=by
 unfold getI at h
 split at h
 ·rename_i h0
  obtain⟨h1,_⟩:=List.getElem?_eq_some_iff.1 h
  exact⟨h0,by omega,h1,h⟩
 ·cases h
theorem zau{α:Type}{l:List α}{i:Nat}{x:α}(h:l[i]?=some x):i < l.length:=(List.getElem?_eq_some_iff.1 h).1
def getS (s:ByteArray)(i:Int):Option UInt8:=if 0<=i then s[i.toNat]? else none
theorem zgz{s:ByteArray}{i:Int}{x:UInt8}(h:getS s i=some x):0<=i /\ i < s.size /\ i.toNat < s.size /\ s[i.toNat]?=some x:=by
 unfold getS at h
 split at h
 ·rename_i h0
  have h1:i.toNat < s.size:=by
   rcases Nat.lt_or_ge i.toNat s.size with h'|h'
   ·exact h'
   ·rw[getElem?_neg s i.toNat (by simpa using h')]at h;cases h
  exact⟨h0,by omega,h1,h⟩
 ·cases h
def inB (i:Int)(n:Nat):Bool:=decide (0<=i /\ i < n)
def limB (b n:Nat):Bool:=decide (n<=1099511627776 /\ n * b<=140737488355328)
theorem zbv{b n:Nat}(h:limB b n=true):n<=1099511627776 /\ n * b<=140737488355328:=by simpa [limB]using h
def zai{α:Type}(c:Bool)(k:Option α):Option α:=cond c k none
theorem zaa{α:Type}{c:Bool}{k:Option α}{r:α}(h:zai c k=some r):c=true /\ k=some r:=by
 cases c with
 |true=>exact⟨rfl,h⟩
 |false=>cases h
theorem zBo{α β:Type}{o:Option α}{f:α->Option β}{r:β}(h:o.bind f=some r):∃ x,o=some x /\ f x=some r:=Option.bind_eq_some_iff.1 h
theorem zok{c:Bool}(d:Bool){A B:St->Prop}{st:St}(h:c=d)(h1:d=true->A st)(h2:d=false->B st):ziU (bV c) A B st:=by
 subst h;exact⟨h1,h2⟩
theorem zdG{P:Program}{g i:Nat}{op:Op}{st:St}{X E:AV->St->Prop}{c:Bool}(h1:c=true->gsel P g i (some c) op st X E)(h2:c=false->gsel P g i (some c) op st X E):gsel P g i (some c) op st X E:=by
 cases c with
 |true=>exact h1 rfl
 |false=>exact h2 rfl
def ghC:Code->Bool
 |.region _ _ _=>true
 |.seq a _=>ghC a
 |.block _ a=>ghC a
 |.scope a=>ghC a
 |.loop _=>true
 |.rangeFunc _ _ _ _=>true
 |_=>false
theorem zaX{P:Program}:∀ {c:Code} {Q:AX->St->Prop} {s s':St},ghC c=true->Gh s s'->awp P c Q s'->awp P c Q s
 |.region _ _ false,Q,s,s',_,hg,h=>by obtain⟨t,h1,h2⟩:=h;exact⟨t,hg.trans h1,h2⟩
 |.region _ _ true,Q,s,s',_,hg,h=>by obtain⟨t,h1,h2⟩:=h;exact⟨t,hg.trans h1,h2⟩
 |.seq a b,Q,s,s',hc,hg,h=>zaX (c:=a) hc hg h
 |.block _ a,Q,s,s',hc,hg,h=>zaX (c:=a) hc hg h
 |.scope a,Q,s,s',hc,hg,h=>zaX (c:=a) hc hg h
 |.loop b,Q,s,s',_,hg,h=>by obtain⟨I,μ,t,h1,h2⟩:=h;exact⟨I,μ,t,hg.trans h1,h2⟩
 |.rangeFunc _ _ _ _,Q,s,s',_,hg,h=>by obtain⟨t,A,h1,h2⟩:=h;exact⟨t,A,hg.trans h1,h2⟩
 |.skip,_,_,_,hc,_,_=>by cases hc
 |.cond _ _ _,_,_,_,hc,_,_=>by cases hc
 |.exit _,_,_,_,hc,_,_=>by cases hc
 |.label _,_,_,_,hc,_,_=>by cases hc
 |.goto _,_,_,_,hc,_,_=>by cases hc
 |.ret,_,_,_,hc,_,_=>by cases hc
 |.refuse _,_,_,_,hc,_,_=>by cases hc
theorem zaj{V:Type}{P:Program}{a b:Code}{Q:AX->St->Prop}{st:St}(p:V->St->Prop)(hb:ghC b=true)
  (h1:∀ K:AX->St->Prop,(∀ v s s',Gh s s'->p v s'->K .normal s)->(∀ e s,e ≠ .normal->Q e s->K e s)->awp P a K st) (h2:∀ v s,p v s->awp P b Q s):awp P a (xSeq P b Q) st:=by
 refine h1 _ (fun v s s' hg hp=>zaX hb hg (h2 v s' hp)) fun e s he hq=>?_
 cases e with
 |normal=>exact(he rfl).elim
 |_=>exact hq
theorem zdd{V:Type}{P:Program}{a b:Code}{Q:AX->St->Prop}{st:St}(p:V->St->Prop)
  (h1:∀ K:AX->St->Prop,(∀ v s,p v s->K .normal s)->(∀ e s,e ≠ .normal->Q e s->K e s)->awp P a K st) (h2:∀ v s,p v s->awp P b Q s):awp P a (xSeq P b Q) st:=by
 refine h1 _ (fun v s hp=>h2 v s hp) fun e s he hq=>?_
 cases e with
 |normal=>exact(he rfl).elim
 |_=>exact hq
theorem zqW{I:(Id->Option Blk)->Nat->Prop}{s0 s s':St}{Q:AX->St->Prop}(hg:Gh s s')(h:I s'.hp s'.gen):zkM s0 (noA I) Q .normal s:=⟨s',none,hg,.inr rfl,rfl,h⟩
theorem ztl{α β:Type}{l:List α}{f:α->β}{k:Nat}{x:β}(h:(l.map f)[k]?=some x):∃ y,l[k]?=some y /\ x=f y:=by
 rw[List.getElem?_map,Option.map_eq_some_iff]at h
 obtain⟨y,h1,h2⟩:=h;exact⟨y,h1,h2.symm⟩
theorem drop_at{α:Type}{l:List α}{k:Nat}{x:α}(h:l[k]?=some x):l.drop k=x::l.drop (k+1):=by
 obtain⟨h1,rfl⟩:=List.getElem?_eq_some_iff.1 h
 exact List.drop_eq_getElem_cons h1
theorem zoj{α:Type}{c:Bool}{A B:Option α}{r:α}(h:c=true)(hs:cond c A B=some r):A=some r:=by subst h;exact hs
theorem zol{α:Type}{c:Bool}{A B:Option α}{r:α}(h:c=false)(hs:cond c A B=some r):B=some r:=by subst h;exact hs
theorem zaB{c:Bool}{A B:St->Prop}{st:St}(h:c=true)(h1:A st):ziU (bV c) A B st:=by subst h;exact⟨fun _=>h1,fun h=>by cases h⟩
theorem zaF{c:Bool}{A B:St->Prop}{st:St}(h:c=false)(h1:B st):ziU (bV c) A B st:=by subst h;exact⟨fun h=>by(cases h),fun _=>h1⟩
theorem drop_end{α:Type}{l:List α}{k:Nat}(h:[]=l.drop k):¬ k < l.length:=by
 have:=congrArg List.length h;simp at this;omega
theorem zay{α:Type}{l r:List α}{k:Nat}{x:α}(h:x::r=l.drop k):l[k]?=some x /\ k < l.length /\ r=l.drop (k+1):=by
 have h1:k < l.length:=by have:=congrArg List.length h;simp at this;omega
 rw[List.drop_eq_getElem_cons h1]at h
 injection h with h2 h3
 exact⟨by rw[List.getElem?_eq_getElem h1,h2],h1,h3⟩
def lenB (n:Nat):Bool:=decide (n<=1099511627776)
theorem za1{k n:Nat}(h:k < n)(hn:lenB n=true):IntKind.i64.wrap ((k:Int)+1)=((k+1:Nat):Int):=by
 simp[lenB]at hn
 rw[wrap_i64 (by omega) (by omega)];simp
theorem zaQ{α:Type}[Inhabited α]{c:Bool}{o:Option α}(h:orB (!c) o.isSome=true)(hc:c=true):o=some (o.getD default):=by
 subst hc
 cases o with
 |none=>simp[orB]at h
 |some x=>rfl
theorem zcd{s:ByteArray}{i:Nat}{x:UInt8}(h:s[i]?=some x)(hh:i < s.size):s[i]'hh=x:=by
 rw[getElem?_pos s i hh]at h;exact Option.some.inj h
def zC5(a b:ByteArray):Bool:=decide (a.size+b.size<=4611686018427387904)
def mkB2 (b:Nat)(n:Int):Bool:=decide (0<=n /\ (b:Int) * n<=281474976710656 /\ n<=1099511627776)
theorem zbf{s:ByteArray}{i:Nat}{x:UInt8}(h:s[i]?=some x):i < s.size:=by
 rcases Nat.lt_or_ge i s.size with h'|h'
 ·exact h'
 ·rw[getElem?_neg s i (by simpa using h')]at h;cases h
theorem zmi{P:Program}{t:TypeId}{a:CV}{l:List CV}{off:Nat}:zam P t (a::l) off=match aggB P t,szOf P t with
 |some true,some s=>if off+s<=(a::l).length then some (.agg ((((a::l).drop off).take s).map .p)) else none
 |some false,_=>((a::l)[off]?).map fun x=>.cell (.p x)
 |_,_=>none:=rfl
attribute [simp] zmi
def Blk.unz:Blk->Blk
 |.cells l=>.cells (l.map AC.unz)
 |b=>b
def St.unz(st:St):St:={ st with env:=fun s=>(st.env s).unz,hp:=fun i=>(st.hp i).map Blk.unz }
theorem zmW{w:World}{m:Mem}{bad0:Nat->Prop}{hs:List Nat}{v:Value}{x:AC}(h:zeV w m bad0 hs v x):zeV w m bad0 hs v x.unz:=by
 cases x<;>try exact h
 exact zoB (x:=.z) h
theorem Gh.unz(st:St):Gh st st.unz:=by
 intro C a w m hJ
 refine⟨m,hJ.withHp _ _ (fun s=>zoA (hJ.env s)) (fun i b hb=>?_)⟩
 rw[Option.map_eq_some_iff]at hb
 obtain⟨b0,hb0,rfl⟩:=hb
 obtain⟨h1,h2⟩:=hJ.hp i b0 hb0
 refine⟨h1,?_⟩
 cases b0 with
 |pure l=>exact h2
 |map ks vs=>exact h2
 |cells l=>
  show zaq w m C.bad0 i (l.map AC.unz)
  have h3:zaq w m C.bad0 i l:=h2
  unfold zaq at h3 ⊢
  cases hs:m.ρ i with
  |un=>rw[hs]at h3;exact h3
  |dead=>rw[hs]at h3;exact h3
  |vd=>rw[hs]at h3;simp only at h3 ⊢;rw[h3];rfl
  |at_ g base=>
   rw[hs]at h3
   obtain⟨cur,e,fr,hg,hfr,hl,hc⟩:=h3
   refine⟨cur,e,fr,hg,hfr,by simpa using hl,fun j u x hu hx=>?_⟩
   rw[List.getElem?_map,Option.map_eq_some_iff]at hx
   obtain⟨y,hy,rfl⟩:=hx
   obtain⟨h4,h5⟩:=hc j u y hu hy
   exact⟨h4,zmW h5⟩
@[simp] theorem zAl(st:St)(s:Nat):st.unz.env s=(st.env s).unz:=rfl
@[simp] theorem zBQ(st:St)(i:Id):st.unz.hp i=(st.hp i).map Blk.unz:=rfl
@[simp] theorem zAk(st:St):st.unz.gen=st.gen:=rfl
attribute [simp] Blk.unz
def Arr.of{α:Type}[Inhabited α](n:Nat)(l:List α):Arr n α:=⟨fun j=>l.getD j default⟩
theorem zrZ{α:Type}[Inhabited α](n:Nat)(l:List α)(j:Nat):(Arr.of n l).f j=l.getD j default:=rfl
def Arr.set{n:Nat}{α:Type}(a:Arr n α)(k:Nat)(v:α):Arr n α:=⟨fun j=>if j=k then v else a.f j⟩
theorem zkB{β:Type}{n:Nat}(g:Nat->β){k:Nat}(h:k < n):((List.range n).map g)[k]?=some (g k):=by simp[h]
theorem zqh{α β:Type}[Inhabited α](l:List α)(g:α->β){k n:Nat}(h:k < l.length):(l.map g)[k]?=some (g ((Arr.of n l).f k)):=by
 simp[Arr.of,h]
def gd {α:Type}[Inhabited α](l:List α)(n:Nat):α:=l.getD n default
theorem zcG{α:Type}[Inhabited α]{c:Bool}{l:List α}{i:Int}(h:orB (!c) (inB i l.length)=true)(hc:c=true):0<=i /\ i < l.length /\ i.toNat < l.length /\ l[i.toNat]?=some (gd l i.toNat):=by
 unfold gd
 subst hc
 simp[orB,inB]at h
 have h2:i.toNat < l.length:=by omega
 refine⟨h.1,h.2,h2,?_⟩
 rw[List.getD_eq_getElem?_getD,List.getElem?_eq_getElem h2];rfl
def bget (s:ByteArray)(k:Nat):UInt8:=s[k]?.getD 0
theorem zat{c:Bool}{s:ByteArray}{i:Int}(h:orB (!c) (inB i s.size)=true)(hc:c=true):0<=i /\ i.toNat < s.size /\ s[i.toNat]?=some (bget s i.toNat):=by
 subst hc
 simp[orB,inB]at h
 have h2:i.toNat < s.size:=by omega
 refine⟨h.1,h2,?_⟩
 unfold bget
 rw[getElem?_pos s i.toNat h2];rfl
theorem zhS{i:Int}{n:Nat}(h:inB i n=true):0<=i /\ i < n /\ i.toNat < n:=by simp[inB]at h;omega
def slB (l h n:Int):Bool:=decide (0<=l /\ l<=h /\ h<=n)
theorem ze0{l h n:Int}(e:slB l h n=true):0<=l /\ l<=h /\ h<=n:=by simpa [slB]using e
def subL {α:Type}(l:List α)(a b:Int):List α:=(l.drop a.toNat).take (b - a).toNat
theorem zeC{α:Type}{l:List α}{a b:Int}(h:0<=a /\ a<=b /\ b<=l.length):(subL l a b).length=(b - a).toNat:=by
 unfold subL;rw[List.length_take,List.length_drop];omega
theorem zd2{α:Type}[Enc α]{l:List α}{a b:Int}:((encL l).drop (a.toNat * Enc.sz α)).take ((b - a).toNat * Enc.sz α)=encL (subL l a b):=by
 unfold subL;rw[zpZ,zlr]
theorem zsK{α:Type}[Enc α]{l:List α}{a b:Int}(h:LenOk (.sl l.length (encL l))):LenOk (.sl (subL l a b).length (encL (subL l a b))):=by
 refine .sl _ _ ?_ fun x hx=>?_
 ·refine Nat.le_trans ?_ h.len
  unfold subL;rw[List.length_take,List.length_drop];omega
 ·refine h.mem ?_
  rw[<- zd2]at hx
  exact List.mem_of_mem_drop (List.mem_of_mem_take hx)
def St.pur(st:St)(b:Id):St:=match st.hp b with
 |some (.cells l)=>match toCVs l with
  |some cs=>{ st with hp:=fun i=>if i=b then some (.pure cs) else st.hp i }
  |none=>st
 |_=>st
@[simp] theorem zr6(a b:List AC):toCVs (a++b)=match toCVs a,toCVs b with|some x,some y=>some (x++y)|_,_=>none:=by
 induction a with
 |nil=>simp;cases toCVs b<;>rfl
 |cons x a ih=>
  simp only[List.cons_append,toCVs,ih]
  cases x.toCV<;>cases toCVs a<;>cases toCVs b<;>rfl
theorem zkH:∀ {l:List AC} {cs:List CV},toCVs l=some cs->l.map AC.unz=cs.map .p
 |[],cs,h=>by simp[toCVs]at h;subst h;rfl
 |x::l,cs,h=>by
  simp only[toCVs]at h
  split at h
  ·rename_i c l' h1 h2
   cases h
   have:=zkH h2
   simp only[List.map_cons,this]
   cases x<;>simp[AC.toCV]at h1 ⊢<;>simp[h1,AC.unz]
  ·cases h
theorem Gh.pur(st:St)(b:Id):Gh st (st.pur b):=by
 intro C a w m hJ
 unfold St.pur
 split
 ·rename_i l hb
  split
  ·rename_i cs hc
   refine⟨m,hJ.withHp _ _ hJ.env (fun i bl hi=>?_)⟩
   split at hi
   ·rename_i e
    subst e
    cases hi
    obtain⟨h1,h2⟩:=hJ.hp _ _ hb
    refine⟨h1,?_⟩
    show zaq w m C.bad0 i (cs.map .p)
    rw[<- zkH hc]
    obtain⟨m',hJ'⟩:=Gh.unz st C a w m hJ
    have h3:zaq w m C.bad0 i l:=h2
    unfold zaq at h3 ⊢
    cases hs:m.ρ i with
    |un=>rw[hs]at h3;exact h3
    |dead=>rw[hs]at h3;exact h3
    |vd=>rw[hs]at h3;simp only at h3 ⊢;rw[h3];rfl
    |at_ g base=>
     rw[hs]at h3
     obtain⟨cur,e,fr,hg,hfr,hl,hcc⟩:=h3
     refine⟨cur,e,fr,hg,hfr,by simpa using hl,fun j u x hu hx=>?_⟩
     rw[List.getElem?_map,Option.map_eq_some_iff]at hx
     obtain⟨y,hy,rfl⟩:=hx
     obtain⟨h4,h5⟩:=hcc j u y hu hy
     exact⟨h4,zmW h5⟩
   ·exact hJ.hp i bl hi
  ·exact⟨m,hJ⟩
 ·exact⟨m,hJ⟩
class OEnc (α:Type) [Enc α] where
 oenc:α->List AC
 olen:∀ x,(oenc x).length=Enc.sz α
 ocv:∀ x,cvs (oenc x)=some (Enc.enc x)
 opl:∀ x,∀ c ∈ oenc x,(∃ v,c=.p v) \/ ∃ t,c=.own t
def zah{α:Type}[Enc α][OEnc α](l:List α):List AC:=l.flatMap OEnc.oenc
section
variable {α:Type} [Enc α] [OEnc α]
@[simp] theorem zv4:zah ([]:List α)=[]:=rfl
@[simp] theorem zg6(x:α)(l:List α):zah (x::l)=OEnc.oenc x++zah l:=rfl
@[simp] theorem zk9(l r:List α):zah (l++r)=zah l++zah r:=by simp[zah]
@[simp] theorem zbB(l:List α):(zah l).length=l.length * Enc.sz α:=by
 induction l with
 |nil=>simp
 |cons x l ih=>simp[ih,OEnc.olen,Nat.add_mul];omega
theorem zjR:∀(a b:List AC),cvs (a++b)=match cvs a,cvs b with|some x,some y=>some (x++y)|_,_=>none
 |[],b=>by simp[cvs];cases cvs b<;>rfl
 |x::a,b=>by
  simp only[List.cons_append,cvs,zjR a b]
  cases x.cv<;>cases cvs a<;>cases cvs b<;>rfl
@[simp] theorem zv7(l:List α):cvs (zah l)=some (encL l):=by
 induction l with
 |nil=>rfl
 |cons x l ih=>rw[zg6,zjR,OEnc.ocv,ih];rfl
@[simp] theorem zdk(l:List α)(f:AC->AC)(h1:∀ v,f (.p v)=.p v)(h2:∀ t,f (.own t)=.own t):(zah l).map f=zah l:=by
 induction l with
 |nil=>rfl
 |cons x l ih=>
  rw[zg6,List.map_append,ih]
  congr 1
  have:=OEnc.opl x
  generalize OEnc.oenc x=cs at this
  induction cs with
  |nil=>rfl
  |cons c cs ih2=>
   rw[List.map_cons,ih2 fun c' hc=>this c' (by simp[hc])]
   rcases this c (by simp) with⟨v,rfl⟩ |⟨t,rfl⟩
   ·rw[h1]
   ·rw[h2]
theorem zeK{l:List α}{j:Nat}{x:α}(hx:l[j]?=some x):zah l=zah (l.take j)++(OEnc.oenc x++zah (l.drop (j+1))):=by
 obtain⟨h,rfl⟩:=List.getElem?_eq_some_iff.1 hx
 have e:=congrArg zah (List.take_append_drop j l)
 rw[List.drop_eq_getElem_cons h]at e
 exact e.symm.trans (by rw[zk9,zg6])
theorem zgu{l:List α}{j:Nat}{x:α}(hx:l[j]?=some x):(zah (l.take j)).length=j * Enc.sz α:=by
 obtain⟨h,_⟩:=List.getElem?_eq_some_iff.1 hx
 rw[zbB,List.length_take]
 congr 1;omega
theorem zdQ{l:List α}{j:Nat}{x:α}(hx:l[j]?=some x){f:Nat}{c:AC}(h:(OEnc.oenc x)[f]?=some c):(zah l)[j * Enc.sz α+f]?=some c:=by
 have hf:f < (OEnc.oenc x).length:=(List.getElem?_eq_some_iff.1 h).1
 rw[zeK hx,List.getElem?_append_right (by rw[zgu hx];omega),zgu hx,Nat.add_sub_cancel_left,List.getElem?_append_left hf,h]
theorem zpu{l:List α}{j:Nat}{x:α}(hx:l[j]?=some x){f n:Nat}{s:List AC}(h:((OEnc.oenc x).drop f).take n=s)(hn:s.length=n):((zah l).drop (j * Enc.sz α+f)).take n=s:=by
 have h1:n<=(OEnc.oenc x).length - f:=by
  have:=congrArg List.length h
  rw[List.length_take,List.length_drop]at this;omega
 rcases Nat.eq_zero_or_pos n with h0|h0
 ·subst h0;simp at h ⊢;exact h
 ·rw[zeK hx,<- zgu hx,<- List.drop_drop,List.drop_left,List.drop_append_of_le_length (by omega),List.take_append_of_le_length (by simp;omega),h]
theorem zdP{l:List α}{j:Nat}{x y:α}(hx:l[j]?=some x){f:Nat}{c:AC}(hf:f < Enc.sz α)(h:(OEnc.oenc x).set f c=OEnc.oenc y):(zah l).set (j * Enc.sz α+f) c=zah (l.set j y):=by
 obtain⟨hlt,rfl⟩:=List.getElem?_eq_some_iff.1 hx
 rw[zeK hx,<- zgu hx,List.set_append_right _ _ (by omega),Nat.add_sub_cancel_left,List.set_append_left _ _ (by rw[OEnc.olen];exact hf),h]
 have e:(l.set j y)[j]?=some y:=by rw[List.getElem?_set];simp[hlt]
 rw[zeK e]
 simp[List.take_set_of_le,List.drop_set_of_lt]
end
theorem zbw{β:Type}{l:List β}{k:Nat}(h:k < l.length)(c:β):((l.set k c).drop k).take 1=[c] /\ (l.set k c)[k]?=some c:=by
 have h1:(l.set k c)[k]?=some c:=by rw[List.getElem?_set];simp[h]
 exact⟨zft h1,h1⟩
@[simp] theorem zwZ(st:St)(b:Id)(j s:Nat):(st.close b j).env s=st.env s:=rfl
@[simp] theorem zyQ(st:St)(b:Id)(j:Nat):(st.close b j).hp=znB b j st.hp:=rfl
@[simp] theorem zwY(st:St)(b:Id)(j:Nat):(st.close b j).gen=st.gen:=rfl
@[simp] theorem zw0(st:St)(b:Id)(j:Nat):(st.close b j).acc=st.acc:=rfl
attribute [simp] znB zje otCs otC
def St.cel(st:St)(b:Id):St:={ st with hp:=fun i=>if i=b then(match st.hp b with|some (.pure l)=>some (.cells (l.map .p))|x=>x) else st.hp i }
theorem Gh.cel(st:St)(b:Id):Gh st (st.cel b):=by
 intro C a w m hJ
 refine⟨m,hJ.withHp _ _ hJ.env (fun i bl hi=>?_)⟩
 split at hi
 ·rename_i e
  subst e
  cases hb:st.hp i with
  |none=>rw[hb]at hi;cases hi
  |some x=>
   rw[hb]at hi
   cases x with
   |pure l=>
    cases hi
    obtain⟨h1,h2⟩:=hJ.hp i _ hb
    exact⟨h1,h2⟩
   |cells l=>cases hi;exact hJ.hp i _ hb
   |map ks vs=>cases hi;exact hJ.hp i _ hb
 ·exact hJ.hp i bl hi
@[simp] theorem zBl(st:St)(b:Id)(s:Nat):(st.cel b).env s=st.env s:=rfl
@[simp] theorem zCq(st:St)(b i:Id):(st.cel b).hp i=if i=b then(match st.hp b with|some (.pure l)=>some (.cells (l.map .p))|x=>x) else st.hp i:=rfl
@[simp] theorem zBk(st:St)(b:Id):(st.cel b).gen=st.gen:=rfl
section
variable {α:Type} [Enc α] [OEnc α] (l:List α)
@[simp] theorem ziD(x y:Id):(zah l).map (AC.ren x y)=zah l:=zdk l _ (fun v=>by simp) fun t=>by simp
@[simp] theorem zv5(y:Id):(zah l).map (AC.kil y)=zah l:=zdk l _ (fun v=>by simp) fun t=>by simp
@[simp] theorem zv6(b:Id)(cs:List CV):(zah l).map (AC.frz b cs)=zah l:=zdk l _ (fun v=>by simp) fun t=>by simp
@[simp] theorem zv2:(zah l).map AC.unz=zah l:=zdk l _ (fun v=>by simp) fun t=>by simp
@[simp] theorem zv3(fp:List Id):(zah l).map (AC.toF fp)=zah l:=zdk l _ (fun v=>by simp) fun t=>by simp
@[simp] theorem zur(fp bors:List Id)(post:List (Id × Blk))(g i:Nat):(zah l).map (AC.back fp bors post g i)=zah l:=zdk l _ (fun v=>by simp) fun t=>by simp
end
def St.opn(st:St)(b:Id)(off:Nat):St:={ st with hp:=openAt (st.gen+1) 0 b off 1 st.hp,gen:=st.gen+1 }
theorem Gh.opn(st:St)(b:Id)(off:Nat):Gh st (st.opn b off):=by
 intro C a w m hJ
 obtain⟨m',h,_⟩:=J.openAt (g:=st.gen+1) (i:=0) b 1 off _ m hJ.up (Nat.le_refl _) (fun k _=>hJ.gen _ _ _ (Nat.lt_succ_self _))
 exact⟨m',h⟩
@[simp] theorem zAO(st:St)(b:Id)(off s:Nat):(st.opn b off).env s=st.env s:=rfl
@[simp] theorem zBZ(st:St)(b:Id)(off:Nat):(st.opn b off).hp=openAt (st.gen+1) 0 b off 1 st.hp:=rfl
@[simp] theorem zAN(st:St)(b:Id)(off:Nat):(st.opn b off).gen=st.gen+1:=rfl
@[simp] theorem zAP(st:St)(b:Id)(off:Nat):(st.opn b off).acc=st.acc:=rfl
def mixL {α:Type}[Enc α][OEnc α](k:Nat)(l:List α):List AC:=zah (l.take k)++(encL (l.drop k)).map .p
section
variable {α:Type} [Enc α] [OEnc α]
@[simp] theorem zwf(l:List α):mixL 0 l=(encL l).map .p:=by simp[mixL]
@[simp] theorem ztj(k:Nat)(l:List α):(mixL k l).length=l.length * Enc.sz α:=by
 simp only[mixL,List.length_append,zbB,List.length_map,zaE,List.length_take,List.length_drop]
 rw[<- Nat.add_mul];congr 1;omega
@[simp] theorem zys(k:Nat)(l:List α)(x y:Id):(mixL k l).map (AC.ren x y)=mixL k l:=by
 unfold mixL
 rw[List.map_append,ziD,List.map_map]
 congr 1
end
end Go.Hw
end
section
namespace Go.Dc.Pl
open Go Go.Hw
variable [Globals] {α β σ:Type}
def toS:Option β->Unit ⊕ β|none=>.inl ()|some r=>.inr r
@[simp] theorem zxS:toS (none:Option β)=.inl ():=rfl
@[simp] theorem zxR(r:β):toS (some r)=.inr r:=rfl
def first(f:Nat->α->Option β):List α->Nat->Option β
 |[],_=>none
 |x::q,k=>match f k x with|some r=>some r|none=>first f q (k+1)
@[simp] theorem zwK(f:Nat->α->Option β)(k:Nat):first f [] k=none:=rfl
theorem zaM(f:Nat->α->Option β)(x:α)(q:List α)(k:Nat):first f (x::q) k=match f k x with|some r=>some r|none=>first f q (k+1):=rfl
def stepS(o:Option β)(k:Option (Unit ⊕ β)):Option (Unit ⊕ β):=match o with|some r=>some (.inr r)|none=>k
@[simp] theorem zug(r:β)(k:Option (Unit ⊕ β)):stepS (some r) k=some (.inr r):=rfl
@[simp] theorem zuh(k:Option (Unit ⊕ β)):stepS none k=k:=rfl
def zaw(c:Bool)(r:β):Option β:=cond c (some r) none
@[simp] theorem zyh(r:β):zaw true r=some r:=rfl
@[simp] theorem zyi(r:β):zaw false r=none:=rfl
theorem zaO(c:Bool)(r:β)(k:Option (Unit ⊕ β)):cond c (some (.inr r)) k=stepS (zaw c r) k:=by cases c<;>rfl
theorem zey(p:Nat->α->Bool)(c:β):∀(l:List α) (k:Nat),first (fun k x=>zaw (p k x) c) l k=zaw ((l.zipIdx k).any fun x=>p x.2 x.1) c
 |[],_=>rfl
 |x::q,k=>by rw[zaM,zey p c q,List.zipIdx_cons,List.any_cons];cases hp:p k x<;>simp
theorem zeN(p:α->Bool)(c:β):∀(l:List α) (k:Nat),first (fun _ x=>zaw (p x) c) l k=zaw (l.any p) c
 |[],_=>rfl
 |x::q,k=>by rw[zaM,zeN p c q,List.any_cons];cases hp:p x<;>simp
theorem zhC(p:α->Bool)(g:Nat->α->β):∀(l:List α) (k:Nat),(first (fun k x=>zaw (p x) (g k x)) l k).isSome=l.any p
 |[],_=>rfl
 |x::q,k=>by rw[zaM];have:=zhC p g q (k+1);cases hp:p x<;>simp[hp,this]
theorem srch{L:List α->Nat->Option (Unit ⊕ β)}(f:Nat->α->Option β)(h0:∀ k,L [] k=some (.inl ())) :
  ∀(l:List α) (k:Nat),(∀ j x,l[j]?=some x->∀ q,L (x::q) (k+j)=stepS (f (k+j) x) (L q (k+j+1)))->L l k=some (toS (first f l k))
 |[],k,_=>h0 k
 |x::q,k,h=>by
  rw[show L (x::q) k=stepS (f k x) (L q (k+1)) from h 0 x rfl q,zaM]
  have ih:=srch f h0 q (k+1) fun j y hy q'=>by have:=h (j+1) y (by simpa using hy) q';rwa [show k+(j+1)=k+1+j by omega]at this
  cases f k x with
  |some r=>rfl
  |none=>exact ih
theorem zhM{L:Nat->Int->Option (Unit ⊕ β)}(l:List α)(f:Nat->α->Option β)(h0:∀ q,L (q+1) ((l.length:Nat):Int)=some (.inl ()))
  (h1:∀(q k:Nat) x,l[k]?=some x->L (q+1) (k:Int)=stepS (f k x) (L q ((k+1:Nat):Int))):∀(q k:Nat),k<=l.length->l.length < k+q->L q (k:Int)=some (toS (first f (l.drop k) k))
 |0,k,hk,hq=>absurd hq (by omega)
 |q+1,k,hk,hq=>by
  rcases Nat.lt_or_ge k l.length with h|h
  ·have hx:l[k]?=some l[k]:=List.getElem?_eq_getElem h
   rw[h1 q k _ hx,drop_at hx,zaM]
   cases f k l[k]with
   |some r=>rfl
   |none=>exact zhM l f h0 h1 q (k+1) h (by omega)
  ·obtain rfl:k=l.length:=by omega
   rw[h0,List.drop_length];rfl
theorem zqK{L:Nat->Nat->Option (Unit ⊕ β)}(f:Nat->Option β)(h0:∀ k,L 0 k=some (.inl ())) :
  ∀(q k:Nat),(∀ q' j,j < q->L (q'+1) (k+j)=stepS (f (k+j)) (L q' (k+j+1)))->L q k=some (toS (first (fun k (_:Unit)=>f k) (List.replicate q ()) k))
 |0,k,_=>h0 k
 |q+1,k,h=>by
  rw[show L (q+1) k=stepS (f k) (L q (k+1)) from h q 0 (by omega),List.replicate_succ,zaM]
  have ih:=zqK f h0 q (k+1) fun q' j hj=>by have:=h q' (j+1) (by omega);rwa [show k+(j+1)=k+1+j by omega]at this
  cases f k with
  |some r=>rfl
  |none=>exact ih
theorem first_some{f:Nat->α->Option β}:∀ {l:List α} {k:Nat} {r:β},first f l k=some r->∃ j x,l[j]?=some x /\ f (k+j) x=some r
 |[],_,_,h=>by cases h
 |x::q,k,r,h=>by
  rw[zaM]at h
  cases hc:f k x with
  |some y=>rw[hc]at h;exact⟨0,x,rfl,hc.trans h⟩
  |none=>rw[hc]at h;obtain⟨j,y,hy,e⟩:=first_some h;exact⟨j+1,y,by simpa using hy,by rwa [show k+(j+1)=k+1+j by omega]⟩
theorem zct{γ:Type}{f:Nat->α->Option β}{g:γ->β}:∀(l:List α) (k:Nat) {h:Nat->α->Option γ},(∀ j x,f j x=(h j x).map g)->first f l k=(first h l k).map g
 |[],_,_,_=>rfl
 |x::q,k,h,e=>by rw[zaM,zaM,e,zct q (k+1) e];cases h k x<;>rfl
theorem appM{L:List α->List β->Nat->Option (List β)}{b m:Nat}(g:α->β)(hm:limB b m=true)(h0:∀ a k,L [] a k=some a)
  (h1:∀ x q a k,L (x::q) a k=zai (limB b (a.length+1)) (L q (a++[g x]) (k+1))):∀(l:List α) (a:List β) (k:Nat),a.length+l.length<=m->L l a k=some (a++l.map g)
 |[],a,k,_=>by simp[h0]
 |x::q,a,k,hl=>by
  simp only[List.length_cons]at hl
  have hb:limB b (a.length+1)=true:=by
   simp only[limB,decide_eq_true_eq]at hm ⊢
   exact⟨by omega,Nat.le_trans (Nat.mul_le_mul_right b (by omega)) hm.2⟩
  rw[h1,hb]
  show L q (a++[g x]) (k+1)=_
  rw[appM g hm h0 h1 q (a++[g x]) (k+1) (by rw[List.length_append,List.length_singleton];omega),List.append_assoc];rfl
theorem wrapN{n:Nat}(h:n<=1099511627777):IntKind.i64.wrap (n:Int)=(n:Int):=wrap_i64 (by omega) (by omega)
theorem zqD{n:Nat}(h:n<=1099511627776):IntKind.i64.wrap ((n:Int)+1)=((n+1:Nat):Int):=by rw[wrap_i64 (by omega) (by omega)];simp
@[simp] theorem zbp(l:List α)(k:Nat):getI l (k:Int)=l[k]?:=by simp[getI]
@[simp] theorem zad(k:Option α):zai true k=k:=rfl
end Go.Dc.Pl
end
section
namespace Go.Hw
variable [Globals]
attribute [simp] zeP zkk List.range'
section
variable {α:Type} [Inhabited α] {n:Nat} {l:List α}
@[simp] theorem zy6:(Arr.of n l).f 0=l.getD 0 default:=rfl
@[simp] theorem zy5:(Arr.of n l).f 1=l.getD 1 default:=rfl
@[simp] theorem zy4:(Arr.of n l).f 2=l.getD 2 default:=rfl
@[simp] theorem zy3:(Arr.of n l).f 3=l.getD 3 default:=rfl
@[simp] theorem zy2:(Arr.of n l).f 4=l.getD 4 default:=rfl
@[simp] theorem zy1:(Arr.of n l).f 5=l.getD 5 default:=rfl
@[simp] theorem zy0:(Arr.of n l).f 6=l.getD 6 default:=rfl
@[simp] theorem zyZ:(Arr.of n l).f 7=l.getD 7 default:=rfl
end
@[simp] theorem zt7(l:List CV)(k:Nat)(c:CV):toCVs ((l.map AC.p).set k (.p c))=some (l.set k c):=by
 rw[<- List.map_set]
 generalize l.set k c=m
 induction m with
 |nil=>rfl
 |cons x m ih=>simp[toCVs,ih,AC.toCV]
theorem f0:(0:Nat)<=0:=Nat.le_refl 0
theorem an{a b:Prop}(h:a)(k:b):a /\ b:=⟨h,k⟩
theorem sj{α:Type}{a b:α}(h:some a=some b):a=b:=Option.some.inj h
structure Hid (p:Prop):Prop where
 out:p
section
variable {A G:Prop} {G':A->Prop}
theorem goR(F:A)(k:G' F)(h:∀ F:A,Hid (G' F)->G:=by
 intro F k
 repeat (first|simp[F]|with_reducible first|refine za7 ?_|refine And.intro (by omega) ?_|refine zbe (by omega) ?_)
 exact k.out):G:=h F ⟨k⟩
theorem goR2(F:A)(k:G' F)(h:∀ F:A,Hid (G' F)->G:=by
 intro F k
 repeat (first|simp[-zf5,-zfp,F]|with_reducible first|refine za7 ?_|refine And.intro (by omega) ?_|refine zbe (by omega) ?_)
 exact k.out):G:=h F ⟨k⟩
theorem goN(F:A)(k:G' F)(h:∀ F:A,Hid (G' F)->G:=by
 intro F k
 repeat (first|simp[F]|with_reducible first|refine zk4 (by decide +kernel) ?_|refine zk5 (by decide +kernel) ?_|refine zk7 (by decide +kernel) ?_|refine zk6 (by decide +kernel) ?_|refine zhv (by decide +kernel) ?_|refine zhu (by decide +kernel) ?_|refine And.intro (by omega) ?_|refine zbe (by omega) ?_)
 exact k.out):G:=h F ⟨k⟩
theorem goD(F:A)(k:G' F)(h:∀ F:A,Hid (G' F)->G:=by
 intro F k
 repeat (first|simp[F]|with_reducible first|refine za7 ?_|refine zdc ?_|refine zk4 (by decide +kernel) ?_|refine zk5 (by decide +kernel) ?_|refine zk7 (by decide +kernel) ?_|refine zk6 (by decide +kernel) ?_|refine zhv (by decide +kernel) ?_|refine zhu (by decide +kernel) ?_|refine And.intro (by omega) ?_|refine zbe (by omega) ?_)
 exact k.out):G:=h F ⟨k⟩
theorem goD2(F:A)(k:G' F)(h:∀ F:A,Hid (G' F)->G:=by
 intro F k
 repeat (first|simp[-zf5,-zfp,F]|with_reducible first|refine za7 ?_|refine zdc ?_|refine zk4 (by decide +kernel) ?_|refine zk5 (by decide +kernel) ?_|refine zk7 (by decide +kernel) ?_|refine zk6 (by decide +kernel) ?_|refine zhv (by decide +kernel) ?_|refine zhu (by decide +kernel) ?_|refine And.intro (by omega) ?_|refine zbe (by omega) ?_)
 exact k.out):G:=h F ⟨k⟩
end
section
variable {A A' G:Prop} {G':A->A'->Prop}
theorem goG(F:A)(H:A')(k:G' F H)(h:∀(F:A) (H:A'),Hid (G' F H)->G:=by
 intro F H k
 repeat (first|simp[F]|with_reducible first|refine za7 ?_|refine And.intro (by omega) ?_|refine zbe (by omega) ?_|refine za4 (by with_unfolding_all rfl) _ (fun hg=>by(try simp at hg);first |(simp[hg,H];rfl) |(simp[F];simp only[if_pos hg];simp[F];rfl)) ?_)
 exact k.out):G:=h F H ⟨k⟩
theorem goG2(F:A)(H:A')(k:G' F H)(h:∀(F:A) (H:A'),Hid (G' F H)->G:=by
 intro F H k
 repeat (first|simp[-zf5,-zfp,F]|with_reducible first|refine za7 ?_|refine And.intro (by omega) ?_|refine zbe (by omega) ?_|refine za4 (by with_unfolding_all rfl) _ (fun hg=>by(try simp at hg);first |(simp[hg,H];rfl) |(simp[F];simp only[if_pos hg];simp[F];rfl)) ?_)
 exact k.out):G:=h F H ⟨k⟩
theorem goE(F:A)(H:A')(k:G' F H)(h:∀(F:A) (H:A'),Hid (G' F H)->G:=by
 intro F H k
 repeat (first|simp[F]|with_reducible first|refine za7 ?_|refine zdc ?_|refine zk4 (by decide +kernel) ?_|refine zk5 (by decide +kernel) ?_|refine zk7 (by decide +kernel) ?_|refine zk6 (by decide +kernel) ?_|refine zhv (by decide +kernel) ?_|refine zhu (by decide +kernel) ?_|refine And.intro (by omega) ?_|refine zbe (by omega) ?_|refine za4 (by with_unfolding_all rfl) _ (fun hg=>by(try simp at hg);first |(simp[hg,H];rfl) |(simp[F];simp only[if_pos hg];simp[F];rfl)) ?_|refine zeR ?_|refine zgH (by with_unfolding_all rfl) _ (fun hg=>by(try simp at hg);simp[hg,H];rfl) ?_)
 exact k.out):G:=h F H ⟨k⟩
theorem pv(F:A)(h:A->G:=by intro F;simp[St.frz,St.pur,F]):G:=h F
theorem pg(h:G:=by first |(simp;done) |(simp;omega)|omega):G:=h
end
section
variable {A G:Prop} {α β:Type}
theorem bK{a:Option α}{f:α->Option β}{r:β}(k:∀ y,a=some y->f y=some r->G)(h:a.bind f=some r):G:=by
 obtain⟨y,h1,h2⟩:=zBo h
 exact k y h1 h2
theorem lK{a:α}{f:α->Option β}{r:β}(k:∀ y,y=a->f y=some r->G)(h:(some a).bind f=some r):G:=k a rfl h
theorem cS{c d:Bool}{X Y:St->Prop}{st:St}{x y:Option β}{r:β}(F:A)(h1:d=true->x=some r->X st)(h2:d=false->y=some r->Y st)
  (h:A->c=d:=by intro F;first|rfl |(simp[F];done) |(simp[andB,orB,eqI,ltI,Int.natCast_inj,F];done)) (hs:cond d x y=some r):ziU (bV c) X Y st:=
 zok d (h F) (fun e=>h1 e (by subst e;exact hs)) (fun e=>h2 e (by subst e;exact hs))
end
section
variable {A:Prop}
theorem cP{P:Program}{g i n:Nat}{xs as_:List AV}{r:AV}{hp:Id->Option Blk}{K E:AV->List (Id × Option Blk)->Prop}(F:A)(hAt:CAt P n as_ [] (.ret r) [])(hK:K r [])
  (has:A->xs.map (·.toC [] hp)=as_:=by intro F;(first|simp[F]|simp (disch:=omega) [F]);try rfl)
  (hb:xs.flatMap (·.bor [] hp)=[]:=by simp) (hr:r.mp (AC.back [] [] [] g i)=r:=by simp):zc6 P g i n xs hp K E:=zjS hAt (has F) hb hr hK
theorem cA{P:Program}{g i n:Nat}{xs as_:List AV}{r r':AV}{post:List (Id × Blk)}{u:A->List (Id × Option Blk)}{hp:Id->Option Blk}{K E:AV->List (Id × Option Blk)->Prop}(F:A)(hAt:CAt P n as_ [] (.ret r) post)(hK:K r' (u F))
  (has:A->xs.map (·.toC [] hp)=as_:=by intro F;(first|simp[F]|simp (disch:=omega) [F]);try rfl)
  (hr:r.mp (AC.back [] (xs.flatMap (·.bor [] hp)) post g i)=r':=by simp;rfl) (hu:∀ F:A,zdw [] (xs.flatMap (·.bor [] hp)) g i (.ret r) post=u F:=by intro F;simp[F];rfl):zc6 P g i n xs hp K E:=
 znE hAt [] (has F) rfl List.nodup_nil hr (hu F) hK
theorem cB{P:Program}{g i n:Nat}{xs as_:List AV}{pre:List Blk}{r r':AV}{post:List (Id × Blk)}{u:A->List (Id × Option Blk)}{hp:Id->Option Blk}{K E:AV->List (Id × Option Blk)->Prop}(F:A)(hAt:CAt P n as_ pre (.ret r) post)(fp:List Id)(hK:K r' (u F))
  (has:A->xs.map (·.toC fp hp)=as_:=by intro F;(first|simp[F]|simp (disch:=omega) [F]);try rfl) (hpre:A->fp.map (fun b=>(hp b).map (Blk.mp (AC.toF fp)))=pre.map some:=by intro F;simp[F]) (hnd:fp.Nodup:=by simp)
  (hr:r.mp (AC.back fp (xs.flatMap (·.bor fp hp)) post g i)=r':=by simp;rfl) (hu:∀ F:A,zdw fp (xs.flatMap (·.bor fp hp)) g i (.ret r) post=u F:=by intro F;simp[F];rfl):zc6 P g i n xs hp K E:=
 znE hAt fp (has F) (hpre F) hnd hr (hu F) hK
theorem rg{P:Program}{rs:List ResultVar}{r:AV}{x:A->AV}{post:List (Id × Blk)}{st st':St}(F:A)(hg:Gh st st')(h:∀ F:A,zeF P st' rs=some (x F):=by intro F;simp[St.frz,St.pur,F];rfl)
  (hr:∀ F:A,x F=r:=by intro F;first|rfl |(simp[St.frz,St.pur,F];done) |(rw[if_pos (by first|omega |(simp;omega))];simp[St.frz,St.pur,F];first|omega|exact List.take_of_length_le (by simp;omega)|skip))
  (hp:∀ p ∈ post,st'.hp p.1=some p.2:=by simp):zee P rs (.ret r) post .ret st:=zaG st' hg (h F) (hr F) hp
end
def zlu:List AV->List CV
 |[]=>[]
 |.cell (.p c)::l=>c::zlu l
 |.agg xs::l=>(xs.filterMap fun x=>match x with|.p c=>some c|_=>none)++zlu l
 |_::l=>zlu l
theorem zb1:∀(l:List AV),(∀ x ∈ l,x.lenOk)->∀ c ∈ zlu l,LenOk c
 |[],_,c,hc=>by cases hc
 |.cell (.p d)::l,h,c,hc=>by
  simp only[zlu,List.mem_cons]at hc
  rcases hc with rfl|hc
  ·exact h (.cell (.p c)) (by simp)
  ·exact zb1 l (fun x hx=>h x (by simp[hx])) c hc
 |.agg xs::l,h,c,hc=>by
  simp only[zlu,List.mem_append,List.mem_filterMap]at hc
  rcases hc with⟨x,hx,e⟩|hc
  ·split at e
   ·rename_i d;cases e;exact h (.agg xs) (by simp) (.p c) hx
   ·cases e
  ·exact zb1 l (fun x hx=>h x (by simp[hx])) c hc
 |.cell .z::l,h,c,hc=>zb1 l (fun x hx=>h x (by simp[hx])) c hc
 |.cell (.ref _ _)::l,h,c,hc=>zb1 l (fun x hx=>h x (by simp[hx])) c hc
 |.cell (.sl _ _ _ _)::l,h,c,hc=>zb1 l (fun x hx=>h x (by simp[hx])) c hc
 |.cell (.mp _)::l,h,c,hc=>zb1 l (fun x hx=>h x (by simp[hx])) c hc
 |.cell (.ep _ _)::l,h,c,hc=>zb1 l (fun x hx=>h x (by simp[hx])) c hc
 |.cell (.fn _ _)::l,h,c,hc=>zb1 l (fun x hx=>h x (by simp[hx])) c hc
 |.cell (.own _)::l,h,c,hc=>zb1 l (fun x hx=>h x (by simp[hx])) c hc
 |.cell (.yl _)::l,h,c,hc=>zb1 l (fun x hx=>h x (by simp[hx])) c hc
 |.cell .bad::l,h,c,hc=>zb1 l (fun x hx=>h x (by simp[hx])) c hc
 |.tup _::l,h,c,hc=>zb1 l (fun x hx=>h x (by simp[hx])) c hc
 |.bad::l,h,c,hc=>zb1 l (fun x hx=>h x (by simp[hx])) c hc
theorem lkc{l:List AV}{c:CV}(h:∀ x ∈ l,x.lenOk)(hc:c ∈ zlu l:=by simp[zlu]):LenOk c:=zb1 l h c hc
abbrev nC(n:Int):AC:=.p (.c (.int .i64 n))
abbrev bC(b:Bool):AC:=.p (.c (.bool b))
abbrev tC(s:ByteArray):AC:=.p (.c (.string s))
abbrev sC{α:Type}[Enc α](l:List α):AC:=.p (.sl l.length (encL l))
def eA {α:Type}[Enc α](x:α):List AC:=(Enc.enc x).map .p
attribute [simp] eA
abbrev Map(κ ν:Type):=List (κ × ν)
class KEnc (κ:Type) where
 kenc:κ->MK
 inj:∀ a b,kenc a=kenc b->a=b
 same:∀ a b,zhP (kenc a) (kenc b)=true
instance:KEnc Int:=⟨MK.i .i64,fun a b h=>by injection h,fun a b=>by simp[zhP]⟩
instance:KEnc UInt8:=⟨fun b=>MK.i .u8 (b.toNat:Int),fun a b h=>by injection h with _ h;exact UInt8.toNat_inj.1 (by omega),fun a b=>by simp[zhP]⟩
instance:KEnc ByteArray:=⟨fun b=>MK.s b.data.toList,fun a b h=>by
 injection h with h
 cases a;cases b;simp at h;rw[h],fun a b=>rfl⟩
class VEnc (ν:Type) where
 venc:ν->CV
instance:VEnc Int:=⟨fun n=>.c (.int .i64 n)⟩
instance:VEnc Bool:=⟨fun n=>.c (.bool n)⟩
instance:VEnc ByteArray:=⟨fun n=>.c (.string n)⟩
section
variable {κ ν:Type} [KEnc κ] [DecidableEq κ] [VEnc ν]
def mK (l:Map κ ν):List MK:=l.map fun x=>KEnc.kenc x.1
def mV (l:Map κ ν):List AC:=l.map fun x=>.p (VEnc.venc x.2)
def mlk:Map κ ν->κ->Option ν
 |[],_=>none
 |(a,b)::q,k=>if a=k then some b else mlk q k
def mpt:Map κ ν->κ->ν->Map κ ν
 |[],k,v=>[(k,v)]
 |(a,b)::q,k,v=>if a=k then(k,v)::q else(a,b)::mpt q k v
def mdl:Map κ ν->κ->Map κ ν
 |[],_=>[]
 |(a,b)::q,k=>if a=k then q else(a,b)::mdl q k
@[simp] theorem zCb:mK ([]:Map κ ν)=[]:=rfl
@[simp] theorem zB8:mV ([]:Map κ ν)=[]:=rfl
theorem zsh(l:Map κ ν)(k:κ):(mK l).all (zhP (KEnc.kenc k))=true:=by
 simp[mK,KEnc.same]
theorem zru{a b:κ}:KEnc.kenc a=KEnc.kenc b ↔ a=b:=⟨KEnc.inj a b,fun h=>by rw[h]⟩
theorem znj(k:κ):∀ l:Map κ ν,mget (mK l) (mV l) (KEnc.kenc k)=(mlk l k).map fun v=>.p (VEnc.venc v)
 |[]=>rfl
 |(a,b)::q=>by
  have ih:=znj k q
  simp only[mget,mK,mV,List.map_cons,zcc,zru,mlk]at ih ⊢
  split
  ·rfl
  ·rw[<- ih]
   cases hm:zcc (List.map (fun x=>KEnc.kenc x.1) q) (KEnc.kenc k) with
   |none=>simp
   |some j=>simp
theorem zrm{a n:MK}(h:a ≠ n)(ks:List MK):zlf (a::ks) n=a::zlf ks n:=by
 unfold zlf;rw[zcc,if_neg h];cases zcc ks n<;>simp
theorem zrl{α:Type}{a n:MK}(h:a ≠ n)(ks:List MK)(y:α)(vs:List α)(x:α):zha (a::ks) (y::vs) n x=y::zha ks vs n x:=by
 unfold zha;rw[zcc,if_neg h];cases zcc ks n<;>simp
theorem zpy{α:Type}{a n:MK}(h:a ≠ n)(ks:List MK)(y:α)(vs:List α):mdel (a::ks) (y::vs) n=y::mdel ks vs n:=by
 unfold mdel;rw[zcc,if_neg h];cases zcc ks n<;>simp
theorem zfY(a:κ)(b:ν)(q:Map κ ν):mK ((a,b)::q)=KEnc.kenc a::mK q:=rfl
theorem zfW(a:κ)(b:ν)(q:Map κ ν):mV ((a,b)::q)=.p (VEnc.venc b)::mV q:=rfl
theorem zni(k:κ)(v:ν):∀ l:Map κ ν,zlf (mK l) (KEnc.kenc k)=mK (mpt l k v) /\ zha (mK l) (mV l) (KEnc.kenc k) (.p (VEnc.venc v))=mV (mpt l k v)
 |[]=>⟨rfl,rfl⟩
 |(a,b)::q=>by
  have ih:=zni k v q
  rw[mpt]
  split
  ·rename_i e;subst e;rw[zfY,zfW];exact⟨by simp[zlf,zcc,zfY],by simp[zha,zcc,zfW]⟩
  ·rename_i e
   have e':KEnc.kenc a ≠ KEnc.kenc k:=fun h=>e (KEnc.inj _ _ h)
   rw[zfY,zfW,zfY,zfW,zrm e',zrl e',ih.1,ih.2];exact⟨rfl,rfl⟩
theorem zsf(k:κ):∀ l:Map κ ν,mdel (mK l) (mK l) (KEnc.kenc k)=mK (mdl l k) /\ mdel (mK l) (mV l) (KEnc.kenc k)=mV (mdl l k)
 |[]=>⟨rfl,rfl⟩
 |(a,b)::q=>by
  have ih:=zsf k q
  rw[mdl]
  split
  ·rename_i e;subst e;rw[zfY,zfW];exact⟨by simp[mdel,zcc],by simp[mdel,zcc]⟩
  ·rename_i e
   have e':KEnc.kenc a ≠ KEnc.kenc k:=fun h=>e (KEnc.inj _ _ h)
   rw[zfY,zfW,zfY,zfW,zpy e',zpy e',ih.1,ih.2];exact⟨rfl,rfl⟩
@[simp] theorem zB7(l:Map κ ν)(x y:Id):(mV l).map (AC.ren x y)=mV l:=by simp[mV,AC.ren]
@[simp] theorem zB9(l:Map κ ν)(y:Id):(mV l).map (AC.kil y)=mV l:=by simp[mV,AC.kil]
@[simp] theorem zCa(l:Map κ ν)(b:Id)(cs:List CV):(mV l).map (AC.frz b cs)=mV l:=by simp[mV,AC.frz]
@[simp] theorem zB5(l:Map κ ν):(mV l).map AC.unz=mV l:=by simp[mV,AC.unz]
@[simp] theorem zB6(l:Map κ ν)(fp:List Id):(mV l).map (AC.toF fp)=mV l:=by simp[mV,AC.toF]
@[simp] theorem zAR(l:Map κ ν)(fp bors:List Id)(post:List (Id × Blk))(g i:Nat):(mV l).map (AC.back fp bors post g i)=mV l:=by simp[mV,AC.back]
end
@[simp] theorem zpA(l:Map Int Int)(k v:Int):zfM (mK l) (mV l) (.i .i64 k) (.p (.c (.int .i64 v)))=.map (mK (mpt l k v)) (mV (mpt l k v)):=by
 have h:=zni k v l
 simp only[zfM];rw[<- h.1,<- h.2];rfl
@[simp] theorem zyt{ν:Type}[VEnc ν](l:Map Int ν)(k:Int):zpC (mK l) (mV l) (.i .i64 k)=.map (mK (mdl l k)) (mV (mdl l k)):=by
 have h:=zsf k l
 simp only[zpC];rw[<- h.1,<- h.2];rfl
@[simp] theorem zB4{ν:Type}[VEnc ν](l:Map Int ν)(k:Int):(mK l).all (zhP (.i .i64 k))=true:=zsh l k
@[simp] theorem zB3{ν:Type}[VEnc ν](l:Map ByteArray ν)(k:ByteArray):(mK l).all (zhP (.s k.data.toList))=true:=zsh l k
theorem zpw(l:Map Int Int)(k:Int):mget (mK l) (mV l) (.i .i64 k)=(mlk l k).map fun v=>.p (.c (.int .i64 v)):=znj k l
@[simp] theorem zpB(l:Map Int Bool)(k:Int)(v:Bool):zfM (mK l) (mV l) (.i .i64 k) (.p (.c (.bool v)))=.map (mK (mpt l k v)) (mV (mpt l k v)):=by
 have h:=zni k v l
 simp only[zfM];rw[<- h.1,<- h.2];rfl
@[simp] theorem zpz(l:Map ByteArray Int)(k:ByteArray)(v:Int):zfM (mK l) (mV l) (.s k.data.toList) (.p (.c (.int .i64 v)))=.map (mK (mpt l k v)) (mV (mpt l k v)):=by
 have h:=zni k v l
 simp only[zfM];rw[<- h.1,<- h.2];rfl
@[simp] theorem zuv(k v:Int):zfM [] [] (.i .i64 k) (.p (.c (.int .i64 v)))=.map (mK (mpt ([]:Map Int Int) k v)) (mV (mpt ([]:Map Int Int) k v)):=zpA [] k v
@[simp] theorem zuw(k:Int)(v:Bool):zfM [] [] (.i .i64 k) (.p (.c (.bool v)))=.map (mK (mpt ([]:Map Int Bool) k v)) (mV (mpt ([]:Map Int Bool) k v)):=zpB [] k v
@[simp] theorem zuu(k:ByteArray)(v:Int):zfM [] [] (.s k.data.toList) (.p (.c (.int .i64 v)))=.map (mK (mpt ([]:Map ByteArray Int) k v)) (mV (mpt ([]:Map ByteArray Int) k v)):=zpz [] k v
theorem zpx(l:Map Int Bool)(k:Int):mget (mK l) (mV l) (.i .i64 k)=(mlk l k).map fun v=>.p (.c (.bool v)):=znj k l
theorem ztk(l:Map ByteArray Int)(k:ByteArray):mget (mK l) (mV l) (.s k.data.toList)=(mlk l k).map fun v=>.p (.c (.int .i64 v)):=znj k l
def St.cut(st:St)(b:Id)(n:Nat):St:={ st with hp:=fun i=>if i=b then(match st.hp b with|some (.pure l)=>some (.pure (l.take n))|some (.cells l)=>some (.cells (l.take n))|x=>x) else st.hp i }
theorem zaq.take{w:World}{m:Mem}{bad0:Nat->Prop}{i:Id}{l:List AC}(h:zaq w m bad0 i l)(n:Nat):zaq w m bad0 i (l.take n):=by
 unfold zaq at h ⊢
 cases hs:m.ρ i with
 |un=>rw[hs]at h;exact h
 |dead=>rw[hs]at h;exact h
 |vd=>rw[hs]at h;simp only at h ⊢;subst h;simp
 |at_ g base=>
  rw[hs]at h
  obtain⟨cur,e,fr,hg,hfr,hl,hc⟩:=h
  refine⟨cur,e,fr,hg,hfr,by rw[List.length_take];omega,fun j u x hu hx=>hc j u x hu ?_⟩
  rw[List.getElem?_take]at hx
  split at hx
  ·exact hx
  ·cases hx
theorem Gh.cut(st:St)(b:Id)(n:Nat):Gh st (st.cut b n):=by
 intro C a w m hJ
 refine⟨m,hJ.withHp _ _ hJ.env (fun i bl hi=>?_)⟩
 split at hi
 ·rename_i e
  subst e
  cases hb:st.hp i with
  |none=>rw[hb]at hi;cases hi
  |some x=>
   rw[hb]at hi
   cases x with
   |pure l=>
    cases hi
    obtain⟨h1,h2⟩:=hJ.hp i _ hb
    refine⟨h1,?_⟩
    show zaq w m C.bad0 i ((l.take n).map .p)
    rw[List.map_take]
    exact zaq.take h2 n
   |cells l=>
    cases hi
    obtain⟨h1,h2⟩:=hJ.hp i _ hb
    exact⟨h1,zaq.take h2 n⟩
   |map ks vs=>cases hi;exact hJ.hp i _ hb
 ·exact hJ.hp i bl hi
@[simp] theorem zA9(st:St)(b:Id)(n s:Nat):(st.cut b n).env s=st.env s:=rfl
@[simp] theorem zCo(st:St)(b i:Id)(n:Nat):(st.cut b n).hp i=if i=b then(match st.hp b with|some (.pure l)=>some (.pure (l.take n))|some (.cells l)=>some (.cells (l.take n))|x=>x) else st.hp i:=rfl
@[simp] theorem zA8(st:St)(b:Id)(n:Nat):(st.cut b n).gen=st.gen:=rfl
@[simp] theorem zBa(st:St)(b:Id)(n:Nat):(st.cut b n).acc=st.acc:=rfl
def mhas {κ ν:Type}[KEnc κ][DecidableEq κ][VEnc ν](l:Map κ ν)(k:κ):Bool:=(mlk l k).isSome
def mval {κ ν:Type}[KEnc κ][DecidableEq κ][VEnc ν](l:Map κ ν)(k:κ)(z:ν):ν:=(mlk l k).getD z
@[simp] theorem zAI(z:Int)(l:Map Int Int)(k:Int):outK (.p (.c (.int .i64 z))) true (mget (mK l) (mV l) (.i .i64 k))=.tup [iV .i64 (mval l k z),bV (mhas l k)]:=by rw[zpw];simp only[mval,mhas];cases mlk l k<;>rfl
@[simp] theorem zyf(z:Int)(l:Map Int Int)(k:Int):outK (.p (.c (.int .i64 z))) false (mget (mK l) (mV l) (.i .i64 k))=iV .i64 (mval l k z):=by rw[zpw];simp only[mval];cases mlk l k<;>rfl
@[simp] theorem zAJ(z:Bool)(l:Map Int Bool)(k:Int):outK (.p (.c (.bool z))) true (mget (mK l) (mV l) (.i .i64 k))=.tup [bV (mval l k z),bV (mhas l k)]:=by rw[zpx];simp only[mval,mhas];cases mlk l k<;>rfl
@[simp] theorem zyg(z:Bool)(l:Map Int Bool)(k:Int):outK (.p (.c (.bool z))) false (mget (mK l) (mV l) (.i .i64 k))=bV (mval l k z):=by rw[zpx];simp only[mval];cases mlk l k<;>rfl
@[simp] theorem zAH(z:Int)(l:Map ByteArray Int)(k:ByteArray):outK (.p (.c (.int .i64 z))) true (mget (mK l) (mV l) (.s k.data.toList))=.tup [iV .i64 (mval l k z),bV (mhas l k)]:=by rw[ztk];simp only[mval,mhas];cases mlk l k<;>rfl
section
variable {α:Type} [Enc α] {n:Nat}
end
end Go.Hw
end
section
namespace Go.Proofs
open Go.Hw
theorem mixed:Tryz.prog.follows .mixedOrders=true:=by kernel_rfl
@[simp] theorem sz1:szOf Tryz.prog 1=some 1:=by kernel_rfl
@[simp] theorem ag1:aggB Tryz.prog 1=some false:=by kernel_rfl
@[simp] theorem ei1:zaR Tryz.prog 1=some (1,8):=by kernel_rfl
@[simp] theorem ze1:zaP Tryz.prog 1=some [.p (.c .nilFunc)]:=by kernel_rfl
@[simp] theorem sz3:szOf Tryz.prog 3=some 1:=by kernel_rfl
@[simp] theorem ag3:aggB Tryz.prog 3=some false:=by kernel_rfl
@[simp] theorem ei3:zaR Tryz.prog 3=some (1,8):=by kernel_rfl
@[simp] theorem zo3:zdI Tryz.prog 3=some (.p (.c (.int .i64 0))):=by kernel_rfl
@[simp] theorem ze3:zaP Tryz.prog 3=some [.p (.c (.int .i64 0))]:=by kernel_rfl
@[simp] theorem sz4:szOf Tryz.prog 4=some 1:=by kernel_rfl
@[simp] theorem ag4:aggB Tryz.prog 4=some false:=by kernel_rfl
@[simp] theorem ei4:zaR Tryz.prog 4=some (1,1):=by kernel_rfl
@[simp] theorem zo4:zdI Tryz.prog 4=some (.p (.c (.bool false))):=by kernel_rfl
@[simp] theorem ze4:zaP Tryz.prog 4=some [.p (.c (.bool false))]:=by kernel_rfl
@[simp] theorem sz5:szOf Tryz.prog 5=some 1:=by kernel_rfl
@[simp] theorem ag5:aggB Tryz.prog 5=some false:=by kernel_rfl
@[simp] theorem ei5:zaR Tryz.prog 5=some (1,1):=by kernel_rfl
@[simp] theorem zo5:zdI Tryz.prog 5=some (.p (.c (.int .u8 0))):=by kernel_rfl
@[simp] theorem ze5:zaP Tryz.prog 5=some [.p (.c (.int .u8 0))]:=by kernel_rfl
@[simp] theorem sz9:szOf Tryz.prog 9=some 1:=by kernel_rfl
@[simp] theorem ag9:aggB Tryz.prog 9=some false:=by kernel_rfl
@[simp] theorem ei9:zaR Tryz.prog 9=some (1,16):=by kernel_rfl
@[simp] theorem zo9:zdI Tryz.prog 9=some (.p (.c (.string ⟨#[]⟩))):=by kernel_rfl
@[simp] theorem ze9:zaP Tryz.prog 9=some [.p (.c (.string ⟨#[]⟩))]:=by kernel_rfl
@[simp] theorem sz20:szOf Tryz.prog 20=some 1:=by kernel_rfl
@[simp] theorem ag20:aggB Tryz.prog 20=some false:=by kernel_rfl
@[simp] theorem ei20:zaR Tryz.prog 20=some (1,16):=by kernel_rfl
@[simp] theorem ze20:zaP Tryz.prog 20=some [.p (.c .nilIface)]:=by kernel_rfl
@[simp] theorem sz23:szOf Tryz.prog 23=some 1:=by kernel_rfl
@[simp] theorem ag23:aggB Tryz.prog 23=some false:=by kernel_rfl
@[simp] theorem ei23:zaR Tryz.prog 23=some (1,24):=by kernel_rfl
@[simp] theorem zo23:zdI Tryz.prog 23=some (.z):=by kernel_rfl
@[simp] theorem ze23:zaP Tryz.prog 23=some [.z]:=by kernel_rfl
@[simp] theorem sz24:szOf Tryz.prog 24=some 1:=by kernel_rfl
@[simp] theorem ag24:aggB Tryz.prog 24=some false:=by kernel_rfl
@[simp] theorem ei24:zaR Tryz.prog 24=some (1,24):=by kernel_rfl
@[simp] theorem zo24:zdI Tryz.prog 24=some (.z):=by kernel_rfl
@[simp] theorem ze24:zaP Tryz.prog 24=some [.z]:=by kernel_rfl
@[simp] theorem sz25:szOf Tryz.prog 25=some 1:=by kernel_rfl
@[simp] theorem ag25:aggB Tryz.prog 25=some false:=by kernel_rfl
@[simp] theorem ei25:zaR Tryz.prog 25=some (1,24):=by kernel_rfl
@[simp] theorem zo25:zdI Tryz.prog 25=some (.z):=by kernel_rfl
@[simp] theorem ze25:zaP Tryz.prog 25=some [.z]:=by kernel_rfl
@[simp] theorem sz26:szOf Tryz.prog 26=some 1:=by kernel_rfl
@[simp] theorem ag26:aggB Tryz.prog 26=some false:=by kernel_rfl
@[simp] theorem ei26:zaR Tryz.prog 26=some (1,24):=by kernel_rfl
@[simp] theorem zo26:zdI Tryz.prog 26=some (.z):=by kernel_rfl
@[simp] theorem ze26:zaP Tryz.prog 26=some [.z]:=by kernel_rfl
@[simp] theorem sz27:szOf Tryz.prog 27=some 5:=by kernel_rfl
@[simp] theorem ag27:aggB Tryz.prog 27=some true:=by kernel_rfl
@[simp] theorem ei27:zaR Tryz.prog 27=some (5,120):=by kernel_rfl
@[simp] theorem ze27:zaP Tryz.prog 27=some [.z,.z,.z,.z,.z]:=by kernel_rfl
@[simp] theorem sz28:szOf Tryz.prog 28=some 5:=by kernel_rfl
@[simp] theorem ag28:aggB Tryz.prog 28=some true:=by kernel_rfl
@[simp] theorem ei28:zaR Tryz.prog 28=some (5,120):=by kernel_rfl
@[simp] theorem ze28:zaP Tryz.prog 28=some [.z,.z,.z,.z,.z]:=by kernel_rfl
@[simp] theorem sz29:szOf Tryz.prog 29=some 1:=by kernel_rfl
@[simp] theorem ag29:aggB Tryz.prog 29=some false:=by kernel_rfl
@[simp] theorem ei29:zaR Tryz.prog 29=some (1,8):=by kernel_rfl
@[simp] theorem zo29:zdI Tryz.prog 29=some (.p (.c (.int .i64 0))):=by kernel_rfl
@[simp] theorem ze29:zaP Tryz.prog 29=some [.p (.c (.int .i64 0))]:=by kernel_rfl
@[simp] theorem sz30:szOf Tryz.prog 30=some 2:=by kernel_rfl
@[simp] theorem ag30:aggB Tryz.prog 30=some true:=by kernel_rfl
@[simp] theorem ei30:zaR Tryz.prog 30=some (2,16):=by kernel_rfl
@[simp] theorem ze30:zaP Tryz.prog 30=some [.p (.c (.int .i64 0)),.p (.c (.int .i64 0))]:=by kernel_rfl
@[simp] theorem zDt:eqOk Tryz.prog 30=true:=by first|kernel_rfl
@[simp] theorem sz31:szOf Tryz.prog 31=some 2:=by kernel_rfl
@[simp] theorem ag31:aggB Tryz.prog 31=some true:=by kernel_rfl
@[simp] theorem ei31:zaR Tryz.prog 31=some (2,16):=by kernel_rfl
@[simp] theorem ze31:zaP Tryz.prog 31=some [.p (.c (.int .i64 0)),.p (.c (.int .i64 0))]:=by kernel_rfl
@[simp] theorem zDs:eqOk Tryz.prog 31=true:=by first|kernel_rfl
@[simp] theorem sz37:szOf Tryz.prog 37=some 1:=by kernel_rfl
@[simp] theorem ag37:aggB Tryz.prog 37=some false:=by kernel_rfl
@[simp] theorem ei37:zaR Tryz.prog 37=some (1,8):=by kernel_rfl
@[simp] theorem zo37:zdI Tryz.prog 37=some (.p (.c (.int .i64 0))):=by kernel_rfl
@[simp] theorem ze37:zaP Tryz.prog 37=some [.p (.c (.int .i64 0))]:=by kernel_rfl
@[simp] theorem sz38:szOf Tryz.prog 38=some 1:=by kernel_rfl
@[simp] theorem ag38:aggB Tryz.prog 38=some false:=by kernel_rfl
@[simp] theorem ei38:zaR Tryz.prog 38=some (1,8):=by kernel_rfl
@[simp] theorem zo38:zdI Tryz.prog 38=some (.p (.c (.int .i64 0))):=by kernel_rfl
@[simp] theorem ze38:zaP Tryz.prog 38=some [.p (.c (.int .i64 0))]:=by kernel_rfl
@[simp] theorem sz39:szOf Tryz.prog 39=some 1:=by kernel_rfl
@[simp] theorem ag39:aggB Tryz.prog 39=some false:=by kernel_rfl
@[simp] theorem ei39:zaR Tryz.prog 39=some (1,8):=by kernel_rfl
@[simp] theorem zo39:zdI Tryz.prog 39=some (.p (.c (.int .i64 0))):=by kernel_rfl
@[simp] theorem ze39:zaP Tryz.prog 39=some [.p (.c (.int .i64 0))]:=by kernel_rfl
@[simp] theorem sz40:szOf Tryz.prog 40=some 8:=by kernel_rfl
@[simp] theorem ag40:aggB Tryz.prog 40=some true:=by kernel_rfl
@[simp] theorem ei40:zaR Tryz.prog 40=some (8,64):=by kernel_rfl
@[simp] theorem ze40:zaP Tryz.prog 40=some [.p (.c (.int .i64 0)),.p (.c (.int .i64 0)),.p (.c (.int .i64 0)),.p (.c (.int .i64 0)),.p (.c (.int .i64 0)),.p (.c (.int .i64 0)),.p (.c (.int .i64 0)),.p (.c (.int .i64 0))]:=by kernel_rfl
@[simp] theorem zDr:eqOk Tryz.prog 40=true:=by first|kernel_rfl
@[simp] theorem sz41:szOf Tryz.prog 41=some 8:=by kernel_rfl
@[simp] theorem ag41:aggB Tryz.prog 41=some true:=by kernel_rfl
@[simp] theorem ei41:zaR Tryz.prog 41=some (8,64):=by kernel_rfl
@[simp] theorem ze41:zaP Tryz.prog 41=some [.p (.c (.int .i64 0)),.p (.c (.int .i64 0)),.p (.c (.int .i64 0)),.p (.c (.int .i64 0)),.p (.c (.int .i64 0)),.p (.c (.int .i64 0)),.p (.c (.int .i64 0)),.p (.c (.int .i64 0))]:=by kernel_rfl
@[simp] theorem zDq:eqOk Tryz.prog 41=true:=by first|kernel_rfl
@[simp] theorem sz45:szOf Tryz.prog 45=some 2:=by kernel_rfl
@[simp] theorem ag45:aggB Tryz.prog 45=some true:=by kernel_rfl
@[simp] theorem ei45:zaR Tryz.prog 45=some (2,24):=by kernel_rfl
@[simp] theorem ze45:zaP Tryz.prog 45=some [.p (.c (.string ⟨#[]⟩)),.p (.c (.int .i64 0))]:=by kernel_rfl
@[simp] theorem zDp:eqOk Tryz.prog 45=true:=by first|kernel_rfl
@[simp] theorem sz46:szOf Tryz.prog 46=some 2:=by kernel_rfl
@[simp] theorem ag46:aggB Tryz.prog 46=some true:=by kernel_rfl
@[simp] theorem ei46:zaR Tryz.prog 46=some (2,24):=by kernel_rfl
@[simp] theorem ze46:zaP Tryz.prog 46=some [.p (.c (.string ⟨#[]⟩)),.p (.c (.int .i64 0))]:=by kernel_rfl
@[simp] theorem zDo:eqOk Tryz.prog 46=true:=by first|kernel_rfl
@[simp] theorem sz47:szOf Tryz.prog 47=some 1:=by kernel_rfl
@[simp] theorem ag47:aggB Tryz.prog 47=some false:=by kernel_rfl
@[simp] theorem ei47:zaR Tryz.prog 47=some (1,24):=by kernel_rfl
@[simp] theorem zo47:zdI Tryz.prog 47=some (.z):=by kernel_rfl
@[simp] theorem ze47:zaP Tryz.prog 47=some [.z]:=by kernel_rfl
@[simp] theorem sz48:szOf Tryz.prog 48=some 2:=by kernel_rfl
@[simp] theorem ag48:aggB Tryz.prog 48=some true:=by kernel_rfl
@[simp] theorem ei48:zaR Tryz.prog 48=some (2,40):=by kernel_rfl
@[simp] theorem ze48:zaP Tryz.prog 48=some [.p (.c (.string ⟨#[]⟩)),.z]:=by kernel_rfl
@[simp] theorem sz49:szOf Tryz.prog 49=some 2:=by kernel_rfl
@[simp] theorem ag49:aggB Tryz.prog 49=some true:=by kernel_rfl
@[simp] theorem ei49:zaR Tryz.prog 49=some (2,40):=by kernel_rfl
@[simp] theorem ze49:zaP Tryz.prog 49=some [.p (.c (.string ⟨#[]⟩)),.z]:=by kernel_rfl
@[simp] theorem sz50:szOf Tryz.prog 50=some 2:=by kernel_rfl
@[simp] theorem ag50:aggB Tryz.prog 50=some true:=by kernel_rfl
@[simp] theorem ei50:zaR Tryz.prog 50=some (2,16):=by kernel_rfl
@[simp] theorem ze50:zaP Tryz.prog 50=some [.p (.c (.int .i64 0)),.p (.c (.int .i64 0))]:=by kernel_rfl
@[simp] theorem zDn:eqOk Tryz.prog 50=true:=by first|kernel_rfl
@[simp] theorem sz51:szOf Tryz.prog 51=some 2:=by kernel_rfl
@[simp] theorem ag51:aggB Tryz.prog 51=some true:=by kernel_rfl
@[simp] theorem ei51:zaR Tryz.prog 51=some (2,16):=by kernel_rfl
@[simp] theorem ze51:zaP Tryz.prog 51=some [.p (.c (.int .i64 0)),.p (.c (.int .i64 0))]:=by kernel_rfl
@[simp] theorem zDm:eqOk Tryz.prog 51=true:=by first|kernel_rfl
@[simp] theorem sz52:szOf Tryz.prog 52=some 1:=by kernel_rfl
@[simp] theorem ag52:aggB Tryz.prog 52=some false:=by kernel_rfl
@[simp] theorem ei52:zaR Tryz.prog 52=some (1,24):=by kernel_rfl
@[simp] theorem zo52:zdI Tryz.prog 52=some (.z):=by kernel_rfl
@[simp] theorem ze52:zaP Tryz.prog 52=some [.z]:=by kernel_rfl
@[simp] theorem sz56:szOf Tryz.prog 56=some 1:=by kernel_rfl
@[simp] theorem ag56:aggB Tryz.prog 56=some false:=by kernel_rfl
@[simp] theorem ei56:zaR Tryz.prog 56=some (1,8):=by kernel_rfl
@[simp] theorem ze56:zaP Tryz.prog 56=some [.p (.c (.pointer none))]:=by kernel_rfl
@[simp] theorem sz57:szOf Tryz.prog 57=some 1:=by kernel_rfl
@[simp] theorem ag57:aggB Tryz.prog 57=some false:=by kernel_rfl
@[simp] theorem ei57:zaR Tryz.prog 57=some (1,24):=by kernel_rfl
@[simp] theorem zo57:zdI Tryz.prog 57=some (.z):=by kernel_rfl
@[simp] theorem ze57:zaP Tryz.prog 57=some [.z]:=by kernel_rfl
@[simp] theorem sz58:szOf Tryz.prog 58=some 1:=by kernel_rfl
@[simp] theorem ag58:aggB Tryz.prog 58=some false:=by kernel_rfl
@[simp] theorem ei58:zaR Tryz.prog 58=some (1,24):=by kernel_rfl
@[simp] theorem zo58:zdI Tryz.prog 58=some (.z):=by kernel_rfl
@[simp] theorem ze58:zaP Tryz.prog 58=some [.z]:=by kernel_rfl
@[simp] theorem sz59:szOf Tryz.prog 59=some 1:=by kernel_rfl
@[simp] theorem ag59:aggB Tryz.prog 59=some false:=by kernel_rfl
@[simp] theorem ei59:zaR Tryz.prog 59=some (1,24):=by kernel_rfl
@[simp] theorem zo59:zdI Tryz.prog 59=some (.z):=by kernel_rfl
@[simp] theorem ze59:zaP Tryz.prog 59=some [.z]:=by kernel_rfl
@[simp] theorem sz60:szOf Tryz.prog 60=some 10:=by kernel_rfl
@[simp] theorem ag60:aggB Tryz.prog 60=some true:=by kernel_rfl
@[simp] theorem ei60:zaR Tryz.prog 60=some (10,224):=by kernel_rfl
@[simp] theorem ze60:zaP Tryz.prog 60=some [.z,.p (.c (.int .i64 0)),.z,.z,.z,.z,.z,.z,.z,.z]:=by kernel_rfl
@[simp] theorem sz61:szOf Tryz.prog 61=some 10:=by kernel_rfl
@[simp] theorem ag61:aggB Tryz.prog 61=some true:=by kernel_rfl
@[simp] theorem ei61:zaR Tryz.prog 61=some (10,224):=by kernel_rfl
@[simp] theorem ze61:zaP Tryz.prog 61=some [.z,.p (.c (.int .i64 0)),.z,.z,.z,.z,.z,.z,.z,.z]:=by kernel_rfl
@[simp] theorem sz62:szOf Tryz.prog 62=some 1:=by kernel_rfl
@[simp] theorem ag62:aggB Tryz.prog 62=some false:=by kernel_rfl
@[simp] theorem ei62:zaR Tryz.prog 62=some (1,8):=by kernel_rfl
@[simp] theorem ze62:zaP Tryz.prog 62=some [.p (.c (.pointer none))]:=by kernel_rfl
@[simp] theorem sz63:szOf Tryz.prog 63=some 1:=by kernel_rfl
@[simp] theorem ag63:aggB Tryz.prog 63=some false:=by kernel_rfl
@[simp] theorem ei63:zaR Tryz.prog 63=some (1,24):=by kernel_rfl
@[simp] theorem zo63:zdI Tryz.prog 63=some (.z):=by kernel_rfl
@[simp] theorem ze63:zaP Tryz.prog 63=some [.z]:=by kernel_rfl
@[simp] theorem sz64:szOf Tryz.prog 64=some 16:=by kernel_rfl
@[simp] theorem ag64:aggB Tryz.prog 64=some true:=by kernel_rfl
@[simp] theorem ei64:zaR Tryz.prog 64=some (16,288):=by kernel_rfl
@[simp] theorem ze64:zaP Tryz.prog 64=some [.z,.p (.c (.int .i64 0)),.p (.c (.int .i64 0)),.p (.c (.bool false)),.p (.c (.int .i64 0)),.p (.c (.int .i64 0)),.z,.z,.z,.z,.z,.z,.z,.z,.p (.c (.bool false)),.z]:=by kernel_rfl
@[simp] theorem sz65:szOf Tryz.prog 65=some 16:=by kernel_rfl
@[simp] theorem ag65:aggB Tryz.prog 65=some true:=by kernel_rfl
@[simp] theorem ei65:zaR Tryz.prog 65=some (16,288):=by kernel_rfl
@[simp] theorem ze65:zaP Tryz.prog 65=some [.z,.p (.c (.int .i64 0)),.p (.c (.int .i64 0)),.p (.c (.bool false)),.p (.c (.int .i64 0)),.p (.c (.int .i64 0)),.z,.z,.z,.z,.z,.z,.z,.z,.p (.c (.bool false)),.z]:=by kernel_rfl
@[simp] theorem sz67:szOf Tryz.prog 67=some 5:=by kernel_rfl
@[simp] theorem ag67:aggB Tryz.prog 67=some true:=by kernel_rfl
@[simp] theorem ei67:zaR Tryz.prog 67=some (5,48):=by kernel_rfl
@[simp] theorem ze67:zaP Tryz.prog 67=some [.p (.c (.int .u8 0)),.p (.c (.string ⟨#[]⟩)),.p (.c (.int .i64 0)),.p (.c (.int .i64 0)),.p (.c (.int .i64 0))]:=by kernel_rfl
@[simp] theorem sz68:szOf Tryz.prog 68=some 5:=by kernel_rfl
@[simp] theorem ag68:aggB Tryz.prog 68=some true:=by kernel_rfl
@[simp] theorem ei68:zaR Tryz.prog 68=some (5,48):=by kernel_rfl
@[simp] theorem ze68:zaP Tryz.prog 68=some [.p (.c (.int .u8 0)),.p (.c (.string ⟨#[]⟩)),.p (.c (.int .i64 0)),.p (.c (.int .i64 0)),.p (.c (.int .i64 0))]:=by kernel_rfl
@[simp] theorem sz77:szOf Tryz.prog 77=some 1:=by kernel_rfl
@[simp] theorem ag77:aggB Tryz.prog 77=some false:=by kernel_rfl
@[simp] theorem ei77:zaR Tryz.prog 77=some (1,8):=by kernel_rfl
@[simp] theorem ze77:zaP Tryz.prog 77=some [.p (.c .nilFunc)]:=by kernel_rfl
@[simp] theorem sz79:szOf Tryz.prog 79=some 1:=by kernel_rfl
@[simp] theorem ag79:aggB Tryz.prog 79=some false:=by kernel_rfl
@[simp] theorem ei79:zaR Tryz.prog 79=some (1,8):=by kernel_rfl
@[simp] theorem zo79:zdI Tryz.prog 79=some (.p (.c (.int .i64 0))):=by kernel_rfl
@[simp] theorem ze79:zaP Tryz.prog 79=some [.p (.c (.int .i64 0))]:=by kernel_rfl
@[simp] theorem sz80:szOf Tryz.prog 80=some 4:=by kernel_rfl
@[simp] theorem ag80:aggB Tryz.prog 80=some true:=by kernel_rfl
@[simp] theorem ei80:zaR Tryz.prog 80=some (4,40):=by kernel_rfl
@[simp] theorem ze80:zaP Tryz.prog 80=some [.p (.c (.int .i64 0)),.p (.c (.string ⟨#[]⟩)),.p (.c (.int .i64 0)),.p (.c (.int .i64 0))]:=by kernel_rfl
@[simp] theorem zDl:eqOk Tryz.prog 80=true:=by first|kernel_rfl
@[simp] theorem sz81:szOf Tryz.prog 81=some 4:=by kernel_rfl
@[simp] theorem ag81:aggB Tryz.prog 81=some true:=by kernel_rfl
@[simp] theorem ei81:zaR Tryz.prog 81=some (4,40):=by kernel_rfl
@[simp] theorem ze81:zaP Tryz.prog 81=some [.p (.c (.int .i64 0)),.p (.c (.string ⟨#[]⟩)),.p (.c (.int .i64 0)),.p (.c (.int .i64 0))]:=by kernel_rfl
@[simp] theorem zDk:eqOk Tryz.prog 81=true:=by first|kernel_rfl
@[simp] theorem sz85:szOf Tryz.prog 85=some 7:=by kernel_rfl
@[simp] theorem ag85:aggB Tryz.prog 85=some true:=by kernel_rfl
@[simp] theorem ei85:zaR Tryz.prog 85=some (7,72):=by kernel_rfl
@[simp] theorem ze85:zaP Tryz.prog 85=some [.p (.c (.int .i64 0)),.p (.c (.string ⟨#[]⟩)),.p (.c (.int .i64 0)),.p (.c (.int .i64 0)),.p (.c (.string ⟨#[]⟩)),.p (.c (.int .i64 0)),.p (.c (.int .i64 0))]:=by kernel_rfl
@[simp] theorem sz86:szOf Tryz.prog 86=some 7:=by kernel_rfl
@[simp] theorem ag86:aggB Tryz.prog 86=some true:=by kernel_rfl
@[simp] theorem ei86:zaR Tryz.prog 86=some (7,72):=by kernel_rfl
@[simp] theorem ze86:zaP Tryz.prog 86=some [.p (.c (.int .i64 0)),.p (.c (.string ⟨#[]⟩)),.p (.c (.int .i64 0)),.p (.c (.int .i64 0)),.p (.c (.string ⟨#[]⟩)),.p (.c (.int .i64 0)),.p (.c (.int .i64 0))]:=by kernel_rfl
@[simp] theorem zC3:szOf Tryz.prog 102=some 2:=by kernel_rfl
@[simp] theorem zD2:aggB Tryz.prog 102=some true:=by kernel_rfl
@[simp] theorem zDK:zaR Tryz.prog 102=some (2,16):=by kernel_rfl
@[simp] theorem zCJ:zaP Tryz.prog 102=some [.p (.c (.int .i64 0)),.p (.c (.int .i64 0))]:=by kernel_rfl
@[simp] theorem zCn:eqOk Tryz.prog 102=true:=by first|kernel_rfl
@[simp] theorem zC2:szOf Tryz.prog 103=some 2:=by kernel_rfl
@[simp] theorem zD1:aggB Tryz.prog 103=some true:=by kernel_rfl
@[simp] theorem zDJ:zaR Tryz.prog 103=some (2,16):=by kernel_rfl
@[simp] theorem zCI:zaP Tryz.prog 103=some [.p (.c (.int .i64 0)),.p (.c (.int .i64 0))]:=by kernel_rfl
@[simp] theorem zCm:eqOk Tryz.prog 103=true:=by first|kernel_rfl
@[simp] theorem zC1:szOf Tryz.prog 113=some 1:=by kernel_rfl
@[simp] theorem zD0:aggB Tryz.prog 113=some false:=by kernel_rfl
@[simp] theorem zDI:zaR Tryz.prog 113=some (1,8):=by kernel_rfl
@[simp] theorem zCH:zaP Tryz.prog 113=some [.p (.c (.pointer none))]:=by kernel_rfl
@[simp] theorem zC0:szOf Tryz.prog 121=some 1:=by kernel_rfl
@[simp] theorem zDZ:aggB Tryz.prog 121=some false:=by kernel_rfl
@[simp] theorem zDH:zaR Tryz.prog 121=some (1,24):=by kernel_rfl
@[simp] theorem zCt:zdI Tryz.prog 121=some (.z):=by kernel_rfl
@[simp] theorem zCG:zaP Tryz.prog 121=some [.z]:=by kernel_rfl
@[simp] theorem zCZ:szOf Tryz.prog 124=some 1:=by kernel_rfl
@[simp] theorem zDY:aggB Tryz.prog 124=some false:=by kernel_rfl
@[simp] theorem zDG:zaR Tryz.prog 124=some (1,8):=by kernel_rfl
@[simp] theorem zCF:zaP Tryz.prog 124=some [.p (.c .nilFunc)]:=by kernel_rfl
@[simp] theorem zCY:szOf Tryz.prog 125=some 1:=by kernel_rfl
@[simp] theorem zDX:aggB Tryz.prog 125=some false:=by kernel_rfl
@[simp] theorem zDF:zaR Tryz.prog 125=some (1,8):=by kernel_rfl
@[simp] theorem zCE:zaP Tryz.prog 125=some [.p (.c .nilFunc)]:=by kernel_rfl
@[simp] theorem zCX:szOf Tryz.prog 126=some 1:=by kernel_rfl
@[simp] theorem zDW:aggB Tryz.prog 126=some false:=by kernel_rfl
@[simp] theorem zDE:zaR Tryz.prog 126=some (1,8):=by kernel_rfl
@[simp] theorem zCD:zaP Tryz.prog 126=some [.p (.c .nilFunc)]:=by kernel_rfl
@[simp] theorem zCW:szOf Tryz.prog 129=some 7:=by kernel_rfl
@[simp] theorem zDV:aggB Tryz.prog 129=some true:=by kernel_rfl
@[simp] theorem zDD:zaR Tryz.prog 129=some (7,7):=by kernel_rfl
@[simp] theorem zCC:zaP Tryz.prog 129=some [.p (.c (.bool false)),.p (.c (.bool false)),.p (.c (.bool false)),.p (.c (.bool false)),.p (.c (.bool false)),.p (.c (.bool false)),.p (.c (.bool false))]:=by kernel_rfl
@[simp] theorem zCV:szOf Tryz.prog 130=some 8:=by kernel_rfl
@[simp] theorem zDU:aggB Tryz.prog 130=some true:=by kernel_rfl
@[simp] theorem zDC:zaR Tryz.prog 130=some (8,24):=by kernel_rfl
@[simp] theorem zCB:zaP Tryz.prog 130=some [.p (.c (.string ⟨#[]⟩)),.p (.c (.bool false)),.p (.c (.bool false)),.p (.c (.bool false)),.p (.c (.bool false)),.p (.c (.bool false)),.p (.c (.bool false)),.p (.c (.bool false))]:=by kernel_rfl
@[simp] theorem zCU:szOf Tryz.prog 131=some 8:=by kernel_rfl
@[simp] theorem zDT:aggB Tryz.prog 131=some true:=by kernel_rfl
@[simp] theorem zDB:zaR Tryz.prog 131=some (8,24):=by kernel_rfl
@[simp] theorem zCA:zaP Tryz.prog 131=some [.p (.c (.string ⟨#[]⟩)),.p (.c (.bool false)),.p (.c (.bool false)),.p (.c (.bool false)),.p (.c (.bool false)),.p (.c (.bool false)),.p (.c (.bool false)),.p (.c (.bool false))]:=by kernel_rfl
@[simp] theorem zCT:szOf Tryz.prog 132=some 176:=by kernel_rfl
@[simp] theorem zDS:aggB Tryz.prog 132=some true:=by kernel_rfl
@[simp] theorem zDA:zaR Tryz.prog 132=some (176,528):=by kernel_rfl
@[simp] theorem zCS:szOf Tryz.prog 134=some 1:=by kernel_rfl
@[simp] theorem zDR:aggB Tryz.prog 134=some false:=by kernel_rfl
@[simp] theorem zDz:zaR Tryz.prog 134=some (1,8):=by kernel_rfl
@[simp] theorem zCz:zaP Tryz.prog 134=some [.p (.c (.pointer none))]:=by kernel_rfl
@[simp] theorem zCR:szOf Tryz.prog 144=some 1:=by kernel_rfl
@[simp] theorem zDQ:aggB Tryz.prog 144=some false:=by kernel_rfl
@[simp] theorem zDy:zaR Tryz.prog 144=some (1,8):=by kernel_rfl
@[simp] theorem zCy:zaP Tryz.prog 144=some [.p (.c .nilFunc)]:=by kernel_rfl
@[simp] theorem zCQ:szOf Tryz.prog 148=some 7:=by kernel_rfl
@[simp] theorem zDP:aggB Tryz.prog 148=some true:=by kernel_rfl
@[simp] theorem zDx:zaR Tryz.prog 148=some (7,56):=by kernel_rfl
@[simp] theorem zCx:zaP Tryz.prog 148=some [.p (.c (.int .i64 0)),.p (.c (.int .i64 0)),.p (.c (.int .i64 0)),.p (.c (.int .i64 0)),.p (.c (.int .i64 0)),.p (.c (.int .i64 0)),.p (.c (.int .i64 0))]:=by kernel_rfl
@[simp] theorem zCl:eqOk Tryz.prog 148=true:=by kernel_rfl
@[simp] theorem zCh:intT Tryz.prog 3=true:=by kernel_rfl
@[simp] theorem zCP:szOf Tryz.prog 150=some 3:=by kernel_rfl
@[simp] theorem zDO:aggB Tryz.prog 150=some true:=by kernel_rfl
@[simp] theorem zDw:zaR Tryz.prog 150=some (3,24):=by kernel_rfl
@[simp] theorem zCw:zaP Tryz.prog 150=some [.p (.c (.int .i64 0)),.p (.c (.int .i64 0)),.p (.c (.int .i64 0))]:=by kernel_rfl
@[simp] theorem zCk:eqOk Tryz.prog 150=true:=by kernel_rfl
@[simp] theorem zCg:intT Tryz.prog 3=true:=by kernel_rfl
@[simp] theorem zCO:szOf Tryz.prog 151=some 10:=by kernel_rfl
@[simp] theorem zDN:aggB Tryz.prog 151=some true:=by kernel_rfl
@[simp] theorem zDv:zaR Tryz.prog 151=some (10,160):=by kernel_rfl
@[simp] theorem zCv:zaP Tryz.prog 151=some [.p (.c (.string ⟨#[]⟩)),.p (.c (.string ⟨#[]⟩)),.p (.c (.string ⟨#[]⟩)),.p (.c (.string ⟨#[]⟩)),.p (.c (.string ⟨#[]⟩)),.p (.c (.string ⟨#[]⟩)),.p (.c (.string ⟨#[]⟩)),.p (.c (.string ⟨#[]⟩)),.p (.c (.string ⟨#[]⟩)),.p (.c (.string ⟨#[]⟩))]:=by kernel_rfl
@[simp] theorem zCN:szOf Tryz.prog 152=some 3:=by kernel_rfl
@[simp] theorem zDM:aggB Tryz.prog 152=some true:=by kernel_rfl
@[simp] theorem zDu:zaR Tryz.prog 152=some (3,48):=by kernel_rfl
@[simp] theorem zCu:zaP Tryz.prog 152=some [.p (.c (.string ⟨#[]⟩)),.p (.c (.string ⟨#[]⟩)),.p (.c (.string ⟨#[]⟩))]:=by kernel_rfl
attribute [simp] Tryz.underlying1 Tryz.underlying2 Tryz.underlying3 Tryz.underlying4 Tryz.underlying5 Tryz.underlying6 Tryz.underlying7 Tryz.underlying8 Tryz.underlying9 Tryz.underlying10 Tryz.underlying11 Tryz.underlying12 Tryz.underlying13 Tryz.underlying14 Tryz.underlying15 Tryz.underlying16 Tryz.underlying17 Tryz.underlying18 Tryz.underlying19 Tryz.underlying20 Tryz.underlying21 Tryz.underlying22 Tryz.underlying23 Tryz.underlying24 Tryz.underlying25 Tryz.underlying26 Tryz.underlying27 Tryz.underlying28 Tryz.underlying29 Tryz.underlying30 Tryz.underlying31 Tryz.underlying33 Tryz.underlying34 Tryz.underlying35 Tryz.underlying36 Tryz.underlying37 Tryz.underlying38 Tryz.underlying39 Tryz.underlying40 Tryz.underlying41 Tryz.underlying43 Tryz.underlying44 Tryz.underlying45 Tryz.underlying46 Tryz.underlying47 Tryz.underlying48 Tryz.underlying49 Tryz.underlying50 Tryz.underlying51 Tryz.underlying52 Tryz.underlying54 Tryz.underlying55 Tryz.underlying56 Tryz.underlying57 Tryz.underlying58 Tryz.underlying59 Tryz.underlying60 Tryz.underlying61 Tryz.underlying62 Tryz.underlying63 Tryz.underlying64 Tryz.underlying65 Tryz.underlying66 Tryz.underlying67 Tryz.underlying68 Tryz.underlying69 Tryz.underlying70 Tryz.underlying72 Tryz.underlying73 Tryz.underlying74 Tryz.underlying75 Tryz.underlying76 Tryz.underlying77 Tryz.underlying78 Tryz.underlying79 Tryz.underlying80 Tryz.underlying81 Tryz.underlying83 Tryz.underlying85 Tryz.underlying86 Tryz.underlying87 Tryz.underlying88 Tryz.underlying90 Tryz.underlying91 Tryz.underlying92 Tryz.underlying93 Tryz.underlying95 Tryz.underlying97 Tryz.underlying98 Tryz.underlying100 Tryz.underlying101 Tryz.underlying102 Tryz.underlying103 Tryz.underlying105 Tryz.underlying107 Tryz.underlying108 Tryz.underlying109 Tryz.underlying110 Tryz.underlying111 Tryz.underlying112 Tryz.underlying113 Tryz.underlying114 Tryz.underlying115 Tryz.underlying117 Tryz.underlying118 Tryz.underlying119 Tryz.underlying120 Tryz.underlying121 Tryz.underlying122 Tryz.underlying123 Tryz.underlying124 Tryz.underlying125 Tryz.underlying126 Tryz.underlying127 Tryz.underlying128 Tryz.underlying129 Tryz.underlying130 Tryz.underlying131 Tryz.underlying132 Tryz.underlying133 Tryz.underlying134 Tryz.underlying135 Tryz.underlying137 Tryz.underlying139 Tryz.underlying140 Tryz.underlying141 Tryz.underlying142 Tryz.underlying143 Tryz.underlying144 Tryz.underlying145 Tryz.underlying146 Tryz.underlying147 Tryz.underlying148 Tryz.underlying149 Tryz.underlying150 Tryz.underlying151 Tryz.underlying152 Tryz.underlying153 Tryz.underlying154 Tryz.underlying155 Tryz.underlying156 Tryz.underlying157 Tryz.underlying158 Tryz.underlying159 Tryz.underlying160 Tryz.underlying161 Tryz.underlying162 Tryz.underlying163 Tryz.underlying164 Tryz.underlying165 Tryz.underlying166 Tryz.underlying167 Tryz.underlying168
end Go.Proofs
end
section
namespace Go.Hw
class TEnc (α:Type) [Enc α] where
 ot:α->List OT
 olen:∀ x,(ot x).length=Enc.sz α
 ocv:∀ x,(ot x).map otCV=Enc.enc x
def otL {α:Type}[Enc α][TEnc α](l:List α):List OT:=l.flatMap TEnc.ot
theorem zpo:∀ l:List OT,otCV.go l=l.map otCV
 |[]=>rfl
 |t::r=>by rw[List.map_cons,otCV.go,zpo r]
theorem zvV(t:OT):(otA t).cv=some (otCV t):=by cases t<;>rfl
theorem zp6:∀ l:List OT,cvs (l.map otA)=some (l.map otCV)
 |[]=>rfl
 |t::r=>by rw[List.map_cons,cvs,zvV,zp6 r];rfl
theorem ztc(t:OT):otC (otA t)=some t:=by cases t<;>rfl
theorem znb:∀ l:List OT,otCs (l.map otA)=some l
 |[]=>rfl
 |t::r=>by rw[List.map_cons,otCs,ztc,znb r]
instance {α:Type} [Enc α] [TEnc α]:OEnc α:=⟨fun x=>(TEnc.ot x).map otA,fun x=>by rw[List.length_map,TEnc.olen],fun x=>by rw[zp6,TEnc.ocv],fun x c hc=>by
 obtain⟨t,_,rfl⟩:=List.mem_map.1 hc
 cases t with
 |p c=>exact .inl ⟨c,rfl⟩
 |sp a b c=>exact .inr ⟨_,rfl⟩
 |sl a b c=>exact .inr ⟨_,rfl⟩⟩
section
variable {α:Type} [Enc α] [TEnc α]
theorem zvZ(x:α):OEnc.oenc x=(TEnc.ot x).map otA:=rfl
@[simp] theorem zAL:otL ([]:List α)=[]:=rfl
theorem zna(x:α)(l:List α):otL (x::l)=TEnc.ot x++otL l:=rfl
@[simp] theorem ztb(l:List α):(otL l).map otA=zah l:=by
 induction l with
 |nil=>rfl
 |cons x l ih=>rw[zna,List.map_append,ih];rfl
@[simp] theorem zca[Globals](l:List α){n:Nat}(h:Enc.sz α=n):(zah l).take (l.length * n)=zah l:=by
 subst h;exact List.take_of_length_le (by rw[zbB];exact Nat.le_refl _)
@[simp] theorem zfx(l:List α):otCs (zah l)=some (otL l):=by rw[<- ztb,znb]
theorem zsc(l:List α):(otL l).map otCV=encL l:=by
 induction l with
 |nil=>rfl
 |cons x l ih=>rw[zna,List.map_append,ih,TEnc.ocv];rfl
@[simp] theorem zBY(l:List α):otCV.go (otL l)=encL l:=by rw[zpo,zsc]
end
end Go.Hw
end
section
namespace Go.Hw
variable [Globals] {α:Type} [Enc α] [OEnc α]
def zvU(c:Nat)(x:α):List AC:=(OEnc.oenc x).take c++((Enc.enc x).map AC.p).drop c
def mixP (n c:Nat)(l:List α):List AC:=zah (l.take n)++(((l.drop n).take 1).flatMap (zvU c)++(encL (l.drop (n+1))).map .p)
theorem zmV(x:α)(a b:Id):(OEnc.oenc x).map (AC.ren a b)=OEnc.oenc x:=by
 have:=ziD [x] a b;simpa using this
@[simp] theorem zyr(n c:Nat)(l:List α)(x y:Id):(mixP n c l).map (AC.ren x y)=mixP n c l:=by
 unfold mixP
 rw[List.map_append,ziD,List.map_append,List.map_map]
 congr 2
 rw[List.map_flatMap]
 congr 1;funext v
 unfold zvU
 rw[List.map_append,List.map_take,zmV,List.map_drop,List.map_map]
 congr 1
end Go.Hw
end
section
namespace Go.Hw
variable [Globals] {α:Type} [Enc α] [OEnc α]
def frow (n:Nat)(cs:List AC)(l:List α):List AC:=zah (l.take n)++(cs++zah (l.drop (n+1)))
section
variable (n:Nat) (cs:List AC) (l:List α)
theorem zfE{f:AC->AC}(h1:∀ v,f (.p v)=.p v)(h2:∀ t,f (.own t)=.own t):(frow n cs l).map f=frow n (cs.map f) l:=by
 unfold frow;rw[List.map_append,List.map_append,zdk _ _ h1 h2,zdk _ _ h1 h2]
@[simp] theorem zyC(x y:Id):(frow n cs l).map (AC.ren x y)=frow n (cs.map (AC.ren x y)) l:=zfE n cs l (fun v=>by simp) fun t=>by simp
@[simp] theorem zyD(y:Id):(frow n cs l).map (AC.kil y)=frow n (cs.map (AC.kil y)) l:=zfE n cs l (fun v=>by simp) fun t=>by simp
@[simp] theorem zyE(b:Id)(xs:List CV):(frow n cs l).map (AC.frz b xs)=frow n (cs.map (AC.frz b xs)) l:=zfE n cs l (fun v=>by simp) fun t=>by simp
@[simp] theorem zyA:(frow n cs l).map AC.unz=frow n (cs.map AC.unz) l:=zfE n cs l (fun v=>by simp) fun t=>by simp
@[simp] theorem zyB(fp:List Id):(frow n cs l).map (AC.toF fp)=frow n (cs.map (AC.toF fp)) l:=zfE n cs l (fun v=>by simp) fun t=>by simp
@[simp] theorem zwt(fp bors:List Id)(post:List (Id × Blk))(g i:Nat):(frow n cs l).map (AC.back fp bors post g i)=frow n (cs.map (AC.back fp bors post g i)) l:=zfE n cs l (fun v=>by simp) fun t=>by simp
end
end Go.Hw
end
section
namespace Go.Hw
variable [Globals]
theorem zom(l:List UInt8):zbj l=encL l:=by
 induction l with
 |nil=>rfl
 |cons x l ih=>rw[zgF,<- ih];rfl
theorem zjq(l:List UInt8):zbJ (encL l)=some l:=by
 induction l with
 |nil=>rfl
 |cons x l ih=>
  rw[zgF]
  show(zbJ (encL l)).map (UInt8.ofNat (Int.toNat _)::·)=_
  rw[ih];simp
attribute [simp] zom zjq
def zC4(s:ByteArray):Bool:=decide (s.size<=4611686018427387904)
@[simp] theorem zC8:(if IntKind.u8.signed=true then(-1:Int) else IntKind.u8.max)=255:=rfl
@[simp] theorem zB1:(if IntKind.u32.signed=true then(-1:Int) else IntKind.u32.max)=4294967295:=rfl
@[simp] theorem zB0:(if IntKind.u64.signed=true then(-1:Int) else IntKind.u64.max)=18446744073709551615:=rfl
@[simp] theorem zC7:(if IntKind.i64.signed=true then(-1:Int) else IntKind.i64.max)=-1:=rfl
def u8 (n:Int):UInt8:=UInt8.ofNat n.toNat
theorem zsI{n:Int}(h:0<=n)(h':n < 256):((u8 n).toNat:Int)=n:=by
 unfold u8
 rw[UInt8.toNat_ofNat']
 omega
@[simp] theorem zCL(n:Int):((u8 (IntKind.u8.wrap n)).toNat:Int)=IntKind.u8.wrap n:=by
 refine zsI ?_ ?_<;>simp[IntKind.wrap,IntKind.bits,IntKind.signed]<;>omega
class FlatT (α:Type) [Enc α]:Prop where
 h:∀ x:α,∀ c ∈ Enc.enc x,c.isC=true
instance:FlatT UInt8:=⟨fun x c h=>by simp at h;subst h;rfl⟩
instance:FlatT Int:=⟨fun x c h=>by simp at h;subst h;rfl⟩
instance:FlatT ByteArray:=⟨fun x c h=>by simp at h;subst h;rfl⟩
theorem znv{α:Type}[Enc α][FlatT α](l:List α):∀ c ∈ encL l,c.isC=true:=fun c h=>by
 obtain⟨x,_,hx⟩:=List.mem_flatMap.1 h
 exact FlatT.h x c hx
@[simp high] theorem zpV {α : Type} [Enc α] [FlatT α] (l : List α) : (encL l).all CV.isC = true := List.all_eq_true.2 (znv l)
@[simp high] theorem zwJ {α : Type} [Enc α] [FlatT α] (l : List α) : Blk.flat (.pure (encL l)) = true := zpV l
@[simp high] theorem zwI {α : Type} [Enc α] [FlatT α] (l : List α) : (∀ x, x ∈ encL l -> (match x with | CV.c v => true | x => false) = true) = True := by
 simp only[eq_iff_iff,iff_true]
 intro x h
 have:=znv l x h
 unfold CV.isC at this
 exact this
end Go.Hw
end
section
namespace Go.Hw
variable [Globals] {P:Program} {Q:AX->St->Prop} {st:St}
def St.coin(st:St)(d1 d4:Tmp)(b:Bool):St:=
  { ({ st with gen:=st.gen+1,env:=putE st.env (some d1) (.cell (.ref (.o (st.gen+1) 0 0) 0)),hp:=hput st.hp [(.o (st.gen+1) 0 0,some (.cells [.p (.c (.bool b))]))] }:St) with
    env:=putE (putE st.env (some d1) (.cell (.ref (.o (st.gen+1) 0 0) 0))) (some d4) (bV b) }
@[simp] theorem zAD{b:Id}{s:St}:(s.pur b).gen=s.gen:=by
 unfold St.pur
 split
 ·split<;>rfl
 ·rfl
@[simp] theorem zvF{x:Operand}{env:Nat->AV}{hp:Id->Option Blk}{out:AV}{b:Id}{v:Option Blk}:zdZ P (.nilCheck x) env hp out b v=(v.isSome=true /\ (hp b).isSome=true):=rfl
@[simp] theorem zvI{x:Operand}{env:Nat->AV}{hp:Id->Option Blk}{out:AV}{b:Id}{v:Option Blk}{t i:Nat}:zdZ P (.fieldAddr t x i) env hp out b v=(v.isSome=true /\ (hp b).isSome=true):=rfl
@[simp] theorem zCs(b:Bool):andB true b=b:=rfl
@[simp] theorem zC6(b:Bool):orB false b=b:=rfl
end Go.Hw
end
section
namespace Go.Hw
variable [Globals]
open Go.RowKit (Below)
def zhx:Option Value->FrameMode
 |none=>.returning
 |some v=>.panicking [⟨v,false,false⟩]
def zjl:Option Value->Value
 |none=>.nilIface
 |some v=>v
def zeh:Option Value->FrameMode
 |none=>.returning
 |some v=>.panicking [⟨v,true,false⟩]
theorem znQ(ca:Option Value):settle (zeh ca)=.returning:=by cases ca<;>rfl
def DAt (P:Program)(n:FuncId)(ca:Option Value)(as_:List AV)(pre:List Blk)(post:List (Id × Blk)):Prop:=
 zpT P n /\ ∀(w:World) (vs:Array Value) (bad0:Nat->Prop) (m:Mem),Pre w m bad0 pre->vs.size=as_.length ->
  (∀(j:Nat) (u:Value) (x:AV),vs[j]?=some u->as_[j]?=some x->AVRep w m bad0 u x) ->
  (∀ g cs,Globals.G g=some cs->AVRep w m bad0 (.pointer (some ⟨g,0,none⟩)) (.cell (.ep cs 0))) ->
  CallsDIn Fence.wide 0 P n vs (zhx ca) w fun e u' w'=>u'=zeh ca /\ ∃ m',EndR w' m' bad0 (.ret (.tup [])) e /\ Post w m bad0 w' m' post
theorem zmb{c₀:Frame}{cs:List Frame}{ca:Option Value}(h:c₀.mode=zhx ca):(∀ v,ca=some v->recoverD (c₀::cs)=some (v,{ c₀ with mode:=zeh ca }::cs)) /\ (ca=none->recoverD (c₀::cs)=none):=by
 constructor
 ·rintro v rfl;simp[recoverD,h,zhx,zeh]
 ·rintro rfl;simp[recoverD,h,zhx]
section
variable {F:Fence} {n:Nat} {P:Program} {ops:Array Oper} {Q:Exit->Act->List Frame->World->Prop} {i:Nat} {rest:List Nat} {a:Act} {cs:List Frame} {w w':World} {o:Oper}
theorem zrb{v:Value}(hF:∀ f,F.fn f)(ho:ops[i]?=some o)(hg:o.guard=none)(hr:(execOp a.eval o).run P w=.ok (.value v) w')(h:wpOpsSIn F n P ops Q rest (a.put o.dst v) cs w'):wpOpsSIn F n P ops Q (i::rest) a cs w:=by
 unfold wpOpsSIn
 simp only[ho]
 refine⟨fun f _=>hF f,?_⟩
 rw[if_pos (zcy hg),hr]
 exact h
theorem zrd{v:Value}{cs':List Frame}(hF:∀ f,F.fn f)(ho:ops[i]?=some o)(hg:o.guard=none)(hr:(execOp a.eval o).run P w=.ok .recover w')(hc:recoverD cs=some (v,cs') \/ recoverD cs=none /\ v=.nilIface /\ cs'=cs)
  (h:wpOpsSIn F n P ops Q rest (a.put o.dst v) cs' w'):wpOpsSIn F n P ops Q (i::rest) a cs w:=by
 unfold wpOpsSIn
 simp only[ho]
 refine⟨fun f _=>hF f,?_⟩
 rw[if_pos (zcy hg),hr]
 rcases hc with hc |⟨hc,rfl,rfl⟩
 ·simp only[hc];exact h
 ·simp only[hc];exact h
end
theorem zrS{P:Program}{f:FuncId}{fn:Func}{rest:Code}{rid d1 d2:Nat}{t ty1 ty2:TypeId}{ts1:Array TypeId}{pos1 pos2:String}{after1 after2:Array Edge}{op2:Op}{ca:Option Value}{args:List AV}{pre:List Blk}{post:List (Id × Blk)}{x2:AV}
  (hm : P.follows .mixedOrders = true) (hf : P.funcs[f]? = some fn) (hname : (fn.name == "runtime.NumGoroutine") = false)
  (hb:fn.body=some (.seq (.region rid #[⟨some d1,.call { callee:=.builtin .recover,args:=#[],argTypes:=ts1 },ty1,pos1,after1,none⟩,⟨some d2,op2,ty2,pos2,after2,none⟩] false) rest))
  (hargs:args.length<=fn.ntmps) (hd1:d1 < fn.ntmps) (hd2:d2 < fn.ntmps) (hok:za6 fn.ntmps (some fn.ntmps) rest=true) (hres:fn.results.toList=[])
  (hq:qval P (st0 args pre).hp (evAV ((st0 args pre).put (some d1) (.cell (.p (.c (zjl ca))))).env) op2=some x2)
  (h:awp P rest (zee P [] (.ret (.tup [])) post) (((st0 args pre).put (some d1) (.cell (.p (.c (zjl ca))))).put (some d2) x2)):DAt P f ca args pre post:=by
 refine⟨⟨fn,hf,hname,by rw[hb];rfl⟩,fun w vs bad0 m hP hlen hrep hglob=>?_⟩
 refine callsDIn_of_wpSIn hf hb trivial fun c₀ cs hc=>?_
 have hJ0:=J.start hargs hP hlen hrep hglob (out:=fun _=>False) (fun _ h=>h.elim) (fun _ _ _ _ h=>h) (fun _ _ _ _ _ _ _=>False)
 let C:Cx:={ prot:=fun b=>b < w.heap.size /\ ¬ Own m b,bad0:=bad0,w0:=w,N:=fn.ntmps,perm:=fun b=>(b < w.heap.size /\ ¬ Own m b) /\ ¬ (fun _=>False) b,marks:=[],loop:=none,out:=fun _=>False,fore:=m.ρ,wi:=w,seq:=fun _ _ _ _ _ _ _=>False,also:=fun _=>False,pin:=some (fn.ntmps,undef) }
 have hJ:J C (st0 args pre) { tmps:=vs++Array.replicate (fn.ntmps - vs.size) undef,defers:=[] } w m:=by
  refine { hJ0 with ext:=⟨hJ0.ext.defers,hJ0.ext.nodup,hJ0.ext.marks,hJ0.ext.perm,hJ0.ext.outb,hJ0.ext.loop,hJ0.ext.seq,hJ0.ext.fore,hJ0.ext.also,fun t v e=>?_⟩ }
  cases e
  rw[Array.getD_eq_getD_getElem?,Array.getElem?_eq_none (by simp;omega)]
  rfl
 have p1:zgG C (some d1):=fun k hk=>by cases hk;exact⟨hd1,fun v e=>by cases e;omega⟩
 have p2:zgG C (some d2):=fun k hk=>by cases hk;exact⟨hd2,fun v e=>by cases e;omega⟩
 have hJ1:=hJ.put p1 (v:=zjl ca) (x:=.cell (.p (.c (zjl ca)))) (.cell _ _ (.c _))
 obtain⟨v2,hr2,hv2⟩:=zm5 (o:=⟨some d2,op2,ty2,pos2,after2,none⟩) hJ1.hp (fun x=>hJ1.ev x) hq
 have hJ2:=hJ1.put p2 hv2
 have key:rest.wpSIn Fence.wide 0 P (bodyPostS P fn c₀ cs fun e u' w'=>u'=zeh ca /\ ∃ m',EndR w' m' bad0 (.ret (.tup [])) e /\ Post w m bad0 w' m' post) (({ tmps:=vs++Array.replicate (fn.ntmps - vs.size) undef,defers:=[] }:Act).put (some d1) (zjl ca) |>.put (some d2) v2) ({ c₀ with mode:=zeh ca }::cs) w:=by
  refine wpSIn_of_wpIn rfl (Code.wpIn_mono ?_ (zbD hm rest Fence.wide 0 C _ _ _ _ _ (.inl ⟨rfl,rfl⟩) (zdK P) hok h hJ2))
  rintro e a' w' ⟨C',st₁,m₁,z,hle,hq,hJ₁,hz⟩
  have main:(∃ st',Gh st₁ st' /\ ∃ x,zeF P st' []=some x /\ Out.ret (.tup [])=.ret x /\ ∀ p ∈ post,st'.hp p.1=some p.2)->bodyPostS P fn c₀ cs (fun e u' w'=>u'=zeh ca /\ ∃ m',EndR w' m' bad0 (.ret (.tup [])) e /\ Post w m bad0 w' m' post) .ret a' ({ c₀ with mode:=zeh ca }::cs) w':=by
   rintro⟨st',hgh,x,hx,hxe,hpost⟩
   obtain⟨m',hJ'⟩:=hgh _ _ _ _ hJ₁
   obtain⟨ms,e1,e2,_⟩:=hle.marks
   have hmk:C'.marks=[]:=by rw[e1,e2 (by rfl)];rfl
   have hdf:a'.defers=[]:=by rw[hJ'.ext.defers,hmk,hle.dfr];rfl
   obtain⟨v,hr,hv⟩:=zj8 hJ' (fn:=fn) (by rw[hres];exact hx)
   cases hxe
   have k1:∀ b,b < w.heap.size->¬ Own m b->w'.heap[b]?=w.heap[b]?:=fun b hb ho=>by
    obtain⟨q1,q2⟩:=hle.perm b ⟨⟨hb,ho⟩,id⟩
    exact(hJ'.kept b (hJ'.ext.perm b q1).1).trans q2
   have k2:∀ b,b < w.heap.size->¬ Own m b->¬ Own m' b:=fun b hb ho ho'=>by
    obtain⟨q1,_⟩:=hle.perm b ⟨⟨hb,ho⟩,id⟩
    exact(zd6 hJ' ho').1 (hJ'.ext.perm b q1).1
   obtain⟨E,hPo⟩:=zmh hP hJ' hle.fore hle.wi (fun b hb=>hle.bad b hb) ⟨Nat.le_trans hle.size hJ'.grown,hJ'.os.trans hle.os,hJ'.tape.trans hle.tape,hJ'.output.trans hle.output,k1⟩ k2 hpost
   exact⟨hdf,_,rfl,v,hr,rfl,_,⟨v,rfl,E.av hv⟩,hPo⟩
  cases z with
  |normal=>have e0:e=.normal:=hz;subst e0;exact main hq
  |ret=>have e0:e=.ret:=hz;subst e0;exact main hq
  |pan x=>obtain⟨_,hq,_⟩:=hq;cases hq
  |exit i=>exact hq.elim
  |goto i=>exact hq.elim
 refine wpSIn_seq (wpSIn_region ?_)
 have hrg:List.range (2:Nat)=[0,1]:=rfl
 show wpOpsSIn _ _ _ _ _ [0,1] _ _ _
 obtain⟨r1,r2⟩:=zmb (cs:=cs) hc
 refine zrd (v:=zjl ca) (cs':={ c₀ with mode:=zeh ca }::cs) (fun _=>trivial) (o:=⟨some d1,.call { callee:=.builtin .recover,args:=#[],argTypes:=ts1 },ty1,pos1,after1,none⟩) rfl rfl (w':=w) rfl ?_ ?_
 ·cases ca with
  |none=>exact .inr ⟨r2 rfl,rfl,by cases c₀;simp only[zhx]at hc;subst hc;rfl⟩
  |some v=>exact .inl (r1 v rfl)
 ·exact zrb (fun _=>trivial) (o:=⟨some d2,op2,ty2,pos2,after2,none⟩) rfl rfl hr2 key
def ziT(o:Oper):Option Nat:=match o with
 |⟨none,.defer c,_,_,_,none⟩=>match c.callee with
  |.value (.tmp t)=>if c.args.isEmpty then some t else none
  |_=>none
 |_=>none
def awpD (P:Program)(N:Nat)(QD:Nat->AX->St->Prop):Code->(AX->St->Prop)->St->Prop
 |.seq (.region rid ops false) b,Q,st=>
  match ops.toList.getLast?.bind ziT with
  |some t=>za6 N (some N) (.region rid ops.toList.dropLast.toArray false)=true /\ za6 N (some t) b=true /\ ∃ st',Gh st st' /\
    aops P (st'.gen+1) ops 0 ops.toList.dropLast { st' with gen:=st'.gen+1 } (fun s=>(∃ g caps,s.env t=.cell (.fn g caps)) /\ awp P b (QD t) s) (fun x=>Q (.pan x))
  |none=>za6 N (some N) (.region rid ops false)=true /\ awp P (.region rid ops false) (fun x s=>match x with|.normal=>awpD P N QD b Q s|x=>Q x s) st
 |.seq a b,Q,st=>za6 N (some N) a=true /\ awp P a (fun x s=>match x with|.normal=>awpD P N QD b Q s|x=>Q x s) st
 |_,_,_=>False
def zp9(P:Program)(ca:Option Value)(t:Nat)(st:St)(K:St->Prop):Prop:=
 ∃ g caps,st.env t=.cell (.fn g caps) /\ ∃ fp as_ pre post,DAt P g ca as_ pre post /\ ((caps.map zf4).map (·.toC fp st.hp)=as_ /\ fp.map (fun b=>(st.hp b).map (Blk.mp (AC.toF fp)))=pre.map some /\ fp.Nodup) /\
  K ({ st with gen:=st.gen+1 }.app (zdw fp ((caps.map zf4).flatMap fun x:AV=>x.bor fp st.hp) (st.gen+1) 0 (.ret (.tup [])) post))
def zh1(P:Program)(rs:List ResultVar)(r:AV)(post:List (Id × Blk))(t:Nat):AX->St->Prop
 |.normal,st|.ret,st=>∃ st',Gh st st' /\ zp9 P none t st' fun s=>∃ s',Gh s s' /\ zeF P s' rs=some r /\ ∀ p ∈ post,s'.hp p.1=some p.2
 |.pan x,st=>∃ u,x=.cell (.p (.c u)) /\ ∃ st',Gh st st' /\ zp9 P (some u) t st' fun s=>∃ s',Gh s s' /\ zeF P s' rs=some r /\ ∀ p ∈ post,s'.hp p.1=some p.2
 |_,_=>False
theorem zmN{P:Program}{C:Cx}{st:St}{a:Act}{w:World}{m:Mem}{ca:Option Value}{t g:Nat}{vs:Array Value}{K:St->Prop}{fn:Func}{R:Ending->World->Prop}(hJ:J C st a w m)(hpin:C.pin=some (t,.func (.func g) #[] vs))(h:zp9 P ca t st K)
  (hfin:∀ st' w' m',K st'->J C st' a w' m'->LeavesInM Fence.wide 0 P fn a.tmps R [] .returning w') :
  LeavesInM Fence.wide 0 P fn a.tmps R [{ target:=.fn (.func g) vs,args:=#[] }] (zhx ca) w:=by
 obtain⟨g',caps,henv,fp,as_,pre,post,hD,⟨has,hpre,hnd⟩,hK⟩:=h
 have hraw:=hJ.ext.pin _ _ hpin
 have hr:=hJ.env t
 rw[henv,hraw]at hr
 obtain⟨vs',hv,hl,hr1,hr2⟩:=zar hr
 cases hv
 have hU:=hJ.up
 obtain⟨bad1,m1,hP,h1,h2,h3,hfinG⟩:=ziY (g:=st.gen+1) (i:=0) hU (Nat.le_refl _) (fun k=>hJ.gen _ _ _ (Nat.lt_succ_self _)) (xs:=caps.map zf4) (vs:=vs) (by simp[hl]) (zlD hl hr1 hr2) has hpre hnd
 have hcall:=hD.2 w vs bad1 m1 hP h1 h2 h3
 obtain⟨⟨fn0,f1,f2,f3⟩,_⟩:=hD
 have hcf:∀ args w,(callFunc g args).run P w=.ok (.enter g args) w:=by
  intro args w
  have h2' : ¬ fn0.name = "runtime.NumGoroutine" := by simpa using f2
  have h3':¬ fn0.body=none:=by intro e;rw[e]at f3;simp at f3
  simp[callFunc,f1,h2',h3']
 refine⟨by cases ca<;>simp[zhx],.inr ⟨(fun e=>by cases e),Fn.func g,vs,g,vs,rfl,by simp[invoke,go_sem,hcf],fun _ _=>trivial,hcall.mono ?_⟩⟩
 rintro e u' w' ⟨rfl,mc,hE,hPost⟩
 obtain⟨m',hJ',hE',_⟩:=hfinG (.ret (.tup [])) hE hPost
 obtain⟨v,rfl,_⟩:=hE'
 show LeavesInM Fence.wide 0 P fn a.tmps R [] (settle (zeh ca)) w'
 rw[znQ]
 exact hfin _ _ _ hK hJ'
def Cx.deferred(C:Cx)(t g:Nat)(vs:Array Value):Cx:={ C with dfr:=[{ target:=.fn (.func g) vs,args:=#[] }],pin:=some (t,.func (.func g) #[] vs) }
def endD (C:Cx)(QD:Nat->AX->St->Prop)(Q:AX->St->Prop)(e:Exit)(a:Act)(w:World):Prop:=
 lift C Q e a w \/ ∃ C1 t g vs,C.le C1 /\ lift (C1.deferred t g vs) (QD t) e a w
theorem zrR{P:Program}{C:Cx}{ops:Array Oper}{Q:Exit->Act->World->Prop}{o:Oper}{t:Nat}{st:St}{a:Act}{w:World}{m:Mem}(hJ:J C st a w m)(ho:ziT o=some t){g:Nat}{caps:List (Id ⊕ CV)}(henv:st.env t=.cell (.fn g caps))
  (hm:C.marks=[]) (hd:C.dfr=[]) (h:∀ vs a',J (C.deferred t g vs) st a' w m->Q .normal a' w):wpListIn Fence.wide 0 P ops Q [o] a w:=by
 unfold ziT at ho
 split at ho
 ·rename_i c ty pos after
  split at ho
  ·rename_i t' hc
   split at ho
   ·rename_i he
    cases ho
    have hr:=hJ.env t
    rw[henv]at hr
    obtain⟨vs,hv,hl,hr1,hr2⟩:=zar hr
    unfold wpListIn
    rw[if_pos (zcy rfl)]
    refine⟨fun _ _=>trivial,?_⟩
    obtain⟨callee,args,ts⟩:=c
    simp only at hc he
    subst hc
    have hargs:args=#[]:=by simpa using he
    subst hargs
    have hev:a.eval (.tmp t)=.func (.func g) #[] vs:=hv
    have hx:(Oper.semAt none a.eval ⟨none,.defer { callee:=.value (.tmp t),args:=#[],argTypes:=ts },ty,pos,after,none⟩).run P w=.ok (.defer { target:=.fn (.func g) vs,args:=#[] }) w:=by
     have hx0:(resolve a.eval { callee:=.value (.tmp t),args:=#[],argTypes:=ts } ty).run P w=.ok { target:=.fn (.func g) vs,args:=#[] } w:=by
      show(Deferred.ofValue (a.eval (.tmp t)) (#[].map a.eval)).run P w=_
      rw[hev]
      simp[Deferred.ofValue]
     rw[Oper.semAt_none]
     simp only[execOp,Sem.run_bind]
     rw[hx0]
     rfl
    show Oper.uponIn _ _ _ _ _ _ _ ((Oper.semAt none a.eval _).run P w)
    rw[hx,Oper.uponIn_defer]
    refine h vs _ { hJ with ext:=⟨?_,?_,?_,hJ.ext.perm,hJ.ext.outb,hJ.ext.loop,hJ.ext.seq,hJ.ext.fore,hJ.ext.also,fun t' v e=>?_⟩ }
    ·show _::a.defers=C.marks.map zeY++_
     rw[hJ.ext.defers,hm,hd];rfl
    ·exact hJ.ext.nodup
    ·exact hJ.ext.marks
    ·cases e;exact hv
   ·cases ho
  ·cases ho
 ·cases ho
theorem ztB{C C1:Cx}{QD:Nat->AX->St->Prop}{Q:AX->St->Prop}(hle:C.le C1){e:Exit}{a:Act}{w:World}(h:endD C1 QD Q e a w):endD C QD Q e a w:=by
 rcases h with h |⟨C2,t,g,vs,h1,h2⟩
 ·exact .inl (zpF hle h)
 ·exact .inr ⟨C2,t,g,vs,hle.trans h1,h2⟩
theorem zop{P:Program}(hm:P.follows .mixedOrders=true){QD:Nat->AX->St->Prop}{Q:AX->St->Prop}:∀(c:Code) (C:Cx) (st:St) (a:Act) (w:World) (m:Mem),C.pin=some (C.N,undef)->C.dfr=[]->C.marks=[]->C.loop=none->SeqLaw P C.seq ->
  awpD P C.N QD c Q st->J C st a w m->c.wpIn Fence.wide 0 P (endD C QD Q) a w:=by
 intro c
 induction c with
 |seq x y _ ihy=>
  intro C st a w m hpin hd hmk hlo hS h hJ
  have plain:za6 C.N (some C.N) x=true->awp P x (fun x s=>match x with|.normal=>awpD P C.N QD y Q s|x=>Q x s) st->(Code.seq x y).wpIn Fence.wide 0 P (endD C QD Q) a w:=by
   intro hok h
   refine wpIn_seq (Code.wpIn_mono ?_ (zbD hm x Fence.wide 0 C _ st a w m (.inl ⟨rfl,hlo⟩) hS (by unfold Cx.codeOk;rw[hpin];exact hok) h hJ))
   rintro e a' w' ⟨C',st',m',z,hle,hq,hJ',hz⟩
   cases z with
   |normal=>
    have e0:e=.normal:=hz
    subst e0
    obtain⟨ms,e1,e2,_⟩:=hle.marks
    exact Code.wpIn_mono (fun e a w h=>ztB hle h) (ihy C' st' a' w' m' (by rw[hle.pin,hle.N];exact hpin) (hle.dfr.trans hd) (by rw[e1,e2 (by rw[hpin];simp),hmk];rfl) (hle.loop.trans hlo) (by rw[hle.seq];exact hS) (by rw[hle.N];exact hq) hJ')
   |pan v=>obtain⟨u,rfl,hu⟩:=hz;exact .inl (zaW (x:=.pan v) hle hq hJ' ⟨u,rfl,hu⟩)
   |exit i=>have e0:e=.exit i:=hz;subst e0;exact .inl (zaW (x:=.exit i) hle hq hJ' rfl)
   |goto i=>have e0:e=.goto i:=hz;subst e0;exact .inl (zaW (x:=.goto i) hle hq hJ' rfl)
   |ret=>have e0:e=.ret:=hz;subst e0;exact .inl (zaW (x:=.ret) hle hq hJ' rfl)
  cases x with
  |region rid ops d=>
   cases d with
   |true=>simp only[awpD]at h;exact plain h.1 h.2
   |false=>
    simp only[awpD]at h
    split at h
    ·rename_i t ht
     obtain⟨ok1,ok2,st',hgh,haops⟩:=h
     obtain⟨m',hJ⟩:=hgh _ _ _ _ hJ
     rw[Option.bind_eq_some_iff]at ht
     obtain⟨o,ho1,ho2⟩:=ht
     have hl:ops.toList=ops.toList.dropLast++[o]:=by
      rw[List.getLast?_eq_some_iff]at ho1
      obtain⟨ys,hy⟩:=ho1
      rw[hy];simp
     refine wpIn_seq (wpIn_region_list ?_)
     rw[hl]
     have k2:=(zeS (C:=C) (by unfold Cx.codeOk;rw[hpin];exact ok1)).2
     refine zfH (.inl rfl) [o] ops.toList.dropLast 0 C _ a w m' hS rfl (fun j k _=>hJ.gen _ _ _ (Nat.lt_succ_self _)) haops hJ.up (fun o' ho'=>k2 o' (by simpa using ho')) (fun C' s a' w' m1 hle hk hJ'=>?_) (fun C' x s v a' w' m1 hle hx hJ' hv=>.inl (zaW (x:=.pan x) hle hx hJ' ⟨v,rfl,hv⟩))
     obtain⟨⟨g,caps,henv⟩,hb⟩:=hk
     obtain⟨ms,e1,e2,_⟩:=hle.marks
     refine zrR hJ' ho2 henv (by rw[e1,e2 (by rw[hpin];simp),hmk];rfl) (hle.dfr.trans hd) (fun vs a2 hJ2=>?_)
     refine Code.wpIn_mono (fun e a w h=>.inr ⟨C',t,g,vs,hle,h⟩) (zbD hm y Fence.wide 0 (C'.deferred t g vs) _ s a2 w' m1 (.inl ⟨rfl,hle.loop.trans hlo⟩) (by show SeqLaw P C'.seq;rw[hle.seq];exact hS) ?_ hb hJ2)
     show za6 C'.N (some t) y=true
     rw[hle.N];exact ok2
    ·exact plain h.1 h.2
  |_=>simp only[awpD]at h;exact plain h.1 h.2
 |_=>intro C st a w m _ _ _ _ _ h _;exact(by unfold awpD at h;exact h.elim)
theorem zqf {P : Program} {f : FuncId} {fn : Func} {c : Code} {args : List AV} {pre : List Blk} {r : AV} {post : List (Id × Blk)} (hm : P.follows .mixedOrders = true) (hf : P.funcs[f]? = some fn) (hname : (fn.name == "runtime.NumGoroutine") = false) (hb : fn.body = some c)
  (hargs:args.length<=fn.ntmps)
  (h:awpD P fn.ntmps (zh1 P fn.results.toList r post) c (zee P fn.results.toList (.ret r) post) (st0 args pre)):CAt P f args pre (.ret r) post:=by
 refine⟨⟨fn,hf,hname,by rw[hb];rfl⟩,fun w vs bad0 m hP hlen hrep hglob=>?_⟩
 refine callsIn_wide (n:=0) |>.1 (callsIn_of_wp_marks (F:=Fence.wide) hf hb trivial ?_)
 have hJ0:=J.start hargs hP hlen hrep hglob (out:=fun _=>False) (fun _ h=>h.elim) (fun _ _ _ _ h=>h) (fun _ _ _ _ _ _ _=>False)
 let C:Cx:={ prot:=fun b=>b < w.heap.size /\ ¬ Own m b,bad0:=bad0,w0:=w,N:=fn.ntmps,perm:=fun b=>(b < w.heap.size /\ ¬ Own m b) /\ ¬ (fun _=>False) b,marks:=[],loop:=none,out:=fun _=>False,fore:=m.ρ,wi:=w,seq:=fun _ _ _ _ _ _ _=>False,also:=fun _=>False,pin:=some (fn.ntmps,undef) }
 have hJ:J C (st0 args pre) { tmps:=vs++Array.replicate (fn.ntmps - vs.size) undef,defers:=[] } w m:=by
  refine { hJ0 with ext:=⟨hJ0.ext.defers,hJ0.ext.nodup,hJ0.ext.marks,hJ0.ext.perm,hJ0.ext.outb,hJ0.ext.loop,hJ0.ext.seq,hJ0.ext.fore,hJ0.ext.also,fun t v e=>?_⟩ }
  cases e
  rw[Array.getD_eq_getD_getElem?,Array.getElem?_eq_none (by simp;omega)]
  rfl
 -- the end, in whatever context
 have fin:∀ {C1:Cx} {st:St} {a':Act} {w':World} {m':Mem},C.fore=C1.fore->C1.wi=w->(∀ b,bad0 b->C1.bad0 b)->w.heap.size<=C1.w0.heap.size->C1.w0.os=w.os->C1.w0.tape=w.tape->C1.w0.output=w.output ->
   (∀ b,b < w.heap.size->¬ Own m b->C1.perm b /\ C1.w0.heap[b]?=w.heap[b]?)->J C1 st a' w' m'->zeF P st fn.results.toList=some r->(∀ p ∈ post,st.hp p.1=some p.2) ->
   LeavesInM Fence.wide 0 P fn a'.tmps (fun e w'=>∃ m',EndR w' m' bad0 (.ret r) e /\ Post w m bad0 w' m' post) [] .returning w':=by
  intro C1 st a' w' m' c1 c2 c3 c4 c5 c6 c7 c8 hJ' hx hpost
  obtain⟨v,hr,hv⟩:=zj8 hJ' hx
  have k1:∀ b,b < w.heap.size->¬ Own m b->w'.heap[b]?=w.heap[b]?:=fun b hb ho=>by
   obtain⟨q1,q2⟩:=c8 b hb ho
   exact(hJ'.kept b (hJ'.ext.perm b q1).1).trans q2
  have k2:∀ b,b < w.heap.size->¬ Own m b->¬ Own m' b:=fun b hb ho ho'=>by
   obtain⟨q1,_⟩:=c8 b hb ho
   exact(zd6 hJ' ho').1 (hJ'.ext.perm b q1).1
  obtain⟨E,hPo⟩:=zmh hP hJ' c1.symm c2 c3 ⟨Nat.le_trans c4 hJ'.grown,hJ'.os.trans c5,hJ'.tape.trans c6,hJ'.output.trans c7,k1⟩ k2 hpost
  exact⟨v,hr,_,⟨v,rfl,E.av hv⟩,hPo⟩
 refine Code.wpIn_mono ?_ (zop hm c C _ _ w m rfl rfl rfl rfl (zdK P) h hJ)
 rintro e a' w' (⟨C',st₁,m₁,z,hle,hq,hJ₁,hz⟩ |⟨C1,t,g,vs',hle1,C3,st₁,m₁,z,hle,hq,hJ₁,hz⟩)
 ·obtain⟨ms,e1,e2,_⟩:=hle.marks
  have hmk:C'.marks=[]:=by rw[e1,e2 (by rfl)];rfl
  have hdf:a'.defers=[]:=by rw[hJ₁.ext.defers,hmk,hle.dfr];rfl
  have main:(∃ st',Gh st₁ st' /\ ∃ x,zeF P st' fn.results.toList=some x /\ Out.ret r=.ret x /\ ∀ p ∈ post,st'.hp p.1=some p.2)->LeavesInM Fence.wide 0 P fn a'.tmps (fun e w'=>∃ m',EndR w' m' bad0 (.ret r) e /\ Post w m bad0 w' m' post) a'.defers .returning w':=by
   rintro⟨st',hgh,x,hx,hxe,hpost⟩
   obtain⟨m',hJ'⟩:=hgh _ _ _ _ hJ₁
   cases hxe
   rw[hdf]
   exact fin hle.fore.symm hle.wi (fun b hb=>hle.bad b hb) hle.size hle.os hle.tape hle.output (fun b hb ho=>hle.perm b ⟨⟨hb,ho⟩,id⟩) hJ' hx hpost
  cases z with
  |normal=>have e0:e=.normal:=hz;subst e0;exact main hq
  |ret=>have e0:e=.ret:=hz;subst e0;exact main hq
  |pan x=>obtain⟨_,hq,_⟩:=hq;cases hq
  |exit i=>exact hq.elim
  |goto i=>exact hq.elim
 ·obtain⟨ms1,e11,e12,_⟩:=hle1.marks
  have hmk1:C1.marks=[]:=by rw[e11,e12 (by rfl)];rfl
  obtain⟨ms,e1,e2,_⟩:=hle.marks
  have hmk:C3.marks=[]:=by rw[e1,e2 (by simp[Cx.deferred])];exact hmk1
  have hdf:a'.defers=[{ target:=.fn (.func g) vs',args:=#[] }]:=by rw[hJ₁.ext.defers,hmk,hle.dfr];rfl
  have main:∀(ca:Option Value),(∃ st',Gh st₁ st' /\ zp9 P ca t st' fun s=>∃ s',Gh s s' /\ zeF P s' fn.results.toList=some r /\ ∀ p ∈ post,s'.hp p.1=some p.2)->LeavesInM Fence.wide 0 P fn a'.tmps (fun e w'=>∃ m',EndR w' m' bad0 (.ret r) e /\ Post w m bad0 w' m' post) a'.defers (zhx ca) w':=by
   rintro ca ⟨st',hgh,hcd⟩
   obtain⟨m',hJ'⟩:=hgh _ _ _ _ hJ₁
   rw[hdf]
   refine zmN hJ' hle.pin hcd fun st'' w'' m'' hk hJ''=>?_
   obtain⟨s',hg',hx,hpost⟩:=hk
   obtain⟨m3,hJ3⟩:=hg' _ _ _ _ hJ''
   exact fin (hle.fore.trans hle1.fore).symm (hle.wi.trans hle1.wi) (fun b hb=>hle.bad b (hle1.bad b hb)) (Nat.le_trans hle1.size hle.size) (hle.os.trans hle1.os) (hle.tape.trans hle1.tape) (hle.output.trans hle1.output)
    (fun b hb ho=>have p1:=hle1.perm b ⟨⟨hb,ho⟩,id⟩;have p3:=hle.perm b p1.1;⟨p3.1,p3.2.trans p1.2⟩) hJ3 hx hpost
  cases z with
  |normal=>have e0:e=.normal:=hz;subst e0;exact main none hq
  |ret=>have e0:e=.ret:=hz;subst e0;exact main none hq
  |pan x=>
   obtain⟨v,rfl,hv⟩:=hz
   obtain⟨u,rfl,hq⟩:=hq
   cases zck hv
   exact main (some v) hq
  |exit i=>exact hq.elim
  |goto i=>exact hq.elim
end Go.Hw
end
section
namespace Go.Hw
variable [Globals]
@[reducible] def panO {ε ρ : Type} (f : ε -> Value) (g : ρ -> AV) : ε ⊕ ρ -> Out
 |.inl e=>.pan (.cell (.p (.c (f e))))
 |.inr r=>.ret (g r)
@[reducible] def panP {ε ρ : Type} (g : ρ -> List (Id × Blk)) : ε ⊕ ρ -> List (Id × Blk)
 |.inl _=>[]
 |.inr r=>g r
@[simp] theorem zya{ε ρ:Type}(g:ρ->List (Id × Blk))(r:ρ):panP (ε:=ε) g (.inr r)=g r:=rfl
@[simp] theorem zyb{ε ρ:Type}(f:ε->Value)(g:ρ->AV)(r:ρ):panO f g (.inr r)=.ret (g r):=rfl
theorem zan{P:Program}{rs:List ResultVar}{u:Value}{st:St}:zee P rs (.pan (.cell (.p (.c u)))) [] (.pan (.cell (.p (.c u)))) st:=⟨⟨u,rfl⟩,rfl,fun p h=>by cases h⟩
section
variable {P:Program} {g i:Nat} {env:Nat->AV} {hp:Id->Option Blk} {K E:AV->List (Id × Option Blk)->Prop}
@[simp] theorem zA1{x s t ok}:fopB (.typeAssert x s t ok)=true:=by unfold fopB;rfl
@[simp] theorem zA3{x t}:fopB (.makeInterface t x)=true:=by unfold fopB;rfl
@[simp] theorem zA2{x}:fopB (.panic x)=true:=by unfold fopB;rfl
attribute [simp] zix zkP zcu zpt
@[simp] theorem zww{x:Operand}:fop P g i (.panic x) env hp K E=(match evAV env x with|.cell (.p (.c (.iface t u)))=>E (.cell (.p (.c (.iface t u)))) []|_=>False):=propext Iff.rfl
@[simp] theorem zoe{t:TypeId}{x:Operand}:fop P g i (.makeInterface t x) env hp K E=optF (zkP P t (evAV env x)) K:=propext Iff.rfl
@[simp] theorem zqp{x:Operand}{s t:TypeId}{ok:Bool}:fop P g i (.typeAssert x s t ok) env hp K E=optF (zix P t ok (evAV env x)) K:=propext Iff.rfl
theorem cX{A:Prop}{n:Nat}{xs as_:List AV}{pre:List Blk}{u:Value}{post:List (Id × Blk)}(F:A)(hAt:CAt P n as_ pre (.pan (.cell (.p (.c u)))) post)(fp:List Id)(hK:∀ v,E (.cell (.p (.c u))) v)
  (has:A->xs.map (·.toC fp hp)=as_:=by intro F;(first|simp[F]|simp (disch:=omega) [F]);try rfl) (hpre:A->fp.map (fun b=>(hp b).map (Blk.mp (AC.toF fp)))=pre.map some:=by intro F;simp[F]) (hnd:fp.Nodup:=by simp):zc6 P g i n xs hp K E:=
 zlE hAt fp (has F) (hpre F) hnd rfl rfl (hK _)
theorem cXd{A:Prop}{n:Nat}{xs as_:List AV}{pre:List Blk}{w:Value}{post:List (Id × Blk)}{u:A->List (Id × Option Blk)}(F:A)(hAt:CAt P n as_ pre (.pan (.cell (.p (.c w)))) post)(fp:List Id)(hK:E (.cell (.p (.c w))) (u F))
  (has:A->xs.map (·.toC fp hp)=as_:=by intro F;(first|simp[F]|simp (disch:=omega) [F]);try rfl) (hpre:A->fp.map (fun b=>(hp b).map (Blk.mp (AC.toF fp)))=pre.map some:=by intro F;simp[F]) (hnd:fp.Nodup:=by simp)
  (hu:∀ F:A,zdw fp (xs.flatMap (·.bor fp hp)) g i (.pan (.cell (.p (.c w)))) post=u F:=by intro F;simp[F];rfl):zc6 P g i n xs hp K E:=
 zlE hAt fp (has F) (hpre F) hnd rfl (hu F) hK
end
theorem goP{A G:Prop}(F:A)(h:A->G:=by
 intro F
 repeat (first|simp[F]|with_reducible first|refine zq0 (by decide +kernel) ?_|refine zqZ ?_|refine zk4 (by decide +kernel) ?_|refine zk5 (by decide +kernel) ?_|refine zk7 (by decide +kernel) ?_|refine zk6 (by decide +kernel) ?_|refine zhv (by decide +kernel) ?_|refine zhu (by decide +kernel) ?_|refine And.intro (by omega) ?_|refine zbe (by omega) ?_)):G:=h F
section logs
variable {P:Program} {ops:Array Oper} {i j:Nat} {op op':Op} {env env':Nat->AV} {hp hp':Id->Option Blk} {v v':AV} {u u':List (Id × Option Blk)} {x x':Id × Option Blk} {r:List Lg} {e:Lg}
@[simp] theorem zBf:cfs1 ops i (lgP op env u) j (lgOf P op' env' hp' v' []::r)=cfs1 ops i (lgP op env u) (j+1) r:=by
 simp[cfs1,cf,lgOf,lgP,lgU,noK,stbL]
@[simp] theorem zBd:cfs1 ops i (lgOf P op env hp v []) j (lgP op' env' u'::r)=cfs1 ops i (lgOf P op env hp v []) (j+1) r:=by
 simp[cfs1,cf,lgOf,lgP,lgU,noK,stbL]
@[simp] theorem zBg:cfs1 ops i (lgP op env u) j (lgOf P op' env' hp' v' (x'::u')::r)=((ordB ops i j=true \/ stbL (tch op env++u.map Prod.fst) (fun _ _=>False) (lgU hp' (x'::u') (x'::u'))) /\ cfs1 ops i (lgP op env u) (j+1) r):=by
 simp[cfs1,cf,lgOf,lgP,lgU,noK,stbL]
theorem zv9:∀ l:List (Id × Option Blk × Option Blk),noK l []=true:=fun l=>by
 induction l with
 |nil=>rfl
 |cons y l ih=>simp[noK,noK.go,inI,ih]
@[simp] theorem zBi:cfs1 ops i (lgOf P op env hp v (x::u)) j (lgP op' env' u'::r)=((ordB ops i j=true \/ stbL (tch op' env'++u'.map Prod.fst) (fun _ _=>False) (lgU hp (x::u) (x::u))) /\ cfs1 ops i (lgOf P op env hp v (x::u)) (j+1) r):=by
 simp only[cfs1,cf,lgOf,lgP,zv9,stbL,true_and]
@[simp] theorem zCp:cfs1 ops i e j (lg0::r)=cfs1 ops i e (j+1) r:=by
 simp only[cfs1,cf,lg0,zv9,stbL,zmY,true_and,and_true,or_true]
@[simp] theorem zw2:∀ {l:List Lg} {j:Nat},cfs1 ops i lg0 j l=True
 |[],j=>rfl
 |f::r,j=>by
  simp only[cfs1,cf,lg0,noK,stbL,zmY,true_and,and_true,or_true]
  exact zw2
end logs
section
variable {P:Program} {env:Nat->AV} {hp:Id->Option Blk} {out:AV} {b:Id} {v:Option Blk}
@[simp] theorem zui{t:TypeId}{x:Operand}:zdZ P (.load t x) env hp out b v=(zeG P (fun y=>if y=b then v else hp y) t (evAV env x)=some out):=rfl
@[simp] theorem zvH{t:TypeId}{x y:Operand}:zdZ P (.indexAddr t x y) env hp out b v=(v.isSome=true /\ (hp b).isSome=true):=rfl
@[simp] theorem zsN{t:TypeId}{x:Operand}{l h m:Option Operand}:zdZ P (.slice t x l h m) env hp out b v=(v.isSome=true /\ (hp b).isSome=true):=rfl
@[simp] theorem zvG{args:Array Operand}{ts:Array TypeId}:zdZ P (.call { callee:=.builtin .len,args:=args,argTypes:=ts }) env hp out b v=(v.isSome=true /\ (hp b).isSome=true):=rfl
@[simp] theorem zsM{t:TypeId}{x y:Operand}:zdZ P (.store t x y) env hp out b v=False:=rfl
@[simp] theorem zvJ{args:Array Operand}{ts:Array TypeId}:zdZ P (.call { callee:=.builtin .append,args:=args,argTypes:=ts }) env hp out b v=False:=rfl
@[simp] theorem zuj{x:Operand}{args:Array Operand}{ts:Array TypeId}:zdZ P (.call { callee:=.value x,args:=args,argTypes:=ts }) env hp out b v=False:=rfl
end
def AC.fo:AC->Bool
 |.p _=>true
 |.ref b _=>isF b
 |.sl b _ _ _=>isF b
 |.mp b=>isF b
 |.ep _ _=>true
 |.own _=>true
 |.bad=>true
 |_=>false
section
variable {x:AC} {a b:Id}
theorem F_ne{a b:Id}(ha:isF a=true)(hb:isF b=false):a ≠ b:=fun e=>by subst e;rw[ha]at hb;cases hb
theorem zvN(h:x.fo=true)(ha:isF a=false)(hb:isF b=false):x.ren a b=x:=by
 have key:∀ c:Id,isF c=true->idR a b c=some c:=fun c hc=>by
  unfold idR;rw[if_neg (F_ne hc ha),if_neg (F_ne hc hb)]
 cases x with
 |ref c off=>simp only[AC.ren,key c h]
 |sl c off sz n=>simp only[AC.ren,key c h]
 |mp c=>simp only[AC.ren,key c h]
 |fn _ _=>cases h
 |z=>cases h
 |yl l=>cases h
 |_=>rfl
theorem zvB(h:x.fo=true):x.unz=x:=by
 cases x with
 |z=>cases h
 |_=>simp[AC.unz]
theorem zwr{cs:List CV}(h:x.fo=true)(hb:isF b=false):x.frz b cs=x:=by
 cases x with
 |ref c off=>simp only[AC.frz];rw[if_neg (F_ne h hb)]
 |sl c off sz n=>simp only[AC.frz];rw[if_neg (F_ne h hb)]
 |mp c=>simp only[AC.frz];rw[if_neg (F_ne h hb)]
 |fn _ _=>cases h
 |z=>cases h
 |yl l=>cases h
 |_=>rfl
theorem zwh(h:x.fo=true)(hb:isF b=false):x.kil b=x:=by
 cases x with
 |ref c off=>simp only[AC.kil];rw[if_neg (F_ne h hb)]
 |sl c off sz n=>simp only[AC.kil];rw[if_neg (F_ne h hb)]
 |mp c=>simp only[AC.kil];rw[if_neg (F_ne h hb)]
 |fn _ _=>cases h
 |z=>cases h
 |yl l=>cases h
 |_=>rfl
theorem ix_F{fp:List Id}(hf:∀ b ∈ fp,isF b=false){c:Id}(hc:isF c=true):ix fp c 0=none:=by
 cases h:ix fp c 0 with
 |none=>rfl
 |some k=>
  obtain⟨_,h2⟩:=ziL h
  have:=hf c (List.mem_of_getElem? h2)
  rw[hc]at this;cases this
theorem zvD{fp:List Id}(h:x.fo=true)(hf:∀ b ∈ fp,isF b=false):(x.toF fp).fo=true:=by
 have key:∀ {c:Id},isF c=true->isF (idC fp c)=true:=fun {c} hc=>by unfold idC;rw[ix_F hf hc];rfl
 cases x with
 |ref c off=>exact key h
 |sl c off sz n=>exact key h
 |mp c=>exact key h
 |fn _ _=>cases h
 |z=>cases h
 |yl l=>cases h
 |_=>rfl
theorem ztq{fp bors:List Id}{post:List (Id × Blk)}{g i:Nat}(hf:∀ b ∈ fp,isF b=false)(hb:∀ b ∈ bors,isF b=false){c:Id}(hc:isF c=true):idB fp bors post g i (idC fp c)=some c:=by
 have h1:fp.contains c=false:=by rw[<- Bool.not_eq_true,List.contains_iff_mem];intro h;have:=hf c h;rw[hc]at this;cases this
 have h2:bors.contains c=false:=by rw[<- Bool.not_eq_true,List.contains_iff_mem];intro h;have:=hb c h;rw[hc]at this;cases this
 unfold idC
 rw[ix_F hf hc]
 simp only[idB,h1,h2,Bool.or_self,Bool.false_eq_true,if_false]
theorem ztU{fp bors:List Id}{post:List (Id × Blk)}{g i:Nat}(h:x.fo=true)(hf:∀ b ∈ fp,isF b=false)(hb:∀ b ∈ bors,isF b=false):(x.toF fp).back fp bors post g i=x:=by
 cases x with
 |ref c off=>simp only[AC.toF,AC.back,ztq hf hb h]
 |sl c off sz n=>simp only[AC.toF,AC.back,ztq hf hb h]
 |mp c=>simp only[AC.toF,AC.back,ztq hf hb h]
 |fn _ _=>cases h
 |z=>cases h
 |yl l=>cases h
 |_=>rfl
end
structure FC where
 ac:AC
 ok:ac.fo=true
def noF:List Id->Bool
 |[]=>true
 |b::l=>!isF b && noF l
@[simp] theorem zAQ:noF []=true:=eq_of_heq HEq.rfl
@[simp] theorem zyk(b:Id)(l:List Id):noF (b::l)=(!isF b && noF l):=eq_of_heq HEq.rfl
theorem zr2:∀ {fp:List Id} (h:noF fp=true),∀ b ∈ fp,isF b=false
 |c::l,h,b,hb=>by
  simp only[noF,Bool.and_eq_true,Bool.not_eq_true']at h
  rcases List.mem_cons.1 hb with rfl|hb
  ·exact h.1
  ·exact zr2 h.2 b hb
def FC.toF(c:FC)(fp:List Id):FC:=if h:noF fp=true then⟨c.ac.toF fp,zvD c.ok (zr2 h)⟩ else⟨.bad,rfl⟩
section
variable (c:FC)
@[simp high] theorem FC.toF_n {fp : List Id} (h : noF fp = true) : c.ac.toF fp = (c.toF fp).ac := by unfold FC.toF; rw [dif_pos h]
@[simp high] theorem FC.mk_ac (x : AC) (h : x.fo = true) : (FC.mk x h).ac = x := rfl
@[simp high] theorem FC.ren {a b : Id} (h : (isF a || isF b) = false) : c.ac.ren a b = c.ac := by
 simp only[Bool.or_eq_false_iff]at h;exact zvN c.ok h.1 h.2
@[simp high] theorem FC.kil {b : Id} (hb : isF b = false) : c.ac.kil b = c.ac := zwh c.ok hb
@[simp high] theorem FC.frz {b : Id} {cs : List CV} (hb : isF b = false) : c.ac.frz b cs = c.ac := zwr c.ok hb
@[simp high] theorem FC.unz : c.ac.unz = c.ac := zvB c.ok
@[simp high] theorem FC.back {fp bors : List Id} {post : List (Id × Blk)} {g i : Nat} (h : (noF fp && noF bors) = true) : (c.toF fp).ac.back fp bors post g i = c.ac := by
 simp only[Bool.and_eq_true]at h;rw[<- FC.toF_n c h.1];exact ztU c.ok (zr2 h.1) (zr2 h.2)
@[simp high] theorem FC.okk : c.ac.fo = true := c.ok
end
section
variable {α:Type} [Enc α] [OEnc α]
theorem zdD{l:List α}{j:Nat}{x:α}(hx:l[j]?=some x){c:AC}(h:(OEnc.oenc x)[0]?=some c)(hz:Enc.sz α=1:=by rfl):(zah l)[j]?=some c:=by
 have:=zdQ hx (f:=0) h
 rwa [hz,Nat.mul_one,Nat.add_zero]at this
theorem zcb(l:List α)(h:Enc.sz α=1):(zah l).take l.length=zah l:=List.take_of_length_le (by rw[zbB,h];omega)
theorem zg5{l:List α}{j:Nat}{x:α}(hx:l[j]?=some x){c:AC}(h:(OEnc.oenc x)[0]?=some c)(hz:Enc.sz α=1:=by rfl):((zah l).drop j).take 1=[c]:=zft (zdD hx h hz)
theorem zeq{l:List α}{j:Nat}{x y:α}(hx:l[j]?=some x){c:AC}(h:(OEnc.oenc x).set 0 c=OEnc.oenc y)(hz:Enc.sz α=1:=by rfl):(zah l).set j c=zah (l.set j y):=by
 have:=zdP (y:=y) hx (f:=0) (c:=c) (by rw[hz];exact Nat.one_pos) h
 rwa [hz,Nat.mul_one,Nat.add_zero]at this
end
attribute [simp] AC.fo
@[simp] theorem zDd(x:Id):isF (.f x)=true:=eq_of_heq HEq.rfl
@[simp] theorem zDb(g i k:Nat):isF (.o g i k)=false:=eq_of_heq HEq.rfl
@[simp] theorem zDc(k:Nat):isF (.l k)=false:=eq_of_heq HEq.rfl
@[simp] theorem zDe(k:Nat):isF (.a k)=false:=eq_of_heq HEq.rfl
@[simp] theorem zDa(k:Nat):isF (.r k)=false:=eq_of_heq HEq.rfl
instance {α:Type} [Enc α]:TEnc (List α):=⟨fun l=>[.sp (Enc.sz α) l.length (encL l)],fun _=>rfl,fun _=>rfl⟩
@[simp] theorem zAK{α:Type}[Enc α](l:List α):TEnc.ot l=[OT.sp (Enc.sz α) l.length (encL l)]:=rfl
@[simp] theorem zv0{α:Type}[Enc α](l:List α):OEnc.oenc l=[AC.own (.sp (Enc.sz α) l.length (encL l))]:=rfl
@[simp] theorem zBE(n:Nat):(n+1+1=n)=False:=eq_false (by omega)
@[simp] theorem zBO(n:Nat):(n=n+1+1)=False:=eq_false (by omega)
@[simp] theorem zBD(n:Nat):(n+1+1+1=n)=False:=eq_false (by omega)
@[simp] theorem zBN(n:Nat):(n=n+1+1+1)=False:=eq_false (by omega)
@[simp] theorem zBC(n:Nat):(n+1+1+1+1=n)=False:=eq_false (by omega)
@[simp] theorem zBM(n:Nat):(n=n+1+1+1+1)=False:=eq_false (by omega)
@[simp] theorem zBB(n:Nat):(n+1+1+1+1+1=n)=False:=eq_false (by omega)
@[simp] theorem zBL(n:Nat):(n=n+1+1+1+1+1)=False:=eq_false (by omega)
@[simp] theorem zBA(n:Nat):(n+1+1+1+1+1+1=n)=False:=eq_false (by omega)
@[simp] theorem zBK(n:Nat):(n=n+1+1+1+1+1+1)=False:=eq_false (by omega)
@[simp] theorem zBz(n:Nat):(n+1+1+1+1+1+1+1=n)=False:=eq_false (by omega)
@[simp] theorem zBJ(n:Nat):(n=n+1+1+1+1+1+1+1)=False:=eq_false (by omega)
@[simp] theorem zBy(n:Nat):(n+1+1+1+1+1+1+1+1=n)=False:=eq_false (by omega)
@[simp] theorem zBI(n:Nat):(n=n+1+1+1+1+1+1+1+1)=False:=eq_false (by omega)
@[simp] theorem zBx(n:Nat):(n+1+1+1+1+1+1+1+1+1=n)=False:=eq_false (by omega)
@[simp] theorem zBH(n:Nat):(n=n+1+1+1+1+1+1+1+1+1)=False:=eq_false (by omega)
@[simp] theorem zzO(n:Nat):(n+1+1+1+1+1+1+1+1+1+1=n)=False:=eq_false (by omega)
@[simp] theorem zAj(n:Nat):(n=n+1+1+1+1+1+1+1+1+1+1)=False:=eq_false (by omega)
@[simp] theorem zzN(n:Nat):(n+1+1+1+1+1+1+1+1+1+1+1=n)=False:=eq_false (by omega)
@[simp] theorem zAi(n:Nat):(n=n+1+1+1+1+1+1+1+1+1+1+1)=False:=eq_false (by omega)
@[simp] theorem zzM(n:Nat):(n+1+1+1+1+1+1+1+1+1+1+1+1=n)=False:=eq_false (by omega)
@[simp] theorem zAh(n:Nat):(n=n+1+1+1+1+1+1+1+1+1+1+1+1)=False:=eq_false (by omega)
@[simp] theorem zzL(n:Nat):(n+1+1+1+1+1+1+1+1+1+1+1+1+1=n)=False:=eq_false (by omega)
@[simp] theorem zAg(n:Nat):(n=n+1+1+1+1+1+1+1+1+1+1+1+1+1)=False:=eq_false (by omega)
@[simp] theorem zzK(n:Nat):(n+1+1+1+1+1+1+1+1+1+1+1+1+1+1=n)=False:=eq_false (by omega)
@[simp] theorem zAf(n:Nat):(n=n+1+1+1+1+1+1+1+1+1+1+1+1+1+1)=False:=eq_false (by omega)
@[simp] theorem zzJ(n:Nat):(n+1+1+1+1+1+1+1+1+1+1+1+1+1+1+1=n)=False:=eq_false (by omega)
@[simp] theorem zAe(n:Nat):(n=n+1+1+1+1+1+1+1+1+1+1+1+1+1+1+1)=False:=eq_false (by omega)
@[simp] theorem zzI(n:Nat):(n+1+1+1+1+1+1+1+1+1+1+1+1+1+1+1+1=n)=False:=eq_false (by omega)
@[simp] theorem zAd(n:Nat):(n=n+1+1+1+1+1+1+1+1+1+1+1+1+1+1+1+1)=False:=eq_false (by omega)
@[simp] theorem zzH(n:Nat):(n+1+1+1+1+1+1+1+1+1+1+1+1+1+1+1+1+1=n)=False:=eq_false (by omega)
@[simp] theorem zAc(n:Nat):(n=n+1+1+1+1+1+1+1+1+1+1+1+1+1+1+1+1+1)=False:=eq_false (by omega)
@[simp] theorem zzG(n:Nat):(n+1+1+1+1+1+1+1+1+1+1+1+1+1+1+1+1+1+1=n)=False:=eq_false (by omega)
@[simp] theorem zAb(n:Nat):(n=n+1+1+1+1+1+1+1+1+1+1+1+1+1+1+1+1+1+1)=False:=eq_false (by omega)
@[simp] theorem zzF(n:Nat):(n+1+1+1+1+1+1+1+1+1+1+1+1+1+1+1+1+1+1+1=n)=False:=eq_false (by omega)
@[simp] theorem zAa(n:Nat):(n=n+1+1+1+1+1+1+1+1+1+1+1+1+1+1+1+1+1+1+1)=False:=eq_false (by omega)
@[simp] theorem zzE(n:Nat):(n+1+1+1+1+1+1+1+1+1+1+1+1+1+1+1+1+1+1+1+1=n)=False:=eq_false (by omega)
@[simp] theorem zz9(n:Nat):(n=n+1+1+1+1+1+1+1+1+1+1+1+1+1+1+1+1+1+1+1+1)=False:=eq_false (by omega)
@[simp] theorem zzD(n:Nat):(n+1+1+1+1+1+1+1+1+1+1+1+1+1+1+1+1+1+1+1+1+1=n)=False:=eq_false (by omega)
@[simp] theorem zz8(n:Nat):(n=n+1+1+1+1+1+1+1+1+1+1+1+1+1+1+1+1+1+1+1+1+1)=False:=eq_false (by omega)
@[simp] theorem zzC(n:Nat):(n+1+1+1+1+1+1+1+1+1+1+1+1+1+1+1+1+1+1+1+1+1+1=n)=False:=eq_false (by omega)
@[simp] theorem zz7(n:Nat):(n=n+1+1+1+1+1+1+1+1+1+1+1+1+1+1+1+1+1+1+1+1+1+1)=False:=eq_false (by omega)
@[simp] theorem zzB(n:Nat):(n+1+1+1+1+1+1+1+1+1+1+1+1+1+1+1+1+1+1+1+1+1+1+1=n)=False:=eq_false (by omega)
@[simp] theorem zz6(n:Nat):(n=n+1+1+1+1+1+1+1+1+1+1+1+1+1+1+1+1+1+1+1+1+1+1+1)=False:=eq_false (by omega)
@[simp] theorem zzA(n:Nat):(n+1+1+1+1+1+1+1+1+1+1+1+1+1+1+1+1+1+1+1+1+1+1+1+1=n)=False:=eq_false (by omega)
@[simp] theorem zz5(n:Nat):(n=n+1+1+1+1+1+1+1+1+1+1+1+1+1+1+1+1+1+1+1+1+1+1+1+1)=False:=eq_false (by omega)
@[simp] theorem zzz(n:Nat):(n+1+1+1+1+1+1+1+1+1+1+1+1+1+1+1+1+1+1+1+1+1+1+1+1+1=n)=False:=eq_false (by omega)
@[simp] theorem zz4(n:Nat):(n=n+1+1+1+1+1+1+1+1+1+1+1+1+1+1+1+1+1+1+1+1+1+1+1+1+1)=False:=eq_false (by omega)
@[simp] theorem zzy(n:Nat):(n+1+1+1+1+1+1+1+1+1+1+1+1+1+1+1+1+1+1+1+1+1+1+1+1+1+1=n)=False:=eq_false (by omega)
@[simp] theorem zz3(n:Nat):(n=n+1+1+1+1+1+1+1+1+1+1+1+1+1+1+1+1+1+1+1+1+1+1+1+1+1+1)=False:=eq_false (by omega)
@[simp] theorem zzx(n:Nat):(n+1+1+1+1+1+1+1+1+1+1+1+1+1+1+1+1+1+1+1+1+1+1+1+1+1+1+1=n)=False:=eq_false (by omega)
@[simp] theorem zz2(n:Nat):(n=n+1+1+1+1+1+1+1+1+1+1+1+1+1+1+1+1+1+1+1+1+1+1+1+1+1+1+1)=False:=eq_false (by omega)
@[simp] theorem zzw(n:Nat):(n+1+1+1+1+1+1+1+1+1+1+1+1+1+1+1+1+1+1+1+1+1+1+1+1+1+1+1+1=n)=False:=eq_false (by omega)
@[simp] theorem zz1(n:Nat):(n=n+1+1+1+1+1+1+1+1+1+1+1+1+1+1+1+1+1+1+1+1+1+1+1+1+1+1+1+1)=False:=eq_false (by omega)
@[simp] theorem zzv(n:Nat):(n+1+1+1+1+1+1+1+1+1+1+1+1+1+1+1+1+1+1+1+1+1+1+1+1+1+1+1+1+1=n)=False:=eq_false (by omega)
@[simp] theorem zz0(n:Nat):(n=n+1+1+1+1+1+1+1+1+1+1+1+1+1+1+1+1+1+1+1+1+1+1+1+1+1+1+1+1+1)=False:=eq_false (by omega)
@[simp] theorem zzu(n:Nat):(n+1+1+1+1+1+1+1+1+1+1+1+1+1+1+1+1+1+1+1+1+1+1+1+1+1+1+1+1+1+1=n)=False:=eq_false (by omega)
@[simp] theorem zzZ(n:Nat):(n=n+1+1+1+1+1+1+1+1+1+1+1+1+1+1+1+1+1+1+1+1+1+1+1+1+1+1+1+1+1+1)=False:=eq_false (by omega)
@[simp] theorem zzt(n:Nat):(n+1+1+1+1+1+1+1+1+1+1+1+1+1+1+1+1+1+1+1+1+1+1+1+1+1+1+1+1+1+1+1=n)=False:=eq_false (by omega)
@[simp] theorem zzY(n:Nat):(n=n+1+1+1+1+1+1+1+1+1+1+1+1+1+1+1+1+1+1+1+1+1+1+1+1+1+1+1+1+1+1+1)=False:=eq_false (by omega)
@[simp] theorem zzs(n:Nat):(n+1+1+1+1+1+1+1+1+1+1+1+1+1+1+1+1+1+1+1+1+1+1+1+1+1+1+1+1+1+1+1+1=n)=False:=eq_false (by omega)
@[simp] theorem zzX(n:Nat):(n=n+1+1+1+1+1+1+1+1+1+1+1+1+1+1+1+1+1+1+1+1+1+1+1+1+1+1+1+1+1+1+1+1)=False:=eq_false (by omega)
@[simp] theorem zzr(n:Nat):(n+1+1+1+1+1+1+1+1+1+1+1+1+1+1+1+1+1+1+1+1+1+1+1+1+1+1+1+1+1+1+1+1+1=n)=False:=eq_false (by omega)
@[simp] theorem zzW(n:Nat):(n=n+1+1+1+1+1+1+1+1+1+1+1+1+1+1+1+1+1+1+1+1+1+1+1+1+1+1+1+1+1+1+1+1+1)=False:=eq_false (by omega)
@[simp] theorem zzq(n:Nat):(n+1+1+1+1+1+1+1+1+1+1+1+1+1+1+1+1+1+1+1+1+1+1+1+1+1+1+1+1+1+1+1+1+1+1=n)=False:=eq_false (by omega)
@[simp] theorem zzV(n:Nat):(n=n+1+1+1+1+1+1+1+1+1+1+1+1+1+1+1+1+1+1+1+1+1+1+1+1+1+1+1+1+1+1+1+1+1+1)=False:=eq_false (by omega)
@[simp] theorem zzp(n:Nat):(n+1+1+1+1+1+1+1+1+1+1+1+1+1+1+1+1+1+1+1+1+1+1+1+1+1+1+1+1+1+1+1+1+1+1+1=n)=False:=eq_false (by omega)
@[simp] theorem zzU(n:Nat):(n=n+1+1+1+1+1+1+1+1+1+1+1+1+1+1+1+1+1+1+1+1+1+1+1+1+1+1+1+1+1+1+1+1+1+1+1)=False:=eq_false (by omega)
@[simp] theorem zzo(n:Nat):(n+1+1+1+1+1+1+1+1+1+1+1+1+1+1+1+1+1+1+1+1+1+1+1+1+1+1+1+1+1+1+1+1+1+1+1+1=n)=False:=eq_false (by omega)
@[simp] theorem zzT(n:Nat):(n=n+1+1+1+1+1+1+1+1+1+1+1+1+1+1+1+1+1+1+1+1+1+1+1+1+1+1+1+1+1+1+1+1+1+1+1+1)=False:=eq_false (by omega)
@[simp] theorem zzn(n:Nat):(n+1+1+1+1+1+1+1+1+1+1+1+1+1+1+1+1+1+1+1+1+1+1+1+1+1+1+1+1+1+1+1+1+1+1+1+1+1=n)=False:=eq_false (by omega)
@[simp] theorem zzS(n:Nat):(n=n+1+1+1+1+1+1+1+1+1+1+1+1+1+1+1+1+1+1+1+1+1+1+1+1+1+1+1+1+1+1+1+1+1+1+1+1+1)=False:=eq_false (by omega)
@[simp] theorem zzm(n:Nat):(n+1+1+1+1+1+1+1+1+1+1+1+1+1+1+1+1+1+1+1+1+1+1+1+1+1+1+1+1+1+1+1+1+1+1+1+1+1+1=n)=False:=eq_false (by omega)
@[simp] theorem zzR(n:Nat):(n=n+1+1+1+1+1+1+1+1+1+1+1+1+1+1+1+1+1+1+1+1+1+1+1+1+1+1+1+1+1+1+1+1+1+1+1+1+1+1)=False:=eq_false (by omega)
@[simp] theorem zzl(n:Nat):(n+1+1+1+1+1+1+1+1+1+1+1+1+1+1+1+1+1+1+1+1+1+1+1+1+1+1+1+1+1+1+1+1+1+1+1+1+1+1+1=n)=False:=eq_false (by omega)
@[simp] theorem zzQ(n:Nat):(n=n+1+1+1+1+1+1+1+1+1+1+1+1+1+1+1+1+1+1+1+1+1+1+1+1+1+1+1+1+1+1+1+1+1+1+1+1+1+1+1)=False:=eq_false (by omega)
@[simp] theorem zzk(n:Nat):(n+1+1+1+1+1+1+1+1+1+1+1+1+1+1+1+1+1+1+1+1+1+1+1+1+1+1+1+1+1+1+1+1+1+1+1+1+1+1+1+1=n)=False:=eq_false (by omega)
@[simp] theorem zzP(n:Nat):(n=n+1+1+1+1+1+1+1+1+1+1+1+1+1+1+1+1+1+1+1+1+1+1+1+1+1+1+1+1+1+1+1+1+1+1+1+1+1+1+1+1)=False:=eq_false (by omega)
theorem zp8{P:Program}{n:Nat}{us:List Value}{r:Value}(hn:zpT P n)(h:∀ w,Calls P n us.toArray w fun e w'=>e=.returned r /\ w'=w):At P n (us.map fun u=>.cell (.p (.c u))) (.cell (.p (.c r))):=by
 refine⟨hn,fun w vs bad0 m hP hlen hrep hglob=>?_⟩
 have e:vs=us.toArray:=by
  apply Array.ext
  ·simpa using hlen
  ·intro i h1 h2
   have h3:i < us.length:=by simpa using h2
   have:=hrep i vs[i] (.cell (.p (.c us[i]))) (Array.getElem?_eq_getElem h1) (by rw[List.getElem?_map,List.getElem?_eq_getElem h3];rfl)
   have:=zck this
   rw[this];simp
 rw[e]
 refine(h w).mono ?_
 rintro e w' ⟨rfl,rfl⟩
 have hown:∀ q,¬ Own ⟨fun i=>if isF i then m.ρ i else .dead,fun _ _=>[]⟩ q:=by
  rintro q (⟨i,base,h1,h2⟩ |⟨i,j,h1⟩)
  ·simp only[h1]at h2;cases h2
  ·cases h1
 refine⟨⟨fun i=>if isF i then m.ρ i else .dead,fun _ _=>[]⟩,⟨_,rfl,.cell _ _ (.c _)⟩,⟨Nat.le_refl _,rfl,rfl,rfl,fun _ _ _=>rfl⟩,⟨fun q hq=>(hown q hq).elim,fun i j g b b' h1 _ h3 _=>?_,fun i g b j k h1 h2=>?_,fun _ _=>List.nodup_nil,fun _ _ _ _ _ h=>(by cases h)⟩,fun q hq=>(hown q hq).elim,fun i b h=>(by cases h),fun x=>rfl,fun k=>.inl rfl,fun k q base n h=>(by cases h),fun i hF _=>⟨by simp[hF],fun _=>rfl⟩⟩
 ·exact(hown g (.inl ⟨i,b,h1,h3⟩)).elim
 ·exact(hown g (.inl ⟨i,b,h1,h2⟩)).elim
end Go.Hw
end
section
namespace Go.Hw
variable [Globals]
def xD (P:Program)(N:Nat)(QD:Nat->AX->St->Prop)(b:Code)(Q:AX->St->Prop):AX->St->Prop
 |.normal,s=>awpD P N QD b Q s
 |x,s=>Q x s
section
variable {P:Program} {N:Nat} {QD:Nat->AX->St->Prop} {b:Code} {Q:AX->St->Prop} {st st':St} {e:AX}
@[congr] theorem zxM {zz : Nat} (hz : (0 + 0 : Nat) = zz) (h : st = st') : xD P N QD b Q e st = xD P N QD b Q e st' := by rw [h]
@[congr] theorem zu8 {zz : Nat} (hz : (0 + 0 : Nat) = zz) (h : st = st') : awpD P N QD b Q st = awpD P N QD b Q st' := by rw [h]
@[simp] theorem zvw:xD P N QD b Q .normal st=awpD P N QD b Q st:=propext Iff.rfl
@[simp] theorem zBv:xD P N QD b Q .ret st=Q .ret st:=propext Iff.rfl
@[simp] theorem zzh{k:Nat}:xD P N QD b Q (.exit k) st=Q (.exit k) st:=propext Iff.rfl
@[simp] theorem zBw{x:AV}:xD P N QD b Q (.pan x) st=Q (.pan x) st:=propext Iff.rfl
def zwU:Code->Option Nat
 |.region _ ops false=>ops.toList.getLast?.bind ziT
 |_=>none
theorem zzi:(fun x s=>match x with|.normal=>awpD P N QD b Q s|x=>Q x s)=xD P N QD b Q:=by
 funext x s;cases x<;>rfl
theorem zdV{a:Code}(hd:zwU a=none)(hc:za6 N (some N) a=true)(k:awp P a (xD P N QD b Q) st):awpD P N QD (.seq a b) Q st:=by
 rw[<- zzi]at k
 unfold awpD
 split
 ·rename_i ha
  cases ha
  have hd':_=none:=hd
  simp only[zwU]at hd
  rw[hd];exact⟨hc,k⟩
 ·rename_i ha
  cases ha
  exact⟨hc,k⟩
 ·rename_i h1 h2
  exact(h2 _ _ rfl).elim
def kD (P:Program)(b:Code)(QD:Nat->AX->St->Prop)(t:Nat):St->Prop:=fun s=>(∃ g caps,s.env t=.cell (.fn g caps)) /\ awp P b (QD t) s
@[congr] theorem zyv {zz : Nat} (hz : (0 + 0 : Nat) = zz) {t : Nat} (h : st = st') : kD P b QD t st = kD P b QD t st' := by rw [h]
theorem zjT{rid:Nat}{l l':List Oper}{t:Nat}(hd:l.getLast?.bind ziT=some t)(hl:l.dropLast=l')(hc:za6 N (some N) (.region rid l'.toArray false)=true)(hb:za6 N (some t) b=true)
  (k:aops P (st.gen+1) l.toArray 0 l' st.up (kD P b QD t) (panQ Q)):awpD P N QD (.seq (.region rid l.toArray false) b) Q st:=by
 subst hl
 unfold awpD
 simp only[hd]
 exact⟨hc,hb,st,Gh.refl st,k⟩
theorem zno{t g:Nat}{caps:List (Id ⊕ CV)}(h:st.env t=.cell (.fn g caps))(k:∀ Q,(∀ e s,QD t e s->Q e s)->awp P b Q st):kD P b QD t st:=⟨⟨g,caps,h⟩,k _ fun _ _ h=>h⟩
end
theorem znI {P : Program} {f : FuncId} {fn : Func} {c : Code} {args : List AV} {pre : List Blk} {r : AV} {post : List (Id × Blk)} (hm : P.follows .mixedOrders = true) (hf : P.funcs[f]? = some fn) (hname : (fn.name == "runtime.NumGoroutine") = false) (hb : fn.body = some c)
  (hargs:decide (args.length<=fn.ntmps)=true) {rs:List ResultVar} (hrs:fn.results.toList=rs) {N:Nat} (hN:fn.ntmps=N)
  (h:∀ Q,(∀ e st,zee P rs (.ret r) post e st->Q e st)->awpD P N (zh1 P rs r post) c Q (st0 args pre)):CAt P f args pre (.ret r) post:=by
 subst hrs;subst hN
 exact zqf hm hf hname hb (of_decide_eq_true hargs) (h _ fun _ _ h=>h)
theorem znF{P:Program}{ca:Option Value}{t g:Nat}{st:St}{K:St->Prop}{caps:List (Id ⊕ CV)}(ht:st.env t=.cell (.fn g caps))(fp:List Id){as_:List AV}{pre:List Blk}{post:List (Id × Blk)}(hD:DAt P g ca as_ pre post)
  (has:(caps.map zf4).map (·.toC fp st.hp)=as_) (hpre:fp.map (fun b=>(st.hp b).map (Blk.mp (AC.toF fp)))=pre.map some) (hnd:fp.Nodup) {u:List (Id × Option Blk)} (hu:zdw fp ((caps.map zf4).flatMap fun x:AV=>x.bor fp st.hp) (st.gen+1) 0 (.ret (.tup [])) post=u)
  (hK:K (st.up.app u)):zp9 P ca t st K:=by
 subst hu
 exact⟨g,caps,ht,fp,as_,pre,post,hD,⟨has,hpre,hnd⟩,hK⟩
theorem rD{P:Program}{rs:List ResultVar}{r:AV}{x:AV}{post post':List (Id × Blk)}{t g:Nat}{st st' s':St}{as_:List AV}{pre:List Blk}{u:List (Id × Option Blk)}(hg:Gh st st')(caps:List (Id ⊕ CV))(fp:List Id)
  (hD:DAt P g none as_ pre post') (hg2:Gh (st'.up.app u) s') (ht:st'.env t=.cell (.fn g caps))
  (has:(caps.map zf4).map (·.toC fp st'.hp)=as_) (hpre:fp.map (fun b=>(st'.hp b).map (Blk.mp (AC.toF fp)))=pre.map some) (hnd:fp.Nodup)
  (hu:zdw fp ((caps.map zf4).flatMap fun x:AV=>x.bor fp st'.hp) (st'.gen+1) 0 (.ret (.tup [])) post'=u)
  (h:zeF P s' rs=some x) (hr:x=r) (hp:∀ p ∈ post,s'.hp p.1=some p.2):zh1 P rs r post t .ret st:=
 ⟨st',hg,znF ht fp hD has hpre hnd hu ⟨s',hg2,by rw[h,hr],hp⟩⟩
theorem pD{P:Program}{rs:List ResultVar}{r:AV}{x:AV}{w:Value}{post post':List (Id × Blk)}{t g:Nat}{st st' s':St}{as_:List AV}{pre:List Blk}{u:List (Id × Option Blk)}(hg:Gh st st')(caps:List (Id ⊕ CV))(fp:List Id)
  (hD:DAt P g (some w) as_ pre post') (hg2:Gh (st'.up.app u) s') (ht:st'.env t=.cell (.fn g caps))
  (has:(caps.map zf4).map (·.toC fp st'.hp)=as_) (hpre:fp.map (fun b=>(st'.hp b).map (Blk.mp (AC.toF fp)))=pre.map some) (hnd:fp.Nodup)
  (hu:zdw fp ((caps.map zf4).flatMap fun x:AV=>x.bor fp st'.hp) (st'.gen+1) 0 (.ret (.tup [])) post'=u)
  (h:zeF P s' rs=some x) (hr:x=r) (hp:∀ p ∈ post,s'.hp p.1=some p.2):zh1 P rs r post t (.pan (.cell (.p (.c w)))) st:=
 ⟨w,rfl,st',hg,znF ht fp hD has hpre hnd hu ⟨s',hg2,by rw[h,hr],hp⟩⟩
theorem zgI{P:Program}{f:FuncId}{fn:Func}{rest:Code}{rid d1 d2:Nat}{ty1 ty2:TypeId}{ts1:Array TypeId}{pos1 pos2:String}{after1 after2:Array Edge}{op2:Op}{ca:Option Value}{args:List AV}{pre:List Blk}{post:List (Id × Blk)}{x2:AV}
  (hm : P.follows .mixedOrders = true) (hf : P.funcs[f]? = some fn) (hname : (fn.name == "runtime.NumGoroutine") = false)
  (hb:fn.body=some (.seq (.region rid #[⟨some d1,.call { callee:=.builtin .recover,args:=#[],argTypes:=ts1 },ty1,pos1,after1,none⟩,⟨some d2,op2,ty2,pos2,after2,none⟩] false) rest))
  (hargs:args.length<=fn.ntmps) (hd1:d1 < fn.ntmps) (hd2:d2 < fn.ntmps) (hok:za6 fn.ntmps (some fn.ntmps) rest=true) (hres:fn.results.toList=[])
  (hq:qval P (st0 args pre).hp (evAV ((st0 args pre).put (some d1) (.cell (.p (.c (zjl ca))))).env) op2=some x2)
  (h:∀ Q,(∀ e st,zee P [] (.ret (.tup [])) post e st->Q e st)->awp P rest Q (((st0 args pre).put (some d1) (.cell (.p (.c (zjl ca))))).put (some d2) x2)):DAt P f ca args pre post:=
 zrS (t:=0) hm hf hname hb hargs hd1 hd2 hok hres hq (h _ fun _ _ h=>h)
@[simp] theorem zum:zjl none=.nilIface:=rfl
@[simp] theorem zul(v:Value):zjl (some v)=v:=rfl
def AC.isZt:OT->Bool
 |.sp _ 0 []=>true
 |.sl _ 0 []=>true
 |_=>false
def St.own0(st:St)(b:Id)(j:Nat)(t:OT):St:={ st with hp:=fun i=>if i=b then(match st.hp b with|some (.cells l)=>(match l[j]? with|some .z=>some (.cells (l.set j (.own t)))|_=>some (.cells l))|o=>o) else st.hp i }
def Mem.clr(m:Mem)(b:Id)(j:Nat):Mem:=⟨m.ρ,fun i k=>if i=b /\ k=j then [] else m.hid i k⟩
theorem Upd.own0{w:World}{m:Mem}{bad0 prot:Nat->Prop}{g i:Nat}(hm:MemOk w prot bad0 m){b:Id}(hF:isF b=false){l:List AC}(hR:zaq w m bad0 b l){j:Nat}(hj:l[j]?=some .z){t:OT}(ht:AC.isZt t=true) :
  Upd w m bad0 prot w (m.clr b j) g i [(b,some (.cells (l.set j (.own t))))]:=by
 obtain⟨q0,b0,cur0,e0,fr0,u0,hst,hg0,hu0,hc0⟩:=hR.get hj
 have hid:∀ c n k,k ∈ (m.clr b j).hid c n->k ∈ m.hid c n:=fun c n k h=>by
  simp only[Mem.clr]at h
  split at h
  ·cases h
  ·exact h
 have hown:∀ k,Own (m.clr b j) k->Own m k:=by
  rintro k (⟨c,bs,h1,h2⟩ |⟨c,n,h⟩)
  ·exact .inl ⟨c,bs,h1,h2⟩
  ·exact .inr ⟨c,n,hid c n k h⟩
 have hok:MemOk w prot bad0 (m.clr b j):=⟨fun k hk=>hm.lt k (hown k hk),hm.inj,fun c k b1 d n h1 h2 h3=>hm.sep c k b1 d n h1 h2 (hid _ _ _ h3),fun c n=>by
  simp only[Mem.clr]
  split
  ·exact List.nodup_nil
  ·exact hm.hnd c n,fun c n c' n' k h1 h2=>hm.hdj c n c' n' k (hid _ _ _ h1) (hid _ _ _ h2)⟩
 have E:Ext w m bad0 w (m.clr b j) bad0:=by
  refine⟨Hx.same fun k hn=>?_,fun c=>.inr (.inr rfl),fun _ _ _ _ _ _ h=>h⟩
  rintro(ho|ho)
  ·exact hn (.inl (hown k ho))
  ·exact hn (.inr ho)
 obtain⟨a,rfl⟩:=hc0
 have hO:∀ bad:Nat->Prop,OTR w bad (.slice a 0 0) t []:=fun bad=>by
  unfold AC.isZt at ht
  split at ht
  ·exact .zp a _
  ·exact .z a _
  ·cases ht
 refine Upd.names hok E (fun d bl' hd=>?_) (fun d hd=>?_) (fun x=>rfl) (fun x hx _=>hx)
 ·simp only[List.mem_cons,Prod.mk.injEq,Option.some.injEq,List.not_mem_nil,or_false]at hd
  obtain⟨rfl,rfl⟩:=hd
  refine⟨hF,zaq.swap E hR rfl (fun k' hk'=>by simp[Mem.clr,hk']) fun q' base cur e fr u p1 p2 p3 hu=>?_⟩
  rw[hst]at p1;cases p1
  rw[hg0]at p2;cases p2
  rw[hu0]at p3;cases p3
  have hh:(m.clr d j).hid d j=[]:=by simp[Mem.clr]
  rw[hh]
  exact hO _
 ·have n1:d ≠ b:=fun e=>hd _ (by rw[e];exact List.mem_cons_self ..)
  exact⟨rfl,fun j'=>by simp[Mem.clr,n1]⟩
theorem Gh.own0(st:St)(b:Id)(j:Nat)(t:OT)(ht:AC.isZt t=true):Gh st (st.own0 b j t):=by
 intro C a w m hJ
 cases hb:st.hp b with
 |none=>exact⟨m,hJ.withHp _ _ hJ.env fun i bl hi=>by
   split at hi
   ·rename_i e;subst e;rw[hb]at hi;cases hi
   ·exact hJ.hp i bl hi⟩
 |some bl=>
  have same:(∀ l,bl ≠ .cells l) \/ (∃ l,bl=.cells l /\ l[j]? ≠ some .z) \/ ∃ l,bl=.cells l /\ l[j]?=some .z:=by
   cases bl with
   |cells l=>
    by_cases h:l[j]?=some .z
    ·exact .inr (.inr ⟨l,rfl,h⟩)
    ·exact .inr (.inl ⟨l,rfl,h⟩)
   |pure l=>exact .inl fun l h=>by cases h
   |map ks vs=>exact .inl fun l h=>by cases h
  rcases same with h |⟨l,rfl,h⟩ |⟨l,rfl,h⟩
  ·refine⟨m,hJ.withHp _ _ hJ.env fun i bl' hi=>?_⟩
   split at hi
   ·rename_i e;subst e;rw[hb]at hi
    cases bl with
    |cells l=>exact(h l rfl).elim
    |_=>cases hi;exact hJ.hp i _ hb
   ·exact hJ.hp i bl' hi
  ·refine⟨m,hJ.withHp _ _ hJ.env fun i bl' hi=>?_⟩
   split at hi
   ·rename_i e;subst e;rw[hb]at hi
    simp only at hi
    cases hi;exact hJ.hp i _ hb
   ·exact hJ.hp i bl' hi
  ·obtain⟨hF,hR⟩:=hJ.hp b _ hb
   have U:=Upd.own0 (g:=0) (i:=0) hJ.mem hF hR h ht
   refine⟨_,(by
    have:=hJ.upd U (Nat.zero_le _)
    have e:st.own0 b j t=st.app [(b,some (.cells (l.set j (.own t))))]:=by
     unfold St.own0 St.app
     congr 1
     funext i
     simp only[hput,hb,h]
    rw[e];exact this)⟩
@[simp] theorem zyd(st:St)(b:Id)(j s:Nat)(t:OT):(st.own0 b j t).env s=st.env s:=rfl
@[simp] theorem zAG(st:St)(b i:Id)(j:Nat)(t:OT):(st.own0 b j t).hp i=if i=b then(match st.hp b with|some (.cells l)=>(match l[j]? with|some .z=>some (.cells (l.set j (.own t)))|_=>some (.cells l))|o=>o) else st.hp i:=rfl
@[simp] theorem zyc(st:St)(b:Id)(j:Nat)(t:OT):(st.own0 b j t).gen=st.gen:=rfl
@[simp] theorem zye(st:St)(b:Id)(j:Nat)(t:OT):(st.own0 b j t).acc=st.acc:=rfl
end Go.Hw
end
section
namespace Go.Dc
open Go Go.Hw Go.Proofs
@[simp] theorem zqw(x:Arr 7 Bool):Enc.enc x=[.c (.bool (x.f 0)),.c (.bool (x.f 1)),.c (.bool (x.f 2)),.c (.bool (x.f 3)),.c (.bool (x.f 4)),.c (.bool (x.f 5)),.c (.bool (x.f 6))]:=rfl
@[simp] theorem zqI:Enc.sz (Arr 7 Bool)=7:=rfl
@[simp] theorem zrN(x:Arr 7 Int):Enc.enc x=[.c (.int .i64 (x.f 0)),.c (.int .i64 (x.f 1)),.c (.int .i64 (x.f 2)),.c (.int .i64 (x.f 3)),.c (.int .i64 (x.f 4)),.c (.int .i64 (x.f 5)),.c (.int .i64 (x.f 6))]:=rfl
@[simp] theorem zr8:Enc.sz (Arr 7 Int)=7:=rfl
structure InstRow where
 name:ByteArray
 uses:Arr 7 Bool
 deriving Inhabited
instance:Enc InstRow:=⟨8,fun x=>[.c (.string x.name),.c (.bool (x.uses.f 0)),.c (.bool (x.uses.f 1)),.c (.bool (x.uses.f 2)),.c (.bool (x.uses.f 3)),.c (.bool (x.uses.f 4)),.c (.bool (x.uses.f 5)),.c (.bool (x.uses.f 6))],fun _=>rfl⟩
@[simp] theorem ztG(x:InstRow):Enc.enc x=[.c (.string x.name),.c (.bool (x.uses.f 0)),.c (.bool (x.uses.f 1)),.c (.bool (x.uses.f 2)),.c (.bool (x.uses.f 3)),.c (.bool (x.uses.f 4)),.c (.bool (x.uses.f 5)),.c (.bool (x.uses.f 6))]:=rfl
@[simp] theorem zue:Enc.sz InstRow=8:=rfl
structure Fault where
 Err:Int
 At:Int
 deriving Inhabited
instance:Enc Fault:=⟨2,fun x=>[.c (.int .i64 x.Err),.c (.int .i64 x.At)],fun _=>rfl⟩
@[simp] theorem zwQ(x:Fault):Enc.enc x=[.c (.int .i64 x.Err),.c (.int .i64 x.At)]:=rfl
@[simp] theorem zxV:Enc.sz Fault=2:=rfl
structure Var where
 Name:ByteArray
 Init:Int
 deriving Inhabited
instance:Enc Var:=⟨2,fun x=>[.c (.string x.Name),.c (.int .i64 x.Init)],fun _=>rfl⟩
@[simp] theorem zA4(x:Var):Enc.enc x=[.c (.string x.Name),.c (.int .i64 x.Init)]:=rfl
@[simp] theorem zBT:Enc.sz Var=2:=rfl
structure Inst where
 Op:Int
 A:Int
 B:Int
 C:Int
 Obj:Int
 N:Int
 Fn:Int
 Order:Int
 deriving Inhabited
instance:Enc Inst:=⟨8,fun x=>[.c (.int .i64 x.Op),.c (.int .i64 x.A),.c (.int .i64 x.B),.c (.int .i64 x.C),.c (.int .i64 x.Obj),.c (.int .i64 x.N),.c (.int .i64 x.Fn),.c (.int .i64 x.Order)],fun _=>rfl⟩
@[simp] theorem zyL(x:Inst):Enc.enc x=[.c (.int .i64 x.Op),.c (.int .i64 x.A),.c (.int .i64 x.B),.c (.int .i64 x.C),.c (.int .i64 x.Obj),.c (.int .i64 x.N),.c (.int .i64 x.Fn),.c (.int .i64 x.Order)]:=rfl
@[simp] theorem zAp:Enc.sz Inst=8:=rfl
structure Func where
 Name:ByteArray
 Code:List Inst
 deriving Inhabited
instance:Enc Func:=⟨2,fun x=>[.c (.string x.Name),.sl x.Code.length (encL x.Code)],fun _=>rfl⟩
@[simp] theorem zyM(x:Func):Enc.enc x=[.c (.string x.Name),.sl x.Code.length (encL x.Code)]:=rfl
@[simp] theorem zAq:Enc.sz Func=2:=rfl
instance:TEnc Func:=⟨fun x=>[.p (.c (.string x.Name)),.sp 8 x.Code.length (encL x.Code)],fun x=>rfl,fun x=>by simp only[List.map_cons,List.map_nil,otCV,zpo,zsc];rfl⟩
@[simp] theorem zta(x:Func):TEnc.ot x=[.p (.c (.string x.Name)),.sp 8 x.Code.length (encL x.Code)]:=rfl
@[simp] theorem zv1(x:Func):OEnc.oenc x=[.p (.c (.string x.Name)),.own (.sp 8 x.Code.length (encL x.Code))]:=by rw[zvZ,zta];rfl
structure Start where
 Func:Int
 Arg:Int
 deriving Inhabited
instance:Enc Start:=⟨2,fun x=>[.c (.int .i64 x.Func),.c (.int .i64 x.Arg)],fun _=>rfl⟩
@[simp] theorem zwP(x:Start):Enc.enc x=[.c (.int .i64 x.Func),.c (.int .i64 x.Arg)]:=rfl
@[simp] theorem zxU:Enc.sz Start=2:=rfl
structure Program where
 Vars:List Var
 Mutexes:List ByteArray
 Conds:List ByteArray
 Funcs:List Func
 Threads:List Start
 deriving Inhabited
instance:Enc Program:=⟨5,fun x=>[.sl x.Vars.length (encL x.Vars),.sl x.Mutexes.length (encL x.Mutexes),.sl x.Conds.length (encL x.Conds),.sl x.Funcs.length (encL x.Funcs),.sl x.Threads.length (encL x.Threads)],fun _=>rfl⟩
@[simp] theorem ztF(x:Program):Enc.enc x=[.sl x.Vars.length (encL x.Vars),.sl x.Mutexes.length (encL x.Mutexes),.sl x.Conds.length (encL x.Conds),.sl x.Funcs.length (encL x.Funcs),.sl x.Threads.length (encL x.Threads)]:=rfl
@[simp] theorem zua:Enc.sz Program=5:=rfl
structure Token where
 Kind:Int
 Text:ByteArray
 N:Int
 At:Int
 deriving Inhabited
instance:Enc Token:=⟨4,fun x=>[.c (.int .i64 x.Kind),.c (.string x.Text),.c (.int .i64 x.N),.c (.int .i64 x.At)],fun _=>rfl⟩
@[simp] theorem zwO(x:Token):Enc.enc x=[.c (.int .i64 x.Kind),.c (.string x.Text),.c (.int .i64 x.N),.c (.int .i64 x.At)]:=rfl
@[simp] theorem zxT:Enc.sz Token=4:=rfl
structure ANm where
 token:Token
 kind:ByteArray
 fn:Int
 at_:Int
 deriving Inhabited
instance:Enc ANm:=⟨7,fun x=>[.c (.int .i64 x.token.Kind),.c (.string x.token.Text),.c (.int .i64 x.token.N),.c (.int .i64 x.token.At),.c (.string x.kind),.c (.int .i64 x.fn),.c (.int .i64 x.at_)],fun _=>rfl⟩
@[simp] theorem ztH(x:ANm):Enc.enc x=[.c (.int .i64 x.token.Kind),.c (.string x.token.Text),.c (.int .i64 x.token.N),.c (.int .i64 x.token.At),.c (.string x.kind),.c (.int .i64 x.fn),.c (.int .i64 x.at_)]:=rfl
@[simp] theorem zuf:Enc.sz ANm=7:=rfl
structure APr where
 tokens:List Token
 end_:Int
 p:Program
 names:List ANm
 funcs:List Int
 insts:List (List Int)
 deriving Inhabited
instance:Enc APr:=⟨10,fun x=>[.sl x.tokens.length (encL x.tokens),.c (.int .i64 x.end_),.sl x.p.Vars.length (encL x.p.Vars),.sl x.p.Mutexes.length (encL x.p.Mutexes),.sl x.p.Conds.length (encL x.p.Conds),.sl x.p.Funcs.length (encL x.p.Funcs),.sl x.p.Threads.length (encL x.p.Threads),.sl x.names.length (encL x.names),.sl x.funcs.length (encL x.funcs),.sl x.insts.length (encL x.insts)],fun _=>rfl⟩
@[simp] theorem zrM(x:APr):Enc.enc x=[.sl x.tokens.length (encL x.tokens),.c (.int .i64 x.end_),.sl x.p.Vars.length (encL x.p.Vars),.sl x.p.Mutexes.length (encL x.p.Mutexes),.sl x.p.Conds.length (encL x.p.Conds),.sl x.p.Funcs.length (encL x.p.Funcs),.sl x.p.Threads.length (encL x.p.Threads),.sl x.names.length (encL x.names),.sl x.funcs.length (encL x.funcs),.sl x.insts.length (encL x.insts)]:=rfl
@[simp] theorem zr7:Enc.sz APr=10:=rfl
structure PPl where
 fn:Int
 inst:Int
 deriving Inhabited
instance:Enc PPl:=⟨2,fun x=>[.c (.int .i64 x.fn),.c (.int .i64 x.inst)],fun _=>rfl⟩
@[simp] theorem zov(x:PPl):Enc.enc x=[.c (.int .i64 x.fn),.c (.int .i64 x.inst)]:=rfl
@[simp] theorem zoG:Enc.sz PPl=2:=rfl
structure RNm where
 Kind:UInt8
 Text:ByteArray
 At:Int
 Func:Int
 Inst:Int
 deriving Inhabited
instance:Enc RNm:=⟨5,fun x=>[.c (.int .u8 ((x.Kind).toNat:Int)),.c (.string x.Text),.c (.int .i64 x.At),.c (.int .i64 x.Func),.c (.int .i64 x.Inst)],fun _=>rfl⟩
@[simp] theorem ztE(x:RNm):Enc.enc x=[.c (.int .u8 ((x.Kind).toNat:Int)),.c (.string x.Text),.c (.int .i64 x.At),.c (.int .i64 x.Func),.c (.int .i64 x.Inst)]:=rfl
@[simp] theorem zt9:Enc.sz RNm=5:=rfl
structure R10P where
 T:List Token
 At:Int
 End:Int
 Single:Bool
 Fault:Fault
 Prog:Program
 Names:List RNm
 FuncAt:List Int
 InstAt:List (List Int)
 Inside:Bool
 Threads:List ByteArray
 deriving Inhabited
instance:Enc R10P:=⟨16,fun x=>[.sl x.T.length (encL x.T),.c (.int .i64 x.At),.c (.int .i64 x.End),.c (.bool x.Single),.c (.int .i64 x.Fault.Err),.c (.int .i64 x.Fault.At),.sl x.Prog.Vars.length (encL x.Prog.Vars),.sl x.Prog.Mutexes.length (encL x.Prog.Mutexes),.sl x.Prog.Conds.length (encL x.Prog.Conds),.sl x.Prog.Funcs.length (encL x.Prog.Funcs),.sl x.Prog.Threads.length (encL x.Prog.Threads),.sl x.Names.length (encL x.Names),.sl x.FuncAt.length (encL x.FuncAt),.sl x.InstAt.length (encL x.InstAt),.c (.bool x.Inside),.sl x.Threads.length (encL x.Threads)],fun _=>rfl⟩
@[simp] theorem zyK(x:R10P):Enc.enc x=[.sl x.T.length (encL x.T),.c (.int .i64 x.At),.c (.int .i64 x.End),.c (.bool x.Single),.c (.int .i64 x.Fault.Err),.c (.int .i64 x.Fault.At),.sl x.Prog.Vars.length (encL x.Prog.Vars),.sl x.Prog.Mutexes.length (encL x.Prog.Mutexes),.sl x.Prog.Conds.length (encL x.Prog.Conds),.sl x.Prog.Funcs.length (encL x.Prog.Funcs),.sl x.Prog.Threads.length (encL x.Prog.Threads),.sl x.Names.length (encL x.Names),.sl x.FuncAt.length (encL x.FuncAt),.sl x.InstAt.length (encL x.InstAt),.c (.bool x.Inside),.sl x.Threads.length (encL x.Threads)]:=rfl
@[simp] theorem zAo:Enc.sz R10P=16:=rfl
def zbs:List InstRow:=[⟨⟨#[99,111,110,115,116]⟩,Arr.of 7 [true,false,false,false,true,false,false]⟩,⟨⟨#[99,111,112,121]⟩,Arr.of 7 [true,true,false,false,false,false,false]⟩,⟨⟨#[99,97,108,99]⟩,Arr.of 7 [true,true,true,false,false,true,false]⟩,⟨⟨#[106,117,109,112]⟩,Arr.of 7 [false,false,false,false,true,false,false]⟩,⟨⟨#[98,114,97,110,99,104]⟩,Arr.of 7 [false,true,false,false,true,false,false]⟩,⟨⟨#[97,115,115,101,114,116]⟩,Arr.of 7 [false,true,false,false,false,false,false]⟩,⟨⟨#[115,116,111,112]⟩,Arr.of 7 [false,false,false,false,false,false,false]⟩,⟨⟨#[108,111,97,100]⟩,Arr.of 7 [true,false,false,true,false,false,true]⟩,⟨⟨#[115,116,111,114,101]⟩,Arr.of 7 [false,true,false,true,false,false,true]⟩,⟨⟨#[115,119,97,112]⟩,Arr.of 7 [true,true,false,true,false,false,true]⟩,⟨⟨#[102,101,116,99,104,97,100,100]⟩,Arr.of 7 [true,true,false,true,false,false,true]⟩,⟨⟨#[99,97,115]⟩,Arr.of 7 [true,true,true,true,false,false,true]⟩,⟨⟨#[102,101,110,99,101]⟩,Arr.of 7 [false,false,false,false,false,false,false]⟩,⟨⟨#[97,119,97,105,116]⟩,Arr.of 7 [true,true,false,true,false,true,true]⟩,⟨⟨#[108,111,99,107]⟩,Arr.of 7 [false,false,false,true,false,false,false]⟩,⟨⟨#[117,110,108,111,99,107]⟩,Arr.of 7 [false,false,false,true,false,false,false]⟩,⟨⟨#[116,114,121,108,111,99,107]⟩,Arr.of 7 [true,false,false,true,false,false,false]⟩,⟨⟨#[119,97,105,116]⟩,Arr.of 7 [false,false,false,true,true,false,false]⟩,⟨⟨#[115,105,103,110,97,108]⟩,Arr.of 7 [false,false,false,true,false,false,false]⟩,⟨⟨#[98,114,111,97,100,99,97,115,116]⟩,Arr.of 7 [false,false,false,true,false,false,false]⟩,⟨⟨#[115,112,97,119,110]⟩,Arr.of 7 [true,true,false,true,false,false,false]⟩,⟨⟨#[106,111,105,110]⟩,Arr.of 7 [false,true,false,false,false,false,false]⟩]
def zbb:List ByteArray:=[⟨#[97,100,100]⟩,⟨#[115,117,98]⟩,⟨#[109,117,108]⟩,⟨#[97,110,100]⟩,⟨#[111,114]⟩,⟨#[120,111,114]⟩,⟨#[101,113]⟩,⟨#[110,101]⟩,⟨#[108,116]⟩,⟨#[108,101]⟩]
def zbk:List ByteArray:=[⟨#[112,108,97,105,110]⟩,⟨#[114,101,108,97,120,101,100]⟩,⟨#[114,101,108,97,99,113]⟩]
instance:Globals where
 G:=fun g=>if g=0 then some (encL zbs) else if g=1 then some (encL zbb) else if g=2 then some (encL zbk) else none
@[simp] theorem zDh:Globals.G 0=some (encL zbs):=rfl
@[simp] theorem zDg:Globals.G 1=some (encL zbb):=rfl
@[simp] theorem zDf:Globals.G 2=some (encL zbk):=rfl
@[reducible] def panV (x : Fault) : Value := .iface 31 (.agg #[.int .i64 x.Err, .int .i64 x.At])
def zaH(a0:Int)(a1:Int):Option Fault:=
 some ({ Err:=a0,At:=a1 }:Fault)
theorem zaA{a0:Int}{a1:Int}{r:Fault}(hs:zaH a0 a1=some r):CAt Tryz.prog 38 [iV .i64 a0,iV .i64 a1] [] (.pan (.cell (.p (.c (panV r))))) []:=by
 refine zab (by kernel_rfl) fun hb=>?_
 refine zac mixed Tryz.func38 (by kernel_rfl) rfl (by kernel_rfl) rfl fun Q hQ=>?_
 rw[zaH]at hs
 refine goR f0 ?_
 obtain rfl:=sj hs
 exact hQ _ _ zan
def apat (a0_0:List Token)(a0_1:Int):Option Int:=
 cond (eqI ((a0_0.length:Nat):Int) 0) (some a0_1) (Option.bind (a0_0[0]?) (fun x2=>some x2.At))
theorem zt0{c0_2:FC}{c0_3:FC}{c0_4:FC}{c0_5:FC}{c0_6:FC}{c0_7:FC}{c0_8:FC}{c0_9:FC}{a0_0:List Token}{a0_1:Int}{r:Int}(hs:apat a0_0 a0_1=some r):CAt Tryz.prog 95 [.cell (.ref (.a 0) 0)] [.cells [sC a0_0,nC a0_1,c0_2.ac,c0_3.ac,c0_4.ac,c0_5.ac,c0_6.ac,c0_7.ac,c0_8.ac,c0_9.ac]] (.ret (iV .i64 r)) [(.a 0,.cells [sC a0_0,nC a0_1,c0_2.ac,c0_3.ac,c0_4.ac,c0_5.ac,c0_6.ac,c0_7.ac,c0_8.ac,c0_9.ac])]:=by
 refine zab (by kernel_rfl) fun hb=>?_
 refine zac mixed Tryz.func95 (by kernel_rfl) rfl (by kernel_rfl) rfl fun Q hQ=>?_
 rw[apat]at hs
 refine goR f0 ?_
 revert hs;refine cS f0 ?_ ?_<;>intro h1 hs
 ·refine goR f0 ?_
  obtain rfl:=sj hs
  refine hQ _ _ (zaG _ (Gh.refl _) (by simp[St.frz,St.pur];rfl) (by first|rfl |(simp[St.frz,St.pur];done) |(rw[if_pos (by first|omega |(simp;omega))];simp[St.frz,St.pur];first|omega|exact List.take_of_length_le (by simp;omega)|skip)) (pv f0))
 ·revert hs;refine bK fun x2 hx3 hs=>?_
  have hx3b:=zau hx3
  have f4:zam Tryz.prog 3 (encL a0_0) (0 * 4+3)=some (iV .i64 x2.At):=zae hx3 (f:=3) (by simp)
  refine goR f4 ?_
  obtain rfl:=sj hs
  refine hQ _ _ (zaG _ (Gh.refl _) (by simp[St.frz,St.pur,f4];rfl) (by first|rfl |(simp[St.frz,St.pur,f4];done) |(rw[if_pos (by first|omega |(simp;omega))];simp[St.frz,St.pur,f4];first|omega|exact List.take_of_length_le (by simp;omega)|skip)) (pv f4))
def zds(a0_0:List Token)(a0_1:Int)(a1:Int):Option (Fault ⊕ (Token × (List Token))):=
 zai (orB (!(!(eqI ((a0_0.length:Nat):Int) 0))) (inB (0:Int) a0_0.length)) (cond (orB (eqI ((a0_0.length:Nat):Int) 0) (eqI ((gd a0_0 0).Kind) 4)) (Option.bind (apat a0_0 a0_1) (fun y4=>Option.bind (zaH 15 y4) (fun y6=>some (.inl y6)))) (Option.bind (a0_0[0]?) (fun x8=>cond (!(eqI x8.Kind a1)) (Option.bind (zaH 14 x8.At) (fun y12=>some (.inl y12))) (zai (slB (1:Int) (a0_0.length:Int) a0_0.length) (Option.bind (some (subL a0_0 (1:Int) (a0_0.length:Int))) (fun l15=>some (.inr (x8,l15))))))))
theorem zaD{c0_2:FC}{c0_3:FC}{c0_4:FC}{c0_5:FC}{c0_6:FC}{c0_7:FC}{c0_8:FC}{c0_9:FC}{a0_0:List Token}{a0_1:Int}{a1:Int}{r:Fault ⊕ (Token × (List Token))}(hs:zds a0_0 a0_1 a1=some r):CAt Tryz.prog 67 [.cell (.ref (.a 0) 0),iV .i64 a1] [.cells [sC a0_0,nC a0_1,c0_2.ac,c0_3.ac,c0_4.ac,c0_5.ac,c0_6.ac,c0_7.ac,c0_8.ac,c0_9.ac]] (panO panV (fun(r:Token × (List Token))=>.agg (eA r.1)) r) (panP (fun(r:Token × (List Token))=>[(.a 0,.cells [sC r.2,nC a0_1,c0_2.ac,c0_3.ac,c0_4.ac,c0_5.ac,c0_6.ac,c0_7.ac,c0_8.ac,c0_9.ac])]) r):=by
 refine zab (by kernel_rfl) fun hb=>?_
 refine zac mixed Tryz.func67 (by kernel_rfl) rfl (by kernel_rfl) rfl fun Q hQ=>?_
 rw[zds]at hs
 obtain⟨g1,hs⟩:=zaa hs
 have g1a:(!(eqI ((a0_0.length:Nat):Int) 0))=true->0<=(0:Int):=fun hg=>(zcG g1 hg).1
 have g1b:(!(eqI ((a0_0.length:Nat):Int) 0))=true->(0:Int) < (a0_0.length:Int):=fun hg=>(zcG g1 hg).2.1
 have g1n:(!(eqI ((a0_0.length:Nat):Int) 0))=true->0 < a0_0.length:=fun hg=>by simpa using (zcG g1 hg).2.2.1
 have g1c:(!(eqI ((a0_0.length:Nat):Int) 0))=true->a0_0[0]?=some (gd a0_0 0):=fun hg=>by simpa using (zcG g1 hg).2.2.2
 have f2:(!(eqI ((a0_0.length:Nat):Int) 0))=true->zam Tryz.prog 79 (encL a0_0) (0 * 4)=some (iV .i64 ((gd a0_0 0).Kind)):=fun hg=>zae (g1c hg) (f:=0) (by simp)
 have F1:=an g1a (an g1b (an g1n f2))
 refine goG F1 F1 ?_
 revert hs;refine cS F1 ?_ ?_<;>intro h3 hs
 ·refine goG F1 F1 ?_
  revert hs;refine bK fun y4 hx5 hs=>?_
  refine cB F1 (zt0 (c0_2:=(c0_2.toF [.a 0])) (c0_3:=(c0_3.toF [.a 0])) (c0_4:=(c0_4.toF [.a 0])) (c0_5:=(c0_5.toF [.a 0])) (c0_6:=(c0_6.toF [.a 0])) (c0_7:=(c0_7.toF [.a 0])) (c0_8:=(c0_8.toF [.a 0])) (c0_9:=(c0_9.toF [.a 0])) hx5) [.a 0] ?_
  refine goG F1 F1 ?_
  revert hs;refine bK fun y6 hx7 hs=>?_
  refine cX F1 (zaA hx7) [] (fun v=>?_)
  obtain rfl:=sj hs
  exact hQ _ _ zan
 ·revert hs;refine bK fun x8 hx9 hs=>?_
  have hx9b:=zau hx9
  have f10:zam Tryz.prog 81 (encL a0_0) (0 * 4)=some (.agg (eA x8)):=zae hx9 (f:=0) (by simp)
  have F2:=an F1 f10
  have F3:=an F2 hx9b
  refine goG F2 F3 ?_
  revert hs;refine cS F2 ?_ ?_<;>intro h11 hs
  ·refine goG F2 F3 ?_
   revert hs;refine bK fun y12 hx13 hs=>?_
   refine cX F2 (zaA hx13) [] (fun v=>?_)
   obtain rfl:=sj hs
   exact hQ _ _ zan
  ·obtain⟨g14,hs⟩:=zaa hs
   obtain⟨g14a,g14b,g14c⟩:=ze0 g14
   revert hs;refine lK fun l15 hx16 hs=>?_
   have f17n:l15.length=((a0_0.length:Int) - (1:Int)).toNat:=by rw[hx16];exact zeC ⟨g14a,g14b,g14c⟩
   have f17e:((encL a0_0).drop (((1:Int):Int).toNat * 4)).take (((a0_0.length:Int) - (1:Int)).toNat * 4)=encL l15:=by rw[hx16];exact zd2 (α:=Token)
   try simp at f17n
   try simp at f17e
   have F4:=an F2 (an g14a (an g14b (an g14c (an f17n f17e))))
   have F5:=an F4 hx9b
   refine goG F4 F5 ?_
   obtain rfl:=sj hs
   refine hQ _ _ (zaG _ (Gh.refl _) (by simp[St.frz,St.pur,F4];rfl) (by first|rfl |(simp[St.frz,St.pur,F4];done) |(rw[if_pos (by first|omega |(simp;omega))];simp[St.frz,St.pur,F4];first|omega|exact List.take_of_length_le (by simp;omega)|skip)) (pv F4))
def zaN(a0_0:List Token)(a0_1:Int):Option (Fault ⊕ (Int × (List Token))):=
 Option.bind (zds a0_0 a0_1 1) (fun y1=>(match y1 with|.inl e3=>some (.inl e3)|.inr y4=>zai (orB (!(eqI ((y4.1.Text.size:Nat):Int) 2)) (inB ((0:Nat):Int) y4.1.Text.size)) (zai (orB (!(!(orB (!(eqI ((y4.1.Text.size:Nat):Int) 2)) (!(eqI (((bget y4.1.Text 0)).toNat:Int) 114))))) (inB ((1:Nat):Int) y4.1.Text.size)) (zai (orB (!(!(orB (orB (!(eqI ((y4.1.Text.size:Nat):Int) 2)) (!(eqI (((bget y4.1.Text 0)).toNat:Int) 114))) (ltI (((bget y4.1.Text 1)).toNat:Int) 48)))) (inB ((1:Nat):Int) y4.1.Text.size)) (cond (orB (orB (orB (!(eqI ((y4.1.Text.size:Nat):Int) 2)) (!(eqI (((bget y4.1.Text 0)).toNat:Int) 114))) (ltI (((bget y4.1.Text 1)).toNat:Int) 48)) (ltI 55 (((bget y4.1.Text 1)).toNat:Int))) (Option.bind (zaH 10 y4.1.At) (fun y9=>some (.inl y9))) (Option.bind (y4.1.Text[1]?) (fun c11=>some (.inr (IntKind.i64.wrap (IntKind.u8.wrap ((c11.toNat:Int) - 48)),y4.2)))))))))
theorem zak{c0_2:FC}{c0_3:FC}{c0_4:FC}{c0_5:FC}{c0_6:FC}{c0_7:FC}{c0_8:FC}{c0_9:FC}{a0_0:List Token}{a0_1:Int}{r:Fault ⊕ (Int × (List Token))}(hs:zaN a0_0 a0_1=some r):CAt Tryz.prog 105 [.cell (.ref (.a 0) 0)] [.cells [sC a0_0,nC a0_1,c0_2.ac,c0_3.ac,c0_4.ac,c0_5.ac,c0_6.ac,c0_7.ac,c0_8.ac,c0_9.ac]] (panO panV (fun(r:Int × (List Token))=>iV .i64 r.1) r) (panP (fun(r:Int × (List Token))=>[(.a 0,.cells [sC r.2,nC a0_1,c0_2.ac,c0_3.ac,c0_4.ac,c0_5.ac,c0_6.ac,c0_7.ac,c0_8.ac,c0_9.ac])]) r):=by
 refine zab (by kernel_rfl) fun hb=>?_
 refine zac mixed Tryz.func105 (by kernel_rfl) rfl (by kernel_rfl) rfl fun Q hQ=>?_
 rw[zaN]at hs
 refine goR f0 ?_
 revert hs;refine bK fun y1 hx2 hs=>?_
 rcases y1 with e3|y4
 ·try dsimp only at hs
  refine cX f0 (zaD (c0_2:=(c0_2.toF [.a 0])) (c0_3:=(c0_3.toF [.a 0])) (c0_4:=(c0_4.toF [.a 0])) (c0_5:=(c0_5.toF [.a 0])) (c0_6:=(c0_6.toF [.a 0])) (c0_7:=(c0_7.toF [.a 0])) (c0_8:=(c0_8.toF [.a 0])) (c0_9:=(c0_9.toF [.a 0])) hx2) [.a 0] (fun v=>?_)
  obtain rfl:=sj hs
  exact hQ _ _ zan
 ·try dsimp only at hs
  refine cB f0 (zaD (c0_2:=(c0_2.toF [.a 0])) (c0_3:=(c0_3.toF [.a 0])) (c0_4:=(c0_4.toF [.a 0])) (c0_5:=(c0_5.toF [.a 0])) (c0_6:=(c0_6.toF [.a 0])) (c0_7:=(c0_7.toF [.a 0])) (c0_8:=(c0_8.toF [.a 0])) (c0_9:=(c0_9.toF [.a 0])) hx2) [.a 0] ?_
  obtain⟨g5,hs⟩:=zaa hs
  have g5a:(eqI ((y4.1.Text.size:Nat):Int) 2)=true->0<=((0:Nat):Int):=fun hg=>(zat g5 hg).1
  have g5c:(eqI ((y4.1.Text.size:Nat):Int) 2)=true->y4.1.Text[0]?=some (bget y4.1.Text 0):=fun hg=>by simpa using (zat g5 hg).2.2
  obtain⟨g6,hs⟩:=zaa hs
  have g6a:(!(orB (!(eqI ((y4.1.Text.size:Nat):Int) 2)) (!(eqI (((bget y4.1.Text 0)).toNat:Int) 114))))=true->0<=((1:Nat):Int):=fun hg=>(zat g6 hg).1
  have g6c:(!(orB (!(eqI ((y4.1.Text.size:Nat):Int) 2)) (!(eqI (((bget y4.1.Text 0)).toNat:Int) 114))))=true->y4.1.Text[1]?=some (bget y4.1.Text 1):=fun hg=>by simpa using (zat g6 hg).2.2
  obtain⟨g7,hs⟩:=zaa hs
  have g7a:(!(orB (orB (!(eqI ((y4.1.Text.size:Nat):Int) 2)) (!(eqI (((bget y4.1.Text 0)).toNat:Int) 114))) (ltI (((bget y4.1.Text 1)).toNat:Int) 48)))=true->0<=((1:Nat):Int):=fun hg=>(zat g7 hg).1
  have g7c:(!(orB (orB (!(eqI ((y4.1.Text.size:Nat):Int) 2)) (!(eqI (((bget y4.1.Text 0)).toNat:Int) 114))) (ltI (((bget y4.1.Text 1)).toNat:Int) 48)))=true->y4.1.Text[1]?=some (bget y4.1.Text 1):=fun hg=>by simpa using (zat g7 hg).2.2
  have F1:=an g5a (an g5c (an g6a (an g6c (an g7a g7c))))
  refine goG F1 F1 ?_
  revert hs;refine cS F1 ?_ ?_<;>intro h8 hs
  ·refine goG F1 F1 ?_
   revert hs;refine bK fun y9 hx10 hs=>?_
   refine cX F1 (zaA hx10) [] (fun v=>?_)
   obtain rfl:=sj hs
   exact hQ _ _ zan
  ·revert hs;refine bK fun c11 hx12 hs=>?_
   have hx12b:=zbf hx12
   have hx12g:=zcd hx12
   have F2:=an F1 (an hx12 hx12g)
   refine goG F2 F2 ?_
   obtain rfl:=sj hs
   refine hQ _ _ (zaG _ (Gh.refl _) (by simp[St.frz,St.pur,F2];rfl) (by first|rfl |(simp[St.frz,St.pur,F2];done) |(rw[if_pos (by first|omega |(simp;omega))];simp[St.frz,St.pur,F2];first|omega|exact List.take_of_length_le (by simp;omega)|skip)) (pv F2))
def zbc(a0:ByteArray):Nat->Int->Option (Unit ⊕ (Int × Bool))
 |0,_=>none
 |q60+1,i46=>cond (ltI i46 10) (Option.bind (getI zbb i46) (fun x65=>cond (eqS x65 a0) (some (.inr (IntKind.i64.wrap (1+i46),true))) (zbc a0 q60 (IntKind.i64.wrap (i46+1))))) (some (.inl ()))
def zdf(fuelN:Nat)(a0:ByteArray):Option (Int × Bool):=
 Option.bind (α:=Unit ⊕ (Int × Bool)) (Option.bind (zbc a0 fuelN 0) (fun o=>match o with|.inl _=>some (.inl ())|.inr r70=>some (.inr r70))) (fun o=>match o with|.inl _=>some (0,false)|.inr r71=>some r71)
theorem zi1{fuelN:Nat}{a0:ByteArray}{r:Int × Bool}(hs:zdf fuelN a0=some r):At Tryz.prog 116 [sV a0] (.tup [iV .i64 r.1,bV r.2]):=by
 refine zab (by kernel_rfl) fun hb=>?_
 refine zac mixed Tryz.func116 (by kernel_rfl) rfl (by kernel_rfl) rfl fun Q hQ=>?_
 rw[zdf]at hs
 refine goR2 f0 ?_
 revert hs;refine bK fun o35 e34 hs=>?_
 refine zaj (fun(v:Unit) (σ:St)=>some (.inl v)=some o35 /\ 2<=σ.gen) (by rfl) (fun Q hK36 hX37=>?_) (fun v σ3 hp=>?_)
 ·refine goR f0 ?_
  revert e34;refine bK fun o55 e54 e34=>?_
  refine zaf (fun(v:Nat × Int) (σ:St)=>zbc a0 v.1 v.2=some o55 /\ σ.env 0=sV a0 /\ σ.env 5=iV .i64 v.2 /\ 2<=σ.gen) (fun v=>v.1) _ (Gh.refl _) (fuelN,0) ⟨e54,pv f0,pv f0,pg⟩ fun v σ6 hp L56 hL57=>?_
  obtain⟨q59,i46⟩:=v
  dsimp only at hp hL57
  obtain⟨e54,h5_0,h5_5,n5_g⟩:=hp
  rcases q59 with _|q60
  ·rw[zbc]at e54;cases e54
  ·rw[zbc]at e54;try dsimp only at e54
   have F1:=an h5_0 h5_5
   refine goR F1 ?_
   revert e54;refine cS F1 ?_ ?_<;>intro h64 e54
   ·revert e54;refine bK fun x65 hx66 e54=>?_
    obtain⟨hx66a,hx66b,hx66c,hx66d⟩:=zao hx66
    have t67L:zbb.length=10:=rfl
    have f68:zam Tryz.prog 9 (encL zbb) ((i46).toNat)=some (sV x65):=zaz hx66d (by simp)
    have F2:=an F1 f68
    refine goR F2 ?_
    revert e54;refine cS F2 ?_ ?_<;>intro h69 e54
    ·refine goR F2 ?_
     obtain rfl:=sj e54
     try dsimp only at e34
     obtain rfl:=sj e34
     try dsimp only at hs
     refine hX37 _ _ (by simp) ?_
     refine goR F2 ?_
     obtain rfl:=sj hs
     exact hQ _ _ (rg F2 (Gh.refl _))
    ·refine goR F2 ?_
     exact hL57 (q60,IntKind.i64.wrap (i46+1)) _ _ (Gh.refl _) ⟨e54,pv F2,pv F2,pg⟩ (by omega)
   ·refine goR F1 ?_
    obtain rfl:=sj e54
    try dsimp only at e34
    exact hK36 () _ _ (Gh.refl _) ⟨e34,pg⟩
 ·obtain⟨e34,n4_g⟩:=hp
  obtain rfl:=sj e34
  try dsimp only at hs
  refine goR f0 ?_
  obtain rfl:=sj hs
  exact hQ _ _ (rg f0 (Gh.refl _))
def zc9(fuelN:Nat)(a0_0:List Token)(a0_1:Int):Option (Fault ⊕ (Int × (List Token))):=
 Option.bind (zds a0_0 a0_1 1) (fun y1=>(match y1 with|.inl e3=>some (.inl e3)|.inr y4=>Option.bind (zdf fuelN y4.1.Text) (fun y5=>cond (!y5.2) (Option.bind (zaH 8 y4.1.At) (fun y8=>some (.inl y8))) (some (.inr (y5.1,y4.2))))))
theorem zdx{fuelN:Nat}{c0_2:FC}{c0_3:FC}{c0_4:FC}{c0_5:FC}{c0_6:FC}{c0_7:FC}{c0_8:FC}{c0_9:FC}{a0_0:List Token}{a0_1:Int}{r:Fault ⊕ (Int × (List Token))}(hs:zc9 fuelN a0_0 a0_1=some r):CAt Tryz.prog 106 [.cell (.ref (.a 0) 0)] [.cells [sC a0_0,nC a0_1,c0_2.ac,c0_3.ac,c0_4.ac,c0_5.ac,c0_6.ac,c0_7.ac,c0_8.ac,c0_9.ac]] (panO panV (fun(r:Int × (List Token))=>iV .i64 r.1) r) (panP (fun(r:Int × (List Token))=>[(.a 0,.cells [sC r.2,nC a0_1,c0_2.ac,c0_3.ac,c0_4.ac,c0_5.ac,c0_6.ac,c0_7.ac,c0_8.ac,c0_9.ac])]) r):=by
 refine zab (by kernel_rfl) fun hb=>?_
 refine zac mixed Tryz.func106 (by kernel_rfl) rfl (by kernel_rfl) rfl fun Q hQ=>?_
 rw[zc9]at hs
 refine goR f0 ?_
 revert hs;refine bK fun y1 hx2 hs=>?_
 rcases y1 with e3|y4
 ·try dsimp only at hs
  refine cX f0 (zaD (c0_2:=(c0_2.toF [.a 0])) (c0_3:=(c0_3.toF [.a 0])) (c0_4:=(c0_4.toF [.a 0])) (c0_5:=(c0_5.toF [.a 0])) (c0_6:=(c0_6.toF [.a 0])) (c0_7:=(c0_7.toF [.a 0])) (c0_8:=(c0_8.toF [.a 0])) (c0_9:=(c0_9.toF [.a 0])) hx2) [.a 0] (fun v=>?_)
  obtain rfl:=sj hs
  exact hQ _ _ zan
 ·try dsimp only at hs
  refine cB f0 (zaD (c0_2:=(c0_2.toF [.a 0])) (c0_3:=(c0_3.toF [.a 0])) (c0_4:=(c0_4.toF [.a 0])) (c0_5:=(c0_5.toF [.a 0])) (c0_6:=(c0_6.toF [.a 0])) (c0_7:=(c0_7.toF [.a 0])) (c0_8:=(c0_8.toF [.a 0])) (c0_9:=(c0_9.toF [.a 0])) hx2) [.a 0] ?_
  refine goR f0 ?_
  revert hs;refine bK fun y5 hx6 hs=>?_
  refine cP f0 (zi1 hx6) ?_
  refine goR f0 ?_
  revert hs;refine cS f0 ?_ ?_<;>intro h7 hs
  ·refine goR f0 ?_
   revert hs;refine bK fun y8 hx9 hs=>?_
   refine cX f0 (zaA hx9) [] (fun v=>?_)
   obtain rfl:=sj hs
   exact hQ _ _ zan
  ·refine goR f0 ?_
   obtain rfl:=sj hs
   refine hQ _ _ (zaG _ (Gh.refl _) (by simp[St.frz,St.pur];rfl) (by first|rfl |(simp[St.frz,St.pur];done) |(rw[if_pos (by first|omega |(simp;omega))];simp[St.frz,St.pur];first|omega|exact List.take_of_length_le (by simp;omega)|skip)) (pv f0))
def zhz(a0:ByteArray):Nat->Int->Option (Unit ⊕ (Int × Bool))
 |0,_=>none
 |q60+1,i46=>cond (ltI i46 3) (Option.bind (getI zbk i46) (fun x65=>cond (eqS x65 a0) (some (.inr (i46,true))) (zhz a0 q60 (IntKind.i64.wrap (i46+1))))) (some (.inl ()))
def iBO (fuelN:Nat)(a0:ByteArray):Option (Int × Bool):=
 Option.bind (α:=Unit ⊕ (Int × Bool)) (Option.bind (zhz a0 fuelN 0) (fun o=>match o with|.inl _=>some (.inl ())|.inr r70=>some (.inr r70))) (fun o=>match o with|.inl _=>some (0,false)|.inr r71=>some r71)
theorem zxe{fuelN:Nat}{a0:ByteArray}{r:Int × Bool}(hs:iBO fuelN a0=some r):At Tryz.prog 117 [sV a0] (.tup [iV .i64 r.1,bV r.2]):=by
 refine zab (by kernel_rfl) fun hb=>?_
 refine zac mixed Tryz.func117 (by kernel_rfl) rfl (by kernel_rfl) rfl fun Q hQ=>?_
 rw[iBO]at hs
 refine goR2 f0 ?_
 revert hs;refine bK fun o35 e34 hs=>?_
 refine zaj (fun(v:Unit) (σ:St)=>some (.inl v)=some o35 /\ 2<=σ.gen) (by rfl) (fun Q hK36 hX37=>?_) (fun v σ3 hp=>?_)
 ·refine goR f0 ?_
  revert e34;refine bK fun o55 e54 e34=>?_
  refine zaf (fun(v:Nat × Int) (σ:St)=>zhz a0 v.1 v.2=some o55 /\ σ.env 0=sV a0 /\ σ.env 5=iV .i64 v.2 /\ 2<=σ.gen) (fun v=>v.1) _ (Gh.refl _) (fuelN,0) ⟨e54,pv f0,pv f0,pg⟩ fun v σ6 hp L56 hL57=>?_
  obtain⟨q59,i46⟩:=v
  dsimp only at hp hL57
  obtain⟨e54,h5_0,h5_5,n5_g⟩:=hp
  rcases q59 with _|q60
  ·rw[zhz]at e54;cases e54
  ·rw[zhz]at e54;try dsimp only at e54
   have F1:=an h5_0 h5_5
   refine goR F1 ?_
   revert e54;refine cS F1 ?_ ?_<;>intro h64 e54
   ·revert e54;refine bK fun x65 hx66 e54=>?_
    obtain⟨hx66a,hx66b,hx66c,hx66d⟩:=zao hx66
    have t67L:zbk.length=3:=rfl
    have f68:zam Tryz.prog 9 (encL zbk) ((i46).toNat)=some (sV x65):=zaz hx66d (by simp)
    have F2:=an F1 f68
    refine goR F2 ?_
    revert e54;refine cS F2 ?_ ?_<;>intro h69 e54
    ·refine goR F2 ?_
     obtain rfl:=sj e54
     try dsimp only at e34
     obtain rfl:=sj e34
     try dsimp only at hs
     refine hX37 _ _ (by simp) ?_
     refine goR F2 ?_
     obtain rfl:=sj hs
     exact hQ _ _ (rg F2 (Gh.refl _))
    ·refine goR F2 ?_
     exact hL57 (q60,IntKind.i64.wrap (i46+1)) _ _ (Gh.refl _) ⟨e54,pv F2,pv F2,pg⟩ (by omega)
   ·refine goR F1 ?_
    obtain rfl:=sj e54
    try dsimp only at e34
    exact hK36 () _ _ (Gh.refl _) ⟨e34,pg⟩
 ·obtain⟨e34,n4_g⟩:=hp
  obtain rfl:=sj e34
  try dsimp only at hs
  refine goR f0 ?_
  obtain rfl:=sj hs
  exact hQ _ _ (rg f0 (Gh.refl _))
def zf8(fuelN:Nat)(a0_0:List Token)(a0_1:Int):Option (Fault ⊕ (Int × (List Token))):=
 Option.bind (zds a0_0 a0_1 1) (fun y1=>(match y1 with|.inl e3=>some (.inl e3)|.inr y4=>Option.bind (iBO fuelN y4.1.Text) (fun y5=>cond (!y5.2) (Option.bind (zaH 13 y4.1.At) (fun y8=>some (.inl y8))) (some (.inr (y5.1,y4.2))))))
theorem zfG{fuelN:Nat}{c0_2:FC}{c0_3:FC}{c0_4:FC}{c0_5:FC}{c0_6:FC}{c0_7:FC}{c0_8:FC}{c0_9:FC}{a0_0:List Token}{a0_1:Int}{r:Fault ⊕ (Int × (List Token))}(hs:zf8 fuelN a0_0 a0_1=some r):CAt Tryz.prog 107 [.cell (.ref (.a 0) 0)] [.cells [sC a0_0,nC a0_1,c0_2.ac,c0_3.ac,c0_4.ac,c0_5.ac,c0_6.ac,c0_7.ac,c0_8.ac,c0_9.ac]] (panO panV (fun(r:Int × (List Token))=>iV .i64 r.1) r) (panP (fun(r:Int × (List Token))=>[(.a 0,.cells [sC r.2,nC a0_1,c0_2.ac,c0_3.ac,c0_4.ac,c0_5.ac,c0_6.ac,c0_7.ac,c0_8.ac,c0_9.ac])]) r):=by
 refine zab (by kernel_rfl) fun hb=>?_
 refine zac mixed Tryz.func107 (by kernel_rfl) rfl (by kernel_rfl) rfl fun Q hQ=>?_
 rw[zf8]at hs
 refine goR f0 ?_
 revert hs;refine bK fun y1 hx2 hs=>?_
 rcases y1 with e3|y4
 ·try dsimp only at hs
  refine cX f0 (zaD (c0_2:=(c0_2.toF [.a 0])) (c0_3:=(c0_3.toF [.a 0])) (c0_4:=(c0_4.toF [.a 0])) (c0_5:=(c0_5.toF [.a 0])) (c0_6:=(c0_6.toF [.a 0])) (c0_7:=(c0_7.toF [.a 0])) (c0_8:=(c0_8.toF [.a 0])) (c0_9:=(c0_9.toF [.a 0])) hx2) [.a 0] (fun v=>?_)
  obtain rfl:=sj hs
  exact hQ _ _ zan
 ·try dsimp only at hs
  refine cB f0 (zaD (c0_2:=(c0_2.toF [.a 0])) (c0_3:=(c0_3.toF [.a 0])) (c0_4:=(c0_4.toF [.a 0])) (c0_5:=(c0_5.toF [.a 0])) (c0_6:=(c0_6.toF [.a 0])) (c0_7:=(c0_7.toF [.a 0])) (c0_8:=(c0_8.toF [.a 0])) (c0_9:=(c0_9.toF [.a 0])) hx2) [.a 0] ?_
  refine goR f0 ?_
  revert hs;refine bK fun y5 hx6 hs=>?_
  refine cP f0 (zxe hx6) ?_
  refine goR f0 ?_
  revert hs;refine cS f0 ?_ ?_<;>intro h7 hs
  ·refine goR f0 ?_
   revert hs;refine bK fun y8 hx9 hs=>?_
   refine cX f0 (zaA hx9) [] (fun v=>?_)
   obtain rfl:=sj hs
   exact hQ _ _ zan
  ·refine goR f0 ?_
   obtain rfl:=sj hs
   refine hQ _ _ (zaG _ (Gh.refl _) (by simp[St.frz,St.pur];rfl) (by first|rfl |(simp[St.frz,St.pur];done) |(rw[if_pos (by first|omega |(simp;omega))];simp[St.frz,St.pur];first|omega|exact List.take_of_length_le (by simp;omega)|skip)) (pv f0))
def zcp(a0_0:List Token)(a0_1:Int)(a0_7:List ANm)(a1:ByteArray)(a2:Int)(a3:Int):Option (Fault ⊕ ((List Token) × (List ANm))):=
 Option.bind (zds a0_0 a0_1 1) (fun y10=>(match y10 with|.inl e12=>some (.inl e12)|.inr y13=>Option.bind (some ([({ token:=y13.1,kind:=a1,fn:=a2,at_:=a3 }:ANm)])) (fun l14=>zai (limB 72 (a0_7.length+l14.length)) (Option.bind (some (a0_7++l14)) (fun l17=>some (.inr (y13.2,l17)))))))
theorem zaS{c0_2:FC}{c0_3:FC}{c0_4:FC}{c0_5:FC}{c0_6:FC}{c0_8:FC}{c0_9:FC}{a0_0:List Token}{a0_1:Int}{a0_7:List ANm}{a1:ByteArray}{a2:Int}{a3:Int}{r:Fault ⊕ ((List Token) × (List ANm))}(hs:zcp a0_0 a0_1 a0_7 a1 a2 a3=some r):CAt Tryz.prog 68 [.cell (.ref (.a 0) 0),sV a1,iV .i64 a2,iV .i64 a3] [.cells [sC a0_0,nC a0_1,c0_2.ac,c0_3.ac,c0_4.ac,c0_5.ac,c0_6.ac,.own (.sp 7 a0_7.length (encL a0_7)),c0_8.ac,c0_9.ac]] (panO panV (fun(r:(List Token) × (List ANm))=>.tup []) r) (panP (fun(r:(List Token) × (List ANm))=>[(.a 0,.cells [sC r.1,nC a0_1,c0_2.ac,c0_3.ac,c0_4.ac,c0_5.ac,c0_6.ac,.own (.sp 7 r.2.length (encL r.2)),c0_8.ac,c0_9.ac])]) r):=by
 refine zab (by kernel_rfl) fun hb=>?_
 refine zac mixed Tryz.func68 (by kernel_rfl) rfl (by kernel_rfl) rfl fun Q hQ=>?_
 rw[zcp]at hs
 refine goN f0 ?_
 refine zaX (by rfl) (Gh.opn _ (.a 0) 7) ?_
 try simp only[St.frz,St.pur]
 refine goD f0 ?_
 revert hs;refine bK fun y10 hx11 hs=>?_
 rcases y10 with e12|y13
 ·try dsimp only at hs
  refine cXd f0 (zaD (c0_2:=(c0_2.toF [.a 0])) (c0_3:=(c0_3.toF [.a 0])) (c0_4:=(c0_4.toF [.a 0])) (c0_5:=(c0_5.toF [.a 0])) (c0_6:=(c0_6.toF [.a 0])) (c0_7:=⟨AC.toF [.a 0] (.sl (.o 1 0 7) 0 7 a0_7.length),by simp⟩) (c0_8:=(c0_8.toF [.a 0])) (c0_9:=(c0_9.toF [.a 0])) hx11) [.a 0] ?_
  refine zdq (fun s=>?_) ?_
  ·obtain rfl:=sj hs
   exact hQ _ _ zan
  ·exact goP f0
 ·try dsimp only at hs
  refine cB f0 (zaD (c0_2:=(c0_2.toF [.a 0])) (c0_3:=(c0_3.toF [.a 0])) (c0_4:=(c0_4.toF [.a 0])) (c0_5:=(c0_5.toF [.a 0])) (c0_6:=(c0_6.toF [.a 0])) (c0_7:=⟨AC.toF [.a 0] (.sl (.o 1 0 7) 0 7 a0_7.length),by simp⟩) (c0_8:=(c0_8.toF [.a 0])) (c0_9:=(c0_9.toF [.a 0])) hx11) [.a 0] ?_
  revert hs;refine lK fun l14 hx15 hs=>?_
  have hx15n:l14.length=1:=by rw[hx15];rfl
  obtain⟨g16,hs⟩:=zaa hs
  have g16:=zbv g16
  obtain⟨g16a,g16b⟩:=g16
  revert hs;refine lK fun l17 hx18 hs=>?_
  have hx18n:l17.length=(a0_7.length+l14.length):=by rw[hx18];simp
  have hx18e:encL l17=encL a0_7++encL l14:=by rw[hx18];simp
  have F1:=an hx15 (an hx18n hx18e)
  refine goD F1 ?_
  have f19:(encL l17).take (l17.length * 7)=encL l17:=zal _ (by simp)
  try simp[F1]at f19
  have f19l:l17.length * 7<=(encL l17).length:=by rw[zaE];simp
  try simp[F1]at f19l
  obtain rfl:=sj hs
  have F2:=an F1 (an f19 f19l)
  refine hQ _ _ (zaG _ (Gh.close _ (.a 0) 7) (by simp[St.frz,St.pur,F2];rfl) (by first|rfl |(simp[St.frz,St.pur,F2];done) |(rw[if_pos (by first|omega |(simp;omega))];simp[St.frz,St.pur,F2];first|omega|exact List.take_of_length_le (by simp;omega)|skip)) (pv F2))
def zii(fuelN:Nat)(a0_0:List Token)(a0_1:Int)(a0_7:List ANm)(a1:Inst)(a2:Int)(a3:Int):Option (Fault ⊕ ((List Token) × (List ANm) × Inst)):=
 Option.bind (α:=((List Token) × (List ANm) × Int) ⊕ Fault) (cond (!(eqI a1.Op 9)) (Option.bind (zaN a0_0 a0_1) (fun y15=>(match y15 with|.inl e17=>some (.inr e17)|.inr y18=>some (.inl (y18.2,a0_7,y18.1))))) (some (.inl (a0_0,a0_7,a1.A)))) (fun o=>match o with|.inl (l6,l7,i9)=>Option.bind (zcp l6 a0_1 l7 (⟨#[118,97,114]⟩:ByteArray) a2 a3) (fun y19=>(match y19 with|.inl e21=>some (.inl e21)|.inr y22=>Option.bind (α:=((List Token) × (List ANm) × Int) ⊕ Fault) (cond (eqI a1.Op 14) (Option.bind (zc9 fuelN y22.1 a0_1) (fun y36=>(match y36 with|.inl e38=>some (.inr e38)|.inr y39=>some (.inl (y39.2,y22.2,y39.1))))) (some (.inl (y22.1,y22.2,a1.Fn)))) (fun o=>match o with|.inl (l28,l29,i30)=>Option.bind (α:=((List Token) × (List ANm) × Int) ⊕ Fault) (cond (!(eqI a1.Op 8)) (Option.bind (zaN l28 a0_1) (fun y53=>(match y53 with|.inl e55=>some (.inr e55)|.inr y56=>some (.inl (y56.2,l29,y56.1))))) (some (.inl (l28,l29,a1.B)))) (fun o=>match o with|.inl (l45,l46,i47)=>cond (eqI a1.Op 12) (Option.bind (zaN l45 a0_1) (fun y58=>(match y58 with|.inl e60=>some (.inl e60)|.inr y61=>Option.bind (zf8 fuelN y61.2 a0_1) (fun y62=>(match y62 with|.inl e64=>some (.inl e64)|.inr y65=>some (.inr (y65.2,l46,({ Op:=a1.Op,A:=i9,B:=i47,C:=y61.1,Obj:=a1.Obj,N:=a1.N,Fn:=i30,Order:=y65.1 }:Inst)))))))) (Option.bind (zf8 fuelN l45 a0_1) (fun y66=>(match y66 with|.inl e68=>some (.inl e68)|.inr y69=>some (.inr (y69.2,l46,{ a1 with A:=i9,B:=i47,Fn:=i30,Order:=y69.1 })))))|.inr e70=>some (.inl e70))|.inr e71=>some (.inl e71))))|.inr e72=>some (.inl e72))
theorem zjc{fuelN:Nat}{c0_2:FC}{c0_3:FC}{c0_4:FC}{c0_5:FC}{c0_6:FC}{c0_8:FC}{c0_9:FC}{a0_0:List Token}{a0_1:Int}{a0_7:List ANm}{a1:Inst}{a2:Int}{a3:Int}{r:Fault ⊕ ((List Token) × (List ANm) × Inst)}(hs:zii fuelN a0_0 a0_1 a0_7 a1 a2 a3=some r):CAt Tryz.prog 87 [.cell (.ref (.a 0) 0),.cell (.ref (.a 1) 0),iV .i64 a2,iV .i64 a3] [.cells [sC a0_0,nC a0_1,c0_2.ac,c0_3.ac,c0_4.ac,c0_5.ac,c0_6.ac,.own (.sp 7 a0_7.length (encL a0_7)),c0_8.ac,c0_9.ac],.cells (eA a1)] (panO panV (fun(r:(List Token) × (List ANm) × Inst)=>.tup []) r) (panP (fun(r:(List Token) × (List ANm) × Inst)=>[(.a 0,.cells [sC r.1,nC a0_1,c0_2.ac,c0_3.ac,c0_4.ac,c0_5.ac,c0_6.ac,.own (.sp 7 r.2.1.length (encL r.2.1)),c0_8.ac,c0_9.ac]),(.a 1,.cells (eA r.2.2))]) r):=by
 refine zab (by kernel_rfl) fun hb=>?_
 refine zac mixed Tryz.func87 (by kernel_rfl) rfl (by kernel_rfl) rfl fun Q hQ=>?_
 rw[zii]at hs
 refine goR2 f0 ?_
 revert hs;refine bK fun o11 e10 hs=>?_
 refine zaj (fun(v:(List Token) × (List ANm) × Int) (σ:St)=>some (.inl v)=some o11 /\ σ.env 0=.cell (.ref (.a 0) 0) /\ σ.env 1=.cell (.ref (.a 1) 0) /\ σ.env 2=iV .i64 a2 /\ σ.env 3=iV .i64 a3 /\ σ.hp (.a 0)=some (.cells [sC v.1,nC a0_1,c0_2.ac,c0_3.ac,c0_4.ac,c0_5.ac,c0_6.ac,.own (.sp 7 v.2.1.length (encL v.2.1)),c0_8.ac,c0_9.ac]) /\ σ.hp (.a 1)=some (.cells [nC a1.Op,nC v.2.2,nC a1.B,nC a1.C,nC a1.Obj,nC a1.N,nC a1.Fn,nC a1.Order]) /\ 1<=σ.gen) (by rfl) (fun Q hK12 hX13=>?_) (fun v σ1 hp=>?_)
 ·refine goR f0 ?_
  revert e10;refine cS f0 ?_ ?_<;>intro h14 e10
  ·refine goR f0 ?_
   revert e10;refine bK fun y15 hx16 e10=>?_
   rcases y15 with e17|y18
   ·try dsimp only at e10
    refine cX f0 (zak (c0_2:=(c0_2.toF [.a 0])) (c0_3:=(c0_3.toF [.a 0])) (c0_4:=(c0_4.toF [.a 0])) (c0_5:=(c0_5.toF [.a 0])) (c0_6:=(c0_6.toF [.a 0])) (c0_7:=⟨AC.toF [.a 0] (.own (.sp 7 a0_7.length (encL a0_7))),by simp⟩) (c0_8:=(c0_8.toF [.a 0])) (c0_9:=(c0_9.toF [.a 0])) hx16) [.a 0] (fun v=>?_)
    obtain rfl:=sj e10
    try dsimp only at hs
    refine hX13 _ _ (by simp) ?_
    obtain rfl:=sj hs
    exact hQ _ _ zan
   ·try dsimp only at e10
    refine cB f0 (zak (c0_2:=(c0_2.toF [.a 0])) (c0_3:=(c0_3.toF [.a 0])) (c0_4:=(c0_4.toF [.a 0])) (c0_5:=(c0_5.toF [.a 0])) (c0_6:=(c0_6.toF [.a 0])) (c0_7:=⟨AC.toF [.a 0] (.own (.sp 7 a0_7.length (encL a0_7))),by simp⟩) (c0_8:=(c0_8.toF [.a 0])) (c0_9:=(c0_9.toF [.a 0])) hx16) [.a 0] ?_
    refine goR f0 ?_
    exact hK12 (y18.2,a0_7,y18.1) _ _ (Gh.refl _) ⟨e10,pv f0,pv f0,pv f0,pv f0,pv f0,pv f0,pg⟩
  ·refine goR f0 ?_
   exact hK12 (a0_0,a0_7,a1.A) _ _ (Gh.refl _) ⟨e10,pv f0,pv f0,pv f0,pv f0,pv f0,pv f0,pg⟩
 ·obtain⟨l6,l7,i9⟩:=v
  dsimp only at hp
  obtain⟨e10,h2_0,h2_1,h2_2,h2_3,g2_0,g2_1,n2_g⟩:=hp
  obtain rfl:=sj e10
  try dsimp only at hs
  have F1:=an h2_0 (an h2_1 (an h2_2 (an h2_3 (an g2_0 g2_1))))
  refine goR F1 ?_
  revert hs;refine bK fun y19 hx20 hs=>?_
  rcases y19 with e21|y22
  ·try dsimp only at hs
   refine cX F1 (zaS (c0_2:=(c0_2.toF [.a 0])) (c0_3:=(c0_3.toF [.a 0])) (c0_4:=(c0_4.toF [.a 0])) (c0_5:=(c0_5.toF [.a 0])) (c0_6:=(c0_6.toF [.a 0])) (c0_8:=(c0_8.toF [.a 0])) (c0_9:=(c0_9.toF [.a 0])) hx20) [.a 0] (fun v=>?_)
   obtain rfl:=sj hs
   exact hQ _ _ zan
  ·try dsimp only at hs
   refine cB F1 (zaS (c0_2:=(c0_2.toF [.a 0])) (c0_3:=(c0_3.toF [.a 0])) (c0_4:=(c0_4.toF [.a 0])) (c0_5:=(c0_5.toF [.a 0])) (c0_6:=(c0_6.toF [.a 0])) (c0_8:=(c0_8.toF [.a 0])) (c0_9:=(c0_9.toF [.a 0])) hx20) [.a 0] ?_
   refine goR2 F1 ?_
   revert hs;refine bK fun o32 e31 hs=>?_
   refine zaj (fun(v:(List Token) × (List ANm) × Int) (σ:St)=>some (.inl v)=some o32 /\ σ.env 0=.cell (.ref (.a 0) 0) /\ σ.env 1=.cell (.ref (.a 1) 0) /\ σ.hp (.a 0)=some (.cells [sC v.1,nC a0_1,c0_2.ac,c0_3.ac,c0_4.ac,c0_5.ac,c0_6.ac,.own (.sp 7 v.2.1.length (encL v.2.1)),c0_8.ac,c0_9.ac]) /\ σ.hp (.a 1)=some (.cells [nC a1.Op,nC i9,nC a1.B,nC a1.C,nC a1.Obj,nC a1.N,nC v.2.2,nC a1.Order]) /\ (σ1.gen+2)<=σ.gen) (by rfl) (fun Q hK33 hX34=>?_) (fun v σ3 hp=>?_)
   ·refine goR F1 ?_
    revert e31;refine cS F1 ?_ ?_<;>intro h35 e31
    ·refine goR F1 ?_
     revert e31;refine bK fun y36 hx37 e31=>?_
     rcases y36 with e38|y39
     ·try dsimp only at e31
      refine cX F1 (zdx (c0_2:=(c0_2.toF [.a 0])) (c0_3:=(c0_3.toF [.a 0])) (c0_4:=(c0_4.toF [.a 0])) (c0_5:=(c0_5.toF [.a 0])) (c0_6:=(c0_6.toF [.a 0])) (c0_7:=⟨AC.toF [.a 0] (.own (.sp 7 y22.2.length (encL y22.2))),by simp[F1]⟩) (c0_8:=(c0_8.toF [.a 0])) (c0_9:=(c0_9.toF [.a 0])) hx37) [.a 0] (fun v=>?_)
      obtain rfl:=sj e31
      try dsimp only at hs
      refine hX34 _ _ (by simp) ?_
      obtain rfl:=sj hs
      exact hQ _ _ zan
     ·try dsimp only at e31
      refine cB F1 (zdx (c0_2:=(c0_2.toF [.a 0])) (c0_3:=(c0_3.toF [.a 0])) (c0_4:=(c0_4.toF [.a 0])) (c0_5:=(c0_5.toF [.a 0])) (c0_6:=(c0_6.toF [.a 0])) (c0_7:=⟨AC.toF [.a 0] (.own (.sp 7 y22.2.length (encL y22.2))),by simp[F1]⟩) (c0_8:=(c0_8.toF [.a 0])) (c0_9:=(c0_9.toF [.a 0])) hx37) [.a 0] ?_
      refine goR F1 ?_
      exact hK33 (y39.2,y22.2,y39.1) _ _ (Gh.refl _) ⟨e31,pv F1,pv F1,pv F1,pv F1,pg⟩
    ·refine goR F1 ?_
     exact hK33 (y22.1,y22.2,a1.Fn) _ _ (Gh.refl _) ⟨e31,pv F1,pv F1,pv F1,pv F1,pg⟩
   ·obtain⟨l28,l29,i30⟩:=v
    dsimp only at hp
    obtain⟨e31,h4_0,h4_1,g4_0,g4_1,n4_g⟩:=hp
    obtain rfl:=sj e31
    try dsimp only at hs
    have F2:=an h4_0 (an h4_1 (an g4_0 g4_1))
    refine goR2 F2 ?_
    revert hs;refine bK fun o49 e48 hs=>?_
    refine zaj (fun(v:(List Token) × (List ANm) × Int) (σ:St)=>some (.inl v)=some o49 /\ σ.env 0=.cell (.ref (.a 0) 0) /\ σ.env 1=.cell (.ref (.a 1) 0) /\ σ.hp (.a 0)=some (.cells [sC v.1,nC a0_1,c0_2.ac,c0_3.ac,c0_4.ac,c0_5.ac,c0_6.ac,.own (.sp 7 v.2.1.length (encL v.2.1)),c0_8.ac,c0_9.ac]) /\ σ.hp (.a 1)=some (.cells [nC a1.Op,nC i9,nC v.2.2,nC a1.C,nC a1.Obj,nC a1.N,nC i30,nC a1.Order]) /\ (σ3.gen+1)<=σ.gen) (by rfl) (fun Q hK50 hX51=>?_) (fun v σ5 hp=>?_)
    ·refine goR F2 ?_
     revert e48;refine cS F2 ?_ ?_<;>intro h52 e48
     ·refine goR F2 ?_
      revert e48;refine bK fun y53 hx54 e48=>?_
      rcases y53 with e55|y56
      ·try dsimp only at e48
       refine cX F2 (zak (c0_2:=(c0_2.toF [.a 0])) (c0_3:=(c0_3.toF [.a 0])) (c0_4:=(c0_4.toF [.a 0])) (c0_5:=(c0_5.toF [.a 0])) (c0_6:=(c0_6.toF [.a 0])) (c0_7:=⟨AC.toF [.a 0] (.own (.sp 7 l29.length (encL l29))),by simp[F2]⟩) (c0_8:=(c0_8.toF [.a 0])) (c0_9:=(c0_9.toF [.a 0])) hx54) [.a 0] (fun v=>?_)
       obtain rfl:=sj e48
       try dsimp only at hs
       refine hX51 _ _ (by simp) ?_
       obtain rfl:=sj hs
       exact hQ _ _ zan
      ·try dsimp only at e48
       refine cB F2 (zak (c0_2:=(c0_2.toF [.a 0])) (c0_3:=(c0_3.toF [.a 0])) (c0_4:=(c0_4.toF [.a 0])) (c0_5:=(c0_5.toF [.a 0])) (c0_6:=(c0_6.toF [.a 0])) (c0_7:=⟨AC.toF [.a 0] (.own (.sp 7 l29.length (encL l29))),by simp[F2]⟩) (c0_8:=(c0_8.toF [.a 0])) (c0_9:=(c0_9.toF [.a 0])) hx54) [.a 0] ?_
       refine goR F2 ?_
       exact hK50 (y56.2,l29,y56.1) _ _ (Gh.refl _) ⟨e48,pv F2,pv F2,pv F2,pv F2,pg⟩
     ·refine goR F2 ?_
      exact hK50 (l28,l29,a1.B) _ _ (Gh.refl _) ⟨e48,pv F2,pv F2,pv F2,pv F2,pg⟩
    ·obtain⟨l45,l46,i47⟩:=v
     dsimp only at hp
     obtain⟨e48,h6_0,h6_1,g6_0,g6_1,n6_g⟩:=hp
     obtain rfl:=sj e48
     try dsimp only at hs
     have F3:=an h6_0 (an h6_1 (an g6_0 g6_1))
     refine goR F3 ?_
     revert hs;refine cS F3 ?_ ?_<;>intro h57 hs
     ·refine goR F3 ?_
      revert hs;refine bK fun y58 hx59 hs=>?_
      rcases y58 with e60|y61
      ·try dsimp only at hs
       refine cX F3 (zak (c0_2:=(c0_2.toF [.a 0])) (c0_3:=(c0_3.toF [.a 0])) (c0_4:=(c0_4.toF [.a 0])) (c0_5:=(c0_5.toF [.a 0])) (c0_6:=(c0_6.toF [.a 0])) (c0_7:=⟨AC.toF [.a 0] (.own (.sp 7 l46.length (encL l46))),by simp[F3]⟩) (c0_8:=(c0_8.toF [.a 0])) (c0_9:=(c0_9.toF [.a 0])) hx59) [.a 0] (fun v=>?_)
       obtain rfl:=sj hs
       exact hQ _ _ zan
      ·try dsimp only at hs
       refine cB F3 (zak (c0_2:=(c0_2.toF [.a 0])) (c0_3:=(c0_3.toF [.a 0])) (c0_4:=(c0_4.toF [.a 0])) (c0_5:=(c0_5.toF [.a 0])) (c0_6:=(c0_6.toF [.a 0])) (c0_7:=⟨AC.toF [.a 0] (.own (.sp 7 l46.length (encL l46))),by simp[F3]⟩) (c0_8:=(c0_8.toF [.a 0])) (c0_9:=(c0_9.toF [.a 0])) hx59) [.a 0] ?_
       refine goR F3 ?_
       revert hs;refine bK fun y62 hx63 hs=>?_
       rcases y62 with e64|y65
       ·try dsimp only at hs
        refine cX F3 (zfG (c0_2:=(c0_2.toF [.a 0])) (c0_3:=(c0_3.toF [.a 0])) (c0_4:=(c0_4.toF [.a 0])) (c0_5:=(c0_5.toF [.a 0])) (c0_6:=(c0_6.toF [.a 0])) (c0_7:=⟨AC.toF [.a 0] (.own (.sp 7 l46.length (encL l46))),by simp[F3]⟩) (c0_8:=(c0_8.toF [.a 0])) (c0_9:=(c0_9.toF [.a 0])) hx63) [.a 0] (fun v=>?_)
        obtain rfl:=sj hs
        exact hQ _ _ zan
       ·try dsimp only at hs
        refine cB F3 (zfG (c0_2:=(c0_2.toF [.a 0])) (c0_3:=(c0_3.toF [.a 0])) (c0_4:=(c0_4.toF [.a 0])) (c0_5:=(c0_5.toF [.a 0])) (c0_6:=(c0_6.toF [.a 0])) (c0_7:=⟨AC.toF [.a 0] (.own (.sp 7 l46.length (encL l46))),by simp[F3]⟩) (c0_8:=(c0_8.toF [.a 0])) (c0_9:=(c0_9.toF [.a 0])) hx63) [.a 0] ?_
        refine goR F3 ?_
        obtain rfl:=sj hs
        refine hQ _ _ (zaG _ (Gh.refl _) (by simp[St.frz,St.pur,F3];rfl) (by first|rfl |(simp[St.frz,St.pur,F3];done) |(rw[if_pos (by first|omega |(simp;omega))];simp[St.frz,St.pur,F3];first|omega|exact List.take_of_length_le (by simp;omega)|skip)) (pv F3))
     ·refine goR F3 ?_
      revert hs;refine bK fun y66 hx67 hs=>?_
      rcases y66 with e68|y69
      ·try dsimp only at hs
       refine cX F3 (zfG (c0_2:=(c0_2.toF [.a 0])) (c0_3:=(c0_3.toF [.a 0])) (c0_4:=(c0_4.toF [.a 0])) (c0_5:=(c0_5.toF [.a 0])) (c0_6:=(c0_6.toF [.a 0])) (c0_7:=⟨AC.toF [.a 0] (.own (.sp 7 l46.length (encL l46))),by simp[F3]⟩) (c0_8:=(c0_8.toF [.a 0])) (c0_9:=(c0_9.toF [.a 0])) hx67) [.a 0] (fun v=>?_)
       obtain rfl:=sj hs
       exact hQ _ _ zan
      ·try dsimp only at hs
       refine cB F3 (zfG (c0_2:=(c0_2.toF [.a 0])) (c0_3:=(c0_3.toF [.a 0])) (c0_4:=(c0_4.toF [.a 0])) (c0_5:=(c0_5.toF [.a 0])) (c0_6:=(c0_6.toF [.a 0])) (c0_7:=⟨AC.toF [.a 0] (.own (.sp 7 l46.length (encL l46))),by simp[F3]⟩) (c0_8:=(c0_8.toF [.a 0])) (c0_9:=(c0_9.toF [.a 0])) hx67) [.a 0] ?_
       refine goR F3 ?_
       obtain rfl:=sj hs
       refine hQ _ _ (zaG _ (Gh.refl _) (by simp[St.frz,St.pur,F3];rfl) (by first|rfl |(simp[St.frz,St.pur,F3];done) |(rw[if_pos (by first|omega |(simp;omega))];simp[St.frz,St.pur,F3];first|omega|exact List.take_of_length_le (by simp;omega)|skip)) (pv F3))
def zhm(fuelN:Nat)(a0_0:List Token)(a0_1:Int)(a1:Inst):Option (Fault ⊕ ((List Token) × Inst)):=
 cond (eqI a1.Op 1) (Option.bind (zaN a0_0 a0_1) (fun y2=>(match y2 with|.inl e4=>some (.inl e4)|.inr y5=>Option.bind (zds y5.2 a0_1 2) (fun y6=>(match y6 with|.inl e8=>some (.inl e8)|.inr y9=>some (.inr (y9.2,{ a1 with A:=y5.1,N:=y9.1.N }))))))) (cond (eqI a1.Op 2) (Option.bind (zaN a0_0 a0_1) (fun y11=>(match y11 with|.inl e13=>some (.inl e13)|.inr y14=>Option.bind (zaN y14.2 a0_1) (fun y15=>(match y15 with|.inl e17=>some (.inl e17)|.inr y18=>some (.inr (y18.2,{ a1 with A:=y14.1,B:=y18.1 }))))))) (cond (eqI a1.Op 3) (Option.bind (zc9 fuelN a0_0 a0_1) (fun y20=>(match y20 with|.inl e22=>some (.inl e22)|.inr y23=>Option.bind (zaN y23.2 a0_1) (fun y24=>(match y24 with|.inl e26=>some (.inl e26)|.inr y27=>Option.bind (zaN y27.2 a0_1) (fun y28=>(match y28 with|.inl e30=>some (.inl e30)|.inr y31=>Option.bind (zaN y31.2 a0_1) (fun y32=>(match y32 with|.inl e34=>some (.inl e34)|.inr y35=>some (.inr (y35.2,{ a1 with A:=y27.1,B:=y31.1,C:=y35.1,Fn:=y23.1 }))))))))))) (cond (eqI a1.Op 4) (Option.bind (zds a0_0 a0_1 2) (fun y37=>(match y37 with|.inl e39=>some (.inl e39)|.inr y40=>some (.inr (y40.2,{ a1 with N:=y40.1.N }))))) (cond (eqI a1.Op 5) (Option.bind (zaN a0_0 a0_1) (fun y42=>(match y42 with|.inl e44=>some (.inl e44)|.inr y45=>Option.bind (zds y45.2 a0_1 2) (fun y46=>(match y46 with|.inl e48=>some (.inl e48)|.inr y49=>some (.inr (y49.2,{ a1 with B:=y45.1,N:=y49.1.N }))))))) (cond (eqI a1.Op 6) (Option.bind (zaN a0_0 a0_1) (fun y51=>(match y51 with|.inl e53=>some (.inl e53)|.inr y54=>some (.inr (y54.2,{ a1 with B:=y54.1 }))))) (some (.inr (a0_0,a1))))))))
theorem zjY{fuelN:Nat}{c0_2:FC}{c0_3:FC}{c0_4:FC}{c0_5:FC}{c0_6:FC}{c0_7:FC}{c0_8:FC}{c0_9:FC}{a0_0:List Token}{a0_1:Int}{a1:Inst}{r:Fault ⊕ ((List Token) × Inst)}(hs:zhm fuelN a0_0 a0_1 a1=some r):CAt Tryz.prog 88 [.cell (.ref (.a 0) 0),.cell (.ref (.a 1) 0)] [.cells [sC a0_0,nC a0_1,c0_2.ac,c0_3.ac,c0_4.ac,c0_5.ac,c0_6.ac,c0_7.ac,c0_8.ac,c0_9.ac],.cells (eA a1)] (panO panV (fun(r:(List Token) × Inst)=>.tup []) r) (panP (fun(r:(List Token) × Inst)=>[(.a 0,.cells [sC r.1,nC a0_1,c0_2.ac,c0_3.ac,c0_4.ac,c0_5.ac,c0_6.ac,c0_7.ac,c0_8.ac,c0_9.ac]),(.a 1,.cells (eA r.2))]) r):=by
 refine zab (by kernel_rfl) fun hb=>?_
 refine zac mixed Tryz.func88 (by kernel_rfl) rfl (by kernel_rfl) rfl fun Q hQ=>?_
 rw[zhm]at hs
 refine goR f0 ?_
 revert hs;refine cS f0 ?_ ?_<;>intro h1 hs
 ·refine goR f0 ?_
  revert hs;refine bK fun y2 hx3 hs=>?_
  rcases y2 with e4|y5
  ·try dsimp only at hs
   refine cX f0 (zak (c0_2:=(c0_2.toF [.a 0])) (c0_3:=(c0_3.toF [.a 0])) (c0_4:=(c0_4.toF [.a 0])) (c0_5:=(c0_5.toF [.a 0])) (c0_6:=(c0_6.toF [.a 0])) (c0_7:=(c0_7.toF [.a 0])) (c0_8:=(c0_8.toF [.a 0])) (c0_9:=(c0_9.toF [.a 0])) hx3) [.a 0] (fun v=>?_)
   obtain rfl:=sj hs
   exact hQ _ _ zan
  ·try dsimp only at hs
   refine cB f0 (zak (c0_2:=(c0_2.toF [.a 0])) (c0_3:=(c0_3.toF [.a 0])) (c0_4:=(c0_4.toF [.a 0])) (c0_5:=(c0_5.toF [.a 0])) (c0_6:=(c0_6.toF [.a 0])) (c0_7:=(c0_7.toF [.a 0])) (c0_8:=(c0_8.toF [.a 0])) (c0_9:=(c0_9.toF [.a 0])) hx3) [.a 0] ?_
   refine goR f0 ?_
   revert hs;refine bK fun y6 hx7 hs=>?_
   rcases y6 with e8|y9
   ·try dsimp only at hs
    refine cX f0 (zaD (c0_2:=(c0_2.toF [.a 0])) (c0_3:=(c0_3.toF [.a 0])) (c0_4:=(c0_4.toF [.a 0])) (c0_5:=(c0_5.toF [.a 0])) (c0_6:=(c0_6.toF [.a 0])) (c0_7:=(c0_7.toF [.a 0])) (c0_8:=(c0_8.toF [.a 0])) (c0_9:=(c0_9.toF [.a 0])) hx7) [.a 0] (fun v=>?_)
    obtain rfl:=sj hs
    exact hQ _ _ zan
   ·try dsimp only at hs
    refine cB f0 (zaD (c0_2:=(c0_2.toF [.a 0])) (c0_3:=(c0_3.toF [.a 0])) (c0_4:=(c0_4.toF [.a 0])) (c0_5:=(c0_5.toF [.a 0])) (c0_6:=(c0_6.toF [.a 0])) (c0_7:=(c0_7.toF [.a 0])) (c0_8:=(c0_8.toF [.a 0])) (c0_9:=(c0_9.toF [.a 0])) hx7) [.a 0] ?_
    refine goR f0 ?_
    obtain rfl:=sj hs
    refine hQ _ _ (zaG _ (Gh.refl _) (by simp[St.frz,St.pur];rfl) (by first|rfl |(simp[St.frz,St.pur];done) |(rw[if_pos (by first|omega |(simp;omega))];simp[St.frz,St.pur];first|omega|exact List.take_of_length_le (by simp;omega)|skip)) (pv f0))
 ·refine goR f0 ?_
  revert hs;refine cS f0 ?_ ?_<;>intro h10 hs
  ·refine goR f0 ?_
   revert hs;refine bK fun y11 hx12 hs=>?_
   rcases y11 with e13|y14
   ·try dsimp only at hs
    refine cX f0 (zak (c0_2:=(c0_2.toF [.a 0])) (c0_3:=(c0_3.toF [.a 0])) (c0_4:=(c0_4.toF [.a 0])) (c0_5:=(c0_5.toF [.a 0])) (c0_6:=(c0_6.toF [.a 0])) (c0_7:=(c0_7.toF [.a 0])) (c0_8:=(c0_8.toF [.a 0])) (c0_9:=(c0_9.toF [.a 0])) hx12) [.a 0] (fun v=>?_)
    obtain rfl:=sj hs
    exact hQ _ _ zan
   ·try dsimp only at hs
    refine cB f0 (zak (c0_2:=(c0_2.toF [.a 0])) (c0_3:=(c0_3.toF [.a 0])) (c0_4:=(c0_4.toF [.a 0])) (c0_5:=(c0_5.toF [.a 0])) (c0_6:=(c0_6.toF [.a 0])) (c0_7:=(c0_7.toF [.a 0])) (c0_8:=(c0_8.toF [.a 0])) (c0_9:=(c0_9.toF [.a 0])) hx12) [.a 0] ?_
    refine goR f0 ?_
    revert hs;refine bK fun y15 hx16 hs=>?_
    rcases y15 with e17|y18
    ·try dsimp only at hs
     refine cX f0 (zak (c0_2:=(c0_2.toF [.a 0])) (c0_3:=(c0_3.toF [.a 0])) (c0_4:=(c0_4.toF [.a 0])) (c0_5:=(c0_5.toF [.a 0])) (c0_6:=(c0_6.toF [.a 0])) (c0_7:=(c0_7.toF [.a 0])) (c0_8:=(c0_8.toF [.a 0])) (c0_9:=(c0_9.toF [.a 0])) hx16) [.a 0] (fun v=>?_)
     obtain rfl:=sj hs
     exact hQ _ _ zan
    ·try dsimp only at hs
     refine cB f0 (zak (c0_2:=(c0_2.toF [.a 0])) (c0_3:=(c0_3.toF [.a 0])) (c0_4:=(c0_4.toF [.a 0])) (c0_5:=(c0_5.toF [.a 0])) (c0_6:=(c0_6.toF [.a 0])) (c0_7:=(c0_7.toF [.a 0])) (c0_8:=(c0_8.toF [.a 0])) (c0_9:=(c0_9.toF [.a 0])) hx16) [.a 0] ?_
     refine goR f0 ?_
     obtain rfl:=sj hs
     refine hQ _ _ (zaG _ (Gh.refl _) (by simp[St.frz,St.pur];rfl) (by first|rfl |(simp[St.frz,St.pur];done) |(rw[if_pos (by first|omega |(simp;omega))];simp[St.frz,St.pur];first|omega|exact List.take_of_length_le (by simp;omega)|skip)) (pv f0))
  ·refine goR f0 ?_
   revert hs;refine cS f0 ?_ ?_<;>intro h19 hs
   ·refine goR f0 ?_
    revert hs;refine bK fun y20 hx21 hs=>?_
    rcases y20 with e22|y23
    ·try dsimp only at hs
     refine cX f0 (zdx (c0_2:=(c0_2.toF [.a 0])) (c0_3:=(c0_3.toF [.a 0])) (c0_4:=(c0_4.toF [.a 0])) (c0_5:=(c0_5.toF [.a 0])) (c0_6:=(c0_6.toF [.a 0])) (c0_7:=(c0_7.toF [.a 0])) (c0_8:=(c0_8.toF [.a 0])) (c0_9:=(c0_9.toF [.a 0])) hx21) [.a 0] (fun v=>?_)
     obtain rfl:=sj hs
     exact hQ _ _ zan
    ·try dsimp only at hs
     refine cB f0 (zdx (c0_2:=(c0_2.toF [.a 0])) (c0_3:=(c0_3.toF [.a 0])) (c0_4:=(c0_4.toF [.a 0])) (c0_5:=(c0_5.toF [.a 0])) (c0_6:=(c0_6.toF [.a 0])) (c0_7:=(c0_7.toF [.a 0])) (c0_8:=(c0_8.toF [.a 0])) (c0_9:=(c0_9.toF [.a 0])) hx21) [.a 0] ?_
     refine goR f0 ?_
     revert hs;refine bK fun y24 hx25 hs=>?_
     rcases y24 with e26|y27
     ·try dsimp only at hs
      refine cX f0 (zak (c0_2:=(c0_2.toF [.a 0])) (c0_3:=(c0_3.toF [.a 0])) (c0_4:=(c0_4.toF [.a 0])) (c0_5:=(c0_5.toF [.a 0])) (c0_6:=(c0_6.toF [.a 0])) (c0_7:=(c0_7.toF [.a 0])) (c0_8:=(c0_8.toF [.a 0])) (c0_9:=(c0_9.toF [.a 0])) hx25) [.a 0] (fun v=>?_)
      obtain rfl:=sj hs
      exact hQ _ _ zan
     ·try dsimp only at hs
      refine cB f0 (zak (c0_2:=(c0_2.toF [.a 0])) (c0_3:=(c0_3.toF [.a 0])) (c0_4:=(c0_4.toF [.a 0])) (c0_5:=(c0_5.toF [.a 0])) (c0_6:=(c0_6.toF [.a 0])) (c0_7:=(c0_7.toF [.a 0])) (c0_8:=(c0_8.toF [.a 0])) (c0_9:=(c0_9.toF [.a 0])) hx25) [.a 0] ?_
      refine goR f0 ?_
      revert hs;refine bK fun y28 hx29 hs=>?_
      rcases y28 with e30|y31
      ·try dsimp only at hs
       refine cX f0 (zak (c0_2:=(c0_2.toF [.a 0])) (c0_3:=(c0_3.toF [.a 0])) (c0_4:=(c0_4.toF [.a 0])) (c0_5:=(c0_5.toF [.a 0])) (c0_6:=(c0_6.toF [.a 0])) (c0_7:=(c0_7.toF [.a 0])) (c0_8:=(c0_8.toF [.a 0])) (c0_9:=(c0_9.toF [.a 0])) hx29) [.a 0] (fun v=>?_)
       obtain rfl:=sj hs
       exact hQ _ _ zan
      ·try dsimp only at hs
       refine cB f0 (zak (c0_2:=(c0_2.toF [.a 0])) (c0_3:=(c0_3.toF [.a 0])) (c0_4:=(c0_4.toF [.a 0])) (c0_5:=(c0_5.toF [.a 0])) (c0_6:=(c0_6.toF [.a 0])) (c0_7:=(c0_7.toF [.a 0])) (c0_8:=(c0_8.toF [.a 0])) (c0_9:=(c0_9.toF [.a 0])) hx29) [.a 0] ?_
       refine goR f0 ?_
       revert hs;refine bK fun y32 hx33 hs=>?_
       rcases y32 with e34|y35
       ·try dsimp only at hs
        refine cX f0 (zak (c0_2:=(c0_2.toF [.a 0])) (c0_3:=(c0_3.toF [.a 0])) (c0_4:=(c0_4.toF [.a 0])) (c0_5:=(c0_5.toF [.a 0])) (c0_6:=(c0_6.toF [.a 0])) (c0_7:=(c0_7.toF [.a 0])) (c0_8:=(c0_8.toF [.a 0])) (c0_9:=(c0_9.toF [.a 0])) hx33) [.a 0] (fun v=>?_)
        obtain rfl:=sj hs
        exact hQ _ _ zan
       ·try dsimp only at hs
        refine cB f0 (zak (c0_2:=(c0_2.toF [.a 0])) (c0_3:=(c0_3.toF [.a 0])) (c0_4:=(c0_4.toF [.a 0])) (c0_5:=(c0_5.toF [.a 0])) (c0_6:=(c0_6.toF [.a 0])) (c0_7:=(c0_7.toF [.a 0])) (c0_8:=(c0_8.toF [.a 0])) (c0_9:=(c0_9.toF [.a 0])) hx33) [.a 0] ?_
        refine goR f0 ?_
        obtain rfl:=sj hs
        refine hQ _ _ (zaG _ (Gh.refl _) (by simp[St.frz,St.pur];rfl) (by first|rfl |(simp[St.frz,St.pur];done) |(rw[if_pos (by first|omega |(simp;omega))];simp[St.frz,St.pur];first|omega|exact List.take_of_length_le (by simp;omega)|skip)) (pv f0))
   ·refine goR f0 ?_
    revert hs;refine cS f0 ?_ ?_<;>intro h36 hs
    ·refine goR f0 ?_
     revert hs;refine bK fun y37 hx38 hs=>?_
     rcases y37 with e39|y40
     ·try dsimp only at hs
      refine cX f0 (zaD (c0_2:=(c0_2.toF [.a 0])) (c0_3:=(c0_3.toF [.a 0])) (c0_4:=(c0_4.toF [.a 0])) (c0_5:=(c0_5.toF [.a 0])) (c0_6:=(c0_6.toF [.a 0])) (c0_7:=(c0_7.toF [.a 0])) (c0_8:=(c0_8.toF [.a 0])) (c0_9:=(c0_9.toF [.a 0])) hx38) [.a 0] (fun v=>?_)
      obtain rfl:=sj hs
      exact hQ _ _ zan
     ·try dsimp only at hs
      refine cB f0 (zaD (c0_2:=(c0_2.toF [.a 0])) (c0_3:=(c0_3.toF [.a 0])) (c0_4:=(c0_4.toF [.a 0])) (c0_5:=(c0_5.toF [.a 0])) (c0_6:=(c0_6.toF [.a 0])) (c0_7:=(c0_7.toF [.a 0])) (c0_8:=(c0_8.toF [.a 0])) (c0_9:=(c0_9.toF [.a 0])) hx38) [.a 0] ?_
      refine goR f0 ?_
      obtain rfl:=sj hs
      refine hQ _ _ (zaG _ (Gh.refl _) (by simp[St.frz,St.pur];rfl) (by first|rfl |(simp[St.frz,St.pur];done) |(rw[if_pos (by first|omega |(simp;omega))];simp[St.frz,St.pur];first|omega|exact List.take_of_length_le (by simp;omega)|skip)) (pv f0))
    ·refine goR f0 ?_
     revert hs;refine cS f0 ?_ ?_<;>intro h41 hs
     ·refine goR f0 ?_
      revert hs;refine bK fun y42 hx43 hs=>?_
      rcases y42 with e44|y45
      ·try dsimp only at hs
       refine cX f0 (zak (c0_2:=(c0_2.toF [.a 0])) (c0_3:=(c0_3.toF [.a 0])) (c0_4:=(c0_4.toF [.a 0])) (c0_5:=(c0_5.toF [.a 0])) (c0_6:=(c0_6.toF [.a 0])) (c0_7:=(c0_7.toF [.a 0])) (c0_8:=(c0_8.toF [.a 0])) (c0_9:=(c0_9.toF [.a 0])) hx43) [.a 0] (fun v=>?_)
       obtain rfl:=sj hs
       exact hQ _ _ zan
      ·try dsimp only at hs
       refine cB f0 (zak (c0_2:=(c0_2.toF [.a 0])) (c0_3:=(c0_3.toF [.a 0])) (c0_4:=(c0_4.toF [.a 0])) (c0_5:=(c0_5.toF [.a 0])) (c0_6:=(c0_6.toF [.a 0])) (c0_7:=(c0_7.toF [.a 0])) (c0_8:=(c0_8.toF [.a 0])) (c0_9:=(c0_9.toF [.a 0])) hx43) [.a 0] ?_
       refine goR f0 ?_
       revert hs;refine bK fun y46 hx47 hs=>?_
       rcases y46 with e48|y49
       ·try dsimp only at hs
        refine cX f0 (zaD (c0_2:=(c0_2.toF [.a 0])) (c0_3:=(c0_3.toF [.a 0])) (c0_4:=(c0_4.toF [.a 0])) (c0_5:=(c0_5.toF [.a 0])) (c0_6:=(c0_6.toF [.a 0])) (c0_7:=(c0_7.toF [.a 0])) (c0_8:=(c0_8.toF [.a 0])) (c0_9:=(c0_9.toF [.a 0])) hx47) [.a 0] (fun v=>?_)
        obtain rfl:=sj hs
        exact hQ _ _ zan
       ·try dsimp only at hs
        refine cB f0 (zaD (c0_2:=(c0_2.toF [.a 0])) (c0_3:=(c0_3.toF [.a 0])) (c0_4:=(c0_4.toF [.a 0])) (c0_5:=(c0_5.toF [.a 0])) (c0_6:=(c0_6.toF [.a 0])) (c0_7:=(c0_7.toF [.a 0])) (c0_8:=(c0_8.toF [.a 0])) (c0_9:=(c0_9.toF [.a 0])) hx47) [.a 0] ?_
        refine goR f0 ?_
        obtain rfl:=sj hs
        refine hQ _ _ (zaG _ (Gh.refl _) (by simp[St.frz,St.pur];rfl) (by first|rfl |(simp[St.frz,St.pur];done) |(rw[if_pos (by first|omega |(simp;omega))];simp[St.frz,St.pur];first|omega|exact List.take_of_length_le (by simp;omega)|skip)) (pv f0))
     ·refine goR f0 ?_
      revert hs;refine cS f0 ?_ ?_<;>intro h50 hs
      ·refine goR f0 ?_
       revert hs;refine bK fun y51 hx52 hs=>?_
       rcases y51 with e53|y54
       ·try dsimp only at hs
        refine cX f0 (zak (c0_2:=(c0_2.toF [.a 0])) (c0_3:=(c0_3.toF [.a 0])) (c0_4:=(c0_4.toF [.a 0])) (c0_5:=(c0_5.toF [.a 0])) (c0_6:=(c0_6.toF [.a 0])) (c0_7:=(c0_7.toF [.a 0])) (c0_8:=(c0_8.toF [.a 0])) (c0_9:=(c0_9.toF [.a 0])) hx52) [.a 0] (fun v=>?_)
        obtain rfl:=sj hs
        exact hQ _ _ zan
       ·try dsimp only at hs
        refine cB f0 (zak (c0_2:=(c0_2.toF [.a 0])) (c0_3:=(c0_3.toF [.a 0])) (c0_4:=(c0_4.toF [.a 0])) (c0_5:=(c0_5.toF [.a 0])) (c0_6:=(c0_6.toF [.a 0])) (c0_7:=(c0_7.toF [.a 0])) (c0_8:=(c0_8.toF [.a 0])) (c0_9:=(c0_9.toF [.a 0])) hx52) [.a 0] ?_
        refine goR f0 ?_
        obtain rfl:=sj hs
        refine hQ _ _ (zaG _ (Gh.refl _) (by simp[St.frz,St.pur];rfl) (by first|rfl |(simp[St.frz,St.pur];done) |(rw[if_pos (by first|omega |(simp;omega))];simp[St.frz,St.pur];first|omega|exact List.take_of_length_le (by simp;omega)|skip)) (pv f0))
      ·refine goR f0 ?_
       obtain rfl:=sj hs
       refine hQ _ _ (zaG _ (Gh.refl _) (by simp[St.frz,St.pur];rfl) (by first|rfl |(simp[St.frz,St.pur];done) |(rw[if_pos (by first|omega |(simp;omega))];simp[St.frz,St.pur];first|omega|exact List.take_of_length_le (by simp;omega)|skip)) (pv f0))
def zf7(a0_0:List Token)(a0_1:Int)(a0_7:List ANm)(a1:Inst)(a2:Int)(a3:Int):Option (Fault ⊕ ((List Token) × (List ANm) × Inst)):=
 Option.bind (α:=Bool × (List ANm)) (cond (eqI a1.Op 15) (some ((eqI a1.Op 15,a0_7))) (some ((eqI a1.Op 16,a0_7)))) (fun o=>match o with |(b2,l3)=>cond b2 (Option.bind (zcp a0_0 a0_1 l3 (⟨#[109,117,116,101,120]⟩:ByteArray) a2 a3) (fun y10=>(match y10 with|.inl e12=>some (.inl e12)|.inr y13=>some (.inr (y13.1,y13.2,a1))))) (cond (eqI a1.Op 17) (Option.bind (zaN a0_0 a0_1) (fun y15=>(match y15 with|.inl e17=>some (.inl e17)|.inr y18=>Option.bind (zcp y18.2 a0_1 l3 (⟨#[109,117,116,101,120]⟩:ByteArray) a2 a3) (fun y19=>(match y19 with|.inl e21=>some (.inl e21)|.inr y22=>some (.inr (y22.1,y22.2,{ a1 with A:=y18.1 }))))))) (cond (eqI a1.Op 18) (Option.bind (zcp a0_0 a0_1 l3 (⟨#[99,111,110,100]⟩:ByteArray) a2 a3) (fun y24=>(match y24 with|.inl e26=>some (.inl e26)|.inr y27=>Option.bind (zcp y27.1 a0_1 y27.2 (⟨#[111,102,32,119,97,105,116]⟩:ByteArray) a2 a3) (fun y28=>(match y28 with|.inl e30=>some (.inl e30)|.inr y31=>some (.inr (y31.1,y31.2,a1))))))) (Option.bind (α:=Bool × (List ANm)) (cond (eqI a1.Op 19) (some ((eqI a1.Op 19,l3))) (some ((eqI a1.Op 20,l3)))) (fun o=>match o with |(b33,l34)=>cond b33 (Option.bind (zcp a0_0 a0_1 l34 (⟨#[99,111,110,100]⟩:ByteArray) a2 a3) (fun y41=>(match y41 with|.inl e43=>some (.inl e43)|.inr y44=>some (.inr (y44.1,y44.2,a1))))) (cond (eqI a1.Op 21) (Option.bind (zaN a0_0 a0_1) (fun y46=>(match y46 with|.inl e48=>some (.inl e48)|.inr y49=>Option.bind (zcp y49.2 a0_1 l34 (⟨#[102,117,110,99]⟩:ByteArray) a2 a3) (fun y50=>(match y50 with|.inl e52=>some (.inl e52)|.inr y53=>Option.bind (zaN y53.1 a0_1) (fun y54=>(match y54 with|.inl e56=>some (.inl e56)|.inr y57=>some (.inr (y57.2,y53.2,{ a1 with A:=y49.1,B:=y57.1 }))))))))) (cond (eqI a1.Op 22) (Option.bind (zaN a0_0 a0_1) (fun y59=>(match y59 with|.inl e61=>some (.inl e61)|.inr y62=>some (.inr (y62.2,l34,{ a1 with B:=y62.1 }))))) (some (.inr (a0_0,l34,a1))))))))))
theorem zjX{c0_2:FC}{c0_3:FC}{c0_4:FC}{c0_5:FC}{c0_6:FC}{c0_8:FC}{c0_9:FC}{a0_0:List Token}{a0_1:Int}{a0_7:List ANm}{a1:Inst}{a2:Int}{a3:Int}{r:Fault ⊕ ((List Token) × (List ANm) × Inst)}(hs:zf7 a0_0 a0_1 a0_7 a1 a2 a3=some r):CAt Tryz.prog 89 [.cell (.ref (.a 0) 0),.cell (.ref (.a 1) 0),iV .i64 a2,iV .i64 a3] [.cells [sC a0_0,nC a0_1,c0_2.ac,c0_3.ac,c0_4.ac,c0_5.ac,c0_6.ac,.own (.sp 7 a0_7.length (encL a0_7)),c0_8.ac,c0_9.ac],.cells (eA a1)] (panO panV (fun(r:(List Token) × (List ANm) × Inst)=>.tup []) r) (panP (fun(r:(List Token) × (List ANm) × Inst)=>[(.a 0,.cells [sC r.1,nC a0_1,c0_2.ac,c0_3.ac,c0_4.ac,c0_5.ac,c0_6.ac,.own (.sp 7 r.2.1.length (encL r.2.1)),c0_8.ac,c0_9.ac]),(.a 1,.cells (eA r.2.2))]) r):=by
 refine zab (by kernel_rfl) fun hb=>?_
 refine zac mixed Tryz.func89 (by kernel_rfl) rfl (by kernel_rfl) rfl fun Q hQ=>?_
 rw[zf7]at hs
 refine goR2 f0 ?_
 refine zdr ?_
 refine goR2 f0 ?_
 revert hs;refine bK fun o5 e4 hs=>?_
 refine zdd (fun(v:Bool × (List ANm)) (σ:St)=>some (v)=some o5 /\ σ.env 0=.cell (.ref (.a 0) 0) /\ σ.env 1=.cell (.ref (.a 1) 0) /\ σ.env 2=iV .i64 a2 /\ σ.env 3=iV .i64 a3 /\ σ.env 11=iV .i64 a1.Op /\ σ.env 12=bV v.1 /\ σ.hp (.a 0)=some (.cells [sC a0_0,nC a0_1,c0_2.ac,c0_3.ac,c0_4.ac,c0_5.ac,c0_6.ac,.own (.sp 7 v.2.length (encL v.2)),c0_8.ac,c0_9.ac]) /\ σ.hp (.a 1)=some (.cells (eA a1)) /\ 2<=σ.gen) (fun Q hK6 hX7=>?_) (fun v σ1 hp=>?_)
 ·refine goR f0 ?_
  revert e4;refine cS f0 ?_ ?_<;>intro h8 e4
  ·refine goR f0 ?_
   exact hK6 (eqI a1.Op 15,a0_7) _ ⟨e4,pv f0,pv f0,pv f0,pv f0,pv f0,pv f0,pv f0,pv f0,pg⟩
  ·refine goR f0 ?_
   exact hK6 (eqI a1.Op 16,a0_7) _ ⟨e4,pv f0,pv f0,pv f0,pv f0,pv f0,pv f0,pv f0,pv f0,pg⟩
 ·obtain⟨b2,l3⟩:=v
  dsimp only at hp
  obtain⟨e4,h2_0,h2_1,h2_2,h2_3,h2_11,h2_12,g2_0,g2_1,n2_g⟩:=hp
  obtain rfl:=sj e4
  try dsimp only at hs
  have F1:=an h2_0 (an h2_1 (an h2_2 (an h2_3 (an h2_11 (an h2_12 (an g2_0 g2_1))))))
  refine goR F1 ?_
  revert hs;refine cS F1 ?_ ?_<;>intro h9 hs
  ·refine goR F1 ?_
   revert hs;refine bK fun y10 hx11 hs=>?_
   rcases y10 with e12|y13
   ·try dsimp only at hs
    refine cX F1 (zaS (c0_2:=(c0_2.toF [.a 0])) (c0_3:=(c0_3.toF [.a 0])) (c0_4:=(c0_4.toF [.a 0])) (c0_5:=(c0_5.toF [.a 0])) (c0_6:=(c0_6.toF [.a 0])) (c0_8:=(c0_8.toF [.a 0])) (c0_9:=(c0_9.toF [.a 0])) hx11) [.a 0] (fun v=>?_)
    obtain rfl:=sj hs
    exact hQ _ _ zan
   ·try dsimp only at hs
    refine cB F1 (zaS (c0_2:=(c0_2.toF [.a 0])) (c0_3:=(c0_3.toF [.a 0])) (c0_4:=(c0_4.toF [.a 0])) (c0_5:=(c0_5.toF [.a 0])) (c0_6:=(c0_6.toF [.a 0])) (c0_8:=(c0_8.toF [.a 0])) (c0_9:=(c0_9.toF [.a 0])) hx11) [.a 0] ?_
    refine goR F1 ?_
    obtain rfl:=sj hs
    refine hQ _ _ (zaG _ (Gh.refl _) (by simp[St.frz,St.pur,F1];rfl) (by first|rfl |(simp[St.frz,St.pur,F1];done) |(rw[if_pos (by first|omega |(simp;omega))];simp[St.frz,St.pur,F1];first|omega|exact List.take_of_length_le (by simp;omega)|skip)) (pv F1))
  ·refine goR F1 ?_
   revert hs;refine cS F1 ?_ ?_<;>intro h14 hs
   ·refine goR F1 ?_
    revert hs;refine bK fun y15 hx16 hs=>?_
    rcases y15 with e17|y18
    ·try dsimp only at hs
     refine cX F1 (zak (c0_2:=(c0_2.toF [.a 0])) (c0_3:=(c0_3.toF [.a 0])) (c0_4:=(c0_4.toF [.a 0])) (c0_5:=(c0_5.toF [.a 0])) (c0_6:=(c0_6.toF [.a 0])) (c0_7:=⟨AC.toF [.a 0] (.own (.sp 7 l3.length (encL l3))),by simp[F1]⟩) (c0_8:=(c0_8.toF [.a 0])) (c0_9:=(c0_9.toF [.a 0])) hx16) [.a 0] (fun v=>?_)
     obtain rfl:=sj hs
     exact hQ _ _ zan
    ·try dsimp only at hs
     refine cB F1 (zak (c0_2:=(c0_2.toF [.a 0])) (c0_3:=(c0_3.toF [.a 0])) (c0_4:=(c0_4.toF [.a 0])) (c0_5:=(c0_5.toF [.a 0])) (c0_6:=(c0_6.toF [.a 0])) (c0_7:=⟨AC.toF [.a 0] (.own (.sp 7 l3.length (encL l3))),by simp[F1]⟩) (c0_8:=(c0_8.toF [.a 0])) (c0_9:=(c0_9.toF [.a 0])) hx16) [.a 0] ?_
     refine goR F1 ?_
     revert hs;refine bK fun y19 hx20 hs=>?_
     rcases y19 with e21|y22
     ·try dsimp only at hs
      refine cX F1 (zaS (c0_2:=(c0_2.toF [.a 0])) (c0_3:=(c0_3.toF [.a 0])) (c0_4:=(c0_4.toF [.a 0])) (c0_5:=(c0_5.toF [.a 0])) (c0_6:=(c0_6.toF [.a 0])) (c0_8:=(c0_8.toF [.a 0])) (c0_9:=(c0_9.toF [.a 0])) hx20) [.a 0] (fun v=>?_)
      obtain rfl:=sj hs
      exact hQ _ _ zan
     ·try dsimp only at hs
      refine cB F1 (zaS (c0_2:=(c0_2.toF [.a 0])) (c0_3:=(c0_3.toF [.a 0])) (c0_4:=(c0_4.toF [.a 0])) (c0_5:=(c0_5.toF [.a 0])) (c0_6:=(c0_6.toF [.a 0])) (c0_8:=(c0_8.toF [.a 0])) (c0_9:=(c0_9.toF [.a 0])) hx20) [.a 0] ?_
      refine goR F1 ?_
      obtain rfl:=sj hs
      refine hQ _ _ (zaG _ (Gh.refl _) (by simp[St.frz,St.pur,F1];rfl) (by first|rfl |(simp[St.frz,St.pur,F1];done) |(rw[if_pos (by first|omega |(simp;omega))];simp[St.frz,St.pur,F1];first|omega|exact List.take_of_length_le (by simp;omega)|skip)) (pv F1))
   ·refine goR F1 ?_
    revert hs;refine cS F1 ?_ ?_<;>intro h23 hs
    ·refine goR F1 ?_
     revert hs;refine bK fun y24 hx25 hs=>?_
     rcases y24 with e26|y27
     ·try dsimp only at hs
      refine cX F1 (zaS (c0_2:=(c0_2.toF [.a 0])) (c0_3:=(c0_3.toF [.a 0])) (c0_4:=(c0_4.toF [.a 0])) (c0_5:=(c0_5.toF [.a 0])) (c0_6:=(c0_6.toF [.a 0])) (c0_8:=(c0_8.toF [.a 0])) (c0_9:=(c0_9.toF [.a 0])) hx25) [.a 0] (fun v=>?_)
      obtain rfl:=sj hs
      exact hQ _ _ zan
     ·try dsimp only at hs
      refine cB F1 (zaS (c0_2:=(c0_2.toF [.a 0])) (c0_3:=(c0_3.toF [.a 0])) (c0_4:=(c0_4.toF [.a 0])) (c0_5:=(c0_5.toF [.a 0])) (c0_6:=(c0_6.toF [.a 0])) (c0_8:=(c0_8.toF [.a 0])) (c0_9:=(c0_9.toF [.a 0])) hx25) [.a 0] ?_
      refine goR F1 ?_
      revert hs;refine bK fun y28 hx29 hs=>?_
      rcases y28 with e30|y31
      ·try dsimp only at hs
       refine cX F1 (zaS (c0_2:=(c0_2.toF [.a 0])) (c0_3:=(c0_3.toF [.a 0])) (c0_4:=(c0_4.toF [.a 0])) (c0_5:=(c0_5.toF [.a 0])) (c0_6:=(c0_6.toF [.a 0])) (c0_8:=(c0_8.toF [.a 0])) (c0_9:=(c0_9.toF [.a 0])) hx29) [.a 0] (fun v=>?_)
       obtain rfl:=sj hs
       exact hQ _ _ zan
      ·try dsimp only at hs
       refine cB F1 (zaS (c0_2:=(c0_2.toF [.a 0])) (c0_3:=(c0_3.toF [.a 0])) (c0_4:=(c0_4.toF [.a 0])) (c0_5:=(c0_5.toF [.a 0])) (c0_6:=(c0_6.toF [.a 0])) (c0_8:=(c0_8.toF [.a 0])) (c0_9:=(c0_9.toF [.a 0])) hx29) [.a 0] ?_
       refine goR F1 ?_
       obtain rfl:=sj hs
       refine hQ _ _ (zaG _ (Gh.refl _) (by simp[St.frz,St.pur,F1];rfl) (by first|rfl |(simp[St.frz,St.pur,F1];done) |(rw[if_pos (by first|omega |(simp;omega))];simp[St.frz,St.pur,F1];first|omega|exact List.take_of_length_le (by simp;omega)|skip)) (pv F1))
    ·refine goR2 F1 ?_
     revert hs;refine bK fun o36 e35 hs=>?_
     refine zdd (fun(v:Bool × (List ANm)) (σ:St)=>some (v)=some o36 /\ σ.env 0=.cell (.ref (.a 0) 0) /\ σ.env 1=.cell (.ref (.a 1) 0) /\ σ.env 2=iV .i64 a2 /\ σ.env 3=iV .i64 a3 /\ σ.env 11=iV .i64 a1.Op /\ σ.env 40=bV v.1 /\ σ.hp (.a 0)=some (.cells [sC a0_0,nC a0_1,c0_2.ac,c0_3.ac,c0_4.ac,c0_5.ac,c0_6.ac,.own (.sp 7 v.2.length (encL v.2)),c0_8.ac,c0_9.ac]) /\ σ.hp (.a 1)=some (.cells (eA a1)) /\ (σ1.gen+3)<=σ.gen) (fun Q hK37 hX38=>?_) (fun v σ3 hp=>?_)
     ·refine goR F1 ?_
      revert e35;refine cS F1 ?_ ?_<;>intro h39 e35
      ·refine goR F1 ?_
       exact hK37 (eqI a1.Op 19,l3) _ ⟨e35,pv F1,pv F1,pv F1,pv F1,pv F1,pv F1,pv F1,pv F1,pg⟩
      ·refine goR F1 ?_
       exact hK37 (eqI a1.Op 20,l3) _ ⟨e35,pv F1,pv F1,pv F1,pv F1,pv F1,pv F1,pv F1,pv F1,pg⟩
     ·obtain⟨b33,l34⟩:=v
      dsimp only at hp
      obtain⟨e35,h4_0,h4_1,h4_2,h4_3,h4_11,h4_40,g4_0,g4_1,n4_g⟩:=hp
      obtain rfl:=sj e35
      try dsimp only at hs
      have F2:=an h4_0 (an h4_1 (an h4_2 (an h4_3 (an h4_11 (an h4_40 (an g4_0 g4_1))))))
      refine goR F2 ?_
      revert hs;refine cS F2 ?_ ?_<;>intro h40 hs
      ·refine goR F2 ?_
       revert hs;refine bK fun y41 hx42 hs=>?_
       rcases y41 with e43|y44
       ·try dsimp only at hs
        refine cX F2 (zaS (c0_2:=(c0_2.toF [.a 0])) (c0_3:=(c0_3.toF [.a 0])) (c0_4:=(c0_4.toF [.a 0])) (c0_5:=(c0_5.toF [.a 0])) (c0_6:=(c0_6.toF [.a 0])) (c0_8:=(c0_8.toF [.a 0])) (c0_9:=(c0_9.toF [.a 0])) hx42) [.a 0] (fun v=>?_)
        obtain rfl:=sj hs
        exact hQ _ _ zan
       ·try dsimp only at hs
        refine cB F2 (zaS (c0_2:=(c0_2.toF [.a 0])) (c0_3:=(c0_3.toF [.a 0])) (c0_4:=(c0_4.toF [.a 0])) (c0_5:=(c0_5.toF [.a 0])) (c0_6:=(c0_6.toF [.a 0])) (c0_8:=(c0_8.toF [.a 0])) (c0_9:=(c0_9.toF [.a 0])) hx42) [.a 0] ?_
        refine goR F2 ?_
        obtain rfl:=sj hs
        refine hQ _ _ (zaG _ (Gh.refl _) (by simp[St.frz,St.pur,F2];rfl) (by first|rfl |(simp[St.frz,St.pur,F2];done) |(rw[if_pos (by first|omega |(simp;omega))];simp[St.frz,St.pur,F2];first|omega|exact List.take_of_length_le (by simp;omega)|skip)) (pv F2))
      ·refine goR F2 ?_
       revert hs;refine cS F2 ?_ ?_<;>intro h45 hs
       ·refine goR F2 ?_
        revert hs;refine bK fun y46 hx47 hs=>?_
        rcases y46 with e48|y49
        ·try dsimp only at hs
         refine cX F2 (zak (c0_2:=(c0_2.toF [.a 0])) (c0_3:=(c0_3.toF [.a 0])) (c0_4:=(c0_4.toF [.a 0])) (c0_5:=(c0_5.toF [.a 0])) (c0_6:=(c0_6.toF [.a 0])) (c0_7:=⟨AC.toF [.a 0] (.own (.sp 7 l34.length (encL l34))),by simp[F2]⟩) (c0_8:=(c0_8.toF [.a 0])) (c0_9:=(c0_9.toF [.a 0])) hx47) [.a 0] (fun v=>?_)
         obtain rfl:=sj hs
         exact hQ _ _ zan
        ·try dsimp only at hs
         refine cB F2 (zak (c0_2:=(c0_2.toF [.a 0])) (c0_3:=(c0_3.toF [.a 0])) (c0_4:=(c0_4.toF [.a 0])) (c0_5:=(c0_5.toF [.a 0])) (c0_6:=(c0_6.toF [.a 0])) (c0_7:=⟨AC.toF [.a 0] (.own (.sp 7 l34.length (encL l34))),by simp[F2]⟩) (c0_8:=(c0_8.toF [.a 0])) (c0_9:=(c0_9.toF [.a 0])) hx47) [.a 0] ?_
         refine goR F2 ?_
         revert hs;refine bK fun y50 hx51 hs=>?_
         rcases y50 with e52|y53
         ·try dsimp only at hs
          refine cX F2 (zaS (c0_2:=(c0_2.toF [.a 0])) (c0_3:=(c0_3.toF [.a 0])) (c0_4:=(c0_4.toF [.a 0])) (c0_5:=(c0_5.toF [.a 0])) (c0_6:=(c0_6.toF [.a 0])) (c0_8:=(c0_8.toF [.a 0])) (c0_9:=(c0_9.toF [.a 0])) hx51) [.a 0] (fun v=>?_)
          obtain rfl:=sj hs
          exact hQ _ _ zan
         ·try dsimp only at hs
          refine cB F2 (zaS (c0_2:=(c0_2.toF [.a 0])) (c0_3:=(c0_3.toF [.a 0])) (c0_4:=(c0_4.toF [.a 0])) (c0_5:=(c0_5.toF [.a 0])) (c0_6:=(c0_6.toF [.a 0])) (c0_8:=(c0_8.toF [.a 0])) (c0_9:=(c0_9.toF [.a 0])) hx51) [.a 0] ?_
          refine goR F2 ?_
          revert hs;refine bK fun y54 hx55 hs=>?_
          rcases y54 with e56|y57
          ·try dsimp only at hs
           refine cX F2 (zak (c0_2:=(c0_2.toF [.a 0])) (c0_3:=(c0_3.toF [.a 0])) (c0_4:=(c0_4.toF [.a 0])) (c0_5:=(c0_5.toF [.a 0])) (c0_6:=(c0_6.toF [.a 0])) (c0_7:=⟨AC.toF [.a 0] (.own (.sp 7 y53.2.length (encL y53.2))),by simp[F2]⟩) (c0_8:=(c0_8.toF [.a 0])) (c0_9:=(c0_9.toF [.a 0])) hx55) [.a 0] (fun v=>?_)
           obtain rfl:=sj hs
           exact hQ _ _ zan
          ·try dsimp only at hs
           refine cB F2 (zak (c0_2:=(c0_2.toF [.a 0])) (c0_3:=(c0_3.toF [.a 0])) (c0_4:=(c0_4.toF [.a 0])) (c0_5:=(c0_5.toF [.a 0])) (c0_6:=(c0_6.toF [.a 0])) (c0_7:=⟨AC.toF [.a 0] (.own (.sp 7 y53.2.length (encL y53.2))),by simp[F2]⟩) (c0_8:=(c0_8.toF [.a 0])) (c0_9:=(c0_9.toF [.a 0])) hx55) [.a 0] ?_
           refine goR F2 ?_
           obtain rfl:=sj hs
           refine hQ _ _ (zaG _ (Gh.refl _) (by simp[St.frz,St.pur,F2];rfl) (by first|rfl |(simp[St.frz,St.pur,F2];done) |(rw[if_pos (by first|omega |(simp;omega))];simp[St.frz,St.pur,F2];first|omega|exact List.take_of_length_le (by simp;omega)|skip)) (pv F2))
       ·refine goR F2 ?_
        revert hs;refine cS F2 ?_ ?_<;>intro h58 hs
        ·refine goR F2 ?_
         revert hs;refine bK fun y59 hx60 hs=>?_
         rcases y59 with e61|y62
         ·try dsimp only at hs
          refine cX F2 (zak (c0_2:=(c0_2.toF [.a 0])) (c0_3:=(c0_3.toF [.a 0])) (c0_4:=(c0_4.toF [.a 0])) (c0_5:=(c0_5.toF [.a 0])) (c0_6:=(c0_6.toF [.a 0])) (c0_7:=⟨AC.toF [.a 0] (.own (.sp 7 l34.length (encL l34))),by simp[F2]⟩) (c0_8:=(c0_8.toF [.a 0])) (c0_9:=(c0_9.toF [.a 0])) hx60) [.a 0] (fun v=>?_)
          obtain rfl:=sj hs
          exact hQ _ _ zan
         ·try dsimp only at hs
          refine cB F2 (zak (c0_2:=(c0_2.toF [.a 0])) (c0_3:=(c0_3.toF [.a 0])) (c0_4:=(c0_4.toF [.a 0])) (c0_5:=(c0_5.toF [.a 0])) (c0_6:=(c0_6.toF [.a 0])) (c0_7:=⟨AC.toF [.a 0] (.own (.sp 7 l34.length (encL l34))),by simp[F2]⟩) (c0_8:=(c0_8.toF [.a 0])) (c0_9:=(c0_9.toF [.a 0])) hx60) [.a 0] ?_
          refine goR F2 ?_
          obtain rfl:=sj hs
          refine hQ _ _ (zaG _ (Gh.refl _) (by simp[St.frz,St.pur,F2];rfl) (by first|rfl |(simp[St.frz,St.pur,F2];done) |(rw[if_pos (by first|omega |(simp;omega))];simp[St.frz,St.pur,F2];first|omega|exact List.take_of_length_le (by simp;omega)|skip)) (pv F2))
        ·refine goR F2 ?_
         obtain rfl:=sj hs
         refine hQ _ _ (zaG _ (Gh.refl _) (by simp[St.frz,St.pur,F2];rfl) (by first|rfl |(simp[St.frz,St.pur,F2];done) |(rw[if_pos (by first|omega |(simp;omega))];simp[St.frz,St.pur,F2];first|omega|exact List.take_of_length_le (by simp;omega)|skip)) (pv F2))
end Go.Dc
end
