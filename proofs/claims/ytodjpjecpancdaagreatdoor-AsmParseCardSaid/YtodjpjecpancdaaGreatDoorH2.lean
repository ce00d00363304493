/- Contracts of functions, by their numbers, and the laws that walk them. Conditions: as each states. -/
import Derived.Test.YtodjpjecpancdaaGreatDoorH1
import Derived.Scope
import Derived.OrdersIn
import Derived.RangeFuncNested
import Derived.RangeFuncRecord
import Derived.RangeFuncLeaves
import Derived.RangeFuncCalls
import Derived.Laws.Cover3
set_option linter.all false
set_option maxRecDepth 100000
set_option maxHeartbeats 4000000
section
namespace Go.Hw
variable [Globals]
open Go.RowKit (Below)
def AV.mp(f:AC->AC):AV->AV
 |.cell x=>.cell (f x)
 |.agg xs=>.agg (xs.map f)
 |.tup xs=>.tup (go xs)
 |.bad=>.bad
where
 go:List AV->List AV
  |[]=>[]
  |x::xs=>x.mp f::go xs
theorem zwd(f:AC->AC)(xs:List AV):AV.mp.go f xs=xs.map (·.mp f):=by
 induction xs with
 |nil=>rfl
 |cons x xs ih=>simp[AV.mp.go,ih]
def Blk.mp(f:AC->AC):Blk->Blk
 |.cells l=>.cells (l.map f)
 |.pure l=>.pure l
 |.map ks vs=>.map ks (vs.map f)
def CV.isC:CV->Bool
 |.c _=>true
 |_=>false
def zfl:OT->Bool
 |.p c=>c.isC
 |.sp _ _ l=>l.all CV.isC
 |.sl _ _ l=>go l
where
 go:List OT->Bool
  |[]=>true
  |x::r=>zfl x && go r
def AC.flat:AC->Bool
 |.p c=>c.isC
 |.ep _ _=>false
 |.fn _ caps=>caps.all fun c=>match c with|.inr c=>c.isC|_=>true
 |.own t=>zfl t
 |_=>true
def AV.flat:AV->Bool
 |.cell x=>x.flat
 |.agg xs=>xs.all AC.flat
 |.tup xs=>go xs
 |.bad=>true
where
 go:List AV->Bool
  |[]=>true
  |x::xs=>x.flat && go xs
def Blk.flat:Blk->Bool
 |.cells l=>l.all AC.flat
 |.pure l=>l.all CV.isC
 |.map _ vs=>vs.all AC.flat
theorem zk3(l:List OT):zfl.go l=l.all zfl:=by
 induction l with
 |nil=>rfl
 |cons x l ih=>simp[zfl.go,ih]
theorem zpU(l:List AV):AV.flat.go l=l.all AV.flat:=by
 induction l with
 |nil=>rfl
 |cons x l ih=>simp[AV.flat.go,ih]
theorem zmA{w:World}{bad bad':Nat->Prop}{v:Value}{c:CV}(h:CRep w bad v c)(hc:c.isC=true):CRep w bad' v c:=by
 cases h with
 |c v=>exact .c v
 |_=>cases hc
theorem OTR.flat{w:World}{bad bad':Nat->Prop}{v:Value}{t:OT}{hs:List Nat}(h:OTR w bad v t hs):zfl t=true->OTR w bad' v t hs:=by
 induction h with
 |p v c h=>exact fun hf=>.p v c (zmA h hf)
 |z a sz=>exact fun _=>.z a sz
 |zp a sz=>exact fun _=>.zp a sz
 |sp g base n cap cur e fr sz cells hg hfr hn hm hs hl ho h=>
  exact fun hf=>.sp g base n cap cur e fr sz cells hg hfr hn hm hs hl ho fun j u t hu ht=>zmA (h j u t hu ht) (List.all_eq_true.1 hf t (List.mem_of_getElem? ht))
 |sl g base n cap cur e fr sz cells hss hg hfr hn hm hs hl hhl ho h ih=>
  intro hf
  simp only[zfl,zk3]at hf
  exact .sl g base n cap cur e fr sz cells hss hg hfr hn hm hs hl hhl ho fun j u t hs' hu ht hh=>ih j u t hs' hu ht hh (List.all_eq_true.1 hf t (List.mem_of_getElem? ht))
structure Mp (w:World) (bad0:Nat->Prop) (m:Mem) (bad0':Nat->Prop) (m':Mem) (f:AC->AC) (F:Bool):Prop where
 ac:∀ v c,(F=true->c.flat=true)->zbN w m bad0 v c->zbN w m' bad0' v (f c)
 own:∀ t,f (.own t)=.own t
 ot:∀ v t hs,(F=true->zfl t=true)->OTR w (Bad m bad0) v t hs->OTR w (Bad m' bad0') v t hs
 pu:∀ c,f (.p c)=.p c
section
variable {C:Cx} {st:St} {a:Act} {w w':World} {m m':Mem} {bad0 bad0' prot:Nat->Prop} {f:AC->AC} {F:Bool}
theorem Mp.av(M:Mp w bad0 m bad0' m' f F){v:Value}{x:AV}(h:AVRep w m bad0 v x):(F=true->x.flat=true)->AVRep w m' bad0' v (x.mp f):=by
 induction h with
 |cell v x h=>exact fun hF=>.cell _ _ (M.ac v x hF h)
 |agg cs xs hl ho h=>
  refine fun hF=>.agg cs _ (by simpa using hl) ho fun j u x hu hx=>?_
  rw[List.getElem?_map]at hx
  cases hj:xs[j]? with
  |none=>simp[hj]at hx
  |some y=>simp[hj]at hx;subst hx;exact M.ac u y (fun e=>List.all_eq_true.1 (hF e) y (List.mem_of_getElem? hj)) (h j u y hu hj)
 |tup vs xs hl h ih=>
  intro hF
  simp only[AV.mp,zwd]
  refine .tup vs _ (by simpa using hl) fun j u x hu hx=>?_
  rw[List.getElem?_map]at hx
  cases hj:xs[j]? with
  |none=>simp[hj]at hx
  |some y=>
   simp[hj]at hx;subst hx
   refine ih j u y hu hj fun e=>?_
   have:=hF e
   simp only[AV.flat,zpU]at this
   exact List.all_eq_true.1 this y (List.mem_of_getElem? hj)
 |bad v=>exact fun _=>.bad v
theorem Mp.cell(M:Mp w bad0 m bad0' m' f F){hs:List Nat}{v:Value}{x:AC}(hF:F=true->x.flat=true)(h:zeV w m bad0 hs v x):zeV w m' bad0' hs v (f x):=by
 by_cases hx:∃ t,x=.own t
 ·obtain⟨t,rfl⟩:=hx
  rw[M.own]
  exact M.ot v t hs hF h
 ·have h1:zbN w m bad0 v x:=by cases x<;>first|exact h|exact(hx ⟨_,rfl⟩).elim
  have h2:=M.ac v x hF h1
  revert h2
  cases f x<;>intro h2<;>first|exact h2|exact h2.elim
theorem Mp.cells(M:Mp w bad0 m bad0' m' f F){i i':Id}(h1:m'.ρ i'=m.ρ i)(h2:∀ k,m'.hid i' k=m.hid i k){l:List AC}(hF:F=true->∀ x ∈ l,x.flat=true)(h:zaq w m bad0 i l):zaq w m' bad0' i' (l.map f):=by
 unfold zaq at h ⊢
 rw[h1]
 cases hs:m.ρ i with
 |un=>rw[hs]at h;exact h
 |dead=>rw[hs]at h;exact h
 |vd=>rw[hs]at h;simp only at h ⊢;rw[h];rfl
 |at_ g base=>
  rw[hs]at h
  obtain⟨cur,e,fr,hg,hfr,hl,hc⟩:=h
  refine⟨cur,e,fr,hg,hfr,by simpa using hl,fun j u x hu hx=>?_⟩
  rw[List.getElem?_map]at hx
  cases hj:l[j]? with
  |none=>simp[hj]at hx
  |some y=>
   simp[hj]at hx;subst hx
   obtain⟨h3,h4⟩:=hc j u y hu hj
   exact⟨h3,by rw[h2];exact M.cell (fun e=>hF e y (List.mem_of_getElem? hj)) h4⟩
theorem Mp.blk(M:Mp w bad0 m bad0' m' f F){i i':Id}(h1:m'.ρ i'=m.ρ i)(h2:∀ k,m'.hid i' k=m.hid i k){b:Blk}(hF:F=true->b.flat=true)(h:BlkR w m bad0 i b):BlkR w m' bad0' i' (b.mp f):=by
 cases b with
 |cells l=>exact M.cells h1 h2 (fun e=>List.all_eq_true.1 (hF e)) h
 |pure l=>
  have:=M.cells h1 h2 (l:=l.map .p) (fun e x hx=>by
   obtain⟨c,hc,rfl⟩:=List.mem_map.1 hx
   exact List.all_eq_true.1 (hF e) c hc) h
  have e:(l.map AC.p).map f=l.map .p:=by rw[List.map_map];exact List.map_congr_left fun c _=>M.pu c
  rw[e]at this;exact this
 |map ks vs=>
  obtain⟨g,base,raws,h5,h6,h7,h8⟩:=h
  refine⟨g,base,raws,by rw[h1];exact h5,h6,by simpa using h7,fun j u x hu hx=>?_⟩
  rw[List.getElem?_map]at hx
  cases hj:vs[j]? with
  |none=>simp[hj]at hx
  |some y=>simp[hj]at hx;subst hx;exact⟨(h8 j u y hu hj).1,M.ac u y (fun e=>List.all_eq_true.1 (hF e) y (List.mem_of_getElem? hj)) (h8 j u y hu hj).2⟩
theorem ziN{cs:List CV}{g:Nat}(hp:Hx w (Bad m bad0) w' (Bad m' bad0'))(h:AVRep w m bad0 (.pointer (some ⟨g,0,none⟩)) (.cell (.ep cs 0))):AVRep w' m' bad0' (.pointer (some ⟨g,0,none⟩)) (.cell (.ep cs 0)):=by
 cases h with
 |cell _ _ hx=>
  obtain⟨y,raws,hv,hc,hr⟩:=hx
  refine .cell _ _ ⟨y,raws,hv,fun j u hj=>?_,hr.mono hp⟩
  obtain⟨hb,hu⟩:=hc j u hj
  have:=hp.cell (y.add j) u (by rw[add_block];exact hb) hu
  rwa [add_block]at this
theorem J.mapped(h:J C st a w m)(M:Mp w C.bad0 m C.bad0 m' f false)(hp:Hx w (Bad m C.bad0) w (Bad m' C.bad0))(hok:MemOk w C.prot C.bad0 m'){hp':Id->Option Blk}(hhp:∀ i b',hp' i=some b'->isF i=false /\ ∃ i0 b0,st.hp i0=some b0 /\ b'=b0.mp f /\ m'.ρ i=m.ρ i0 /\ ∀ k,m'.hid i k=m.hid i0 k)
  (hgen:∀ g i k,st.gen < g->m'.ρ (.o g i k)=.un) (hfore:∀ x,m'.ρ (.f x)=m.ρ (.f x)) (harg:∀ k,isK k=true->m'.ρ k=.dead \/ m'.ρ k=m.ρ k):J C { st with env:=fun s=>(st.env s).mp f,hp:=hp' } a w m':=by
 refine⟨h.size,h.ext.of rfl rfl,h.os,h.tape,h.output,h.grown,h.kept,h.protlt,h.badlt,hok,fun s=>M.av (h.env s) (fun e=>by cases e),fun i b hb=>?_,hgen,fun x=>(hfore x).trans (h.fore x),fun k hx=>?_,fun k g base n hx hf hk hs=>?_,fun g cs hg=>ziN hp (h.glob g cs hg)⟩
 ·obtain⟨hF,i0,b0,h1,rfl,h2,h3⟩:=hhp i b hb
  exact⟨hF,M.blk h2 h3 (fun e=>by cases e) (h.hp i0 b0 h1).2⟩
 ·rcases harg k hx with e|e
  ·exact .inr (.inl e)
  ·rw[e];exact h.arg k hx
 ·rcases harg k hx with e|e
  ·rw[e]at hk;cases hk
  ·exact h.argS k g base n hx hf (e.symm.trans hk) hs
def idR (x y b:Id):Option Id:=if b=x then some y else if b=y then none else some b
def AC.ren(x y:Id):AC->AC
 |.ref b off=>match idR x y b with|some b'=>.ref b' off|none=>.bad
 |.sl b off sz n=>match idR x y b with|some b'=>.sl b' off sz n|none=>.bad
 |.mp b=>match idR x y b with|some b'=>.mp b'|none=>.bad
 |.fn g caps=>if caps.any (fun c=>match c with|.inl b=>b == y|_=>false) then .bad else .fn g (caps.map fun c=>match c with|.inl b=>.inl (if b=x then y else b)|c=>c)
 |c=>c
def St.ren(x y:Id)(st:St):St:={ st with env:=fun s=>(st.env s).mp (AC.ren x y),hp:=fun i=>if i=y then(st.hp x).map (Blk.mp (AC.ren x y)) else if i=x then none else(st.hp i).map (Blk.mp (AC.ren x y)) }
def Mem.ren(x y:Id)(m:Mem):Mem:=⟨fun i=>if i=y then m.ρ x else if i=x then(if m.ρ x=.un then .un else .dead) else m.ρ i,fun i k=>if i=y then m.hid x k else if i=x then [] else m.hid i k⟩
theorem zkg{x y b b':Id}(hxy:x ≠ y)(h:idR x y b=some b'):(m.ren x y).ρ b'=m.ρ b:=by
 unfold idR at h
 split at h
 ·rename_i e;cases h;subst e;simp[Mem.ren]
 ·rename_i e1
  split at h
  ·cases h
  ·rename_i e2;cases h;simp[Mem.ren,e1,e2]
theorem Mem.ren_key{x y:Id}(hxy:x ≠ y)(hF:isF x=false)(c:Id)(k bs:Nat)(hc:isF c=false)(h:(m.ren x y).ρ c=.at_ k bs):∃ c0,isF c0=false /\ m.ρ c0=.at_ k bs /\ ((c=y /\ c0=x) \/ (c ≠ y /\ c ≠ x /\ c0=c)):=by
 simp only[Mem.ren]at h
 split at h
 ·rename_i e;exact⟨x,hF,h,.inl ⟨e,rfl⟩⟩
 ·rename_i e
  split at h
  ·split at h<;>cases h
  ·rename_i e2;exact⟨c,hc,h,.inr ⟨e,e2,rfl⟩⟩
theorem Mem.ren_hid{x y:Id}(c:Id)(n k:Nat)(h:k ∈ (m.ren x y).hid c n):∃ c0,k ∈ m.hid c0 n /\ ((c=y /\ c0=x) \/ (c ≠ y /\ c ≠ x /\ c0=c)):=by
 simp only[Mem.ren]at h
 split at h
 ·rename_i e;exact⟨x,h,.inl ⟨e,rfl⟩⟩
 ·rename_i e
  split at h
  ·cases h
  ·rename_i e2;exact⟨c,h,.inr ⟨e,e2,rfl⟩⟩
theorem Mem.ren_ok(hm:MemOk w prot bad0 m){x y:Id}(hxy:x ≠ y)(hF:isF x=false):MemOk w prot bad0 (m.ren x y) /\ ∀ k,Own (m.ren x y) k->Own m k:=by
 have same:∀ {c d c0:Id},((c=y /\ c0=x) \/ (c ≠ y /\ c ≠ x /\ c0=c))->((d=y /\ c0=x) \/ (d ≠ y /\ d ≠ x /\ c0=d))->c=d:=by
  rintro c d c0 (⟨rfl,rfl⟩ |⟨h1,h2,rfl⟩) (⟨rfl,h5⟩ |⟨h3,h4,h5⟩)
  ·rfl
  ·exact(h4 h5.symm).elim
  ·exact(h2 h5).elim
  ·exact h5
 have own:∀ k,Own (m.ren x y) k->Own m k:=by
  rintro k (⟨c,bs,h1,h2⟩ |⟨c,n,h⟩)
  ·obtain⟨c0,h3,h4,_⟩:=Mem.ren_key hxy hF c k bs h1 h2
   exact .inl ⟨c0,bs,h3,h4⟩
  ·obtain⟨c0,h,_⟩:=Mem.ren_hid c n k h
   exact .inr ⟨c0,n,h⟩
 refine⟨⟨fun k hk=>hm.lt k (own k hk),fun c d k b1 b2 h1 h2 h3 h4=>?_,fun c k b1 d n h1 h2 h3=>?_,fun c n=>?_,fun c n c' n' k h1 h2=>?_⟩,own⟩
 ·obtain⟨c0,k1,k2,k3⟩:=Mem.ren_key hxy hF c k b1 h1 h3
  obtain⟨d0,k4,k5,k6⟩:=Mem.ren_key hxy hF d k b2 h2 h4
  have:=hm.inj c0 d0 k b1 b2 k1 k4 k2 k5
  subst this
  exact same k3 k6
 ·obtain⟨c0,k1,k2,k3⟩:=Mem.ren_key hxy hF c k b1 h1 h2
  obtain⟨d0,k4,_⟩:=Mem.ren_hid d n k h3
  exact hm.sep c0 k b1 d0 n k1 k2 k4
 ·simp only[Mem.ren]
  split
  ·exact hm.hnd x n
  ·split
   ·exact List.nodup_nil
   ·exact hm.hnd c n
 ·obtain⟨c0,k1,k2⟩:=Mem.ren_hid c n k h1
  obtain⟨d0,k3,k4⟩:=Mem.ren_hid c' n' k h2
  obtain⟨e1,e2⟩:=hm.hdj c0 n d0 n' k k1 k3
  subst e1
  exact⟨same k2 k4,e2⟩
def isL:Id->Bool
 |.l _=>true
 |.r _=>true
 |_=>false
theorem zsa(hm:MemOk w prot bad0 m){x y:Id}(hxy:x ≠ y)(hF:isF x=false):Hx w (Bad m bad0) w (Bad (m.ren x y) bad0) /\ Mp w bad0 m bad0 (m.ren x y) (AC.ren x y) false:=by
 obtain⟨_,hown⟩:=Mem.ren_ok hm hxy hF
 have hp:Hx w (Bad m bad0) w (Bad (m.ren x y) bad0):=Hx.same fun k hn=>by
  rintro(ho|ho)
  ·exact hn (.inl (hown k ho))
  ·exact hn (.inr ho)
 refine⟨hp,fun v c _ h=>?_,fun t=>rfl,fun v t hs _ h=>OTR.mono hp h fun _ _=>rfl,fun c=>rfl⟩
 cases c with
 |p c=>exact CRep.mono hp h
 |z=>exact h
 |ref b off=>
  simp only[AC.ren]
  cases hb:idR x y b with
  |none=>trivial
  |some b'=>show RefR _ _ _;rw[zkg hxy hb];exact h
 |sl b off sz n=>
  simp only[AC.ren]
  cases hb:idR x y b with
  |none=>trivial
  |some b'=>show SlR _ _ _ _ _ _;rw[zkg hxy hb];exact h
 |mp b=>
  simp only[AC.ren]
  cases hb:idR x y b with
  |none=>trivial
  |some b'=>show MpR _ _;rw[zkg hxy hb];exact h
 |ep cells pos=>
  obtain⟨z,raws,hv,hc,hr⟩:=h
  refine⟨z,raws,hv,fun j u hj=>?_,hr.mono hp⟩
  obtain⟨hb,hu⟩:=hc j u hj
  have:=hp.cell (z.add j) u (by rw[add_block];exact hb) hu
  rwa [add_block]at this
 |fn g caps=>
  simp only[AC.ren]
  split
  ·trivial
  ·rename_i hn
   obtain⟨vs,hv,hl,h1,h2⟩:=h
   refine⟨vs,hv,by simpa using hl,fun j u b hu hb=>?_,fun j u c hu hc=>?_⟩
   ·rw[List.getElem?_map]at hb
    cases hj:caps[j]? with
    |none=>simp[hj]at hb
    |some q=>
     cases q with
     |inr c=>simp[hj]at hb
     |inl b0=>
      simp[hj]at hb;subst hb
      have h3:=h1 j u b0 hu hj
      have hb0:b0 ≠ y:=fun e=>by
       subst e;apply hn
       rw[List.any_eq_true]
       exact⟨_,List.mem_of_getElem? hj,by simp⟩
      have:(m.ren x y).ρ (if b0=x then y else b0)=m.ρ b0:=by
       refine zkg hxy ?_
       unfold idR
       split
       ·rfl
       ·first|rfl|rw[if_neg hb0]
      rw[this];exact h3
   ·rw[List.getElem?_map]at hc
    cases hj:caps[j]? with
    |none=>simp[hj]at hc
    |some q=>
     cases q with
     |inl b0=>simp[hj]at hc
     |inr c0=>simp[hj]at hc;subst hc;exact CRep.mono hp (h2 j u c0 hu hj)
 |own t=>exact h.elim
 |yl l=>exact h
 |bad=>trivial
theorem Gh.ren(st:St)(x y:Id)(hxy:x ≠ y)(hF:isF x=false)(hy:isL y=true):Gh st (st.ren x y):=by
 intro C a w m hJ
 have hFy:isF y=false:=by cases y<;>simp_all [isL,isF]
 refine⟨m.ren x y,hJ.mapped (zsa hJ.mem hxy hF).2 (zsa hJ.mem hxy hF).1 (Mem.ren_ok hJ.mem hxy hF).1 (fun i b' hb=>?_) (fun g i k hg=>?_) (fun z=>?_) fun k hk=>?_⟩
 ·split at hb
  ·rename_i e;subst e
   rw[Option.map_eq_some_iff]at hb
   obtain⟨b0,h1,rfl⟩:=hb
   exact⟨hFy,x,b0,h1,rfl,by simp[Mem.ren],fun k=>by simp[Mem.ren]⟩
  ·rename_i e
   split at hb
   ·cases hb
   ·rename_i e2
    rw[Option.map_eq_some_iff]at hb
    obtain⟨b0,h1,rfl⟩:=hb
    exact⟨(hJ.hp i b0 h1).1,i,b0,h1,rfl,by simp[Mem.ren,e,e2],fun k=>by simp[Mem.ren,e,e2]⟩
 ·have:=hJ.gen g i k hg
  have hne:Id.o g i k ≠ y:=fun e=>by rw[<- e]at hy;cases hy
  simp only[Mem.ren,if_neg hne]
  split
  ·rename_i e;subst e;rw[if_pos this]
  ·exact this
 ·have h1:Id.f z ≠ x:=fun e=>by rw[<- e]at hF;cases hF
  have h2:Id.f z ≠ y:=fun e=>by rw[<- e]at hFy;cases hFy
  simp[Mem.ren,h1,h2]
 ·have h2:k ≠ y:=fun e=>by rw[<- e]at hy;cases k<;>simp_all [isK,isL]
  simp only[Mem.ren,if_neg h2]
  split
  ·rename_i e
   split
   ·rename_i e2;exact .inr (by rw[e];exact e2.symm)
   ·exact .inl rfl
  ·exact .inr rfl
def AC.frz(b:Id)(cs:List CV):AC->AC
 |.ref b' off=>if b'=b then .ep cs off else .ref b' off
 |.sl b' off sz n=>if b'=b then(if off+n * sz<=cs.length then .p (.sl n ((cs.drop off).take (n * sz))) else .bad) else .sl b' off sz n
 |.mp b'=>if b'=b then .bad else .mp b'
 |.fn g caps=>.fn g (caps.map fun c=>match c with|.inl b'=>if b'=b then .inr (.bx cs) else .inl b'|c=>c)
 |c=>c
def St.frz(b:Id)(st:St):St:=match(st.hp b).bind Blk.cv with
 |some cs=>{ st with env:=fun s=>(st.env s).mp (AC.frz b cs),hp:=fun i=>if i=b then none else(st.hp i).map (Blk.mp (AC.frz b cs)) }
 |none=>st
theorem Mem.kill_ok(hm:MemOk w prot bad0 m){b:Id}(hF:isF b=false):MemOk w prot bad0 (m.kill b) /\ (∀ k,Own (m.kill b) k->Own m k) /\ ∀ k,OwnB m b k->¬ Own (m.kill b) k:=by
 have key:∀ c k bs,(m.kill b).ρ c=.at_ k bs->c ≠ b /\ m.ρ c=.at_ k bs:=fun c k bs h=>by
  simp only[Mem.kill]at h
  split at h
  ·cases h
  ·rename_i e;exact⟨e,h⟩
 have hid:∀ c n k,k ∈ (m.kill b).hid c n->c ≠ b /\ k ∈ m.hid c n:=fun c n k h=>by
  simp only[Mem.kill]at h
  split at h
  ·cases h
  ·rename_i e;exact⟨e,h⟩
 have own:∀ k,Own (m.kill b) k->Own m k:=by
  rintro k (⟨c,bs,h1,h2⟩ |⟨c,n,h⟩)
  ·exact .inl ⟨c,bs,h1,(key c k bs h2).2⟩
  ·exact .inr ⟨c,n,(hid c n k h).2⟩
 refine⟨⟨fun k hk=>hm.lt k (own k hk),fun c d k b1 b2 h1 h2 h3 h4=>hm.inj c d k b1 b2 h1 h2 (key _ _ _ h3).2 (key _ _ _ h4).2,fun c k b1 d n h1 h2 h3=>hm.sep c k b1 d n h1 (key _ _ _ h2).2 (hid _ _ _ h3).2,fun c n=>?_,fun c n c' n' k h1 h2=>hm.hdj c n c' n' k (hid _ _ _ h1).2 (hid _ _ _ h2).2⟩,own,fun k hk ho=>?_⟩
 ·simp only[Mem.kill]
  split
  ·exact List.nodup_nil
  ·exact hm.hnd c n
 ·rcases ho with⟨c,bs,h1,h2⟩ |⟨c,n,h⟩
  ·obtain⟨k1,k2⟩:=key c k bs h2
   rcases hk with⟨bs',h⟩ |⟨j,h⟩
   ·exact k1 (hm.inj c b k bs bs' h1 hF k2 h)
   ·exact hm.sep c k bs b j h1 k2 h
  ·obtain⟨k1,k2⟩:=hid c n k h
   rcases hk with⟨bs',h⟩ |⟨j,h⟩
   ·exact hm.sep b k bs' c n hF h k2
   ·exact k1 (hm.hdj c n b j k k2 h).1
theorem zd7{b c:Id}(h:c ≠ b):(m.kill b).ρ c=m.ρ c:=by simp[Mem.kill,h]
theorem znH{b:Id}{bl:Blk}(hR:BlkR w m bad0 b bl){cs:List CV}(hcv:bl.cv=some cs){bad':Nat->Prop}(hb:∀ g,bad' g->Bad m bad0 g)(hh:∀ g,OwnB m b g->¬ bad' g){q base:Nat}(hst:m.ρ b=.at_ q base) :
  ∃ raws,(∀(j:Nat) (u:Value),raws[j]?=some u->¬ bad' q /\ w.cell? ((⟨q,base,none⟩:Addr).add j)=some u) /\ CReps w bad' raws cs:=by
 obtain⟨l,hl,hc⟩:=Blk.cv_ac hcv
 obtain⟨hc1,hc2⟩:=zmK hc
 have hC:=hR.ac hl
 unfold zaq at hC
 rw[hst]at hC
 obtain⟨cur,e,fr,hg,hfr,hlen,hcell⟩:=hC
 have hget:∀(j:Nat) (u:Value),((cur.toList.drop base).take cs.length)[j]?=some u->j < cs.length /\ cur[base+j]?=some u:=fun j u hj=>by
  rw[List.getElem?_take]at hj
  split at hj
  ·rename_i hlt;exact⟨hlt,by simpa using hj⟩
  ·cases hj
 refine⟨(cur.toList.drop base).take cs.length,fun j u hj=>⟨hh q (.inl ⟨base,hst⟩),ziW hg (hget j u hj).2⟩,by simp;omega,fun u hu=>?_,fun j u c hj hcj=>?_⟩
 ·obtain⟨j,hj⟩:=List.getElem?_of_mem hu
  obtain⟨hlt,hu⟩:=hget j u hj
  exact(hcell j u _ hu (List.getElem?_eq_getElem (by rw[<- hc1];exact hlt))).1
 ·obtain⟨x,hx1,hx2⟩:=hc2 j c hcj
  exact zeV.cv hb (fun g' hg'=>hh g' (.inr ⟨_,hg'⟩)) (hcell j u x (hget j u hj).2 hx1).2 hx2
theorem Gh.frz(st:St)(b:Id):Gh st (st.frz b):=by
 intro C a w m hJ
 unfold St.frz
 split
 ·rename_i cs hcs
  rw[Option.bind_eq_some_iff]at hcs
  obtain⟨bl,hbl,hcv⟩:=hcs
  obtain⟨hF,hR⟩:=hJ.hp b bl hbl
  obtain⟨hok,hown,hno⟩:=Mem.kill_ok hJ.mem hF
  have hbad:∀ g,Bad (m.kill b) C.bad0 g->Bad m C.bad0 g:=fun g h=>h.imp (hown g) id
  have hnb:∀ g,OwnB m b g->¬ Bad (m.kill b) C.bad0 g:=fun g hg=>by
   rintro(h|h)
   ·exact hno g hg h
   ·rcases hg with⟨bs,h'⟩ |⟨j,h'⟩
    ·exact(hJ.mem.lt g (.inl ⟨b,bs,hF,h'⟩)).2.2 h
    ·exact(hJ.mem.lt g (.inr ⟨b,j,h'⟩)).2.2 h
  have hp:Hx w (Bad m C.bad0) w (Bad (m.kill b) C.bad0):=Hx.same fun g hn h=>hn (hbad g h)
  have ref:∀ {off:Nat} {v:Value},RefR (m.ρ b) off v->∃(x:Addr) (raws:List Value),v=.pointer (some (x.add off)) /\ (∀(j:Nat) (u:Value),raws[j]?=some u->¬ Bad (m.kill b) C.bad0 x.block /\ w.cell? (x.add j)=some u) /\ CReps w (Bad (m.kill b) C.bad0) raws cs:=by
   intro off v h
   obtain⟨q,base,hst,rfl⟩:=zgk hJ.hp h (by simp[live,hbl])
   obtain⟨raws,h1,h2⟩:=znH hR hcv hbad hnb hst
   exact⟨⟨q,base,none⟩,raws,by rw[zfS],h1,h2⟩
  refine⟨m.kill b,hJ.mapped (f:=AC.frz b cs) ⟨fun v c _ h=>?_,fun t=>rfl,fun v t hs _ h=>OTR.mono hp h fun _ _=>rfl,fun c=>rfl⟩ hp hok (fun i b' hb=>?_) (fun g i k hg=>?_) (fun z=>?_) fun k _=>?_⟩
  ·cases c with
   |p c=>exact CRep.mono hp h
   |z=>exact h
   |ref b' off=>
    simp only[AC.frz]
    split
    ·rename_i e;subst e;exact ref h
    ·rename_i e;show RefR _ _ _;rw[zd7 e];exact h
   |sl b' off sz n=>
    simp only[AC.frz]
    split
    ·rename_i e;subst e
     split
     ·rename_i hle
      refine zmc hJ.hp (x:=.sl b' off sz n) h ?_ hbad fun b2 o2 s2 k2 e=>by cases e;exact hnb
      simp[rdS,hbl,hcv,hle]
     ·trivial
    ·rename_i e;show SlR _ _ _ _ _ _;rw[zd7 e];exact h
   |mp b'=>
    simp only[AC.frz]
    split
    ·trivial
    ·rename_i e;show MpR _ _;rw[zd7 e];exact h
   |ep cells pos=>
    obtain⟨z,raws,hv,hc,hr⟩:=h
    refine⟨z,raws,hv,fun j u hj=>?_,hr.mono hp⟩
    obtain⟨hb,hu⟩:=hc j u hj
    have:=hp.cell (z.add j) u (by rw[add_block];exact hb) hu
    rwa [add_block]at this
   |fn g caps=>
    obtain⟨vs,hv,hl,h1,h2⟩:=h
    refine⟨vs,hv,by simpa using hl,fun j u b2 hu hb=>?_,fun j u c hu hc=>?_⟩
    ·rw[List.getElem?_map]at hb
     cases hj:caps[j]? with
     |none=>simp[hj]at hb
     |some q=>
      cases q with
      |inr c=>simp[hj]at hb
      |inl b0=>
       simp only[hj,Option.map_some,Option.some.injEq]at hb
       split at hb
       ·cases hb
       ·rename_i e;cases hb;rw[zd7 e];exact h1 j u b2 hu hj
    ·rw[List.getElem?_map]at hc
     cases hj:caps[j]? with
     |none=>simp[hj]at hc
     |some q=>
      cases q with
      |inr c0=>simp[hj]at hc;subst hc;exact CRep.mono hp (h2 j u c0 hu hj)
      |inl b0=>
       simp only[hj,Option.map_some,Option.some.injEq]at hc
       split at hc
       ·rename_i e;cases hc;subst e
        obtain⟨x,raws,rfl,h3,h4⟩:=ref (h1 j u b0 hu hj)
        have e0:x.add 0=x:=by simp[Addr.add]
        rw[e0]
        exact .bx x raws cs h4.len h4.one h3 h4.rep
       ·cases hc
   |own t=>exact h.elim
   |yl l=>exact h
   |bad=>trivial
  ·split at hb
   ·cases hb
   ·rename_i e
    rw[Option.map_eq_some_iff]at hb
    obtain⟨b0,h1,rfl⟩:=hb
    exact⟨(hJ.hp i b0 h1).1,i,b0,h1,rfl,zd7 e,fun k=>by simp[Mem.kill,e]⟩
  ·have:=hJ.gen g i k hg
   have hne:Id.o g i k ≠ b:=fun e=>by
    subst e
    have hR':=hR
    cases bl with
    |cells l=>simp only[BlkR,zaq,this]at hR'
    |pure l=>simp only[BlkR,zaq,this]at hR'
    |map ks vs=>obtain⟨_,_,_,e,_⟩:=hR';rw[this]at e;cases e
   rw[zd7 hne];exact this
  ·have h1:Id.f z ≠ b:=fun e=>by rw[<- e]at hF;cases hF
   exact zd7 h1
  ·by_cases e:k=b
   ·exact .inl (by simp[Mem.kill,e])
   ·exact .inr (zd7 e)
 ·exact⟨m,hJ⟩
end
end Go.Hw
end
section
namespace Go.Hw
variable [Globals]
open Go.RowKit (Below)
structure Turn (X:Nat->Prop) (w w':World):Prop where
 size:w.heap.size<=w'.heap.size
 os:w'.os=w.os
 tape:w'.tape=w.tape
 output:w'.output=w.output
 same:∀ b,b < w.heap.size->¬ X b->w'.heap[b]?=w.heap[b]?
inductive Out where
 |ret (r:AV)
 |pan (x:AV)
def EndR (w:World)(m:Mem)(bad0:Nat->Prop):Out->Ending->Prop
 |.ret r,e=>∃ v,e=.returned v /\ AVRep w m bad0 v r
 |.pan x,e=>∃ v,e=.panicked [⟨v,false,false⟩] /\ AVRep w m bad0 v x
structure Pre (w:World) (m:Mem) (bad0:Nat->Prop) (pre:List Blk):Prop where
 ok:MemOk w (fun _=>False) bad0 m
 badlt:∀ b,bad0 b->b < w.heap.size
 dom:∀ i,m.ρ i ≠ .un->isF i=true \/ ∃ k,i=.a k /\ k < pre.length
 hid:∀ i j,m.hid i j ≠ []->∃ k,i=.a k /\ k < pre.length
 frn:∀ i q base,isF i=true->m.ρ i=.at_ q base->bad0 q
 blk:∀ k b,pre[k]?=some b->BlkR w m bad0 (.a k) b
structure Post (w:World) (m:Mem) (bad0:Nat->Prop) (w':World) (m':Mem) (post:List (Id × Blk)):Prop where
 turn:Turn (Own m) w w'
 ok:MemOk w' (fun _=>False) bad0 m'
 own:∀ q,Own m' q->Own m q \/ w.heap.size<=q
 blk:∀ i b,(i,b) ∈ post->isF i=false /\ BlkR w' m' bad0 i b
 fore:∀ x,m'.ρ (.f x)=m.ρ (.f x)
 arg:∀ k,m'.ρ (.a k)=.dead \/ m'.ρ (.a k)=m.ρ (.a k)
 argS:∀ k q base n,m'.ρ (.a k)=.at_ q base->Shp w q n->Shp w' q n
 rest:∀ i,isF i=false->(∀ b,(i,b) ∉ post)->m'.ρ i=.dead /\ ∀ j,m'.hid i j=[]
def zpT (P : Program) (n : FuncId) : Prop := ∃ fn, P.funcs[n]? = some fn ∧ (fn.name == "runtime.NumGoroutine") = false ∧ fn.body.isNone = false
def CAt (P:Program)(n:FuncId)(as_:List AV)(pre:List Blk)(out:Out)(post:List (Id × Blk)):Prop:=
 zpT P n /\ ∀(w:World) (vs:Array Value) (bad0:Nat->Prop) (m:Mem),Pre w m bad0 pre->vs.size=as_.length ->
  (∀(j:Nat) (u:Value) (x:AV),vs[j]?=some u->as_[j]?=some x->AVRep w m bad0 u x) ->
  (∀ g cs,Globals.G g=some cs->AVRep w m bad0 (.pointer (some ⟨g,0,none⟩)) (.cell (.ep cs 0))) ->
  Calls P n vs w fun e w'=>∃ m',EndR w' m' bad0 out e /\ Post w m bad0 w' m' post
def ix:List Id->Id->Nat->Option Nat
 |[],_,_=>none
 |c::r,b,k=>if c=b then some k else ix r b (k+1)
def idC (fp:List Id)(b:Id):Id:=match ix fp b 0 with
 |some k=>.a k
 |none=>.f b
def lent (fp:List Id)(hp:Id->Option Blk)(b:Id):Option (List CV):=match ix fp b 0 with
 |some _=>none
 |none=>(hp b).bind Blk.cv
def capC (fp:List Id)(hp:Id->Option Blk)(c:Id ⊕ CV):Id ⊕ CV:=match c with
 |.inl b=>match lent fp hp b with
  |some cs=>.inr (.bx cs)
  |none=>.inl (idC fp b)
 |.inr c=>.inr c
def AC.toC(fp:List Id)(hp:Id->Option Blk):AC->AC
 |.p c=>.p c
 |.z=>.z
 |.ep cells pos=>.ep cells pos
 |.ref b off=>match lent fp hp b with
  |some cs=>.ep cs off
  |none=>.ref (idC fp b) off
 |.sl b off sz n=>match lent fp hp b with
  |some cs=>if off+n * sz<=cs.length then .p (.sl n ((cs.drop off).take (n * sz))) else .bad
  |none=>.sl (idC fp b) off sz n
 |.mp b=>.mp (idC fp b)
 |.fn g caps=>match go (caps.map (capC fp hp)) with
  |some cs=>.p (.fn g cs)
  |none=>.fn g (caps.map (capC fp hp))
 |_=>.bad
where
 go:List (Id ⊕ CV)->Option (List CV)
  |[]=>some []
  |.inr c::r=>(go r).map (c::·)
  |.inl _::_=>none
def AV.toC(fp:List Id)(hp:Id->Option Blk):AV->AV
 |.cell x=>.cell (x.toC fp hp)
 |.agg xs=>.agg (xs.map (·.toC fp hp))
 |_=>.bad
def AC.bor(fp:List Id)(hp:Id->Option Blk):AC->List Id
 |.ref b _=>if(lent fp hp b).isSome then [b] else []
 |.sl b _ _ _=>if(lent fp hp b).isSome then [b] else []
 |.fn _ caps=>caps.flatMap fun c=>match c with
  |.inl b=>if(lent fp hp b).isSome then [b] else []
  |_=>[]
 |_=>[]
def AV.bor(fp:List Id)(hp:Id->Option Blk):AV->List Id
 |.cell x=>x.bor fp hp
 |.agg xs=>xs.flatMap (·.bor fp hp)
 |_=>[]
def AC.toF(fp:List Id):AC->AC
 |.ref b off=>.ref (idC fp b) off
 |.sl b off sz n=>.sl (idC fp b) off sz n
 |.mp b=>.mp (idC fp b)
 |.fn g caps=>.fn g (caps.map fun c=>match c with|.inl b=>.inl (idC fp b)|c=>c)
 |.yl _=>.bad
 |c=>c
def lk:List (Id × Blk)->Id->Option Blk
 |[],_=>none
 |(j,b)::r,i=>if j=i then some b else lk r i
def idB (fp bors:List Id)(post:List (Id × Blk))(g i:Nat):Id->Option Id
 |.a k=>fp[k]?
 |.r k=>if(lk post (.r k)).isSome then some (.o g i k) else none
 |.f x=>if fp.contains x || bors.contains x then none else some x
 |_=>none
def AC.back(fp bors:List Id)(post:List (Id × Blk))(g i:Nat):AC->AC
 |.ref b off=>match idB fp bors post g i b with|some b'=>.ref b' off|none=>.bad
 |.sl b off sz n=>match idB fp bors post g i b with|some b'=>.sl b' off sz n|none=>.bad
 |.mp b=>match idB fp bors post g i b with|some b'=>.mp b'|none=>.bad
 |.fn f caps=>match go caps with
  |some caps'=>.fn f caps'
  |none=>.bad
 |.yl _=>.bad
 |c=>c
where
 go:List (Id ⊕ CV)->Option (List (Id ⊕ CV))
  |[]=>some []
  |.inr c::r=>(go r).map (.inr c::·)
  |.inl b::r=>match idB fp bors post g i b,go r with
   |some b',some l=>some (.inl b'::l)
   |_,_=>none
def fpU (post:List (Id × Blk))(f:AC->AC):List Id->Nat->List (Id × Option Blk)
 |[],_=>[]
 |b::r,k=>(b,(lk post (.a k)).map (Blk.mp f))::fpU post f r (k+1)
def rU (g i:Nat)(f:AC->AC):List (Id × Blk)->List (Id × Option Blk)
 |[]=>[]
 |(.r k,b)::l=>(.o g i k,some (b.mp f))::rU g i f l
 |_::l=>rU g i f l
def Out.flat:Out->Bool
 |.ret r=>r.flat
 |.pan x=>x.flat
def zeM(out:Out)(post:List (Id × Blk)):Bool:=out.flat && post.all fun p=>p.2.flat
def zdw(fp bors:List Id)(g i:Nat)(out:Out)(post:List (Id × Blk)):List (Id × Option Blk):=
 fpU post (AC.back fp bors post g i) fp 0++rU g i (AC.back fp bors post g i) post++if zeM out post then [] else bors.map fun b=>(b,none)
theorem ziL:∀ {fp:List Id} {b:Id} {s k:Nat},ix fp b s=some k->s<=k /\ fp[k - s]?=some b
 |[],b,s,k,h=>by cases h
 |c::r,b,s,k,h=>by
  simp only[ix]at h
  split at h
  ·rename_i e;cases h;subst e;simp
  ·obtain⟨h1,h2⟩:=ziL h
   refine⟨by omega,?_⟩
   rw[show k - s=(k - (s+1))+1 by omega];simpa using h2
theorem ziM:∀ {fp:List Id} {b:Id} {s:Nat},ix fp b s=none->b ∉ fp
 |[],b,s,h=>by simp
 |c::r,b,s,h=>by
  simp only[ix]at h
  split at h
  ·cases h
  ·rename_i e
   simp only[List.mem_cons,not_or]
   exact⟨fun e'=>e e'.symm,ziM h⟩
theorem znp{fp:List Id}(hn:fp.Nodup){b:Id}{k:Nat}(h:fp[k]?=some b):ix fp b 0=some k:=by
 cases hi:ix fp b 0 with
 |none=>exact(ziM hi (List.mem_of_getElem? h)).elim
 |some j=>
  obtain⟨_,h2⟩:=ziL hi
  rw[Nat.sub_zero]at h2
  obtain⟨p1,p2⟩:=List.getElem?_eq_some_iff.1 h
  obtain⟨p3,p4⟩:=List.getElem?_eq_some_iff.1 h2
  congr 1
  have:=List.pairwise_iff_getElem.1 hn
  rcases Nat.lt_trichotomy j k with hlt|e|hlt
  ·exact(this j k p3 p1 hlt (p4.trans p2.symm)).elim
  ·exact e
  ·exact(this k j p1 p3 hlt (p2.trans p4.symm)).elim
def Mem.cal(m:Mem)(fp bors:List Id):Mem:=
 ⟨fun i=>match i with
  |.a k=>match fp[k]? with|some b=>m.ρ b|none=>.un
  |.f x=>if fp.contains x || bors.contains x then .dead else m.ρ x
  |_=>.un,
 fun i j=>match i with
  |.a k=>match fp[k]? with|some b=>m.hid b j|none=>[]
  |_=>[]⟩
def badC (fp bors:List Id)(m:Mem)(bad0:Nat->Prop)(q:Nat):Prop:=Bad m bad0 q /\ (∀ b ∈ fp,¬ OwnB m b q) /\ ∀ b ∈ bors,¬ OwnB m b q
def isR (post:List (Id × Blk))(g i:Nat):Id->Option Id
 |.o g' i' k=>if g'=g /\ i'=i /\ (lk post (.r k)).isSome=true then some (.r k) else none
 |_=>none
def Mem.ret(m mc:Mem)(fp bors:List Id)(F:Bool)(post:List (Id × Blk))(g i:Nat):Mem:=
 ⟨fun x=>match ix fp x 0 with
  |some k=>mc.ρ (.a k)
  |none=>match isR post g i x with
   |some y=>mc.ρ y
   |none=>if F=false /\ bors.contains x=true then .dead else m.ρ x,
 fun x j=>match ix fp x 0 with
  |some k=>mc.hid (.a k) j
  |none=>match isR post g i x with
   |some y=>mc.hid y j
   |none=>if F=false /\ bors.contains x=true then [] else m.hid x j⟩
section
variable {w w':World} {m mc:Mem} {bad0 prot:Nat->Prop} {fp bors:List Id} {g i:Nat} {F:Bool}
theorem ziZ{q:Nat}(h:Own (m.cal fp bors) q):∃ b ∈ fp,OwnB m b q:=by
 rcases h with⟨c,base,h1,h2⟩ |⟨c,j,h1⟩
 ·cases c with
  |a k=>
   simp only[Mem.cal]at h2
   cases hk:fp[k]? with
   |none=>rw[hk]at h2;cases h2
   |some b=>rw[hk]at h2;exact⟨b,List.mem_of_getElem? hk,.inl ⟨base,h2⟩⟩
  |f x=>cases h1
  |_=>simp only[Mem.cal]at h2;cases h2
 ·cases c with
  |a k=>
   simp only[Mem.cal]at h1
   cases hk:fp[k]? with
   |none=>rw[hk]at h1;cases h1
   |some b=>rw[hk]at h1;exact⟨b,List.mem_of_getElem? hk,.inr ⟨j,h1⟩⟩
  |_=>simp only[Mem.cal]at h1;cases h1
theorem zcR{b:Id}(hF:isF b=false){q:Nat}(h:OwnB m b q):Own m q:=by
 rcases h with⟨base,h⟩ |⟨j,h⟩
 ·exact .inl ⟨b,base,hF,h⟩
 ·exact .inr ⟨b,j,h⟩
theorem zgt(hm:MemOk w prot bad0 m){b c:Id}(hb:isF b=false)(hc:isF c=false){q:Nat}(h1:OwnB m b q)(h2:OwnB m c q):b=c:=by
 rcases h1 with⟨b1,h1⟩ |⟨j,h1⟩<;>rcases h2 with⟨b2,h2⟩ |⟨k,h2⟩
 ·exact hm.inj b c q b1 b2 hb hc h1 h2
 ·exact(hm.sep b q b1 c k hb h1 h2).elim
 ·exact(hm.sep c q b2 b j hc h2 h1).elim
 ·exact(hm.hdj b j c k q h1 h2).1
theorem zvR(hm:MemOk w prot bad0 m)(hbl:∀ b,bad0 b->b < w.heap.size)(hn:fp.Nodup)(hfp:∀ b ∈ fp,isF b=false)(hbo:∀ b ∈ bors,isF b=false)(hfr:∀ x q base,isF x=true->m.ρ x=.at_ q base->bad0 q)
  {pre:List Blk} (hl:pre.length=fp.length) (hblk:∀ k b,pre[k]?=some b->BlkR w (m.cal fp bors) (badC fp bors m bad0) (.a k) b):Pre w (m.cal fp bors) (badC fp bors m bad0) pre:=by
 have cl:∀ c,(m.cal fp bors).ρ c ≠ .un->isF c=true \/ ∃ k,c=.a k /\ k < pre.length:=fun c h=>by
  cases c with
  |a k=>
   refine .inr ⟨k,rfl,?_⟩
   simp only[Mem.cal]at h
   rcases Nat.lt_or_ge k fp.length with hk|hk
   ·omega
   ·rw[List.getElem?_eq_none hk]at h;exact(h rfl).elim
  |f x=>exact .inl rfl
  |_=>exact(h rfl).elim
 have ak:∀ {c:Id} {q base:Nat},isF c=false->(m.cal fp bors).ρ c=.at_ q base->∃ k b,c=.a k /\ fp[k]?=some b /\ m.ρ b=.at_ q base:=fun {c q base} hc h=>by
  cases c with
  |a k=>
   simp only[Mem.cal]at h
   cases hk:fp[k]? with
   |none=>rw[hk]at h;cases h
   |some b=>rw[hk]at h;exact⟨k,b,rfl,hk,h⟩
  |f x=>cases hc
  |_=>simp only[Mem.cal]at h;cases h
 have hk:∀ {c:Id} {j q:Nat},q ∈ (m.cal fp bors).hid c j->∃ k b,c=.a k /\ fp[k]?=some b /\ q ∈ m.hid b j:=fun {c j q} h=>by
  cases c with
  |a k=>
   simp only[Mem.cal]at h
   cases hk:fp[k]? with
   |none=>rw[hk]at h;cases h
   |some b=>rw[hk]at h;exact⟨k,b,rfl,hk,h⟩
  |_=>simp only[Mem.cal]at h;cases h
 have inj:∀ {k k':Nat} {b:Id},fp[k]?=some b->fp[k']?=some b->k=k':=fun h1 h2=>by
  have:=(znp hn h1).symm.trans (znp hn h2)
  exact Option.some.inj this
 refine⟨⟨fun q hq=>?_,fun c d q b1 b2 h1 h2 h3 h4=>?_,fun c q b1 d j h1 h2 h3=>?_,fun c j=>?_,fun c j c' j' q h1 h2=>?_⟩,fun q hq=>?_,cl,fun c j h=>?_,fun c q base h1 h2=>?_,hblk⟩
 ·obtain⟨b,hb,hq⟩:=ziZ hq
  obtain⟨k1,_,_⟩:=hm.lt q (zcR (hfp b hb) hq)
  exact⟨k1,fun h=>h,fun h=>h.2.1 b hb hq⟩
 ·obtain⟨k,b,rfl,k1,k2⟩:=ak h1 h3
  obtain⟨k',b',rfl,k3,k4⟩:=ak h2 h4
  have:=hm.inj b b' q b1 b2 (hfp b (List.mem_of_getElem? k1)) (hfp b' (List.mem_of_getElem? k3)) k2 k4
  subst this
  rw[inj k1 k3]
 ·obtain⟨k,b,rfl,k1,k2⟩:=ak h1 h2
  obtain⟨k',b',rfl,k3,k4⟩:=hk h3
  exact hm.sep b q b1 b' j (hfp b (List.mem_of_getElem? k1)) k2 k4
 ·cases c with
  |a k=>
   simp only[Mem.cal]
   cases hk:fp[k]? with
   |none=>exact List.nodup_nil
   |some b=>exact hm.hnd b j
  |_=>exact List.nodup_nil
 ·obtain⟨k,b,rfl,k1,k2⟩:=hk h1
  obtain⟨k',b',rfl,k3,k4⟩:=hk h2
  obtain⟨e1,e2⟩:=hm.hdj b j b' j' q k2 k4
  subst e1
  exact⟨by rw[inj k1 k3],e2⟩
 ·rcases hq.1 with h|h
  ·exact(hm.lt q h).1
  ·exact hbl q h
 ·obtain⟨q,hq⟩:=List.exists_mem_of_ne_nil _ h
  obtain⟨k,b,rfl,k1,_⟩:=hk hq
  refine⟨k,rfl,?_⟩
  rw[hl]
  exact(List.getElem?_eq_some_iff.1 k1).1
 ·cases c with
  |f x=>
   simp only[Mem.cal]at h2
   split at h2
   ·cases h2
   ·rename_i hx
    simp only[Bool.or_eq_true,List.contains_iff_mem,not_or]at hx
    have noown:∀(b:Id),isF b=false->x ≠ b->¬ OwnB m b q:=fun b hb hne ho=>by
     cases hxf:isF x with
     |false=>exact hne (zgt hm hxf hb (.inl ⟨base,h2⟩) ho)
     |true=>exact(hm.lt q (zcR hb ho)).2.2 (hfr x q base hxf h2)
    refine⟨?_,fun b hb=>noown b (hfp b hb) fun e=>hx.1 (e ▸ hb),fun b hb=>noown b (hbo b hb) fun e=>hx.2 (e ▸ hb)⟩
    cases hxf:isF x with
    |false=>exact .inl (.inl ⟨x,base,hxf,h2⟩)
    |true=>exact .inr (hfr x q base hxf h2)
  |_=>cases h1
end
end Go.Hw
end
section
namespace Go.Hw
variable [Globals]
open Go.RowKit (Below)
theorem RefR.le{s s':Stat}{off:Nat}{v:Value}(h:RefR s off v)(e:s'=.dead \/ s'=s):RefR s' off v:=by
 rcases e with rfl|rfl
 ·exact h.one
 ·exact h
theorem SlR.le{w:World}{s s':Stat}{off sz n:Nat}{v:Value}(h:SlR w s off sz n v)(e:s'=.dead \/ s'=s):SlR w s' off sz n v:=by
 rcases e with rfl|rfl
 ·exact h.one
 ·exact h
theorem MpR.le{s s':Stat}{v:Value}(h:MpR s v)(e:s'=.dead \/ s'=s):MpR s' v:=by
 rcases e with rfl|rfl
 ·exact h.one
 ·exact h
section
variable {w w':World} {m mc:Mem} {bad0 prot:Nat->Prop} {fp bors:List Id} {g i:Nat} {F:Bool} {hp:Id->Option Blk}
theorem zfn(b:Id):(m.cal fp bors).ρ (idC fp b)=.dead \/ (m.cal fp bors).ρ (idC fp b)=m.ρ b:=by
 unfold idC
 cases hi:ix fp b 0 with
 |some k=>
  obtain⟨_,h2⟩:=ziL hi
  rw[Nat.sub_zero]at h2
  right
  simp[Mem.cal,h2]
 |none=>
  simp only[Mem.cal]
  split
  ·exact .inl rfl
  ·exact .inr rfl
theorem ziK{b:Id}{cs:List CV}(h:lent fp hp b=some cs):b ∉ fp /\ ∃ bl,hp b=some bl /\ bl.cv=some cs:=by
 unfold lent at h
 split at h
 ·cases h
 ·rename_i hi
  rw[Option.bind_eq_some_iff]at h
  exact⟨ziM hi,h⟩
theorem zqa(hfp:∀ b ∈ fp,isF b=false):∀ q,Bad (m.cal fp bors) (badC fp bors m bad0) q->Bad m bad0 q:=by
 rintro q (h|h)
 ·obtain⟨b,hb,h⟩:=ziZ h
  exact .inl (zcR (hfp b hb) h)
 ·exact h.1
theorem zpL:∀ {l:List (Id ⊕ CV)} {cs:List CV},AC.toC.go l=some cs->l.length=cs.length /\ ∀(j:Nat) (c:CV),cs[j]?=some c->l[j]?=some (.inr c)
 |[],cs,h=>by simp[AC.toC.go]at h;subst h;simp
 |.inl b::r,cs,h=>by simp[AC.toC.go]at h
 |.inr c::r,cs,h=>by
  simp only[AC.toC.go,Option.map_eq_some_iff]at h
  obtain⟨l,h1,rfl⟩:=h
  obtain⟨h2,h3⟩:=zpL h1
  refine⟨by simp[h2],fun j d hj=>?_⟩
  cases j with
  |zero=>simpa using hj
  |succ j=>simpa using h3 j d (by simpa using hj)
theorem zoD(hH:∀ i b,hp i=some b->isF i=false /\ BlkR w m bad0 i b)(hm:MemOk w prot bad0 m)(hfp:∀ b ∈ fp,isF b=false)(hbo:∀ b ∈ bors,isF b=false){v:Value}{x:AC}(h:zbN w m bad0 v x)(hb:∀ b ∈ x.bor fp hp,b ∈ bors) :
  zbN w (m.cal fp bors) (badC fp bors m bad0) v (x.toC fp hp):=by
 have hbad:=zqa (m:=m) (bad0:=bad0) (bors:=bors) hfp
 have hp0:Hx w (Bad m bad0) w (Bad (m.cal fp bors) (badC fp bors m bad0)):=Hx.same fun q hn h=>hn (hbad q h)
 have nob:∀ b,b ∈ bors->b ∉ fp->∀ q,OwnB m b q->¬ Bad (m.cal fp bors) (badC fp bors m bad0) q:=by
  rintro b h1 h2 q h3 (h|h)
  ·obtain⟨b',hb',h⟩:=ziZ h
   exact h2 (zgt hm (hbo b h1) (hfp b' hb') h3 h ▸ hb')
  ·exact h.2.2 b h1 h3
 have lref:∀ {b:Id} {cs:List CV} {off:Nat} {v:Value},lent fp hp b=some cs->b ∈ bors->RefR (m.ρ b) off v->∃(x:Addr) (raws:List Value),v=.pointer (some (x.add off)) /\
   (∀(j:Nat) (u:Value),raws[j]?=some u->¬ Bad (m.cal fp bors) (badC fp bors m bad0) x.block /\ w.cell? (x.add j)=some u) /\ CReps w (Bad (m.cal fp bors) (badC fp bors m bad0)) raws cs:=by
  intro b cs off v hl hbm hr
  obtain⟨h1,bl,h2,h3⟩:=ziK hl
  obtain⟨q,base,hst,rfl⟩:=zgk hH hr (by simp[live,h2])
  obtain⟨raws,h4,h5⟩:=znH (hH b bl h2).2 h3 hbad (nob b hbm h1) hst
  exact⟨⟨q,base,none⟩,raws,by rw[zfS],h4,h5⟩
 cases x with
 |p c=>exact CRep.mono hp0 h
 |z=>exact h
 |ref b off=>
  simp only[AC.toC]
  cases hl:lent fp hp b with
  |none=>exact RefR.le h (zfn b)
  |some cs=>exact lref hl (hb b (by simp[AC.bor,hl])) h
 |sl b off sz n=>
  simp only[AC.toC]
  cases hl:lent fp hp b with
  |none=>exact SlR.le h (zfn b)
  |some cs=>
   obtain⟨h1,bl,h2,h3⟩:=ziK hl
   simp only
   split
   ·rename_i hle
    refine zmc hH (x:=.sl b off sz n) h (by simp[rdS,h2,h3,hle]) hbad fun b' o s k e=>?_
    cases e
    exact nob b (hb b (by simp[AC.bor,hl])) h1
   ·trivial
 |mp b=>exact MpR.le h (zfn b)
 |ep cells pos=>
  obtain⟨y,raws,hv,hc,hr⟩:=h
  refine⟨y,raws,hv,fun j u hj=>?_,hr.mono hp0⟩
  obtain⟨h1,h2⟩:=hc j u hj
  have:=hp0.cell (y.add j) u (by rw[add_block];exact h1) h2
  rwa [add_block]at this
 |fn f caps=>
  obtain⟨vs,rfl,hl,h1,h2⟩:=h
  have key:∀(j:Nat) (u:Value),vs[j]?=some u->∀ c',(caps.map (capC fp hp))[j]?=some c' ->
    (∀ b,c'=.inl b->RefR ((m.cal fp bors).ρ b) 0 u) /\ ∀ c,c'=.inr c->CRep w (Bad (m.cal fp bors) (badC fp bors m bad0)) u c:=by
   intro j u hu c' hc'
   rw[List.getElem?_map]at hc'
   cases hj:caps[j]? with
   |none=>simp[hj]at hc'
   |some c0=>
    simp only[hj,Option.map_some,Option.some.injEq]at hc'
    cases c0 with
    |inr c=>
     simp only[capC]at hc'
     subst hc'
     exact⟨fun b e=>(by cases e),fun c1 e=>by cases e;exact CRep.mono hp0 (h2 j u c hu hj)⟩
    |inl b=>
     simp only[capC]at hc'
     have hR:=h1 j u b hu hj
     cases hlb:lent fp hp b with
     |none=>
      rw[hlb]at hc';subst hc'
      exact⟨fun b' e=>(by cases e;exact RefR.le hR (zfn b)),fun c1 e=>by cases e⟩
     |some cs=>
      rw[hlb]at hc';subst hc'
      refine⟨fun b' e=>(by cases e),fun c1 e=>?_⟩
      cases e
      obtain⟨x,raws,e,h3,h4⟩:=lref hlb (hb b (by
       simp only[AC.bor,List.mem_flatMap]
       exact⟨.inl b,List.mem_of_getElem? hj,by simp[hlb]⟩)) hR
      have e0:x.add 0=x:=by simp[Addr.add]
      rw[e0]at e
      subst e
      exact .bx x raws cs h4.len h4.one h3 h4.rep
  simp only[AC.toC]
  split
  ·rename_i cs hcs
   obtain⟨h3,h4⟩:=zpL hcs
   have:zbN w (m.cal fp bors) (badC fp bors m bad0) (.func (.func f) #[] vs.toList.toArray) (.p (.fn f cs)):=.fn f vs.toList cs (by simpa [hl]using h3) fun j u c hu hc=>(key j u (by simpa using hu) (.inr c) (h4 j c hc)).2 c rfl
   simpa using this
  ·exact⟨vs,rfl,by simpa using hl,fun j u b hu hb=>(key j u hu _ hb).1 b rfl,fun j u c hu hc=>(key j u hu _ hc).2 c rfl⟩
 |own t=>exact h.elim
 |yl l=>trivial
 |bad=>trivial
theorem zvE(hH:∀ i b,hp i=some b->isF i=false /\ BlkR w m bad0 i b)(hm:MemOk w prot bad0 m)(hfp:∀ b ∈ fp,isF b=false)(hbo:∀ b ∈ bors,isF b=false){v:Value}{x:AV}(h:AVRep w m bad0 v x)(hb:∀ b ∈ x.bor fp hp,b ∈ bors) :
  AVRep w (m.cal fp bors) (badC fp bors m bad0) v (x.toC fp hp):=by
 cases h with
 |cell v x h=>exact .cell _ _ (zoD hH hm hfp hbo h hb)
 |agg cs xs hl ho h=>
  refine .agg cs _ (by simpa using hl) ho fun j u x hu hx=>?_
  rw[List.getElem?_map]at hx
  cases hj:xs[j]? with
  |none=>simp[hj]at hx
  |some y=>
   simp[hj]at hx;subst hx
   exact zoD hH hm hfp hbo (h j u y hu hj) fun b hbb=>hb b (by simp only[AV.bor,List.mem_flatMap];exact⟨y,List.mem_of_getElem? hj,hbb⟩)
 |tup=>exact .bad _
 |bad=>exact .bad _
theorem zvC(hfp:∀ b ∈ fp,isF b=false):Mp w bad0 m (badC fp bors m bad0) (m.cal fp bors) (AC.toF fp) false:=by
 have hp0:Hx w (Bad m bad0) w (Bad (m.cal fp bors) (badC fp bors m bad0)):=Hx.same fun q hn h=>hn (zqa hfp q h)
 refine⟨fun v c _ h=>?_,fun t=>rfl,fun v t hs _ h=>OTR.mono hp0 h fun _ _=>rfl,fun c=>rfl⟩
 cases c with
 |p c=>exact CRep.mono hp0 h
 |z=>exact h
 |ref b off=>exact RefR.le h (zfn b)
 |sl b off sz n=>exact SlR.le h (zfn b)
 |mp b=>exact MpR.le h (zfn b)
 |ep cells pos=>
  obtain⟨y,raws,hv,hc,hr⟩:=h
  refine⟨y,raws,hv,fun j u hj=>?_,hr.mono hp0⟩
  obtain⟨h1,h2⟩:=hc j u hj
  have:=hp0.cell (y.add j) u (by rw[add_block];exact h1) h2
  rwa [add_block]at this
 |fn f caps=>
  obtain⟨vs,rfl,hl,h1,h2⟩:=h
  refine⟨vs,rfl,by simpa using hl,fun j u b hu hb=>?_,fun j u c hu hc=>?_⟩
  ·rw[List.getElem?_map]at hb
   cases hj:caps[j]? with
   |none=>simp[hj]at hb
   |some c0=>
    cases c0 with
    |inr c=>simp[hj]at hb
    |inl b0=>simp[hj]at hb;subst hb;exact RefR.le (h1 j u b0 hu hj) (zfn b0)
  ·rw[List.getElem?_map]at hc
   cases hj:caps[j]? with
   |none=>simp[hj]at hc
   |some c0=>
    cases c0 with
    |inl b0=>simp[hj]at hc
    |inr c1=>simp[hj]at hc;subst hc;exact CRep.mono hp0 (h2 j u c1 hu hj)
 |own t=>exact h.elim
 |yl l=>trivial
 |bad=>trivial
theorem zrv{post:List (Id × Blk)}{x y:Id}(h:isR post g i x=some y):∃ k,x=.o g i k /\ y=.r k /\ (lk post (.r k)).isSome=true:=by
 unfold isR at h
 split at h
 ·split at h
  ·rename_i e;cases h;exact⟨_,by rw[e.1,e.2.1],rfl,e.2.2⟩
  ·cases h
 ·cases h
theorem zli:∀ {post:List (Id × Blk)} {x:Id} {b:Blk},lk post x=some b->(x,b) ∈ post
 |[],x,b,h=>by cases h
 |(j,c)::r,x,b,h=>by
  simp only[lk]at h
  split at h
  ·rename_i e;cases h;subst e;exact List.mem_cons_self ..
  ·exact List.mem_cons_of_mem _ (zli h)
theorem zmw:∀ {post:List (Id × Blk)} {x:Id},lk post x=none->∀ b,(x,b) ∉ post
 |[],x,h,b=>by simp
 |(j,c)::r,x,h,b=>by
  simp only[lk]at h
  split at h
  ·cases h
  ·rename_i e
   intro hm
   rcases List.mem_cons.1 hm with h'|h'
   ·cases h';exact e rfl
   ·exact zmw h b h'
theorem zed(post:List (Id × Blk))(x:Id):(∃ k,ix fp x 0=some k /\ (m.ret mc fp bors F post g i).ρ x=mc.ρ (.a k) /\ ∀ j,(m.ret mc fp bors F post g i).hid x j=mc.hid (.a k) j) \/
  (x ∉ fp /\ ∃ k,x=.o g i k /\ (lk post (.r k)).isSome=true /\ (m.ret mc fp bors F post g i).ρ x=mc.ρ (.r k) /\ ∀ j,(m.ret mc fp bors F post g i).hid x j=mc.hid (.r k) j) \/
  (x ∉ fp /\ isR post g i x=none /\ (((F=false /\ x ∈ bors) /\ (m.ret mc fp bors F post g i).ρ x=.dead /\ ∀ j,(m.ret mc fp bors F post g i).hid x j=[]) \/ (¬ (F=false /\ x ∈ bors) /\ (m.ret mc fp bors F post g i).ρ x=m.ρ x /\ ∀ j,(m.ret mc fp bors F post g i).hid x j=m.hid x j))):=by
 cases hi:ix fp x 0 with
 |some k=>exact .inl ⟨k,rfl,by simp[Mem.ret,hi],fun j=>by simp[Mem.ret,hi]⟩
 |none=>
  right
  cases hr:isR post g i x with
  |some y=>
   obtain⟨k,e1,e2,e3⟩:=zrv hr
   subst e2
   exact .inl ⟨ziM hi,k,e1,e3,by simp only[Mem.ret,hi,hr],fun j=>by simp only[Mem.ret,hi,hr]⟩
  |none=>
   refine .inr ⟨ziM hi,rfl,?_⟩
   by_cases hb:F=false /\ x ∈ bors
   ·exact .inl ⟨hb,by simp[Mem.ret,hi,hr,hb.1,hb.2],fun j=>by simp[Mem.ret,hi,hr,hb.1,hb.2]⟩
   ·have hb':¬ (F=false /\ bors.contains x=true):=by simpa using hb
    exact .inr ⟨hb,by simp only[Mem.ret,hi,hr,if_neg hb'],fun j=>by simp only[Mem.ret,hi,hr,if_neg hb']⟩
end
end Go.Hw
end
section
namespace Go.Hw
variable [Globals]
open Go.RowKit (Below)
section
variable {w w':World} {m mc:Mem} {bad0 prot:Nat->Prop} {fp bors:List Id} {g i:Nat} {F:Bool} {hp:Id->Option Blk} {post:List (Id × Blk)}
structure CallAt (w:World) (m:Mem) (bad0 prot:Nat->Prop) (fp bors:List Id) (g i:Nat):Prop where
 ok:MemOk w prot bad0 m
 protlt:∀ b,prot b->b < w.heap.size
 badlt:∀ b,bad0 b->b < w.heap.size
 nodup:fp.Nodup
 fpF:∀ b ∈ fp,isF b=false
 boF:∀ b ∈ bors,isF b=false
 fpU:∀ b ∈ fp,m.ρ b ≠ .un
 boU:∀ b ∈ bors,m.ρ b ≠ .un
 dis:∀ b ∈ bors,b ∉ fp
 fr:∀ x q base,isF x=true->m.ρ x=.at_ q base->bad0 q
 un:∀ k,m.ρ (.o g i k)=.un
theorem zhy{b:Id}{k:Nat}(h:ix fp b 0=some k):fp[k]?=some b:=by
 obtain⟨_,h2⟩:=ziL h
 rwa [Nat.sub_zero]at h2
theorem zpH(A:CallAt w m bad0 prot fp bors g i)(k:Nat):ix fp (.o g i k) 0=none:=by
 cases hi:ix fp (.o g i k) 0 with
 |none=>rfl
 |some j=>exact(A.fpU _ (List.mem_of_getElem? (zhy hi)) (A.un k)).elim
theorem zif(A:CallAt w m bad0 prot fp bors g i)(hf:∀ x,mc.ρ (.f x)=(m.cal fp bors).ρ (.f x)){b b':Id}(h:idB fp bors post g i b=some b') :
  mc.ρ b=.un \/ (m.ret mc fp bors F post g i).ρ b'=mc.ρ b:=by
 cases b with
 |a k=>
  simp only[idB]at h
  have hi:=znp A.nodup h
  right
  simp[Mem.ret,hi]
 |r k=>
  simp only[idB]at h
  split at h
  ·rename_i hl
   cases h
   right
   simp[Mem.ret,zpH A k,isR,hl]
  ·cases h
 |f x=>
  simp only[idB]at h
  split at h
  ·cases h
  ·rename_i hx
   simp only[Option.some.injEq]at h
   subst h
   have hx':=hx
   simp only[Bool.or_eq_true,List.contains_iff_mem,not_or]at hx'
   have e1:mc.ρ (.f x)=m.ρ x:=by rw[hf];simp only[Mem.cal,if_neg hx]
   rcases zed (m:=m) (mc:=mc) (fp:=fp) (bors:=bors) (F:=F) (g:=g) (i:=i) post x with⟨k,hk,_⟩ |⟨_,k,rfl,_,_⟩ |⟨_,_,⟨⟨_,hb⟩,_⟩ |⟨_,h1,_⟩⟩
   ·exact(hx'.1 (List.mem_of_getElem? (zhy hk))).elim
   ·left;rw[e1];exact A.un k
   ·exact(hx'.2 hb).elim
   ·right;rw[h1,e1]
 |o _ _ _=>simp[idB]at h
 |l _=>simp[idB]at h
def OwnX (m:Mem)(x:Id)(q:Nat):Prop:=(isF x=false /\ ∃ base,m.ρ x=.at_ q base) \/ ∃ j,q ∈ m.hid x j
theorem OwnX.own{x:Id}{q:Nat}(h:OwnX m x q):Own m q:=by
 rcases h with⟨h1,base,h2⟩ |⟨j,h⟩
 ·exact .inl ⟨x,base,h1,h2⟩
 ·exact .inr ⟨x,j,h⟩
theorem OwnX.apart(hm:MemOk w prot bad0 m){x b:Id}(hb:isF b=false)(hne:x ≠ b){q:Nat}(h:OwnX m x q):¬ OwnB m b q:=by
 intro h2
 rcases h with⟨h1,base,h⟩ |⟨j,h⟩
 ·exact hne (zgt hm h1 hb (.inl ⟨base,h⟩) h2)
 ·rcases h2 with⟨base,h2⟩ |⟨k,h2⟩
  ·exact hm.sep b q base x j hb h2 h
  ·exact hne (hm.hdj x j b k q h h2).1
theorem OwnX.inj(hm:MemOk w prot bad0 m){x y:Id}{q:Nat}(h:OwnX m x q)(k:OwnX m y q):x=y:=by
 rcases h with⟨h1,b1,h⟩ |⟨j,h⟩<;>rcases k with⟨k1,b2,k⟩ |⟨j2,k⟩
 ·exact hm.inj x y q b1 b2 h1 k1 h k
 ·exact(hm.sep x q b1 y j2 h1 h k).elim
 ·exact(hm.sep y q b2 x j k1 k h).elim
 ·exact(hm.hdj x j y j2 q h k).1
theorem zgg(post:List (Id × Blk)){x:Id}{q:Nat}(h:OwnX (m.ret mc fp bors F post g i) x q) :
  (∃ k,ix fp x 0=some k /\ OwnX mc (.a k) q) \/ (x ∉ fp /\ ∃ k,x=.o g i k /\ OwnX mc (.r k) q) \/ (x ∉ fp /\ ¬ (F=false /\ x ∈ bors) /\ OwnX m x q):=by
 rcases zed (m:=m) (mc:=mc) (fp:=fp) (bors:=bors) (F:=F) (g:=g) (i:=i) post x with⟨k,hk,e1,e2⟩ |⟨hn,k,hx,_,e1,e2⟩ |⟨hn,_,⟨_,e1,e2⟩ |⟨hb,e1,e2⟩⟩
 ·refine .inl ⟨k,hk,?_⟩
  rcases h with⟨_,base,h⟩ |⟨j,h⟩
  ·rw[e1]at h;exact .inl ⟨rfl,base,h⟩
  ·rw[e2]at h;exact .inr ⟨j,h⟩
 ·refine .inr (.inl ⟨hn,k,hx,?_⟩)
  rcases h with⟨_,base,h⟩ |⟨j,h⟩
  ·rw[e1]at h;exact .inl ⟨rfl,base,h⟩
  ·rw[e2]at h;exact .inr ⟨j,h⟩
 ·rcases h with⟨_,base,h⟩ |⟨j,h⟩
  ·rw[e1]at h;cases h
  ·rw[e2]at h;cases h
 ·refine .inr (.inr ⟨hn,hb,?_⟩)
  rcases h with⟨h1,base,h⟩ |⟨j,h⟩
  ·rw[e1]at h;exact .inl ⟨h1,base,h⟩
  ·rw[e2]at h;exact .inr ⟨j,h⟩
theorem zs9{q:Nat}(h:Own m q):∃ x,OwnX m x q:=by
 rcases h with⟨x,base,h1,h2⟩ |⟨x,j,h⟩
 ·exact⟨x,.inl ⟨h1,base,h2⟩⟩
 ·exact⟨x,.inr ⟨j,h⟩⟩
section
variable (A:CallAt w m bad0 prot fp bors g i) (hP:Post w (m.cal fp bors) (badC fp bors m bad0) w' mc post)
include A hP
theorem znk{q:Nat}(h:Own mc q):(∃ b ∈ fp,OwnB m b q) \/ w.heap.size<=q:=by
 rcases hP.own q h with h|h
 ·exact .inl (ziZ h)
 ·exact .inr h
theorem zh7{x:Id}(hx:x ∉ fp){q:Nat}(h:OwnX m x q):¬ Own mc q:=by
 intro h2
 rcases znk A hP h2 with⟨b,hb,h3⟩|h3
 ·exact h.apart A.ok (A.fpF b hb) (fun e:x=b=>hx (e ▸ hb)) h3
 ·have:=(A.ok.lt q h.own).1;omega
theorem zvM:MemOk w' prot bad0 (m.ret mc fp bors F post g i):=by
 have key:∀ x y q,OwnX (m.ret mc fp bors F post g i) x q->OwnX (m.ret mc fp bors F post g i) y q->x=y:=by
  intro x y q hx hy
  rcases zgg post hx with⟨k,h1,h2⟩ |⟨n1,k,h1,h2⟩ |⟨n1,h1,h2⟩<;>rcases zgg post hy with⟨k',h3,h4⟩ |⟨n2,k',h3,h4⟩ |⟨n2,h3,h4⟩
  ·have e:=h2.inj hP.ok h4
   cases e
   exact Option.some.inj ((zhy h1).symm.trans (zhy h3))
  ·have e:=h2.inj hP.ok h4;cases e
  ·exact(zh7 A hP n2 h4 h2.own).elim
  ·have e:=h2.inj hP.ok h4;cases e
  ·have e:=h2.inj hP.ok h4;cases e;rw[h1,h3]
  ·exact(zh7 A hP n2 h4 h2.own).elim
  ·exact(zh7 A hP n1 h2 h4.own).elim
  ·exact(zh7 A hP n1 h2 h4.own).elim
  ·exact h2.inj A.ok h4
 refine⟨fun q hq=>?_,fun x y q b1 b2 h1 h2 h3 h4=>key x y q (.inl ⟨h1,b1,h3⟩) (.inl ⟨h2,b2,h4⟩),fun x q b y j h1 h2 h3=>?_,fun x j=>?_,fun x j y k q h1 h2=>?_⟩
 ·obtain⟨x,hx⟩:=zs9 hq
  have fin:Own mc q->q < w'.heap.size /\ ¬ prot q /\ ¬ bad0 q:=fun h=>by
   refine⟨(hP.ok.lt q h).1,fun hpq=>?_,fun hbq=>?_⟩
   ·rcases znk A hP h with⟨b,hb,h3⟩|h3
    ·exact(A.ok.lt q (zcR (A.fpF b hb) h3)).2.1 hpq
    ·have:=A.protlt q hpq;omega
   ·rcases znk A hP h with⟨b,hb,h3⟩|h3
    ·exact(A.ok.lt q (zcR (A.fpF b hb) h3)).2.2 hbq
    ·have:=A.badlt q hbq;omega
  rcases zgg post hx with⟨k,_,h⟩ |⟨_,k,_,h⟩ |⟨_,_,h⟩
  ·exact fin h.own
  ·exact fin h.own
  ·obtain⟨k1,k2,k3⟩:=A.ok.lt q h.own
   exact⟨Nat.lt_of_lt_of_le k1 hP.turn.size,k2,k3⟩
 ·have e:=key x y q (.inl ⟨h1,b,h2⟩) (.inr ⟨j,h3⟩)
  subst e
  rcases zed (m:=m) (mc:=mc) (fp:=fp) (bors:=bors) (F:=F) (g:=g) (i:=i) post x with⟨k,_,e1,e2⟩ |⟨_,k,_,_,e1,e2⟩ |⟨_,_,⟨_,e1,e2⟩ |⟨_,e1,e2⟩⟩
  ·rw[e1]at h2;rw[e2]at h3;exact hP.ok.sep _ q b _ j rfl h2 h3
  ·rw[e1]at h2;rw[e2]at h3;exact hP.ok.sep _ q b _ j rfl h2 h3
  ·rw[e1]at h2;cases h2
  ·rw[e1]at h2;rw[e2]at h3;exact A.ok.sep _ q b _ j h1 h2 h3
 ·rcases zed (m:=m) (mc:=mc) (fp:=fp) (bors:=bors) (F:=F) (g:=g) (i:=i) post x with⟨k,_,_,e2⟩ |⟨_,k,_,_,_,e2⟩ |⟨_,_,⟨_,_,e2⟩ |⟨_,_,e2⟩⟩<;>rw[e2]
  ·exact hP.ok.hnd _ _
  ·exact hP.ok.hnd _ _
  ·exact List.nodup_nil
  ·exact A.ok.hnd _ _
 ·have e:=key x y q (.inr ⟨j,h1⟩) (.inr ⟨k,h2⟩)
  refine⟨e,?_⟩
  subst e
  rcases zed (m:=m) (mc:=mc) (fp:=fp) (bors:=bors) (F:=F) (g:=g) (i:=i) post x with⟨k',_,_,e2⟩ |⟨_,k',_,_,_,e2⟩ |⟨_,_,⟨_,_,e2⟩ |⟨_,_,e2⟩⟩<;>rw[e2]at h1 h2
  ·exact(hP.ok.hdj _ _ _ _ q h1 h2).2
  ·exact(hP.ok.hdj _ _ _ _ q h1 h2).2
  ·cases h1
  ·exact(A.ok.hdj _ _ _ _ q h1 h2).2
theorem zqb(hF:F=false \/ F=true):Mp w' (badC fp bors m bad0) mc bad0 (m.ret mc fp bors F post g i) (AC.back fp bors post g i) F:=by
 have hp0:F=false->Hx w' (Bad mc (badC fp bors m bad0)) w' (Bad (m.ret mc fp bors F post g i) bad0):=fun hF=>Hx.same fun q hn=>by
  have notB:∀ x,x ∉ fp->x ∉ bors->OwnX m x q->False:=fun x h1 h2 h3=>hn (.inr ⟨.inl h3.own,fun b hb=>h3.apart A.ok (A.fpF b hb) fun e:x=b=>h1 (e ▸ hb),fun b hb=>h3.apart A.ok (A.boF b hb) fun e:x=b=>h2 (e ▸ hb)⟩)
  rintro(h|h)
  ·obtain⟨x,hx⟩:=zs9 h
   rcases zgg post hx with⟨k,_,h⟩ |⟨_,k,_,h⟩ |⟨h1,h2,h⟩
   ·exact hn (.inl h.own)
   ·exact hn (.inl h.own)
   ·exact notB x h1 (fun hb=>h2 ⟨hF,hb⟩) h
  ·refine hn (.inr ⟨.inr h,fun b hb h3=>?_,fun b hb h3=>?_⟩)
   ·exact(A.ok.lt q (zcR (A.fpF b hb) h3)).2.2 h
   ·exact(A.ok.lt q (zcR (A.boF b hb) h3)).2.2 h
 have pr:∀ {v:Value} {c:CV},(F=true->c.isC=true)->CRep w' (Bad mc (badC fp bors m bad0)) v c->CRep w' (Bad (m.ret mc fp bors F post g i) bad0) v c:=fun {v c} hc h=>by
  rcases hF with e|e
  ·exact CRep.mono (hp0 e) h
  ·exact zmA h (hc e)
 refine⟨fun v c hfl h=>?_,fun t=>rfl,fun v t hs hfl h=>?_,fun c=>rfl⟩
 ·cases c with
  |p c=>exact pr hfl h
  |z=>exact h
  |ref b off=>
   simp only[AC.back]
   cases hb:idB fp bors post g i b with
   |none=>trivial
   |some b'=>
    rcases zif (F:=F) A hP.fore hb with e|e
    ·have h':RefR (mc.ρ b) off v:=h
     rw[e]at h';exact h'.elim
    ·show RefR _ _ _;rw[e];exact h
  |sl b off sz n=>
   simp only[AC.back]
   cases hb:idB fp bors post g i b with
   |none=>trivial
   |some b'=>
    rcases zif (F:=F) A hP.fore hb with e|e
    ·have h':SlR w' (mc.ρ b) off sz n v:=h
     rw[e]at h';exact h'.elim
    ·show SlR _ _ _ _ _ _;rw[e];exact h
  |mp b=>
   simp only[AC.back]
   cases hb:idB fp bors post g i b with
   |none=>trivial
   |some b'=>
    rcases zif (F:=F) A hP.fore hb with e|e
    ·have h':MpR (mc.ρ b) v:=h
     rw[e]at h';exact h'.elim
    ·show MpR _ _;rw[e];exact h
  |ep cells pos=>
   rcases hF with e|e
   ·obtain⟨y,raws,hv,hc,hr⟩:=h
    refine⟨y,raws,hv,fun j u hj=>?_,hr.mono (hp0 e)⟩
    obtain⟨h1,h2⟩:=hc j u hj
    have:=(hp0 e).cell (y.add j) u (by rw[add_block];exact h1) h2
    rwa [add_block]at this
   ·cases hfl e
  |fn f caps=>
   simp only[AC.back]
   cases hg:AC.back.go fp bors post g i caps with
   |none=>trivial
   |some caps'=>
    obtain⟨vs,rfl,hl,h1,h2⟩:=h
    have key:∀(l:List (Id ⊕ CV)) (l':List (Id ⊕ CV)),AC.back.go fp bors post g i l=some l'->l'.length=l.length /\ ∀(j:Nat) (c':Id ⊕ CV),l'[j]?=some c'->(∃ b b',l[j]?=some (.inl b) /\ c'=.inl b' /\ idB fp bors post g i b=some b') \/ ∃ c,l[j]?=some (.inr c) /\ c'=.inr c:=by
     intro l
     induction l with
     |nil=>intro l' h;simp[AC.back.go]at h;subst h;simp
     |cons c r ih=>
      intro l' h
      cases c with
      |inr c=>
       simp only[AC.back.go,Option.map_eq_some_iff]at h
       obtain⟨l2,h3,rfl⟩:=h
       obtain⟨h4,h5⟩:=ih l2 h3
       refine⟨by simp[h4],fun j c' hj=>?_⟩
       cases j with
       |zero=>simp at hj;subst hj;exact .inr ⟨c,rfl,rfl⟩
       |succ j=>simpa using h5 j c' (by simpa using hj)
      |inl b=>
       simp only[AC.back.go]at h
       split at h
       ·rename_i b' l2 h3 h6
        cases h
        obtain⟨h4,h5⟩:=ih l2 h6
        refine⟨by simp[h4],fun j c' hj=>?_⟩
        cases j with
        |zero=>simp at hj;subst hj;exact .inl ⟨b,b',rfl,rfl,h3⟩
        |succ j=>simpa using h5 j c' (by simpa using hj)
       ·cases h
    obtain⟨k1,k2⟩:=key caps caps' hg
    refine⟨vs,rfl,by rw[k1];exact hl,fun j u b hu hb=>?_,fun j u c hu hc=>?_⟩
    ·rcases k2 j _ hb with⟨b0,b',h3,h4,h5⟩ |⟨c,_,h4⟩
     ·cases h4
      rcases zif (F:=F) A hP.fore h5 with e|e
      ·have h':=h1 j u b0 hu h3
       rw[e]at h';exact h'.elim
      ·rw[e];exact h1 j u b0 hu h3
     ·cases h4
    ·rcases k2 j _ hc with⟨b0,b',_,h4,_⟩ |⟨c0,h3,h4⟩
     ·cases h4
     ·cases h4
      refine pr (fun e=>?_) (h2 j u c hu h3)
      have:=List.all_eq_true.1 (hfl e) _ (List.mem_of_getElem? h3)
      simpa using this
  |own t=>exact h.elim
  |yl l=>trivial
  |bad=>trivial
 ·rcases hF with e|e
  ·exact OTR.mono (hp0 e) h fun _ _=>rfl
  ·exact h.flat (hfl e)
end
theorem zpO{f:AC->AC}:∀ {fp:List Id} {s:Nat} {x:Id} {v:Option Blk},(x,v) ∈ fpU post f fp s->∃ k,fp[k]?=some x /\ v=(lk post (.a (s+k))).map (Blk.mp f)
 |[],s,x,v,h=>by cases h
 |b::r,s,x,v,h=>by
  simp only[fpU,List.mem_cons,Prod.mk.injEq]at h
  rcases h with⟨rfl,rfl⟩|h
  ·exact⟨0,rfl,by simp⟩
  ·obtain⟨k,h1,h2⟩:=zpO h
   exact⟨k+1,by simpa using h1,by rw[h2,show s+1+k=s+(k+1) by omega]⟩
theorem zki{f:AC->AC}:∀ {fp:List Id} {s:Nat} {x:Id},x ∈ fp->∃ v,(x,v) ∈ fpU post f fp s
 |b::r,s,x,h=>by
  rcases List.mem_cons.1 h with rfl|h
  ·exact⟨_,List.mem_cons_self ..⟩
  ·obtain⟨v,hv⟩:=zki (fp:=r) (s:=s+1) h
   exact⟨v,List.mem_cons_of_mem _ hv⟩
theorem zo7{f:AC->AC}:∀ {post:List (Id × Blk)} {x:Id} {v:Option Blk},(x,v) ∈ rU g i f post->∃ k b,(.r k,b) ∈ post /\ x=.o g i k /\ v=some (b.mp f)
 |[],x,v,h=>by cases h
 |(j,b)::l,x,v,h=>by
  cases j with
  |r k=>
   simp only[rU,List.mem_cons,Prod.mk.injEq]at h
   rcases h with⟨rfl,rfl⟩|h
   ·exact⟨k,b,by simp,rfl,rfl⟩
   ·obtain⟨k',b',h1,h2,h3⟩:=zo7 h;exact⟨k',b',List.mem_cons_of_mem _ h1,h2,h3⟩
  |_=>obtain⟨k',b',h1,h2,h3⟩:=zo7 (post:=l) h;exact⟨k',b',List.mem_cons_of_mem _ h1,h2,h3⟩
theorem zsb{f:AC->AC}:∀ {post:List (Id × Blk)} {k:Nat} {b:Blk},(.r k,b) ∈ post->(Id.o g i k,some (b.mp f)) ∈ rU g i f post
 |(j,c)::l,k,b,h=>by
  rcases List.mem_cons.1 h with h|h
  ·cases h;exact List.mem_cons_self ..
  ·have:=zsb (f:=f) h
   cases j with
   |r k'=>exact List.mem_cons_of_mem _ this
   |_=>exact this
theorem zrU(A:CallAt w m bad0 prot fp bors g i)(hP:Post w (m.cal fp bors) (badC fp bors m bad0) w' mc post){out:Out}:Upd w m bad0 prot w' (m.ret mc fp bors (zeM out post) post g i) g i (zdw fp bors g i out post):=by
 have hin:∀ x v,(x,v) ∈ zdw fp bors g i out post->(∃ k,fp[k]?=some x /\ v=(lk post (.a k)).map (Blk.mp (AC.back fp bors post g i))) \/ (∃ k b,(.r k,b) ∈ post /\ x=.o g i k /\ v=some (b.mp (AC.back fp bors post g i))) \/ (zeM out post=false /\ x ∈ bors /\ v=none):=by
  intro x v h
  simp only[zdw,List.mem_append]at h
  rcases h with(h|h)|h
  ·obtain⟨k,h1,h2⟩:=zpO h
   exact .inl ⟨k,h1,by simpa using h2⟩
  ·exact .inr (.inl (zo7 h))
  ·split at h
   ·cases h
   ·rename_i hf
    obtain⟨b,hb,e⟩:=List.mem_map.1 h
    cases e
    exact .inr (.inr ⟨by simpa using hf,hb,rfl⟩)
 have hM:=zqb (F:=zeM out post) A hP (by cases zeM out post<;>simp)
 have hfl:∀ x b,(x,b) ∈ post->zeM out post=true->b.flat=true:=fun x b h e=>by
  simp only[zeM,Bool.and_eq_true]at e
  exact List.all_eq_true.1 e.2 (x,b) h
 have hsame:∀ q,q < w.heap.size->(∀ b ∈ fp,¬ OwnB m b q)->w'.heap[q]?=w.heap[q]?:=fun q hq hn=>hP.turn.same q hq fun h=>by
  obtain⟨b,hb,h⟩:=ziZ h
  exact hn b hb h
 refine⟨⟨Hx.blocks fun q hq hn=>⟨?_,hsame q hq fun b hb h=>hn (.inl (zcR (A.fpF b hb) h))⟩,fun x=>?_,fun x q base n h1 h2 hs=>?_⟩,zvM A hP,hP.turn.os,hP.turn.tape,hP.turn.output,hP.turn.size,fun q hq hn=>hsame q hq fun b hb h=>hn (zcR (A.fpF b hb) h),fun x k h=>?_,fun x h=>?_,fun x=>?_,fun x hx hne=>?_⟩
 ·rintro(h|h)
  ·obtain⟨x,hx⟩:=zs9 h
   have fin:Own mc q->False:=fun h=>by
    rcases znk A hP h with⟨b,hb,h3⟩|h3
    ·exact hn (.inl (zcR (A.fpF b hb) h3))
    ·omega
   rcases zgg post hx with⟨k,_,h⟩ |⟨_,k,_,h⟩ |⟨_,_,h⟩
   ·exact fin h.own
   ·exact fin h.own
   ·exact hn (.inl h.own)
  ·exact hn (.inr h)
 ·rcases zed (m:=m) (mc:=mc) (fp:=fp) (bors:=bors) (F:=zeM out post) (g:=g) (i:=i) post x with⟨k,hk,e1,_⟩ |⟨_,k,rfl,_,_⟩ |⟨_,_,⟨_,e1,_⟩ |⟨_,e1,_⟩⟩
  ·rcases hP.arg k with e|e
   ·exact .inr (.inl (e1.trans e))
   ·refine .inr (.inr (e1.trans (e.trans ?_)))
    simp[Mem.cal,zhy hk]
  ·exact .inl (A.un k)
  ·exact .inr (.inl e1)
  ·exact .inr (.inr e1)
 ·rcases zed (m:=m) (mc:=mc) (fp:=fp) (bors:=bors) (F:=zeM out post) (g:=g) (i:=i) post x with⟨k,hk,e1,_⟩ |⟨_,k,rfl,_,_⟩ |⟨hx,_,⟨_,e1,_⟩ |⟨_,e1,_⟩⟩
  ·rw[e1]at h1;exact hP.argS k q base n h1 hs
  ·rw[A.un k]at h2;cases h2
  ·rw[e1]at h1;cases h1
  ·have hq:q < w.heap.size:=by obtain⟨_,_,_,h,_⟩:=hs;exact lt_of_heap h
   refine Shp.heap (hsame q hq fun b hb h=>?_) hs
   cases hxF:isF x with
   |false=>exact hx (zgt A.ok hxF (A.fpF b hb) (.inl ⟨base,h2⟩) h ▸ hb)
   |true=>exact(A.ok.lt q (zcR (A.fpF b hb) h)).2.2 (A.fr x q base hxF h2)
 ·rcases hin x _ h with⟨k',h1,h2⟩ |⟨k',b,h1,rfl,h2⟩ |⟨_,_,h2⟩
  ·have h2:=h2.symm
   rw[Option.map_eq_some_iff]at h2
   obtain⟨b,h3,rfl⟩:=h2
   have h4:=(hP.blk _ b (zli h3)).2
   have hi:=znp A.nodup h1
   exact⟨A.fpF x (List.mem_of_getElem? h1),hM.blk (by simp[Mem.ret,hi]) (fun j=>by simp[Mem.ret,hi]) (hfl _ b (zli h3)) h4⟩
  ·cases h2
   have hs:(lk post (.r k')).isSome=true:=by
    cases hl:lk post (.r k') with
    |none=>exact(zmw hl b h1).elim
    |some _=>rfl
   exact⟨rfl,hM.blk (by simp[Mem.ret,zpH A k',isR,hs]) (fun j=>by simp[Mem.ret,zpH A k',isR,hs]) (hfl _ b h1) (hP.blk _ b h1).2⟩
  ·cases h2
 ·have hnfp:x ∉ fp:=fun hx=>by
   obtain⟨v,hv⟩:=zki (post:=post) (f:=AC.back fp bors post g i) (s:=0) hx
   exact h v (by simp only[zdw,List.mem_append];exact .inl (.inl hv))
  have e:(m.ret mc fp bors (zeM out post) post g i).ρ x=m.ρ x /\ ∀ j,(m.ret mc fp bors (zeM out post) post g i).hid x j=m.hid x j:=by
   rcases zed (m:=m) (mc:=mc) (fp:=fp) (bors:=bors) (F:=zeM out post) (g:=g) (i:=i) post x with⟨k,hk,_⟩ |⟨_,k,rfl,hl,_⟩ |⟨_,_,⟨⟨hF,hb⟩,_⟩ |⟨_,e1,e2⟩⟩
   ·exact(hnfp (List.mem_of_getElem? (zhy hk))).elim
   ·rw[Option.isSome_iff_exists]at hl
    obtain⟨b,hl⟩:=hl
    exact(h _ (by simp only[zdw,List.mem_append];exact .inl (.inr (zsb (zli hl))))).elim
   ·exact(h none (by simp only[zdw,List.mem_append,hF];exact .inr (by simpa using hb))).elim
   ·exact⟨e1,e2⟩
  refine⟨e.1,e.2,fun q base hxF hq=>hsame q (A.ok.lt q (.inl ⟨x,base,hxF,hq⟩)).1 fun b hb ho=>hnfp (zgt A.ok hxF (A.fpF b hb) (.inl ⟨base,hq⟩) ho ▸ hb),fun j q hq=>hsame q (A.ok.lt q (.inr ⟨x,j,hq⟩)).1 fun b hb ho=>?_⟩
  exact OwnX.apart A.ok (A.fpF b hb) (fun e=>hnfp (e ▸ hb)) (x:=x) (.inr ⟨j,hq⟩) ho
 ·rcases zed (m:=m) (mc:=mc) (fp:=fp) (bors:=bors) (F:=zeM out post) (g:=g) (i:=i) post (.f x) with⟨k,hk,_⟩ |⟨_,k,h,_,_⟩ |⟨_,_,⟨⟨_,hb⟩,_⟩ |⟨_,e1,e2⟩⟩
  ·have:=A.fpF _ (List.mem_of_getElem? (zhy hk));cases this
  ·cases h
  ·have:=A.boF _ hb;cases this
  ·exact e1
 ·rcases zed (m:=m) (mc:=mc) (fp:=fp) (bors:=bors) (F:=zeM out post) (g:=g) (i:=i) post x with⟨k,hk,_⟩ |⟨_,k,h,_,_⟩ |⟨_,_,⟨⟨_,hb⟩,_⟩ |⟨_,e1,e2⟩⟩
  ·exact(A.fpU x (List.mem_of_getElem? (zhy hk)) hx).elim
  ·exact(hne k h).elim
  ·exact(A.boU x hb hx).elim
  ·exact e1.trans hx
end
end Go.Hw
end
section
namespace Go.Hw
variable [Globals]
open Go.RowKit (Below)
def repA (n:Nat)(zero:List AC):List AC:=match n with|0=>[]|n+1=>zero++repA n zero
def repC (n:Nat)(zero:List CV):List CV:=match n with|0=>[]|n+1=>zero++repC n zero
def AC.isZ:AC->Bool
 |.z=>true
 |_=>false
def mkB (l:List AC):Blk:=if l.any AC.isZ then .cells l else match toCVs l with
 |some cs=>.pure cs
 |none=>.cells l
def zc6(P:Program)(g i n:Nat)(xs:List AV)(hp:Id->Option Blk)(K E:AV->List (Id × Option Blk)->Prop):Prop:=
 ∃ fp as_ pre out post,CAt P n as_ pre out post /\ (xs.map (·.toC fp hp)=as_ /\ fp.map (fun b=>(hp b).map (Blk.mp (AC.toF fp)))=pre.map some /\ fp.Nodup) /\
  match out with
  |.ret r=>K (r.mp (AC.back fp (xs.flatMap (·.bor fp hp)) post g i)) (zdw fp (xs.flatMap (·.bor fp hp)) g i out post)
  |.pan x=>E (x.mp (AC.back fp (xs.flatMap (·.bor fp hp)) post g i)) (zdw fp (xs.flatMap (·.bor fp hp)) g i out post)
def zf4:Id ⊕ CV->AV
 |.inl b=>.cell (.ref b 0)
 |.inr c=>.cell (.p c)
def capA (x:AV):Option (Id ⊕ CV):=match x with
 |.cell (.ref b 0)=>some (.inl b)
 |.cell (.p c)=>some (.inr c)
 |.cell .z=>some (.inr (.sl 0 []))
 |_=>none
def zjr(ev:Operand->AV):List Operand->Option (List (Id ⊕ CV))
 |[]=>some []
 |x::r=>match capA (ev x),zjr ev r with
  |some c,some l=>some (c::l)
  |_,_=>none
def zgM(P:Program)(g i:Nat)(f:AV)(xs:List AV)(hp:Id->Option Blk)(K E:AV->List (Id × Option Blk)->Prop):Prop:=
 match f with
 |.cell (.p (.c (.func (.func n) first caps)))=>(first.isEmpty && caps.isEmpty)=true /\ zc6 P g i n xs hp K E
 |.cell (.p (.fn n cs))=>zc6 P g i n (xs++cs.map fun c=>.cell (.p c)) hp K E
 |.cell (.fn n caps)=>zc6 P g i n (xs++caps.map zf4) hp K E
 |_=>False
def zfr(P:Program)(g i:Nat)(t tx:TypeId)(s x:AV)(hp:Id->Option Blk)(K:AV->List (Id × Option Blk)->Prop):Prop:=
 match P.underlying t with
 |some (.slice e)=>
  match zaR P e with
  |some (sz,by_)=>
   0 < sz /\
   match srcB P hp tx sz x with
   |some (m,news)=>
    match s with
    |.cell (.sl b off sz' n)=>match hp b with
     |some bl=>(bl.ok=true /\ sz'=sz /\ off+n * sz=bl.len /\ n+m<=1099511627776 /\ (n+m) * by_<=140737488355328) /\ K (.cell (.sl (.o g i 0) 0 sz (n+m))) [(b,none),(.o g i 0,some ((bl.drp off).app news))]
     |none=>False
    |.cell .z=>(m<=1099511627776 /\ m * by_<=140737488355328) /\ K (.cell (.sl (.o g i 0) 0 sz m)) [(.o g i 0,some news)]
    |_=>False
   |none=>False
  |none=>False
 |_=>False
def zhn(P:Program)(t:TypeId)(x v:AV)(hp:Id->Option Blk)(K:AV->List (Id × Option Blk)->Prop):Prop:=
 match x,v.cells? with
 |.cell (.ref b off),some ys=>
  szOf P t=some ys.length /\
  match hp b with
  |some (.cells l)=>off+ys.length<=l.length /\ K .bad [(b,some (.cells (zaC l off ys)))]
  |some (.pure l)=>off+ys.length<=l.length /\ match toCVs ys with
   |some cs=>K .bad [(b,some (.pure (zaC l off cs)))]
   |none=>K .bad [(b,some (.cells (zaC (l.map .p) off ys)))]
  |_=>False
 |_,_=>False
def zmu(P:Program)(g i:Nat)(t:TypeId)(l c:AV)(K:AV->List (Id × Option Blk)->Prop):Prop:=
 match P.underlying t,l,c with
 |some (.slice e),.cell (.p (.c (.int _ n))),.cell (.p (.c (.int _ m)))=>
  match zaR P e,(zaP P e).bind toCVs with
  |some (sz,by_),some zero=>(zero.length=sz /\ 0<=n /\ n<=m /\ (by_:Int) * m<=281474976710656 /\ m<=1099511627776) /\ K (.cell (.sl (.o g i 0) 0 sz n.toNat)) [(.o g i 0,some (.pure (repC n.toNat zero)))]
  |_,_=>False
 |_,_,_=>False
def zhG(P:Program)(g i:Nat)(t:TypeId)(len:Nat)(parts:List (Nat × Operand))(ev:Operand->AV)(K:AV->List (Id × Option Blk)->Prop):Prop:=
 match P.underlying t with
 |some (.slice e)=>
  match szOf P e,zaP P e,zfL ev parts with
  |some s,some zero,some ps=>(len * s<=16777216 /\ zero.length=s /\ 0 < s) /\
   match ziQ (fun i=>some (i * s,s)) (repA len zero) ps with
   |some cells=>K (.cell (.sl (.o g i 0) 0 s len)) [(.o g i 0,some (mkB cells))]
   |none=>False
  |_,_,_=>False
 |_=>False
def strB (P:Program)(src dst:TypeId):Bool:=match P.underlying src,P.underlying dst with
 |some .string,some (.slice e)=>match P.underlying e with
  |some (.int .u8)=>true
  |_=>false
 |_,_=>false
def zfM(ks:List MK)(vs:List AC)(n:MK)(c:AC):Blk:=.map (zlf ks n) (zha ks vs n c)
def zpC(ks:List MK)(vs:List AC)(n:MK):Blk:=.map (mdel ks ks n) (mdel ks vs n)
def mapV:AV->Option AC
 |.cell x=>if x.one then some x else none
 |_=>none
def zc3(P:Program)(t:TypeId)(x k v:AV)(hp:Id->Option Blk)(K:AV->List (Id × Option Blk)->Prop):Prop:=
 match P.underlying t,x,mapV v with
 |some (.map kt _),.cell (.mp b),some c=>match hp b with
  |some (.map ks vs)=>match keyC P kt ks k with
   |some n=>K .bad [(b,some (zfM ks vs n c))]
   |none=>False
  |_=>False
 |_,_,_=>False
def zei(P:Program)(t:TypeId)(x k:AV)(hp:Id->Option Blk)(K:AV->List (Id × Option Blk)->Prop):Prop:=
 match P.underlying t,x with
 |some (.map kt _),.cell (.mp b)=>match hp b with
  |some (.map ks vs)=>match keyC P kt ks k with
   |some n=>K .bad [(b,some (zpC ks vs n))]
   |none=>False
  |_=>False
 |_,_=>False
def fop (P:Program)(g i:Nat)(o:Op)(env:Nat->AV)(hp:Id->Option Blk)(K E:AV->List (Id × Option Blk)->Prop):Prop:=
 match o with
 |.call { callee:=.value (.func n),args:=args,argTypes:=_ }=>zc6 P g i n (args.toList.map (evAV env)) hp K E
 |.call { callee:=.value (.tmp t),args:=args,argTypes:=_ }=>zgM P g i (env t) (args.toList.map (evAV env)) hp K E
 |.call { callee:=.builtin .append,args:=args,argTypes:=ts }=>
  match args.toList,ts.toList with
  |[s,x],[t,tx]=>zfr P g i t tx (evAV env s) (evAV env x) hp K
  |_,_=>False
 |.call { callee:=.builtin .delete,args:=args,argTypes:=ts }=>
  match args.toList,ts.toList with
  |[x,k],[t,_]=>zei P t (evAV env x) (evAV env k) hp K
  |_,_=>False
 |.mapUpdate t x k v=>zc3 P t (evAV env x) (evAV env k) (evAV env v) hp K
 |.insert t x k v=>zc3 P t (evAV env x) (evAV env k) (evAV env v) hp K
 |.makeMap _ none=>K (.cell (.mp (.o g i 0))) [(.o g i 0,some (.map [] []))]
 |.store t x v=>zhn P t (evAV env x) (evAV env v) hp K
 |.box _ v=>match(evAV env v).cells? with
  |some xs=>K (.cell (.ref (.o g i 0) 0)) [(.o g i 0,some (.cells xs))]
  |none=>False
 |.alloc e=>match zaP P e with
  |some xs=>K (.cell (.ref (.o g i 0) 0)) [(.o g i 0,some (.cells xs))]
  |none=>False
 |.makeSlice t l c=>zmu P g i t (evAV env l) (evAV env c) K
 |.buildSlice t len parts=>zhG P g i t len parts.toList (evAV env) K
 |.makeFunc (.func f) first caps=>first.isEmpty=true /\ match zjr (evAV env) caps.toList with
  |some cs=>K (.cell (.fn f cs)) []
  |none=>False
 |.convert src dst x=>if strB P src dst then(match evAV env x with
   |.cell (.p (.c (.string s)))=>s.size<=4611686018427387904 /\ K (.cell (.p (.sl s.size (zbj s.data.toList)))) [(.o g i 0,none)]
   |_=>False) else
  match qval P hp (evAV env) (.convert src dst x) with
  |some v=>K v []
  |none=>False
 |.panic x=>match evAV env x with
  |.cell (.p (.c (.iface t u)))=>E (.cell (.p (.c (.iface t u)))) []
  |_=>False
 |o=>match qval P hp (evAV env) o with
  |some v=>K v []
  |none=>False
section
variable {P:Program} {w:World} {m:Mem} {bad0:Nat->Prop}
theorem znO:∀ {raws:List Value} {acs:List AC},Seg w m bad0 raws acs->∀ {cs:List CV},toCVs acs=some cs->CReps w (Bad m bad0) raws cs:=by
 intro raws acs h cs hc
 have hs:=h.toCVs hc
 refine⟨by simpa using hs.len,hs.one,fun j u c hu hj=>?_⟩
 exact hs.rep j u (.p c) hu (by rw[List.getElem?_map,hj];rfl)
def repV (n:Nat)(z:List Value):List Value:=match n with|0=>[]|n+1=>z++repV n z
theorem zg0(z:Array Value):∀ n,repV n z.toList=(List.range (n * z.size)).map (fun i=>z[i % z.size]!)
 |0=>by simp[repV]
 |n+1=>by
  rw[repV,zg0 z n,Nat.succ_mul,Nat.add_comm,List.range_add,List.map_append,List.map_map]
  congr 1
  ·apply List.ext_getElem
   ·simp
   ·intro i h1 h2
    have hi:i < z.size:=by simpa using h1
    simp[Nat.mod_eq_of_lt hi,hi]
  ·apply List.map_congr_left
   intro i _
   simp
theorem zm3{z:List Value}{zero:List AC}(h:Seg w m bad0 z zero):∀ n,Seg w m bad0 (repV n z) (repA n zero)
 |0=>⟨rfl,by simp[repV],by simp[repV]⟩
 |n+1=>h.append (zm3 h n)
theorem zhE(place:Nat->Option (Nat × Nat)):∀(ps:List (Nat × List AC)) (cells cells':List AC),ziQ place cells ps=some cells'->cells'.length=cells.length
 |[],cells,cells',h=>by simp[ziQ]at h;rw[h]
 |(i,v)::r,cells,cells',h=>by
  simp only[ziQ]at h
  split at h
  ·cases h
  ·split at h
   ·cases h
   ·rw[zhE place r _ _ h]
    have:∀(xs:List AC) (cells:List AC) (off:Nat),(zaC cells off xs).length=cells.length:=by
     intro xs
     induction xs with
     |nil=>intro cells off;rfl
     |cons x xs ih=>intro cells off;simp[zaC,ih]
    exact this _ _ _
theorem zir(zero:List AC):∀ n,(repA n zero).length=n * zero.length
 |0=>by simp[repA]
 |n+1=>by rw[repA,List.length_append,zir zero n,Nat.succ_mul,Nat.add_comm]
theorem zjz{zs:List AC}{z:List Value}(hs:Seg w m bad0 z zs){cs:List CV}(hc:toCVs zs=some cs):∀ n,CReps w (Bad m bad0) (repV n z) (repC n cs)
 |0=>⟨rfl,by simp[repV],by simp[repV]⟩
 |n+1=>by
  have h1:=znO hs hc
  have h2:=zjz hs hc n
  refine⟨by simp[repV,repC,h1.len,h2.len],fun u hu=>?_,fun j u c hu hc=>?_⟩
  ·rcases List.mem_append.1 hu with h'|h'
   ·exact h1.one u h'
   ·exact h2.one u h'
  ·simp only[repV,repC]at hu hc
   rcases Nat.lt_or_ge j z.length with hj|hj
   ·rw[List.getElem?_append_left hj]at hu
    rw[List.getElem?_append_left (by rw[<- h1.len];exact hj)]at hc
    exact h1.rep j u c hu hc
   ·rw[List.getElem?_append_right hj]at hu
    rw[List.getElem?_append_right (by rw[<- h1.len];exact hj),<- h1.len]at hc
    exact h2.rep _ u c hu hc
theorem zkL(z:List Value):∀(n m:Nat),n<=m->(repV m z).take (n * z.length)=repV n z
 |0,m,_=>by simp[repV]
 |n+1,0,h=>by omega
 |n+1,m+1,h=>by
  rw[repV,repV,Nat.succ_mul,Nat.add_comm,List.take_append]
  rw[List.take_of_length_le (by omega),Nat.add_sub_cancel_left,zkL z n m (by omega)]
theorem zqQ{ρv:Operand->Value}{n:FuncId}{args:Array Operand}{ts:Array TypeId}{dst:Option Tmp}{ty:TypeId}{pos:String}{after:Array Edge}{guard:Option (Nat × Bool)}
  {fn : Func} (h1 : P.funcs[n]? = some fn) (h2 : (fn.name == "runtime.NumGoroutine") = false) (h3 : fn.body.isNone = false) (hf : ρv (.func n) = .func (.func n) #[] #[]) (w : World) :
  (execOp ρv ⟨dst,.call { callee:=.value (.func n),args:=args,argTypes:=ts },ty,pos,after,guard⟩).run P w=.ok (.enter n (args.map ρv)) w:=by
 have h2' : ¬ fn.name = "runtime.NumGoroutine" := by simpa using h2
 have h3':¬ fn.body=none:=by intro e;rw[e]at h3;simp at h3
 simp[execOp,resolve,Deferred.ofValue,hf,invoke,callFunc,h1,h2',h3']
theorem ziq{ρv:Operand->Value}{g:FuncId}{x:Operand}{args:Array Operand}{ts:Array TypeId}{dst:Option Tmp}{ty:TypeId}{pos:String}{after:Array Edge}{guard:Option (Nat × Bool)}{vs:Array Value}
  {fn : Func} (h1 : P.funcs[g]? = some fn) (h2 : (fn.name == "runtime.NumGoroutine") = false) (h3 : fn.body.isNone = false) (hf : ρv x = .func (.func g) #[] vs) (w : World) :
  (execOp ρv ⟨dst,.call { callee:=.value x,args:=args,argTypes:=ts },ty,pos,after,guard⟩).run P w=.ok (.enter g (args.map ρv++vs)) w:=by
 have h2' : ¬ fn.name = "runtime.NumGoroutine" := by simpa using h2
 have h3':¬ fn.body=none:=by intro e;rw[e]at h3;simp at h3
 simp[execOp,resolve,Deferred.ofValue,hf,invoke,callFunc,h1,h2',h3']
theorem zsU{ρv:Operand->Value}{g:FuncId}{caps:Array Operand}{dst:Option Tmp}{ty:TypeId}{pos:String}{after:Array Edge}{guard:Option (Nat × Bool)}(w:World) :
  (execOp ρv ⟨dst,.makeFunc (.func g) #[] caps,ty,pos,after,guard⟩).run P w=.ok (.value (.func (.func g) #[] (caps.map ρv))) w:=by
 simp[execOp,Instr.makeFunc]
theorem zgf{g off:Nat}{cur:Array Value}{e:TypeId}{fr:Nat × Nat}(hg:w.heap[g]?=some (.cells cur e fr))(hfr:fr.2=fr.1 \/ cur.size<=fr.1){vs:List Value}
  (hl:off+vs.length<=cur.size) (ho:∀ v ∈ vs,v.oneCell'=true):(storeCells ⟨g,off,none⟩ vs).run P w=.ok () (w.setCells g off vs):=by
 have:=run_storeCells_cells (P:=P) g off vs 0 w (fun j hj=>by
  have:off+j < cur.size:=by omega
  simp[World.cell?,hg,this]) (fun j hj=>by
  have:off+j < cur.size:=by omega
  simp only[World.frozen?,hg,Nat.add_zero]
  rcases hfr with h|h
  ·simp;omega
  ·simp;omega) ho
 rwa [Nat.add_zero]at this
end
section
variable {P:Program} {C:Cx} {st:St} {a:Act} {w:World} {m:Mem} {g i:Nat} {o:Oper} {K E:AV->List (Id × Option Blk)->Prop} {next:Act->World->Prop} {Q:Exit->Act->World->Prop}
theorem zpE{hp:Id->Option Blk}(hH:∀ i b,hp i=some b->isF i=false /\ BlkR w m C.bad0 i b){b:Id}{bl:Blk}(h:hp b=some bl):m.ρ b ≠ .un:=fun e=>by
 have hR:=(hH b bl h).2
 cases bl with
 |cells l=>simp only[BlkR,zaq,e]at hR
 |pure l=>simp only[BlkR,zaq,e]at hR
 |map ks vs=>obtain⟨_,_,_,e',_⟩:=hR;rw[e]at e';cases e'
theorem zrW{fp:List Id}{hp:Id->Option Blk}{x:AV}{b:Id}(h:b ∈ x.bor fp hp):∃ cs,lent fp hp b=some cs:=by
 have one:∀ {c:AC},b ∈ c.bor fp hp->∃ cs,lent fp hp b=some cs:=by
  intro c h
  cases c with
  |ref b' off=>
   simp only[AC.bor]at h
   split at h
   ·rename_i hl;rw[Option.isSome_iff_exists]at hl;rw[List.mem_singleton]at h;subst h;exact hl
   ·cases h
  |sl b' off sz n=>
   simp only[AC.bor]at h
   split at h
   ·rename_i hl;rw[Option.isSome_iff_exists]at hl;rw[List.mem_singleton]at h;subst h;exact hl
   ·cases h
  |fn f caps=>
   simp only[AC.bor,List.mem_flatMap]at h
   obtain⟨c,_,h⟩:=h
   cases c with
   |inr c=>cases h
   |inl b'=>
    simp only at h
    split at h
    ·rename_i hl;rw[Option.isSome_iff_exists]at hl;rw[List.mem_singleton]at h;subst h;exact hl
    ·cases h
  |_=>cases h
 cases x with
 |cell c=>exact one h
 |agg xs=>
  simp only[AV.bor,List.mem_flatMap]at h
  obtain⟨c,_,h⟩:=h
  exact one h
 |_=>cases h
theorem ziY(hJ:J C st a w m)(hg:g<=st.gen)(hun:∀ k,m.ρ (.o g i k)=.un){xs:List AV}{vs:Array Value}(hvs:vs.size=xs.length)(hr:∀(j:Nat) (u:Value) (x:AV),vs[j]?=some u->xs[j]?=some x->AVRep w m C.bad0 u x)
  {fp:List Id} {as_:List AV} {pre:List Blk} (has:xs.map (·.toC fp st.hp)=as_) (hpre:fp.map (fun b=>(st.hp b).map (Blk.mp (AC.toF fp)))=pre.map some) (hnd:fp.Nodup) :
  ∃ bad1 m1,Pre w m1 bad1 pre /\ vs.size=as_.length /\ (∀(j:Nat) (u:Value) (x:AV),vs[j]?=some u->as_[j]?=some x->AVRep w m1 bad1 u x) /\ (∀ g cs,Globals.G g=some cs->AVRep w m1 bad1 (.pointer (some ⟨g,0,none⟩)) (.cell (.ep cs 0))) /\
   ∀ {post:List (Id × Blk)} (out:Out) {e:Ending} {w':World} {mc:Mem},EndR w' mc bad1 out e->Post w m1 bad1 w' mc post ->
    ∃ m',J C (st.app (zdw fp (xs.flatMap (·.bor fp st.hp)) g i out post)) a w' m' /\ EndR w' m' C.bad0 (match out with
     |.ret r=>.ret (r.mp (AC.back fp (xs.flatMap (·.bor fp st.hp)) post g i))
     |.pan x=>.pan (x.mp (AC.back fp (xs.flatMap (·.bor fp st.hp)) post g i))) e /\ Stp m m' g i:=by
 have hfpl:∀ b ∈ fp,∃ bl,st.hp b=some bl:=fun b hb=>by
  have:(st.hp b).map (Blk.mp (AC.toF fp)) ∈ pre.map some:=by rw[<- hpre];exact List.mem_map.2 ⟨b,hb,rfl⟩
  obtain⟨q,_,e⟩:=List.mem_map.1 this
  rw[eq_comm,Option.map_eq_some_iff]at e
  obtain⟨bl,h,_⟩:=e
  exact⟨bl,h⟩
 have hbol:∀ b ∈ xs.flatMap (·.bor fp st.hp),b ∉ fp /\ ∃ bl,st.hp b=some bl:=fun b hb=>by
  obtain⟨x,_,hx⟩:=List.mem_flatMap.1 hb
  obtain⟨cs,hcs⟩:=zrW hx
  obtain⟨h1,bl,h2,_⟩:=ziK hcs
  exact⟨h1,bl,h2⟩
 have A:CallAt w m C.bad0 C.prot fp (xs.flatMap (·.bor fp st.hp)) g i:=⟨hJ.mem,fun b hb=>Nat.lt_of_lt_of_le (hJ.protlt b hb) hJ.grown,hJ.badlt,hnd,fun b hb=>let⟨bl,h⟩:=hfpl b hb;(hJ.hp b bl h).1,fun b hb=>let⟨_,bl,h⟩:=hbol b hb;(hJ.hp b bl h).1,
  fun b hb=>let⟨bl,h⟩:=hfpl b hb;zpE hJ.hp h,fun b hb=>let⟨_,bl,h⟩:=hbol b hb;zpE hJ.hp h,fun b hb=>(hbol b hb).1,fun x q base hx hq=>(by
   cases x with
   |f y=>rw[hJ.fore]at hq;exact(hJ.ext.fore y q base hq).2
   |_=>cases hx),hun⟩
 have hlp:pre.length=fp.length:=by have:=congrArg List.length hpre;simpa using this.symm
 have hM:=zvC (w:=w) (m:=m) (bad0:=C.bad0) (bors:=xs.flatMap (·.bor fp st.hp)) A.fpF
 have hP:=zvR (w:=w) A.ok A.badlt A.nodup A.fpF A.boF A.fr hlp fun k b hk=>by
  have h1:(pre.map some)[k]?=some (some b):=by rw[List.getElem?_map,hk];rfl
  rw[<- hpre,List.getElem?_map]at h1
  cases hf:fp[k]? with
  |none=>simp[hf]at h1
  |some x=>
   simp only[hf,Option.map_some,Option.some.injEq]at h1
   rw[Option.map_eq_some_iff]at h1
   obtain⟨bl,h2,rfl⟩:=h1
   exact hM.blk (by simp[Mem.cal,hf]) (fun j=>by simp[Mem.cal,hf]) (fun e=>by cases e) (hJ.hp x bl h2).2
 refine⟨_,_,hP,(by rw[hvs,<- has];simp),(fun j u x hu hx=>by
  rw[<- has,List.getElem?_map]at hx
  cases hj:xs[j]? with
  |none=>simp[hj]at hx
  |some y=>
   simp[hj]at hx;subst hx
   exact zvE hJ.hp A.ok A.fpF A.boF (hr j u y hu hj) fun b hb=>List.mem_flatMap.2 ⟨y,List.mem_of_getElem? hj,hb⟩),(fun q cs hq=>ziN (Hx.same fun q hn h=>hn (zqa A.fpF q h)) (hJ.glob q cs hq)),fun {post} out {e w' mc} hE hPost=>?_⟩
 have hU:=zrU A hPost (out:=out)
 have hbk:=zqb (F:=zeM out post) A hPost (by cases zeM out post<;>simp)
 cases out with
 |ret r=>
  obtain⟨v,rfl,hv⟩:=hE
  exact⟨_,hJ.upd hU hg,⟨v,rfl,hbk.av hv fun e=>by
   simp only[zeM,Bool.and_eq_true]at e;exact e.1⟩,hU.step⟩
 |pan x=>
  obtain⟨v,rfl,hv⟩:=hE
  exact⟨_,hJ.upd hU hg,⟨v,rfl,hbk.av hv fun e=>by
   simp only[zeM,Bool.and_eq_true]at e;exact e.1⟩,hU.step⟩
theorem zeT(hJ:J C st a w m)(hg:g<=st.gen)(hun:∀ k,m.ρ (.o g i k)=.un){n:Nat}{xs:List AV}{vs:Array Value}(hvs:vs.size=xs.length)(hr:∀(j:Nat) (u:Value) (x:AV),vs[j]?=some u->xs[j]?=some x->AVRep w m C.bad0 u x)
  (h:zc6 P g i n xs st.hp K E) {dst:Option Tmp}
  (hn:∀ out u v w' m',K out u->J C (st.app u) a w' m'->AVRep w' m' C.bad0 v out->Stp m m' g i->next (a.put dst v) w')
  (he:∀ x u v w' m',E x u->J C (st.app u) a w' m'->AVRep w' m' C.bad0 v x->Q (.panic [⟨v,false,false⟩]) a w') :
  zpT P n /\ Calls P n vs w fun
   |.returned v,w''=>next (a.put dst v) w''
   |.panicked chain,w''=>Q (.panic chain) a w''
   |.outgrown,_=>LetsOut Q:=by
 obtain⟨fp,as_,pre,out,post,hAt,⟨has,hpre,hnd⟩,hK⟩:=h
 refine⟨hAt.1,?_⟩
 obtain⟨bad1,m1,hP,h1,h2,h3,hfin⟩:=ziY hJ hg hun hvs hr has hpre hnd
 refine(hAt.2 w vs _ _ hP h1 h2 h3).mono ?_
 rintro e w' ⟨mc,hE,hPost⟩
 obtain⟨m',hJ',hE',hs⟩:=hfin out hE hPost
 cases out with
 |ret r=>obtain⟨v,rfl,hv⟩:=hE';exact hn _ _ v w' _ hK hJ' hv hs
 |pan x=>obtain⟨v,rfl,hv⟩:=hE';exact he _ _ v w' _ hK hJ' hv
end
end Go.Hw
end
section
namespace Go.Hw
variable [Globals]
open Go.RowKit (Below)
section
variable {w:World} {m:Mem} {g i:Nat} {bad0 prot:Nat->Prop}
theorem zl4{q:Nat}{o o':Obj}(hq:w.heap[q]?=some o):(w.heap.setIfInBounds q o')[q]?=some o' /\ ∀ k,k ≠ q->(w.heap.setIfInBounds q o')[k]?=w.heap[k]?:=MapKept.heap_set hq
theorem Upd.mapStore(hm:MemOk w prot bad0 m){b:Id}(hF:isF b=false){q base:Nat}(hst:m.ρ b=.at_ q base){es es':Array MapEntry}{c c':Nat}(hq:w.heap[q]?=some (.map es c)){ks:List MK}{vs:List AC}{raws:List Value}
  (hk:es'.toList.map (·.key)=ks.map kval) (hv:es'.toList.map (·.val)=raws) (hl:raws.length=vs.length) (hr:∀(j:Nat) (u:Value) (x:AC),raws[j]?=some u->vs[j]?=some x->u.oneCell'=true /\ zbN w m bad0 u x) :
  Upd w m bad0 prot { w with heap:=w.heap.setIfInBounds q (.map es' c') } m g i [(b,some (.map ks vs))]:=by
 obtain⟨a1,a2⟩:=zl4 (o':=.map es' c') hq
 have hown:Own m q:=.inl ⟨b,base,hF,hst⟩
 have E:Ext w m bad0 { w with heap:=w.heap.setIfInBounds q (.map es' c') } m bad0:=by
  refine⟨Hx.blocks fun k hk hn=>⟨hn,a2 k fun e=>hn (.inl (e ▸ hown))⟩,fun x=>.inr (.inr rfl),fun x k bs n _ hx hs=>?_⟩
  by_cases e:k=q
  ·subst e
   obtain⟨c1,c2,c3,c4,_⟩:=hs
   rw[hq]at c4;cases c4
  ·exact Shp.heap (a2 k e) hs
 refine⟨E,⟨fun k hk=>by simpa using hm.lt k hk,hm.inj,hm.sep,hm.hnd,hm.hdj⟩,rfl,rfl,rfl,by simp,fun k _ hn=>a2 k fun e=>hn (e ▸ hown),fun d bl hd=>?_,fun d hd=>?_,fun _=>rfl,fun _ h _=>h⟩
 ·simp only[List.mem_singleton,Prod.mk.injEq,Option.some.injEq]at hd
  obtain⟨rfl,rfl⟩:=hd
  exact⟨hF,q,base,raws,hst,⟨es',c',a1,hk,hv⟩,hl,fun j u x hu hx=>⟨(hr j u x hu hx).1,E.ac (hr j u x hu hx).2⟩⟩
 ·have hne:d ≠ b:=fun e=>hd (some (.map ks vs)) (by simp[e])
  exact⟨rfl,fun _=>rfl,fun k bs hf hk=>a2 k fun e=>by subst e;exact hne (hm.inj d b k bs base hf hF hk hst),fun j k hk=>a2 k fun e=>by subst e;exact hm.sep b k base d j hF hst hk⟩
theorem Upd.mapAlloc(hm:MemOk w prot bad0 m)(hp:∀ b,prot b->b < w.heap.size)(hb:∀ b,bad0 b->b < w.heap.size){k:Nat}(hun:m.ρ (.o g i k)=.un) :
  Upd w m bad0 prot (w.alloc (.map #[] 0)) (m.set (.o g i k) (.at_ w.heap.size 0)) g i [(.o g i k,some (.map [] []))]:=by
 have hheap:(w.alloc (.map #[] 0)).heap=w.heap.push (.map #[] 0):=rfl
 have hsz:(w.alloc (.map #[] 0)).heap.size=w.heap.size+1:=by rw[hheap];simp
 have hold:∀ q,q < w.heap.size->(w.alloc (.map #[] 0)).heap[q]?=w.heap[q]?:=fun q hq=>by rw[hheap,Array.getElem?_push,if_neg (by omega)]
 have hnew:(w.alloc (.map #[] 0)).heap[w.heap.size]?=some (.map #[] 0):=by rw[hheap];simp
 have E:Ext w m bad0 (w.alloc (.map #[] 0)) (m.set (.o g i k) (.at_ w.heap.size 0)) bad0:=by
  refine⟨Hx.blocks fun q hq hn=>⟨?_,hold q hq⟩,fun x=>?_,fun x q base n _ hx hs=>?_⟩
  ·rintro(ho|ho)
   ·rcases ho.set with⟨base,e⟩|ho
    ·cases e;omega
    ·exact hn (.inl ho)
   ·exact hn (.inr ho)
  ·simp only[Mem.set]
   split
   ·rename_i e;subst e;exact .inl hun
   ·exact .inr (.inr rfl)
  ·obtain⟨c1,c2,c3,c4,c5⟩:=hs
   exact Shp.heap (hold q (lt_of_heap c4)) ⟨c1,c2,c3,c4,c5⟩
 refine⟨E,hm.grow (by omega) (fun q base e=>by cases e;exact⟨Nat.le_refl _,by omega⟩) hp hb,rfl,rfl,rfl,by omega,fun q hq _=>hold q hq,fun b bl' hb'=>?_,fun b hb'=>?_,fun x=>?_,fun x hx hne=>?_⟩
 ·simp only[List.mem_singleton,Prod.mk.injEq,Option.some.injEq]at hb'
  obtain⟨rfl,rfl⟩:=hb'
  exact⟨rfl,w.heap.size,0,[],by simp[Mem.set],⟨#[],0,hnew,rfl,rfl⟩,rfl,fun j u x hu=>by simp at hu⟩
 ·have hne:b ≠ .o g i k:=fun e=>hb' (some (.map [] [])) (by simp[e])
  simp only[Mem.set,if_neg hne]
  exact⟨trivial,fun _=>trivial,fun q base hf hq=>hold q (hm.lt q (.inl ⟨b,base,hf,hq⟩)).1,fun j q hq=>hold q (hm.lt q (.inr ⟨b,j,hq⟩)).1⟩
 ·simp[Mem.set]
 ·simp only[Mem.set,if_neg (hne k)];exact hx
end
end Go.Hw
end
section
namespace Go.Hw
variable [Globals]
open Go.RowKit (Below)
section
variable {P:Program} {C:Cx} {st:St} {a:Act} {w w':World} {m:Mem} {g i:Nat} {o:Oper} {K E:AV->List (Id × Option Blk)->Prop} {next:Act->World->Prop} {Q:Exit->Act->World->Prop}
theorem J.alloc(hJ:J C st a w m)(hun:m.ρ (.o g i 0)=.un){cur:Array Value}{e:TypeId}{fr:Nat × Nat}
  (hheap:w'.heap=w.heap.push (.cells cur e fr)) (hos:w'.os=w.os) (ht:w'.tape=w.tape) (hout:w'.output=w.output) (hfr:fr.2=fr.1 \/ cur.size<=fr.1)
  {bl:Blk} {l:List AC} (hl:bl.ac=some l) (hle:l.length<=cur.size) (hc:∀(j:Nat) (u:Value) (x:AC),cur[j]?=some u->l[j]?=some x->u.oneCell'=true /\ zbN w m C.bad0 u x) (hg:g<=st.gen) :
  J C (st.app [(.o g i 0,some bl)]) a w' (m.set (.o g i 0) (.at_ w.heap.size 0)) /\ Stp m (m.set (.o g i 0) (.at_ w.heap.size 0)) g i /\ ∃ e' fr',w'.heap[w.heap.size]?=some (.cells cur e' fr') /\ (fr'.2=fr'.1 \/ cur.size<=fr'.1):=by
 have U:=Upd.alloc (prot:=C.prot) (bad0:=C.bad0) (g:=g) (i:=i) (k:=0) hJ.mem (fun b hb=>Nat.lt_of_lt_of_le (hJ.protlt b hb) hJ.grown) hJ.badlt hun hheap hos ht hout hfr hl hle hc
 exact⟨hJ.upd U hg,U.step,e,fr,by rw[hheap];simp,hfr⟩
theorem zin{cur:Array Value}{l:List AC}(h:Seg w m C.bad0 cur.toList l):l.length<=cur.size /\ ∀(j:Nat) (u:Value) (x:AC),cur[j]?=some u->l[j]?=some x->u.oneCell'=true /\ zbN w m C.bad0 u x:=
 ⟨by have:=h.len;simp at this;omega,fun j u x hu hx=>⟨h.one u (by rw[<- Array.getElem?_toList]at hu;exact List.mem_of_getElem? hu),h.rep j u x (by simpa using hu) hx⟩⟩
theorem zwe{l:List AC}{raws:List Value}(h:Seg w m C.bad0 raws l):∃ l',(mkB l).ac=some l' /\ Seg w m C.bad0 raws l':=by
 unfold mkB
 split
 ·exact⟨l,rfl,h⟩
 split
 ·rename_i cs hc;exact⟨_,rfl,h.toCVs hc⟩
 ·exact⟨_,rfl,h⟩
theorem zkD(hJ:J C st a w m)(hg:g<=st.gen)(hun:∀ k,m.ρ (.o g i k)=.un){t tx:TypeId}{s x:AV}{vs vx:Value}(hs:AVRep w m C.bad0 vs s)(hx:AVRep w m C.bad0 vx x){ty:TypeId}(h:zfr P g i t tx s x st.hp K){dst:Option Tmp}
  (hn:∀ out u v w' m',K out u->J C (st.app u) a w' m'->AVRep w' m' C.bad0 v out->Stp m m' g i->next (a.put dst v) w') :
  ∃ v w',(Builtin.append_ #[t,tx] ty #[vs,vx]).run P w=.ok v w' /\ next (a.put dst v) w':=by
 unfold zfr at h
 split at h
 ·rename_i e ht
  split at h
  ·rename_i sz by_ he
   obtain⟨hpos,h⟩:=h
   obtain⟨inf,z,hi,hz,hzs,rfl,rfl⟩:=zjQ he
   split at h
   ·rename_i k news hsrc
    obtain⟨nraws,nacs,hS,hnac,hseg⟩:=zsO hJ.hp hpos hx hsrc
    split at h
    ·rename_i b off sz' n
     split at h
     ·rename_i bl hb
      obtain⟨⟨hok,rfl,hend,h63,hby⟩,hK⟩:=h
      obtain⟨hF,hR⟩:=hJ.hp b bl hb
      obtain⟨l,hl⟩:∃ l,bl.ac=some l:=by
       cases bl with
       |cells l=>exact⟨_,rfl⟩
       |pure l=>exact⟨_,rfl⟩
       |map ks vs=>cases hok
      rw[Blk.len_ac hl]at hend
      obtain⟨v',w',m',hrun,U,hv'⟩:=zqi (g:=g) (i:=i) (prot:=C.prot) (ty:=ty) hJ.mem (fun b hb=>Nat.lt_of_lt_of_le (hJ.protlt b hb) hJ.grown) hJ.badlt (hun 0) ht hi hz hzs hF hR hl hend (zar hs) hS hnac hseg h63 hby
      exact⟨v',w',hrun,hn _ _ v' w' m' hK (hJ.upd U hg) (.cell _ _ hv') U.step⟩
     ·exact h.elim
    ·obtain⟨⟨h63,hby⟩,hK⟩:=h
     obtain⟨a0,rfl⟩:=zar hs
     have hnl:nacs.length=k * inf.size:=by rw[<- hseg.len];exact hS.newsLen
     rcases zqj (ty:=ty) (n:=0) ht hi hz hzs (raws:=[]) (by simp) (fun _ _=>False) (.inl ⟨rfl,a0,rfl⟩) hS (by omega) (by simpa using hby) with⟨_,rfl,a1,hrun⟩ |⟨_,_,_,_,_,_,h,_⟩ |⟨cap,cur,w',hrun,hheap,h1,h2,h3,hc1,hc2,hc3,hc4⟩
     ·have hl0:nacs=[]:=List.eq_nil_of_length_eq_zero (by rw[hnl];simp)
      subst hl0
      have hprot:∀ b,C.prot b->b < w.heap.size:=fun b hb=>Nat.lt_of_lt_of_le (hJ.protlt b hb) hJ.grown
      have hown:∀ q,Own (m.set (.o g i 0) .vd) q->Own m q:=fun q hq=>by
       rcases hq.set with⟨_,e⟩|h
       ·cases e
       ·exact h
      have E:Ext w m C.bad0 w (m.set (.o g i 0) .vd) C.bad0:=by
       refine⟨Hx.same fun q hn=>?_,fun c=>?_,fun _ _ _ _ _ _ h=>h⟩
       ·rintro(ho|ho)
        ·exact hn (.inl (hown q ho))
        ·exact hn (.inr ho)
       ·simp only[Mem.set]
        split
        ·rename_i e;subst e;exact .inl (hun 0)
        ·exact .inr (.inr rfl)
      have U:Upd w m C.bad0 C.prot w (m.set (.o g i 0) .vd) g i [(.o g i 0,some news)]:=by
       refine Upd.names (hJ.mem.grow (Nat.le_refl _) (fun _ _ e=>by cases e) hprot hJ.badlt) E (fun b k hb=>?_) (fun b hb=>?_) (fun x=>by simp[Mem.set]) (fun x hx hne=>by simp only[Mem.set,if_neg (hne 0)];exact hx)
       ·simp only[List.mem_singleton,Prod.mk.injEq,Option.some.injEq]at hb
        obtain⟨rfl,rfl⟩:=hb
        refine⟨rfl,znJ hnac ?_⟩
        unfold zaq
        simp[Mem.set]
       ·have hne:b ≠ .o g i 0:=fun e=>hb (some news) (by simp[e])
        exact⟨by simp[Mem.set,hne],fun j=>by simp[Mem.set,hne]⟩
      refine⟨_,w,hrun,hn _ _ _ w _ hK (hJ.upd U hg) (.cell _ _ ?_) U.step⟩
      show SlR w ((m.set (.o g i 0) .vd).ρ (.o g i 0)) _ _ _ _
      simp only[Mem.set,if_true]
      exact⟨rfl,a1,rfl⟩
     ·exact h.elim
     ·have hk:k * inf.size<=cur.size:=by rw[hc3];exact Nat.mul_le_mul_right _ (by omega)
      rw[Nat.zero_add]at hrun hc4
      have hget:∀(j:Nat) (u:Value),cur[j]?=some u->j < nacs.length->nraws[j]?=some u:=fun j u hu hj=>by
       rw[List.nil_append]at hc4
       rw[<- hc4,List.getElem?_take,if_pos (by omega)];simpa using hu
      obtain⟨hJ',hst,e',fr',hnew,hfr'⟩:=hJ.alloc (hun 0) hheap h1 h2 h3 (.inl rfl) hnac (by omega) (fun j u x hu hx=>by
       have hj:j < nacs.length:=by
        rcases Nat.lt_or_ge j nacs.length with h|h
        ·exact h
        ·simp[h]at hx
       exact⟨hseg.one u (List.mem_of_getElem? (hget j u hu hj)),hseg.rep j u x (hget j u hu hj) hx⟩) hg
      refine⟨_,w',hrun,hn _ _ _ w' _ hK hJ' (.cell _ _ ?_) hst⟩
      show SlR w' ((m.set (.o g i 0) (.at_ w.heap.size 0)).ρ (.o g i 0)) _ _ _ _
      simp only[Mem.set,if_true]
      exact .inr ⟨cap,rfl,by omega,hc2,cur,e',fr',hnew,hfr',by omega⟩
    ·exact h.elim
   ·exact h.elim
  ·exact h.elim
 ·exact h.elim
theorem zkI(hJ:J C st a w m)(hg:g<=st.gen){t:TypeId}{x v:AV}{vx vv:Value}(hx:AVRep w m C.bad0 vx x)(hv:AVRep w m C.bad0 vv v)(h:zhn P t x v st.hp K){dst:Option Tmp}
  (hn:∀ out u v w' m',K out u->J C (st.app u) a w' m'->AVRep w' m' C.bad0 v out->Stp m m' g i->next (a.put dst v) w') :
  ∃ w',(Instr.storeAt t vx vv).run P w=.ok () w' /\ next (a.put dst undef) w':=by
 unfold zhn at h
 split at h
 ·rename_i b off ys hy
  obtain⟨hsz,h⟩:=h
  have hvs:=ziV hv hy
  have hlen:vv.cells.size=ys.length:=by have:=hvs.len;simpa using this
  have main:∀ {bl bl':Blk} {l xs:List AC},st.hp b=some bl->bl.ac=some l->off+ys.length<=l.length->Seg w m C.bad0 vv.cells.toList xs->bl'.ac=some (zaC l off xs)->K .bad [(b,some bl')] ->
    ∃ w',(Instr.storeAt t vx vv).run P w=.ok () w' /\ next (a.put dst undef) w':=by
   intro bl bl' l xs hb hl hle hs hl' hK
   obtain⟨hF,hR⟩:=hJ.hp b bl hb
   obtain⟨q,base,hst,rfl⟩:=zgk hJ.hp (zar hx) (by simp[live,hb])
   have hC:=hR.ac hl
   unfold zaq at hC
   rw[hst]at hC
   obtain⟨cur,e,fr,hg',hfr,hlen',hcell⟩:=hC
   have hxl:xs.length=ys.length:=by rw[<- hs.len];simpa using hlen
   have U:=Upd.store (g:=g) (i:=i) (prot:=C.prot) hJ.mem hF hR hst hl hs (off:=off) (by omega) hl'
   refine⟨_,?_,hn _ _ undef _ _ hK (hJ.upd U hg) (.bad _) U.step⟩
   simp only[Instr.storeAt,Instr.sureAddr,storeVar,Sem.run_bind,Sem.run_pure,Result.andThen_ok,run_sizeOf hsz,hlen]
   simp only[ne_eq,not_true_eq_false,if_false]
   simpa using zgf (P:=P) hg' hfr (by rw[Array.length_toList,hlen];omega) hvs.one
  split at h
  ·rename_i l hb
   exact main hb rfl h.1 hvs rfl h.2
  ·rename_i l hb
   obtain⟨hle,h⟩:=h
   split at h
   ·rename_i cs hcs
    have e:(zaC l off cs).map AC.p=zaC (l.map .p) off (cs.map .p):=by
     have:∀(cs l:List CV) (off:Nat),(zaC l off cs).map AC.p=zaC (l.map .p) off (cs.map .p):=by
      intro cs
      induction cs with
      |nil=>intro l off;rfl
      |cons c cs ih=>intro l off;simp only[zaC,List.map_cons,ih,List.map_set]
     exact this cs l off
    exact main hb rfl (by simpa using hle) (hvs.toCVs hcs) (by simp only[Blk.ac,e]) h
   ·exact main hb rfl (by simpa using hle) hvs rfl h
  ·exact h.elim
 ·exact h.elim
theorem zmt(hJ:J C st a w m)(hg:g<=st.gen)(hun:∀ k,m.ρ (.o g i k)=.un){t:TypeId}{l c:AV}{vl vc:Value}(hl:AVRep w m C.bad0 vl l)(hc:AVRep w m C.bad0 vc c)(h:zmu P g i t l c K){dst:Option Tmp}
  (hn:∀ out u v w' m',K out u->J C (st.app u) a w' m'->AVRep w' m' C.bad0 v out->Stp m m' g i->next (a.put dst v) w') :
  ∃ v w',(Instr.makeSlice t vl vc).run P w=.ok v w' /\ next (a.put dst v) w':=by
 unfold zmu at h
 split at h
 ·rename_i e k n k' q ht
  split at h
  ·rename_i sz by_ zero he hz
   obtain⟨⟨h0,h1,h2,h3,h4⟩,hK⟩:=h
   obtain⟨inf,z,hi,hz',hzs,rfl,rfl⟩:=zjQ he
   cases hza:zaP P e with
   |none=>simp[hza]at hz
   |some zs=>
    simp[hza]at hz
    obtain⟨i',z',hi',hz'',hs⟩:=zej hza w m C.bad0
    rw[hi]at hi';cases hi'
    rw[hz']at hz'';cases hz''
    cases zck hl
    cases zck hc
    have hrun:=run_make (P:=P) w t e inf z ht hi hz' k k' n q h1 h2 h3 (by omega)
    have hms:(madeCells z.cells (q.toNat * inf.size)).toList=repV q.toNat z.cells.toList:=by
     rw[zg0];simp only[hzs];simp[madeCells,hzs]
    have hmsz:=size_madeCells z.cells (q.toNat * inf.size)
    have hnq:n.toNat<=q.toNat:=by omega
    have hle:=Nat.mul_le_mul_right inf.size hnq
    have hreps:=zjz hs hz n.toNat
    have htk:(madeCells z.cells (q.toNat * inf.size)).toList.take (n.toNat * inf.size)=repV n.toNat z.cells.toList:=by
     have:n.toNat * inf.size=n.toNat * z.cells.toList.length:=by rw[Array.length_toList,hzs]
     rw[hms,this,zkL _ _ _ hnq]
    have hrl:(repC n.toNat zero).length=n.toNat * inf.size:=by
     rw[<- hreps.len,<- htk,List.length_take,Array.length_toList,hmsz];omega
    obtain⟨hJ',hst,e',fr',hnew,hfr'⟩:=hJ.alloc (w':=w.alloc (.cells (madeCells z.cells (q.toNat * inf.size)) e)) (hun 0) rfl rfl rfl rfl (.inl rfl) (bl:=.pure (repC n.toNat zero)) rfl (by simp[hrl,hmsz];exact hle) (fun j u x hu hx=>by
     rw[List.getElem?_map]at hx
     cases hj:(repC n.toNat zero)[j]? with
     |none=>simp[hj]at hx
     |some c=>
      simp[hj]at hx;subst hx
      have hjl:j < n.toNat * inf.size:=by
       rw[<- hrl]
       rcases Nat.lt_or_ge j (repC n.toNat zero).length with h|h
       ·exact h
       ·simp[h]at hj
      have hu':(repV n.toNat z.cells.toList)[j]?=some u:=by rw[<- htk,List.getElem?_take,if_pos hjl];simpa using hu
      exact⟨hreps.one u (List.mem_of_getElem? hu'),hreps.rep j u c hu' hj⟩) hg
    refine⟨_,_,hrun,hn _ _ _ _ _ hK hJ' (.cell _ _ ?_) hst⟩
    show SlR _ ((m.set (.o g i 0) (.at_ w.heap.size 0)).ρ (.o g i 0)) _ _ _ _
    simp only[Mem.set,if_true]
    exact .inr ⟨q.toNat,rfl,hnq,by unfold maxLen;omega,_,e',fr',hnew,hfr',by simp[hmsz]⟩
  ·exact h.elim
 ·exact h.elim
theorem zlH(hJ:J C st a w m)(hg:g<=st.gen)(hun:∀ k,m.ρ (.o g i k)=.un){t:TypeId}{len:Nat}{parts:Array (Nat × Operand)}(h:zhG P g i t len parts.toList (evAV st.env) K){dst:Option Tmp}
  (hn:∀ out u v w' m',K out u->J C (st.app u) a w' m'->AVRep w' m' C.bad0 v out->Stp m m' g i->next (a.put dst v) w') :
  ∃ v w',(Instr.buildSlice t len (parts.map fun(i,x)=>(i,a.eval x))).run P w=.ok v w' /\ next (a.put dst v) w':=by
 unfold zhG at h
 have hmap:(parts.map fun(i,x)=>(i,a.eval x)).toList=parts.toList.map fun p=>(p.1,a.eval p.2):=by simp
 split at h
 ·rename_i e hu
  split at h
  ·rename_i s zero ps hs0 hz hp
   obtain⟨⟨hc1,hc2,hc3⟩,h⟩:=h
   split at h
   ·rename_i cells hf
    have hc1':¬ (len * s > 2 ^ 24):=by omega
    have hsz:=run_sizeOf hs0
    obtain⟨inf,z,hi,hz',hs⟩:=zej hz w m C.bad0
    have hzl:z.cells.size=s:=by have:=hs.len;rw[hc2]at this;simpa using this
    have hseg:=zm3 hs len
    have e1:((Array.range (len * s)).map (z.cells[· % z.cells.size]!)).toList=repV len z.cells.toList:=by
     rw[zg0,hzl];simp
    rw[<- e1]at hseg
    obtain⟨raws',hr,hs'⟩:=zh9 (fun x=>hJ.ev x) (fun i=>some (i * s,s)) parts.toList ps hp _ _ cells hseg hf
    have hlen:raws'.size=len * s:=by
     have:=hs'.len
     rw[zhE _ _ _ _ hf,zir,hc2]at this
     simpa using this
    obtain⟨l',hl',hseg'⟩:=zwe hs'
    rw[<- hmap]at hr
    have hr':Instr.fill (fun i=>some (i * s,s)) (Array.map (fun x=>z.cells[x % z.cells.size]!) (Array.range (len * s))) (parts.map fun(i,x)=>(i,a.eval x)).toList=some raws':=hr
    have hrun:(Instr.buildSlice t len (parts.map fun(i,x)=>(i,a.eval x))).run P w=.ok (.slice (some ⟨w.heap.size,0,none⟩) len len) (w.alloc (.cells raws' e)):=by
     by_cases hne:len * s=0
     ·have hl0:len=0:=by rcases Nat.mul_eq_zero.1 hne with h|h<;>omega
      subst hl0
      have hraws:raws'=#[]:=by simpa using hlen
      rw[Nat.zero_mul]at hr'
      have hr'':Instr.fill (fun i=>some (i * s,s)) #[] (parts.toList.map fun x=>(x.fst,a.eval x.snd))=some raws':=by simpa [Array.range_zero']using hr'
      simp[Instr.buildSlice,run_underlying hu,hsz,newRow,hr'',Array.range_zero']
     ·simp only[Instr.buildSlice,Sem.run_bind,run_underlying hu,Result.andThen_ok,hsz,hc1',if_false,hne,zeroValue,typeInfo,run_program,hi,hz',Sem.run_pure,hr',newRow,run_newObj]
      rfl
    obtain⟨h5,h6⟩:=zin hseg'
    obtain⟨hJ',hst,e',fr',hnew,hfr'⟩:=hJ.alloc (w':=w.alloc (.cells raws' e)) (hun 0) rfl rfl rfl rfl (.inl rfl) hl' h5 h6 hg
    refine⟨_,_,hrun,hn _ _ _ _ _ h hJ' (.cell _ _ ?_) hst⟩
    show SlR _ ((m.set (.o g i 0) (.at_ w.heap.size 0)).ρ (.o g i 0)) _ _ _ _
    simp only[Mem.set,if_true]
    exact .inr ⟨len,rfl,Nat.le_refl _,by unfold maxLen;have:len<=len * s:=Nat.le_mul_of_pos_right _ hc3;omega,raws',e',fr',hnew,hfr',by simp[hlen]⟩
   ·exact h.elim
  ·exact h.elim
 ·exact h.elim
theorem zlC(hJ:J C st a w m):∀(l:List Operand) (cs:List (Id ⊕ CV)),zjr (evAV st.env) l=some cs->l.length=cs.length /\
  (∀(j:Nat) (x:Operand) (b:Id),l[j]?=some x->cs[j]?=some (.inl b)->RefR (m.ρ b) 0 (a.eval x)) /\
  ∀(j:Nat) (x:Operand) (c:CV),l[j]?=some x->cs[j]?=some (.inr c)->CRep w (Bad m C.bad0) (a.eval x) c
 |[],cs,h=>by simp[zjr]at h;subst h;simp
 |x::r,cs,h=>by
  simp only[zjr]at h
  split at h
  ·rename_i c l h1 h2
   cases h
   obtain⟨h3,h4,h5⟩:=zlC hJ r l h2
   have hx:=hJ.ev x
   have key:(∀ b,c=.inl b->RefR (m.ρ b) 0 (a.eval x)) /\ ∀ c',c=.inr c'->CRep w (Bad m C.bad0) (a.eval x) c':=by
    unfold capA at h1
    split at h1
    ·rename_i b hb
     cases h1
     rw[hb]at hx
     exact⟨fun b' e=>(by cases e;exact zar hx),fun c' e=>(by cases e)⟩
    ·rename_i c0 hb
     cases h1
     rw[hb]at hx
     exact⟨fun b' e=>(by cases e),fun c' e=>(by cases e;exact zar hx)⟩
    ·rename_i hb
     cases h1
     rw[hb]at hx
     obtain⟨a0,e0⟩:=zar hx
     exact⟨fun b' e=>(by cases e),fun c' e=>(by cases e;rw[e0];exact CRep.nil _ a0)⟩
    ·cases h1
   refine⟨by simp[h3],fun j y b hj hc=>?_,fun j y c' hj hc=>?_⟩
   ·cases j with
    |zero=>simp at hj hc;subst hj;exact key.1 b hc
    |succ j=>exact h4 j y b (by simpa using hj) (by simpa using hc)
   ·cases j with
    |zero=>simp at hj hc;subst hj;exact key.2 c' hc
    |succ j=>exact h5 j y c' (by simpa using hj) (by simpa using hc)
  ·cases h
theorem zlD{caps:List (Id ⊕ CV)}{vs:Array Value}(hl:vs.size=caps.length)(h1:∀(j:Nat) (u:Value) (b:Id),vs[j]?=some u->caps[j]?=some (.inl b)->RefR (m.ρ b) 0 u)
  (h2:∀(j:Nat) (u:Value) (c:CV),vs[j]?=some u->caps[j]?=some (.inr c)->CRep w (Bad m C.bad0) u c):∀(j:Nat) (u:Value) (x:AV),vs[j]?=some u->(caps.map zf4)[j]?=some x->AVRep w m C.bad0 u x:=by
 intro j u x hu hx
 rw[List.getElem?_map]at hx
 cases hj:caps[j]? with
 |none=>simp[hj]at hx
 |some c=>
  simp[hj]at hx;subst hx
  cases c with
  |inl b=>exact .cell _ _ (h1 j u b hu hj)
  |inr c=>exact .cell _ _ (h2 j u c hu hj)
theorem zqk{vs ws:Array Value}{xs ys:List AV}(hl:vs.size=xs.length)(h1:∀(j:Nat) (u:Value) (x:AV),vs[j]?=some u->xs[j]?=some x->AVRep w m C.bad0 u x)(h2:∀(j:Nat) (u:Value) (x:AV),ws[j]?=some u->ys[j]?=some x->AVRep w m C.bad0 u x) :
  ∀(j:Nat) (u:Value) (x:AV),(vs++ws)[j]?=some u->(xs++ys)[j]?=some x->AVRep w m C.bad0 u x:=by
 intro j u x hu hx
 rcases Nat.lt_or_ge j vs.size with hj|hj
 ·rw[Array.getElem?_append_left hj]at hu
  rw[List.getElem?_append_left (by omega)]at hx
  exact h1 j u x hu hx
 ·rw[Array.getElem?_append_right hj]at hu
  rw[List.getElem?_append_right (by omega),<- hl]at hx
  exact h2 _ u x hu hx
theorem zih(hJ:J C st a w m)(args:Array Operand):∀(j:Nat) (u:Value) (x:AV),(args.map a.eval)[j]?=some u->(args.toList.map (evAV st.env))[j]?=some x->AVRep w m C.bad0 u x:=by
 intro j u x hu hx
 simp at hu hx
 obtain⟨y,hy,rfl⟩:=hu
 obtain⟨y',hy',rfl⟩:=hx
 rw[hy]at hy';cases hy'
 exact hJ.ev y
theorem zrp{v:AV}{vv:Value}(hv:AVRep w m C.bad0 vv v){c:AC}(h:mapV v=some c):vv.oneCell'=true /\ zbN w m C.bad0 vv c:=by
 unfold mapV at h
 split at h
 ·split at h
  ·rename_i h1;cases h;exact⟨zmm (zar hv) h1,zar hv⟩
  ·cases h
 ·cases h
theorem zgw(hJ:J C st a w m)(hg:g<=st.gen){t:TypeId}{x k v:AV}{vx vk vv:Value}(hx:AVRep w m C.bad0 vx x)(hk:AVRep w m C.bad0 vk k)(hv:AVRep w m C.bad0 vv v)(h:zc3 P t x k v st.hp K){dst:Option Tmp}
  (hn:∀ out u v w' m',K out u->J C (st.app u) a w' m'->AVRep w' m' C.bad0 v out->Stp m m' g i->next (a.put dst v) w') :
  ∃ w',(Instr.mapUpdate t vx vk vv).run P w=.ok () w' /\ next (a.put dst undef) w':=by
 unfold zc3 at h
 split at h
 ·rename_i kt e b c ht hc
  split at h
  ·rename_i ks vs hb
   split at h
   ·rename_i n hn'
    obtain⟨hF,hR⟩:=hJ.hp b _ hb
    obtain⟨q,base,raws,hst,rfl,hmc,hl,hr⟩:=zms hR (zar hx)
    obtain⟨rfl,KR⟩:=zgy hk hn'
    obtain⟨h1,h2⟩:=zrp hv hc
    obtain⟨es',c',hrun,hk',hv'⟩:=zj6 ht hmc (KR w) vv
    obtain⟨es,c0,hq,_,_⟩:=hmc
    obtain⟨l1,l2⟩:=zpv (R:=fun u x=>u.oneCell'=true /\ zbN w m C.bad0 u x) (ks:=ks) (n:=n) hl ⟨h1,h2⟩ hr
    have U:=Upd.mapStore (g:=g) (i:=i) (prot:=C.prot) hJ.mem hF hst hq hk' hv' l1 l2 (c':=c')
    exact⟨_,hrun,hn _ _ undef _ _ h (hJ.upd U hg) (.bad _) U.step⟩
   ·exact h.elim
  ·exact h.elim
 ·exact h.elim
theorem zke(hJ:J C st a w m)(hg:g<=st.gen){t kt' ty:TypeId}{x k:AV}{vx vk:Value}(hx:AVRep w m C.bad0 vx x)(hk:AVRep w m C.bad0 vk k)(h:zei P t x k st.hp K){dst:Option Tmp}
  (hn:∀ out u v w' m',K out u->J C (st.app u) a w' m'->AVRep w' m' C.bad0 v out->Stp m m' g i->next (a.put dst v) w') :
  ∃ w',(Builtin.delete_ #[t,kt'] ty #[vx,vk]).run P w=.ok (.tuple #[]) w' /\ next (a.put dst (.tuple #[])) w':=by
 unfold zei at h
 split at h
 ·rename_i kt e b ht
  split at h
  ·rename_i ks vs hb
   split at h
   ·rename_i n hn'
    obtain⟨hF,hR⟩:=hJ.hp b _ hb
    obtain⟨q,base,raws,hst,rfl,hmc,hl,hr⟩:=zms hR (zar hx)
    obtain⟨rfl,KR⟩:=zgy hk hn'
    obtain⟨es',c',hrun,hk',hv'⟩:=znS ht hmc (KR w) kt' ty
    obtain⟨es,c0,hq,_,_⟩:=hmc
    obtain⟨l1,l2⟩:=zro (R:=fun u x=>u.oneCell'=true /\ zbN w m C.bad0 u x) (ks:=ks) (n:=n) hl hr
    have U:=Upd.mapStore (g:=g) (i:=i) (prot:=C.prot) hJ.mem hF hst hq hk' hv' l1 l2 (c':=c')
    exact⟨_,hrun,hn _ _ _ _ _ h (hJ.upd U hg) (.bad _) U.step⟩
   ·exact h.elim
  ·exact h.elim
 ·exact h.elim
theorem zgB(hJ:J C st a w m)(hg:g<=st.gen)(hun:∀ k,m.ρ (.o g i k)=.un)(h:fop P g i o.op st.env st.hp K E)
  (hn:∀ out u v w' m',K out u->J C (st.app u) a w' m'->AVRep w' m' C.bad0 v out->Stp m m' g i->next (a.put o.dst v) w')
  (he:∀ x u v w' m',E x u->J C (st.app u) a w' m'->AVRep w' m' C.bad0 v x->Q (.panic [⟨v,false,false⟩]) a w'):o.wp P a w next Q:=by
 unfold Oper.wp
 have still:Stp m m g i:=fun x hx _=>hx
 have quiet:(match qval P st.hp (evAV st.env) o.op with|some v=>K v []|none=>False)->o.upon P a next Q ((execOp a.eval o).run P w):=by
  intro h
  split at h
  ·rename_i out ho
   obtain⟨v,hrun,hv⟩:=zm5 hJ.hp (fun x=>hJ.ev x) ho
   rw[hrun]
   exact hn _ _ v w m h hJ hv still
  ·exact h.elim
 obtain⟨dst,op,ty,pos,after,guard⟩:=o
 simp only at h hn quiet
 unfold fop at h
 split at h
 ·rename_i n args ts
  obtain⟨⟨fn,h1,h2,h3⟩,hc⟩:=zeT (Q:=Q) hJ hg hun (vs:=args.map a.eval) (by simp) (zih hJ args) h hn he
  rw[zqQ h1 h2 h3 rfl]
  exact hc
 ·rename_i t args ts
  have hv:=hJ.env t
  unfold zgM at h
  split at h
  ·rename_i n first caps ht
   obtain⟨hemp,h⟩:=h
   simp only[Bool.and_eq_true,Array.isEmpty_iff]at hemp
   obtain⟨rfl,rfl⟩:=hemp
   rw[ht]at hv
   have hev:a.eval (.tmp t)=.func (.func n) #[] #[]:=zck hv
   obtain⟨⟨fn,h1,h2,h3⟩,hc⟩:=zeT (Q:=Q) hJ hg hun (vs:=args.map a.eval) (by simp) (zih hJ args) h hn he
   rw[ziq h1 h2 h3 hev,Array.append_empty]
   exact hc
  ·rename_i n cs ht
   rw[ht]at hv
   have hv':=zar hv
   have hev:∃ vs:List Value,a.eval (.tmp t)=.func (.func n) #[] vs.toArray /\ vs.length=cs.length /\ ∀(j:Nat) (u:Value) (c:CV),vs[j]?=some u->cs[j]?=some c->CRep w (Bad m C.bad0) u c:=by
    generalize hq:a.tmps.getD t undef=q at hv'
    have he:a.eval (.tmp t)=q:=hq
    rw[he]
    cases hv' with
    |fn g vs caps hl hr=>exact⟨vs,rfl,hl,hr⟩
   obtain⟨vs,hev,hl,hr⟩:=hev
   obtain⟨⟨fn,h1,h2,h3⟩,hc⟩:=zeT (Q:=Q) hJ hg hun (vs:=args.map a.eval++vs.toArray) (by simp[hl]) (zqk (by simp) (zih hJ args) fun j u x hu hx=>by
    rw[List.getElem?_map]at hx
    cases hj:cs[j]? with
    |none=>simp[hj]at hx
    |some c=>simp[hj]at hx;subst hx;exact .cell _ _ (hr j u c (by simpa using hu) hj)) h hn he
   rw[ziq h1 h2 h3 hev]
   exact hc
  ·rename_i n caps ht
   rw[ht]at hv
   obtain⟨vs,hev,hl,hr1,hr2⟩:=zar hv
   have hev':a.eval (.tmp t)=.func (.func n) #[] vs:=hev
   obtain⟨⟨fn,h1,h2,h3⟩,hc⟩:=zeT (Q:=Q) hJ hg hun (vs:=args.map a.eval++vs) (by simp[hl]) (zqk (by simp) (zih hJ args) (zlD hl hr1 hr2)) h hn he
   rw[ziq h1 h2 h3 hev']
   exact hc
  ·exact h.elim
 ·rename_i args ts
  split at h
  ·rename_i s x t tx hargs hts
   have ea:args=#[s,x]:=by apply Array.ext';simpa using hargs
   have et:ts=#[t,tx]:=by apply Array.ext';simpa using hts
   subst ea;subst et
   obtain⟨v,w',hrun,hnx⟩:=zkD (ty:=ty) hJ hg hun (hJ.ev s) (hJ.ev x) h hn
   have:(execOp a.eval ⟨dst,.call { callee:=.builtin .append,args:=#[s,x],argTypes:=#[t,tx] },ty,pos,after,guard⟩).run P w=.ok (.value v) w':=by
    simp[execOp,resolve,invoke,builtin,hrun]
   rw[this]
   exact hnx
  ·exact h.elim
 ·rename_i args ts
  split at h
  ·rename_i x k t t2 hargs hts
   have ea:args=#[x,k]:=by apply Array.ext';simpa using hargs
   have et:ts=#[t,t2]:=by apply Array.ext';simpa using hts
   subst ea;subst et
   obtain⟨w',hrun,hnx⟩:=zke (ty:=ty) (kt':=t2) hJ hg (hJ.ev x) (hJ.ev k) h hn
   have:(execOp a.eval ⟨dst,.call { callee:=.builtin .delete,args:=#[x,k],argTypes:=#[t,t2] },ty,pos,after,guard⟩).run P w=.ok (.value (.tuple #[])) w':=by
    simp[execOp,resolve,invoke,builtin,hrun]
   rw[this]
   exact hnx
  ·exact h.elim
 ·rename_i t x k v
  obtain⟨w',hrun,hnx⟩:=zgw hJ hg (hJ.ev x) (hJ.ev k) (hJ.ev v) h hn
  have:(execOp a.eval ⟨dst,.mapUpdate t x k v,ty,pos,after,guard⟩).run P w=.ok .skip w':=by
   simp[execOp,hrun]
  rw[this]
  exact hnx
 ·rename_i t x k v
  obtain⟨w',hrun,hnx⟩:=zgw hJ hg (hJ.ev x) (hJ.ev k) (hJ.ev v) h hn
  have:(execOp a.eval ⟨dst,.insert t x k v,ty,pos,after,guard⟩).run P w=.ok .skip w':=by
   simp[execOp,hrun]
  rw[this]
  exact hnx
 ·rename_i t
  have U:=Upd.mapAlloc (prot:=C.prot) (bad0:=C.bad0) (g:=g) (i:=i) (k:=0) hJ.mem (fun b hb=>Nat.lt_of_lt_of_le (hJ.protlt b hb) hJ.grown) hJ.badlt (hun 0)
  have:(execOp a.eval ⟨dst,.makeMap t none,ty,pos,after,guard⟩).run P w=.ok (.value (.map (some w.heap.size))) (w.alloc (.map #[] 0)):=by
   simp[execOp,Instr.makeMap,run_newObj]
  rw[this]
  refine hn _ _ _ _ _ h (hJ.upd U hg) (.cell _ _ ?_) U.step
  show MpR ((m.set (.o g i 0) (.at_ w.heap.size 0)).ρ (.o g i 0)) _
  simp[Mem.set,MpR]
 ·rename_i t addr val
  obtain⟨w',hrun,hnx⟩:=zkI hJ hg (hJ.ev addr) (hJ.ev val) h hn
  have:(execOp a.eval ⟨dst,.store t addr val,ty,pos,after,guard⟩).run P w=.ok .skip w':=by
   simp[execOp,hrun]
  rw[this]
  exact hnx
 ·rename_i e v
  split at h
  ·rename_i xs hx
   obtain⟨h5,h6⟩:=zin (ziV (hJ.ev v) hx)
   obtain⟨hJ',hst,_⟩:=hJ.alloc (w':=w.alloc (.cells (a.eval v).cells e)) (hun 0) rfl rfl rfl rfl (.inl rfl) (bl:=.cells xs) rfl h5 h6 hg
   have:(execOp a.eval ⟨dst,.box e v,ty,pos,after,guard⟩).run P w=.ok (.value (.pointer (some ⟨w.heap.size,0,none⟩))) (w.alloc (.cells (a.eval v).cells e)):=by
    simp only[execOp,Instr.box,newVar,newRow,Sem.run_bind,run_newObj,Result.andThen_ok,Sem.run_pure];rfl
   rw[this]
   refine hn _ _ _ _ _ h hJ' (.cell _ _ ?_) hst
   show RefR ((m.set (.o g i 0) (.at_ w.heap.size 0)).ρ (.o g i 0)) _ _
   simp[Mem.set,RefR]
  ·exact h.elim
 ·rename_i e
  split at h
  ·rename_i xs hx
   obtain⟨inf,z,hi,hz,hs⟩:=zej hx w m C.bad0
   obtain⟨h5,h6⟩:=zin hs
   obtain⟨hJ',hst,_⟩:=hJ.alloc (w':=w.alloc (.cells z.cells e)) (hun 0) rfl rfl rfl rfl (.inl rfl) (bl:=.cells xs) rfl h5 h6 hg
   have:(execOp a.eval ⟨dst,.alloc e,ty,pos,after,guard⟩).run P w=.ok (.value (.pointer (some ⟨w.heap.size,0,none⟩))) (w.alloc (.cells z.cells e)):=by
    simp only[execOp,Instr.alloc,zeroValue,typeInfo,run_program,hi,hz,newVar,newRow,Sem.run_bind,run_newObj,Result.andThen_ok,Sem.run_pure];rfl
   rw[this]
   refine hn _ _ _ _ _ h hJ' (.cell _ _ ?_) hst
   show RefR ((m.set (.o g i 0) (.at_ w.heap.size 0)).ρ (.o g i 0)) _ _
   simp[Mem.set,RefR]
  ·exact h.elim
 ·rename_i t l c
  obtain⟨v,w',hrun,hnx⟩:=zmt hJ hg hun (hJ.ev l) (hJ.ev c) h hn
  have:(execOp a.eval ⟨dst,.makeSlice t l c,ty,pos,after,guard⟩).run P w=.ok (.value v) w':=by
   simp[execOp,hrun]
  rw[this]
  exact hnx
 ·rename_i t len parts
  obtain⟨v,w',hrun,hnx⟩:=zlH hJ hg hun h hn
  have:(execOp a.eval ⟨dst,.buildSlice t len parts,ty,pos,after,guard⟩).run P w=.ok (.value v) w':=by
   simp only[execOp,Sem.run_bind,hrun];rfl
  rw[this]
  exact hnx
 ·rename_i f first caps
  obtain⟨hemp,h⟩:=h
  simp only[Array.isEmpty_iff]at hemp
  subst hemp
  split at h
  ·rename_i cs hcs
   rw[zsU]
   obtain⟨h1,h2,h3⟩:=zlC hJ caps.toList cs hcs
   refine hn _ _ _ w m h hJ (.cell _ _ ⟨caps.map a.eval,rfl,by simpa using h1,fun j u b hu hb=>?_,fun j u c hu hc=>?_⟩) still
   ·simp at hu
    obtain⟨x,hx,rfl⟩:=hu
    exact h2 j x b (by simpa using hx) hb
   ·simp at hu
    obtain⟨x,hx,rfl⟩:=hu
    exact h3 j x c (by simpa using hx) hc
  ·exact h.elim
 ·rename_i src dst' x
  split at h
  ·rename_i hsb
   split at h
   ·rename_i s hx
    obtain⟨hs,hK⟩:=h
    unfold strB at hsb
    split at hsb
    ·rename_i e h1 h2
     split at hsb
     ·rename_i h3
      have hev:=hJ.ev x
      rw[hx]at hev
      have hev:=zck hev
      have hcap1:s.size<=grownCap w s.size 0 e:=grownCap_ge w s.size 0 e
      have hcap2:grownCap w s.size 0 e<=maxLen:=grownCap_le_maxLen w s.size 0 e (by unfold maxLen;omega)
      have hsz:(bytesRow s (grownCap w s.size 0 e)).size=grownCap w s.size 0 e:=by
       unfold bytesRow
       simp only[Array.size_append,Array.size_map,Array.size_replicate]
       show s.size+_=_
       omega
      have hget:∀(j:Nat) (u:Value),(bytesRow s (grownCap w s.size 0 e))[j]?=some u->j < s.data.toList.length->∃ b:UInt8,s.data.toList[j]?=some b /\ u=.int .u8 (b.toNat:Int):=fun j u hu hj=>by
       unfold bytesRow at hu
       rw[Array.getElem?_append_left (by simpa using hj)]at hu
       simp at hu
       obtain⟨b,h4,rfl⟩:=hu
       exact⟨b,by simpa using h4,rfl⟩
      have hown:∀ q,Own (m.set (.o g i 0) .dead) q->Own m q:=fun q hq=>by
       rcases hq.set with⟨_,e⟩|h
       ·cases e
       ·exact h
      have U:=Upd.alloc0 (prot:=C.prot) (bad0:=C.bad0) (g:=g) (i:=i) (k:=0) (w':=w.drew.alloc (.cells (bytesRow s (grownCap w s.size 0 e)) e ((bytesRow s (grownCap w s.size 0 e)).size,(bytesRow s (grownCap w s.size 0 e)).size+1)))
       hJ.mem (fun b hb=>Nat.lt_of_lt_of_le (hJ.protlt b hb) hJ.grown) hJ.badlt (hun 0) rfl rfl rfl rfl
      have hrun:=run_bytes_of_string (P:=P) w src dst' e s h1 h2 h3
      have:(execOp a.eval ⟨dst,.convert src dst' x,ty,pos,after,guard⟩).run P w=.ok (.value (.slice (some ⟨w.heap.size,0,none⟩) s.size (grownCap w s.size 0 e))) (w.drew.alloc (.cells (bytesRow s (grownCap w s.size 0 e)) e ((bytesRow s (grownCap w s.size 0 e)).size,(bytesRow s (grownCap w s.size 0 e)).size+1))):=by
       simp only[execOp,hev,Sem.run_bind,hrun,Result.andThen_ok];rfl
      rw[this]
      refine hn _ _ _ _ _ hK (hJ.upd U hg) (.cell _ _ ?_) U.step
      show CRep _ _ _ _
      have hnew:(w.drew.alloc (.cells (bytesRow s (grownCap w s.size 0 e)) e ((bytesRow s (grownCap w s.size 0 e)).size,(bytesRow s (grownCap w s.size 0 e)).size+1))).heap[w.heap.size]?=some (.cells (bytesRow s (grownCap w s.size 0 e)) e ((bytesRow s (grownCap w s.size 0 e)).size,(bytesRow s (grownCap w s.size 0 e)).size+1)):=by
       show(w.heap.push _)[w.heap.size]?=_
       simp
      refine zh0 hnew (fun hb=>?_) hcap1 hcap2 (by rw[hsz];simp[zbj];exact hcap1) (fun j u c hu hc=>?_) fun j u c hu hc=>?_
      ·rcases hb with h|h
       ·exact Nat.lt_irrefl _ (hJ.mem.lt _ (hown _ h)).1
       ·exact Nat.lt_irrefl _ (hJ.badlt _ h)
      ·rw[Nat.zero_add]at hu
       simp only[zbj,List.getElem?_map]at hc
       obtain⟨b',h4,rfl⟩:=hget j u hu (by
        rcases Nat.lt_or_ge j s.data.toList.length with h|h
        ·exact h
        ·rw[List.getElem?_eq_none h]at hc;cases hc)
       rfl
      ·rw[Nat.zero_add]at hu
       simp only[zbj,List.getElem?_map]at hc
       obtain⟨b',h4,rfl⟩:=hget j u hu (by
        rcases Nat.lt_or_ge j s.data.toList.length with h|h
        ·exact h
        ·rw[List.getElem?_eq_none h]at hc;cases hc)
       rw[h4]at hc;cases hc
       exact .c _
     ·cases hsb
    ·cases hsb
   ·exact h.elim
  ·exact quiet h
 ·rename_i x
  split at h
  ·rename_i t u hx
   have hv:=hJ.ev x
   rw[hx]at hv
   have hv':=zck hv
   have e:(execOp a.eval ⟨dst,.panic x,ty,pos,after,guard⟩).run P w=.halt (.panic (.iface t u)) w:=by
    simp[execOp,hv',Instr.panic,goPanic]
   rw[e]
   exact he _ [] _ w m h hJ (.cell _ _ (.c _))
  ·exact h.elim
 ·exact quiet h
end
end Go.Hw
end
section
namespace Go.Hw
open Go.RowKit (Below)
def zd0(F:Fence):Prop:=F=Fence.wide \/ ∃ l,F=Fence.wide.inRound l
theorem zd0.fn{F:Fence}(h:zd0 F)(f:FuncId):F.fn f:=by rcases h with rfl |⟨l,rfl⟩<;>trivial
theorem zd0.depth{F:Fence}(h:zd0 F):F.depth=none:=by rcases h with rfl |⟨l,rfl⟩<;>rfl
theorem zd0.one{F:Fence}(h:zd0 F){n:Nat}:F.depth.isSome=true->1<=n:=by rw[h.depth];simp
theorem zd0.inRound{F:Fence}(h:zd0 F)(l:Nat):zd0 (F.inRound l):=by rcases h with rfl |⟨l',rfl⟩<;>exact .inr ⟨l,rfl⟩
theorem zd0.calls{F:Fence}(h:zd0 F){n:Nat}{P:Program}{f:FuncId}{args:Array Value}{w:World}{R:Ending->World->Prop}:CallsIn F n P f args w R ↔ Calls P f args w R:=by
 rcases h with rfl |⟨l,rfl⟩
 ·exact callsIn_wide
 ·exact callsIn_wide
variable {F:Fence} {n:Nat} {P:Program} {ops:Array Oper} {Q:Exit->Act->World->Prop} {md:Region.Mode}
def zeg(o:Oper):Bool:=match o.op with
 |.defer _=>false
 |_=>true
theorem zhw{o:Oper}(h:zeg o=true):∀ c,o.op ≠ .defer c:=by
 intro c e;unfold zeg at h;rw[e]at h;cases h
theorem zoT{F:Fence}(hF:zd0 F){row:String}{args:Array Value}{w:World}{R:Value->World->Prop}(h:Rows P row args w R):RowsIn F n P row args w R:=by
 intro c cs _
 obtain⟨v,w',hr,hs⟩:=h c cs
 refine⟨v,w',hr,?_⟩
 rcases hF with rfl |⟨l,rfl⟩
 ·exact stepsIn_wide.2 hs
 ·exact stepsIn_wide.2 hs
theorem zek(hF:zd0 F){o:Oper}{a:Act}{w:World}{next:Act->World->Prop}(hd:zeg o=true)(h:o.wp P a w next Q):o.wpIn F n P a w next Q:=by
 refine⟨fun f _=>hF.fn f,?_⟩
 rw[Oper.semAt_eq _ _ _ (zhw hd)]
 unfold Oper.wp at h
 generalize (execOp a.eval o).run P w=r at *
 cases r with
 |ok x w'=>
  cases x with
  |enter f args=>exact⟨hF.one,hF.calls.2 h⟩
  |row r args=>exact⟨hF.one,zoT hF h⟩
  |value v=>exact h
  |skip=>exact h
  |defer d=>exact h
  |_=>exact h.elim
 |halt x w'=>
  cases x with
  |panic v=>exact h
  |_=>exact h.elim
theorem zbX(hF:zd0 F)(hq:¬ LetsOut Q)(hd:∀ o ∈ ops.toList,zeg o=true):∀(fuel:Nat) (listed:Array Bool) (a:Act) (w:World),wpAny P md ops Q fuel listed a w->wpAnyIn F n P md ops Q fuel listed a w
 |0,listed,a,w,h=>h
 |fuel+1,listed,a,w,h=>by
  refine⟨h.1,fun i hi=>?_⟩
  have:=h.2 i hi
  unfold wpOp at this
  unfold wpOpIn
  cases ho:ops[i]? with
  |none=>
   simp only[ho]at this ⊢
   exact zbX hF hq hd fuel _ a w this
  |some o=>
   simp only[ho]at this ⊢
   have hmem:o ∈ ops.toList:=by have:=Array.mem_of_getElem? ho;simpa using this
   split at this
   ·rename_i hw
    rw[if_pos hw]
    rcases this with h|h
    ·exact Oper.wpIn_mono (fun a w h=>zbX hF hq hd fuel _ a w h) (zek hF (hd o hmem) h)
    ·exact(hq h.2).elim
   ·rename_i hw
    rw[if_neg hw]
    exact⟨fun f _=>hF.fn f,zbX hF hq hd fuel _ _ w this⟩
section
variable {b:Frame} {a:Act} {k:List Item} {cs:List Frame} {w:World}
theorem zcY{c:Code}:step P (lone (b.atR a (.code (.scope c)::k)) cs w)=.next (lone (b.atR a (.code c::.inScope c::k)) cs w):=
 step_lone_go (by simp[stepG,stepG.exec,Frame.atR])
theorem zj3{c:Code}:step P (lone (b.atR a (.inScope c::k)) cs w)=.next (lone (b.atR a k) cs w):=
 step_lone_go (by simp[stepG,stepG.exec,Frame.atR])
theorem zfP{c:Code}(h:c.wpIn F n P (Exit.noGoto Q) a w):(Code.scope c).wpIn F n P Q a w:=by
 intro b k cs hro hb hr
 have h0:(lone (b.atR a (.code (.scope c)::k)) cs w).fenced P F:=fenced_calm hb hr rfl
 obtain⟨e,a₁,w₁,hq,harr⟩:=h b (.inScope c::k) cs hro hb hr
 have hx:∀ id,exitTo id (.inScope c::k)=exitTo id k:=by intro id;simp[exitTo]
 cases e with
 |normal=>exact⟨.normal,a₁,w₁,hq,.head h0 zcY (StepsIn.trans harr (.one (fenced_calm hb hr rfl) zj3))⟩
 |exit id=>
  exact⟨.exit id,a₁,w₁,hq,fun k' hk=>.head h0 zcY (harr.1 k' (by rw[hx];exact hk)),fun hr' hk=>let⟨k₁,h1,h2⟩:=harr.2 hr' (by rw[hx];exact hk);⟨k₁,h1,.head h0 zcY h2⟩⟩
 |goto l=>exact hq.elim
 |ret=>exact⟨_,a₁,w₁,hq,.of_steps (.one h0 zcY) harr⟩
 |panic ch=>exact⟨_,a₁,w₁,hq,.of_steps (.one h0 zcY) harr⟩
 |outgrown=>exact⟨_,a₁,w₁,hq,.of_steps (.one h0 zcY) harr⟩
end
section
variable [Globals]
theorem Turn.refl(X:Nat->Prop)(w:World):Turn X w w:=⟨Nat.le_refl _,rfl,rfl,rfl,fun _ _ _=>rfl⟩
theorem Turn.mono{X Y:Nat->Prop}{w w':World}(h:Turn X w w')(hxy:∀ b,b < w.heap.size->X b->Y b):Turn Y w w':=
 ⟨h.size,h.os,h.tape,h.output,fun b hb hn=>h.same b hb fun hx=>hn (hxy b hb hx)⟩
theorem Turn.trans{X Y Z:Nat->Prop}{a b c:World}(h:Turn X a b)(k:Turn Y b c)(hx:∀ i,i < a.heap.size->X i->Z i)(hy:∀ i,i < a.heap.size->Y i->Z i):Turn Z a c:=
 ⟨Nat.le_trans h.size k.size,k.os.trans h.os,k.tape.trans h.tape,k.output.trans h.output,fun i hi hn=>(k.same i (Nat.lt_of_lt_of_le hi h.size) fun hc=>hn (hy i hi hc)).trans (h.same i hi fun hc=>hn (hx i hi hc))⟩
def newB (w w':World)(b:Nat):Prop:=w.heap.size<=b /\ b < w'.heap.size
theorem lt_of_cell{w:World}{x:Addr}{u:Value}(h:w.cell? x=some u):x.block < w.heap.size:=World.block_lt_of_cell? w x h
theorem cells_of_cell{w:World}{x:Addr}{u:Value}(h:w.cell? x=some u):∃ cs e f,w.heap[x.block]?=some (.cells cs e f):=by
 unfold World.cell? at h
 cases hb:w.heap[x.block]? with
 |none=>simp[hb]at h
 |some o=>cases o<;>simp[hb]at h<;>exact⟨_,_,_,rfl⟩
theorem J.foreign{C:Cx}{st:St}{a a':Act}{w w':World}{m:Mem}(hJ:J C st a w m){X:Nat->Prop}(hT:Turn (fun b=>C.bad0 b \/ X b) w w')
  (hX:∀ b,X b->C.prot b /\ zbM w b) {C':Cx} (hw:C'.w0=w') (hN:C'.N=C.N) (hwi:C'.wi=C.wi) (hfo:C'.fore=C.fore) (hfs:∀ x q base,C.fore (.f x)=.at_ q base->w'.heap[q]?=w.heap[q]?)
  (hb:∀ b,C'.bad0 b->b < w'.heap.size /\ (C.bad0 b \/ w.heap.size<=b)) (hp:∀ b,C'.prot b->b < w'.heap.size /\ ¬ Own m b) (hext:JExt C' st a') (ha:a'.tmps=a.tmps) :
  J C' st a' w' m:=by
 have hown:∀ b,Own m b->w'.heap[b]?=w.heap[b]?:=fun b ho=>by
  obtain⟨h1,h2,h3⟩:=hJ.mem.lt b ho
  exact hT.same b h1 (fun h=>h.elim h3 (fun hx=>h2 (hX b hx).1))
 have hsh:∀ i q base,m.ρ i=.at_ q base->w'.heap[q]?=w.heap[q]?:=fun i q base h=>by
  cases hF:isF i with
  |false=>exact hown q (.inl ⟨i,base,hF,h⟩)
  |true=>
   cases i with
   |f x=>rw[hJ.fore]at h;exact hfs x q base h
   |_=>cases hF
 have E:Ext w m C.bad0 w' m C'.bad0:=by
  have main:∀ b,b < w.heap.size->¬ Bad m C.bad0 b->(X b->False)->¬ Bad m C'.bad0 b /\ w'.heap[b]?=w.heap[b]?:=fun b hlt hx hnx=>by
   have hnb:¬ C.bad0 b:=fun h=>hx (.inr h)
   refine⟨?_,hT.same b hlt (fun h=>h.elim hnb hnx)⟩
   rintro(ho|hb')
   ·exact hx (.inl ho)
   ·rcases(hb _ hb').2 with h|h
    ·exact hnb h
    ·omega
  refine⟨⟨fun x u hx hu=>?_,fun b es n hx hu=>?_⟩,fun i=>.inr (.inr rfl),fun i q base n _ h hs=>Shp.heap (hsh i q base h) hs⟩
  ·obtain⟨h1,h2⟩:=main _ (lt_of_cell hu) hx (fun hxx=>by
    obtain⟨cs,e,f,hc⟩:=cells_of_cell hu
    exact(hX _ hxx).2.cells hc)
   exact⟨h1,(cell_of_heap h2).trans hu⟩
  ·obtain⟨h1,h2⟩:=main b (lt_of_heap hu) hx (fun hxx=>(hX _ hxx).2.map hu)
   exact⟨h1,by rw[h2];exact hu⟩
 refine⟨by rw[ha,hN];exact hJ.size,hext,by rw[hw],by rw[hw],by rw[hw],by rw[hw];exact Nat.le_refl _,fun b _=>by rw[hw],fun b h=>by rw[hw];exact(hp b h).1,fun b h=>(hb b h).1,
  ⟨fun q hq=>⟨Nat.lt_of_lt_of_le (hJ.mem.lt q hq).1 hT.size,fun h=>(hp q h).2 hq,fun h=>?_⟩,hJ.mem.inj,hJ.mem.sep,hJ.mem.hnd,hJ.mem.hdj⟩,
  fun s=>by rw[ha];exact E.av (hJ.env s),fun i b hi=>⟨(hJ.hp i b hi).1,E.blk rfl (fun _=>rfl) (fun q base h=>hsh i q base h) (fun j q hq=>hown q (.inr ⟨i,j,hq⟩)) (hJ.hp i b hi).2⟩,hJ.gen,fun x=>by rw[hfo];exact hJ.fore x,fun x hx=>by rw[hfo];exact hJ.arg x hx,fun k q base n hx hf hk hs=>?_,fun q cs hq=>E.av (hJ.glob q cs hq)⟩
 ·rcases(hb q h).2 with h'|h'
  ·exact(hJ.mem.lt q hq).2.2 h'
  ·have:=(hJ.mem.lt q hq).1;omega
 ·rw[hwi]at hs
  rw[hfo]at hf
  exact Shp.heap (hsh _ q base hk) (hJ.argS k q base n hx hf hk hs)
structure Cx.le (C C':Cx):Prop where
 N:C'.N=C.N
 loop:C'.loop=C.loop
 fore:C'.fore=C.fore
 wi:C'.wi=C.wi
 marks:∃ m,C'.marks=m++C.marks /\ ((C.loop.isSome || C.pin.isSome)=true->m=[]) /\ ∀ D ∈ m,C.w0.heap.size<=D
 perm:∀ b,C.perm b->C'.perm b /\ C'.w0.heap[b]?=C.w0.heap[b]?
 os:C'.w0.os=C.w0.os
 tape:C'.w0.tape=C.w0.tape
 output:C'.w0.output=C.w0.output
 size:C.w0.heap.size<=C'.w0.heap.size
 bad:∀ b,C.bad0 b->C'.bad0 b
 out:∀ b,C.out b->C'.out b
 newo:∀ b,C'.out b->C.out b \/ C.w0.heap.size<=b
 seq:C'.seq=C.seq
 also:C'.also=C.also
 dfr:C'.dfr=C.dfr
 pin:C'.pin=C.pin
theorem Cx.le.refl(C:Cx):C.le C:=⟨rfl,rfl,rfl,rfl,⟨[],rfl,fun _=>rfl,fun _ h=>(by cases h)⟩,fun b h=>⟨h,rfl⟩,rfl,rfl,rfl,Nat.le_refl _,fun _ h=>h,fun _ h=>h,fun _ h=>.inl h,rfl,rfl,rfl,rfl⟩
theorem Cx.le.trans{A B C:Cx}(h:A.le B)(k:B.le C):A.le C:=by
 obtain⟨m,e,hm,hd⟩:=h.marks
 obtain⟨m',e',hm',hd'⟩:=k.marks
 refine⟨k.N.trans h.N,k.loop.trans h.loop,k.fore.trans h.fore,k.wi.trans h.wi,⟨m'++m,by rw[e',e,List.append_assoc],fun hl=>by rw[hm hl,hm' (by rw[h.loop,h.pin];exact hl)];rfl,fun D hD=>(List.mem_append.1 hD).elim (fun hD=>Nat.le_trans h.size (hd' D hD)) (fun hD=>hd D hD)⟩,fun b hb=>?_,k.os.trans h.os,k.tape.trans h.tape,k.output.trans h.output,
  Nat.le_trans h.size k.size,fun b hb=>k.bad b (h.bad b hb),fun b hb=>k.out b (h.out b hb),fun b hb=>?_,k.seq.trans h.seq,k.also.trans h.also,k.dfr.trans h.dfr,k.pin.trans h.pin⟩
 ·obtain⟨h1,h2⟩:=h.perm b hb
  obtain⟨h3,h4⟩:=k.perm b h1
  exact⟨h3,h4.trans h2⟩
 ·rcases k.newo b hb with h1|h1
  ·exact h.newo b h1
  ·exact .inr (Nat.le_trans h.size h1)
theorem zgG.le{C C':Cx}(hle:C.le C'){d:Option Nat}(h:zgG C d):zgG C' d:=fun k hk=>⟨by rw[hle.N];exact(h k hk).1,fun v=>by rw[hle.pin];exact(h k hk).2 v⟩
def EV.av:EV->AV
 |.cell x=>.cell (.p x)
 |.agg xs=>.agg (xs.map .p)
def m0:Mem:=⟨fun _=>.un,fun _ _=>[]⟩
theorem zjJ{q:Nat}(h:Own m0 q):False:=by
 rcases h with⟨_,_,_,h⟩ |⟨_,_,h⟩<;>cases h
theorem zgN{bad0:Nat->Prop}{q:Nat}:Bad m0 bad0 q ↔ bad0 q:=⟨fun h=>h.elim (fun h=>(zjJ h).elim) id,.inr⟩
structure SeqLaw (P:Program) (seq:Nat->List (List EV)->Nat->Bool->(Nat->Prop)->(Nat->Prop)->World->Prop):Prop where
 stable:∀ l xs k live Oz Bz w w' Oz',seq l xs k live Oz Bz w->Turn Oz w w'->(∀ b,Oz' b->b < w'.heap.size /\ (Oz b \/ w.heap.size<=b))->seq l xs k live Oz' Bz w'
 round:∀ l xs k x Oz Bz w (args:Array Value),seq l xs k true Oz Bz w->xs[k]?=some x->args.size=x.length ->
  (∀(j:Nat) (u:Value) (y:EV),args[j]?=some u->x[j]?=some y->AVRep w m0 (fun b=>Oz b \/ Bz b) u y.av) ->
  ∀(F:Fence) (n:Nat),zd0 F->YieldAt F n P l args w fun e w'=>Turn Bz w w' /\
   ((e=.returned (.bool true) /\ seq l xs (k+1) true Oz (fun b=>Bz b \/ newB w w' b) w') \/ (e=.returned (.bool false) /\ seq l xs k false Oz (fun b=>Bz b \/ newB w w' b) w'))
def zl0(P:Program)(gf:FuncId)(caps:List AV)(xs:List (List EV)):Prop:=
 zpT P gf /\
 ∀(w:World) (vs:Array Value) (Bz:Nat->Prop) (l:Nat) (seq:Nat->List (List EV)->Nat->Bool->(Nat->Prop)->(Nat->Prop)->World->Prop),(∀ b,Bz b->b < w.heap.size)->vs.size=caps.length ->
  (∀(j:Nat) (u:Value) (x:AV),vs[j]?=some u->caps[j]?=some x->AVRep w m0 Bz u x) ->
  (∀ g cs,Globals.G g=some cs->AVRep w m0 Bz (.pointer (some ⟨g,0,none⟩)) (.cell (.ep cs 0))) ->
  SeqLaw P seq->seq l xs 0 true (fun _=>False) Bz w ->
  Calls P gf (#[.func (.yield l) #[] #[]]++vs) w fun e w'=>(∃ v,e=.returned v) /\ ∃ Oz Bz' k live,(live=true->k=xs.length) /\ seq l xs k live Oz Bz' w' /\ Turn Bz w w' /\ (∀ b,Bz b->Bz' b) /\ (∀ b,Bz' b->Bz b \/ w.heap.size<=b)
end
end Go.Hw
end
section
namespace Go.Hw
variable [Globals]
open Go.RowKit (Below)
abbrev uV:AV:=.tup []
def gdV (x:AV)(want:Bool):Option Bool:=
 match x with
 |.cell (.p (.c (.bool b)))=>some (b == want)
 |.tup []=>some false
 |_=>none
def zd8(ops:Array Oper)(env:Nat->AV)(j:Nat)(want:Bool):Option Bool:=
 match(ops[j]?).bind (·.dst) with
 |some d=>gdV (env d) want
 |none=>none
theorem zga{C:Cx}{st:St}{a:Act}{w:World}{m:Mem}(hJ:J C st a w m){ops:Array Oper}{j:Nat}{want b:Bool}(h:zd8 ops st.env j want=some b):(yielded ops a.tmps j == some want)=b:=by
 unfold zd8 at h
 split at h
 ·rename_i d hd
  unfold gdV at h
  have hr:=hJ.env d
  split at h
  ·rename_i b' hb
   cases h
   rw[hb]at hr
   have hv:=zck hr
   have:a.tmps[d]?=some (.bool b'):=by
    rw[Array.getD_eq_getD_getElem?]at hv
    cases hx:a.tmps[d]? with
    |none=>rw[hx]at hv;simp[undef]at hv
    |some v=>rw[hx]at hv;simp at hv;rw[hv]
   simp[yielded,hd,this]
  ·rename_i hb
   cases h
   rw[hb]at hr
   generalize hv:a.tmps.getD d undef=v at hr
   cases hr with
   |tup vs _ hl _=>
    cases hx:a.tmps[d]? with
    |none=>simp[yielded,hd,hx]
    |some v=>
     rw[Array.getD_eq_getD_getElem?,hx]at hv
     simp at hv
     simp[yielded,hd,hx,hv]
  ·cases h
 ·cases h
theorem zcy{ops:Array Oper}{o:Oper}{a:Act}(h:o.guard=none):Region.wanted o (yielded ops a.tmps)=true:=by simp[Region.wanted,h]
def segN (P:Program)(t:TypeId):Option Nat:=match aggB P t,szOf P t with
 |some true,some s=>some s
 |some false,_=>some 1
 |_,_=>none
def zmv(P:Program)(g i:Nat)(t:TypeId)(x:AV)(st:St)(K:AV->St->Prop):Prop:=
 match zeG P st.hp t x with
 |some v=>K v st
 |none=>match x,segN P t with
  |.cell (.ref b off),some n=>match zeG P (openAt g i b off n st.hp) t x with
   |some v=>K v { st with hp:=openAt g i b off n st.hp }
   |none=>False
  |_,_=>False
def zjA(l:Nat)(xs:List AV)(st:St)(K:AV->St->Prop):Prop:=
 match st.acc with
 |some ⟨l',ys,k,true⟩=>l'=l /\ ∃ x,ys[k]?=some x /\ xs=x.map EV.av /\ K (bV true) { st with acc:=some ⟨l,ys,k+1,true⟩ } /\ K (bV false) { st with acc:=some ⟨l,ys,k,false⟩ }
 |_=>False
def nilK (P:Program)(eq:Bool)(t:TypeId)(x:AV)(st:St)(K:AV->St->Prop):Prop:=
 match P.underlying t,x with
 |some (.slice _),.cell (.p (.sl _ cells))=>(cells=[]->K (bV eq) st) /\ K (bV (!eq)) st
 |some (.slice _),.cell .z=>K (bV eq) st /\ K (bV (!eq)) st
 |some (.slice _),.cell (.sl b _ _ n)=>live st.hp b=true /\ (n=0->K (bV eq) st) /\ K (bV (!eq)) st
 |_,_=>False
def ziF(op:BinOp)(t:TypeId)(x:Operand)(v:Value):Sem Value:=do
 Go.eqGuard op t x (.const (.slice none 0 0)) v (.slice none 0 0)
 Go.binOp op t v (.slice none 0 0)
def gop (P:Program)(g i:Nat)(o:Op)(st:St)(K E:AV->St->Prop):Prop:=
 match o with
 |.load t x=>zmv P g i t (evAV st.env x) st K
 |.call { callee:=.value (.tmp t),args:=args,argTypes:=_ }=>match st.env t with
  |.cell (.yl l)=>zjA l (args.toList.map (evAV st.env)) st K
  |f=>zgM P g i f (args.toList.map (evAV st.env)) st.hp (fun v u=>K v (st.app u)) (fun x u=>E x (st.app u))
 |.binOp .eql t x (.const (.slice none 0 0)) _=>nilK P true t (evAV st.env x) st K
 |.binOp .neq t x (.const (.slice none 0 0)) _=>nilK P false t (evAV st.env x) st K
 |o=>fop P g i o st.env st.hp (fun v u=>K v (st.app u)) (fun x u=>E x (st.app u))
def gsel (P:Program)(g i:Nat)(c:Option Bool)(o:Op)(st:St)(K E:AV->St->Prop):Prop:=
 match c with
 |some true=>gop P g i o st K E
 |some false=>K uV st
 |none=>False
def aops (P:Program)(g:Nat)(ops:Array Oper):Nat->List Oper->St->(St->Prop)->(AV->St->Prop)->Prop
 |_,[],st,K,_=>K st
 |i,o::rest,st,K,E=>
  match o.guard with
  |none=>gop P g i o.op st (fun out st'=>aops P g ops (i+1) rest (st'.put o.dst out) K E) E
  |some (j,want)=>gsel P g i (zd8 ops st.env j want) o.op st (fun out st'=>aops P g ops (i+1) rest (st'.put o.dst out) K E) E
section
variable {P:Program} {C:Cx} {st:St} {a:Act} {w:World} {m:Mem} {g i:Nat} {K E:AV->St->Prop} {next:Act->World->Prop} {Q:Exit->Act->World->Prop} {F:Fence} {n:Nat}
theorem J.putG(hJ:J C st a w m){l k:Nat}{xs:List (List EV)}{v:Bool}(h:C.seq l xs k v (fun b=>b < C.w0.heap.size /\ (¬ C.prot b \/ b ∈ C.marks \/ C.also b)) C.out C.w0):J C { st with acc:=some ⟨l,xs,k,v⟩ } a w m:=
 ⟨hJ.size,⟨hJ.ext.defers,hJ.ext.nodup,hJ.ext.marks,hJ.ext.perm,hJ.ext.outb,hJ.ext.loop,fun l' xs' k' v' e=>by simp at e;obtain⟨rfl,rfl,rfl,rfl⟩:=e;exact h,hJ.ext.fore,hJ.ext.also,hJ.ext.pin⟩,hJ.os,hJ.tape,hJ.output,hJ.grown,hJ.kept,hJ.protlt,hJ.badlt,hJ.mem,hJ.env,hJ.hp,hJ.gen,hJ.fore,hJ.arg,hJ.argS,hJ.glob⟩
theorem J.noG(hJ:J C st a w m):J C { st with acc:=none } a w m:=
 ⟨hJ.size,⟨hJ.ext.defers,hJ.ext.nodup,hJ.ext.marks,hJ.ext.perm,hJ.ext.outb,hJ.ext.loop,fun l' xs' k' v' e=>by simp at e,hJ.ext.fore,hJ.ext.also,hJ.ext.pin⟩,hJ.os,hJ.tape,hJ.output,hJ.grown,hJ.kept,hJ.protlt,hJ.badlt,hJ.mem,hJ.env,hJ.hp,hJ.gen,hJ.fore,hJ.arg,hJ.argS,hJ.glob⟩
theorem zfu(hS:SeqLaw P C.seq)(hJ:J C st a w m){l k:Nat}{xs:List (List EV)}{v:Bool}(h:st.acc=some ⟨l,xs,k,v⟩):C.seq l xs k v (fun b=>Own m b \/ b ∈ C.marks \/ C.also b) C.out w:=by
 refine hS.stable l xs k v _ _ _ w _ (hJ.ext.seq l xs k v h) ⟨hJ.grown,hJ.os,hJ.tape,hJ.output,fun b hb hn=>hJ.kept b ?_⟩ (fun b hb=>?_)
 ·exact Classical.byContradiction fun hp=>hn ⟨hb,.inl hp⟩
 ·rcases hb with hb|hb|hb
  ·obtain⟨h2,h1,_⟩:=hJ.mem.lt b hb
   refine⟨h2,?_⟩
   rcases Nat.lt_or_ge b C.w0.heap.size with h|h
   ·exact .inl ⟨h,.inl h1⟩
   ·exact .inr h
  ·have h1:=hJ.protlt b (hJ.ext.marks b hb).1
   exact⟨Nat.lt_of_lt_of_le h1 hJ.grown,.inl ⟨h1,.inr (.inl hb)⟩⟩
  ·have h1:=(hJ.ext.also b hb).1
   exact⟨Nat.lt_of_lt_of_le h1 hJ.grown,.inl ⟨h1,.inr (.inr hb)⟩⟩
theorem J.yielded(hJ:J C st a w m)(hS:SeqLaw P C.seq){w':World}(hT:Turn C.out w w'){l k:Nat}{xs:List (List EV)}{v:Bool}(hseq:C.seq l xs k v (fun b=>Own m b \/ b ∈ C.marks \/ C.also b) (fun b=>C.out b \/ newB w w' b) w') :
  ∃ C',C.le C' /\ J C' { st with acc:=some ⟨l,xs,k,v⟩ } a w' m:=by
 let C':Cx:={ C with w0:=w',prot:=fun b=>b < w'.heap.size /\ ¬ Own m b,bad0:=fun b=>C.bad0 b \/ newB w w' b,out:=fun b=>C.out b \/ newB w w' b }
 have hpo:∀ b,C.prot b->¬ Own m b:=fun b hb ho=>(hJ.mem.lt b ho).2.1 hb
 have hlt:∀ b,C.prot b->b < w.heap.size:=fun b hb=>Nat.lt_of_lt_of_le (hJ.protlt b hb) hJ.grown
 have hsame:∀ b,C.prot b->¬ C.out b->w'.heap[b]?=C.w0.heap[b]?:=fun b hb ho=>(hT.same b (hlt b hb) ho).trans (hJ.kept b hb)
 have hno:∀ b,¬ C.bad0 b->¬ C.out b:=fun b hb ho=>hb (hJ.ext.outb b ho)
 have hold:∀ b,C.prot b->¬ newB w w' b:=fun b hb hn=>by have:=hlt b hb;have:=hn.1;omega
 have hJ1:=hJ.noG
 have hext:JExt C' { st with acc:=none } a:=by
  refine⟨hJ.ext.defers,hJ.ext.nodup,fun D hD=>?_,fun b hb=>?_,fun b hb=>?_,fun l hl=>?_,fun l xs k v e=>by simp at e,fun x q base h=>⟨(hJ.ext.fore x q base h).1,.inl (hJ.ext.fore x q base h).2⟩,fun b hb=>?_,hJ.ext.pin⟩
  ·obtain⟨h1,h2,h3⟩:=hJ.ext.marks D hD
   exact⟨⟨Nat.lt_of_lt_of_le (hlt D h1) hT.size,hpo D h1⟩,fun h=>h.elim h2 (hold D h1),(hsame D h1 (hno D h2)).trans h3⟩
  ·obtain⟨h1,h2⟩:=hJ.ext.perm b hb
   exact⟨⟨Nat.lt_of_lt_of_le (hlt b h1) hT.size,hpo b h1⟩,fun h=>h.elim h2 (hold b h1)⟩
  ·exact hb.elim (fun h=>.inl (hJ.ext.outb b h)) .inr
  ·obtain⟨h1,h2,r,h3⟩:=hJ.ext.loop l hl
   exact⟨⟨Nat.lt_of_lt_of_le (hlt l h1) hT.size,hpo l h1⟩,fun h=>h.elim h2 (hold l h1),r,(hsame l h1 (hno l h2)).trans h3⟩
  ·obtain⟨h1,h2⟩:=hJ.ext.also b hb
   refine⟨Nat.lt_of_lt_of_le (Nat.lt_of_lt_of_le h1 hJ.grown) hT.size,?_⟩
   by_cases hbad:C.bad0 b
   ·exact .inl (.inl hbad)
   ·obtain⟨h3,h4⟩:=h2.resolve_left hbad
    exact .inr ⟨⟨Nat.lt_of_lt_of_le (hlt b h3) hT.size,hpo b h3⟩,fun o ho=>h4 o (by rw[<- hsame b h3 (hno b hbad)];exact ho)⟩
 have hJ2:=hJ1.foreign (X:=fun _=>False) (C':=C') (hT.mono (fun b _ h=>.inl (hJ.ext.outb b h))) (fun b h=>h.elim) rfl rfl rfl rfl
  (fun x q base h=>by
   obtain⟨h1,h2⟩:=hJ.ext.perm q (hJ.ext.fore x q base h).1
   exact hT.same q (hlt q h1) h2)
  (fun b hb=>hb.elim (fun h=>⟨Nat.lt_of_lt_of_le (hJ.badlt b h) hT.size,.inl h⟩) (fun h=>⟨h.2,.inr h.1⟩)) (fun b hb=>hb) hext rfl
 refine⟨C',⟨rfl,rfl,rfl,rfl,⟨[],rfl,fun _=>rfl,fun _ h=>(by cases h)⟩,fun b hb=>⟨hb,?_⟩,hT.os.trans hJ.os,hT.tape.trans hJ.tape,hT.output.trans hJ.output,Nat.le_trans hJ.grown hT.size,fun b hb=>.inl hb,fun b hb=>.inl hb,fun b hb=>hb.elim .inl (fun h=>.inr (Nat.le_trans hJ.grown h.1)),rfl,rfl,rfl,rfl⟩,?_⟩
 ·obtain⟨h1,h2⟩:=hJ.ext.perm b hb
  exact hsame b h1 h2
 ·have h3:=hJ2.putG (l:=l) (xs:=xs) (k:=k) (v:=v) (by
   refine hS.stable l xs k v _ _ _ _ _ hseq (Turn.refl _ _) (fun b hb=>⟨hb.1,.inl ?_⟩)
   rcases hb.2 with h|h
   ·exact .inl (Classical.byContradiction fun ho=>h ⟨hb.1,ho⟩)
   ·exact .inr h)
  exact h3
theorem EV.av_plain{C:Cx}{v:Value}{y:EV}(h:AVRep w m C.bad0 v y.av):AVRep w m0 (Bad m C.bad0) v y.av:=by
 have hx:Hx w (Bad m C.bad0) w (Bad m0 (Bad m C.bad0)):=Hx.same fun q hn h=>hn (zgN.1 h)
 cases y with
 |cell x=>
  cases h with
  |cell _ _ h=>exact .cell _ _ (CRep.mono hx h)
 |agg xs=>
  cases h with
  |agg cs _ hl ho h=>
   refine .agg cs _ hl ho fun j u x hu hx'=>?_
   have h1:=h j u x hu hx'
   rw[List.getElem?_map]at hx'
   cases hj:xs[j]? with
   |none=>simp[hj]at hx'
   |some c=>simp[hj]at hx';subst hx';exact CRep.mono hx h1
theorem EV.av_bads{bad bad':Nat->Prop}{v:Value}{y:EV}(h:AVRep w m0 bad v y.av)(hb:∀ b,bad' b->bad b \/ zbM w b):AVRep w m0 bad' v y.av:=by
 have hx:Hx w (Bad m0 bad) w (Bad m0 bad'):=by
  refine⟨fun x u hn hu=>⟨fun h=>?_,hu⟩,fun b es n hn hu=>⟨fun h=>?_,hu⟩⟩
  ·rcases hb _ (zgN.1 h) with h|h
   ·exact hn (zgN.2 h)
   ·obtain⟨cs,e,f,hc⟩:=cells_of_cell hu
    exact h.cells hc
  ·rcases hb _ (zgN.1 h) with h|h
   ·exact hn (zgN.2 h)
   ·exact h.map hu
 cases y with
 |cell x=>
  cases h with
  |cell _ _ h=>exact .cell _ _ (CRep.mono hx h)
 |agg xs=>
  cases h with
  |agg cs _ hl ho h=>
   refine .agg cs _ hl ho fun j u x hu hx'=>?_
   have h1:=h j u x hu hx'
   rw[List.getElem?_map]at hx'
   cases hj:xs[j]? with
   |none=>simp[hj]at hx'
   |some c=>simp[hj]at hx';subst hx';exact CRep.mono hx h1
theorem zoM{ρv:Operand->Value}{l:Nat}{x:Operand}{args:Array Operand}{ts:Array TypeId}{dst:Option Tmp}{ty:TypeId}{pos:String}{after:Array Edge}{guard:Option (Nat × Bool)}
  (hf:ρv x=.func (.yield l) #[] #[]) (w:World) :
  (execOp ρv ⟨dst,.call { callee:=.value x,args:=args,argTypes:=ts },ty,pos,after,guard⟩).run P w=(Instr.yield l (args.map ρv)).run P w:=by
 simp[execOp,resolve,Deferred.ofValue,hf,invoke]
theorem znh{eq:Bool}{t:TypeId}{x:Operand}{op:BinOp}(hop:op=.eql /\ eq=true \/ op=.neq /\ eq=false)(hJ:J C st a w m)(h:nilK P eq t (evAV st.env x) st K) :
  ∃ b:Bool,(ziF op t x (a.eval x)).run P w=.ok (.bool b) w /\ K (bV b) st:=by
 have go:∀(e:TypeId) (a':Option Addr) (n c:Nat),P.underlying t=some (.slice e)->a.eval x=.slice a' n c ->
   (ziF op t x (a.eval x)).run P w=.ok (.bool (a'.isNone == eq)) w:=by
  intro e a' n c ht hx
  rw[hx]
  have hg:∀ op,(Go.eqGuard op t x (.const (.slice none 0 0)) (.slice a' n c) (.slice none 0 0)).run P w=.ok () w:=by
   intro op;cases op<;>simp[Go.eqGuard]
  rcases hop with⟨rfl,rfl⟩ |⟨rfl,rfl⟩
  ·simp only[ziF,Sem.run_bind,hg,Result.andThen_ok]
   have:=run_equal_slice_nil w t e a' n c ht
   cases a'<;>simp_all [Go.binOp]
  ·simp only[ziF,Sem.run_bind,hg,Result.andThen_ok]
   rw[run_neq_slice_nil w t e a' n c ht]
   cases a'<;>rfl
 have hr:=hJ.ev x
 unfold nilK at h
 split at h
 ·rename_i e n cells ht hx
  rw[hx]at hr
  have h1:=zar hr
  generalize hv:a.eval x=v at *
  cases h1 with
  |sl a' n cap raws cells hn hm hl ho hc hr'=>
   refine⟨_,go e a' n cap ht rfl,?_⟩
   cases a' with
   |some y=>cases eq<;>exact h.2
   |none=>
    have:cells=[]:=by
     cases raws with
     |nil=>exact List.eq_nil_of_length_eq_zero (by rw[<- hl];rfl)
     |cons u r=>obtain⟨y,hy,_⟩:=hc 0 u rfl;cases hy
    cases eq<;>exact h.1 this
 ·rename_i e ht hx
  rw[hx]at hr
  obtain⟨a',hv⟩:=(zar hr:∃ a',_=_)
  refine⟨_,go e a' 0 0 ht hv,?_⟩
  cases a'<;>cases eq<;>first|exact h.1|exact h.2
 ·rename_i e b off sz n ht hx
  rw[hx]at hr
  have h1:SlR w (m.ρ b) off sz n _:=zar hr
  have fin:(∃ a',a.eval x=.slice a' 0 0)->n=0->∃ b:Bool,(ziF op t x (a.eval x)).run P w=.ok (.bool b) w /\ K (bV b) st:=fun⟨a',hv⟩ hn=>⟨_,go e a' 0 0 ht hv,by cases a'<;>cases eq<;>first|exact h.2.1 hn|exact h.2.2⟩
  obtain⟨hl,h⟩:=h
  cases hs:m.ρ b with
  |un=>rw[hs]at h1;exact h1.elim
  |vd=>rw[hs]at h1;exact fin h1.2 h1.1
  |dead=>
   unfold live at hl
   cases hb:st.hp b with
   |none=>rw[hb]at hl;cases hl
   |some bl=>
    have h2:=(hJ.hp b bl hb).2
    cases bl with
    |cells l=>have h3:zaq w m C.bad0 b l:=h2;unfold zaq at h3;rw[hs]at h3;exact h3.elim
    |pure l=>have h3:zaq w m C.bad0 b (l.map .p):=h2;unfold zaq at h3;rw[hs]at h3;exact h3.elim
    |map ks vs=>obtain⟨g,base,raws,h4,_⟩:=h2;rw[hs]at h4;cases h4
  |at_ g base=>
   rw[hs]at h1
   rcases h1 with⟨hn,h2⟩ |⟨cap,h2,_⟩
   ·exact fin h2 hn
   ·exact⟨_,go e _ n cap ht h2,by cases eq<;>exact h.2⟩
 ·exact h.elim
theorem zpK(hF:zd0 F)(hS:SeqLaw P C.seq)(hJ:J C st a w m)(hg:g<=st.gen)(hun:∀ k,m.ρ (.o g i k)=.un){o:Oper}(hd:zeg o=true)(h:gop P g i o.op st K E)
  (hn:∀ out st' v w' m' C',C.le C'->K out st'->J C' st' a w' m'->AVRep w' m' C'.bad0 v out->Stp m m' g i->st.gen=st'.gen->next (a.put o.dst v) w')
  (he:∀ x st' v w' m',E x st'->J C st' a w' m'->AVRep w' m' C.bad0 v x->Q (.panic [⟨v,false,false⟩]) a w'):o.wpIn F n P a w next Q:=by
 have plain:fop P g i o.op st.env st.hp (fun v u=>K v (st.app u)) (fun x u=>E x (st.app u))->o.wpIn F n P a w next Q:=fun h=>zek hF hd (zgB hJ hg hun h
  (fun out u v w' m' hk hJ' hv hs=>hn out _ v w' m' C (Cx.le.refl C) hk hJ' hv hs rfl) (fun x u v w' m' hx hJ' hv=>he x _ v w' m' hx hJ' hv))
 obtain⟨dst,op,ty,pos,after,guard⟩:=o
 simp only at h hn plain
 unfold gop at h
 split at h
 ·rename_i t x
  have fin:∀ {st':St} {m':Mem} {v:AV},J C st' a w m'->zeG P st'.hp t (evAV st'.env x)=some v->K v st'->Stp m m' g i->st.gen=st'.gen->(⟨dst,.load t x,ty,pos,after,guard⟩:Oper).wpIn F n P a w next Q:=by
   intro st' m' v hJ' hq hk hs hgen
   obtain⟨r,hrun,hr⟩:=ziw (P:=P) hJ'.hp (hJ'.ev x) hq
   refine zek hF hd ?_
   unfold Oper.wp
   have:(execOp a.eval ⟨dst,.load t x,ty,pos,after,guard⟩).run P w=.ok (.value r) w:=by simp[execOp,hrun]
   rw[this]
   exact hn _ _ _ w m' C (Cx.le.refl C) hk hJ' hr hs hgen
  unfold zmv at h
  split at h
  ·rename_i v hq
   exact fin hJ hq h (fun x hx _=>hx) rfl
  ·split at h
   ·rename_i b off k hx _
    split at h
    ·rename_i v hq
     obtain⟨m',hJ',hs⟩:=J.openAt (g:=g) (i:=i) b k off st m hJ hg fun j _=>hun j
     exact fin hJ' hq h hs rfl
    ·exact h.elim
   ·exact h.elim
 ·rename_i t args ts
  split at h
  ·rename_i l ht
   have hv:=hJ.env t
   rw[ht]at hv
   have hev:a.eval (.tmp t)=.func (.yield l) #[] #[]:=zar hv
   unfold zjA at h
   split at h
   ·rename_i l' xs k hacc
    obtain⟨rfl,x,hx,hargs,hkt,hkf⟩:=h
    have hseq:=zfu hS hJ hacc
    have hla:args.size=x.length:=by have:=congrArg List.length hargs;simpa using this
    obtain⟨fn,tmps,assign,body,hrun,hround⟩:=hS.round l' xs k x _ _ w (args.map a.eval) hseq hx (by simp[hla]) (fun j u y hu hy=>by
     simp at hu
     obtain⟨z,hz,rfl⟩:=hu
     have hz':args.toList[j]?=some z:=by simpa using hz
     have e:evAV st.env z=y.av:=by
      have h1:(args.toList.map (evAV st.env))[j]?=(x.map EV.av)[j]?:=by rw[hargs]
      rw[List.getElem?_map,List.getElem?_map,hz',hy]at h1
      simpa using h1
     have h2:=hJ.ev z
     rw[e]at h2
     refine EV.av_bads (EV.av_plain h2) (fun b hb=>?_)
     rcases hb with(h|h|h)|h
     ·exact .inl (.inl h)
     ·obtain⟨m1,_,m3⟩:=hJ.ext.marks b h
      exact .inr (zbM.of ((hJ.kept b m1).trans m3) trivial)
     ·rcases(hJ.ext.also b h).2 with h |⟨h1,h2⟩
      ·exact .inl (.inr h)
      ·exact .inr fun o ho=>h2 o (by rw[<- hJ.kept b h1];exact ho)
     ·exact .inl (.inr (hJ.ext.outb b h))) F (n - 1) hF
    refine⟨fun f _=>hF.fn f,?_⟩
    rw[Oper.semAt_eq _ _ _ (zhw hd),zoM hev,hrun]
    refine⟨hF.one,hround.mono ?_⟩
    rintro e w' ⟨hT,⟨rfl,hs⟩ |⟨rfl,hs⟩⟩
    ·obtain⟨C',hle,hJ'⟩:=hJ.yielded hS hT hs
     exact hn _ _ _ w' m C' hle hkt hJ' (.cell _ _ (.c _)) (fun x hx _=>hx) rfl
    ·obtain⟨C',hle,hJ'⟩:=hJ.yielded hS hT hs
     exact hn _ _ _ w' m C' hle hkf hJ' (.cell _ _ (.c _)) (fun x hx _=>hx) rfl
   ·exact h.elim
  ·exact plain h
 ·rename_i t x r
  obtain⟨b,hrun,hk⟩:=znh (.inl ⟨rfl,rfl⟩) hJ h
  refine zek hF hd ?_
  unfold Oper.wp
  have:(execOp a.eval ⟨dst,.binOp .eql t x (.const (.slice none 0 0)) r,ty,pos,after,guard⟩).run P w=.ok (.value (.bool b)) w:=by
   simp only[execOp]
   rw[Sem.run_bind]
   show Result.andThen ((ziF _ t x (a.eval x)).run P w) _=_
   rw[hrun]
   rfl
  rw[this]
  exact hn _ _ _ w m C (Cx.le.refl C) hk hJ (.cell _ _ (.c _)) (fun x hx _=>hx) rfl
 ·rename_i t x r
  obtain⟨b,hrun,hk⟩:=znh (.inr ⟨rfl,rfl⟩) hJ h
  refine zek hF hd ?_
  unfold Oper.wp
  have:(execOp a.eval ⟨dst,.binOp .neq t x (.const (.slice none 0 0)) r,ty,pos,after,guard⟩).run P w=.ok (.value (.bool b)) w:=by
   simp only[execOp]
   rw[Sem.run_bind]
   show Result.andThen ((ziF _ t x (a.eval x)).run P w) _=_
   rw[hrun]
   rfl
  rw[this]
  exact hn _ _ _ w m C (Cx.le.refl C) hk hJ (.cell _ _ (.c _)) (fun x hx _=>hx) rfl
 ·exact plain h
theorem zfH{P:Program}{F:Fence}{n:Nat}(hF:zd0 F){g:Nat}{ops:Array Oper}{Q:Exit->Act->World->Prop}{K:St->Prop}{E:AV->St->Prop}(l2:List Oper):∀(l:List Oper) (i:Nat) (C:Cx) (st:St) (a:Act) (w:World) (m:Mem),SeqLaw P C.seq->g=st.gen->(∀ j k,i<=j->m.ρ (.o g j k)=.un)->aops P g ops i l st K E->J C st a w m ->
  (∀ o ∈ l,zgG C o.dst /\ zeg o=true)->(∀ C' st' a' w' m',C.le C'->K st'->J C' st' a' w' m'->wpListIn F n P ops Q l2 a' w')->(∀ C' x st' v a' w' m',C.le C'->E x st'->J C' st' a' w' m'->AVRep w' m' C'.bad0 v x->Q (.panic [⟨v,false,false⟩]) a' w')->wpListIn F n P ops Q (l++l2) a w
 |[],i,C,st,a,w,m,hS,hg,hun,h,hJ,hd,hK,hE=>hK C st a w m (Cx.le.refl C) h hJ
 |o::rest,i,C,st,a,w,m,hS,hg,hun,h,hJ,hd,hK,hE=>by
  have run:gop P g i o.op st (fun out st'=>aops P g ops (i+1) rest (st'.put o.dst out) K E) E->Region.wanted o (yielded ops a.tmps)=true->wpListIn F n P ops Q (o::(rest++l2)) a w:=by
   intro hf hw
   unfold wpListIn
   rw[if_pos hw]
   refine zpK hF hS hJ (Nat.le_of_eq hg) (fun k=>hun i k (Nat.le_refl _)) (hd o (by simp)).2 hf (fun out st' v w' m' C' hle hk hJ' hv hs hgen=>?_) (fun x st' v w' m' hx hJ' hv=>hE C x st' v a w' m' (Cx.le.refl C) hx hJ' hv)
   have hdo:=(hd o (by simp)).1
   exact zfH hF l2 rest (i+1) C' (st'.put o.dst out) _ _ m' (by rw[hle.seq];exact hS) (hg.trans hgen) (fun j k hj=>hs _ (hun j k (by omega)) fun k' e=>by cases e;omega) hk (hJ'.put (hdo.le hle) hv) (fun o' ho'=>⟨(hd o' (by simp[ho'])).1.le hle,(hd o' (by simp[ho'])).2⟩)
    (fun C'' st'' a'' w'' m'' hle'=>hK C'' st'' a'' w'' m'' (hle.trans hle')) (fun C'' x st'' v a'' w'' m'' hle'=>hE C'' x st'' v a'' w'' m'' (hle.trans hle'))
  show wpListIn F n P ops Q (o::(rest++l2)) a w
  unfold aops at h
  split at h
  ·rename_i hg'
   exact run h (zcy hg')
  ·rename_i j want hg'
   unfold gsel at h
   split at h
   ·rename_i hb
    have hy:=zga hJ hb
    exact run h (by simp only[Region.wanted,hg'];exact hy)
   ·rename_i hb
    have hy:=zga hJ hb
    unfold wpListIn
    rw[if_neg (by simp only[Region.wanted,hg'];rw[hy];simp)]
    exact⟨fun f _=>hF.fn f,zfH hF l2 rest (i+1) C (st.put o.dst uV) _ _ m hS hg (fun j k hj=>hun j k (by omega)) h (hJ.put (v:=undef) (hd o (by simp)).1 (.tup _ _ rfl (by simp))) (fun o' ho'=>hd o' (by simp[ho'])) hK hE⟩
   ·exact h.elim
end
end Go.Hw
end
section
namespace Go.Hw
variable [Globals]
open Go.RowKit (Below)
def AC.ids:AC->List Id
 |.ref b _=>[b]
 |.sl b _ _ _=>[b]
 |.mp b=>[b]
 |.fn _ caps=>go caps
 |_=>[]
where
 go:List (Id ⊕ CV)->List Id
  |[]=>[]
  |.inl b::r=>b::go r
  |_::r=>go r
def AV.ids:AV->List Id
 |.cell x=>x.ids
 |.agg xs=>go xs
 |_=>[]
where
 go:List AC->List Id
  |[]=>[]
  |x::r=>x.ids++go r
def tch (op:Op)(env:Nat->AV):List Id:=
 match op with
 |.load _ x=>(evAV env x).ids
 |.nilCheck x=>(evAV env x).ids
 |.fieldAddr _ x _=>(evAV env x).ids
 |.indexAddr _ x _=>(evAV env x).ids
 |.slice _ x _ _ _=>(evAV env x).ids
 |.convert _ _ x=>(evAV env x).ids
 |.store _ x _=>(evAV env x).ids
 |.lookup _ x _ _=>(evAV env x).ids
 |.mapUpdate _ x _ _=>(evAV env x).ids
 |.insert _ x _ _=>(evAV env x).ids
 |.call { callee:=.value (.tmp t),args:=args,argTypes:=_ }=>(env t).ids++args.toList.flatMap fun x=>(evAV env x).ids
 |.call { callee:=_,args:=args,argTypes:=_ }=>args.toList.flatMap fun x=>(evAV env x).ids
 |_=>[]
def inI:List Id->Id->Bool
 |[],_=>false
 |c::r,b=>if c=b then true else inI r b
theorem zpJ{l:List Id}{b:Id}:inI l b=true ↔ b ∈ l:=by
 induction l with
 |nil=>simp[inI]
 |cons c r ih=>
  simp only[inI]
  split
  ·rename_i e;simp[e]
  ·rename_i e;rw[ih,List.mem_cons];exact⟨.inr,fun h=>h.elim (fun h=>(e h.symm).elim) id⟩
def zdZ(P:Program)(op:Op)(env:Nat->AV)(hp:Id->Option Blk)(out:AV):Id->Option Blk->Prop:=
 match op with
 |.load t x=>fun b v=>zeG P (fun y=>if y=b then v else hp y) t (evAV env x)=some out
 |.nilCheck _|.fieldAddr _ _ _|.indexAddr _ _ _|.slice _ _ _ _ _|.call { callee:=.builtin .len,args:=_,argTypes:=_ }=>fun b v=>v.isSome=true /\ (hp b).isSome=true
 |_=>fun _ _=>False
structure Lg where
 tc:List Id
 u:List (Id × Option Blk × Option Blk)
 stb:Id->Option Blk->Prop
def lgU (hp:Id->Option Blk)(all:List (Id × Option Blk)):List (Id × Option Blk)->List (Id × Option Blk × Option Blk)
 |[]=>[]
 |(b,_)::r=>(b,hp b,hput hp all b)::lgU hp all r
def lgOf (P:Program)(op:Op)(env:Nat->AV)(hp:Id->Option Blk)(out:AV)(u:List (Id × Option Blk)):Lg:=⟨tch op env,lgU hp u u,zdZ P op env hp out⟩
def lg0:Lg:=⟨[],[],fun _ _=>True⟩
def noK:List (Id × Option Blk × Option Blk)->List (Id × Option Blk × Option Blk)->Bool
 |[],_=>true
 |(b,_)::r,l=>if inI (go l) b then false else noK r l
where
 go:List (Id × Option Blk × Option Blk)->List Id
  |[]=>[]
  |(b,_)::r=>b::go r
def stbL (tc:List Id)(stb:Id->Option Blk->Prop):List (Id × Option Blk × Option Blk)->Prop
 |[]=>True
 |(b,v0,v1)::r=>(if inI tc b then stb b v0 /\ stb b v1 else True) /\ stbL tc stb r
def mask (acc:List Nat):List Edge->Nat
 |[]=>0
 |e::r=>if Region.binds .any e then mask acc r ||| 2 ^ e.on ||| acc.getD e.on 0 else mask acc r
def befL:List Oper->List Nat->List Nat
 |[],acc=>acc
 |o::r,acc=>befL r (acc++[mask acc o.after.toList])
inductive Reach (ops:Array Oper):Nat->Nat->Prop
 |direct (i:Nat) (o:Oper) (e:Edge) (ho:ops[i]?=some o) (he:e ∈ o.after) (hb:Region.binds .any e=true):Reach ops i e.on
 |step (i j:Nat) (o:Oper) (e:Edge) (ho:ops[i]?=some o) (he:e ∈ o.after) (hb:Region.binds .any e=true) (h:Reach ops e.on j):Reach ops i j
theorem ziH(acc:List Nat)(j:Nat):∀ es:List Edge,(mask acc es).testBit j=true->∃ e ∈ es,Region.binds .any e=true /\ (e.on=j \/ (acc.getD e.on 0).testBit j=true)
 |[],h=>by simp[mask]at h
 |e::r,h=>by
  simp only[mask]at h
  split at h
  ·rename_i hb
   rw[Nat.testBit_or,Nat.testBit_or,Nat.testBit_two_pow]at h
   simp only[Bool.or_eq_true,decide_eq_true_eq]at h
   rcases h with(h|h)|h
   ·obtain⟨e',he',h'⟩:=ziH acc j r h
    exact⟨e',by simp[he'],h'⟩
   ·exact⟨e,by simp,hb,.inl h⟩
   ·exact⟨e,by simp,hb,.inr h⟩
  ·obtain⟨e',he',h'⟩:=ziH acc j r h
   exact⟨e',by simp[he'],h'⟩
theorem zi0(ops:Array Oper):∀(l pre:List Oper) (acc:List Nat),ops.toList=pre++l->acc.length=pre.length->(∀ i j,(acc.getD i 0).testBit j=true->Reach ops i j) ->
  ∀ i j,((befL l acc).getD i 0).testBit j=true->Reach ops i j
 |[],pre,acc,h1,h2,h3=>h3
 |o::r,pre,acc,h1,h2,h3=>by
  refine zi0 ops r (pre++[o]) (acc++[mask acc o.after.toList]) (by simp[h1]) (by simp[h2]) (fun i j h=>?_)
  rcases Nat.lt_trichotomy i acc.length with hi|hi|hi
  ·rw[List.getD_eq_getElem?_getD,List.getElem?_append_left hi,<- List.getD_eq_getElem?_getD]at h
   exact h3 i j h
  ·subst hi
   rw[List.getD_eq_getElem?_getD,List.getElem?_append_right (Nat.le_refl _)]at h
   simp at h
   obtain⟨e,he,hb,h'⟩:=ziH acc j _ h
   have ho:ops[acc.length]?=some o:=by
    rw[<- Array.getElem?_toList,h1,h2,List.getElem?_append_right (Nat.le_refl _)];simp
   rcases h' with h'|h'
   ·subst h';exact .direct _ o e ho (by simpa using he) hb
   ·exact .step _ _ o e ho (by simpa using he) hb (h3 _ _ h')
  ·rw[List.getD_eq_getElem?_getD,List.getElem?_eq_none (by simp;omega)]at h
   simp at h
def ordB (ops:Array Oper)(i j:Nat):Bool:=((befL ops.toList []).getD j 0).testBit i
def cf (ord:Bool)(e f:Lg):Prop:=ord=true \/ (noK e.u f.u=true /\ stbL e.tc e.stb f.u /\ stbL f.tc f.stb e.u)
def cfs1 (ops:Array Oper)(i:Nat)(e:Lg):Nat->List Lg->Prop
 |_,[]=>True
 |j,f::r=>cf (ordB ops i j) e f /\ cfs1 ops i e (j+1) r
def cfs (ops:Array Oper):Nat->List Lg->Prop
 |_,[]=>True
 |i,e::r=>cfs1 ops i e (i+1) r /\ cfs ops (i+1) r
def dchk (ops:Array Oper):Bool:=
 let b:=befL ops.toList []
 (List.range ops.size).all fun i=>
  ((ops.getD i default).after.toList.all fun e=>!Region.binds .any e || decide (e.on < i)) &&
  (List.range ops.size).all fun j=>i == j ||(ops.getD j default).dst.toList.all fun s=>
   !((ops.getD i default).looksAt ops++(ops.getD i default).dst.toList).contains s ||(if j < i then(b.getD i 0).testBit j else(b.getD j 0).testBit i)
def Closed(ops:Array Oper)(S:Nat->Bool):Prop:=∀ i o,ops[i]?=some o->S i=true->∀ e ∈ o.after,Region.binds .any e=true->S e.on=true
theorem Closed.reach{ops:Array Oper}{S:Nat->Bool}(h:Closed ops S){i j:Nat}(hr:Reach ops i j):S i=true->S j=true:=by
 induction hr with
 |direct i o e ho he hb=>exact fun hi=>h i o ho hi e he hb
 |step i j o e ho he hb _ ih=>exact fun hi=>ih (h i o ho hi e he hb)
theorem zfQ{ops:Array Oper}{S:Nat->Bool}(h:Closed ops S){i j:Nat}{o:Oper}(ho:ops[i]?=some o)(hi:∀ e ∈ o.after,Region.binds .any e=true->S e.on=true)(hr:Reach ops i j):S j=true:=by
 cases hr with
 |direct _ o' e ho' he hb=>rw[ho]at ho';cases ho';exact hi e he hb
 |step _ _ o' e ho' he hb hr=>rw[ho]at ho';cases ho';exact h.reach hr (hi e he hb)
structure DChk (ops:Array Oper):Prop where
 down:∀ i o,ops[i]?=some o->∀ e ∈ o.after,Region.binds .any e=true->e.on < i
 pair:∀ i j oi oj,ops[i]?=some oi->ops[j]?=some oj->i ≠ j->∀ s ∈ oj.dst.toList,s ∈ oi.looksAt ops \/ s ∈ oi.dst.toList->(j < i->Reach ops i j) /\ (i < j->Reach ops j i)
theorem zp4{ops:Array Oper}(h:dchk ops=true):DChk ops:=by
 unfold dchk at h
 simp only[List.all_eq_true,List.mem_range,Bool.and_eq_true]at h
 have hg:∀ i o,ops[i]?=some o->i < ops.size /\ ops.getD i default=o:=by
  intro i o ho
  have hi:i < ops.size:=(Array.getElem?_eq_some_iff.1 ho).1
  exact⟨hi,by rw[Array.getD_eq_getD_getElem?,ho];rfl⟩
 have hbef:=zi0 ops ops.toList [] [] rfl rfl (by simp)
 refine⟨fun i o ho e he hb=>?_,fun i j oi oj hi hj hne s hs hl=>?_⟩
 ·obtain⟨h1,h2⟩:=hg i o ho
  have:=(h i h1).1 e (by rw[h2];simpa using he)
  simpa [hb]using this
 ·obtain⟨i1,i2⟩:=hg i oi hi
  obtain⟨j1,j2⟩:=hg j oj hj
  have:=(h i i1).2 j j1
  simp only[Bool.or_eq_true,beq_iff_eq,hne,false_or,List.all_eq_true]at this
  have:=this s (by rw[j2];exact hs)
  rw[i2]at this
  have hc:(oi.looksAt ops++oi.dst.toList).contains s=true:=by
   rw[List.contains_iff_mem,List.mem_append];exact hl
  rw[hc]at this
  simp only[Bool.not_true,Bool.false_eq_true,false_or]at this
  refine⟨fun hlt=>hbef i j ?_,fun hlt=>hbef j i ?_⟩
  ·rwa [if_pos hlt]at this
  ·rwa [if_neg (by omega)]at this
theorem zg4{ops:Array Oper}{i j:Nat}(h:ordB ops i j=true):Reach ops j i:=zi0 ops ops.toList [] [] rfl rfl (by simp) j i h
theorem Reach.lt{ops:Array Oper}(hD:DChk ops){i j:Nat}(h:Reach ops i j):j < i:=by
 induction h with
 |direct i o e ho he hb=>exact hD.down i o ho e he hb
 |step i j o e ho he hb _ ih=>have:=hD.down i o ho e he hb;omega
def zbl(ops:Array Oper)(outs:List AV)(env0:Nat->AV)(S:Nat->Bool):Nat->Nat->AV
 |0=>env0
 |i+1=>if S i then putE (zbl ops outs env0 S i) (ops.getD i default).dst (outs.getD i .bad) else zbl ops outs env0 S i
def hpOf (us:List (List (Id × Option Blk)))(hp0:Id->Option Blk)(S:Nat->Bool):Nat->Id->Option Blk
 |0=>hp0
 |i+1=>if S i then hput (hpOf us hp0 S i) (us.getD i []) else hpOf us hp0 S i
theorem zcZ{env:Nat->AV}{d:Option Nat}{x:AV}{s:Nat}(h:s ∉ d.toList):putE env d x s=env s:=by
 cases d with
 |none=>rfl
 |some d=>simp only[putE];rw[if_neg (by simpa using h)]
theorem ziy{d:Option Nat}{x:AV}{e e':Nat->AV}{s:Nat}(h:s ∉ d.toList->e s=e' s):putE e d x s=putE e' d x s:=by
 cases d with
 |none=>exact h (by simp)
 |some d=>
  simp only[putE]
  split
  ·rfl
  ·rename_i hne;exact h (by simp;exact hne)
def zmU(L:List Nat)(env env':Nat->AV):Prop:=∀ s ∈ L,env s=env' s
def addS (S:Nat->Bool)(i:Nat):Nat->Bool:=fun k=>decide (k=i) || S k
def unl (n:Nat)(S:Nat->Bool):Nat:=((List.range n).filter fun j=>!S j).length
theorem zsH{n:Nat}{S:Nat->Bool}{i:Nat}(hi:i < n)(hS:S i=false):unl n (addS S i) < unl n S:=by
 unfold unl
 have e:(List.range n).filter (fun j=>!addS S i j)=((List.range n).filter fun j=>!S j).filter (fun j=>decide (j ≠ i)):=by
  rw[List.filter_filter]
  congr 1
  funext j
  simp[addS,Bool.and_comm]
 rw[e,List.length_filter_lt_length_iff_exists]
 exact⟨i,by simp[hi,hS],by simp⟩
section
variable {P:Program} {ops:Array Oper}
omit [Globals] in
theorem zhb{listed:Array Bool}{i:Nat}:i ∈ Region.ready .any ops listed ↔ ∃ o,ops[i]?=some o /\ listed.getD i true=false /\ ∀ e ∈ o.after,Region.binds .any e=true->listed.getD e.on false=true:=by
 unfold Region.ready
 rw[List.mem_filter]
 constructor
 ·rintro⟨h1,h2⟩
  rw[List.mem_range]at h1
  refine⟨ops[i],Array.getElem?_eq_getElem h1,?_⟩
  simp only[Bool.and_eq_true,Bool.not_eq_true',Array.getElem?_eq_getElem h1,Option.map_some,Option.getD_some,Array.all_eq_true']at h2
  refine⟨h2.1,fun e he hb=>?_⟩
  have:=h2.2 e he
  simpa [hb]using this
 ·rintro⟨o,ho,h1,h2⟩
  refine⟨List.mem_range.2 (Array.getElem?_eq_some_iff.1 ho).1,?_⟩
  simp only[Bool.and_eq_true,Bool.not_eq_true',ho,Option.map_some,Option.getD_some,Array.all_eq_true']
  refine⟨h1,fun e he=>?_⟩
  cases hb:Region.binds .any e with
  |false=>simp
  |true=>simp[h2 e he hb]
theorem ready_nil{listed:Array Bool}(hsz:listed.size=ops.size)(hD:DChk ops)(h:Region.ready .any ops listed=[]):∀ i,i < ops.size->listed.getD i false=true:=by
 intro i
 induction i using Nat.strongRecOn with
 |_ i ih=>
  intro hi
  cases hl:listed.getD i false with
  |true=>rfl
  |false=>
   have:i ∈ Region.ready .any ops listed:=zhb.2 ⟨ops[i],Array.getElem?_eq_getElem hi,by
    rw[Array.getD_eq_getD_getElem?,Array.getElem?_eq_getElem (by omega)]at hl ⊢;simpa using hl,fun e he hb=>by
    have:=hD.down i ops[i] (Array.getElem?_eq_getElem hi) e he hb
    exact ih e.on this (by omega)⟩
   rw[h]at this;cases this
theorem wpAny_done'{listed:Array Bool}{Q:Exit->Act->World->Prop}{a:Act}{w:World}(hall:∀ i,i < ops.size->listed.getD i true=true)(hQ:Q .normal a w):∀ fuel,wpAny P .any ops Q fuel listed a w:=by
 have hr:Region.ready .any ops listed=[]:=by
  cases h:Region.ready .any ops listed with
  |nil=>rfl
  |cons i r=>
   obtain⟨o,ho,h1,_⟩:=zhb.1 (show i ∈ Region.ready .any ops listed by rw[h];simp)
   have:=hall i (Array.getElem?_eq_some_iff.1 ho).1
   rw[this]at h1;cases h1
 intro fuel
 cases fuel with
 |zero=>exact⟨hr,hQ⟩
 |succ fuel=>exact⟨fun _=>hQ,fun i hi=>by rw[hr]at hi;cases hi⟩
end
section
variable {ops:Array Oper} {outs:List AV} {env0:Nat->AV} {us:List (List (Id × Option Blk))} {hp0:Id->Option Blk}
theorem ziO{i:Nat}{o:Oper}(h:ops[i]?=some o):ops.getD i default=o:=by rw[Array.getD_eq_getD_getElem?,h];rfl
theorem zmI(hD:DChk ops){S:Nat->Bool}(hS:Closed ops S){i:Nat}{o:Oper}(ho:ops[i]?=some o)(hi:S i=false)(hready:∀ e ∈ o.after,Region.binds .any e=true->S e.on=true)
  (m:Nat) (hm:m<=ops.size) (him:i < m):zmU (o.looksAt ops) (zbl ops outs env0 S m) (zbl ops outs env0 (fun _=>true) i):=by
 intro s hs
 have key:∀ k,k<=m->zbl ops outs env0 S k s=zbl ops outs env0 (fun _=>true) (min k i) s:=by
  intro k
  induction k with
  |zero=>intro _;simp[zbl]
  |succ k ih=>
   intro hk
   have ihk:=ih (by omega)
   have hks:k < ops.size:=by omega
   have hok:ops[k]?=some ops[k]:=Array.getElem?_eq_getElem hks
   simp only[zbl]
   by_cases hw:s ∈ ops[k].dst.toList
   ·rcases Nat.lt_trichotomy k i with hlt|heq|hgt
    ·have hr:=(hD.pair i k o ops[k] ho hok (by omega) s hw (.inl hs)).1 hlt
     have hSk:=zfQ hS ho hready hr
     rw[if_pos hSk]
     have e1:min (k+1) i=k+1:=by omega
     have e2:min k i=k:=by omega
     rw[e2]at ihk
     rw[e1]
     simp only[zbl,if_true]
     exact ziy fun _=>ihk
    ·subst heq
     rw[if_neg (by rw[hi];simp),ihk]
     congr 1;omega
    ·have hr:=(hD.pair i k o ops[k] ho hok (by omega) s hw (.inl hs)).2 hgt
     have:S k=false:=by
      cases hSk:S k with
      |false=>rfl
      |true=>have:=hS.reach hr hSk;rw[hi]at this;cases this
     rw[if_neg (by rw[this];simp),ihk]
     congr 1;omega
   ·have e0:(if S k=true then putE (zbl ops outs env0 S k) (ops.getD k default).dst (outs.getD k .bad) else zbl ops outs env0 S k) s=zbl ops outs env0 S k s:=by
     split
     ·first|exact zcZ hw |(rw[ziO hok];exact zcZ hw)
     ·rfl
    rw[e0,ihk]
    rcases Nat.lt_or_ge k i with hlt|hge
    ·have e1:min (k+1) i=k+1:=by omega
     have e2:min k i=k:=by omega
     rw[e1,e2]
     simp only[zbl,if_true]
     rw[ziO hok,zcZ hw]
    ·congr 1;omega
 have:=key m (Nat.le_refl _)
 rw[this]
 congr 1;omega
theorem zpY(hD:DChk ops){S:Nat->Bool}(hS:Closed ops S){i:Nat}{o:Oper}(ho:ops[i]?=some o)(hi:S i=false)(m:Nat)(hm:m<=ops.size)(him:i < m) :
  zbl ops outs env0 (addS S i) m=putE (zbl ops outs env0 S m) o.dst (outs.getD i .bad):=by
 funext s
 have before:∀ k,k<=i->zbl ops outs env0 (addS S i) k=zbl ops outs env0 S k:=by
  intro k
  induction k with
  |zero=>intro _;rfl
  |succ k ih=>
   intro hk
   simp only[zbl,ih (by omega)]
   have:addS S i k=S k:=by simp[addS];omega
   rw[this]
 have key:∀ k,i < k->k<=m->zbl ops outs env0 (addS S i) k s=putE (zbl ops outs env0 S k) o.dst (outs.getD i .bad) s:=by
  intro k
  induction k with
  |zero=>intro h;omega
  |succ k ih=>
   intro hik hk
   have hok:ops[k]?=some ops[k]:=Array.getElem?_eq_getElem (by omega)
   rcases Nat.lt_or_ge i k with hlt|hge
   ·have ihk:=ih hlt (by omega)
    have hSk:addS S i k=S k:=by simp[addS];omega
    simp only[zbl,hSk]
    split
    ·rename_i hSk'
     rw[ziO hok]
     by_cases hw:s ∈ ops[k].dst.toList
     ·by_cases hwo:s ∈ o.dst.toList
      ·have hr:=(hD.pair i k o ops[k] ho hok (by omega) s hw (.inr hwo)).2 hlt
       have:=hS.reach hr hSk'
       rw[hi]at this;cases this
      ·rw[zcZ hwo]
       rw[zcZ hwo]at ihk
       exact ziy fun _=>ihk
     ·rw[zcZ hw,ihk]
      exact ziy fun _=>(zcZ hw).symm
    ·exact ihk
   ·have:k=i:=by omega
    subst this
    have hSk:addS S k k=true:=by simp[addS]
    simp only[zbl,hSk,if_true,hi]
    rw[ziO ho,before k (Nat.le_refl _)]
    simp
 exact key m him (Nat.le_refl _)
def keyed(u:List (Id × Option Blk))(b:Id):Prop:=∃ v,(b,v) ∈ u
theorem zcw{hp:Id->Option Blk}:∀ {u:List (Id × Option Blk)} {b:Id},¬ keyed u b->hput hp u b=hp b
 |[],b,h=>rfl
 |(c,v)::r,b,h=>by
  simp only[hput]
  rw[if_neg (fun e=>h ⟨v,by simp[e]⟩)]
  exact zcw fun⟨v',hv⟩=>h ⟨v',List.mem_cons_of_mem _ hv⟩
theorem zfC{hp hp':Id->Option Blk}:∀ {u:List (Id × Option Blk)} {b:Id},keyed u b->hput hp u b=hput hp' u b
 |[],b,h=>by obtain⟨v,h⟩:=h;cases h
 |(c,v)::r,b,h=>by
  simp only[hput]
  split
  ·rfl
  ·rename_i e
   refine zfC ?_
   obtain⟨v',hv⟩:=h
   rcases List.mem_cons.1 hv with h|h
   ·cases h;exact(e rfl).elim
   ·exact⟨v',h⟩
theorem zhd{hp:Id->Option Blk}{all:List (Id × Option Blk)}:∀ {u:List (Id × Option Blk)} {b:Id},keyed u b->(b,hp b,hput hp all b) ∈ lgU hp all u
 |(c,v)::r,b,h=>by
  obtain⟨v',hv⟩:=h
  rcases List.mem_cons.1 hv with h|h
  ·cases h;exact List.mem_cons_self ..
  ·exact List.mem_cons_of_mem _ (zhd ⟨v',h⟩)
theorem zwa{l:List (Id × Option Blk × Option Blk)}{b:Id}{v:Option Blk × Option Blk}(h:(b,v) ∈ l):b ∈ noK.go l:=by
 induction l with
 |nil=>cases h
 |cons x r ih=>
  obtain⟨c,w⟩:=x
  simp only[noK.go]
  rcases List.mem_cons.1 h with h|h
  ·cases h;exact List.mem_cons_self ..
  ·exact List.mem_cons_of_mem _ (ih h)
theorem zh4:∀ {k l:List (Id × Option Blk × Option Blk)} {b:Id} {v v':Option Blk × Option Blk},noK k l=true->(b,v) ∈ k->(b,v') ∈ l->False
 |(c,w)::r,l,b,v,v',h,h1,h2=>by
  simp only[noK]at h
  split at h
  ·cases h
  ·rename_i hc
   rcases List.mem_cons.1 h1 with h3|h3
   ·cases h3;exact hc (zpJ.2 (zwa h2))
   ·exact zh4 h h3 h2
theorem zil{tc:List Id}{stb:Id->Option Blk->Prop}:∀ {l:List (Id × Option Blk × Option Blk)} {b:Id} {v0 v1:Option Blk},stbL tc stb l->(b,v0,v1) ∈ l->b ∈ tc->stb b v0 /\ stb b v1
 |(c,w0,w1)::r,b,v0,v1,h,h1,h2=>by
  simp only[stbL]at h
  rcases List.mem_cons.1 h1 with h3|h3
  ·cases h3
   have:=h.1
   rwa [if_pos (zpJ.2 h2)]at this
  ·exact zil h.2 h3 h2
structure Prs (ops:Array Oper) (us:List (List (Id × Option Blk))) (hp0:Id->Option Blk) (Ls:List Lg):Prop where
 u:∀ j,(Ls.getD j lg0).u=lgU (hpOf us hp0 (fun _=>true) j) (us.getD j []) (us.getD j [])
 cf:∀ i j,i < j->j < ops.size->cf (ordB ops i j) (Ls.getD i lg0) (Ls.getD j lg0)
section
variable {Ls:List Lg} (hD:DChk ops) (hL:Prs ops us hp0 Ls) {S:Nat->Bool} (hS:Closed ops S) {i:Nat} {o:Oper} (ho:ops[i]?=some o) (hi:S i=false) (hready:∀ e ∈ o.after,Region.binds .any e=true->S e.on=true)
include hD hL hS ho hi hready
theorem zkE{k:Nat}(hk:k < ops.size)(hki:k ≠ i)(h:(k < i /\ S k=false) \/ (i < k /\ S k=true)):(k < i->cf false (Ls.getD k lg0) (Ls.getD i lg0)) /\ (i < k->cf false (Ls.getD i lg0) (Ls.getD k lg0)):=by
 have his:i < ops.size:=(Array.getElem?_eq_some_iff.1 ho).1
 refine⟨fun hlt=>?_,fun hlt=>?_⟩
 ·rcases hL.cf k i hlt his with h1|h1
  ·rcases h with⟨_,h⟩ |⟨h,_⟩
   ·have:=zfQ hS ho hready (zg4 h1);rw[h]at this;cases this
   ·omega
  ·exact .inr h1
 ·rcases hL.cf i k hlt hk with h1|h1
  ·rcases h with⟨h,_⟩ |⟨_,h⟩
   ·omega
   ·have:=hS.reach (zg4 h1) h;rw[hi]at this;cases this
  ·exact .inr h1
theorem zwl{b:Id}(hb:keyed (us.getD i []) b)(m:Nat)(hm:m<=ops.size)(him:i < m):hpOf us hp0 S m b=hpOf us hp0 (fun _=>true) i b:=by
 have hbi:(b,hpOf us hp0 (fun _=>true) i b,hput (hpOf us hp0 (fun _=>true) i) (us.getD i []) b) ∈ (Ls.getD i lg0).u:=by rw[hL.u];exact zhd hb
 have no:∀ k,k < ops.size->k ≠ i->((k < i /\ S k=false) \/ (i < k /\ S k=true))->¬ keyed (us.getD k []) b:=by
  intro k hk hne h hkb
  have hbk:(b,hpOf us hp0 (fun _=>true) k b,hput (hpOf us hp0 (fun _=>true) k) (us.getD k []) b) ∈ (Ls.getD k lg0).u:=by rw[hL.u];exact zhd hkb
  obtain⟨h1,h2⟩:=zkE hD hL hS ho hi hready hk hne h
  rcases Nat.lt_or_ge k i with hlt|hge
  ·rcases h1 hlt with h3 |⟨h3,_⟩
   ·cases h3
   ·exact zh4 h3 hbk hbi
  ·rcases h2 (by omega) with h3 |⟨h3,_⟩
   ·cases h3
   ·exact zh4 h3 hbi hbk
 have key:∀ k,k<=m->hpOf us hp0 S k b=hpOf us hp0 (fun _=>true) (min k i) b:=by
  intro k
  induction k with
  |zero=>intro _;simp[hpOf]
  |succ k ih=>
   intro hk
   have ihk:=ih (by omega)
   simp only[hpOf]
   rcases Nat.lt_trichotomy k i with hlt|heq|hgt
   ·have e1:min (k+1) i=k+1:=by omega
    have e2:min k i=k:=by omega
    rw[e2]at ihk
    rw[e1]
    simp only[hpOf,if_true]
    by_cases hkb:keyed (us.getD k []) b
    ·have hSk:S k=true:=by
      cases hSk:S k with
      |true=>rfl
      |false=>exact(no k (by omega) (by omega) (.inl ⟨hlt,hSk⟩) hkb).elim
     rw[if_pos hSk];exact zfC hkb
    ·rw[zcw hkb]
     split
     ·rw[zcw hkb];exact ihk
     ·exact ihk
   ·subst heq
    rw[if_neg (by rw[hi];simp),ihk]
    congr 1;omega
   ·have e0:(if S k=true then hput (hpOf us hp0 S k) (us.getD k []) else hpOf us hp0 S k) b=hpOf us hp0 S k b:=by
     split
     ·rename_i hSk;exact zcw (no k (by omega) (by omega) (.inr ⟨hgt,hSk⟩))
     ·rfl
    rw[e0,ihk]
    congr 1;omega
 have:=key m (Nat.le_refl _)
 rw[this]
 congr 1;omega
theorem zmF{b:Id}(hb:b ∈ (Ls.getD i lg0).tc)(m:Nat)(hm:m<=ops.size)(him:i < m):hpOf us hp0 S m b=hpOf us hp0 (fun _=>true) i b \/ (Ls.getD i lg0).stb b (hpOf us hp0 S m b):=by
 have st:∀ k,k < ops.size->k ≠ i->((k < i /\ S k=false) \/ (i < k /\ S k=true))->keyed (us.getD k []) b->(Ls.getD i lg0).stb b (hpOf us hp0 (fun _=>true) k b) /\ (Ls.getD i lg0).stb b (hput (hpOf us hp0 (fun _=>true) k) (us.getD k []) b):=by
  intro k hk hne h hkb
  have hbk:(b,hpOf us hp0 (fun _=>true) k b,hput (hpOf us hp0 (fun _=>true) k) (us.getD k []) b) ∈ (Ls.getD k lg0).u:=by rw[hL.u];exact zhd hkb
  obtain⟨h1,h2⟩:=zkE hD hL hS ho hi hready hk hne h
  rcases Nat.lt_or_ge k i with hlt|hge
  ·rcases h1 hlt with h3 |⟨_,_,h3⟩
   ·cases h3
   ·exact zil h3 hbk hb
  ·rcases h2 (by omega) with h3 |⟨_,h3,_⟩
   ·cases h3
   ·exact zil h3 hbk hb
 have key:∀ k,k<=m->hpOf us hp0 S k b=hpOf us hp0 (fun _=>true) (min k i) b \/ (Ls.getD i lg0).stb b (hpOf us hp0 S k b):=by
  intro k
  induction k with
  |zero=>intro _;left;simp[hpOf]
  |succ k ih=>
   intro hk
   have ihk:=ih (by omega)
   simp only[hpOf]
   rcases Nat.lt_trichotomy k i with hlt|heq|hgt
   ·have e1:min (k+1) i=k+1:=by omega
    have e2:min k i=k:=by omega
    rw[e2]at ihk
    rw[e1]
    simp only[hpOf,if_true]
    by_cases hkb:keyed (us.getD k []) b
    ·cases hSk:S k with
     |true=>rw[if_pos rfl];left;exact zfC hkb
     |false=>
      rw[if_neg (by simp)]
      right
      rcases ihk with e|e
      ·rw[e];exact(st k (by omega) (by omega) (.inl ⟨hlt,hSk⟩) hkb).1
      ·exact e
    ·rw[zcw hkb]
     split
     ·rw[zcw hkb];exact ihk
     ·exact ihk
   ·subst heq
    rw[if_neg (by rw[hi];simp)]
    have e1:min (k+1) k=min k k:=by omega
    rw[e1];exact ihk
   ·have e1:min (k+1) i=min k i:=by omega
    rw[e1]
    split
    ·rename_i hSk
     by_cases hkb:keyed (us.getD k []) b
     ·right
      rw[zfC (hp':=hpOf us hp0 (fun _=>true) k) hkb]
      exact(st k (by omega) (by omega) (.inr ⟨hgt,hSk⟩) hkb).2
     ·rw[zcw hkb];exact ihk
    ·exact ihk
 have:=key m (Nat.le_refl _)
 have e1:min m i=i:=by omega
 rw[e1]at this
 exact this
theorem zrz(m:Nat)(hm:m<=ops.size)(him:i < m):hpOf us hp0 (addS S i) m=hput (hpOf us hp0 S m) (us.getD i []):=by
 funext b
 have before:∀ k,k<=i->hpOf us hp0 (addS S i) k=hpOf us hp0 S k:=by
  intro k
  induction k with
  |zero=>intro _;rfl
  |succ k ih=>
   intro hk
   simp only[hpOf,ih (by omega)]
   have:addS S i k=S k:=by simp[addS];omega
   rw[this]
 have key:∀ k,i < k->k<=m->hpOf us hp0 (addS S i) k b=hput (hpOf us hp0 S k) (us.getD i []) b:=by
  intro k
  induction k with
  |zero=>intro h;omega
  |succ k ih=>
   intro hik hk
   rcases Nat.lt_or_ge i k with hlt|hge
   ·have ihk:=ih hlt (by omega)
    have hSk:addS S i k=S k:=by simp[addS];omega
    simp only[hpOf,hSk]
    split
    ·rename_i hSk'
     by_cases hkb:keyed (us.getD k []) b
     ·have hib:¬ keyed (us.getD i []) b:=fun hib=>by
       obtain⟨_,h2⟩:=zkE hD hL hS ho hi hready (k:=k) (by omega) (by omega) (.inr ⟨hlt,hSk'⟩)
       rcases h2 hlt with h3 |⟨h3,_⟩
       ·cases h3
       ·exact zh4 h3 (by rw[hL.u];exact zhd hib) (by rw[hL.u];exact zhd hkb)
      rw[zcw hib];exact zfC hkb
     ·rw[zcw hkb,ihk]
      by_cases hib:keyed (us.getD i []) b
      ·exact zfC hib
      ·rw[zcw hib,zcw hib,zcw hkb]
    ·exact ihk
   ·have:k=i:=by omega
    subst this
    have hSk:addS S k k=true:=by simp[addS]
    simp only[hpOf,hSk,if_true,hi]
    rw[before k (Nat.le_refl _)]
    simp
 exact key m him (Nat.le_refl _)
end
end
end Go.Hw
end
section
namespace Go.Hw
variable [Globals]
open Go.RowKit (Below)
section
variable {P:Program} {g i:Nat} {env env':Nat->AV} {hp hp':Id->Option Blk}
theorem zfj{ev ev':Operand->AV}:∀(ps:List (Nat × Operand)),(∀ p ∈ ps,ev p.2=ev' p.2)->zfL ev ps=zfL ev' ps
 |[],_=>rfl
 |(i,x)::r,h=>by
  have h1:=h (i,x) (by simp)
  simp only at h1
  simp only[zfL,h1,zfj r (fun p hp=>h p (by simp[hp]))]
theorem ziX{ev ev':Operand->AV}:∀(l:List Operand),(∀ x ∈ l,ev x=ev' x)->zjr ev l=zjr ev' l
 |[],_=>rfl
 |x::r,h=>by simp only[zjr,h x (by simp),ziX r (fun y hy=>h y (by simp[hy]))]
theorem zqX{ev ev':Operand->AV}{op:Op}(h:∀ x ∈ op.operands,ev x=ev' x):qval P hp ev op=qval P hp ev' op:=by
 cases op<;>simp only[qval]<;>try rfl
 case move x=>rw[h x (by simp[Op.operands])]
 case assign x=>rw[h x (by simp[Op.operands])]
 case pick c a b=>rw[h c (by simp[Op.operands]),h a (by simp[Op.operands]),h b (by simp[Op.operands])]
 case build t ps=>
  unfold zjH
  rw[zfj ps.toList (ev:=ev) (ev':=ev') fun p hp=>h p.2 (by simp[Op.operands];exact⟨p.1,by simpa using hp⟩)]
 case load t x=>rw[h x (by simp[Op.operands])]
 case nilCheck x=>rw[h x (by simp[Op.operands])]
 case binOp op t x y t'=>rw[h x (by simp[Op.operands]),h y (by simp[Op.operands])]
 case unOp op t x=>rw[h x (by simp[Op.operands])]
 case convert a b x=>rw[h x (by simp[Op.operands])]
 case makeInterface t x=>rw[h x (by simp[Op.operands])]
 case typeAssert x xt t ok=>rw[h x (by simp[Op.operands])]
 case slice t x l hh m=>
  have e:∀ o:Option Operand,(∀ y ∈ o.toArray,ev y=ev' y)->o.map ev=o.map ev':=by
   intro o ho
   cases o with
   |none=>rfl
   |some y=>simp[ho y (by simp)]
  rw[h x (by simp[Op.operands]),e l (fun y hy=>h y (by simp only[Op.operands,Array.mem_append];exact .inl (.inl (.inr hy)))),e hh (fun y hy=>h y (by simp only[Op.operands,Array.mem_append];exact .inl (.inr hy))),
   e m (fun y hy=>h y (by simp only[Op.operands,Array.mem_append];exact .inr hy))]
 case fieldAddr s x f=>rw[h x (by simp[Op.operands])]
 case field s x f=>rw[h x (by simp[Op.operands])]
 case indexAddr t x y=>rw[h x (by simp[Op.operands]),h y (by simp[Op.operands])]
 case index t x y=>rw[h x (by simp[Op.operands]),h y (by simp[Op.operands])]
 case extract t k=>rw[h t (by simp[Op.operands])]
 case lookup t x i ok=>rw[h x (by simp[Op.operands]),h i (by simp[Op.operands])]
 case call c=>
  obtain⟨callee,args,ts⟩:=c
  cases callee<;>simp only
  rw[List.map_congr_left fun x hx=>h x (by simp[Op.operands,Call.operands];simpa using hx)]
theorem zsg{args:Array Operand}(h:∀ x ∈ args,evAV env x=evAV env' x):args.toList.map (evAV env)=args.toList.map (evAV env'):=List.map_congr_left fun x hx=>h x (by simpa using hx)
theorem zpP{op:Op}{K E:AV->List (Id × Option Blk)->Prop}(h:∀ x ∈ op.operands,evAV env x=evAV env' x)(hd:fop P g i op env hp K E):fop P g i op env' hp K E:=by
 have hq:=zqX (P:=P) (hp:=hp) h
 unfold fop at hd ⊢
 split at hd
 ·rename_i n args ts
  rwa [zsg (env:=env) (env':=env') fun x hx=>h x (by simp[Op.operands,Call.operands,hx])]at hd
 ·rename_i t args ts
  have ht:env t=env' t:=h (.tmp t) (by simp[Op.operands,Call.operands])
  rw[zsg (env:=env) (env':=env') fun x hx=>h x (by simp[Op.operands,Call.operands,hx])]at hd
  simp only[<- ht];exact hd
 ·rename_i args ts
  split at hd
  ·rename_i s x t tx hargs hts
   have hm:∀ y ∈ args.toList,evAV env y=evAV env' y:=fun y hy=>h y (by simp[Op.operands,Call.operands];simpa using hy)
   rw[hargs]at hm
   rw[<- hm s (by simp),<- hm x (by simp)]
   exact hd
  ·exact hd.elim
 ·rename_i args ts
  split at hd
  ·rename_i x k t t2 hargs hts
   have hm:∀ y ∈ args.toList,evAV env y=evAV env' y:=fun y hy=>h y (by simp[Op.operands,Call.operands];simpa using hy)
   rw[hargs]at hm
   rw[<- hm x (by simp),<- hm k (by simp)]
   exact hd
  ·exact hd.elim
 ·rename_i t x k v
  rw[<- h x (by simp[Op.operands]),<- h k (by simp[Op.operands]),<- h v (by simp[Op.operands])];exact hd
 ·rename_i t x k v
  rw[<- h x (by simp[Op.operands]),<- h k (by simp[Op.operands]),<- h v (by simp[Op.operands])];exact hd
 ·exact hd
 ·rename_i t x v
  rw[<- h x (by simp[Op.operands]),<- h v (by simp[Op.operands])];exact hd
 ·rename_i t v
  rw[<- h v (by simp[Op.operands])];exact hd
 ·exact hd
 ·rename_i t l c
  rw[<- h l (by simp[Op.operands]),<- h c (by simp[Op.operands])];exact hd
 ·rename_i t len parts
  unfold zhG at hd ⊢
  rwa [zfj parts.toList (ev:=evAV env) (ev':=evAV env') fun p hp=>h p.2 (by simp[Op.operands];exact⟨p.1,by simpa using hp⟩)]at hd
 ·rename_i f first caps
  rwa [ziX caps.toList (ev:=evAV env) (ev':=evAV env') fun x hx=>h x (by simp[Op.operands];exact .inr (by simpa using hx))]at hd
 ·rename_i src dst x
  rw[<- h x (by simp[Op.operands]),<- hq];exact hd
 ·rename_i x
  rw[<- h x (by simp[Op.operands])];exact hd
 ·simp only[hq]at hd
  exact hd
theorem zoc{l:List AC}{b:Id}:b ∈ AV.ids.go l ↔ ∃ x ∈ l,b ∈ x.ids:=by
 induction l with
 |nil=>simp[AV.ids.go]
 |cons x r ih=>simp[AV.ids.go,ih]
theorem zgL{l:List (Id ⊕ CV)}{b:Id}:b ∈ AC.ids.go l ↔ .inl b ∈ l:=by
 induction l with
 |nil=>simp[AC.ids.go]
 |cons x r ih=>cases x<;>simp[AC.ids.go,ih]
theorem zfB{fp:List Id}{b:Id}(h:hp b=hp' b):lent fp hp b=lent fp hp' b:=by simp only[lent,h]
theorem zkG{fp:List Id}{x:AC}(h:∀ b ∈ x.ids,hp b=hp' b):x.toC fp hp=x.toC fp hp' /\ x.bor fp hp=x.bor fp hp':=by
 cases x with
 |ref b off=>have:=zfB (fp:=fp) (h b (by simp[AC.ids]));simp[AC.toC,AC.bor,this]
 |sl b off sz n=>have:=zfB (fp:=fp) (h b (by simp[AC.ids]));simp[AC.toC,AC.bor,this]
 |fn f caps=>
  have e:caps.map (capC fp hp)=caps.map (capC fp hp'):=List.map_congr_left fun c hc=>by
   cases c with
   |inr c=>rfl
   |inl b=>simp only[capC,zfB (fp:=fp) (h b (zgL.2 hc))]
  refine⟨by simp only[AC.toC,e],?_⟩
  simp only[AC.bor,List.flatMap_def]
  congr 1
  exact List.map_congr_left fun c hc=>by
   cases c with
   |inr c=>rfl
   |inl b=>simp only[zfB (fp:=fp) (h b (zgL.2 hc))]
 |_=>exact⟨rfl,rfl⟩
theorem zd1{fp:List Id}{x:AV}(h:∀ b ∈ x.ids,hp b=hp' b):x.toC fp hp=x.toC fp hp' /\ x.bor fp hp=x.bor fp hp':=by
 cases x with
 |cell x=>have:=zkG (fp:=fp) (x:=x) h;exact⟨by simp only[AV.toC,this.1],this.2⟩
 |agg xs=>
  have k:∀ x ∈ xs,x.toC fp hp=x.toC fp hp' /\ x.bor fp hp=x.bor fp hp':=fun x hx=>zkG fun b hb=>h b (zoc.2 ⟨x,hx,hb⟩)
  exact⟨by simp only[AV.toC,List.map_congr_left fun x hx=>(k x hx).1],by simp only[AV.bor,List.flatMap_def,List.map_congr_left fun x hx=>(k x hx).2]⟩
 |_=>exact⟨rfl,rfl⟩
theorem zie{n:Nat}{xs:List AV}{out:AV}{u:List (Id × Option Blk)}(h1:∀ x ∈ xs,∀ b ∈ x.ids,hp b=hp' b)(h2:∀ b,keyed u b->hp b=hp' b)(h:zc6 P g i n xs hp (fun o x=>o=out /\ x=u) (fun _ _=>False)):zc6 P g i n xs hp' (fun o x=>o=out /\ x=u) (fun _ _=>False):=by
 obtain⟨fp,as_,pre,o,post,hAt,⟨h3,h4,h5⟩,hK⟩:=h
 have e1:xs.map (·.toC fp hp)=xs.map (·.toC fp hp'):=List.map_congr_left fun x hx=>(zd1 (h1 x hx)).1
 have e2:xs.flatMap (·.bor fp hp)=xs.flatMap (·.bor fp hp'):=by simp only[List.flatMap_def];congr 1;exact List.map_congr_left fun x hx=>(zd1 (h1 x hx)).2
 have hu:∀ b ∈ fp,keyed u b:=fun b hb=>by
  cases o with
  |pan x=>exact hK.elim
  |ret r=>
   obtain⟨_,rfl⟩:=hK
   obtain⟨v,hv⟩:=zki (post:=post) (f:=AC.back fp (xs.flatMap (·.bor fp hp)) post g i) (s:=0) hb
   exact⟨v,by simp only[zdw,List.mem_append];exact .inl (.inl hv)⟩
 have e3:fp.map (fun b=>(hp b).map (Blk.mp (AC.toF fp)))=fp.map fun b=>(hp' b).map (Blk.mp (AC.toF fp)):=List.map_congr_left fun b hb=>by rw[h2 b (hu b hb)]
 refine⟨fp,as_,pre,o,post,hAt,⟨by rw[<- e1];exact h3,by rw[<- e3];exact h4,h5⟩,?_⟩
 rw[<- e2];exact hK
theorem zm6{t:TypeId}{x:AV}(h:∀ b ∈ x.ids,hp' b=hp b):zeG P hp' t x=zeG P hp t x:=by
 unfold zeG
 split
 ·rename_i b off;rw[h b (by simp[AV.ids,AC.ids])]
 ·rfl
 ·rfl
 ·rfl
theorem zmx{b:Id}(h:(hp' b).isSome=(hp b).isSome):live hp' b=live hp b:=h
theorem zgq{x:AV}{n:Nat}(h:∀ b ∈ x.ids,(hp' b).isSome=(hp b).isSome):zfK hp' x n=zfK hp x n:=by
 unfold zfK
 split
 ·rename_i b off;rw[zmx (h b (by simp[AV.ids,AC.ids]))]
 ·rfl
 ·rfl
 ·rfl
theorem zpG{x:AC}(h:∀ b ∈ x.ids,(hp' b).isSome=(hp b).isSome):lenS hp' x=lenS hp x:=by
 cases x with
 |sl b off sz n=>simp only[lenS];rw[zmx (h b (by simp[AC.ids]))]
 |p c=>cases c<;>rfl
 |_=>rfl
theorem zvQ{x:AC}(h:∀ b ∈ x.ids,hp' b=hp b):rdS hp' x=rdS hp x:=by
 cases x with
 |sl b off sz n=>simp only[rdS];rw[h b (by simp[AC.ids])]
 |p c=>cases c<;>rfl
 |_=>rfl
theorem zsP{tx:TypeId}{sz:Nat}{x:AV}(h:∀ b ∈ x.ids,hp' b=hp b):srcB P hp' tx sz x=srcB P hp tx sz x:=by
 unfold srcB
 split
 ·rfl
 ·rfl
 ·rename_i b off k n _;rw[h b (by simp[AV.ids,AC.ids])]
 ·rfl
 ·rfl
theorem zqY{src dst:TypeId}{x:AV}(h:∀ b ∈ x.ids,hp' b=hp b):zkR P hp' src dst x=zkR P hp src dst x:=by
 unfold zkR
 split
 ·rfl
 ·rfl
 ·rw[zvQ h]
 ·rfl
theorem zpa{t:TypeId}{x:AV}{lo hi mx:Option AV}(h:∀ b ∈ x.ids,(hp' b).isSome=(hp b).isSome):zhs P hp' t x lo hi mx=zhs P hp t x lo hi mx:=by
 unfold zhs
 split
 ·rfl
 ·rw[zpG h]
 ·simp only[zgq h]
 ·rfl
 ·rfl
theorem zka{t:TypeId}{x i:AV}(h:∀ b ∈ x.ids,(hp' b).isSome=(hp b).isSome):zcI P hp' t x i=zcI P hp t x i:=by
 unfold zcI
 simp only[zgq h]
 split
 ·split
  ·split
   ·rfl
   ·rename_i b off sz m _;rw[zmx (h b (by simp[AV.ids,AC.ids]))]
   ·rfl
  ·rfl
  ·rfl
 ·rfl
theorem zkb{s:TypeId}{x:AV}{f:Nat}(h:∀ b ∈ x.ids,(hp' b).isSome=(hp b).isSome):zcJ P hp' s x f=zcJ P hp s x f:=by
 unfold zcJ
 simp only[zgq h]
theorem zmf{b:Builtin}{ts:List TypeId}{xs:List AV}(h:b=.len->∀ x ∈ xs,∀ b ∈ x.ids,(hp' b).isSome=(hp b).isSome):zd4 P hp' b ts xs=zd4 P hp b ts xs:=by
 unfold zd4
 split
 ·split
  ·rfl
  ·rfl
  ·rename_i x _;rw[zpG (h rfl (.cell x) (by simp))]
  ·rfl
 ·rfl
 ·rfl
 ·rfl
theorem znZ{t:TypeId}{x i:AV}{ok:Bool}(h:∀ b ∈ x.ids,hp' b=hp b):zfg P hp' t x i ok=zfg P hp t x i ok:=by
 unfold zfg
 split
 ·split
  ·split
   ·rfl
   ·rename_i b
    rw[h b (by simp[AV.ids,AC.ids])]
   ·rfl
   ·rfl
  ·rfl
 ·rfl
theorem zjM{t:TypeId}{x k v:AV}{K:AV->List (Id × Option Blk)->Prop}(h:∀ b ∈ x.ids,hp' b=hp b):zc3 P t x k v hp' K=zc3 P t x k v hp K:=by
 unfold zc3
 split
 ·rename_i b c _ _
  rw[h b (by simp[AV.ids,AC.ids])]
 ·rfl
theorem zoa{t:TypeId}{x k:AV}{K:AV->List (Id × Option Blk)->Prop}(h:∀ b ∈ x.ids,hp' b=hp b):zei P t x k hp' K=zei P t x k hp K:=by
 unfold zei
 split
 ·rename_i b _
  rw[h b (by simp[AV.ids,AC.ids])]
 ·rfl
theorem zs5{op:Op}{out:AV}(h1:∀ b ∈ tch op env,hp' b=hp b \/ zdZ P op env hp out b (hp' b))(h:qval P hp (evAV env) op=some out):qval P hp' (evAV env) op=some out:=by
 have lv:∀ {x:AV},(∀ b ∈ x.ids,hp' b=hp b \/ ((hp' b).isSome=true /\ (hp b).isSome=true))->∀ b ∈ x.ids,(hp' b).isSome=(hp b).isSome:=fun h b hb=>by
  rcases h b hb with e |⟨e1,e2⟩
  ·rw[e]
  ·rw[e1,e2]
 cases op<;>simp only[qval]at h ⊢<;>try exact h
 case load t x=>
  by_cases hall:∀ b ∈ (evAV env x).ids,hp' b=hp b
  ·rw[zm6 hall];exact h
  ·obtain⟨b,off,hx⟩:∃ b off,evAV env x=.cell (.ref b off):=by
    unfold zeG at h
    split at h
    ·exact⟨_,_,by assumption⟩
    ·rename_i hx;rw[hx]at hall;exact(hall (by simp[AV.ids,AC.ids])).elim
    ·rename_i hx;rw[hx]at hall;exact(hall (by simp[AV.ids,AC.ids])).elim
    ·cases h
   have hb:b ∈ tch (.load t x) env:=by simp[tch,hx,AV.ids,AC.ids]
   rcases h1 b hb with e|e
   ·exact(hall fun b' hb'=>by rw[hx]at hb';simp[AV.ids,AC.ids]at hb';subst hb';exact e).elim
   ·simp only[zdZ]at e
    rw[<- e]
    refine zm6 fun b' hb'=>?_
    rw[hx]at hb';simp[AV.ids,AC.ids]at hb';subst hb';simp
 case nilCheck x=>rw[zgq (lv h1)];exact h
 case fieldAddr s x f=>rw[zkb (lv h1)];exact h
 case indexAddr t x y=>rw[zka (lv h1)];exact h
 case slice t x l hh m=>rw[zpa (lv h1)];exact h
 case lookup t x i ok=>
  rw[znZ fun c hc=>by
   rcases h1 c hc with e|e
   ·exact e
   ·exact e.elim]
  exact h
 case convert a b x=>
  rw[zqY fun c hc=>by
   rcases h1 c hc with e|e
   ·exact e
   ·exact e.elim]
  exact h
 case call c=>
  obtain⟨callee,args',ts⟩:=c
  cases callee<;>simp only at h ⊢<;>try exact h
  rename_i b
  rw[zmf (hp:=hp)]
  ·exact h
  ·rintro rfl x hx c hc
   obtain⟨y,hy,rfl⟩:=List.mem_map.1 hx
   have hm:c ∈ tch (.call { callee:=.builtin .len,args:=args',argTypes:=ts }) env:=by simp only[tch,List.mem_flatMap];exact⟨y,hy,hc⟩
   rcases h1 c hm with e |⟨e1,e2⟩
   ·rw[e]
   ·rw[e1,e2]
theorem zwy{op:Op}{out:AV}{u:List (Id × Option Blk)}(h1:∀ b ∈ tch op env,hp' b=hp b \/ zdZ P op env hp out b (hp' b))(h2:∀ b,keyed u b->hp' b=hp b)(h:fop P g i op env hp (fun o x=>o=out /\ x=u) (fun _ _=>False)) :
  fop P g i op env hp' (fun o x=>o=out /\ x=u) (fun _ _=>False):=by
 have no:(∀ b v,¬ zdZ P op env hp out b v)->∀ b ∈ tch op env,hp b=hp' b:=fun hn b hb=>by
  rcases h1 b hb with e|e
  ·exact e.symm
  ·exact(hn _ _ e).elim
 have args:∀ {args:Array Operand},(∀ b ∈ args.toList.flatMap fun x=>(evAV env x).ids,hp b=hp' b)->∀ x ∈ args.toList.map (evAV env),∀ b ∈ x.ids,hp b=hp' b:=by
  intro args h x hx b hb
  obtain⟨y,hy,rfl⟩:=List.mem_map.1 hx
  exact h b (List.mem_flatMap.2 ⟨y,hy,hb⟩)
 have quiet:(match qval P hp (evAV env) op with|some v=>(v=out /\ ([]:List (Id × Option Blk))=u)|none=>False)->(match qval P hp' (evAV env) op with|some v=>(v=out /\ ([]:List (Id × Option Blk))=u)|none=>False):=fun h=>by
  split at h
  ·rename_i v hv
   obtain⟨rfl,hu⟩:=h
   rw[zs5 h1 hv];exact⟨rfl,hu⟩
  ·exact h.elim
 unfold fop at h ⊢
 split at h
 ·rename_i n as_ ts
  exact zie (args (no fun _ _ h=>h)) (fun b hb=>(h2 b hb).symm) h
 ·rename_i t as_ ts
  have hn:=no fun _ _ h=>h
  have ha:∀ x ∈ as_.toList.map (evAV env),∀ b ∈ x.ids,hp b=hp' b:=args fun b hb=>hn b (by simp only[tch,List.mem_append];exact .inr hb)
  have ht:∀ b ∈ (env t).ids,hp b=hp' b:=fun b hb=>hn b (by simp only[tch,List.mem_append];exact .inl hb)
  unfold zgM at h ⊢
  split at h
  ·exact⟨h.1,zie ha (fun b hb=>(h2 b hb).symm) h.2⟩
  ·rename_i n cs hc
   refine zie (fun x hx=>?_) (fun b hb=>(h2 b hb).symm) h
   rcases List.mem_append.1 hx with hx|hx
   ·exact ha x hx
   ·obtain⟨c,_,rfl⟩:=List.mem_map.1 hx
    intro b hb;cases hb
  ·rename_i n caps hc
   refine zie (fun x hx=>?_) (fun b hb=>(h2 b hb).symm) h
   rcases List.mem_append.1 hx with hx|hx
   ·exact ha x hx
   ·obtain⟨c,hcm,rfl⟩:=List.mem_map.1 hx
    intro b hb
    cases c with
    |inr c=>cases hb
    |inl b'=>
     simp only[zf4,AV.ids,AC.ids,List.mem_singleton]at hb
     subst hb
     exact ht b (by rw[hc];exact zgL.2 hcm)
  ·exact h.elim
 ·rename_i as_ ts
  split at h
  ·rename_i s x t tx hargs hts
   have hn:=no fun _ _ h=>h
   have hm:∀ y ∈ as_.toList,∀ b ∈ (evAV env y).ids,hp b=hp' b:=fun y hy b hb=>hn b (by simp only[tch,List.mem_flatMap];exact⟨y,hy,hb⟩)
   rw[hargs]at hm
   have hs:=hm s (by simp)
   have hx:=hm x (by simp)
   have e1:∀ sz,srcB P hp' tx sz (evAV env x)=srcB P hp tx sz (evAV env x):=fun sz=>zsP fun b hb=>(hx b hb).symm
   unfold zfr at h ⊢
   split at h
   ·split at h
    ·rename_i sz by_ he
     refine⟨h.1,?_⟩
     have h:=h.2
     rw[e1]
     split at h
     ·split at h
      ·rename_i b off sz' n hq
       rw[<- hs b (by rw[hq];simp[AV.ids,AC.ids])];exact h
      ·exact h
      ·exact h.elim
     ·exact h.elim
    ·exact h.elim
   ·exact h.elim
  ·exact h.elim
 ·rename_i as_ ts
  split at h
  ·rename_i x k t t2 hargs hts
   have hn:=no fun _ _ h=>h
   have hm:∀ y ∈ as_.toList,∀ b ∈ (evAV env y).ids,hp b=hp' b:=fun y hy b hb=>hn b (by simp only[tch,List.mem_flatMap];exact⟨y,hy,hb⟩)
   rw[hargs]at hm
   rw[zoa (hp:=hp) fun b hb=>(hm x (by simp) b hb).symm];exact h
  ·exact h.elim
 ·rename_i t x k v
  have hn:=no fun _ _ h=>h
  rw[zjM (hp:=hp) fun b hb=>(hn b hb).symm];exact h
 ·rename_i t x k v
  have hn:=no fun _ _ h=>h
  rw[zjM (hp:=hp) fun b hb=>(hn b hb).symm];exact h
 ·exact h
 ·rename_i t x v
  have hn:=no fun _ _ h=>h
  unfold zhn at h ⊢
  split at h
  ·rename_i b off ys hq hy
   refine⟨h.1,?_⟩
   rw[<- hn b (by simp only[tch,hq];simp[AV.ids,AC.ids])];exact h.2
  ·exact h.elim
 ·exact h
 ·exact h
 ·exact h
 ·exact h
 ·exact h
 ·rename_i src dst x
  split at h
  ·rename_i hsb;rw[if_pos hsb];exact h
  ·rename_i hsb
   rw[if_neg hsb]
   exact quiet h
 ·exact h
 ·exact quiet h
end
theorem zid{P:Program}{g i:Nat}{hp hp':Id->Option Blk}{n:Nat}{xs:List AV}{out:AV}{u:List (Id × Option Blk)}(h1:∀ x ∈ xs,∀ b ∈ x.ids,hp b=hp' b)(h2:∀ b,keyed u b->hp b=hp' b)(h:zc6 P g i n xs hp (fun _ _=>False) (fun o x=>o=out /\ x=u)):zc6 P g i n xs hp' (fun _ _=>False) (fun o x=>o=out /\ x=u):=by
 obtain⟨fp,as_,pre,o,post,hAt,⟨h3,h4,h5⟩,hK⟩:=h
 have e1:xs.map (·.toC fp hp)=xs.map (·.toC fp hp'):=List.map_congr_left fun x hx=>(zd1 (h1 x hx)).1
 have e2:xs.flatMap (·.bor fp hp)=xs.flatMap (·.bor fp hp'):=by simp only[List.flatMap_def];congr 1;exact List.map_congr_left fun x hx=>(zd1 (h1 x hx)).2
 have hu:∀ b ∈ fp,keyed u b:=fun b hb=>by
  cases o with
  |ret x=>exact hK.elim
  |pan r=>
   obtain⟨_,rfl⟩:=hK
   obtain⟨v,hv⟩:=zki (post:=post) (f:=AC.back fp (xs.flatMap (·.bor fp hp)) post g i) (s:=0) hb
   exact⟨v,by simp only[zdw,List.mem_append];exact .inl (.inl hv)⟩
 have e3:fp.map (fun b=>(hp b).map (Blk.mp (AC.toF fp)))=fp.map fun b=>(hp' b).map (Blk.mp (AC.toF fp)):=List.map_congr_left fun b hb=>by rw[h2 b (hu b hb)]
 refine⟨fp,as_,pre,o,post,hAt,⟨by rw[<- e1];exact h3,by rw[<- e3];exact h4,h5⟩,?_⟩
 rw[<- e2];exact hK
theorem ztw{P:Program}{g i:Nat}{env:Nat->AV}{hp hp':Id->Option Blk}{op:Op}{out:AV}{u:List (Id × Option Blk)}(h1:∀ b ∈ tch op env,hp' b=hp b)(h2:∀ b,keyed u b->hp' b=hp b)(h:fop P g i op env hp (fun _ _=>False) (fun o x=>o=out /\ x=u)) :
  fop P g i op env hp' (fun _ _=>False) (fun o x=>o=out /\ x=u):=by
 have args:∀ {args:Array Operand},(∀ b ∈ args.toList.flatMap fun x=>(evAV env x).ids,hp b=hp' b)->∀ x ∈ args.toList.map (evAV env),∀ b ∈ x.ids,hp b=hp' b:=by
  intro args h x hx b hb
  obtain⟨y,hy,rfl⟩:=List.mem_map.1 hx
  exact h b (List.mem_flatMap.2 ⟨y,hy,hb⟩)
 unfold fop at h ⊢
 split at h
 ·exact zid (args fun b hb=>(h1 b hb).symm) (fun b hb=>(h2 b hb).symm) h
 ·rename_i t as_ ts
  have ha:∀ x ∈ as_.toList.map (evAV env),∀ b ∈ x.ids,hp b=hp' b:=args fun b hb=>(h1 b (by simp only[tch,List.mem_append];exact .inr hb)).symm
  have ht:∀ b ∈ (env t).ids,hp b=hp' b:=fun b hb=>(h1 b (by simp only[tch,List.mem_append];exact .inl hb)).symm
  unfold zgM at h ⊢
  split at h
  ·exact⟨h.1,zid ha (fun b hb=>(h2 b hb).symm) h.2⟩
  ·refine zid (fun x hx=>?_) (fun b hb=>(h2 b hb).symm) h
   rcases List.mem_append.1 hx with hx|hx
   ·exact ha x hx
   ·obtain⟨c,_,rfl⟩:=List.mem_map.1 hx
    intro b hb;simp[AV.ids,AC.ids]at hb
  ·rename_i caps he
   refine zid (fun x hx=>?_) (fun b hb=>(h2 b hb).symm) h
   rcases List.mem_append.1 hx with hx|hx
   ·exact ha x hx
   ·obtain⟨c,hc,rfl⟩:=List.mem_map.1 hx
    intro b hb
    cases c with
    |inl b'=>
     simp[zf4,AV.ids,AC.ids]at hb;subst hb
     exact ht _ (by rw[he];simp only[AV.ids,AC.ids];exact zgL.2 hc)
    |inr c=>simp[zf4,AV.ids,AC.ids]at hb
  ·exact h.elim
 all_goals first
  |exact h
  |(exfalso;revert h;simp only[zfr,zei,zc3,zhn,zmu,zhG];repeat' (split))
  |skip
 all_goals simp
end Go.Hw
end
